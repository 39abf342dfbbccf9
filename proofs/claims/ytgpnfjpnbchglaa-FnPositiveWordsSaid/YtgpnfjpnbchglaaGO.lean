/- Words of runs in plain Lean; sums of rows; what is answered for one matrix, for two. -/
import Derived.Test.YtgpnfjpnbchglaaGB
import Derived.Test.YtgpnfjpnbchglaaGI
import Derived.Test.YtgpnfjpnbchglaaRB
import Derived.Test.YtgpnfjpnbchglaaGC
import Derived.Test.YtgpnfjpnbchglaaD
import Derived.Test.YtgpnfjpnbchglaaAL
namespace Go.Proofs.Ytgpnfjpnbchglaa
open Go.RowKit
open Plain (Runs)
set_option linter.unusedVariables false
set_option linter.unusedSimpArgs false
theorem wordL_exact : ∀ (zs : List Int) (i : Nat), (∀ z ∈ zs, 0 ≤ z) → exL ((wordL i zs).map letM) = exL (msB (decide (i % 2 = 0)) zs)
  | [], i, _ => by cases (decide (i % 2 = 0)) <;> rfl
  | z :: zs, i, h => by
    have hz := h z (by simp)
    have ih := wordL_exact zs (i + 1) (fun x hx => h x (by simp [hx]))
    rw [wordL, List.map_append, exL_append, tw_exact, ih]
    have e : ((z.toNat : Nat) : Int) = z := by omega
    rcases (show i % 2 = 0 ∨ i % 2 = 1 by omega) with h0 | h0
    · rw [show decide (i % 2 = 0) = true by simp [h0], show decide ((i + 1) % 2 = 0) = false by simp; omega, if_pos h0, e]
      rfl
    · rw [show decide (i % 2 = 0) = false by simp [h0], show decide ((i + 1) % 2 = 0) = true by simp; omega, if_neg (by omega), e]
      rfl
theorem wordL_mem : ∀ (zs : List Int) (i : Nat), ∀ b ∈ wordL i zs, b = 84 ∨ b = 76
  | [], i, b, hb => by simp [wordL] at hb
  | z :: zs, i, b, hb => by
    rw [wordL, List.mem_append] at hb
    rcases hb with hb | hb
    · have := List.eq_of_mem_replicate hb
      rw [this]; split <;> simp
    · exact wordL_mem zs (i + 1) b hb
theorem wordL_len : ∀ (zs : List Int) (i : Nat), (∀ z ∈ zs, 0 ≤ z) → ((wordL i zs).length : Int) = tot zs
  | [], i, _ => rfl
  | z :: zs, i, h => by
    have hz := h z (by simp)
    have ih := wordL_len zs (i + 1) (fun x hx => h x (by simp [hx]))
    rw [wordL, List.length_append, List.length_replicate, tot]
    omega
theorem lt_pos {b : UInt8} (h : b = 84 ∨ b = 76) : (letM b).pos ∧ (letM b).det = 1 ∧ isT b = true := by
  rcases h with rfl | rfl
  · exact ⟨by unfold M4.pos; decide, by decide, by decide⟩
  · exact ⟨by unfold M4.pos; decide, by decide, by decide⟩
/-- a positive matrix comes back from its word -/
theorem word_back {a b c d : Int} {zs : List Int} (h : Runs true a b c d zs) (hm : isM a b c d = true) (hp : posM a b c d = true) (ht : tot zs ≤ 200) :
    wordV ⟨(wordL 0 zs).toArray⟩ = .tuple #[.agg #[.int .i64 a, .int .i64 b, .int .i64 c, .int .i64 d], .int .i64 0] ∧ ((⟨(wordL 0 zs).toArray⟩ : ByteArray).size : Int) = tot zs := by
  have hO := OkR_nonneg (runs_OkR h hm hp)
  have hl := wordL_len zs 0 hO
  have hsz : (⟨(wordL 0 zs).toArray⟩ : ByteArray).size = (wordL 0 zs).length := by show (wordL 0 zs).toArray.size = _; simp
  refine ⟨?_, by rw [hsz]; exact hl⟩
  unfold wordV
  have hall : (wordL 0 zs).all isT = true := List.all_eq_true.mpr (fun b hb => (lt_pos (wordL_mem zs 0 b hb)).2.2)
  rw [if_pos (by rw [Bool.and_eq_true, decide_eq_true_eq]; exact ⟨hall, by rw [hsz]; omega⟩)]
  have he : exL ((wordL 0 zs).map letM) = ⟨a, b, c, d⟩ := by
    rw [wordL_exact zs 0 hO]; exact runs_exact h
  have h1 := prodL_pos ((wordL 0 zs).map letM) M4.I I_pos (by
    intro m hm'
    obtain ⟨b, hb, rfl⟩ := List.mem_map.mp hm'
    have := lt_pos (wordL_mem zs 0 b hb)
    exact ⟨this.1, this.2.1⟩) (by rw [M4.I_mul, he]; exact (isM_to hm).1)
  show prodV (prodL M4.I ((wordL 0 zs).map letM)) = _
  rw [h1, M4.I_mul, he]; rfl
theorem runsV_zero {zs : List Int} {x0 x1 x2 x3 : Int} (h : runsV zs = .tuple #[.agg #[.int .i64 x0, .int .i64 x1, .int .i64 x2, .int .i64 x3], .int .i64 0]) : OkR zs ∧ prodL M4.I (msR zs) = some ⟨x0, x1, x2, x3⟩ := by
  by_cases hO : OkR zs
  · refine ⟨hO, ?_⟩
    rw [runsV_yes hO] at h
    cases hp : prodL M4.I (msR zs) with
    | none => rw [hp] at h; simp [prodV] at h
    | some X =>
      rw [hp] at h
      simp [prodV, M4.v] at h
      obtain ⟨g0, g1, g2, g3⟩ := h
      rw [M4.eq_of (x := X) (y := ⟨x0, x1, x2, x3⟩) g0 g1 g2 g3]
  · rw [runsV_no hO] at h
    simp at h
theorem tot_drop {zs : List Int} {k : Nat} (hk : k < zs.length) : tot (zs.drop k) = zs.getD k 0 + tot (zs.drop (k + 1)) := by
  rw [List.drop_eq_getElem_cons hk, tot]
  simp [List.getD, hk]
theorem sum_c (v : Value) (B : Nat) (zs : List Int) (w : World) (h : OwnI B w v zs) (hnn : ∀ z ∈ zs, 0 ≤ z) (ht : tot zs ≤ 4000000000) (hl : zs.length ≤ 1000) :
    Calls Try.prog 30 #[v] w fun e w' => e = .returned (.int .i64 (tot zs)) ∧ Below w.heap.size w w' := by
  rcases h with ⟨rfl, p, c, rfl⟩ | ⟨g, c, rfl, hg, hgl, hr, -⟩
  · go_enter Try.func30, Try.ntmps30
    go_wp2
    refine wp_loop_rounds 1 ?_
    rw [rounds_succ]
    go_wp2
    go_returns
    exact ⟨rfl, (by repeat' (first | (with_reducible exact Below.refl _ _) | (with_reducible assumption) | (with_reducible refine below_drewN ?_ _) | (with_reducible refine Below.drew ?_) | (with_reducible refine Below.alloc ?_ ?_ _) | (with_reducible refine Below.setCell ?_ ?_ _) | (with_reducible refine Below.trans ?_ (Below.mono (by with_reducible assumption) ?_)) | go_size | (dsimp only; omega)))⟩
  · obtain ⟨n, hn⟩ : ∃ n, zs.length = n := ⟨_, rfl⟩
    rw [hn] at hl ⊢
    have HL := Lib.hid hn
    have HR := Lib.hid hr
    have HN := Lib.hid hnn
    have hT0 := tot_nonneg hnn
    obtain ⟨T, hT⟩ : ∃ T, tot zs = T := ⟨_, rfl⟩
    rw [hT] at ht hT0 ⊢
    have HT := Lib.hid hT
    clear hn hr hnn hT
    go_enter Try.func30, Try.ntmps30
    go_wp2
    go_loopw [3, 4] (fun va vi wr => ∃ (acc : Int) (k : Nat), va = .int .i64 acc ∧ vi = .int .i64 k ∧ k ≤ n ∧ 0 ≤ acc ∧ acc ≤ T ∧ Hid (acc + tot (zs.drop k) = T) ∧ Below w.heap.size w wr) (fun va vi wr => n - (intOf vi).toNat)
    case atStart => exact ⟨0, 0, rfl, rfl, by omega, by omega, by omega, Lib.hid (by rw [List.drop_zero, HT.out]; omega), (by repeat' (first | (with_reducible exact Below.refl _ _) | (with_reducible assumption) | (with_reducible refine below_drewN ?_ _) | (with_reducible refine Below.drew ?_) | (with_reducible refine Below.alloc ?_ ?_ _) | (with_reducible refine Below.setCell ?_ ?_ _) | (with_reducible refine Below.trans ?_ (Below.mono (by with_reducible assumption) ?_)) | go_size | (dsimp only; omega)))⟩
    case round =>
      obtain ⟨acc, k, rfl, rfl, hk, ha0, ha1, HA, hB⟩ := hrel
      by_cases hlt : k < n
      · have hlt' : (k : Int) < (n : Int) := by omega
        have hkz : k < zs.length := by rw [HL.out]; exact hlt
        have q1 : wr.cell? ⟨g, k, none⟩ = some (.int .i64 (zs.getD k 0)) := by
          rw [hB.cell (p := ⟨g, k, none⟩) hgl]
          have := HR.out k hkz
          simpa using this
        have hd := HA.out
        rw [tot_drop hkz] at hd
        have hz0 : 0 ≤ zs.getD k 0 := by
          have e : zs.getD k 0 = zs[k] := by simp [List.getD, hkz]
          rw [e]; exact HN.out _ (List.getElem_mem hkz)
        have ht2 := drop_nonneg HN.out (k + 1)
        generalize zs.getD k 0 = z at *
        have HD := Lib.hid (show (acc + z) + tot (zs.drop (k + 1)) = T by omega)
        have hb : acc + z ≤ T := by omega
        clear hd ht2 HA
        go_wp2
        go_roundw
        case rel => exact ⟨acc + z, k + 1, rfl, by go_num, by omega, by omega, hb, HD, hB⟩
        case measure => simp [intOf]; omega
      · obtain rfl : k = n := by omega
        have hd := HA.out
        rw [List.drop_eq_nil_iff.mpr (by rw [HL.out]; exact Nat.le_refl _), tot] at hd
        have : acc = T := by omega
        subst this
        clear hd HA
        go_wp2
        go_returns
        exact ⟨rfl, hB⟩
/-- what is answered for one matrix -/
theorem positive_all (p q r t : Int) : ∃ (S : ByteArray) (c1 c2 c3 : Int) (zs : List Int) (pos : Bool),
    Hid (∀ w, Calls Try.prog 18 #[.agg #[.int .i64 p, .int .i64 q, .int .i64 r, .int .i64 t]] w fun e w' => e = .returned (.tuple #[.string S, .int .i64 c1]) ∧ Below w.heap.size w w') ∧
    Hid (∀ w, Calls Try.prog 19 #[.agg #[.int .i64 p, .int .i64 q, .int .i64 r, .int .i64 t]] w fun e w' => e = .returned (.tuple #[.string S, .int .i64 c1]) ∧ Below w.heap.size w w') ∧
    Hid (∀ w, Calls Try.prog 20 #[.agg #[.int .i64 p, .int .i64 q, .int .i64 r, .int .i64 t]] w fun e w' => ∃ v, e = .returned (.tuple #[v, .int .i64 c2]) ∧ OwnI w.heap.size w' v zs ∧ Below w.heap.size w w') ∧
    Hid (∀ w, Calls Try.prog 21 #[.agg #[.int .i64 p, .int .i64 q, .int .i64 r, .int .i64 t]] w fun e w' => ∃ v, e = .returned (.tuple #[v, .int .i64 c2]) ∧ OwnI w.heap.size w' v zs ∧ Below w.heap.size w w') ∧
    Hid (∀ w, Calls Try.prog 22 #[.agg #[.int .i64 p, .int .i64 q, .int .i64 r, .int .i64 t]] w fun e w' => e = .returned (.tuple #[.bool pos, .int .i64 c3]) ∧ Below w.heap.size w w') ∧
    Hid (∀ w, Calls Try.prog 23 #[.agg #[.int .i64 p, .int .i64 q, .int .i64 r, .int .i64 t]] w fun e w' => e = .returned (.tuple #[.bool pos, .int .i64 c3]) ∧ Below w.heap.size w w') ∧
    zs.length ≤ 1000 ∧ (c3 = 0 → (pos = true ↔ c2 = 0)) ∧ (c2 ≠ 0 → zs = []) ∧
    (c2 = 0 → isM p q r t = true ∧ posM p q r t = true ∧ Runs true p q r t zs ∧ S = pwS zs ∧ c1 = pwC zs ∧ (∀ z ∈ zs, 0 ≤ z) ∧ tot zs ≤ 4000000000) := by
  cases h : isM p q r t
  · have hc : posC p q r t = 1 := by simp [posC, h]
    exact ⟨⟨#[]⟩, 1, 1, 1, [], false, Lib.hid (fun w => PositiveWord_no _ _ _ _ _ w hc (by decide)), Lib.hid (fun w => sPositiveWord_no _ _ _ _ _ w hc (by decide)), Lib.hid (fun w => RunsOf_no _ _ _ _ _ w hc (by decide)), Lib.hid (fun w => sRunsOf_no _ _ _ _ _ w hc (by decide)), Lib.hid (fun w => IsPositive_no _ _ _ _ w h), Lib.hid (fun w => sIsPositive_no _ _ _ _ w h), by simp, by omega, fun _ => rfl, by omega⟩
  · cases hp : posM p q r t
    · have hc : posC p q r t = 5 := by simp [posC, h, hp]
      exact ⟨⟨#[]⟩, 5, 5, 0, [], false, Lib.hid (fun w => PositiveWord_no _ _ _ _ _ w hc (by decide)), Lib.hid (fun w => sPositiveWord_no _ _ _ _ _ w hc (by decide)), Lib.hid (fun w => RunsOf_no _ _ _ _ _ w hc (by decide)), Lib.hid (fun w => sRunsOf_no _ _ _ _ _ w hc (by decide)), Lib.hid (fun w => by have := IsPositive_yes p q r t w h; rw [hp] at this; exact this), Lib.hid (fun w => by have := sIsPositive_yes p q r t w h; rw [hp] at this; exact this), by simp, by simp, fun _ => rfl, by omega⟩
    · obtain ⟨h1, h2, h3, h4, h5⟩ := isM_pos h hp
      obtain ⟨zs, hr, hl⟩ := Plain.runs_exists p q r t h1.1 h2.1 h3.1 h4.1 h5
      obtain ⟨hnn, -, htot⟩ := runs_tot hr h1.1 h2.1 h3.1 h4.1 h5
      have hO := runs_OkR hr h hp
      have hl2 : zs.length ≤ 1000 := by have := hO.1; omega
      exact ⟨_, _, 0, 0, zs, true, Lib.hid (fun w => PositiveWord_yes _ _ _ _ zs _ _ w h hp hr (by omega) hnn (by omega) rfl rfl), Lib.hid (fun w => sPositiveWord_yes _ _ _ _ zs _ _ w h hp hr (by omega) hnn (by omega) rfl rfl), Lib.hid (fun w => RunsOf_yes _ _ _ _ _ w h hp hr (by omega)), Lib.hid (fun w => sRunsOf_yes _ _ _ _ _ w h hp hr (by omega)), Lib.hid (fun w => by have := IsPositive_yes p q r t w h; rw [hp] at this; exact this), Lib.hid (fun w => by have := sIsPositive_yes p q r t w h; rw [hp] at this; exact this), hl2, by simp, fun hh => absurd rfl hh, fun _ => ⟨rfl, rfl, hr, rfl, rfl, hnn, by omega⟩⟩
/-- what is answered for two matrices -/
theorem sign_all (p q r t p' q' r' t' : Int) : ∃ (x c : Int),
    Hid (∀ w, Calls Try.prog 28 #[.agg #[.int .i64 p, .int .i64 q, .int .i64 r, .int .i64 t], .agg #[.int .i64 p', .int .i64 q', .int .i64 r', .int .i64 t']] w fun e w' => e = .returned (.tuple #[.int .i64 x, .int .i64 c]) ∧ Below w.heap.size w w') ∧
    Hid (∀ w, Calls Try.prog 29 #[.agg #[.int .i64 p, .int .i64 q, .int .i64 r, .int .i64 t], .agg #[.int .i64 p', .int .i64 q', .int .i64 r', .int .i64 t']] w fun e w' => e = .returned (.tuple #[.int .i64 x, .int .i64 c]) ∧ Below w.heap.size w w') := by
  cases h : (isM p q r t && isM p' q' r' t')
  · exact ⟨_, _, Lib.hid (fun w => SignBetween_no _ _ _ _ _ _ _ _ w h), Lib.hid (fun w => sSignBetween_no _ _ _ _ _ _ _ _ w h)⟩
  · exact ⟨_, _, Lib.hid (fun w => SignBetween_yes _ _ _ _ _ _ _ _ w h), Lib.hid (fun w => sSignBetween_yes _ _ _ _ _ _ _ _ w h)⟩
end Go.Proofs.Ytgpnfjpnbchglaa
