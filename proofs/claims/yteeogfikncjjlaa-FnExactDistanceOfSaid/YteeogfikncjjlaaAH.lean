/- The continued fraction: the walks, and the law of ContinuedOf. -/
import Derived.Test.YteeogfikncjjlaaAE
import Derived.Test.YteeogfikncjjlaaAF
import Derived.Test.YteeogfikncjjlaaF
import Derived.Deep.RegionHeld3
namespace Go.Proofs.Yteeogfikncjjlaa
open Go.RowKit
open Plain (flo Cont)
set_option linter.unusedVariables false
set_option linter.unusedSimpArgs false
theorem rest_eq2 (a n : Int) (hn : 1 ≤ n) : (a.tmod n + n) % n = a % n := by
  rw [Int.add_emod_right, Int.tmod_eq_emod]
  split
  · simp
  · have : (n.natAbs : Int) = n := by omega
    rw [this, Int.sub_emod_right, Int.emod_emod]
theorem tmod_bd2 (a n : Int) (hn : 1 ≤ n) : -n < a.tmod n ∧ a.tmod n < n := by
  have h1 := Int.emod_nonneg a (show n ≠ 0 by omega)
  have h2 := Int.emod_lt_of_pos a (show 0 < n by omega)
  rw [Int.tmod_eq_emod]
  split
  · omega
  · have : (n.natAbs : Int) = n := by omega
    omega
theorem l01Mod_big (a n : Int) (w : World) (hn0 : 1 ≤ n) (hn1 : n ≤ 1000000000) :
    Calls Try.prog 26 #[.int .i64 a, .int .i64 n] w fun e w' => e = .returned (.int .i64 (a % n)) ∧ w = w' := by
  have nz : (n == 0) = false := by simp; omega
  obtain ⟨b0, b1⟩ := tmod_bd2 a n hn0
  have HR := Lib.hid (rest_eq2 a n hn0)
  go_enter Try.func26, Try.ntmps26
  go_wp2
  all_goals (go_returns; exact ⟨ret_int (by first | exact HR.out | (rw [Int.tmod_eq_emod_of_nonneg (by omega)]; exact HR.out)), rfl⟩)
theorem floor_mod (a b : Int) (hb : 0 < b) : (a - a % b).tdiv b = flo a b := by
  have h1 := Int.mul_ediv_add_emod a b
  have h2 := Int.emod_nonneg a (show b ≠ 0 by omega)
  have h3 := Int.emod_lt_of_pos a hb
  have e : a - a % b = b * (a / b) := by omega
  rw [e, Int.mul_tdiv_cancel_left _ (by omega)]
  exact (Plain.flo_unique_pos hb (by omega) (by omega)).symm
theorem l01Floor_c (a b : Int) (w : World) (hb0 : 0 < b) (hb1 : b ≤ 1000000000) (ha0 : -1000000000 ≤ a) (ha1 : a ≤ 1000000000) :
    Calls Try.prog 23 #[.int .i64 a, .int .i64 b] w fun e w' => e = .returned (.int .i64 (flo a b)) ∧ w = w' := by
  have h2 := Int.emod_nonneg a (show b ≠ 0 by omega)
  have h3 := Int.emod_lt_of_pos a hb0
  have nz : (b == 0) = false := by simp; omega
  have HF := Lib.hid (floor_mod a b hb0)
  obtain ⟨t0, t1⟩ := tdiv_bd2 (a - a % b) b 4000000000 (by omega) (by omega)
  generalize hm : a % b = m at *
  have HM := Lib.hid hm
  clear hm
  go_enter Try.func23, Try.ntmps23
  go_wp2_with (go_at_call 26; refine (l01Mod_big _ _ _ (by omega) (by omega)).mono ?_; rintro e w' ⟨rfl, rfl⟩; rw [HM.out])
  all_goals (go_returns; exact ⟨ret_int (by first | exact HF.out | (rw [← Int.tdiv_eq_ediv_of_nonneg (by omega)]; exact HF.out)), rfl⟩)
theorem own_drew {w : World} {base n size : Nat} {e : TypeId} {v : Value} {xs : List Value} (h : w.ownsRow base e size v n xs) : w.drew.ownsRow base e size v n xs := by
  obtain ⟨h1, h2⟩ := h
  refine ⟨h1, h2.imp id (fun ⟨g, cap, cur, h1, h2, h3, h4⟩ => ⟨g, cap, cur, h1, h2, h3, h4⟩)⟩
set_option maxRecDepth 100000 in
set_option maxHeartbeats 4000000 in
theorem l03Continued_c (p q : Int) (w : World) (zs : List Int) (h : isF p q = true) (hc : Cont p q zs) (hl : zs.length ≤ 1000000001) :
    Calls Try.prog 17 #[.agg #[.int .i64 p, .int .i64 q]] w fun e w' => ∃ v, e = .returned v ∧ OwnI w.heap.size w' v zs ∧ Below w.heap.size w w' := by
  obtain ⟨i0, hi, hz0, hz1, hz2⟩ := info_parts info_i64
  obtain ⟨⟨hp0, hp1⟩, ⟨hq0, hq1⟩, -, -⟩ := isF_iff.mp h
  have hown0 := own_new (w.alloc (Obj.cells #[.int .i64 p, .int .i64 q] 25)) (w.heap.size + 1) 2 1 (by simp)
  simp only [World.size_alloc] at hown0
  have HC := Lib.hid hc
  clear hc h
  go_enter Try.func17, Try.ntmps17
  go_wp2
  go_region_held3 (fun w' => w'.cell? ⟨w.heap.size, 0, none⟩ = some (.int .i64 p) ∧ w'.cell? ⟨w.heap.size, 1, none⟩ = some (.int .i64 q)) (go_keep) (fail)
  generalize hw2 : World.drew _ = w2 at *
  go_wp2
  have hown2 : w2.ownsRow (w.heap.size + 1) 2 1 (.slice (some ⟨w.heap.size + 1, 0, none⟩) 0 0) 0 [] := by subst hw2; exact own_drew hown0
  have hB2 : Below w.heap.size w w2 := by subst hw2; exact (by repeat' (first | (with_reducible exact Below.refl _ _) | (with_reducible assumption) | (with_reducible refine below_drewN ?_ _) | (with_reducible refine Below.drew ?_) | (with_reducible refine Below.alloc ?_ ?_ _) | (with_reducible refine Below.setCell ?_ ?_ _) | (with_reducible refine Below.trans ?_ (Below.mono (by with_reducible assumption) ?_)) | go_size | (dsimp only; omega)))
  have hs2 : w2.heap.size = w.heap.size + 2 := by subst hw2; simp
  clear hw2 hown0
  go_loopw [3, 4, 5] (fun v x y wr => ∃ (a b : Int) (n : Nat) (rest : List Int), x = .int .i64 a ∧ y = .int .i64 b ∧ -1000000000 ≤ a ∧ a ≤ 1000000000 ∧ 0 ≤ b ∧ b ≤ 1000000000 ∧ Hid (Cont a b rest) ∧ n + rest.length = zs.length ∧ Hid (zs.take n ++ rest = zs) ∧
      wr.ownsRow (w.heap.size + 1) 2 1 v n ((zs.take n).map (Value.int .i64)) ∧ Below w.heap.size w wr ∧ w.heap.size + 1 < wr.heap.size) (fun v x y wr => zs.length - lenOf v)
  case atStart => exact ⟨p, q, 0, zs, rfl, rfl, hp0, hp1, hq0, hq1, HC.out, by omega, Lib.hid (by simp), by simpa using hown2, hB2, by omega⟩
  case round =>
    obtain ⟨a, b, n, rest, rfl, rfl, ha0, ha1, hb0, hb1, HC2, hn, HT, hown, hB, hsz⟩ := hrel
    clear hown2
    have hlen := lenOf_row hown
    have HLEN := Lib.hid hlen
    clear hlen
    by_cases hz : b = 0
    · subst hz
      obtain rfl : rest = [] := by
        cases HC2.out
        · rfl
        · exact absurd ‹_› (by omega)
      go_wp2
      have e1 : n = zs.length := hn
      have e2 : (zs.take n) = zs := by simpa using HT.out
      rw [e2, e1] at hown
      exact bodyPost_ret (v := _) (by simp only [results, Try.results17]; go_simp) rfl ⟨_, rfl, OwnI.base (OwnI.of_row hown) (by omega), hB⟩
    · have hz' : (b == 0) = false := by simpa using hz
      have hz'' : decide (0 < b) = true := by simp; omega
      obtain ⟨l, rfl, hc3⟩ : ∃ l, rest = flo a b :: l ∧ Cont b (a - flo a b * b) l := by
        cases HC2.out
        · exact absurd rfl hz
        · exact ⟨_, rfl, ‹_›⟩
      obtain ⟨f0, f1⟩ := flo_bd a b (by omega) (by omega)
      obtain ⟨r0, r1⟩ := Plain.flo_rest a b (by omega)
      generalize hq : flo a b = qq at *
      have HQ := Lib.hid hq
      have HC3 := Lib.hid hc3
      clear hq hc3
      go_wp2_with fail
      refine (l01Floor_c _ _ _ (by omega) (by omega) (by omega) (by omega)).mono ?_
      rintro e w' ⟨rfl, rfl⟩
      rw [HQ.out]
      go_wp2_with (at_builtin; refine wpList_append_own _ rfl _ _ 40 rfl (w.heap.size + 1) 2 i0 (.int .i64 0) 1 8 under_i64s hi hz0 hz1 hz2 rfl (by decide) _ _ _ rfl (hown.alloc _) ⟨wr.heap.size, 0, none⟩ 1 1 [.int .i64 qq] rfl rfl (cell_one_new _ _ _) (fun x hx => by simp at hx; subst hx; rfl) (by unfold maxLen; omega) (by omega) (by simp; omega) ?_; intro v' w3 hown3 hgrow3 hnil3; obtain ⟨hB3, hs3, fc3, ff3⟩ := app_after hown hgrow3 hB (by omega) (by omega); clear fc3 ff3 hgrow3 hnil3)
      go_roundw
      case rel => exact ⟨b, a - qq * b, n + 1, l, rfl, rfl, by omega, by omega, r0, by omega, HC3.out, by simp at hn; omega, own_step1 HT.out, own_step2 HT.out hown3, hB3, by omega⟩
      case measure => (have e1 := lenOf_row hown3; have e2 := HLEN.out; simp at hn; omega)
end Go.Proofs.Yteeogfikncjjlaa
