/- Rows of matrices that a call owns; ofWord. -/
import Derived.Test.YtgpnfjpnbchglaaAM
import Derived.Test.YtgpnfjpnbchglaaR
import Derived.Deep.AppendLies
import Derived.Deep.DeepCutAuto
namespace Go.Proofs.Ytgpnfjpnbchglaa
open Go.RowKit
set_option linter.unusedVariables false
set_option linter.unusedSimpArgs false
theorem under_Ms : Try.prog.underlying 60 = some (.slice 25) := by kernel_rfl
theorem info_M : (Try.prog.info? 25).map (fun i => (i.zero, i.size, i.bytes)) = some (some (.agg #[.int .i64 0, .int .i64 0, .int .i64 0, .int .i64 0]), 4, 32) := by kernel_rfl
def M4.cs (m : M4) : List Value := [.int .i64 m.a, .int .i64 m.b, .int .i64 m.c, .int .i64 m.d]
def cells4 (ms : List M4) : List Value := ms.flatMap M4.cs
theorem cells4_snoc (ms : List M4) (m : M4) : cells4 (ms ++ [m]) = cells4 ms ++ m.cs := by simp [cells4]
theorem cells4_len (ms : List M4) : (cells4 ms).length = ms.length * 4 := by
  induction ms with
  | nil => rfl
  | cons m ms ih => simp only [cells4, List.flatMap_cons, List.length_append, List.length_cons] at *; rw [ih]; simp [M4.cs]; omega
theorem cells4_at (ms : List M4) (k : Nat) (m : M4) (h : ms[k]? = some m) : (cells4 ms)[k * 4]? = some (.int .i64 m.a) ∧ (cells4 ms)[k * 4 + 1]? = some (.int .i64 m.b) ∧ (cells4 ms)[k * 4 + 2]? = some (.int .i64 m.c) ∧ (cells4 ms)[k * 4 + 3]? = some (.int .i64 m.d) := by
  induction ms generalizing k with
  | nil => simp at h
  | cons x ms ih =>
    have e : cells4 (x :: ms) = x.cs ++ cells4 ms := rfl
    rw [e]
    cases k with
    | zero => simp at h; subst h; simp [M4.cs]
    | succ k =>
      have h4 : x.cs.length = 4 := rfl
      have := ih k (by simpa using h)
      simp only [List.getElem?_append, h4, show ¬ (k + 1) * 4 < 4 by omega, show ¬ (k + 1) * 4 + 1 < 4 by omega, show ¬ (k + 1) * 4 + 2 < 4 by omega, show ¬ (k + 1) * 4 + 3 < 4 by omega, if_false]
      simpa only [show (k + 1) * 4 - 4 = k * 4 by omega, show (k + 1) * 4 + 1 - 4 = k * 4 + 1 by omega, show (k + 1) * 4 + 2 - 4 = k * 4 + 2 by omega, show (k + 1) * 4 + 3 - 4 = k * 4 + 3 by omega] using this
theorem rowM_own {w : World} {base n : Nat} {e : TypeId} {v : Value} {ms : List M4} (h : w.ownsRow base e 4 v n (cells4 ms)) (hv : v ≠ .slice none 0 0) :
    ∃ g c, v = .slice (some ⟨g, 0, none⟩) n c ∧ ms.length = n ∧ base ≤ g ∧ g < w.heap.size ∧ RowM w g 0 ms := by
  have hc := @World.ownsRow.cells w base e 4 v n _ h
  have hlt := h.lt
  have hlen := h.1
  rw [cells4_len] at hlen
  have hn : ms.length = n := by omega
  rcases h.2 with ⟨h1, h2⟩ | ⟨g, cap, cur, h1, hb, hg, h3, h4, h5, h6⟩
  · exact absurd h1 hv
  · refine ⟨g, cap, h1, hn, hb, (hlt g (by rw [h1]; rfl)).2, ?_⟩
    intro k m hk
    obtain ⟨a0, a1, a2, a3⟩ := cells4_at ms k m hk
    have f0 := hc (g := g) (by rw [h1]; rfl) _ _ a0
    have f1 := hc (g := g) (by rw [h1]; rfl) _ _ a1
    have f2 := hc (g := g) (by rw [h1]; rfl) _ _ a2
    have f3 := hc (g := g) (by rw [h1]; rfl) _ _ a3
    have ad : ∀ j, (⟨g, 0, none⟩ : Addr).add j = ⟨g, 0 + j, none⟩ := by
      intro j; by_cases hj : j = 0
      · subst hj; simp [Addr.add]
      · simp [Addr.add, hj]
    rw [ad] at f0 f1 f2 f3
    exact ⟨f0, f1, f2, f3⟩
theorem own_below2 {w w' : World} {base n size : Nat} {e : TypeId} {v : Value} {xs : List Value} (h : w.ownsRow base e size v n xs) (hb : Below w.heap.size w w') : w'.ownsRow base e size v n xs := by
  have hlt := h.lt
  obtain ⟨h1, h2⟩ := h
  refine ⟨h1, h2.imp id (fun ⟨g, cap, cur, h1, h2, h3, h4⟩ => ⟨g, cap, cur, h1, h2, ?_, h4⟩)⟩
  rw [hb.block g (by have := (hlt g (by rw [h1]; rfl)).2; omega)]; exact h3
theorem letM_ent (b : UInt8) : (letM b).ent = true := by
  unfold letM
  repeat' (split <;> try decide)
set_option maxRecDepth 100000 in
set_option maxHeartbeats 4000000 in
theorem ofWord_c (s : ByteArray) (w : World) (hs : s.size ≤ 200) (hb : ∀ b ∈ s.data.toList, isL b) :
    Calls Try.prog 47 #[.string s] w fun e w' => e = .returned (prodV (prodL M4.I (s.data.toList.map letM))) ∧ Below w.heap.size w w' := by
  obtain ⟨i0, hi, hz0, hz1, hz2⟩ := info_parts info_M
  have hown0 := own_new (w.alloc (Obj.cells #[.int .i64 0, .int .i64 0, .int .i64 0, .int .i64 0] 25)) (w.heap.size + 1) 25 4 (by simp)
  simp only [World.size_alloc] at hown0
  obtain ⟨x0, x1, x2, x3, x4, hv⟩ := prodV_form (prodL M4.I (s.data.toList.map letM))
  rw [hv]
  have HV := Lib.hid hv
  have HB := Lib.hid hb
  clear hv hb
  go_enter Try.func47, Try.ntmps47
  go_wp2
  go_loopw [4, 9] (fun v i wr => ∃ (k : Nat), k ≤ s.size ∧ i = .int .i64 k ∧ v ≠ .slice none 0 0 ∧
      wr.ownsRow (w.heap.size + 1) 25 4 v k (cells4 ((s.data.toList.map letM).take k)) ∧
      wr.cell? ⟨w.heap.size, 0, none⟩ = some (.int .i64 0) ∧ wr.cell? ⟨w.heap.size, 1, none⟩ = some (.int .i64 0) ∧ wr.cell? ⟨w.heap.size, 2, none⟩ = some (.int .i64 0) ∧ wr.cell? ⟨w.heap.size, 3, none⟩ = some (.int .i64 0) ∧
      (∀ i, wr.frozen? ⟨w.heap.size, i, none⟩ = false) ∧ Below w.heap.size w wr ∧ w.heap.size + 1 < wr.heap.size) (fun v i wr => s.size - (intOf i).toNat)
  case atStart => exact ⟨0, Nat.zero_le _, rfl, by simp, by simpa [cells4] using hown0, by go_cell, by go_cell, by go_cell, by go_cell, (by intro i; first | (simp; done) | (go_simp; done)), (by repeat' (first | (with_reducible exact Below.refl _ _) | (with_reducible assumption) | (with_reducible refine below_drewN ?_ _) | (with_reducible refine Below.drew ?_) | (with_reducible refine Below.alloc ?_ ?_ _) | (with_reducible refine Below.setCell ?_ ?_ _) | (with_reducible refine Below.trans ?_ (Below.mono (by with_reducible assumption) ?_)) | go_size | (dsimp only; omega))), by simp⟩
  case round =>
    obtain ⟨k, hk, rfl, hnn, hown, d0, d1, d2, d3, fw, hB, hsz⟩ := hrel
    clear hown0
    by_cases hlt : k < s.size
    · have hlt' : k < s.data.toList.length := by simpa using hlt
      have hel : s.data.toList[k] = s[k] := rfl
      have hL : isL s[k] := HB.out _ (by rw [← hel]; exact List.getElem_mem _)
      have htk : (s.data.toList.map letM).take (k + 1) = (s.data.toList.map letM).take k ++ [letM s[k]] := by
        rw [List.take_succ_eq_append_getElem (by simpa using hlt)]; simp; rfl
      have HL := Lib.hid hL
      have HTK := Lib.hid htk
      have hw : w.heap.size < wr.heap.size := by omega
      clear hL htk hel
      go_wp2_with fail
      refine (letter_c s[k] _ HL.out).mono ?_
      rintro e w2 ⟨rfl, b2⟩
      have hown2 := own_below2 hown b2
      have zzb2 := b2.size; (try simp at zzb2); have zb2_0 : w.heap.size < w2.heap.size := (by omega); have kcb2_0 : ∀ o, w2.cell? ⟨w.heap.size, o, none⟩ = _ := fun o => b2.cell (p := ⟨w.heap.size, o, none⟩) (by go_size); have kfb2_0 : ∀ o, w2.frozen? ⟨w.heap.size, o, none⟩ = _ := fun o => b2.frozen (p := ⟨w.heap.size, o, none⟩) (by go_size); clear zzb2
      have hB2 : Below w.heap.size w w2 := (by repeat' (first | (with_reducible exact Below.refl _ _) | (with_reducible assumption) | (with_reducible refine below_drewN ?_ _) | (with_reducible refine Below.drew ?_) | (with_reducible refine Below.alloc ?_ ?_ _) | (with_reducible refine Below.setCell ?_ ?_ _) | (with_reducible refine Below.trans ?_ (Below.mono (by with_reducible assumption) ?_)) | go_size | (dsimp only; omega)))
      have z2 := b2.size
      generalize hm : letM s[k] = m at *
      simp only [M4.v]
      clear hown hB b2 hm
      go_wp2_with (at_builtin; refine wpList_append_own _ rfl _ _ 60 rfl (w.heap.size + 1) 25 i0 (.agg #[.int .i64 0, .int .i64 0, .int .i64 0, .int .i64 0]) 4 32 under_Ms hi hz0 hz1 hz2 rfl (by decide) _ _ _ rfl (hown2.alloc _) ⟨w2.heap.size, 0, none⟩ 1 1 m.cs rfl rfl (World.news_of_block (cs := #[.int .i64 m.a, .int .i64 m.b, .int .i64 m.c, .int .i64 m.d]) (t := 25) (fr := (0, 0)) (heap_alloc_new w2 _)) (by simp [Value.oneCell', M4.cs]) (by unfold maxLen; omega) (by omega) (by simp; omega) ?_; intro v' w3 hown3 hgrow3 hnil3; obtain ⟨hB3, hs3, fc3, ff3⟩ := app_after hown2 hgrow3 hB2 (by omega) (by omega); have fc := fun o => fc3 w.heap.size o (by omega); have ff := fun o => ff3 w.heap.size o (by omega); have HN := Lib.hid hnil3; clear fc3 ff3 hgrow3 hnil3)
      go_roundw
      case rel => exact ⟨k + 1, by omega, by go_num, (by intro e; exact absurd ((HN.out.mp e).2) (by decide)), (by rw [HTK.out, cells4_snoc]; exact hown3), by rw [fc, kcb2_0]; exact d0, by rw [fc, kcb2_0]; exact d1, by rw [fc, kcb2_0]; exact d2, by rw [fc, kcb2_0]; exact d3, (by intro i; rw [ff, kfb2_0]; exact fw i), hB3, by omega⟩
      case measure => simp [intOf]; omega
    · obtain rfl : k = s.size := by omega
      rw [List.take_of_length_le (by simp)] at hown
      obtain ⟨g, c, rfl, hn, hg0, hg1, hrow⟩ := rowM_own hown hnn
      have HR := Lib.hid hrow
      have HLN := Lib.hid hn
      clear hn hown hnn
      have hen : ∀ m ∈ s.data.toList.map letM, m.ent = true := by
        intro m hm; obtain ⟨b, _, rfl⟩ := List.mem_map.mp hm; exact letM_ent b
      have HEN := Lib.hid hen
      clear hrow hen
      go_wp2_with fail
      refine (product_c g 0 _ c _ _ HLN.out (by omega) hg1 HR.out HEN.out).mono ?_
      rintro e w2 ⟨rfl, b2⟩
      rw [HV.out]
      have zzb2 := b2.size; (try simp at zzb2); have zb2_0 : w.heap.size < w2.heap.size := (by omega); have kcb2_0 : ∀ o, w2.cell? ⟨w.heap.size, o, none⟩ = _ := fun o => b2.cell (p := ⟨w.heap.size, o, none⟩) (by go_size); have kfb2_0 : ∀ o, w2.frozen? ⟨w.heap.size, o, none⟩ = _ := fun o => b2.frozen (p := ⟨w.heap.size, o, none⟩) (by go_size); clear zzb2
      have hB2 : Below w.heap.size w w2 := (by repeat' (first | (with_reducible exact Below.refl _ _) | (with_reducible assumption) | (with_reducible refine below_drewN ?_ _) | (with_reducible refine Below.drew ?_) | (with_reducible refine Below.alloc ?_ ?_ _) | (with_reducible refine Below.setCell ?_ ?_ _) | (with_reducible refine Below.trans ?_ (Below.mono (by with_reducible assumption) ?_)) | go_size | (dsimp only; omega)))
      go_wp2
      exact bodyPost_ret (v := .tuple #[.agg #[.int .i64 x0, .int .i64 x1, .int .i64 x2, .int .i64 x3], .int .i64 x4]) (by simp only [results, Try.results47]; go_simp) rfl ⟨rfl, (by repeat' (first | (with_reducible exact Below.refl _ _) | (with_reducible assumption) | (with_reducible refine below_drewN ?_ _) | (with_reducible refine Below.drew ?_) | (with_reducible refine Below.alloc ?_ ?_ _) | (with_reducible refine Below.setCell ?_ ?_ _) | (with_reducible refine Below.trans ?_ (Below.mono (by with_reducible assumption) ?_)) | go_size | (dsimp only; omega)))⟩
end Go.Proofs.Ytgpnfjpnbchglaa
