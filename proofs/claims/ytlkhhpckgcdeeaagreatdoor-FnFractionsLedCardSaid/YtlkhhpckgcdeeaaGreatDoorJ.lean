/- The rests of a matrix. -/
import Derived.Test.YtlkhhpckgcdeeaaGreatDoorI
import Derived.StillTailTactics
namespace Go.Proofs.YtlkhhpckgcdeeaaGreatDoor
open Go.RowKit
set_option linter.unusedVariables false
set_option linter.unusedSimpArgs false
attribute [local go_sem] run_min_int4 run_max_int4
theorem rest_eq (a n : Int) (hn : 1 ≤ n) : (a.tmod n + n) % n = a % n := by
  rw [Int.add_emod_right, Int.tmod_eq_emod]
  split
  · simp
  · have : (n.natAbs : Int) = n := by omega
    rw [this, Int.sub_emod_right, Int.emod_emod]
theorem tmod_bd (a n : Int) (hn : 1 ≤ n) : -n < a.tmod n ∧ a.tmod n < n := by
  have h1 := Int.emod_nonneg a (show n ≠ 0 by omega)
  have h2 := Int.emod_lt_of_pos a (show 0 < n by omega)
  rw [Int.tmod_eq_emod]
  split
  · omega
  · have : (n.natAbs : Int) = n := by omega
    omega
theorem rest_c (a n : Int) (w : World) (hn0 : 1 ≤ n) (hn1 : n ≤ 1000000) :
    Calls Tryz.prog 124 #[.int .i64 a, .int .i64 n] w fun e w' => e = .returned (.int .i64 (a % n)) ∧ w = w' := by
  have nz : (n == 0) = false := by simp; omega
  obtain ⟨b0, b1⟩ := tmod_bd a n hn0
  have HR := Lib.hid (rest_eq a n hn0)
  go_enter Tryz.func124, Tryz.ntmps124
  go_wp2
  all_goals (go_returns; exact ⟨ret_int (by first | exact HR.out | (rw [Int.tmod_eq_emod_of_nonneg (by omega)]; exact HR.out)), rfl⟩)
theorem l01Mod_c (a n : Int) (w : World) (hn0 : 1 ≤ n) (hn1 : n ≤ 1000000) :
    Calls Tryz.prog 94 #[.int .i64 a, .int .i64 n] w fun e w' => e = .returned (.int .i64 (a % n)) ∧ w = w' := by
  have nz : (n == 0) = false := by simp; omega
  obtain ⟨b0, b1⟩ := tmod_bd a n hn0
  have HR := Lib.hid (rest_eq a n hn0)
  go_enter Tryz.func94, Tryz.ntmps94
  go_wp2
  all_goals (go_returns; exact ⟨ret_int (by first | exact HR.out | (rw [Int.tmod_eq_emod_of_nonneg (by omega)]; exact HR.out)), rfl⟩)
/-- what a row of the call's own is -/
theorem own_row {w : World} {base : Nat} {e : TypeId} {v : Value} {zs : List Int} (h : w.ownsRow base e 1 v zs.length (zs.map (Value.int .i64))) :
    (v = .slice none 0 0 ∧ zs = []) ∨ ∃ g cap, v = .slice (some ⟨g, 0, none⟩) zs.length cap ∧ base ≤ g ∧ g < w.heap.size ∧ RowI w g 0 zs ∧ ∀ i, w.frozen? ⟨g, i, none⟩ = false := by
  have hc := @World.ownsRow.cells w base e 1 v zs.length _ h
  have hlt := h.lt
  rcases h.2 with ⟨h1, h2⟩ | ⟨g, cap, cur, hv, hb, hg, h3, h4, h5, h6⟩
  · exact .inl ⟨h1, List.length_eq_zero_iff.mp h2⟩
  · refine .inr ⟨g, cap, hv, hb, (hlt g (by rw [hv]; rfl)).2, ?_, ?_⟩
    · intro k hk
      have := hc (g := g) (by rw [hv]; rfl) k (.int .i64 (zs.getD k 0)) (by simp [List.getElem?_eq_getElem hk, List.getD])
      by_cases hk0 : k = 0
      · subst hk0; simpa [Addr.add] using this
      · simpa [Addr.add, hk0] using this
    · intro i; simp [World.frozen?, hg]
theorem owns_4 {w : World} {base b : Nat} {e : TypeId} {a0 a1 a2 a3 : Value} (hb : base ≤ b) (hw : b = w.heap.size) : (w.alloc (Obj.cells #[a0, a1, a2, a3] e)).ownsRow base e 1 (.slice (some ⟨b, 0, none⟩) 4 4) 4 [a0, a1, a2, a3] := by
  subst hw
  refine ⟨rfl, .inr ⟨w.heap.size, 4, #[a0, a1, a2, a3], rfl, hb, heap_alloc_new w _, Nat.le_refl _, by decide, rfl, rfl⟩⟩
set_option maxRecDepth 100000 in
set_option maxHeartbeats 1000000 in
theorem sRestsOf_yes (p q r s n : Int) (w : World) (h : isM p q r s = true) (hn0 : 1 ≤ n) (hn1 : n ≤ 1000000) :
    Calls Tryz.prog 26 #[.agg #[.int .i64 p, .int .i64 q, .int .i64 r, .int .i64 s], .int .i64 n] w fun e w' => ∃ v, e = .returned (.tuple #[v, .int .i64 0]) ∧ w'.ownsRow w.heap.size 2 1 v 4 ([p % n, q % n, r % n, s % n].map (Value.int .i64)) ∧ Below w.heap.size w w' := by
  have hr : (decide (1 ≤ n) && decide (n ≤ 1000000)) = true := by simp; omega
  have HR := Lib.hid hr
  clear hr
  go_enter Tryz.func26, Tryz.ntmps26
  go_wp2_with fail
  refine (l01Is_c _ _ _ _ _).mono ?_
  rintro e w1 ⟨rfl, b1⟩
  have zzb1 := b1.size; (try simp at zzb1); have zb1_0 : w.heap.size < w1.heap.size := (by omega); have kcb1_0 : ∀ o, w1.cell? ⟨w.heap.size, o, none⟩ = _ := fun o => b1.cell (p := ⟨w.heap.size, o, none⟩) (by go_size); have kfb1_0 : ∀ o, w1.frozen? ⟨w.heap.size, o, none⟩ = _ := fun o => b1.frozen (p := ⟨w.heap.size, o, none⟩) (by go_size); clear zzb1
  go_wp2_with fail
  refine (l01In_c _ _ _ _).mono ?_
  rintro e w2 ⟨rfl, rfl⟩
  rw [HR.out]
  go_wp2_with fail
  go_still_tail 16, (by kernel_rfl)
  still_call ((l01Mod_c p n _ hn0 hn1).mono (fun e w' h => ⟨h.1, h.2.symm⟩))
  repeat still_step
  still_call ((l01Mod_c q n _ hn0 hn1).mono (fun e w' h => ⟨h.1, h.2.symm⟩))
  repeat still_step
  still_call ((l01Mod_c r n _ hn0 hn1).mono (fun e w' h => ⟨h.1, h.2.symm⟩))
  repeat still_step
  still_call ((l01Mod_c s n _ hn0 hn1).mono (fun e w' h => ⟨h.1, h.2.symm⟩))
  repeat still_step
  refine wpStill_nil ?_
  change wpList _ _ _ _ _ w1.drew
  generalize hw2 : w1.drew = w2
  have b2 : Below w1.heap.size w1 w2 := by subst hw2; exact Below.drew (Below.refl _ _)
  have z2 : w2.heap.size = w1.heap.size := by subst hw2; rfl
  clear hw2
  go_wp2
  exact bodyPost_ret (v := .tuple #[.slice (some ⟨w1.heap.size, 0, none⟩) 4 4, .int .i64 0]) (by simp only [results, Tryz.results26]; go_simp) rfl ⟨_, rfl, owns_4 (by omega) z2.symm, (by repeat' (first | (with_reducible exact Below.refl _ _) | (with_reducible assumption) | (with_reducible refine below_drewN ?_ _) | (with_reducible refine Below.drew ?_) | (with_reducible refine Below.alloc ?_ ?_ _) | (with_reducible refine Below.setCell ?_ ?_ _) | (with_reducible refine Below.trans ?_ (Below.mono (by with_reducible assumption) ?_)) | go_size | (dsimp only; omega)))⟩
theorem under_ints : Tryz.prog.underlying 48 = some (.slice 2) := by kernel_rfl
theorem info_int : (Tryz.prog.info? 2).map (fun i => (i.zero, i.size, i.bytes)) = some (some (.int .i64 0), 1, 8) := by kernel_rfl
set_option maxHeartbeats 1000000 in
theorem rests_c (p q r s n : Int) (w : World) (hn0 : 1 ≤ n) (hn1 : n ≤ 1000000) :
    Calls Tryz.prog 92 #[.agg #[.int .i64 p, .int .i64 q, .int .i64 r, .int .i64 s], .int .i64 n] w fun e w' => ∃ v, e = .returned v ∧ w'.ownsRow w.heap.size 2 1 v 4 ([p % n, q % n, r % n, s % n].map (Value.int .i64)) ∧ Below w.heap.size w w' := by
  obtain ⟨i0, hi, hz0, hz1, hz2⟩ := info_parts info_int
  have hown0 : ((w.alloc (Obj.cells #[.int .i64 p, .int .i64 q, .int .i64 r, .int .i64 s] 25)).alloc (Obj.cells #[] 2)).ownsRow (w.heap.size + 1) 2 1 (.slice (some ⟨w.heap.size + 1, 0, none⟩) 0 0) 0 [] := by
    have := World.ownsRow_made (base := w.heap.size + 1) (e := 2) (size := 1) (w.alloc (Obj.cells #[.int .i64 p, .int .i64 q, .int .i64 r, .int .i64 s] 25)) #[] 0 (by simp) (by decide) rfl
    simpa using this
  have j0 : ∀ w, (Instr.index 25 (.agg #[.int .i64 p, .int .i64 q, .int .i64 r, .int .i64 s]) (.int .i64 0)).run Tryz.prog w = .ok (.int .i64 p) w := fun _ => by kernel_rfl
  have j1 : ∀ w, (Instr.index 25 (.agg #[.int .i64 p, .int .i64 q, .int .i64 r, .int .i64 s]) (.int .i64 1)).run Tryz.prog w = .ok (.int .i64 q) w := fun _ => by kernel_rfl
  have j2 : ∀ w, (Instr.index 25 (.agg #[.int .i64 p, .int .i64 q, .int .i64 r, .int .i64 s]) (.int .i64 2)).run Tryz.prog w = .ok (.int .i64 r) w := fun _ => by kernel_rfl
  have j3 : ∀ w, (Instr.index 25 (.agg #[.int .i64 p, .int .i64 q, .int .i64 r, .int .i64 s]) (.int .i64 3)).run Tryz.prog w = .ok (.int .i64 s) w := fun _ => by kernel_rfl
  go_enter Tryz.func92, Tryz.ntmps92
  go_wp2
  go_loopw [5, 10] (fun v i wr => ∃ k : Nat, k ≤ 4 ∧ i = .int .i64 k ∧ wr.ownsRow (w.heap.size + 1) 2 1 v k (([p % n, q % n, r % n, s % n].take k).map (Value.int .i64)) ∧ Below w.heap.size w wr ∧ w.heap.size + 1 < wr.heap.size) (fun v i wr => 4 - (intOf i).toNat)
  case atStart => exact ⟨0, by omega, rfl, hown0, (by repeat' (first | (with_reducible exact Below.refl _ _) | (with_reducible assumption) | (with_reducible refine below_drewN ?_ _) | (with_reducible refine Below.drew ?_) | (with_reducible refine Below.alloc ?_ ?_ _) | (with_reducible refine Below.setCell ?_ ?_ _) | (with_reducible refine Below.trans ?_ (Below.mono (by with_reducible assumption) ?_)) | go_size | (dsimp only; omega))), by simp⟩
  case round =>
    obtain ⟨k, hk, rfl, hown, hB, hsz⟩ := hrel
    clear hown0
    have h5 : k = 0 ∨ k = 1 ∨ k = 2 ∨ k = 3 ∨ k = 4 := by omega
    rcases h5 with rfl | rfl | rfl | rfl | rfl
    · go_wp2_with (first | (go_at_call 124; refine (rest_c _ _ _ hn0 hn1).mono ?_; rintro e w' ⟨rfl, rfl⟩) | (at_builtin; refine wpList_append_own _ rfl _ _ 48 rfl (w.heap.size + 1) 2 i0 (.int .i64 0) 1 8 under_ints hi hz0 hz1 hz2 rfl (by decide) _ _ _ rfl (hown.alloc _) ⟨wr.heap.size, 0, none⟩ 1 1 [.int .i64 (p % n)] rfl rfl (cell_one_new _ _ _) (fun x hx => by simp at hx; subst hx; rfl) (by unfold maxLen; omega) (by omega) (by simp; omega) ?_; intro v' w3 hown' hgrow3 hnil3; have hB3 : Below w.heap.size w w3 := Below.grown (Below.alloc hB (by omega) _) hgrow3 (by simp; omega) (fun k hk => by have := hown.lt k hk; omega); have hs3 : w.heap.size + 1 < w3.heap.size := Nat.lt_of_lt_of_le (by simp; omega) hgrow3.size))
      exact ⟨⟨1, by omega, rfl, by simpa using hown', hB3, hs3⟩, by simp [intOf]⟩
    · go_wp2_with (first | (go_at_call 124; refine (rest_c _ _ _ hn0 hn1).mono ?_; rintro e w' ⟨rfl, rfl⟩) | (at_builtin; refine wpList_append_own _ rfl _ _ 48 rfl (w.heap.size + 1) 2 i0 (.int .i64 0) 1 8 under_ints hi hz0 hz1 hz2 rfl (by decide) _ _ _ rfl (hown.alloc _) ⟨wr.heap.size, 0, none⟩ 1 1 [.int .i64 (q % n)] rfl rfl (cell_one_new _ _ _) (fun x hx => by simp at hx; subst hx; rfl) (by unfold maxLen; omega) (by omega) (by simp; omega) ?_; intro v' w3 hown' hgrow3 hnil3; have hB3 : Below w.heap.size w w3 := Below.grown (Below.alloc hB (by omega) _) hgrow3 (by simp; omega) (fun k hk => by have := hown.lt k hk; omega); have hs3 : w.heap.size + 1 < w3.heap.size := Nat.lt_of_lt_of_le (by simp; omega) hgrow3.size))
      exact ⟨⟨2, by omega, rfl, by simpa using hown', hB3, hs3⟩, by simp [intOf]⟩
    · go_wp2_with (first | (go_at_call 124; refine (rest_c _ _ _ hn0 hn1).mono ?_; rintro e w' ⟨rfl, rfl⟩) | (at_builtin; refine wpList_append_own _ rfl _ _ 48 rfl (w.heap.size + 1) 2 i0 (.int .i64 0) 1 8 under_ints hi hz0 hz1 hz2 rfl (by decide) _ _ _ rfl (hown.alloc _) ⟨wr.heap.size, 0, none⟩ 1 1 [.int .i64 (r % n)] rfl rfl (cell_one_new _ _ _) (fun x hx => by simp at hx; subst hx; rfl) (by unfold maxLen; omega) (by omega) (by simp; omega) ?_; intro v' w3 hown' hgrow3 hnil3; have hB3 : Below w.heap.size w w3 := Below.grown (Below.alloc hB (by omega) _) hgrow3 (by simp; omega) (fun k hk => by have := hown.lt k hk; omega); have hs3 : w.heap.size + 1 < w3.heap.size := Nat.lt_of_lt_of_le (by simp; omega) hgrow3.size))
      exact ⟨⟨3, by omega, rfl, by simpa using hown', hB3, hs3⟩, by simp [intOf]⟩
    · go_wp2_with (first | (go_at_call 124; refine (rest_c _ _ _ hn0 hn1).mono ?_; rintro e w' ⟨rfl, rfl⟩) | (at_builtin; refine wpList_append_own _ rfl _ _ 48 rfl (w.heap.size + 1) 2 i0 (.int .i64 0) 1 8 under_ints hi hz0 hz1 hz2 rfl (by decide) _ _ _ rfl (hown.alloc _) ⟨wr.heap.size, 0, none⟩ 1 1 [.int .i64 (s % n)] rfl rfl (cell_one_new _ _ _) (fun x hx => by simp at hx; subst hx; rfl) (by unfold maxLen; omega) (by omega) (by simp; omega) ?_; intro v' w3 hown' hgrow3 hnil3; have hB3 : Below w.heap.size w w3 := Below.grown (Below.alloc hB (by omega) _) hgrow3 (by simp; omega) (fun k hk => by have := hown.lt k hk; omega); have hs3 : w.heap.size + 1 < w3.heap.size := Nat.lt_of_lt_of_le (by simp; omega) hgrow3.size))
      exact ⟨⟨4, by omega, rfl, by simpa using hown', hB3, hs3⟩, by simp [intOf]⟩
    · go_wp2
      exact bodyPost_ret (v := u5) (by simp only [results, Tryz.results92]; go_simp) rfl ⟨_, rfl, ⟨hown.1, hown.2.imp id (fun ⟨g, cap, cur, h1, h2, h3⟩ => ⟨g, cap, cur, h1, by omega, h3⟩)⟩, (by repeat' (first | (with_reducible exact Below.refl _ _) | (with_reducible assumption) | (with_reducible refine below_drewN ?_ _) | (with_reducible refine Below.drew ?_) | (with_reducible refine Below.alloc ?_ ?_ _) | (with_reducible refine Below.setCell ?_ ?_ _) | (with_reducible refine Below.trans ?_ (Below.mono (by with_reducible assumption) ?_)) | go_size | (dsimp only; omega)))⟩
theorem RestsOf_yes (p q r s n : Int) (w : World) (h : isM p q r s = true) (hn0 : 1 ≤ n) (hn1 : n ≤ 1000000) :
    Calls Tryz.prog 25 #[.agg #[.int .i64 p, .int .i64 q, .int .i64 r, .int .i64 s], .int .i64 n] w fun e w' => ∃ v, e = .returned (.tuple #[v, .int .i64 0]) ∧ w'.ownsRow w.heap.size 2 1 v 4 ([p % n, q % n, r % n, s % n].map (Value.int .i64)) ∧ Below w.heap.size w w' := by
  have hr : (decide (1 ≤ n) && decide (n ≤ 1000000)) = true := by simp; omega
  have HR := Lib.hid hr
  clear hr
  go_enter Tryz.func25, Tryz.ntmps25
  go_wp2_with fail
  refine (IsMatrix_c _ _ _ _ _).mono ?_
  rintro e w1 ⟨rfl, b1⟩
  have zzb1 := b1.size; (try simp at zzb1); have zb1_0 : w.heap.size < w1.heap.size := (by omega); have kcb1_0 : ∀ o, w1.cell? ⟨w.heap.size, o, none⟩ = _ := fun o => b1.cell (p := ⟨w.heap.size, o, none⟩) (by go_size); have kfb1_0 : ∀ o, w1.frozen? ⟨w.heap.size, o, none⟩ = _ := fun o => b1.frozen (p := ⟨w.heap.size, o, none⟩) (by go_size); clear zzb1
  go_wp2_with fail
  refine (within_c _ _ _ _).mono ?_
  rintro e w2 ⟨rfl, rfl⟩
  rw [HR.out]
  go_wp2_with fail
  refine (rests_c p q r s n _ hn0 hn1).mono ?_
  rintro e w3 ⟨v, rfl, hv, b3⟩
  go_wp2
  exact bodyPost_ret (v := .tuple #[v, .int .i64 0]) (by simp only [results, Tryz.results25]; go_simp) rfl ⟨_, rfl, ⟨hv.1, hv.2.imp id (fun ⟨g, cap, cur, h1, h2, h3⟩ => ⟨g, cap, cur, h1, by omega, h3⟩)⟩, (by repeat' (first | (with_reducible exact Below.refl _ _) | (with_reducible assumption) | (with_reducible refine below_drewN ?_ _) | (with_reducible refine Below.drew ?_) | (with_reducible refine Below.alloc ?_ ?_ _) | (with_reducible refine Below.setCell ?_ ?_ _) | (with_reducible refine Below.trans ?_ (Below.mono (by with_reducible assumption) ?_)) | go_size | (dsimp only; omega)))⟩
theorem RestsOf_no (p q r s n : Int) (w : World) (h : isM p q r s = false) :
    Calls Tryz.prog 25 #[.agg #[.int .i64 p, .int .i64 q, .int .i64 r, .int .i64 s], .int .i64 n] w fun e w' => e = .returned (.tuple #[.slice none 0 0, .int .i64 1]) ∧ Below w.heap.size w w' := by
  go_enter Tryz.func25, Tryz.ntmps25
  go_wp2_with fail
  refine (IsMatrix_c _ _ _ _ _).mono ?_
  rintro e w1 ⟨rfl, b1⟩
  have zzb1 := b1.size; (try simp at zzb1); have zb1_0 : w.heap.size < w1.heap.size := (by omega); have kcb1_0 : ∀ o, w1.cell? ⟨w.heap.size, o, none⟩ = _ := fun o => b1.cell (p := ⟨w.heap.size, o, none⟩) (by go_size); have kfb1_0 : ∀ o, w1.frozen? ⟨w.heap.size, o, none⟩ = _ := fun o => b1.frozen (p := ⟨w.heap.size, o, none⟩) (by go_size); clear zzb1
  go_wp2
  go_returns
  exact ⟨rfl, (by repeat' (first | (with_reducible exact Below.refl _ _) | (with_reducible assumption) | (with_reducible refine below_drewN ?_ _) | (with_reducible refine Below.drew ?_) | (with_reducible refine Below.alloc ?_ ?_ _) | (with_reducible refine Below.setCell ?_ ?_ _) | (with_reducible refine Below.trans ?_ (Below.mono (by with_reducible assumption) ?_)) | go_size | (dsimp only; omega)))⟩
theorem RestsOf_range (p q r s n : Int) (w : World) (h : isM p q r s = true) (hr : (decide (1 ≤ n) && decide (n ≤ 1000000)) = false) :
    Calls Tryz.prog 25 #[.agg #[.int .i64 p, .int .i64 q, .int .i64 r, .int .i64 s], .int .i64 n] w fun e w' => e = .returned (.tuple #[.slice none 0 0, .int .i64 2]) ∧ Below w.heap.size w w' := by
  have HR := Lib.hid hr
  clear hr
  go_enter Tryz.func25, Tryz.ntmps25
  go_wp2_with fail
  refine (IsMatrix_c _ _ _ _ _).mono ?_
  rintro e w1 ⟨rfl, b1⟩
  have zzb1 := b1.size; (try simp at zzb1); have zb1_0 : w.heap.size < w1.heap.size := (by omega); have kcb1_0 : ∀ o, w1.cell? ⟨w.heap.size, o, none⟩ = _ := fun o => b1.cell (p := ⟨w.heap.size, o, none⟩) (by go_size); have kfb1_0 : ∀ o, w1.frozen? ⟨w.heap.size, o, none⟩ = _ := fun o => b1.frozen (p := ⟨w.heap.size, o, none⟩) (by go_size); clear zzb1
  go_wp2_with fail
  refine (within_c _ _ _ _).mono ?_
  rintro e w2 ⟨rfl, rfl⟩
  rw [HR.out]
  go_wp2
  go_returns
  exact ⟨rfl, (by repeat' (first | (with_reducible exact Below.refl _ _) | (with_reducible assumption) | (with_reducible refine below_drewN ?_ _) | (with_reducible refine Below.drew ?_) | (with_reducible refine Below.alloc ?_ ?_ _) | (with_reducible refine Below.setCell ?_ ?_ _) | (with_reducible refine Below.trans ?_ (Below.mono (by with_reducible assumption) ?_)) | go_size | (dsimp only; omega)))⟩
theorem sRestsOf_range (p q r s n : Int) (w : World) (h : isM p q r s = true) (hr : (decide (1 ≤ n) && decide (n ≤ 1000000)) = false) :
    Calls Tryz.prog 26 #[.agg #[.int .i64 p, .int .i64 q, .int .i64 r, .int .i64 s], .int .i64 n] w fun e w' => e = .returned (.tuple #[.slice none 0 0, .int .i64 2]) ∧ Below w.heap.size w w' := by
  have HR := Lib.hid hr
  clear hr
  go_enter Tryz.func26, Tryz.ntmps26
  go_wp2_with fail
  refine (l01Is_c _ _ _ _ _).mono ?_
  rintro e w1 ⟨rfl, b1⟩
  have zzb1 := b1.size; (try simp at zzb1); have zb1_0 : w.heap.size < w1.heap.size := (by omega); have kcb1_0 : ∀ o, w1.cell? ⟨w.heap.size, o, none⟩ = _ := fun o => b1.cell (p := ⟨w.heap.size, o, none⟩) (by go_size); have kfb1_0 : ∀ o, w1.frozen? ⟨w.heap.size, o, none⟩ = _ := fun o => b1.frozen (p := ⟨w.heap.size, o, none⟩) (by go_size); clear zzb1
  go_wp2_with fail
  refine (l01In_c _ _ _ _).mono ?_
  rintro e w2 ⟨rfl, rfl⟩
  rw [HR.out]
  go_wp2
  go_returns
  exact ⟨rfl, (by repeat' (first | (with_reducible exact Below.refl _ _) | (with_reducible assumption) | (with_reducible refine below_drewN ?_ _) | (with_reducible refine Below.drew ?_) | (with_reducible refine Below.alloc ?_ ?_ _) | (with_reducible refine Below.setCell ?_ ?_ _) | (with_reducible refine Below.trans ?_ (Below.mono (by with_reducible assumption) ?_)) | go_size | (dsimp only; omega)))⟩
theorem sRestsOf_no (p q r s n : Int) (w : World) (h : isM p q r s = false) :
    Calls Tryz.prog 26 #[.agg #[.int .i64 p, .int .i64 q, .int .i64 r, .int .i64 s], .int .i64 n] w fun e w' => e = .returned (.tuple #[.slice none 0 0, .int .i64 1]) ∧ Below w.heap.size w w' := by
  go_enter Tryz.func26, Tryz.ntmps26
  go_wp2_with fail
  refine (l01Is_c _ _ _ _ _).mono ?_
  rintro e w1 ⟨rfl, b1⟩
  have zzb1 := b1.size; (try simp at zzb1); have zb1_0 : w.heap.size < w1.heap.size := (by omega); have kcb1_0 : ∀ o, w1.cell? ⟨w.heap.size, o, none⟩ = _ := fun o => b1.cell (p := ⟨w.heap.size, o, none⟩) (by go_size); have kfb1_0 : ∀ o, w1.frozen? ⟨w.heap.size, o, none⟩ = _ := fun o => b1.frozen (p := ⟨w.heap.size, o, none⟩) (by go_size); clear zzb1
  go_wp2
  go_returns
  exact ⟨rfl, (by repeat' (first | (with_reducible exact Below.refl _ _) | (with_reducible assumption) | (with_reducible refine below_drewN ?_ _) | (with_reducible refine Below.drew ?_) | (with_reducible refine Below.alloc ?_ ?_ _) | (with_reducible refine Below.setCell ?_ ?_ _) | (with_reducible refine Below.trans ?_ (Below.mono (by with_reducible assumption) ?_)) | go_size | (dsimp only; omega)))⟩
end Go.Proofs.YtlkhhpckgcdeeaaGreatDoor
