/- Laws on fractions, first part. -/
import Derived.Test.YteappinpgmpicaaF
import Derived.Test.YteappinpgmpicaaD
namespace Go.Proofs.Yteappinpgmpicaa
open Go.RowKit
set_option linter.unusedVariables false
set_option linter.unusedSimpArgs false
attribute [local go_sem] run_min_int4 run_max_int4
attribute [local go_sem] run_equalIn_M
attribute [local go_sem] run_equalIn_Q
theorem ediv_ent {p q : Int} (hp : ent p = true) (hq : ent q = true) : (ent (redP p q) && ent (redQ p q)) = true := by
  obtain ⟨p0, p1⟩ := ent_iff.mp hp
  obtain ⟨q0, q1⟩ := ent_iff.mp hq
  have a := tdiv_bd p (Int.gcd p q : Int) 1000000000 p0 p1
  have b := tdiv_bd q (Int.gcd p q : Int) 1000000000 q0 q1
  rw [tdiv_gl] at a
  rw [tdiv_gr] at b
  rw [Bool.and_eq_true]
  constructor
  · apply ent_iff.mpr; unfold redP; split <;> omega
  · apply ent_iff.mpr; unfold redQ; split <;> omega
theorem sIsFraction_c (p q : Int) (w : World) :
    Calls Try.prog 22 #[.agg #[.int .i64 p, .int .i64 q]] w fun e w' => e = .returned (.bool (isF p q)) ∧ Below w.heap.size w w' := by
  go_enter Try.func22, Try.ntmps22
  go_wp2_with fail
  refine (l01Fraction_c _ _ _).mono ?_
  rintro e w1 ⟨rfl, b1⟩
  have zzb1 := b1.size; (try simp at zzb1); have zb1_0 : w.heap.size < w1.heap.size := (by omega); have kcb1_0 : ∀ o, w1.cell? ⟨w.heap.size, o, none⟩ = _ := fun o => b1.cell (p := ⟨w.heap.size, o, none⟩) (by go_size); have kfb1_0 : ∀ o, w1.frozen? ⟨w.heap.size, o, none⟩ = _ := fun o => b1.frozen (p := ⟨w.heap.size, o, none⟩) (by go_size); clear zzb1
  go_wp2
  go_returns
  exact ⟨rfl, (by repeat' (first | (with_reducible exact Below.refl _ _) | (with_reducible assumption) | (with_reducible refine below_drewN ?_ _) | (with_reducible refine Below.drew ?_) | (with_reducible refine Below.alloc ?_ ?_ _) | (with_reducible refine Below.setCell ?_ ?_ _) | (with_reducible refine Below.trans ?_ (Below.mono (by assumption) ?_)) | go_size))⟩
theorem FnExactIsFraction_w (p q : Int) (W : World) :
    Calls Try.prog 7 #[.agg #[.int .i64 p, .int .i64 q]] W fun e w' => e = .returned (.bool true) ∧ Below W.heap.size W w' := by
  go_enter Try.func7, Try.ntmps7
  go_wp2_with fail
  refine (toFraction_c _ _ _).mono ?_
  rintro e w1 ⟨rfl, b1⟩
  have zzb1 := b1.size; (try simp at zzb1); have zb1_0 : W.heap.size < w1.heap.size := (by omega); have kcb1_0 : ∀ o, w1.cell? ⟨W.heap.size, o, none⟩ = _ := fun o => b1.cell (p := ⟨W.heap.size, o, none⟩) (by go_size); have kfb1_0 : ∀ o, w1.frozen? ⟨W.heap.size, o, none⟩ = _ := fun o => b1.frozen (p := ⟨W.heap.size, o, none⟩) (by go_size); clear zzb1
  go_wp2_with fail
  refine (sIsFraction_c _ _ _).mono ?_
  rintro e w2 ⟨rfl, b2⟩
  have zzb2 := b2.size; (try simp at zzb2); have zb2_0 : W.heap.size < w2.heap.size := (by omega); have kcb2_0 : ∀ o, w2.cell? ⟨W.heap.size, o, none⟩ = _ := fun o => b2.cell (p := ⟨W.heap.size, o, none⟩) (by go_size); have kfb2_0 : ∀ o, w2.frozen? ⟨W.heap.size, o, none⟩ = _ := fun o => b2.frozen (p := ⟨W.heap.size, o, none⟩) (by go_size); clear zzb2
  go_wp2_with fail
  refine (toFraction_c _ _ _).mono ?_
  rintro e w3 ⟨rfl, b3⟩
  have zzb3 := b3.size; (try simp at zzb3); have zb3_0 : W.heap.size < w3.heap.size := (by omega); have kcb3_0 : ∀ o, w3.cell? ⟨W.heap.size, o, none⟩ = _ := fun o => b3.cell (p := ⟨W.heap.size, o, none⟩) (by go_size); have kfb3_0 : ∀ o, w3.frozen? ⟨W.heap.size, o, none⟩ = _ := fun o => b3.frozen (p := ⟨W.heap.size, o, none⟩) (by go_size); clear zzb3
  go_wp2_with fail
  refine (IsFraction_c _ _ _).mono ?_
  rintro e w4 ⟨rfl, b4⟩
  have zzb4 := b4.size; (try simp at zzb4); have zb4_0 : W.heap.size < w4.heap.size := (by omega); have kcb4_0 : ∀ o, w4.cell? ⟨W.heap.size, o, none⟩ = _ := fun o => b4.cell (p := ⟨W.heap.size, o, none⟩) (by go_size); have kfb4_0 : ∀ o, w4.frozen? ⟨W.heap.size, o, none⟩ = _ := fun o => b4.frozen (p := ⟨W.heap.size, o, none⟩) (by go_size); clear zzb4
  go_wp2
  go_returns
  exact ⟨rfl, (by repeat' (first | (with_reducible exact Below.refl _ _) | (with_reducible assumption) | (with_reducible refine below_drewN ?_ _) | (with_reducible refine Below.drew ?_) | (with_reducible refine Below.alloc ?_ ?_ _) | (with_reducible refine Below.setCell ?_ ?_ _) | (with_reducible refine Below.trans ?_ (Below.mono (by assumption) ?_)) | go_size))⟩
theorem FractionOf_range (p q : Int) (w : World) (h : (ent p && ent q) = false) :
    Calls Try.prog 39 #[.int .i64 p, .int .i64 q] w fun e w' => e = .returned (.tuple #[.agg #[.int .i64 0, .int .i64 0], .int .i64 2]) ∧ Below w.heap.size w w' := by
  have H := Lib.hid h
  clear h
  go_enter Try.func39, Try.ntmps39
  go_wp2_with fail
  refine (areEntries_2 _ p q _ (by go_cell) (by go_cell)).mono ?_
  rintro e w1 ⟨rfl, rfl⟩
  rw [H.out]
  go_wp2
  go_returns
  exact ⟨rfl, (by repeat' (first | (with_reducible exact Below.refl _ _) | (with_reducible assumption) | (with_reducible refine below_drewN ?_ _) | (with_reducible refine Below.drew ?_) | (with_reducible refine Below.alloc ?_ ?_ _) | (with_reducible refine Below.setCell ?_ ?_ _) | (with_reducible refine Below.trans ?_ (Below.mono (by assumption) ?_)) | go_size))⟩
theorem FractionOf_state (w : World) :
    Calls Try.prog 39 #[.int .i64 0, .int .i64 0] w fun e w' => e = .returned (.tuple #[.agg #[.int .i64 0, .int .i64 0], .int .i64 5]) ∧ Below w.heap.size w w' := by
  go_enter Try.func39, Try.ntmps39
  go_wp2_with fail
  refine (areEntries_2 _ 0 0 _ (by go_cell) (by go_cell)).mono ?_
  rintro e w1 ⟨rfl, rfl⟩
  rw [show (ent 0 && ent 0) = true from by decide]
  go_wp2
  go_returns
  exact ⟨rfl, (by repeat' (first | (with_reducible exact Below.refl _ _) | (with_reducible assumption) | (with_reducible refine below_drewN ?_ _) | (with_reducible refine Below.drew ?_) | (with_reducible refine Below.alloc ?_ ?_ _) | (with_reducible refine Below.setCell ?_ ?_ _) | (with_reducible refine Below.trans ?_ (Below.mono (by assumption) ?_)) | go_size))⟩
theorem FractionOf_yes (p q : Int) (w : World) (h : (ent p && ent q) = true) (hz : ¬ (p = 0 ∧ q = 0)) :
    Calls Try.prog 39 #[.int .i64 p, .int .i64 q] w fun e w' => e = .returned (.tuple #[.agg #[.int .i64 (redP p q), .int .i64 (redQ p q)], .int .i64 0]) ∧ Below w.heap.size w w' := by
  have h' := h
  rw [Bool.and_eq_true] at h'
  have he := ediv_ent h'.1 h'.2
  obtain ⟨p0, p1⟩ := ent_iff.mp h'.1
  obtain ⟨q0, q1⟩ := ent_iff.mp h'.2
  have H := Lib.hid h
  have HE := Lib.hid he
  have HZ := Lib.hid hz
  clear h h' he
  by_cases hp : p = 0
  · have hq : ¬ q = 0 := fun e => hz ⟨hp, e⟩
    have z1 : (q == 0) = false := by simpa using hq
    clear hz
    subst hp
    go_enter Try.func39, Try.ntmps39
    go_wp2_with fail
    refine (areEntries_2 _ 0 q _ (by go_cell) (by go_cell)).mono ?_
    rintro e w1 ⟨rfl, rfl⟩
    rw [H.out]
    go_wp2_with fail
    refine (fraction_yes _ _ _ (by omega) (by omega) (by omega) (by omega) (by omega) HE.out).mono ?_
    rintro e w1 ⟨rfl, b1⟩
    have zzb1 := b1.size; (try simp at zzb1); have zb1_0 : w.heap.size < w1.heap.size := (by omega); have kcb1_0 : ∀ o, w1.cell? ⟨w.heap.size, o, none⟩ = _ := fun o => b1.cell (p := ⟨w.heap.size, o, none⟩) (by go_size); have kfb1_0 : ∀ o, w1.frozen? ⟨w.heap.size, o, none⟩ = _ := fun o => b1.frozen (p := ⟨w.heap.size, o, none⟩) (by go_size); clear zzb1
    go_wp2
    exact bodyPost_ret (v := .tuple #[.agg #[.int .i64 (redP 0 q), .int .i64 (redQ 0 q)], .int .i64 0]) (by simp [results, Try.results39, go_sem, kcb1_0, kfb1_0, zb1_0]) rfl ⟨rfl, (by repeat' (first | (with_reducible exact Below.refl _ _) | (with_reducible assumption) | (with_reducible refine below_drewN ?_ _) | (with_reducible refine Below.drew ?_) | (with_reducible refine Below.alloc ?_ ?_ _) | (with_reducible refine Below.setCell ?_ ?_ _) | (with_reducible refine Below.trans ?_ (Below.mono (by assumption) ?_)) | go_size))⟩
  · have z0 : (p == 0) = false := by simpa using hp
    clear hz
    go_enter Try.func39, Try.ntmps39
    go_wp2_with fail
    refine (areEntries_2 _ p q _ (by go_cell) (by go_cell)).mono ?_
    rintro e w1 ⟨rfl, rfl⟩
    rw [H.out]
    go_wp2_with fail
    refine (fraction_yes _ _ _ (by omega) (by omega) (by omega) (by omega) (by omega) HE.out).mono ?_
    rintro e w1 ⟨rfl, b1⟩
    have zzb1 := b1.size; (try simp at zzb1); have zb1_0 : w.heap.size < w1.heap.size := (by omega); have kcb1_0 : ∀ o, w1.cell? ⟨w.heap.size, o, none⟩ = _ := fun o => b1.cell (p := ⟨w.heap.size, o, none⟩) (by go_size); have kfb1_0 : ∀ o, w1.frozen? ⟨w.heap.size, o, none⟩ = _ := fun o => b1.frozen (p := ⟨w.heap.size, o, none⟩) (by go_size); clear zzb1
    go_wp2
    exact bodyPost_ret (v := .tuple #[.agg #[.int .i64 (redP p q), .int .i64 (redQ p q)], .int .i64 0]) (by simp [results, Try.results39, go_sem, kcb1_0, kfb1_0, zb1_0]) rfl ⟨rfl, (by repeat' (first | (with_reducible exact Below.refl _ _) | (with_reducible assumption) | (with_reducible refine below_drewN ?_ _) | (with_reducible refine Below.drew ?_) | (with_reducible refine Below.alloc ?_ ?_ _) | (with_reducible refine Below.setCell ?_ ?_ _) | (with_reducible refine Below.trans ?_ (Below.mono (by assumption) ?_)) | go_size))⟩
theorem sFractionOf_range (p q : Int) (w : World) (h : (ent p && ent q) = false) :
    Calls Try.prog 38 #[.int .i64 p, .int .i64 q] w fun e w' => e = .returned (.tuple #[.agg #[.int .i64 0, .int .i64 0], .int .i64 2]) ∧ Below w.heap.size w w' := by
  cases h1 : ent p
  · clear h
    go_enter Try.func38, Try.ntmps38
    go_wp2_with fail
    refine (l01Entry_c _ _).mono ?_
    rintro e w1 ⟨rfl, rfl⟩
    go_wp2
    go_returns
    exact ⟨rfl, (by repeat' (first | (with_reducible exact Below.refl _ _) | (with_reducible assumption) | (with_reducible refine below_drewN ?_ _) | (with_reducible refine Below.drew ?_) | (with_reducible refine Below.alloc ?_ ?_ _) | (with_reducible refine Below.setCell ?_ ?_ _) | (with_reducible refine Below.trans ?_ (Below.mono (by assumption) ?_)) | go_size))⟩
  · have h2 : ent q = false := by simpa [h1] using h
    clear h
    go_enter Try.func38, Try.ntmps38
    go_wp2_with fail
    refine (l01Entry_c _ _).mono ?_
    rintro e w1 ⟨rfl, rfl⟩
    go_wp2_with fail
    refine (l01Entry_c _ _).mono ?_
    rintro e w2 ⟨rfl, rfl⟩
    go_wp2
    go_returns
    exact ⟨rfl, (by repeat' (first | (with_reducible exact Below.refl _ _) | (with_reducible assumption) | (with_reducible refine below_drewN ?_ _) | (with_reducible refine Below.drew ?_) | (with_reducible refine Below.alloc ?_ ?_ _) | (with_reducible refine Below.setCell ?_ ?_ _) | (with_reducible refine Below.trans ?_ (Below.mono (by assumption) ?_)) | go_size))⟩
theorem sFractionOf_state (w : World) :
    Calls Try.prog 38 #[.int .i64 0, .int .i64 0] w fun e w' => e = .returned (.tuple #[.agg #[.int .i64 0, .int .i64 0], .int .i64 5]) ∧ Below w.heap.size w w' := by
  have h0 : ent 0 = true := by decide
  go_enter Try.func38, Try.ntmps38
  go_wp2_with fail
  refine (l01Entry_c _ _).mono ?_
  rintro e w1 ⟨rfl, rfl⟩
  go_wp2_with fail
  refine (l01Entry_c _ _).mono ?_
  rintro e w2 ⟨rfl, rfl⟩
  go_wp2
  go_returns
  exact ⟨rfl, (by repeat' (first | (with_reducible exact Below.refl _ _) | (with_reducible assumption) | (with_reducible refine below_drewN ?_ _) | (with_reducible refine Below.drew ?_) | (with_reducible refine Below.alloc ?_ ?_ _) | (with_reducible refine Below.setCell ?_ ?_ _) | (with_reducible refine Below.trans ?_ (Below.mono (by assumption) ?_)) | go_size))⟩
theorem sFractionOf_yes (p q : Int) (w : World) (h : (ent p && ent q) = true) (hz : ¬ (p = 0 ∧ q = 0)) :
    Calls Try.prog 38 #[.int .i64 p, .int .i64 q] w fun e w' => e = .returned (.tuple #[.agg #[.int .i64 (redP p q), .int .i64 (redQ p q)], .int .i64 0]) ∧ Below w.heap.size w w' := by
  rw [Bool.and_eq_true] at h
  obtain ⟨h1, h2⟩ := h
  obtain ⟨p0, p1⟩ := ent_iff.mp h1
  obtain ⟨q0, q1⟩ := ent_iff.mp h2
  have HZ := Lib.hid hz
  by_cases hp : p = 0
  · have hq : ¬ q = 0 := fun e => hz ⟨hp, e⟩
    have z1 : (q == 0) = false := by simpa using hq
    clear hz
    subst hp
    go_enter Try.func38, Try.ntmps38
    go_wp2_with fail
    refine (l01Entry_c _ _).mono ?_
    rintro e w1 ⟨rfl, rfl⟩
    go_wp2_with fail
    refine (l01Entry_c _ _).mono ?_
    rintro e w2 ⟨rfl, rfl⟩
    go_wp2_with fail
    refine (l01Reduced_c _ _ _ (by omega) (by omega) (by omega) (by omega) (by omega)).mono ?_
    rintro e w1 ⟨rfl, b1⟩
    have zzb1 := b1.size; (try simp at zzb1); have zb1_0 : w.heap.size < w1.heap.size := (by omega); have kcb1_0 : ∀ o, w1.cell? ⟨w.heap.size, o, none⟩ = _ := fun o => b1.cell (p := ⟨w.heap.size, o, none⟩) (by go_size); have kfb1_0 : ∀ o, w1.frozen? ⟨w.heap.size, o, none⟩ = _ := fun o => b1.frozen (p := ⟨w.heap.size, o, none⟩) (by go_size); clear zzb1
    go_wp2
    exact bodyPost_ret (v := .tuple #[.agg #[.int .i64 (redP 0 q), .int .i64 (redQ 0 q)], .int .i64 0]) (by simp [results, Try.results38, go_sem, kcb1_0, kfb1_0, zb1_0]) rfl ⟨rfl, (by repeat' (first | (with_reducible exact Below.refl _ _) | (with_reducible assumption) | (with_reducible refine below_drewN ?_ _) | (with_reducible refine Below.drew ?_) | (with_reducible refine Below.alloc ?_ ?_ _) | (with_reducible refine Below.setCell ?_ ?_ _) | (with_reducible refine Below.trans ?_ (Below.mono (by assumption) ?_)) | go_size))⟩
  · have z0 : (p == 0) = false := by simpa using hp
    clear hz
    go_enter Try.func38, Try.ntmps38
    go_wp2_with fail
    refine (l01Entry_c _ _).mono ?_
    rintro e w1 ⟨rfl, rfl⟩
    go_wp2_with fail
    refine (l01Entry_c _ _).mono ?_
    rintro e w2 ⟨rfl, rfl⟩
    go_wp2_with fail
    refine (l01Reduced_c _ _ _ (by omega) (by omega) (by omega) (by omega) (by omega)).mono ?_
    rintro e w1 ⟨rfl, b1⟩
    have zzb1 := b1.size; (try simp at zzb1); have zb1_0 : w.heap.size < w1.heap.size := (by omega); have kcb1_0 : ∀ o, w1.cell? ⟨w.heap.size, o, none⟩ = _ := fun o => b1.cell (p := ⟨w.heap.size, o, none⟩) (by go_size); have kfb1_0 : ∀ o, w1.frozen? ⟨w.heap.size, o, none⟩ = _ := fun o => b1.frozen (p := ⟨w.heap.size, o, none⟩) (by go_size); clear zzb1
    go_wp2
    exact bodyPost_ret (v := .tuple #[.agg #[.int .i64 (redP p q), .int .i64 (redQ p q)], .int .i64 0]) (by simp [results, Try.results38, go_sem, kcb1_0, kfb1_0, zb1_0]) rfl ⟨rfl, (by repeat' (first | (with_reducible exact Below.refl _ _) | (with_reducible assumption) | (with_reducible refine below_drewN ?_ _) | (with_reducible refine Below.drew ?_) | (with_reducible refine Below.alloc ?_ ?_ _) | (with_reducible refine Below.setCell ?_ ?_ _) | (with_reducible refine Below.trans ?_ (Below.mono (by assumption) ?_)) | go_size))⟩
theorem FnExactFractionOf_w (p : Int) (wp : (Lit.int .i64 p).wf = true) (q : Int) (wq : (Lit.int .i64 q).wf = true) (W : World) :
    Calls Try.prog 14 #[.int .i64 p, .int .i64 q] W fun e w' => e = .returned (.bool true) ∧ Below W.heap.size W w' := by
  clear wp wq
  obtain ⟨a, b, c, K1, K2⟩ : ∃ a b c : Int, Hid (∀ w, Calls Try.prog 39 #[.int .i64 p, .int .i64 q] w fun e w' => e = .returned (.tuple #[.agg #[.int .i64 a, .int .i64 b], .int .i64 c]) ∧ Below w.heap.size w w') ∧
      Hid (∀ w, Calls Try.prog 38 #[.int .i64 p, .int .i64 q] w fun e w' => e = .returned (.tuple #[.agg #[.int .i64 a, .int .i64 b], .int .i64 c]) ∧ Below w.heap.size w w') := by
    cases h : (ent p && ent q)
    · exact ⟨_, _, _, fun w => FractionOf_range p q w h, fun w => sFractionOf_range p q w h⟩
    · by_cases hz : p = 0 ∧ q = 0
      · obtain ⟨rfl, rfl⟩ := hz
        exact ⟨_, _, _, fun w => FractionOf_state w, fun w => sFractionOf_state w⟩
      · exact ⟨_, _, _, fun w => FractionOf_yes p q w h hz, fun w => sFractionOf_yes p q w h hz⟩
  go_enter Try.func14, Try.ntmps14
  go_wp2_with fail
  refine (K2.out _).mono ?_
  rintro e w1 ⟨rfl, b1⟩
  have z1 := b1.size
  go_wp2_with fail
  refine (K1.out _).mono ?_
  rintro e w2 ⟨rfl, b2⟩
  have zzb2 := b2.size; (try simp at zzb2); have zb2_0 : w1.heap.size < w2.heap.size := (by omega); have kcb2_0 : ∀ o, w2.cell? ⟨w1.heap.size, o, none⟩ = _ := fun o => b2.cell (p := ⟨w1.heap.size, o, none⟩) (by go_size); have kfb2_0 : ∀ o, w2.frozen? ⟨w1.heap.size, o, none⟩ = _ := fun o => b2.frozen (p := ⟨w1.heap.size, o, none⟩) (by go_size); clear zzb2
  go_wp2_with fail
  refine (eqFraction_same _ _ _).mono ?_
  rintro e w3 ⟨rfl, b3⟩
  have zzb3 := b3.size; (try simp at zzb3); clear zzb3
  go_wp2
  go_returns
  exact ⟨rfl, (by repeat' (first | (with_reducible exact Below.refl _ _) | (with_reducible assumption) | (with_reducible refine below_drewN ?_ _) | (with_reducible refine Below.drew ?_) | (with_reducible refine Below.alloc ?_ ?_ _) | (with_reducible refine Below.setCell ?_ ?_ _) | (with_reducible refine Below.trans ?_ (Below.mono (by assumption) ?_)) | go_size))⟩
end Go.Proofs.Yteappinpgmpicaa
