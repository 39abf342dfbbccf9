/- DistanceOf: the program's function. -/
import Derived.Test.YteeogfikncjjlaaDD
namespace Go.Proofs.Yteeogfikncjjlaa
open Go.RowKit
open Plain
set_option linter.unusedVariables false
set_option linter.unusedSimpArgs false
attribute [local go_sem] run_min_int4 run_max_int4
/-- all four numbers are small enough -/
def farOk (p q x y : Int) : Bool := decide (-10000 ≤ p) && decide (p ≤ 10000) && decide (q ≤ 10000) && decide (-10000 ≤ x) && decide (x ≤ 10000) && decide (y ≤ 10000)
theorem farOk_iff {p q x y : Int} : farOk p q x y = true ↔ (-10000 ≤ p ∧ p ≤ 10000) ∧ q ≤ 10000 ∧ (-10000 ≤ x ∧ x ≤ 10000) ∧ y ≤ 10000 := by
  simp only [farOk, Bool.and_eq_true, decide_eq_true_eq]; omega
theorem size_b (n : Int) (w : World) (h0 : -4611686018427387904 ≤ n) (h1 : n ≤ 4611686018427387904) :
    Calls Try.prog 13 #[.int .i64 n] w fun e w' => e = .returned (.int .i64 (max n (-n))) ∧ Below w.heap.size w w' :=
  (size_c n w h0 h1).mono (fun e w' ⟨he, hw⟩ => ⟨he, hw ▸ Below.refl _ _⟩)
theorem DistanceOf_no (p q x y : Int) (w : World) (h : (isF p q && isF x y) = false) :
    Calls Try.prog 6 #[.agg #[.int .i64 p, .int .i64 q], .agg #[.int .i64 x, .int .i64 y]] w fun e w' => e = .returned (.tuple #[.int .i64 0, .int .i64 1]) ∧ Below w.heap.size w w' := by
  have H := Lib.hid h
  clear h
  go_enter Try.func6, Try.ntmps6
  go_wp2_with fail
  refine (areFractions_2 _ p q x y _ (by go_cell) (by go_cell) (by go_cell) (by go_cell)).mono ?_
  rintro e w1 ⟨rfl, b1⟩
  rw [H.out]
  have zzb1 := b1.size; (try simp at zzb1); have zb1_0 : w.heap.size < w1.heap.size := (by omega); have kcb1_0 : ∀ o, w1.cell? ⟨w.heap.size, o, none⟩ = _ := fun o => b1.cell (p := ⟨w.heap.size, o, none⟩) (by go_size); have kfb1_0 : ∀ o, w1.frozen? ⟨w.heap.size, o, none⟩ = _ := fun o => b1.frozen (p := ⟨w.heap.size, o, none⟩) (by go_size); have zb1_1 : w.heap.size + 1 < w1.heap.size := (by omega); have kcb1_1 : ∀ o, w1.cell? ⟨w.heap.size + 1, o, none⟩ = _ := fun o => b1.cell (p := ⟨w.heap.size + 1, o, none⟩) (by go_size); have kfb1_1 : ∀ o, w1.frozen? ⟨w.heap.size + 1, o, none⟩ = _ := fun o => b1.frozen (p := ⟨w.heap.size + 1, o, none⟩) (by go_size); clear zzb1
  go_wp2
  go_returns
  exact ⟨rfl, (by repeat' (first | (with_reducible exact Below.refl _ _) | (with_reducible assumption) | (with_reducible refine below_drewN ?_ _) | (with_reducible refine Below.drew ?_) | (with_reducible refine Below.alloc ?_ ?_ _) | (with_reducible refine Below.setCell ?_ ?_ _) | (with_reducible refine Below.trans ?_ (Below.mono (by with_reducible assumption) ?_)) | go_size | (dsimp only; omega)))⟩
theorem DistanceOf_limit (p q x y : Int) (w : World) (h : (isF p q && isF x y) = true) (hf : farOk p q x y = false) :
    Calls Try.prog 6 #[.agg #[.int .i64 p, .int .i64 q], .agg #[.int .i64 x, .int .i64 y]] w fun e w' => e = .returned (.tuple #[.int .i64 0, .int .i64 3]) ∧ Below w.heap.size w w' := by
  have h' := h
  rw [Bool.and_eq_true] at h'
  obtain ⟨⟨p0, p1⟩, ⟨q0, q1⟩, -, -⟩ := isF_iff.mp h'.1
  obtain ⟨⟨x0, x1⟩, ⟨y0, y1⟩, -, -⟩ := isF_iff.mp h'.2
  have hm : decide (10000 < max (max (max (max p (-p)) q) (max x (-x))) y) = true := by
    rw [decide_eq_true_eq]
    apply Int.not_le.mp; intro hle
    have : farOk p q x y = true := farOk_iff.mpr (by omega)
    rw [this] at hf; cases hf
  have H := Lib.hid h
  have HM := Lib.hid hm
  clear h h' hf hm
  go_enter Try.func6, Try.ntmps6
  go_wp2_with fail
  refine (areFractions_2 _ p q x y _ (by go_cell) (by go_cell) (by go_cell) (by go_cell)).mono ?_
  rintro e w1 ⟨rfl, b1⟩
  rw [H.out]
  have zzb1 := b1.size; (try simp at zzb1); have zb1_0 : w.heap.size < w1.heap.size := (by omega); have kcb1_0 : ∀ o, w1.cell? ⟨w.heap.size, o, none⟩ = _ := fun o => b1.cell (p := ⟨w.heap.size, o, none⟩) (by go_size); have kfb1_0 : ∀ o, w1.frozen? ⟨w.heap.size, o, none⟩ = _ := fun o => b1.frozen (p := ⟨w.heap.size, o, none⟩) (by go_size); have zb1_1 : w.heap.size + 1 < w1.heap.size := (by omega); have kcb1_1 : ∀ o, w1.cell? ⟨w.heap.size + 1, o, none⟩ = _ := fun o => b1.cell (p := ⟨w.heap.size + 1, o, none⟩) (by go_size); have kfb1_1 : ∀ o, w1.frozen? ⟨w.heap.size + 1, o, none⟩ = _ := fun o => b1.frozen (p := ⟨w.heap.size + 1, o, none⟩) (by go_size); clear zzb1
  go_wp2
  go_region_held3 (fun w' => Below w.heap.size w w' ∧ w.heap.size < w'.heap.size ∧ w.heap.size + 1 < w'.heap.size ∧ w'.cell? ⟨w.heap.size, 0, none⟩ = some (.int .i64 p) ∧ w'.cell? ⟨w.heap.size, 1, none⟩ = some (.int .i64 q) ∧ w'.cell? ⟨w.heap.size + 1, 0, none⟩ = some (.int .i64 x) ∧ w'.cell? ⟨w.heap.size + 1, 1, none⟩ = some (.int .i64 y)) (((try go_split_ands); (try (refine ⟨?_, ?_, ?_, ?_, ?_, ?_, ?_⟩)) <;> first | (with_reducible assumption) | (with_reducible exact keep_drew (by with_reducible assumption)) | (with_reducible exact held_cell hb (by with_reducible assumption)) | (with_reducible exact held_size hb (by with_reducible assumption)) | (with_reducible exact keep_new (by with_reducible assumption)) | (with_reducible exact keep_alloc (by with_reducible assumption) (by dsimp only; omega)) | (with_reducible exact keep_drew (keep_new (by with_reducible assumption))) | (with_reducible exact keep_drew (held_cell hb (by with_reducible assumption))) | ((with_reducible refine keep_set ?_ (by dsimp only; omega)); (repeat (with_reducible refine keep_set ?_ (by dsimp only; omega))); first | (with_reducible assumption) | (with_reducible exact held_cell hb (by with_reducible assumption))) | ((repeat' (first | (with_reducible exact Below.refl _ _) | (with_reducible assumption) | (with_reducible refine below_drewN ?_ _) | (with_reducible refine Below.drew ?_) | (with_reducible refine Below.alloc ?_ ?_ _) | (with_reducible refine Below.setCell ?_ ?_ _) | (with_reducible refine Below.trans ?_ (Below.mono (by with_reducible assumption) ?_)) | go_size | (dsimp only; omega))); done) | (go_size; done) | (with_reducible exact held_cell (by with_reducible assumption) (by with_reducible assumption)) | (with_reducible exact held_size (by with_reducible assumption) (by with_reducible assumption)) | (go_keep; done))) (first | (go_at_call 13; refine (size_b _ _ (by omega) (by omega)).mono ?_; rintro e wt ⟨rfl, hb⟩))
  go_split_ands
  all_goals
    have hm := HM.out
    rw [decide_eq_true_eq] at hm
    go_wp2
    go_returns
    exact ⟨rfl, (by repeat' (first | (with_reducible exact Below.refl _ _) | (with_reducible assumption) | (with_reducible refine below_drewN ?_ _) | (with_reducible refine Below.drew ?_) | (with_reducible refine Below.alloc ?_ ?_ _) | (with_reducible refine Below.setCell ?_ ?_ _) | (with_reducible refine Below.trans ?_ (Below.mono (by with_reducible assumption) ?_)) | go_size | (dsimp only; omega)))⟩
set_option maxHeartbeats 1000000 in
theorem DistanceOf_yes (p q x y : Int) (n : Nat) (w : World) (h : (isF p q && isF x y) = true) (hf : farOk p q x y = true) (hn : ∀ r s, p * s - q * r = 1 → Near (s * x - r * y) (p * y - q * x) n) :
    Calls Try.prog 6 #[.agg #[.int .i64 p, .int .i64 q], .agg #[.int .i64 x, .int .i64 y]] w fun e w' => e = .returned (.tuple #[.int .i64 n, .int .i64 0]) ∧ Below w.heap.size w w' := by
  have h' := h
  rw [Bool.and_eq_true] at h'
  obtain ⟨-, ⟨q0, q1⟩, hg, -⟩ := isF_iff.mp h'.1
  obtain ⟨-, ⟨y0, y1⟩, -, -⟩ := isF_iff.mp h'.2
  obtain ⟨⟨p0, p1⟩, q2, ⟨x0, x1⟩, y2⟩ := farOk_iff.mp hf
  have hm : ¬ (10000 < max (max (max (max p (-p)) q) (max x (-x))) y) := by omega
  have H := Lib.hid h
  have HM := Lib.hid hm
  have HG := Lib.hid hg
  have HN := Lib.hid hn
  clear h h' hf hm hg hn
  go_enter Try.func6, Try.ntmps6
  go_wp2_with fail
  refine (areFractions_2 _ p q x y _ (by go_cell) (by go_cell) (by go_cell) (by go_cell)).mono ?_
  rintro e w1 ⟨rfl, b1⟩
  rw [H.out]
  have zzb1 := b1.size; (try simp at zzb1); have zb1_0 : w.heap.size < w1.heap.size := (by omega); have kcb1_0 : ∀ o, w1.cell? ⟨w.heap.size, o, none⟩ = _ := fun o => b1.cell (p := ⟨w.heap.size, o, none⟩) (by go_size); have kfb1_0 : ∀ o, w1.frozen? ⟨w.heap.size, o, none⟩ = _ := fun o => b1.frozen (p := ⟨w.heap.size, o, none⟩) (by go_size); have zb1_1 : w.heap.size + 1 < w1.heap.size := (by omega); have kcb1_1 : ∀ o, w1.cell? ⟨w.heap.size + 1, o, none⟩ = _ := fun o => b1.cell (p := ⟨w.heap.size + 1, o, none⟩) (by go_size); have kfb1_1 : ∀ o, w1.frozen? ⟨w.heap.size + 1, o, none⟩ = _ := fun o => b1.frozen (p := ⟨w.heap.size + 1, o, none⟩) (by go_size); clear zzb1
  go_wp2
  go_region_held3 (fun w' => Below w.heap.size w w' ∧ w.heap.size < w'.heap.size ∧ w.heap.size + 1 < w'.heap.size ∧ w'.cell? ⟨w.heap.size, 0, none⟩ = some (.int .i64 p) ∧ w'.cell? ⟨w.heap.size, 1, none⟩ = some (.int .i64 q) ∧ w'.cell? ⟨w.heap.size + 1, 0, none⟩ = some (.int .i64 x) ∧ w'.cell? ⟨w.heap.size + 1, 1, none⟩ = some (.int .i64 y)) (((try go_split_ands); (try (refine ⟨?_, ?_, ?_, ?_, ?_, ?_, ?_⟩)) <;> first | (with_reducible assumption) | (with_reducible exact keep_drew (by with_reducible assumption)) | (with_reducible exact held_cell hb (by with_reducible assumption)) | (with_reducible exact held_size hb (by with_reducible assumption)) | (with_reducible exact keep_new (by with_reducible assumption)) | (with_reducible exact keep_alloc (by with_reducible assumption) (by dsimp only; omega)) | (with_reducible exact keep_drew (keep_new (by with_reducible assumption))) | (with_reducible exact keep_drew (held_cell hb (by with_reducible assumption))) | ((with_reducible refine keep_set ?_ (by dsimp only; omega)); (repeat (with_reducible refine keep_set ?_ (by dsimp only; omega))); first | (with_reducible assumption) | (with_reducible exact held_cell hb (by with_reducible assumption))) | ((repeat' (first | (with_reducible exact Below.refl _ _) | (with_reducible assumption) | (with_reducible refine below_drewN ?_ _) | (with_reducible refine Below.drew ?_) | (with_reducible refine Below.alloc ?_ ?_ _) | (with_reducible refine Below.setCell ?_ ?_ _) | (with_reducible refine Below.trans ?_ (Below.mono (by with_reducible assumption) ?_)) | go_size | (dsimp only; omega))); done) | (go_size; done) | (with_reducible exact held_cell (by with_reducible assumption) (by with_reducible assumption)) | (with_reducible exact held_size (by with_reducible assumption) (by with_reducible assumption)) | (go_keep; done))) (first | (go_at_call 13; refine (size_b _ _ (by omega) (by omega)).mono ?_; rintro e wt ⟨rfl, hb⟩))
  go_split_ands
  all_goals
    have hm := HM.out
    go_wp2_with fail
    refine (bezout_c p q _ ⟨by omega, by omega⟩ ⟨by omega, by omega⟩ HG.out).mono ?_
    rintro e w' ⟨r, s, rfl, hd, ⟨r0, r1⟩, ⟨s0, s1⟩, rfl⟩
    have HN2 := Lib.hid (HN.out r s hd)
    have m1 := small_mul (A := 10001) (B := 10000) ⟨s0, s1⟩ ⟨x0, x1⟩
    have m2 := small_mul (A := 10001) (B := 10000) ⟨r0, r1⟩ (show -10000 ≤ y ∧ y ≤ 10000 by omega)
    have m3 := small_mul (A := 10000) (B := 10000) ⟨p0, p1⟩ (show -10000 ≤ y ∧ y ≤ 10000 by omega)
    have m4 := small_mul (A := 10000) (B := 10000) (show -10000 ≤ q ∧ q ≤ 10000 by omega) ⟨x0, x1⟩
    clear hd hm
    go_wp2_with fail
    refine (fromInfinity_c _ _ n _ (by omega) (by omega) HN2.out).mono ?_
    rintro e w' ⟨rfl, rfl⟩
    go_wp2
    go_returns
    exact ⟨rfl, (by repeat' (first | (with_reducible exact Below.refl _ _) | (with_reducible assumption) | (with_reducible refine below_drewN ?_ _) | (with_reducible refine Below.drew ?_) | (with_reducible refine Below.alloc ?_ ?_ _) | (with_reducible refine Below.setCell ?_ ?_ _) | (with_reducible refine Below.trans ?_ (Below.mono (by with_reducible assumption) ?_)) | go_size | (dsimp only; omega)))⟩
end Go.Proofs.Yteeogfikncjjlaa
