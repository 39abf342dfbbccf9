/- DistanceOf: the reference's function; the law. -/
import Derived.Test.YteeogfikncjjlaaDG
namespace Go.Proofs.Yteeogfikncjjlaa
open Go.RowKit
open Plain
set_option linter.unusedVariables false
set_option linter.unusedSimpArgs false
theorem l03Far_c (a b : Int) (n : Nat) (w : World) (h : isF a b = true) (hf : FarR a b n) :
    Calls Try.prog 11 #[.agg #[.int .i64 a, .int .i64 b]] w fun e w' => e = .returned (.int .i64 n) ∧ Below w.heap.size w w' := by
  rcases hf with ⟨h1, rfl⟩ | ⟨h1, z, l, h2, h3, h4⟩
  · exact l03Far_zero a b w h1
  · exact l03Far_pos a b z l n w h h1 h2 h3 h4
theorem red_isF {P Q : Int} (hg : Int.gcd P Q = 1) (hP : -1000000000 ≤ P ∧ P ≤ 1000000000) (hQ : -1000000000 ≤ Q ∧ Q ≤ 1000000000) : isF (redP P Q) (redQ P Q) = true := by
  have hg' := hg
  unfold redP redQ
  rw [hg]
  simp only [Int.natCast_one, Int.ediv_one]
  apply isF_iff.mpr
  split
  · rename_i h
    refine ⟨by omega, by omega, by rw [Int.gcd_neg, Int.neg_gcd]; exact hg', ?_⟩
    by_cases hq : Q = 0
    · subst hq
      rw [Int.gcd_zero_right] at hg'
      right; omega
    · left; omega
  · rename_i h
    refine ⟨by omega, by omega, hg', ?_⟩
    by_cases hq : Q = 0
    · subst hq
      rw [Int.gcd_zero_right] at hg'
      right; omega
    · left; omega
theorem toInfinity_c (p q : Int) (w : World) (h : isF p q = true) (hp : -10000 ≤ p ∧ p ≤ 10000) (hq : q ≤ 10000) :
    Calls Try.prog 9 #[.agg #[.int .i64 p, .int .i64 q]] w fun e w' => ∃ r s : Int, e = .returned (.agg #[.int .i64 s, .int .i64 (-r), .int .i64 (-q), .int .i64 p]) ∧ p * s - q * r = 1 ∧ (-10001 ≤ r ∧ r ≤ 10001) ∧ (-10001 ≤ s ∧ s ≤ 10001) ∧ Below w.heap.size w w' := by
  obtain ⟨-, ⟨q0, -⟩, -, hpq⟩ := isF_iff.mp h
  by_cases hq0 : q = 0
  · have hp1 : p = 1 := by omega
    subst hq0 hp1
    exact (toInf_zero 1 0 w h rfl).mono (fun e w' ⟨he, hb⟩ => ⟨0, 1, he, by simp, by omega, by omega, hb⟩)
  · exact toInf_c p q w h hp hq (by omega)
theorem sDistanceOf_no (p q x y : Int) (w : World) (h : (isF p q && isF x y) = false) :
    Calls Try.prog 4 #[.agg #[.int .i64 p, .int .i64 q], .agg #[.int .i64 x, .int .i64 y]] w fun e w' => e = .returned (.tuple #[.int .i64 0, .int .i64 1]) ∧ Below w.heap.size w w' := by
  have hx : (if (isF p q && isF x y) = true then (0 : Int) else 1) = 1 := by rw [h]; rfl
  have H := Lib.hid hx
  clear h hx
  go_enter Try.func4, Try.ntmps4
  go_wp2_with fail
  refine (l03Both_c _ _ _ _ _).mono ?_
  rintro e w1 ⟨rfl, b1⟩
  rw [H.out]
  have zzb1 := b1.size; (try simp at zzb1); have zb1_0 : w.heap.size < w1.heap.size := (by omega); have kcb1_0 : ∀ o, w1.cell? ⟨w.heap.size, o, none⟩ = _ := fun o => b1.cell (p := ⟨w.heap.size, o, none⟩) (by go_size); have kfb1_0 : ∀ o, w1.frozen? ⟨w.heap.size, o, none⟩ = _ := fun o => b1.frozen (p := ⟨w.heap.size, o, none⟩) (by go_size); have zb1_1 : w.heap.size + 1 < w1.heap.size := (by omega); have kcb1_1 : ∀ o, w1.cell? ⟨w.heap.size + 1, o, none⟩ = _ := fun o => b1.cell (p := ⟨w.heap.size + 1, o, none⟩) (by go_size); have kfb1_1 : ∀ o, w1.frozen? ⟨w.heap.size + 1, o, none⟩ = _ := fun o => b1.frozen (p := ⟨w.heap.size + 1, o, none⟩) (by go_size); clear zzb1
  go_wp2
  go_returns
  exact ⟨rfl, (by repeat' (first | (with_reducible exact Below.refl _ _) | (with_reducible assumption) | (with_reducible refine below_drewN ?_ _) | (with_reducible refine Below.drew ?_) | (with_reducible refine Below.alloc ?_ ?_ _) | (with_reducible refine Below.setCell ?_ ?_ _) | (with_reducible refine Below.trans ?_ (Below.mono (by with_reducible assumption) ?_)) | go_size | (dsimp only; omega)))⟩
theorem inR {n : Int} (h : -10000 ≤ n ∧ n ≤ 10000) : (decide (-10000 ≤ n) && decide (n ≤ 10000)) = true := by simp; omega
theorem inR_no {n : Int} (h : (decide (-10000 ≤ n) && decide (n ≤ 10000)) = false) : ¬ (-10000 ≤ n ∧ n ≤ 10000) := by
  intro hh; rw [inR hh] at h; cases h
theorem inR_yes {n : Int} (h : (decide (-10000 ≤ n) && decide (n ≤ 10000)) = true) : -10000 ≤ n ∧ n ≤ 10000 := by simpa using h
set_option maxRecDepth 100000 in
theorem sDistanceOf_limit (p q x y : Int) (w : World) (h : (isF p q && isF x y) = true) (hf : farOk p q x y = false) :
    Calls Try.prog 4 #[.agg #[.int .i64 p, .int .i64 q], .agg #[.int .i64 x, .int .i64 y]] w fun e w' => e = .returned (.tuple #[.int .i64 0, .int .i64 3]) ∧ Below w.heap.size w w' := by
  have hnf : ¬ ((-10000 ≤ p ∧ p ≤ 10000) ∧ q ≤ 10000 ∧ (-10000 ≤ x ∧ x ≤ 10000) ∧ y ≤ 10000) := by
    intro hh
    have := farOk_iff.mpr hh
    rw [this] at hf; cases hf
  have hx : (if (isF p q && isF x y) = true then (0 : Int) else 1) = 0 := by rw [h]; rfl
  have H := Lib.hid hx
  clear h hf hx
  go_enter Try.func4, Try.ntmps4
  go_wp2_with fail
  refine (l03Both_c _ _ _ _ _).mono ?_
  rintro e w1 ⟨rfl, b1⟩
  rw [H.out]
  have zzb1 := b1.size; (try simp at zzb1); have zb1_0 : w.heap.size < w1.heap.size := (by omega); have kcb1_0 : ∀ o, w1.cell? ⟨w.heap.size, o, none⟩ = _ := fun o => b1.cell (p := ⟨w.heap.size, o, none⟩) (by go_size); have kfb1_0 : ∀ o, w1.frozen? ⟨w.heap.size, o, none⟩ = _ := fun o => b1.frozen (p := ⟨w.heap.size, o, none⟩) (by go_size); have zb1_1 : w.heap.size + 1 < w1.heap.size := (by omega); have kcb1_1 : ∀ o, w1.cell? ⟨w.heap.size + 1, o, none⟩ = _ := fun o => b1.cell (p := ⟨w.heap.size + 1, o, none⟩) (by go_size); have kfb1_1 : ∀ o, w1.frozen? ⟨w.heap.size + 1, o, none⟩ = _ := fun o => b1.frozen (p := ⟨w.heap.size + 1, o, none⟩) (by go_size); clear zzb1
  have f0 : w1.cell? ⟨w.heap.size, 0, none⟩ = some (.int .i64 p) := by go_cell
  have f1 : w1.cell? ⟨w.heap.size, 1, none⟩ = some (.int .i64 q) := by go_cell
  have g0 : w1.cell? ⟨w.heap.size + 1, 0, none⟩ = some (.int .i64 x) := by go_cell
  have g1 : w1.cell? ⟨w.heap.size + 1, 1, none⟩ = some (.int .i64 y) := by go_cell
  have hBw : Below w.heap.size w w1 := (by repeat' (first | (with_reducible exact Below.refl _ _) | (with_reducible assumption) | (with_reducible refine below_drewN ?_ _) | (with_reducible refine Below.drew ?_) | (with_reducible refine Below.alloc ?_ ?_ _) | (with_reducible refine Below.setCell ?_ ?_ _) | (with_reducible refine Below.trans ?_ (Below.mono (by with_reducible assumption) ?_)) | go_size | (dsimp only; omega)))
  have hws : w.heap.size + 1 < w1.heap.size := by assumption
  clear kcb1_0 kcb1_1 kfb1_0 kfb1_1 b1
  go_wp2
  refine wp_loop_rounds 3 ?_
  rw [rounds_succ]
  go_wp2_with fail
  refine (l01In_c _ _ _ _).mono ?_
  rintro e w' ⟨rfl, rfl⟩
  cases e1 : (decide (-10000 ≤ p) && decide (p ≤ 10000))
  · clear e1
    go_wp2
    go_returns
    exact ⟨rfl, (by repeat' (first | (with_reducible exact Below.refl _ _) | (with_reducible assumption) | (with_reducible refine below_drewN ?_ _) | (with_reducible refine Below.drew ?_) | (with_reducible refine Below.alloc ?_ ?_ _) | (with_reducible refine Below.setCell ?_ ?_ _) | (with_reducible refine Below.trans ?_ (Below.mono (by with_reducible assumption) ?_)) | go_size | (dsimp only; omega)))⟩
  have i1 := inR_yes e1
  clear e1
  go_wp2_with fail
  refine (l01In_c _ _ _ _).mono ?_
  rintro e w' ⟨rfl, rfl⟩
  cases e2 : (decide (-10000 ≤ x) && decide (x ≤ 10000))
  · clear e2
    go_wp2
    go_returns
    exact ⟨rfl, (by repeat' (first | (with_reducible exact Below.refl _ _) | (with_reducible assumption) | (with_reducible refine below_drewN ?_ _) | (with_reducible refine Below.drew ?_) | (with_reducible refine Below.alloc ?_ ?_ _) | (with_reducible refine Below.setCell ?_ ?_ _) | (with_reducible refine Below.trans ?_ (Below.mono (by with_reducible assumption) ?_)) | go_size | (dsimp only; omega)))⟩
  have i2 := inR_yes e2
  clear e2
  go_wp2_with fail
  rw [rounds_succ]
  go_wp2_with fail
  refine (l01In_c _ _ _ _).mono ?_
  rintro e w' ⟨rfl, rfl⟩
  cases e3 : (decide (-10000 ≤ q) && decide (q ≤ 10000))
  · clear e3
    go_wp2
    go_returns
    exact ⟨rfl, (by repeat' (first | (with_reducible exact Below.refl _ _) | (with_reducible assumption) | (with_reducible refine below_drewN ?_ _) | (with_reducible refine Below.drew ?_) | (with_reducible refine Below.alloc ?_ ?_ _) | (with_reducible refine Below.setCell ?_ ?_ _) | (with_reducible refine Below.trans ?_ (Below.mono (by with_reducible assumption) ?_)) | go_size | (dsimp only; omega)))⟩
  have i3 := inR_yes e3
  clear e3
  go_wp2_with fail
  refine (l01In_c _ _ _ _).mono ?_
  rintro e w' ⟨rfl, rfl⟩
  cases e4 : (decide (-10000 ≤ y) && decide (y ≤ 10000))
  · clear e4
    go_wp2
    go_returns
    exact ⟨rfl, (by repeat' (first | (with_reducible exact Below.refl _ _) | (with_reducible assumption) | (with_reducible refine below_drewN ?_ _) | (with_reducible refine Below.drew ?_) | (with_reducible refine Below.alloc ?_ ?_ _) | (with_reducible refine Below.setCell ?_ ?_ _) | (with_reducible refine Below.trans ?_ (Below.mono (by with_reducible assumption) ?_)) | go_size | (dsimp only; omega)))⟩
  exact absurd ⟨i1, i3.2, i2, (inR_yes e4).2⟩ hnf
set_option maxRecDepth 100000 in
theorem sDistanceOf_yes (p q x y : Int) (n : Nat) (w : World) (h : (isF p q && isF x y) = true) (hf : farOk p q x y = true) (hn : ∀ r s, p * s - q * r = 1 → FarR (redP (s * x - r * y) (-q * x + p * y)) (redQ (s * x - r * y) (-q * x + p * y)) n) :
    Calls Try.prog 4 #[.agg #[.int .i64 p, .int .i64 q], .agg #[.int .i64 x, .int .i64 y]] w fun e w' => e = .returned (.tuple #[.int .i64 n, .int .i64 0]) ∧ Below w.heap.size w w' := by
  have h' := h
  rw [Bool.and_eq_true] at h'
  obtain ⟨-, ⟨q0, q1⟩, -, -⟩ := isF_iff.mp h'.1
  obtain ⟨-, ⟨y0, y1⟩, hgx, -⟩ := isF_iff.mp h'.2
  obtain ⟨i1, q2, i2, y2⟩ := farOk_iff.mp hf
  have E1 := Lib.hid (inR i1)
  have E2 := Lib.hid (inR i2)
  have E3 := Lib.hid (inR (n := q) ⟨by omega, by omega⟩)
  have E4 := Lib.hid (inR (n := y) ⟨by omega, by omega⟩)
  have hx : (if (isF p q && isF x y) = true then (0 : Int) else 1) = 0 := by rw [h]; rfl
  have H := Lib.hid hx
  have HF := Lib.hid h'.1
  have HN := Lib.hid hn
  have HG := Lib.hid hgx
  clear h hf hx h' hn hgx
  go_enter Try.func4, Try.ntmps4
  go_wp2_with fail
  refine (l03Both_c _ _ _ _ _).mono ?_
  rintro e w1 ⟨rfl, b1⟩
  rw [H.out]
  have zzb1 := b1.size; (try simp at zzb1); have zb1_0 : w.heap.size < w1.heap.size := (by omega); have kcb1_0 : ∀ o, w1.cell? ⟨w.heap.size, o, none⟩ = _ := fun o => b1.cell (p := ⟨w.heap.size, o, none⟩) (by go_size); have kfb1_0 : ∀ o, w1.frozen? ⟨w.heap.size, o, none⟩ = _ := fun o => b1.frozen (p := ⟨w.heap.size, o, none⟩) (by go_size); have zb1_1 : w.heap.size + 1 < w1.heap.size := (by omega); have kcb1_1 : ∀ o, w1.cell? ⟨w.heap.size + 1, o, none⟩ = _ := fun o => b1.cell (p := ⟨w.heap.size + 1, o, none⟩) (by go_size); have kfb1_1 : ∀ o, w1.frozen? ⟨w.heap.size + 1, o, none⟩ = _ := fun o => b1.frozen (p := ⟨w.heap.size + 1, o, none⟩) (by go_size); clear zzb1
  have f0 : w1.cell? ⟨w.heap.size, 0, none⟩ = some (.int .i64 p) := by go_cell
  have f1 : w1.cell? ⟨w.heap.size, 1, none⟩ = some (.int .i64 q) := by go_cell
  have g0 : w1.cell? ⟨w.heap.size + 1, 0, none⟩ = some (.int .i64 x) := by go_cell
  have g1 : w1.cell? ⟨w.heap.size + 1, 1, none⟩ = some (.int .i64 y) := by go_cell
  have hBw : Below w.heap.size w w1 := (by repeat' (first | (with_reducible exact Below.refl _ _) | (with_reducible assumption) | (with_reducible refine below_drewN ?_ _) | (with_reducible refine Below.drew ?_) | (with_reducible refine Below.alloc ?_ ?_ _) | (with_reducible refine Below.setCell ?_ ?_ _) | (with_reducible refine Below.trans ?_ (Below.mono (by with_reducible assumption) ?_)) | go_size | (dsimp only; omega)))
  have hws : w.heap.size + 1 < w1.heap.size := by assumption
  clear kcb1_0 kcb1_1 kfb1_0 kfb1_1 b1
  go_wp2
  refine wp_loop_rounds 3 ?_
  rw [rounds_succ]
  go_wp2_with fail
  refine (l01In_c _ _ _ _).mono ?_
  rintro e w' ⟨rfl, rfl⟩
  rw [E1.out]
  go_wp2_with fail
  refine (l01In_c _ _ _ _).mono ?_
  rintro e w' ⟨rfl, rfl⟩
  rw [E2.out]
  go_wp2_with fail
  rw [rounds_succ]
  go_wp2_with fail
  refine (l01In_c _ _ _ _).mono ?_
  rintro e w' ⟨rfl, rfl⟩
  rw [E3.out]
  go_wp2_with fail
  refine (l01In_c _ _ _ _).mono ?_
  rintro e w' ⟨rfl, rfl⟩
  rw [E4.out]
  go_wp2_with fail
  rw [rounds_succ]
  go_wp2_with fail
  refine (toInfinity_c p q _ HF.out i1 q2).mono ?_
  rintro e w2 ⟨r, s, rfl, hd, ⟨r0, r1⟩, ⟨s0, s1⟩, b2⟩
  have m1 := small_mul (A := 10001) (B := 10000) ⟨s0, s1⟩ i2
  have m2 := small_mul (A := 10001) (B := 10000) ⟨r0, r1⟩ (show -10000 ≤ y ∧ y ≤ 10000 by omega)
  have m3 := small_mul (A := 10000) (B := 10000) i1 (show -10000 ≤ y ∧ y ≤ 10000 by omega)
  have m4 := small_mul (A := 10000) (B := 10000) (show -10000 ≤ q ∧ q ≤ 10000 by omega) i2
  have hgl := gcd_lead hd HG.out
  have n1 : -r * y = -(r * y) := Int.neg_mul _ _
  have n2 : -q * x = -(q * x) := Int.neg_mul _ _
  have hP : s * x + -r * y = s * x - r * y := by omega
  have HP := Lib.hid hP
  have hFR := HN.out r s hd
  have hb : -1000000000 ≤ s * x - r * y ∧ s * x - r * y ≤ 1000000000 := by omega
  have hb2 : -1000000000 ≤ -q * x + p * y ∧ -q * x + p * y ≤ 1000000000 := by omega
  have hz : ¬ (s * x - r * y = 0 ∧ -q * x + p * y = 0) := by
    rintro ⟨e1, e2⟩
    rw [e1, e2] at hgl
    simp at hgl
  have HRF := Lib.hid (red_isF hgl hb hb2)
  have HZ := Lib.hid hz
  have HFR := Lib.hid hFR
  have hb2' : -1000000000 ≤ -(q * x) + p * y ∧ -(q * x) + p * y ≤ 1000000000 := by omega
  clear hgl hz hFR hP hd
  have zzb2 := b2.size; (try simp at zzb2); have zb2_0 : w.heap.size < w2.heap.size := (by omega); have kcb2_0 : ∀ o, w2.cell? ⟨w.heap.size, o, none⟩ = _ := fun o => b2.cell (p := ⟨w.heap.size, o, none⟩) (by go_size); have kfb2_0 : ∀ o, w2.frozen? ⟨w.heap.size, o, none⟩ = _ := fun o => b2.frozen (p := ⟨w.heap.size, o, none⟩) (by go_size); have zb2_1 : w.heap.size + 1 < w2.heap.size := (by omega); have kcb2_1 : ∀ o, w2.cell? ⟨w.heap.size + 1, o, none⟩ = _ := fun o => b2.cell (p := ⟨w.heap.size + 1, o, none⟩) (by go_size); have kfb2_1 : ∀ o, w2.frozen? ⟨w.heap.size + 1, o, none⟩ = _ := fun o => b2.frozen (p := ⟨w.heap.size + 1, o, none⟩) (by go_size); clear zzb2
  go_wp2_with fail
  rw [show s * x + -(r * y) = s * x - r * y from by omega, show -(q * x) + p * y = -q * x + p * y from by rw [Int.neg_mul]]
  refine (l01Reduced_c (s * x - r * y) (-q * x + p * y) _ (by omega) (by omega) (by omega) (by omega) HZ.out).mono ?_
  rintro e w3 ⟨rfl, b3⟩
  have zzb3 := b3.size; (try simp at zzb3); have zb3_0 : w.heap.size < w3.heap.size := (by omega); have kcb3_0 : ∀ o, w3.cell? ⟨w.heap.size, o, none⟩ = _ := fun o => b3.cell (p := ⟨w.heap.size, o, none⟩) (by go_size); have kfb3_0 : ∀ o, w3.frozen? ⟨w.heap.size, o, none⟩ = _ := fun o => b3.frozen (p := ⟨w.heap.size, o, none⟩) (by go_size); have zb3_1 : w.heap.size + 1 < w3.heap.size := (by omega); have kcb3_1 : ∀ o, w3.cell? ⟨w.heap.size + 1, o, none⟩ = _ := fun o => b3.cell (p := ⟨w.heap.size + 1, o, none⟩) (by go_size); have kfb3_1 : ∀ o, w3.frozen? ⟨w.heap.size + 1, o, none⟩ = _ := fun o => b3.frozen (p := ⟨w.heap.size + 1, o, none⟩) (by go_size); clear zzb3
  generalize redP (s * x - r * y) (-q * x + p * y) = A at *
  generalize redQ (s * x - r * y) (-q * x + p * y) = B at *
  go_wp2_with fail
  refine (l03Far_c A B n _ HRF.out HFR.out).mono ?_
  rintro e w4 ⟨rfl, b4⟩
  go_wp2
  go_returns
  exact ⟨rfl, (by repeat' (first | (with_reducible exact Below.refl _ _) | (with_reducible assumption) | (with_reducible refine below_drewN ?_ _) | (with_reducible refine Below.drew ?_) | (with_reducible refine Below.alloc ?_ ?_ _) | (with_reducible refine Below.setCell ?_ ?_ _) | (with_reducible refine Below.trans ?_ (Below.mono (by with_reducible assumption) ?_)) | go_size | (dsimp only; omega)))⟩
set_option maxHeartbeats 2000000 in
theorem FnExactDistanceOf_w (p0 q0 : Int) (p1 q1 : Int) (W : World) :
    Calls Try.prog 3 #[.agg #[.int .i64 p0, .int .i64 q0], .agg #[.int .i64 p1, .int .i64 q1]] W fun e w' => e = .returned (.bool true) ∧ Below W.heap.size W w' := by
  obtain ⟨x0, x1, K1, K2⟩ : ∃ (x0 : Int) (x1 : Int), Hid (∀ w, Calls Try.prog 6 #[.agg #[.int .i64 p0, .int .i64 q0], .agg #[.int .i64 p1, .int .i64 q1]] w fun e w' => e = .returned (.tuple #[.int .i64 x0, .int .i64 x1]) ∧ Below w.heap.size w w') ∧ Hid (∀ w, Calls Try.prog 4 #[.agg #[.int .i64 p0, .int .i64 q0], .agg #[.int .i64 p1, .int .i64 q1]] w fun e w' => e = .returned (.tuple #[.int .i64 x0, .int .i64 x1]) ∧ Below w.heap.size w w') := by
    cases h : (isF p0 q0 && isF p1 q1)
    · exact ⟨_, _, fun w => DistanceOf_no _ _ _ _ w h, fun w => sDistanceOf_no _ _ _ _ w h⟩
    · cases hf : farOk p0 q0 p1 q1
      · exact ⟨_, _, fun w => DistanceOf_limit _ _ _ _ w h hf, fun w => sDistanceOf_limit _ _ _ _ w h hf⟩
      · have h' := h
        rw [Bool.and_eq_true] at h'
        obtain ⟨-, ⟨a0, a1⟩, -, -⟩ := isF_iff.mp h'.1
        obtain ⟨-, ⟨b0, b1⟩, hg, -⟩ := isF_iff.mp h'.2
        obtain ⟨i1, i2, i3, i4⟩ := farOk_iff.mp hf
        have m3 := small_mul (A := 10000) (B := 10000) i1 (show -10000 ≤ q1 ∧ q1 ≤ 10000 by omega)
        have m4 := small_mul (A := 10000) (B := 10000) (show -10000 ≤ q0 ∧ q0 ≤ 10000 by omega) i3
        have n2 : -q0 * p1 = -(q0 * p1) := Int.neg_mul _ _
        obtain ⟨n, hn⟩ := dist_exists p0 q0 p1 q1 hg (by omega)
        refine ⟨n, 0, fun w => DistanceOf_yes _ _ _ _ n w h hf (fun r s hd => ?_), fun w => sDistanceOf_yes _ _ _ _ n w h hf (fun r s hd => (hn r s hd).1)⟩
        have := (hn r s hd).2
        rw [show p0 * q1 - q0 * p1 = -q0 * p1 + p0 * q1 by omega]
        exact this
  go_enter Try.func3, Try.ntmps3
  go_wp2_with fail
  go_region_held3 (fun w' => Below W.heap.size W w' ∧ W.heap.size < w'.heap.size ∧ W.heap.size + 1 < w'.heap.size ∧ w'.cell? ⟨W.heap.size, 0, none⟩ = some (.int .i64 p0) ∧ w'.cell? ⟨W.heap.size, 1, none⟩ = some (.int .i64 q0) ∧ w'.cell? ⟨W.heap.size + 1, 0, none⟩ = some (.int .i64 p1) ∧ w'.cell? ⟨W.heap.size + 1, 1, none⟩ = some (.int .i64 q1)) (((try go_split_ands); (try (refine ⟨?_, ?_, ?_, ?_, ?_, ?_, ?_⟩)) <;> first | (with_reducible assumption) | (with_reducible exact keep_drew (by with_reducible assumption)) | (with_reducible exact held_cell hb (by with_reducible assumption)) | (with_reducible exact held_size hb (by with_reducible assumption)) | (with_reducible exact keep_new (by with_reducible assumption)) | (with_reducible exact keep_alloc (by with_reducible assumption) (by dsimp only; omega)) | (with_reducible exact keep_drew (keep_new (by with_reducible assumption))) | (with_reducible exact keep_drew (held_cell hb (by with_reducible assumption))) | ((with_reducible refine keep_set ?_ (by dsimp only; omega)); (repeat (with_reducible refine keep_set ?_ (by dsimp only; omega))); first | (with_reducible assumption) | (with_reducible exact held_cell hb (by with_reducible assumption))) | ((repeat' (first | (with_reducible exact Below.refl _ _) | (with_reducible assumption) | (with_reducible refine below_drewN ?_ _) | (with_reducible refine Below.drew ?_) | (with_reducible refine Below.alloc ?_ ?_ _) | (with_reducible refine Below.setCell ?_ ?_ _) | (with_reducible refine Below.trans ?_ (Below.mono (by with_reducible assumption) ?_)) | go_size | (dsimp only; omega))); done) | (go_size; done) | (with_reducible exact held_cell (by with_reducible assumption) (by with_reducible assumption)) | (with_reducible exact held_size (by with_reducible assumption) (by with_reducible assumption)) | (go_keep; done))) (first | (go_at_call 5; refine (toFraction_c _ _ _).mono ?_; rintro e wt ⟨rfl, hb⟩) | (go_at_call 4; refine (K2.out _).mono ?_; rintro e wa ⟨rfl, hb⟩))
  go_split_ands
  go_wp2_with fail
  go_region_held3 (fun w' => Below W.heap.size W w' ∧ W.heap.size < w'.heap.size ∧ W.heap.size + 1 < w'.heap.size ∧ w'.cell? ⟨W.heap.size, 0, none⟩ = some (.int .i64 p0) ∧ w'.cell? ⟨W.heap.size, 1, none⟩ = some (.int .i64 q0) ∧ w'.cell? ⟨W.heap.size + 1, 0, none⟩ = some (.int .i64 p1) ∧ w'.cell? ⟨W.heap.size + 1, 1, none⟩ = some (.int .i64 q1)) (((try go_split_ands); (try (refine ⟨?_, ?_, ?_, ?_, ?_, ?_, ?_⟩)) <;> first | (with_reducible assumption) | (with_reducible exact keep_drew (by with_reducible assumption)) | (with_reducible exact held_cell hb (by with_reducible assumption)) | (with_reducible exact held_size hb (by with_reducible assumption)) | (with_reducible exact keep_new (by with_reducible assumption)) | (with_reducible exact keep_alloc (by with_reducible assumption) (by dsimp only; omega)) | (with_reducible exact keep_drew (keep_new (by with_reducible assumption))) | (with_reducible exact keep_drew (held_cell hb (by with_reducible assumption))) | ((with_reducible refine keep_set ?_ (by dsimp only; omega)); (repeat (with_reducible refine keep_set ?_ (by dsimp only; omega))); first | (with_reducible assumption) | (with_reducible exact held_cell hb (by with_reducible assumption))) | ((repeat' (first | (with_reducible exact Below.refl _ _) | (with_reducible assumption) | (with_reducible refine below_drewN ?_ _) | (with_reducible refine Below.drew ?_) | (with_reducible refine Below.alloc ?_ ?_ _) | (with_reducible refine Below.setCell ?_ ?_ _) | (with_reducible refine Below.trans ?_ (Below.mono (by with_reducible assumption) ?_)) | go_size | (dsimp only; omega))); done) | (go_size; done) | (with_reducible exact held_cell (by with_reducible assumption) (by with_reducible assumption)) | (with_reducible exact held_size (by with_reducible assumption) (by with_reducible assumption)) | (go_keep; done))) (first | (go_at_call 5; refine (toFraction_c _ _ _).mono ?_; rintro e wt ⟨rfl, hb⟩) | (go_at_call 6; refine (K1.out _).mono ?_; rintro e wb ⟨rfl, hb⟩))
  go_split_ands
  go_wp2
  go_returns
  exact ⟨rfl, (by repeat' (first | (with_reducible exact Below.refl _ _) | (with_reducible assumption) | (with_reducible refine below_drewN ?_ _) | (with_reducible refine Below.drew ?_) | (with_reducible refine Below.alloc ?_ ?_ _) | (with_reducible refine Below.setCell ?_ ?_ _) | (with_reducible refine Below.trans ?_ (Below.mono (by with_reducible assumption) ?_)) | go_size | (dsimp only; omega)))⟩
end Go.Proofs.Yteeogfikncjjlaa
