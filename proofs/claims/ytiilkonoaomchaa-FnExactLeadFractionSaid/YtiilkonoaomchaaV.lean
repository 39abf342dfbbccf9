/- The fraction to which a matrix leads another one. -/
import Derived.Test.YtiilkonoaomchaaH
import Derived.Test.YtiilkonoaomchaaW
import Derived.Deep.DeepCutAuto
namespace Go.Proofs.Ytiilkonoaomchaa
open Go.RowKit
set_option linter.unusedVariables false
set_option linter.unusedSimpArgs false
attribute [local go_sem] run_min_int4 run_max_int4
attribute [local go_sem] run_equalIn_M
attribute [local go_sem] run_equalIn_Q
theorem lead_nz {p q r s x y : Int} (h1 : isM p q r s = true) (h2 : isF x y = true) : ¬ (p * x + q * y = 0 ∧ r * x + s * y = 0) := by
  obtain ⟨-, -, -, -, hd⟩ := isM_iff.mp h1
  obtain ⟨-, -, hg, -⟩ := isF_iff.mp h2
  rintro ⟨e1, e2⟩
  have hx : x = 0 := by grind
  have hy : y = 0 := by grind
  subst hx hy
  simp at hg
/-- what the numbers of a lead are bounded by -/
theorem lead_bd {p q r s x y : Int} (h1 : isM p q r s = true) (h2 : isF x y = true) :
    ((-1000000000000000000 ≤ p * x ∧ p * x ≤ 1000000000000000000) ∧ (-1000000000000000000 ≤ q * y ∧ q * y ≤ 1000000000000000000)) ∧ ((-1000000000000000000 ≤ r * x ∧ r * x ≤ 1000000000000000000) ∧ (-1000000000000000000 ≤ s * y ∧ s * y ≤ 1000000000000000000)) := by
  obtain ⟨a1, a2, a3, a4, -⟩ := isM_iff.mp h1
  obtain ⟨-, -, -, e1, e2⟩ := isF_bd h2
  have b1 := ent_mul (ent_iff.mpr a1) e1
  have b2 := ent_mul (ent_iff.mpr a2) e2
  have b3 := ent_mul (ent_iff.mpr a3) e1
  have b4 := ent_mul (ent_iff.mpr a4) e2
  refine ⟨⟨?_, ?_⟩, ?_, ?_⟩ <;> omega
set_option maxHeartbeats 2000000 in
theorem LeadFraction_no (p q r s x y : Int) (w : World) (h : (isM p q r s && isF x y) = false) :
    Calls Try.prog 18 #[.agg #[.int .i64 p, .int .i64 q, .int .i64 r, .int .i64 s], .agg #[.int .i64 x, .int .i64 y]] w fun e w' => e = .returned (.tuple #[.agg #[.int .i64 0, .int .i64 0], .int .i64 1]) ∧ Below w.heap.size w w' := by
  cases m1 : isM p q r s
  · clear h
    go_enter Try.func18, Try.ntmps18
    go_wp2_with fail
    refine (IsMatrix_c _ _ _ _ _).mono ?_
    rintro e w1 ⟨rfl, b1⟩
    have zzb1 := b1.size; (try simp at zzb1); have zb1_0 : w.heap.size < w1.heap.size := (by omega); have kcb1_0 : ∀ o, w1.cell? ⟨w.heap.size, o, none⟩ = _ := fun o => b1.cell (p := ⟨w.heap.size, o, none⟩) (by go_size); have kfb1_0 : ∀ o, w1.frozen? ⟨w.heap.size, o, none⟩ = _ := fun o => b1.frozen (p := ⟨w.heap.size, o, none⟩) (by go_size); have zb1_1 : w.heap.size + 1 < w1.heap.size := (by omega); have kcb1_1 : ∀ o, w1.cell? ⟨w.heap.size + 1, o, none⟩ = _ := fun o => b1.cell (p := ⟨w.heap.size + 1, o, none⟩) (by go_size); have kfb1_1 : ∀ o, w1.frozen? ⟨w.heap.size + 1, o, none⟩ = _ := fun o => b1.frozen (p := ⟨w.heap.size + 1, o, none⟩) (by go_size); have zb1_2 : w.heap.size + 2 < w1.heap.size := (by omega); have kcb1_2 : ∀ o, w1.cell? ⟨w.heap.size + 2, o, none⟩ = _ := fun o => b1.cell (p := ⟨w.heap.size + 2, o, none⟩) (by go_size); have kfb1_2 : ∀ o, w1.frozen? ⟨w.heap.size + 2, o, none⟩ = _ := fun o => b1.frozen (p := ⟨w.heap.size + 2, o, none⟩) (by go_size); clear zzb1
    go_wp2
    exact bodyPost_ret (v := .tuple #[.agg #[.int .i64 0, .int .i64 0], .int .i64 1]) (by simp only [results, Try.results18]; go_simp) rfl ⟨rfl, (by repeat' (first | (with_reducible exact Below.refl _ _) | (with_reducible assumption) | (with_reducible refine below_drewN ?_ _) | (with_reducible refine Below.drew ?_) | (with_reducible refine Below.alloc ?_ ?_ _) | (with_reducible refine Below.setCell ?_ ?_ _) | (with_reducible refine Below.trans ?_ (Below.mono (by with_reducible assumption) ?_)) | go_size | (dsimp only; omega)))⟩
  · have m2 : isF x y = false := by simpa [m1] using h
    clear h
    go_enter Try.func18, Try.ntmps18
    go_wp2_with fail
    refine (IsMatrix_c _ _ _ _ _).mono ?_
    rintro e w1 ⟨rfl, b1⟩
    have zzb1 := b1.size; (try simp at zzb1); have zb1_0 : w.heap.size < w1.heap.size := (by omega); have kcb1_0 : ∀ o, w1.cell? ⟨w.heap.size, o, none⟩ = _ := fun o => b1.cell (p := ⟨w.heap.size, o, none⟩) (by go_size); have kfb1_0 : ∀ o, w1.frozen? ⟨w.heap.size, o, none⟩ = _ := fun o => b1.frozen (p := ⟨w.heap.size, o, none⟩) (by go_size); have zb1_1 : w.heap.size + 1 < w1.heap.size := (by omega); have kcb1_1 : ∀ o, w1.cell? ⟨w.heap.size + 1, o, none⟩ = _ := fun o => b1.cell (p := ⟨w.heap.size + 1, o, none⟩) (by go_size); have kfb1_1 : ∀ o, w1.frozen? ⟨w.heap.size + 1, o, none⟩ = _ := fun o => b1.frozen (p := ⟨w.heap.size + 1, o, none⟩) (by go_size); have zb1_2 : w.heap.size + 2 < w1.heap.size := (by omega); have kcb1_2 : ∀ o, w1.cell? ⟨w.heap.size + 2, o, none⟩ = _ := fun o => b1.cell (p := ⟨w.heap.size + 2, o, none⟩) (by go_size); have kfb1_2 : ∀ o, w1.frozen? ⟨w.heap.size + 2, o, none⟩ = _ := fun o => b1.frozen (p := ⟨w.heap.size + 2, o, none⟩) (by go_size); clear zzb1
    go_wp2_with fail
    refine (IsFraction_c _ _ _).mono ?_
    rintro e w2 ⟨rfl, b2⟩
    have zzb2 := b2.size; (try simp at zzb2); have zb2_0 : w.heap.size < w2.heap.size := (by omega); have kcb2_0 : ∀ o, w2.cell? ⟨w.heap.size, o, none⟩ = _ := fun o => b2.cell (p := ⟨w.heap.size, o, none⟩) (by go_size); have kfb2_0 : ∀ o, w2.frozen? ⟨w.heap.size, o, none⟩ = _ := fun o => b2.frozen (p := ⟨w.heap.size, o, none⟩) (by go_size); have zb2_1 : w.heap.size + 1 < w2.heap.size := (by omega); have kcb2_1 : ∀ o, w2.cell? ⟨w.heap.size + 1, o, none⟩ = _ := fun o => b2.cell (p := ⟨w.heap.size + 1, o, none⟩) (by go_size); have kfb2_1 : ∀ o, w2.frozen? ⟨w.heap.size + 1, o, none⟩ = _ := fun o => b2.frozen (p := ⟨w.heap.size + 1, o, none⟩) (by go_size); have zb2_2 : w.heap.size + 2 < w2.heap.size := (by omega); have kcb2_2 : ∀ o, w2.cell? ⟨w.heap.size + 2, o, none⟩ = _ := fun o => b2.cell (p := ⟨w.heap.size + 2, o, none⟩) (by go_size); have kfb2_2 : ∀ o, w2.frozen? ⟨w.heap.size + 2, o, none⟩ = _ := fun o => b2.frozen (p := ⟨w.heap.size + 2, o, none⟩) (by go_size); clear zzb2
    go_wp2
    exact bodyPost_ret (v := .tuple #[.agg #[.int .i64 0, .int .i64 0], .int .i64 1]) (by simp only [results, Try.results18]; go_simp) rfl ⟨rfl, (by repeat' (first | (with_reducible exact Below.refl _ _) | (with_reducible assumption) | (with_reducible refine below_drewN ?_ _) | (with_reducible refine Below.drew ?_) | (with_reducible refine Below.alloc ?_ ?_ _) | (with_reducible refine Below.setCell ?_ ?_ _) | (with_reducible refine Below.trans ?_ (Below.mono (by with_reducible assumption) ?_)) | go_size | (dsimp only; omega)))⟩
theorem LeadFraction_limit (p q r s x y : Int) (w : World) (m1 : isM p q r s = true) (m2 : isF x y = true) (he : (ent (redP (p * x + q * y) (r * x + s * y)) && ent (redQ (p * x + q * y) (r * x + s * y))) = false) :
    Calls Try.prog 18 #[.agg #[.int .i64 p, .int .i64 q, .int .i64 r, .int .i64 s], .agg #[.int .i64 x, .int .i64 y]] w fun e w' => e = .returned (.tuple #[.agg #[.int .i64 0, .int .i64 0], .int .i64 3]) ∧ Below w.heap.size w w' := by
  have HZ := Lib.hid (lead_nz m1 m2)
  have HE := Lib.hid he
  obtain ⟨⟨⟨a0, a1⟩, b0, b1⟩, ⟨c0, c1⟩, d0, d1⟩ := lead_bd m1 m2
  clear he
  go_enter Try.func18, Try.ntmps18
  go_wp2_with fail
  refine (IsMatrix_c _ _ _ _ _).mono ?_
  rintro e w1 ⟨rfl, b1⟩
  have zzb1 := b1.size; (try simp at zzb1); have zb1_0 : w.heap.size < w1.heap.size := (by omega); have kcb1_0 : ∀ o, w1.cell? ⟨w.heap.size, o, none⟩ = _ := fun o => b1.cell (p := ⟨w.heap.size, o, none⟩) (by go_size); have kfb1_0 : ∀ o, w1.frozen? ⟨w.heap.size, o, none⟩ = _ := fun o => b1.frozen (p := ⟨w.heap.size, o, none⟩) (by go_size); have zb1_1 : w.heap.size + 1 < w1.heap.size := (by omega); have kcb1_1 : ∀ o, w1.cell? ⟨w.heap.size + 1, o, none⟩ = _ := fun o => b1.cell (p := ⟨w.heap.size + 1, o, none⟩) (by go_size); have kfb1_1 : ∀ o, w1.frozen? ⟨w.heap.size + 1, o, none⟩ = _ := fun o => b1.frozen (p := ⟨w.heap.size + 1, o, none⟩) (by go_size); have zb1_2 : w.heap.size + 2 < w1.heap.size := (by omega); have kcb1_2 : ∀ o, w1.cell? ⟨w.heap.size + 2, o, none⟩ = _ := fun o => b1.cell (p := ⟨w.heap.size + 2, o, none⟩) (by go_size); have kfb1_2 : ∀ o, w1.frozen? ⟨w.heap.size + 2, o, none⟩ = _ := fun o => b1.frozen (p := ⟨w.heap.size + 2, o, none⟩) (by go_size); clear zzb1
  go_wp2_with fail
  refine (IsFraction_c _ _ _).mono ?_
  rintro e w2 ⟨rfl, b2⟩
  have zzb2 := b2.size; (try simp at zzb2); have zb2_0 : w.heap.size < w2.heap.size := (by omega); have kcb2_0 : ∀ o, w2.cell? ⟨w.heap.size, o, none⟩ = _ := fun o => b2.cell (p := ⟨w.heap.size, o, none⟩) (by go_size); have kfb2_0 : ∀ o, w2.frozen? ⟨w.heap.size, o, none⟩ = _ := fun o => b2.frozen (p := ⟨w.heap.size, o, none⟩) (by go_size); have zb2_1 : w.heap.size + 1 < w2.heap.size := (by omega); have kcb2_1 : ∀ o, w2.cell? ⟨w.heap.size + 1, o, none⟩ = _ := fun o => b2.cell (p := ⟨w.heap.size + 1, o, none⟩) (by go_size); have kfb2_1 : ∀ o, w2.frozen? ⟨w.heap.size + 1, o, none⟩ = _ := fun o => b2.frozen (p := ⟨w.heap.size + 1, o, none⟩) (by go_size); have zb2_2 : w.heap.size + 2 < w2.heap.size := (by omega); have kcb2_2 : ∀ o, w2.cell? ⟨w.heap.size + 2, o, none⟩ = _ := fun o => b2.cell (p := ⟨w.heap.size + 2, o, none⟩) (by go_size); have kfb2_2 : ∀ o, w2.frozen? ⟨w.heap.size + 2, o, none⟩ = _ := fun o => b2.frozen (p := ⟨w.heap.size + 2, o, none⟩) (by go_size); clear zzb2
  go_wp2_with fail
  refine (fraction_no (p * x + q * y) (r * x + s * y) _ (by omega) (by omega) (by omega) (by omega) HZ.out HE.out).mono ?_
  rintro e w3 ⟨rfl, b3⟩
  have zzb3 := b3.size; (try simp at zzb3); have zb3_0 : w.heap.size < w3.heap.size := (by omega); have kcb3_0 : ∀ o, w3.cell? ⟨w.heap.size, o, none⟩ = _ := fun o => b3.cell (p := ⟨w.heap.size, o, none⟩) (by go_size); have kfb3_0 : ∀ o, w3.frozen? ⟨w.heap.size, o, none⟩ = _ := fun o => b3.frozen (p := ⟨w.heap.size, o, none⟩) (by go_size); have zb3_1 : w.heap.size + 1 < w3.heap.size := (by omega); have kcb3_1 : ∀ o, w3.cell? ⟨w.heap.size + 1, o, none⟩ = _ := fun o => b3.cell (p := ⟨w.heap.size + 1, o, none⟩) (by go_size); have kfb3_1 : ∀ o, w3.frozen? ⟨w.heap.size + 1, o, none⟩ = _ := fun o => b3.frozen (p := ⟨w.heap.size + 1, o, none⟩) (by go_size); have zb3_2 : w.heap.size + 2 < w3.heap.size := (by omega); have kcb3_2 : ∀ o, w3.cell? ⟨w.heap.size + 2, o, none⟩ = _ := fun o => b3.cell (p := ⟨w.heap.size + 2, o, none⟩) (by go_size); have kfb3_2 : ∀ o, w3.frozen? ⟨w.heap.size + 2, o, none⟩ = _ := fun o => b3.frozen (p := ⟨w.heap.size + 2, o, none⟩) (by go_size); clear zzb3
  go_wp2
  exact bodyPost_ret (v := .tuple #[.agg #[.int .i64 0, .int .i64 0], .int .i64 3]) (by simp only [results, Try.results18]; go_simp) rfl ⟨rfl, (by repeat' (first | (with_reducible exact Below.refl _ _) | (with_reducible assumption) | (with_reducible refine below_drewN ?_ _) | (with_reducible refine Below.drew ?_) | (with_reducible refine Below.alloc ?_ ?_ _) | (with_reducible refine Below.setCell ?_ ?_ _) | (with_reducible refine Below.trans ?_ (Below.mono (by with_reducible assumption) ?_)) | go_size | (dsimp only; omega)))⟩
theorem LeadFraction_yes (p q r s x y : Int) (w : World) (m1 : isM p q r s = true) (m2 : isF x y = true) (he : (ent (redP (p * x + q * y) (r * x + s * y)) && ent (redQ (p * x + q * y) (r * x + s * y))) = true) :
    Calls Try.prog 18 #[.agg #[.int .i64 p, .int .i64 q, .int .i64 r, .int .i64 s], .agg #[.int .i64 x, .int .i64 y]] w fun e w' => e = .returned (.tuple #[.agg #[.int .i64 (redP (p * x + q * y) (r * x + s * y)), .int .i64 (redQ (p * x + q * y) (r * x + s * y))], .int .i64 0]) ∧ Below w.heap.size w w' := by
  have HZ := Lib.hid (lead_nz m1 m2)
  have HE := Lib.hid he
  obtain ⟨⟨⟨a0, a1⟩, b0, b1⟩, ⟨c0, c1⟩, d0, d1⟩ := lead_bd m1 m2
  clear he
  go_enter Try.func18, Try.ntmps18
  go_wp2_with fail
  refine (IsMatrix_c _ _ _ _ _).mono ?_
  rintro e w1 ⟨rfl, b1⟩
  have zzb1 := b1.size; (try simp at zzb1); have zb1_0 : w.heap.size < w1.heap.size := (by omega); have kcb1_0 : ∀ o, w1.cell? ⟨w.heap.size, o, none⟩ = _ := fun o => b1.cell (p := ⟨w.heap.size, o, none⟩) (by go_size); have kfb1_0 : ∀ o, w1.frozen? ⟨w.heap.size, o, none⟩ = _ := fun o => b1.frozen (p := ⟨w.heap.size, o, none⟩) (by go_size); have zb1_1 : w.heap.size + 1 < w1.heap.size := (by omega); have kcb1_1 : ∀ o, w1.cell? ⟨w.heap.size + 1, o, none⟩ = _ := fun o => b1.cell (p := ⟨w.heap.size + 1, o, none⟩) (by go_size); have kfb1_1 : ∀ o, w1.frozen? ⟨w.heap.size + 1, o, none⟩ = _ := fun o => b1.frozen (p := ⟨w.heap.size + 1, o, none⟩) (by go_size); have zb1_2 : w.heap.size + 2 < w1.heap.size := (by omega); have kcb1_2 : ∀ o, w1.cell? ⟨w.heap.size + 2, o, none⟩ = _ := fun o => b1.cell (p := ⟨w.heap.size + 2, o, none⟩) (by go_size); have kfb1_2 : ∀ o, w1.frozen? ⟨w.heap.size + 2, o, none⟩ = _ := fun o => b1.frozen (p := ⟨w.heap.size + 2, o, none⟩) (by go_size); clear zzb1
  go_wp2_with fail
  refine (IsFraction_c _ _ _).mono ?_
  rintro e w2 ⟨rfl, b2⟩
  have zzb2 := b2.size; (try simp at zzb2); have zb2_0 : w.heap.size < w2.heap.size := (by omega); have kcb2_0 : ∀ o, w2.cell? ⟨w.heap.size, o, none⟩ = _ := fun o => b2.cell (p := ⟨w.heap.size, o, none⟩) (by go_size); have kfb2_0 : ∀ o, w2.frozen? ⟨w.heap.size, o, none⟩ = _ := fun o => b2.frozen (p := ⟨w.heap.size, o, none⟩) (by go_size); have zb2_1 : w.heap.size + 1 < w2.heap.size := (by omega); have kcb2_1 : ∀ o, w2.cell? ⟨w.heap.size + 1, o, none⟩ = _ := fun o => b2.cell (p := ⟨w.heap.size + 1, o, none⟩) (by go_size); have kfb2_1 : ∀ o, w2.frozen? ⟨w.heap.size + 1, o, none⟩ = _ := fun o => b2.frozen (p := ⟨w.heap.size + 1, o, none⟩) (by go_size); have zb2_2 : w.heap.size + 2 < w2.heap.size := (by omega); have kcb2_2 : ∀ o, w2.cell? ⟨w.heap.size + 2, o, none⟩ = _ := fun o => b2.cell (p := ⟨w.heap.size + 2, o, none⟩) (by go_size); have kfb2_2 : ∀ o, w2.frozen? ⟨w.heap.size + 2, o, none⟩ = _ := fun o => b2.frozen (p := ⟨w.heap.size + 2, o, none⟩) (by go_size); clear zzb2
  go_wp2_with fail
  refine (fraction_yes (p * x + q * y) (r * x + s * y) _ (by omega) (by omega) (by omega) (by omega) HZ.out HE.out).mono ?_
  rintro e w3 ⟨rfl, b3⟩
  have zzb3 := b3.size; (try simp at zzb3); have zb3_0 : w.heap.size < w3.heap.size := (by omega); have kcb3_0 : ∀ o, w3.cell? ⟨w.heap.size, o, none⟩ = _ := fun o => b3.cell (p := ⟨w.heap.size, o, none⟩) (by go_size); have kfb3_0 : ∀ o, w3.frozen? ⟨w.heap.size, o, none⟩ = _ := fun o => b3.frozen (p := ⟨w.heap.size, o, none⟩) (by go_size); have zb3_1 : w.heap.size + 1 < w3.heap.size := (by omega); have kcb3_1 : ∀ o, w3.cell? ⟨w.heap.size + 1, o, none⟩ = _ := fun o => b3.cell (p := ⟨w.heap.size + 1, o, none⟩) (by go_size); have kfb3_1 : ∀ o, w3.frozen? ⟨w.heap.size + 1, o, none⟩ = _ := fun o => b3.frozen (p := ⟨w.heap.size + 1, o, none⟩) (by go_size); have zb3_2 : w.heap.size + 2 < w3.heap.size := (by omega); have kcb3_2 : ∀ o, w3.cell? ⟨w.heap.size + 2, o, none⟩ = _ := fun o => b3.cell (p := ⟨w.heap.size + 2, o, none⟩) (by go_size); have kfb3_2 : ∀ o, w3.frozen? ⟨w.heap.size + 2, o, none⟩ = _ := fun o => b3.frozen (p := ⟨w.heap.size + 2, o, none⟩) (by go_size); clear zzb3
  go_wp2
  exact bodyPost_ret (v := .tuple #[.agg #[.int .i64 (redP (p * x + q * y) (r * x + s * y)), .int .i64 (redQ (p * x + q * y) (r * x + s * y))], .int .i64 0]) (by simp only [results, Try.results18]; go_simp) rfl ⟨rfl, (by repeat' (first | (with_reducible exact Below.refl _ _) | (with_reducible assumption) | (with_reducible refine below_drewN ?_ _) | (with_reducible refine Below.drew ?_) | (with_reducible refine Below.alloc ?_ ?_ _) | (with_reducible refine Below.setCell ?_ ?_ _) | (with_reducible refine Below.trans ?_ (Below.mono (by with_reducible assumption) ?_)) | go_size | (dsimp only; omega)))⟩
theorem l01Lead_no (p q r s x y : Int) (w : World) (m1 : isM p q r s = true) (m2 : isF x y = true) (he : (ent (redP (p * x + q * y) (r * x + s * y)) && ent (redQ (p * x + q * y) (r * x + s * y))) = false) :
    Calls Try.prog 49 #[.agg #[.int .i64 p, .int .i64 q, .int .i64 r, .int .i64 s], .agg #[.int .i64 x, .int .i64 y]] w fun e w' => e = .returned (.tuple #[.agg #[.int .i64 0, .int .i64 0], .bool false]) ∧ Below w.heap.size w w' := by
  have HZ := Lib.hid (lead_nz m1 m2)
  obtain ⟨⟨⟨a0, a1⟩, b0, b1⟩, ⟨c0, c1⟩, d0, d1⟩ := lead_bd m1 m2
  generalize hX : redP (p * x + q * y) (r * x + s * y) = X at he
  generalize hY : redQ (p * x + q * y) (r * x + s * y) = Y at he
  have HX := Lib.hid hX
  have HY := Lib.hid hY
  clear hX hY
  cases e1 : ent X
  · clear he
    go_enter Try.func49, Try.ntmps49
    go_wp2_with fail
    refine (l01Reduced_c (p * x + q * y) (r * x + s * y) _ (by omega) (by omega) (by omega) (by omega) HZ.out).mono ?_
    rintro e w1 ⟨rfl, b1⟩
    have zzb1 := b1.size; (try simp at zzb1); have zb1_0 : w.heap.size < w1.heap.size := (by omega); have kcb1_0 : ∀ o, w1.cell? ⟨w.heap.size, o, none⟩ = _ := fun o => b1.cell (p := ⟨w.heap.size, o, none⟩) (by go_size); have kfb1_0 : ∀ o, w1.frozen? ⟨w.heap.size, o, none⟩ = _ := fun o => b1.frozen (p := ⟨w.heap.size, o, none⟩) (by go_size); have zb1_1 : w.heap.size + 1 < w1.heap.size := (by omega); have kcb1_1 : ∀ o, w1.cell? ⟨w.heap.size + 1, o, none⟩ = _ := fun o => b1.cell (p := ⟨w.heap.size + 1, o, none⟩) (by go_size); have kfb1_1 : ∀ o, w1.frozen? ⟨w.heap.size + 1, o, none⟩ = _ := fun o => b1.frozen (p := ⟨w.heap.size + 1, o, none⟩) (by go_size); have zb1_2 : w.heap.size + 2 < w1.heap.size := (by omega); have kcb1_2 : ∀ o, w1.cell? ⟨w.heap.size + 2, o, none⟩ = _ := fun o => b1.cell (p := ⟨w.heap.size + 2, o, none⟩) (by go_size); have kfb1_2 : ∀ o, w1.frozen? ⟨w.heap.size + 2, o, none⟩ = _ := fun o => b1.frozen (p := ⟨w.heap.size + 2, o, none⟩) (by go_size); clear zzb1
    rw [HX.out, HY.out]
    go_wp2_with fail
    refine (l01Entry_c _ _).mono ?_
    rintro e w3 ⟨rfl, rfl⟩
    go_wp2
    exact bodyPost_ret (v := .tuple #[.agg #[.int .i64 0, .int .i64 0], .bool false]) (by simp only [results, Try.results49]; go_simp) rfl ⟨rfl, (by repeat' (first | (with_reducible exact Below.refl _ _) | (with_reducible assumption) | (with_reducible refine below_drewN ?_ _) | (with_reducible refine Below.drew ?_) | (with_reducible refine Below.alloc ?_ ?_ _) | (with_reducible refine Below.setCell ?_ ?_ _) | (with_reducible refine Below.trans ?_ (Below.mono (by with_reducible assumption) ?_)) | go_size | (dsimp only; omega)))⟩
  · have e2 : ent Y = false := by simpa [e1] using he
    clear he
    go_enter Try.func49, Try.ntmps49
    go_wp2_with fail
    refine (l01Reduced_c (p * x + q * y) (r * x + s * y) _ (by omega) (by omega) (by omega) (by omega) HZ.out).mono ?_
    rintro e w1 ⟨rfl, b1⟩
    have zzb1 := b1.size; (try simp at zzb1); have zb1_0 : w.heap.size < w1.heap.size := (by omega); have kcb1_0 : ∀ o, w1.cell? ⟨w.heap.size, o, none⟩ = _ := fun o => b1.cell (p := ⟨w.heap.size, o, none⟩) (by go_size); have kfb1_0 : ∀ o, w1.frozen? ⟨w.heap.size, o, none⟩ = _ := fun o => b1.frozen (p := ⟨w.heap.size, o, none⟩) (by go_size); have zb1_1 : w.heap.size + 1 < w1.heap.size := (by omega); have kcb1_1 : ∀ o, w1.cell? ⟨w.heap.size + 1, o, none⟩ = _ := fun o => b1.cell (p := ⟨w.heap.size + 1, o, none⟩) (by go_size); have kfb1_1 : ∀ o, w1.frozen? ⟨w.heap.size + 1, o, none⟩ = _ := fun o => b1.frozen (p := ⟨w.heap.size + 1, o, none⟩) (by go_size); have zb1_2 : w.heap.size + 2 < w1.heap.size := (by omega); have kcb1_2 : ∀ o, w1.cell? ⟨w.heap.size + 2, o, none⟩ = _ := fun o => b1.cell (p := ⟨w.heap.size + 2, o, none⟩) (by go_size); have kfb1_2 : ∀ o, w1.frozen? ⟨w.heap.size + 2, o, none⟩ = _ := fun o => b1.frozen (p := ⟨w.heap.size + 2, o, none⟩) (by go_size); clear zzb1
    rw [HX.out, HY.out]
    go_wp2_with fail
    refine (l01Entry_c _ _).mono ?_
    rintro e w3 ⟨rfl, rfl⟩
    go_wp2_with fail
    refine (l01Entry_c _ _).mono ?_
    rintro e w4 ⟨rfl, rfl⟩
    go_wp2
    exact bodyPost_ret (v := .tuple #[.agg #[.int .i64 0, .int .i64 0], .bool false]) (by simp only [results, Try.results49]; go_simp) rfl ⟨rfl, (by repeat' (first | (with_reducible exact Below.refl _ _) | (with_reducible assumption) | (with_reducible refine below_drewN ?_ _) | (with_reducible refine Below.drew ?_) | (with_reducible refine Below.alloc ?_ ?_ _) | (with_reducible refine Below.setCell ?_ ?_ _) | (with_reducible refine Below.trans ?_ (Below.mono (by with_reducible assumption) ?_)) | go_size | (dsimp only; omega)))⟩
theorem l01Lead_yes (p q r s x y : Int) (w : World) (m1 : isM p q r s = true) (m2 : isF x y = true) (he : (ent (redP (p * x + q * y) (r * x + s * y)) && ent (redQ (p * x + q * y) (r * x + s * y))) = true) :
    Calls Try.prog 49 #[.agg #[.int .i64 p, .int .i64 q, .int .i64 r, .int .i64 s], .agg #[.int .i64 x, .int .i64 y]] w fun e w' => e = .returned (.tuple #[.agg #[.int .i64 (redP (p * x + q * y) (r * x + s * y)), .int .i64 (redQ (p * x + q * y) (r * x + s * y))], .bool true]) ∧ Below w.heap.size w w' := by
  have HZ := Lib.hid (lead_nz m1 m2)
  obtain ⟨⟨⟨a0, a1⟩, b0, b1⟩, ⟨c0, c1⟩, d0, d1⟩ := lead_bd m1 m2
  rw [Bool.and_eq_true] at he
  obtain ⟨e1, e2⟩ := he
  generalize hX : redP (p * x + q * y) (r * x + s * y) = X at e1 ⊢
  generalize hY : redQ (p * x + q * y) (r * x + s * y) = Y at e2 ⊢
  have HX := Lib.hid hX
  have HY := Lib.hid hY
  clear hX hY
  go_enter Try.func49, Try.ntmps49
  go_wp2_with fail
  refine (l01Reduced_c (p * x + q * y) (r * x + s * y) _ (by omega) (by omega) (by omega) (by omega) HZ.out).mono ?_
  rintro e w1 ⟨rfl, b1⟩
  have zzb1 := b1.size; (try simp at zzb1); have zb1_0 : w.heap.size < w1.heap.size := (by omega); have kcb1_0 : ∀ o, w1.cell? ⟨w.heap.size, o, none⟩ = _ := fun o => b1.cell (p := ⟨w.heap.size, o, none⟩) (by go_size); have kfb1_0 : ∀ o, w1.frozen? ⟨w.heap.size, o, none⟩ = _ := fun o => b1.frozen (p := ⟨w.heap.size, o, none⟩) (by go_size); have zb1_1 : w.heap.size + 1 < w1.heap.size := (by omega); have kcb1_1 : ∀ o, w1.cell? ⟨w.heap.size + 1, o, none⟩ = _ := fun o => b1.cell (p := ⟨w.heap.size + 1, o, none⟩) (by go_size); have kfb1_1 : ∀ o, w1.frozen? ⟨w.heap.size + 1, o, none⟩ = _ := fun o => b1.frozen (p := ⟨w.heap.size + 1, o, none⟩) (by go_size); have zb1_2 : w.heap.size + 2 < w1.heap.size := (by omega); have kcb1_2 : ∀ o, w1.cell? ⟨w.heap.size + 2, o, none⟩ = _ := fun o => b1.cell (p := ⟨w.heap.size + 2, o, none⟩) (by go_size); have kfb1_2 : ∀ o, w1.frozen? ⟨w.heap.size + 2, o, none⟩ = _ := fun o => b1.frozen (p := ⟨w.heap.size + 2, o, none⟩) (by go_size); clear zzb1
  rw [HX.out, HY.out]
  go_wp2_with fail
  refine (l01Entry_c _ _).mono ?_
  rintro e w3 ⟨rfl, rfl⟩
  go_wp2_with fail
  refine (l01Entry_c _ _).mono ?_
  rintro e w4 ⟨rfl, rfl⟩
  go_wp2
  exact bodyPost_ret (v := .tuple #[.agg #[.int .i64 X, .int .i64 Y], .bool true]) (by simp only [results, Try.results49]; go_simp) rfl ⟨rfl, (by repeat' (first | (with_reducible exact Below.refl _ _) | (with_reducible assumption) | (with_reducible refine below_drewN ?_ _) | (with_reducible refine Below.drew ?_) | (with_reducible refine Below.alloc ?_ ?_ _) | (with_reducible refine Below.setCell ?_ ?_ _) | (with_reducible refine Below.trans ?_ (Below.mono (by with_reducible assumption) ?_)) | go_size | (dsimp only; omega)))⟩
theorem sLeadFraction_no (p q r s x y : Int) (w : World) (h : (isM p q r s && isF x y) = false) :
    Calls Try.prog 15 #[.agg #[.int .i64 p, .int .i64 q, .int .i64 r, .int .i64 s], .agg #[.int .i64 x, .int .i64 y]] w fun e w' => e = .returned (.tuple #[.agg #[.int .i64 0, .int .i64 0], .int .i64 1]) ∧ Below w.heap.size w w' := by
  cases m1 : isM p q r s
  · clear h
    go_enter Try.func15, Try.ntmps15
    go_wp2_with fail
    refine (l01Is_c _ _ _ _ _).mono ?_
    rintro e w1 ⟨rfl, b1⟩
    have zzb1 := b1.size; (try simp at zzb1); have zb1_0 : w.heap.size < w1.heap.size := (by omega); have kcb1_0 : ∀ o, w1.cell? ⟨w.heap.size, o, none⟩ = _ := fun o => b1.cell (p := ⟨w.heap.size, o, none⟩) (by go_size); have kfb1_0 : ∀ o, w1.frozen? ⟨w.heap.size, o, none⟩ = _ := fun o => b1.frozen (p := ⟨w.heap.size, o, none⟩) (by go_size); have zb1_1 : w.heap.size + 1 < w1.heap.size := (by omega); have kcb1_1 : ∀ o, w1.cell? ⟨w.heap.size + 1, o, none⟩ = _ := fun o => b1.cell (p := ⟨w.heap.size + 1, o, none⟩) (by go_size); have kfb1_1 : ∀ o, w1.frozen? ⟨w.heap.size + 1, o, none⟩ = _ := fun o => b1.frozen (p := ⟨w.heap.size + 1, o, none⟩) (by go_size); have zb1_2 : w.heap.size + 2 < w1.heap.size := (by omega); have kcb1_2 : ∀ o, w1.cell? ⟨w.heap.size + 2, o, none⟩ = _ := fun o => b1.cell (p := ⟨w.heap.size + 2, o, none⟩) (by go_size); have kfb1_2 : ∀ o, w1.frozen? ⟨w.heap.size + 2, o, none⟩ = _ := fun o => b1.frozen (p := ⟨w.heap.size + 2, o, none⟩) (by go_size); clear zzb1
    go_wp2
    exact bodyPost_ret (v := .tuple #[.agg #[.int .i64 0, .int .i64 0], .int .i64 1]) (by simp only [results, Try.results15]; go_simp) rfl ⟨rfl, (by repeat' (first | (with_reducible exact Below.refl _ _) | (with_reducible assumption) | (with_reducible refine below_drewN ?_ _) | (with_reducible refine Below.drew ?_) | (with_reducible refine Below.alloc ?_ ?_ _) | (with_reducible refine Below.setCell ?_ ?_ _) | (with_reducible refine Below.trans ?_ (Below.mono (by with_reducible assumption) ?_)) | go_size | (dsimp only; omega)))⟩
  · have m2 : isF x y = false := by simpa [m1] using h
    clear h
    go_enter Try.func15, Try.ntmps15
    go_wp2_with fail
    refine (l01Is_c _ _ _ _ _).mono ?_
    rintro e w1 ⟨rfl, b1⟩
    have zzb1 := b1.size; (try simp at zzb1); have zb1_0 : w.heap.size < w1.heap.size := (by omega); have kcb1_0 : ∀ o, w1.cell? ⟨w.heap.size, o, none⟩ = _ := fun o => b1.cell (p := ⟨w.heap.size, o, none⟩) (by go_size); have kfb1_0 : ∀ o, w1.frozen? ⟨w.heap.size, o, none⟩ = _ := fun o => b1.frozen (p := ⟨w.heap.size, o, none⟩) (by go_size); have zb1_1 : w.heap.size + 1 < w1.heap.size := (by omega); have kcb1_1 : ∀ o, w1.cell? ⟨w.heap.size + 1, o, none⟩ = _ := fun o => b1.cell (p := ⟨w.heap.size + 1, o, none⟩) (by go_size); have kfb1_1 : ∀ o, w1.frozen? ⟨w.heap.size + 1, o, none⟩ = _ := fun o => b1.frozen (p := ⟨w.heap.size + 1, o, none⟩) (by go_size); have zb1_2 : w.heap.size + 2 < w1.heap.size := (by omega); have kcb1_2 : ∀ o, w1.cell? ⟨w.heap.size + 2, o, none⟩ = _ := fun o => b1.cell (p := ⟨w.heap.size + 2, o, none⟩) (by go_size); have kfb1_2 : ∀ o, w1.frozen? ⟨w.heap.size + 2, o, none⟩ = _ := fun o => b1.frozen (p := ⟨w.heap.size + 2, o, none⟩) (by go_size); clear zzb1
    go_wp2_with fail
    refine (l01Fraction_c _ _ _).mono ?_
    rintro e w2 ⟨rfl, b2⟩
    have zzb2 := b2.size; (try simp at zzb2); have zb2_0 : w.heap.size < w2.heap.size := (by omega); have kcb2_0 : ∀ o, w2.cell? ⟨w.heap.size, o, none⟩ = _ := fun o => b2.cell (p := ⟨w.heap.size, o, none⟩) (by go_size); have kfb2_0 : ∀ o, w2.frozen? ⟨w.heap.size, o, none⟩ = _ := fun o => b2.frozen (p := ⟨w.heap.size, o, none⟩) (by go_size); have zb2_1 : w.heap.size + 1 < w2.heap.size := (by omega); have kcb2_1 : ∀ o, w2.cell? ⟨w.heap.size + 1, o, none⟩ = _ := fun o => b2.cell (p := ⟨w.heap.size + 1, o, none⟩) (by go_size); have kfb2_1 : ∀ o, w2.frozen? ⟨w.heap.size + 1, o, none⟩ = _ := fun o => b2.frozen (p := ⟨w.heap.size + 1, o, none⟩) (by go_size); have zb2_2 : w.heap.size + 2 < w2.heap.size := (by omega); have kcb2_2 : ∀ o, w2.cell? ⟨w.heap.size + 2, o, none⟩ = _ := fun o => b2.cell (p := ⟨w.heap.size + 2, o, none⟩) (by go_size); have kfb2_2 : ∀ o, w2.frozen? ⟨w.heap.size + 2, o, none⟩ = _ := fun o => b2.frozen (p := ⟨w.heap.size + 2, o, none⟩) (by go_size); clear zzb2
    go_wp2
    exact bodyPost_ret (v := .tuple #[.agg #[.int .i64 0, .int .i64 0], .int .i64 1]) (by simp only [results, Try.results15]; go_simp) rfl ⟨rfl, (by repeat' (first | (with_reducible exact Below.refl _ _) | (with_reducible assumption) | (with_reducible refine below_drewN ?_ _) | (with_reducible refine Below.drew ?_) | (with_reducible refine Below.alloc ?_ ?_ _) | (with_reducible refine Below.setCell ?_ ?_ _) | (with_reducible refine Below.trans ?_ (Below.mono (by with_reducible assumption) ?_)) | go_size | (dsimp only; omega)))⟩
theorem sLeadFraction_limit (p q r s x y : Int) (w : World) (m1 : isM p q r s = true) (m2 : isF x y = true) (he : (ent (redP (p * x + q * y) (r * x + s * y)) && ent (redQ (p * x + q * y) (r * x + s * y))) = false) :
    Calls Try.prog 15 #[.agg #[.int .i64 p, .int .i64 q, .int .i64 r, .int .i64 s], .agg #[.int .i64 x, .int .i64 y]] w fun e w' => e = .returned (.tuple #[.agg #[.int .i64 0, .int .i64 0], .int .i64 3]) ∧ Below w.heap.size w w' := by
  have HE := Lib.hid he
  have M1 := Lib.hid m1
  have M2 := Lib.hid m2
  clear he
  go_enter Try.func15, Try.ntmps15
  go_wp2_with fail
  refine (l01Is_c _ _ _ _ _).mono ?_
  rintro e w1 ⟨rfl, b1⟩
  have zzb1 := b1.size; (try simp at zzb1); have zb1_0 : w.heap.size < w1.heap.size := (by omega); have kcb1_0 : ∀ o, w1.cell? ⟨w.heap.size, o, none⟩ = _ := fun o => b1.cell (p := ⟨w.heap.size, o, none⟩) (by go_size); have kfb1_0 : ∀ o, w1.frozen? ⟨w.heap.size, o, none⟩ = _ := fun o => b1.frozen (p := ⟨w.heap.size, o, none⟩) (by go_size); have zb1_1 : w.heap.size + 1 < w1.heap.size := (by omega); have kcb1_1 : ∀ o, w1.cell? ⟨w.heap.size + 1, o, none⟩ = _ := fun o => b1.cell (p := ⟨w.heap.size + 1, o, none⟩) (by go_size); have kfb1_1 : ∀ o, w1.frozen? ⟨w.heap.size + 1, o, none⟩ = _ := fun o => b1.frozen (p := ⟨w.heap.size + 1, o, none⟩) (by go_size); have zb1_2 : w.heap.size + 2 < w1.heap.size := (by omega); have kcb1_2 : ∀ o, w1.cell? ⟨w.heap.size + 2, o, none⟩ = _ := fun o => b1.cell (p := ⟨w.heap.size + 2, o, none⟩) (by go_size); have kfb1_2 : ∀ o, w1.frozen? ⟨w.heap.size + 2, o, none⟩ = _ := fun o => b1.frozen (p := ⟨w.heap.size + 2, o, none⟩) (by go_size); clear zzb1
  go_wp2_with fail
  refine (l01Fraction_c _ _ _).mono ?_
  rintro e w2 ⟨rfl, b2⟩
  have zzb2 := b2.size; (try simp at zzb2); have zb2_0 : w.heap.size < w2.heap.size := (by omega); have kcb2_0 : ∀ o, w2.cell? ⟨w.heap.size, o, none⟩ = _ := fun o => b2.cell (p := ⟨w.heap.size, o, none⟩) (by go_size); have kfb2_0 : ∀ o, w2.frozen? ⟨w.heap.size, o, none⟩ = _ := fun o => b2.frozen (p := ⟨w.heap.size, o, none⟩) (by go_size); have zb2_1 : w.heap.size + 1 < w2.heap.size := (by omega); have kcb2_1 : ∀ o, w2.cell? ⟨w.heap.size + 1, o, none⟩ = _ := fun o => b2.cell (p := ⟨w.heap.size + 1, o, none⟩) (by go_size); have kfb2_1 : ∀ o, w2.frozen? ⟨w.heap.size + 1, o, none⟩ = _ := fun o => b2.frozen (p := ⟨w.heap.size + 1, o, none⟩) (by go_size); have zb2_2 : w.heap.size + 2 < w2.heap.size := (by omega); have kcb2_2 : ∀ o, w2.cell? ⟨w.heap.size + 2, o, none⟩ = _ := fun o => b2.cell (p := ⟨w.heap.size + 2, o, none⟩) (by go_size); have kfb2_2 : ∀ o, w2.frozen? ⟨w.heap.size + 2, o, none⟩ = _ := fun o => b2.frozen (p := ⟨w.heap.size + 2, o, none⟩) (by go_size); clear zzb2
  go_wp2_with fail
  refine (l01Lead_no p q r s x y _ M1.out M2.out HE.out).mono ?_
  rintro e w3 ⟨rfl, b3⟩
  have zzb3 := b3.size; (try simp at zzb3); have zb3_0 : w.heap.size < w3.heap.size := (by omega); have kcb3_0 : ∀ o, w3.cell? ⟨w.heap.size, o, none⟩ = _ := fun o => b3.cell (p := ⟨w.heap.size, o, none⟩) (by go_size); have kfb3_0 : ∀ o, w3.frozen? ⟨w.heap.size, o, none⟩ = _ := fun o => b3.frozen (p := ⟨w.heap.size, o, none⟩) (by go_size); have zb3_1 : w.heap.size + 1 < w3.heap.size := (by omega); have kcb3_1 : ∀ o, w3.cell? ⟨w.heap.size + 1, o, none⟩ = _ := fun o => b3.cell (p := ⟨w.heap.size + 1, o, none⟩) (by go_size); have kfb3_1 : ∀ o, w3.frozen? ⟨w.heap.size + 1, o, none⟩ = _ := fun o => b3.frozen (p := ⟨w.heap.size + 1, o, none⟩) (by go_size); have zb3_2 : w.heap.size + 2 < w3.heap.size := (by omega); have kcb3_2 : ∀ o, w3.cell? ⟨w.heap.size + 2, o, none⟩ = _ := fun o => b3.cell (p := ⟨w.heap.size + 2, o, none⟩) (by go_size); have kfb3_2 : ∀ o, w3.frozen? ⟨w.heap.size + 2, o, none⟩ = _ := fun o => b3.frozen (p := ⟨w.heap.size + 2, o, none⟩) (by go_size); clear zzb3
  go_wp2
  exact bodyPost_ret (v := .tuple #[.agg #[.int .i64 0, .int .i64 0], .int .i64 3]) (by simp only [results, Try.results15]; go_simp) rfl ⟨rfl, (by repeat' (first | (with_reducible exact Below.refl _ _) | (with_reducible assumption) | (with_reducible refine below_drewN ?_ _) | (with_reducible refine Below.drew ?_) | (with_reducible refine Below.alloc ?_ ?_ _) | (with_reducible refine Below.setCell ?_ ?_ _) | (with_reducible refine Below.trans ?_ (Below.mono (by with_reducible assumption) ?_)) | go_size | (dsimp only; omega)))⟩
theorem sLeadFraction_yes (p q r s x y : Int) (w : World) (m1 : isM p q r s = true) (m2 : isF x y = true) (he : (ent (redP (p * x + q * y) (r * x + s * y)) && ent (redQ (p * x + q * y) (r * x + s * y))) = true) :
    Calls Try.prog 15 #[.agg #[.int .i64 p, .int .i64 q, .int .i64 r, .int .i64 s], .agg #[.int .i64 x, .int .i64 y]] w fun e w' => e = .returned (.tuple #[.agg #[.int .i64 (redP (p * x + q * y) (r * x + s * y)), .int .i64 (redQ (p * x + q * y) (r * x + s * y))], .int .i64 0]) ∧ Below w.heap.size w w' := by
  have HE := Lib.hid he
  have M1 := Lib.hid m1
  have M2 := Lib.hid m2
  clear he
  go_enter Try.func15, Try.ntmps15
  go_wp2_with fail
  refine (l01Is_c _ _ _ _ _).mono ?_
  rintro e w1 ⟨rfl, b1⟩
  have zzb1 := b1.size; (try simp at zzb1); have zb1_0 : w.heap.size < w1.heap.size := (by omega); have kcb1_0 : ∀ o, w1.cell? ⟨w.heap.size, o, none⟩ = _ := fun o => b1.cell (p := ⟨w.heap.size, o, none⟩) (by go_size); have kfb1_0 : ∀ o, w1.frozen? ⟨w.heap.size, o, none⟩ = _ := fun o => b1.frozen (p := ⟨w.heap.size, o, none⟩) (by go_size); have zb1_1 : w.heap.size + 1 < w1.heap.size := (by omega); have kcb1_1 : ∀ o, w1.cell? ⟨w.heap.size + 1, o, none⟩ = _ := fun o => b1.cell (p := ⟨w.heap.size + 1, o, none⟩) (by go_size); have kfb1_1 : ∀ o, w1.frozen? ⟨w.heap.size + 1, o, none⟩ = _ := fun o => b1.frozen (p := ⟨w.heap.size + 1, o, none⟩) (by go_size); have zb1_2 : w.heap.size + 2 < w1.heap.size := (by omega); have kcb1_2 : ∀ o, w1.cell? ⟨w.heap.size + 2, o, none⟩ = _ := fun o => b1.cell (p := ⟨w.heap.size + 2, o, none⟩) (by go_size); have kfb1_2 : ∀ o, w1.frozen? ⟨w.heap.size + 2, o, none⟩ = _ := fun o => b1.frozen (p := ⟨w.heap.size + 2, o, none⟩) (by go_size); clear zzb1
  go_wp2_with fail
  refine (l01Fraction_c _ _ _).mono ?_
  rintro e w2 ⟨rfl, b2⟩
  have zzb2 := b2.size; (try simp at zzb2); have zb2_0 : w.heap.size < w2.heap.size := (by omega); have kcb2_0 : ∀ o, w2.cell? ⟨w.heap.size, o, none⟩ = _ := fun o => b2.cell (p := ⟨w.heap.size, o, none⟩) (by go_size); have kfb2_0 : ∀ o, w2.frozen? ⟨w.heap.size, o, none⟩ = _ := fun o => b2.frozen (p := ⟨w.heap.size, o, none⟩) (by go_size); have zb2_1 : w.heap.size + 1 < w2.heap.size := (by omega); have kcb2_1 : ∀ o, w2.cell? ⟨w.heap.size + 1, o, none⟩ = _ := fun o => b2.cell (p := ⟨w.heap.size + 1, o, none⟩) (by go_size); have kfb2_1 : ∀ o, w2.frozen? ⟨w.heap.size + 1, o, none⟩ = _ := fun o => b2.frozen (p := ⟨w.heap.size + 1, o, none⟩) (by go_size); have zb2_2 : w.heap.size + 2 < w2.heap.size := (by omega); have kcb2_2 : ∀ o, w2.cell? ⟨w.heap.size + 2, o, none⟩ = _ := fun o => b2.cell (p := ⟨w.heap.size + 2, o, none⟩) (by go_size); have kfb2_2 : ∀ o, w2.frozen? ⟨w.heap.size + 2, o, none⟩ = _ := fun o => b2.frozen (p := ⟨w.heap.size + 2, o, none⟩) (by go_size); clear zzb2
  go_wp2_with fail
  refine (l01Lead_yes p q r s x y _ M1.out M2.out HE.out).mono ?_
  rintro e w3 ⟨rfl, b3⟩
  have zzb3 := b3.size; (try simp at zzb3); have zb3_0 : w.heap.size < w3.heap.size := (by omega); have kcb3_0 : ∀ o, w3.cell? ⟨w.heap.size, o, none⟩ = _ := fun o => b3.cell (p := ⟨w.heap.size, o, none⟩) (by go_size); have kfb3_0 : ∀ o, w3.frozen? ⟨w.heap.size, o, none⟩ = _ := fun o => b3.frozen (p := ⟨w.heap.size, o, none⟩) (by go_size); have zb3_1 : w.heap.size + 1 < w3.heap.size := (by omega); have kcb3_1 : ∀ o, w3.cell? ⟨w.heap.size + 1, o, none⟩ = _ := fun o => b3.cell (p := ⟨w.heap.size + 1, o, none⟩) (by go_size); have kfb3_1 : ∀ o, w3.frozen? ⟨w.heap.size + 1, o, none⟩ = _ := fun o => b3.frozen (p := ⟨w.heap.size + 1, o, none⟩) (by go_size); have zb3_2 : w.heap.size + 2 < w3.heap.size := (by omega); have kcb3_2 : ∀ o, w3.cell? ⟨w.heap.size + 2, o, none⟩ = _ := fun o => b3.cell (p := ⟨w.heap.size + 2, o, none⟩) (by go_size); have kfb3_2 : ∀ o, w3.frozen? ⟨w.heap.size + 2, o, none⟩ = _ := fun o => b3.frozen (p := ⟨w.heap.size + 2, o, none⟩) (by go_size); clear zzb3
  go_wp2
  exact bodyPost_ret (v := .tuple #[.agg #[.int .i64 (redP (p * x + q * y) (r * x + s * y)), .int .i64 (redQ (p * x + q * y) (r * x + s * y))], .int .i64 0]) (by simp only [results, Try.results15]; go_simp) rfl ⟨rfl, (by repeat' (first | (with_reducible exact Below.refl _ _) | (with_reducible assumption) | (with_reducible refine below_drewN ?_ _) | (with_reducible refine Below.drew ?_) | (with_reducible refine Below.alloc ?_ ?_ _) | (with_reducible refine Below.setCell ?_ ?_ _) | (with_reducible refine Below.trans ?_ (Below.mono (by with_reducible assumption) ?_)) | go_size | (dsimp only; omega)))⟩
set_option maxHeartbeats 8000000 in
theorem FnExactLeadFraction_w (p0 q0 r0 s0 : Int) (p1 q1 : Int) (W : World) :
    Calls Try.prog 3 #[.agg #[.int .i64 p0, .int .i64 q0, .int .i64 r0, .int .i64 s0], .agg #[.int .i64 p1, .int .i64 q1]] W fun e w' => e = .returned (.bool true) ∧ Below W.heap.size W w' := by
  obtain ⟨x0, x1, x2, K1, K2⟩ : ∃ (x0 : Int) (x1 : Int) (x2 : Int), Hid (∀ w, Calls Try.prog 18 #[.agg #[.int .i64 p0, .int .i64 q0, .int .i64 r0, .int .i64 s0], .agg #[.int .i64 p1, .int .i64 q1]] w fun e w' => e = .returned (.tuple #[.agg #[.int .i64 x0, .int .i64 x1], .int .i64 x2]) ∧ Below w.heap.size w w') ∧ Hid (∀ w, Calls Try.prog 15 #[.agg #[.int .i64 p0, .int .i64 q0, .int .i64 r0, .int .i64 s0], .agg #[.int .i64 p1, .int .i64 q1]] w fun e w' => e = .returned (.tuple #[.agg #[.int .i64 x0, .int .i64 x1], .int .i64 x2]) ∧ Below w.heap.size w w') := by
    cases h : (isM p0 q0 r0 s0 && isF p1 q1)
    · exact ⟨_, _, _, fun w => LeadFraction_no _ _ _ _ _ _ w h, fun w => sLeadFraction_no _ _ _ _ _ _ w h⟩
    · rw [Bool.and_eq_true] at h
      cases he : (ent (redP (p0 * p1 + q0 * q1) (r0 * p1 + s0 * q1)) && ent (redQ (p0 * p1 + q0 * q1) (r0 * p1 + s0 * q1)))
      · exact ⟨_, _, _, fun w => LeadFraction_limit _ _ _ _ _ _ w h.1 h.2 he, fun w => sLeadFraction_limit _ _ _ _ _ _ w h.1 h.2 he⟩
      · exact ⟨_, _, _, fun w => LeadFraction_yes _ _ _ _ _ _ w h.1 h.2 he, fun w => sLeadFraction_yes _ _ _ _ _ _ w h.1 h.2 he⟩
  go_enter Try.func3, Try.ntmps3
  go_upto_region 1 with fail
  go_cut [5, 6] (fun v5 v6 wx => ∃ g : Nat, v5 = .pointer (some ⟨g, 0, none⟩) ∧ v6 = .int .i64 x2 ∧ W.heap.size + 1 < g ∧ g < wx.heap.size ∧ wx.cell? ⟨g, 0, none⟩ = some (.int .i64 x0) ∧ wx.cell? ⟨g, 1, none⟩ = some (.int .i64 x1) ∧ Below W.heap.size W wx ∧ wx.cell? ⟨W.heap.size, 0, none⟩ = some (.int .i64 p0) ∧ wx.cell? ⟨W.heap.size, 1, none⟩ = some (.int .i64 q0) ∧ wx.cell? ⟨W.heap.size, 2, none⟩ = some (.int .i64 r0) ∧ wx.cell? ⟨W.heap.size, 3, none⟩ = some (.int .i64 s0) ∧ wx.cell? ⟨W.heap.size + 1, 0, none⟩ = some (.int .i64 p1) ∧ wx.cell? ⟨W.heap.size + 1, 1, none⟩ = some (.int .i64 q1))
  case first =>
    go_region_held3 (fun w' => Below W.heap.size W w' ∧ W.heap.size < w'.heap.size ∧ W.heap.size + 1 < w'.heap.size ∧ w'.cell? ⟨W.heap.size, 0, none⟩ = some (.int .i64 p0) ∧ w'.cell? ⟨W.heap.size, 1, none⟩ = some (.int .i64 q0) ∧ w'.cell? ⟨W.heap.size, 2, none⟩ = some (.int .i64 r0) ∧ w'.cell? ⟨W.heap.size, 3, none⟩ = some (.int .i64 s0) ∧ w'.cell? ⟨W.heap.size + 1, 0, none⟩ = some (.int .i64 p1) ∧ w'.cell? ⟨W.heap.size + 1, 1, none⟩ = some (.int .i64 q1)) (((try go_split_ands); (try (refine ⟨?_, ?_, ?_, ?_, ?_, ?_, ?_, ?_, ?_⟩)) <;> first | (with_reducible assumption) | (with_reducible exact keep_drew (by with_reducible assumption)) | (with_reducible exact held_cell hb (by with_reducible assumption)) | (with_reducible exact held_size hb (by with_reducible assumption)) | (with_reducible exact keep_new (by with_reducible assumption)) | (with_reducible exact keep_alloc (by with_reducible assumption) (by dsimp only; omega)) | (with_reducible exact keep_drew (keep_new (by with_reducible assumption))) | (with_reducible exact keep_drew (held_cell hb (by with_reducible assumption))) | ((with_reducible refine keep_set ?_ (by dsimp only; omega)); (repeat (with_reducible refine keep_set ?_ (by dsimp only; omega))); first | (with_reducible assumption) | (with_reducible exact held_cell hb (by with_reducible assumption))) | ((repeat' (first | (with_reducible exact Below.refl _ _) | (with_reducible assumption) | (with_reducible refine below_drewN ?_ _) | (with_reducible refine Below.drew ?_) | (with_reducible refine Below.alloc ?_ ?_ _) | (with_reducible refine Below.setCell ?_ ?_ _) | (with_reducible refine Below.trans ?_ (Below.mono (by with_reducible assumption) ?_)) | go_size | (dsimp only; omega))); done) | (go_size; done) | (with_reducible exact held_cell (by with_reducible assumption) (by with_reducible assumption)) | (with_reducible exact held_size (by with_reducible assumption) (by with_reducible assumption)) | (go_keep; done))) (first | (go_at_call_of 16 (Value.agg #[.int .i64 p0, .int .i64 q0, .int .i64 r0, .int .i64 s0]); refine (toMatrix_c _ _ _ _ _).mono ?_; rintro e wt0 ⟨rfl, hb⟩; have kk := fun (b o : Nat) (h : b < _) => hb.cell (p := ⟨b, o, none⟩) h; have ff := fun (b o : Nat) (h : b < _) => hb.frozen (p := ⟨b, o, none⟩) h; have zz := hb.size; (try simp only [World.size_alloc, World.size_drew] at zz); (try have zwt0_0 : W.heap.size + 2 < wt0.heap.size := (by omega)); (try have zwt0_2 : wt1.heap.size < wt0.heap.size := (by omega))) | (go_at_call_of 17 (Value.agg #[.int .i64 p1, .int .i64 q1]); refine (toFraction_c _ _ _).mono ?_; rintro e wt1 ⟨rfl, hb⟩; have kk := fun (b o : Nat) (h : b < _) => hb.cell (p := ⟨b, o, none⟩) h; have ff := fun (b o : Nat) (h : b < _) => hb.frozen (p := ⟨b, o, none⟩) h; have zz := hb.size; (try simp only [World.size_alloc, World.size_drew] at zz); (try have zwt1_0 : W.heap.size + 2 < wt1.heap.size := (by omega)); (try have zwt1_1 : wt0.heap.size < wt1.heap.size := (by omega))) | (go_at_call 15; refine (K2.out _).mono ?_; rintro e wa ⟨rfl, hb⟩; have kk := fun (b o : Nat) (h : b < _) => hb.cell (p := ⟨b, o, none⟩) h; have ff := fun (b o : Nat) (h : b < _) => hb.frozen (p := ⟨b, o, none⟩) h; have zz := hb.size; (try simp only [World.size_alloc, World.size_drew] at zz); (try have zwa_0 : W.heap.size + 2 < wa.heap.size := (by omega)); (try have zwa_1 : wt0.heap.size < wa.heap.size := (by omega)); (try have zwa_2 : wt1.heap.size < wa.heap.size := (by omega))))
    all_goals go_split_ands
    all_goals (go_wp2_with fail)
    all_goals go_meet
    all_goals (refine ⟨_, rfl, rfl, ?_, ?_, ?_, ?_, ?_, ?_, ?_, ?_, ?_, ?_, ?_⟩ <;> first | (with_reducible assumption) | (go_keep; done) | (go_simp; done) | ((repeat' (first | (with_reducible exact Below.refl _ _) | (with_reducible assumption) | (with_reducible refine below_drewN ?_ _) | (with_reducible refine Below.drew ?_) | (with_reducible refine Below.alloc ?_ ?_ _) | (with_reducible refine Below.setCell ?_ ?_ _) | (with_reducible refine Below.trans ?_ (Below.mono (by with_reducible assumption) ?_)) | go_size | (dsimp only; omega))); done) | (go_size; done) | ((repeat (with_reducible refine keep_set ?_ (by dsimp only; omega))); first | (with_reducible assumption) | (go_keep; done)))
  case rest =>
    obtain ⟨g, rfl, rfl, hg0, hg1, hx0, hx1, hB, hw0, hw1, hw2, hw3, hw4, hw5⟩ := hcut
    have hg2 : W.heap.size + 1 < wc.heap.size := Nat.lt_trans hg0 hg1
    go_upto_region 2 with fail
    go_cut [7, 8] (fun v7 v8 wx => ∃ g' : Nat, v7 = .pointer (some ⟨g', 0, none⟩) ∧ v8 = .int .i64 x2 ∧ W.heap.size + 1 < g' ∧ g' < wx.heap.size ∧ wx.cell? ⟨g', 0, none⟩ = some (.int .i64 x0) ∧ wx.cell? ⟨g', 1, none⟩ = some (.int .i64 x1) ∧ Below W.heap.size W wx ∧ wx.cell? ⟨g, 0, none⟩ = some (.int .i64 x0) ∧ wx.cell? ⟨g, 1, none⟩ = some (.int .i64 x1))
    case first =>
      go_region_held3 (fun w' => Below W.heap.size W w' ∧ W.heap.size < w'.heap.size ∧ W.heap.size + 1 < w'.heap.size ∧ g < w'.heap.size ∧ w'.cell? ⟨W.heap.size, 0, none⟩ = some (.int .i64 p0) ∧ w'.cell? ⟨W.heap.size, 1, none⟩ = some (.int .i64 q0) ∧ w'.cell? ⟨W.heap.size, 2, none⟩ = some (.int .i64 r0) ∧ w'.cell? ⟨W.heap.size, 3, none⟩ = some (.int .i64 s0) ∧ w'.cell? ⟨W.heap.size + 1, 0, none⟩ = some (.int .i64 p1) ∧ w'.cell? ⟨W.heap.size + 1, 1, none⟩ = some (.int .i64 q1) ∧ w'.cell? ⟨g, 0, none⟩ = some (.int .i64 x0) ∧ w'.cell? ⟨g, 1, none⟩ = some (.int .i64 x1)) (((try go_split_ands); (try (refine ⟨?_, ?_, ?_, ?_, ?_, ?_, ?_, ?_, ?_, ?_, ?_, ?_⟩)) <;> first | (with_reducible assumption) | (with_reducible exact keep_drew (by with_reducible assumption)) | (with_reducible exact held_cell hb (by with_reducible assumption)) | (with_reducible exact held_size hb (by with_reducible assumption)) | (with_reducible exact keep_new (by with_reducible assumption)) | (with_reducible exact keep_alloc (by with_reducible assumption) (by dsimp only; omega)) | (with_reducible exact keep_drew (keep_new (by with_reducible assumption))) | (with_reducible exact keep_drew (held_cell hb (by with_reducible assumption))) | ((with_reducible refine keep_set ?_ (by dsimp only; omega)); (repeat (with_reducible refine keep_set ?_ (by dsimp only; omega))); first | (with_reducible assumption) | (with_reducible exact held_cell hb (by with_reducible assumption))) | ((repeat' (first | (with_reducible exact Below.refl _ _) | (with_reducible assumption) | (with_reducible refine below_drewN ?_ _) | (with_reducible refine Below.drew ?_) | (with_reducible refine Below.alloc ?_ ?_ _) | (with_reducible refine Below.setCell ?_ ?_ _) | (with_reducible refine Below.trans ?_ (Below.mono (by with_reducible assumption) ?_)) | go_size | (dsimp only; omega))); done) | (go_size; done) | (with_reducible exact held_cell (by with_reducible assumption) (by with_reducible assumption)) | (with_reducible exact held_size (by with_reducible assumption) (by with_reducible assumption)) | (go_keep; done))) (first | (go_at_call_of 16 (Value.agg #[.int .i64 p0, .int .i64 q0, .int .i64 r0, .int .i64 s0]); refine (toMatrix_c _ _ _ _ _).mono ?_; rintro e wt0 ⟨rfl, hb⟩; have kk := fun (b o : Nat) (h : b < _) => hb.cell (p := ⟨b, o, none⟩) h; have ff := fun (b o : Nat) (h : b < _) => hb.frozen (p := ⟨b, o, none⟩) h; have zz := hb.size; (try simp only [World.size_alloc, World.size_drew] at zz); (try have zwt0_0 : wc.heap.size < wt0.heap.size := (by omega)); (try have zwt0_2 : wt1.heap.size < wt0.heap.size := (by omega))) | (go_at_call_of 17 (Value.agg #[.int .i64 p1, .int .i64 q1]); refine (toFraction_c _ _ _).mono ?_; rintro e wt1 ⟨rfl, hb⟩; have kk := fun (b o : Nat) (h : b < _) => hb.cell (p := ⟨b, o, none⟩) h; have ff := fun (b o : Nat) (h : b < _) => hb.frozen (p := ⟨b, o, none⟩) h; have zz := hb.size; (try simp only [World.size_alloc, World.size_drew] at zz); (try have zwt1_0 : wc.heap.size < wt1.heap.size := (by omega)); (try have zwt1_1 : wt0.heap.size < wt1.heap.size := (by omega))) | (go_at_call 18; refine (K1.out _).mono ?_; rintro e wb ⟨rfl, hb⟩; have kk := fun (b o : Nat) (h : b < _) => hb.cell (p := ⟨b, o, none⟩) h; have ff := fun (b o : Nat) (h : b < _) => hb.frozen (p := ⟨b, o, none⟩) h; have zz := hb.size; (try simp only [World.size_alloc, World.size_drew] at zz); (try have zwb_0 : wc.heap.size < wb.heap.size := (by omega)); (try have zwb_1 : wt0.heap.size < wb.heap.size := (by omega)); (try have zwb_2 : wt1.heap.size < wb.heap.size := (by omega))))
      all_goals go_split_ands
      all_goals (go_wp2_with fail)
      all_goals go_meet
      all_goals (refine ⟨_, rfl, rfl, ?_, ?_, ?_, ?_, ?_, ?_, ?_⟩ <;> first | (with_reducible assumption) | (go_keep; done) | (go_simp; done) | ((repeat' (first | (with_reducible exact Below.refl _ _) | (with_reducible assumption) | (with_reducible refine below_drewN ?_ _) | (with_reducible refine Below.drew ?_) | (with_reducible refine Below.alloc ?_ ?_ _) | (with_reducible refine Below.setCell ?_ ?_ _) | (with_reducible refine Below.trans ?_ (Below.mono (by with_reducible assumption) ?_)) | go_size | (dsimp only; omega))); done) | (go_size; done) | ((repeat (with_reducible refine keep_set ?_ (by dsimp only; omega))); first | (with_reducible assumption) | (go_keep; done)))
    case rest =>
      obtain ⟨g', rfl, rfl, hh0, hh1, hy0, hy1, hB2, hz0, hz1⟩ := hcut
      go_wp2_with fail
      refine (eqFraction_same _ _ _).mono ?_
      rintro e w9 ⟨rfl, b9⟩
      have zzb9 := b9.size; (try simp at zzb9); clear zzb9
      go_wp2
      go_returns
      exact ⟨rfl, (by repeat' (first | (with_reducible exact Below.refl _ _) | (with_reducible assumption) | (with_reducible refine below_drewN ?_ _) | (with_reducible refine Below.drew ?_) | (with_reducible refine Below.alloc ?_ ?_ _) | (with_reducible refine Below.setCell ?_ ?_ _) | (with_reducible refine Below.trans ?_ (Below.mono (by with_reducible assumption) ?_)) | go_size | (dsimp only; omega)))⟩

end Go.Proofs.Ytiilkonoaomchaa
