/- Draws of matrices that keep a fraction. [genGY.py] -/
import Derived.Test.YtlkhhpckgcdeeaaGreatDoorGT
import Derived.Deep.RegionHeld3
import Derived.Deep.DeepCutAuto
namespace Go.Proofs.YtlkhhpckgcdeeaaGreatDoor
open Go.RowKit
set_option linter.unusedVariables false
set_option linter.unusedSimpArgs false
set_option maxRecDepth 100000 in
set_option maxHeartbeats 4000000 in
theorem drawKeptFraction_c (v : Value) (w : World) (hv : CodeV w v) :
    Calls Tryz.prog 14 #[v] w fun e w' => AnyM e ∧ Below w.heap.size w w' := by
  go_enter Tryz.func14, Tryz.ntmps14
  obtain ⟨R, hR⟩ : ∃ R, w.heap.size = R := ⟨_, rfl⟩
  have HRW := Lib.hid hR
  go_wp2_with fail
  generalize hw0 : World.alloc _ _ = w0
  have cw0_R_0 : w0.cell? ⟨R, 0, none⟩ = some (.int .i64 0) := by subst hw0 hR; first | (go_cell; done) | (go_simp; done)
  have cw0_R_1 : w0.cell? ⟨R, 1, none⟩ = some (.int .i64 0) := by subst hw0 hR; first | (go_cell; done) | (go_simp; done)
  have cw0_R_2 : w0.cell? ⟨R, 2, none⟩ = some (.int .i64 0) := by subst hw0 hR; first | (go_cell; done) | (go_simp; done)
  have cw0_R_3 : w0.cell? ⟨R, 3, none⟩ = some (.int .i64 0) := by subst hw0 hR; first | (go_cell; done) | (go_simp; done)
  have cw0_R_f : ∀ i, w0.frozen? ⟨R, i, none⟩ = false := by intro i; subst hw0 hR; first | (go_cell; done) | (go_simp; done)
  have hB0 : Below R w w0 := by subst hw0; rw [← hR]; exact (by repeat' (first | (with_reducible exact Below.refl _ _) | (with_reducible assumption) | (with_reducible refine below_drewN ?_ _) | (with_reducible refine Below.drew ?_) | (with_reducible refine Below.alloc ?_ ?_ _) | (with_reducible refine Below.setCell ?_ ?_ _) | (with_reducible refine Below.trans ?_ (Below.mono (by with_reducible assumption) ?_)) | go_size | (dsimp only; omega)))
  have hq0 : R < w0.heap.size := by subst hw0; go_size
  clear hw0
  refine (from_c v w0 (by have h := hv.below (hR ▸ hB0); exact h)).mono ?_
  rintro e w1 ⟨s, rfl, hs, hS1, b1⟩
  have hq1 := b1.size
  have hsl := hS1.lt
  have cw1_R_0 : w1.cell? ⟨R, 0, none⟩ = some (.int .i64 0) := by rw [b1.cell (p := ⟨R, 0, none⟩) (by dsimp only; omega)]; exact cw0_R_0
  have cw1_R_1 : w1.cell? ⟨R, 1, none⟩ = some (.int .i64 0) := by rw [b1.cell (p := ⟨R, 1, none⟩) (by dsimp only; omega)]; exact cw0_R_1
  have cw1_R_2 : w1.cell? ⟨R, 2, none⟩ = some (.int .i64 0) := by rw [b1.cell (p := ⟨R, 2, none⟩) (by dsimp only; omega)]; exact cw0_R_2
  have cw1_R_3 : w1.cell? ⟨R, 3, none⟩ = some (.int .i64 0) := by rw [b1.cell (p := ⟨R, 3, none⟩) (by dsimp only; omega)]; exact cw0_R_3
  have cw1_R_f : ∀ i, w1.frozen? ⟨R, i, none⟩ = false := fun i => by rw [b1.frozen (p := ⟨R, i, none⟩) (by dsimp only; omega)]; exact cw0_R_f i
  clear cw0_R_0 cw0_R_1 cw0_R_2 cw0_R_3 cw0_R_f
  have hB1 : Below R w w1 := hB0.trans (b1.mono (by omega))
  clear hB0 b1 hR
  go_wp2_with fail
  refine (next_c s 2 _ hS1 (by omega) (by omega)).mono ?_
  rintro e w2 ⟨x, rfl, -, -, hS2, hK2⟩
  have hq2 := hK2.size
  have cw2_R_0 : w2.cell? ⟨R, 0, none⟩ = some (.int .i64 0) := by rw [hK2.cell (p := ⟨R, 0, none⟩) (by dsimp only; omega) (by dsimp only; omega)]; exact cw1_R_0
  have cw2_R_1 : w2.cell? ⟨R, 1, none⟩ = some (.int .i64 0) := by rw [hK2.cell (p := ⟨R, 1, none⟩) (by dsimp only; omega) (by dsimp only; omega)]; exact cw1_R_1
  have cw2_R_2 : w2.cell? ⟨R, 2, none⟩ = some (.int .i64 0) := by rw [hK2.cell (p := ⟨R, 2, none⟩) (by dsimp only; omega) (by dsimp only; omega)]; exact cw1_R_2
  have cw2_R_3 : w2.cell? ⟨R, 3, none⟩ = some (.int .i64 0) := by rw [hK2.cell (p := ⟨R, 3, none⟩) (by dsimp only; omega) (by dsimp only; omega)]; exact cw1_R_3
  have cw2_R_f : ∀ i, w2.frozen? ⟨R, i, none⟩ = false := fun i => by rw [hK2.frozen (p := ⟨R, i, none⟩) (by dsimp only; omega) (by dsimp only; omega)]; exact cw1_R_f i
  clear cw1_R_0 cw1_R_1 cw1_R_2 cw1_R_3 cw1_R_f
  have hB2 : Below R w w2 := hB1.trans ((hK2.mono (by omega)).below (by omega))
  clear hB1 hS1 hK2
  by_cases h0 : x = 0
  · subst h0
    go_wp2_with fail
    refine (spoil_c s _ hS2).mono ?_
    rintro e w3 ⟨⟨p, q, r, t, rfl⟩, hS3, hK3⟩
    have hq3 := hK3.size
    have cw3_R_0 : w3.cell? ⟨R, 0, none⟩ = some (.int .i64 0) := by rw [hK3.cell (p := ⟨R, 0, none⟩) (by dsimp only; omega) (by dsimp only; omega)]; exact cw2_R_0
    have cw3_R_1 : w3.cell? ⟨R, 1, none⟩ = some (.int .i64 0) := by rw [hK3.cell (p := ⟨R, 1, none⟩) (by dsimp only; omega) (by dsimp only; omega)]; exact cw2_R_1
    have cw3_R_2 : w3.cell? ⟨R, 2, none⟩ = some (.int .i64 0) := by rw [hK3.cell (p := ⟨R, 2, none⟩) (by dsimp only; omega) (by dsimp only; omega)]; exact cw2_R_2
    have cw3_R_3 : w3.cell? ⟨R, 3, none⟩ = some (.int .i64 0) := by rw [hK3.cell (p := ⟨R, 3, none⟩) (by dsimp only; omega) (by dsimp only; omega)]; exact cw2_R_3
    have cw3_R_f : ∀ i, w3.frozen? ⟨R, i, none⟩ = false := fun i => by rw [hK3.frozen (p := ⟨R, i, none⟩) (by dsimp only; omega) (by dsimp only; omega)]; exact cw2_R_f i
    clear cw2_R_0 cw2_R_1 cw2_R_2 cw2_R_3 cw2_R_f
    have hB3 : Below R w w3 := hB2.trans ((hK3.mono (by omega)).below (by omega))
    have hR3 : R < w3.heap.size := by omega
    clear hB2 hS2 hK3
    go_wp2
    exact bodyPost_ret (v := .agg #[.int .i64 p, .int .i64 q, .int .i64 r, .int .i64 t]) (by simp only [results, Tryz.results14]; go_simp) rfl ⟨⟨p, q, r, t, rfl⟩, by rw [HRW.out]; exact (by repeat' (first | (with_reducible exact Below.refl _ _) | (with_reducible assumption) | (with_reducible refine below_drewN ?_ _) | (with_reducible refine Below.drew ?_) | (with_reducible refine Below.alloc ?_ ?_ _) | (with_reducible refine Below.setCell ?_ ?_ _) | (with_reducible refine Below.trans ?_ (Below.mono (by with_reducible assumption) ?_)) | go_size | (dsimp only; omega)))⟩
  have h0' : (x == 0) = false := by simpa using h0
  go_wp2_with fail
  refine (next_c s 5 _ hS2 (by omega) (by omega)).mono ?_
  rintro e w3 ⟨y, rfl, hy0, hy1, hS3, hK3⟩
  have hy2 := hy1 (by omega)
  have hq3 := hK3.size
  have cw3_R_0 : w3.cell? ⟨R, 0, none⟩ = some (.int .i64 0) := by rw [hK3.cell (p := ⟨R, 0, none⟩) (by dsimp only; omega) (by dsimp only; omega)]; exact cw2_R_0
  have cw3_R_1 : w3.cell? ⟨R, 1, none⟩ = some (.int .i64 0) := by rw [hK3.cell (p := ⟨R, 1, none⟩) (by dsimp only; omega) (by dsimp only; omega)]; exact cw2_R_1
  have cw3_R_2 : w3.cell? ⟨R, 2, none⟩ = some (.int .i64 0) := by rw [hK3.cell (p := ⟨R, 2, none⟩) (by dsimp only; omega) (by dsimp only; omega)]; exact cw2_R_2
  have cw3_R_3 : w3.cell? ⟨R, 3, none⟩ = some (.int .i64 0) := by rw [hK3.cell (p := ⟨R, 3, none⟩) (by dsimp only; omega) (by dsimp only; omega)]; exact cw2_R_3
  have cw3_R_f : ∀ i, w3.frozen? ⟨R, i, none⟩ = false := fun i => by rw [hK3.frozen (p := ⟨R, i, none⟩) (by dsimp only; omega) (by dsimp only; omega)]; exact cw2_R_f i
  clear cw2_R_0 cw2_R_1 cw2_R_2 cw2_R_3 cw2_R_f
  have hB3 : Below R w w3 := hB2.trans ((hK3.mono (by omega)).below (by omega))
  clear hB2 hS2 hK3 hy1
  go_wp2_with fail
  refine (drawWord_c s y _ hS3 (by omega) (by omega)).mono ?_
  rintro e w4 ⟨p', q', r', t', rfl, hMB, hS4, hK4⟩
  have hq4 := hK4.size
  have cw4_R_0 : w4.cell? ⟨R, 0, none⟩ = some (.int .i64 0) := by rw [hK4.cell (p := ⟨R, 0, none⟩) (by dsimp only; omega) (by dsimp only; omega)]; exact cw3_R_0
  have cw4_R_1 : w4.cell? ⟨R, 1, none⟩ = some (.int .i64 0) := by rw [hK4.cell (p := ⟨R, 1, none⟩) (by dsimp only; omega) (by dsimp only; omega)]; exact cw3_R_1
  have cw4_R_2 : w4.cell? ⟨R, 2, none⟩ = some (.int .i64 0) := by rw [hK4.cell (p := ⟨R, 2, none⟩) (by dsimp only; omega) (by dsimp only; omega)]; exact cw3_R_2
  have cw4_R_3 : w4.cell? ⟨R, 3, none⟩ = some (.int .i64 0) := by rw [hK4.cell (p := ⟨R, 3, none⟩) (by dsimp only; omega) (by dsimp only; omega)]; exact cw3_R_3
  have cw4_R_f : ∀ i, w4.frozen? ⟨R, i, none⟩ = false := fun i => by rw [hK4.frozen (p := ⟨R, i, none⟩) (by dsimp only; omega) (by dsimp only; omega)]; exact cw3_R_f i
  clear cw3_R_0 cw3_R_1 cw3_R_2 cw3_R_3 cw3_R_f
  have hB4 : Below R w w4 := hB3.trans ((hK4.mono (by omega)).below (by omega))
  clear hB3 hS3 hK4
  go_wp2_with fail
  generalize hw5 : World.alloc _ _ = w5
  obtain ⟨bn, hbn⟩ : ∃ b, w4.heap.size = b := ⟨_, rfl⟩
  have bb5 : Below bn w4 w5 := by subst hw5 hbn; exact (by repeat' (first | (with_reducible exact Below.refl _ _) | (with_reducible assumption) | (with_reducible refine below_drewN ?_ _) | (with_reducible refine Below.drew ?_) | (with_reducible refine Below.alloc ?_ ?_ _) | (with_reducible refine Below.setCell ?_ ?_ _) | (with_reducible refine Below.trans ?_ (Below.mono (by with_reducible assumption) ?_)) | go_size | (dsimp only; omega)))
  have cw5_R_0 : w5.cell? ⟨R, 0, none⟩ = some (.int .i64 0) := by rw [bb5.cell (p := ⟨R, 0, none⟩) (by dsimp only; omega)]; exact cw4_R_0
  have cw5_R_1 : w5.cell? ⟨R, 1, none⟩ = some (.int .i64 0) := by rw [bb5.cell (p := ⟨R, 1, none⟩) (by dsimp only; omega)]; exact cw4_R_1
  have cw5_R_2 : w5.cell? ⟨R, 2, none⟩ = some (.int .i64 0) := by rw [bb5.cell (p := ⟨R, 2, none⟩) (by dsimp only; omega)]; exact cw4_R_2
  have cw5_R_3 : w5.cell? ⟨R, 3, none⟩ = some (.int .i64 0) := by rw [bb5.cell (p := ⟨R, 3, none⟩) (by dsimp only; omega)]; exact cw4_R_3
  have cw5_R_f : ∀ i, w5.frozen? ⟨R, i, none⟩ = false := fun i => by rw [bb5.frozen (p := ⟨R, i, none⟩) (by dsimp only; omega)]; exact cw4_R_f i
  clear cw4_R_0 cw4_R_1 cw4_R_2 cw4_R_3 cw4_R_f
  have cw5_bn_0 : w5.cell? ⟨bn, 0, none⟩ = some (.int .i64 p') := by subst hw5 hbn; first | (go_cell; done) | (go_simp; done)
  have cw5_bn_1 : w5.cell? ⟨bn, 1, none⟩ = some (.int .i64 q') := by subst hw5 hbn; first | (go_cell; done) | (go_simp; done)
  have cw5_bn_2 : w5.cell? ⟨bn, 2, none⟩ = some (.int .i64 r') := by subst hw5 hbn; first | (go_cell; done) | (go_simp; done)
  have cw5_bn_3 : w5.cell? ⟨bn, 3, none⟩ = some (.int .i64 t') := by subst hw5 hbn; first | (go_cell; done) | (go_simp; done)
  have cw5_bn_f : ∀ i, w5.frozen? ⟨bn, i, none⟩ = false := by intro i; subst hw5 hbn; first | (go_cell; done) | (go_simp; done)
  have hq5 : bn < w5.heap.size := by subst hw5 hbn; simp
  have hS5 := hS4.below bb5 (by have := hS4.lt; omega)
  have hB5 : Below R w w5 := hB4.trans (bb5.mono (by omega))
  have hsbn : s < bn := by have := hS4.lt; omega
  have hobn : w4.heap.size ≤ bn := by omega
  (try rw [hbn])
  clear hw5 hbn bb5 hS4 hB4
  refine (next_c s 11 _ hS5 (by omega) (by omega)).mono ?_
  rintro e w6 ⟨z, rfl, hz0, hz1, hS6, hK6⟩
  have hz2 := hz1 (by omega)
  have hq6 := hK6.size
  have cw6_R_0 : w6.cell? ⟨R, 0, none⟩ = some (.int .i64 0) := by rw [hK6.cell (p := ⟨R, 0, none⟩) (by dsimp only; omega) (by dsimp only; omega)]; exact cw5_R_0
  have cw6_R_1 : w6.cell? ⟨R, 1, none⟩ = some (.int .i64 0) := by rw [hK6.cell (p := ⟨R, 1, none⟩) (by dsimp only; omega) (by dsimp only; omega)]; exact cw5_R_1
  have cw6_R_2 : w6.cell? ⟨R, 2, none⟩ = some (.int .i64 0) := by rw [hK6.cell (p := ⟨R, 2, none⟩) (by dsimp only; omega) (by dsimp only; omega)]; exact cw5_R_2
  have cw6_R_3 : w6.cell? ⟨R, 3, none⟩ = some (.int .i64 0) := by rw [hK6.cell (p := ⟨R, 3, none⟩) (by dsimp only; omega) (by dsimp only; omega)]; exact cw5_R_3
  have cw6_R_f : ∀ i, w6.frozen? ⟨R, i, none⟩ = false := fun i => by rw [hK6.frozen (p := ⟨R, i, none⟩) (by dsimp only; omega) (by dsimp only; omega)]; exact cw5_R_f i
  have cw6_bn_0 : w6.cell? ⟨bn, 0, none⟩ = some (.int .i64 p') := by rw [hK6.cell (p := ⟨bn, 0, none⟩) (by dsimp only; omega) (by dsimp only; omega)]; exact cw5_bn_0
  have cw6_bn_1 : w6.cell? ⟨bn, 1, none⟩ = some (.int .i64 q') := by rw [hK6.cell (p := ⟨bn, 1, none⟩) (by dsimp only; omega) (by dsimp only; omega)]; exact cw5_bn_1
  have cw6_bn_2 : w6.cell? ⟨bn, 2, none⟩ = some (.int .i64 r') := by rw [hK6.cell (p := ⟨bn, 2, none⟩) (by dsimp only; omega) (by dsimp only; omega)]; exact cw5_bn_2
  have cw6_bn_3 : w6.cell? ⟨bn, 3, none⟩ = some (.int .i64 t') := by rw [hK6.cell (p := ⟨bn, 3, none⟩) (by dsimp only; omega) (by dsimp only; omega)]; exact cw5_bn_3
  have cw6_bn_f : ∀ i, w6.frozen? ⟨bn, i, none⟩ = false := fun i => by rw [hK6.frozen (p := ⟨bn, i, none⟩) (by dsimp only; omega) (by dsimp only; omega)]; exact cw5_bn_f i
  clear cw5_R_0 cw5_R_1 cw5_R_2 cw5_R_3 cw5_R_f cw5_bn_0 cw5_bn_1 cw5_bn_2 cw5_bn_3 cw5_bn_f
  have hB6 : Below R w w6 := hB5.trans ((hK6.mono (by omega)).below (by omega))
  clear hB5 hS5 hK6 hz1
  go_wp2_with fail
  generalize hw7 : World.alloc _ _ = w7
  obtain ⟨bm, hbm⟩ : ∃ b, w6.heap.size = b := ⟨_, rfl⟩
  have bb7 : Below bm w6 w7 := by subst hw7 hbm; exact (by repeat' (first | (with_reducible exact Below.refl _ _) | (with_reducible assumption) | (with_reducible refine below_drewN ?_ _) | (with_reducible refine Below.drew ?_) | (with_reducible refine Below.alloc ?_ ?_ _) | (with_reducible refine Below.setCell ?_ ?_ _) | (with_reducible refine Below.trans ?_ (Below.mono (by with_reducible assumption) ?_)) | go_size | (dsimp only; omega)))
  have cw7_R_0 : w7.cell? ⟨R, 0, none⟩ = some (.int .i64 0) := by rw [bb7.cell (p := ⟨R, 0, none⟩) (by dsimp only; omega)]; exact cw6_R_0
  have cw7_R_1 : w7.cell? ⟨R, 1, none⟩ = some (.int .i64 0) := by rw [bb7.cell (p := ⟨R, 1, none⟩) (by dsimp only; omega)]; exact cw6_R_1
  have cw7_R_2 : w7.cell? ⟨R, 2, none⟩ = some (.int .i64 0) := by rw [bb7.cell (p := ⟨R, 2, none⟩) (by dsimp only; omega)]; exact cw6_R_2
  have cw7_R_3 : w7.cell? ⟨R, 3, none⟩ = some (.int .i64 0) := by rw [bb7.cell (p := ⟨R, 3, none⟩) (by dsimp only; omega)]; exact cw6_R_3
  have cw7_R_f : ∀ i, w7.frozen? ⟨R, i, none⟩ = false := fun i => by rw [bb7.frozen (p := ⟨R, i, none⟩) (by dsimp only; omega)]; exact cw6_R_f i
  have cw7_bn_0 : w7.cell? ⟨bn, 0, none⟩ = some (.int .i64 p') := by rw [bb7.cell (p := ⟨bn, 0, none⟩) (by dsimp only; omega)]; exact cw6_bn_0
  have cw7_bn_1 : w7.cell? ⟨bn, 1, none⟩ = some (.int .i64 q') := by rw [bb7.cell (p := ⟨bn, 1, none⟩) (by dsimp only; omega)]; exact cw6_bn_1
  have cw7_bn_2 : w7.cell? ⟨bn, 2, none⟩ = some (.int .i64 r') := by rw [bb7.cell (p := ⟨bn, 2, none⟩) (by dsimp only; omega)]; exact cw6_bn_2
  have cw7_bn_3 : w7.cell? ⟨bn, 3, none⟩ = some (.int .i64 t') := by rw [bb7.cell (p := ⟨bn, 3, none⟩) (by dsimp only; omega)]; exact cw6_bn_3
  have cw7_bn_f : ∀ i, w7.frozen? ⟨bn, i, none⟩ = false := fun i => by rw [bb7.frozen (p := ⟨bn, i, none⟩) (by dsimp only; omega)]; exact cw6_bn_f i
  clear cw6_R_0 cw6_R_1 cw6_R_2 cw6_R_3 cw6_R_f cw6_bn_0 cw6_bn_1 cw6_bn_2 cw6_bn_3 cw6_bn_f
  obtain ⟨p, q, r, t, cw7_bm_0, cw7_bm_1, cw7_bm_2, cw7_bm_3, hMA⟩ : ∃ p q r t : Int, w7.cell? ⟨bm, 0, none⟩ = some (.int .i64 p) ∧ w7.cell? ⟨bm, 1, none⟩ = some (.int .i64 q) ∧ w7.cell? ⟨bm, 2, none⟩ = some (.int .i64 r) ∧ w7.cell? ⟨bm, 3, none⟩ = some (.int .i64 t) ∧ isM p q r t = true := by subst hw7 hbm; exact ⟨1, z - 5, 0, 1, by first | (go_cell; done) | (go_simp; done), by first | (go_cell; done) | (go_simp; done), by first | (go_cell; done) | (go_simp; done), by first | (go_cell; done) | (go_simp; done), isM_iff.mpr ⟨by omega, by omega, by omega, by omega, by simp⟩⟩
  have cw7_bm_f : ∀ i, w7.frozen? ⟨bm, i, none⟩ = false := by subst hw7 hbm; intro i; first | (go_cell; done) | (go_simp; done)
  have hq7 : bm < w7.heap.size := by subst hw7 hbm; simp
  have hS7 := hS6.below bb7 (by have := hS6.lt; omega)
  have hB7 : Below R w w7 := hB6.trans (bb7.mono (by omega))
  have hnm : bn < bm := by omega
  (try rw [hbm])
  have hRn : R < bn := by omega
  clear hw7 hbm bb7 hS6 hB6
  refine (next_c s 2 _ hS7 (by omega) (by omega)).mono ?_
  rintro e w8 ⟨x2, rfl, -, -, hS8, hK8⟩
  have hq8 := hK8.size
  have cw8_R_0 : w8.cell? ⟨R, 0, none⟩ = some (.int .i64 0) := by rw [hK8.cell (p := ⟨R, 0, none⟩) (by dsimp only; omega) (by dsimp only; omega)]; exact cw7_R_0
  have cw8_R_1 : w8.cell? ⟨R, 1, none⟩ = some (.int .i64 0) := by rw [hK8.cell (p := ⟨R, 1, none⟩) (by dsimp only; omega) (by dsimp only; omega)]; exact cw7_R_1
  have cw8_R_2 : w8.cell? ⟨R, 2, none⟩ = some (.int .i64 0) := by rw [hK8.cell (p := ⟨R, 2, none⟩) (by dsimp only; omega) (by dsimp only; omega)]; exact cw7_R_2
  have cw8_R_3 : w8.cell? ⟨R, 3, none⟩ = some (.int .i64 0) := by rw [hK8.cell (p := ⟨R, 3, none⟩) (by dsimp only; omega) (by dsimp only; omega)]; exact cw7_R_3
  have cw8_R_f : ∀ i, w8.frozen? ⟨R, i, none⟩ = false := fun i => by rw [hK8.frozen (p := ⟨R, i, none⟩) (by dsimp only; omega) (by dsimp only; omega)]; exact cw7_R_f i
  have cw8_bn_0 : w8.cell? ⟨bn, 0, none⟩ = some (.int .i64 p') := by rw [hK8.cell (p := ⟨bn, 0, none⟩) (by dsimp only; omega) (by dsimp only; omega)]; exact cw7_bn_0
  have cw8_bn_1 : w8.cell? ⟨bn, 1, none⟩ = some (.int .i64 q') := by rw [hK8.cell (p := ⟨bn, 1, none⟩) (by dsimp only; omega) (by dsimp only; omega)]; exact cw7_bn_1
  have cw8_bn_2 : w8.cell? ⟨bn, 2, none⟩ = some (.int .i64 r') := by rw [hK8.cell (p := ⟨bn, 2, none⟩) (by dsimp only; omega) (by dsimp only; omega)]; exact cw7_bn_2
  have cw8_bn_3 : w8.cell? ⟨bn, 3, none⟩ = some (.int .i64 t') := by rw [hK8.cell (p := ⟨bn, 3, none⟩) (by dsimp only; omega) (by dsimp only; omega)]; exact cw7_bn_3
  have cw8_bn_f : ∀ i, w8.frozen? ⟨bn, i, none⟩ = false := fun i => by rw [hK8.frozen (p := ⟨bn, i, none⟩) (by dsimp only; omega) (by dsimp only; omega)]; exact cw7_bn_f i
  have cw8_bm_0 : w8.cell? ⟨bm, 0, none⟩ = some (.int .i64 p) := by rw [hK8.cell (p := ⟨bm, 0, none⟩) (by dsimp only; omega) (by dsimp only; omega)]; exact cw7_bm_0
  have cw8_bm_1 : w8.cell? ⟨bm, 1, none⟩ = some (.int .i64 q) := by rw [hK8.cell (p := ⟨bm, 1, none⟩) (by dsimp only; omega) (by dsimp only; omega)]; exact cw7_bm_1
  have cw8_bm_2 : w8.cell? ⟨bm, 2, none⟩ = some (.int .i64 r) := by rw [hK8.cell (p := ⟨bm, 2, none⟩) (by dsimp only; omega) (by dsimp only; omega)]; exact cw7_bm_2
  have cw8_bm_3 : w8.cell? ⟨bm, 3, none⟩ = some (.int .i64 t) := by rw [hK8.cell (p := ⟨bm, 3, none⟩) (by dsimp only; omega) (by dsimp only; omega)]; exact cw7_bm_3
  have cw8_bm_f : ∀ i, w8.frozen? ⟨bm, i, none⟩ = false := fun i => by rw [hK8.frozen (p := ⟨bm, i, none⟩) (by dsimp only; omega) (by dsimp only; omega)]; exact cw7_bm_f i
  clear cw7_R_0 cw7_R_1 cw7_R_2 cw7_R_3 cw7_R_f cw7_bn_0 cw7_bn_1 cw7_bn_2 cw7_bn_3 cw7_bn_f cw7_bm_0 cw7_bm_1 cw7_bm_2 cw7_bm_3 cw7_bm_f
  have hB8 : Below R w w8 := hB7.trans ((hK8.mono (by omega)).below (by omega))
  have hR8 : bm < w8.heap.size := by omega
  clear hB7 hS7 hK8
  go_upto_if 25 with fail
  go_cut [] (fun wx => ∃ p2 q2 r2 t2 : Int, wx.cell? ⟨bm, 0, none⟩ = some (.int .i64 p2) ∧ wx.cell? ⟨bm, 1, none⟩ = some (.int .i64 q2) ∧ wx.cell? ⟨bm, 2, none⟩ = some (.int .i64 r2) ∧ wx.cell? ⟨bm, 3, none⟩ = some (.int .i64 t2) ∧ isM p2 q2 r2 t2 = true ∧ wx.cell? ⟨R, 0, none⟩ = some (.int .i64 0) ∧ wx.cell? ⟨R, 1, none⟩ = some (.int .i64 0) ∧ wx.cell? ⟨R, 2, none⟩ = some (.int .i64 0) ∧ wx.cell? ⟨R, 3, none⟩ = some (.int .i64 0) ∧ (∀ i, wx.frozen? ⟨R, i, none⟩ = false) ∧ wx.cell? ⟨bn, 0, none⟩ = some (.int .i64 p') ∧ wx.cell? ⟨bn, 1, none⟩ = some (.int .i64 q') ∧ wx.cell? ⟨bn, 2, none⟩ = some (.int .i64 r') ∧ wx.cell? ⟨bn, 3, none⟩ = some (.int .i64 t') ∧ Src s wx ∧ Below R w wx ∧ bm < wx.heap.size)
  case first =>
    by_cases h2 : x2 = 0
    · subst h2
      obtain ⟨⟨i0, i1⟩, ⟨i2, i3⟩, ⟨i4, i5⟩, ⟨i6, i7⟩, hdd⟩ := isM_iff.mp hMA
      have HDD := Lib.hid hdd
      clear hdd
      go_wp2_with fail
      refine (l01Negative_c p q r t _ i0 i1 i2 i3 i4 i5 i6 i7).mono ?_
      rintro e w9 ⟨rfl, b9⟩
      have hq9 := b9.size
      have hs8 := hS8.lt
      have cw9_R_0 : w9.cell? ⟨R, 0, none⟩ = some (.int .i64 0) := by rw [b9.cell (p := ⟨R, 0, none⟩) (by dsimp only; omega)]; exact cw8_R_0
      have cw9_R_1 : w9.cell? ⟨R, 1, none⟩ = some (.int .i64 0) := by rw [b9.cell (p := ⟨R, 1, none⟩) (by dsimp only; omega)]; exact cw8_R_1
      have cw9_R_2 : w9.cell? ⟨R, 2, none⟩ = some (.int .i64 0) := by rw [b9.cell (p := ⟨R, 2, none⟩) (by dsimp only; omega)]; exact cw8_R_2
      have cw9_R_3 : w9.cell? ⟨R, 3, none⟩ = some (.int .i64 0) := by rw [b9.cell (p := ⟨R, 3, none⟩) (by dsimp only; omega)]; exact cw8_R_3
      have cw9_R_f : ∀ i, w9.frozen? ⟨R, i, none⟩ = false := fun i => by rw [b9.frozen (p := ⟨R, i, none⟩) (by dsimp only; omega)]; exact cw8_R_f i
      have cw9_bn_0 : w9.cell? ⟨bn, 0, none⟩ = some (.int .i64 p') := by rw [b9.cell (p := ⟨bn, 0, none⟩) (by dsimp only; omega)]; exact cw8_bn_0
      have cw9_bn_1 : w9.cell? ⟨bn, 1, none⟩ = some (.int .i64 q') := by rw [b9.cell (p := ⟨bn, 1, none⟩) (by dsimp only; omega)]; exact cw8_bn_1
      have cw9_bn_2 : w9.cell? ⟨bn, 2, none⟩ = some (.int .i64 r') := by rw [b9.cell (p := ⟨bn, 2, none⟩) (by dsimp only; omega)]; exact cw8_bn_2
      have cw9_bn_3 : w9.cell? ⟨bn, 3, none⟩ = some (.int .i64 t') := by rw [b9.cell (p := ⟨bn, 3, none⟩) (by dsimp only; omega)]; exact cw8_bn_3
      have cw9_bn_f : ∀ i, w9.frozen? ⟨bn, i, none⟩ = false := fun i => by rw [b9.frozen (p := ⟨bn, i, none⟩) (by dsimp only; omega)]; exact cw8_bn_f i
      have cw9_bm_0 : w9.cell? ⟨bm, 0, none⟩ = some (.int .i64 p) := by rw [b9.cell (p := ⟨bm, 0, none⟩) (by dsimp only; omega)]; exact cw8_bm_0
      have cw9_bm_1 : w9.cell? ⟨bm, 1, none⟩ = some (.int .i64 q) := by rw [b9.cell (p := ⟨bm, 1, none⟩) (by dsimp only; omega)]; exact cw8_bm_1
      have cw9_bm_2 : w9.cell? ⟨bm, 2, none⟩ = some (.int .i64 r) := by rw [b9.cell (p := ⟨bm, 2, none⟩) (by dsimp only; omega)]; exact cw8_bm_2
      have cw9_bm_3 : w9.cell? ⟨bm, 3, none⟩ = some (.int .i64 t) := by rw [b9.cell (p := ⟨bm, 3, none⟩) (by dsimp only; omega)]; exact cw8_bm_3
      have cw9_bm_f : ∀ i, w9.frozen? ⟨bm, i, none⟩ = false := fun i => by rw [b9.frozen (p := ⟨bm, i, none⟩) (by dsimp only; omega)]; exact cw8_bm_f i
      clear cw8_R_0 cw8_R_1 cw8_R_2 cw8_R_3 cw8_R_f cw8_bn_0 cw8_bn_1 cw8_bn_2 cw8_bn_3 cw8_bn_f cw8_bm_0 cw8_bm_1 cw8_bm_2 cw8_bm_3 cw8_bm_f
      have hS9 := hS8.below b9 hs8
      have hB9 : Below R w w9 := hB8.trans (b9.mono (by omega))
      clear hS8 hB8 b9
      go_wp2_with fail
      go_meet
      generalize hw10 : World.setCell _ _ _ = w10
      exact ⟨-p, -q, -r, -t, by subst hw10; go_simp, by subst hw10; go_simp, by subst hw10; go_simp, by subst hw10; go_simp, isM_iff.mpr ⟨by omega, by omega, by omega, by omega, by have := HDD.out; rw [Int.neg_mul_neg, Int.neg_mul_neg]; exact this⟩, by subst hw10; go_simp, by subst hw10; go_simp, by subst hw10; go_simp, by subst hw10; go_simp, by subst hw10; intro i; go_simp, by subst hw10; go_simp, by subst hw10; go_simp, by subst hw10; go_simp, by subst hw10; go_simp, by subst hw10; exact (by repeat' (first | (with_reducible assumption) | (with_reducible refine Src.drewN ?_ _) | (with_reducible refine Src.drew ?_) | (with_reducible refine Src.alloc ?_ _) | (with_reducible refine Src.setCell ?_ ?_ _) | (with_reducible refine Src.below ?_ (by with_reducible assumption) ?_) | go_size | (dsimp only; omega))), by subst hw10; exact (by repeat' (first | (with_reducible exact Below.refl _ _) | (with_reducible assumption) | (with_reducible refine below_drewN ?_ _) | (with_reducible refine Below.drew ?_) | (with_reducible refine Below.alloc ?_ ?_ _) | (with_reducible refine Below.setCell ?_ ?_ _) | (with_reducible refine Below.trans ?_ (Below.mono (by with_reducible assumption) ?_)) | go_size | (dsimp only; omega))), by subst hw10; go_size⟩
    · have h2' : (x2 == 0) = false := by simpa using h2
      go_wp2_with fail
      go_meet
      exact ⟨p, q, r, t, cw8_bm_0, cw8_bm_1, cw8_bm_2, cw8_bm_3, hMA, cw8_R_0, cw8_R_1, cw8_R_2, cw8_R_3, cw8_R_f, cw8_bn_0, cw8_bn_1, cw8_bn_2, cw8_bn_3, hS8, hB8, hR8⟩
  case rest =>
    clear hS8 hB8 hR8 hMA cw8_R_0 cw8_R_1 cw8_R_2 cw8_R_3 cw8_R_f cw8_bn_0 cw8_bn_1 cw8_bn_2 cw8_bn_3 cw8_bn_f cw8_bm_0 cw8_bm_1 cw8_bm_2 cw8_bm_3 cw8_bm_f
    obtain ⟨p2, q2, r2, t2, m0, m1, m2, m3, hMC, r0, r1, r2', r3, rf, n0, n1, n2, n3, hS8, hB8, hzR⟩ := hcut
    have hsR : s < wc.heap.size := hS8.lt
    have hq8 : R < wc.heap.size := by omega
    obtain ⟨e1, d1⟩ := isM_to hMC
    obtain ⟨e2, d2⟩ := isM_to hMB
    obtain ⟨⟨a0, a1⟩, ⟨a2, a3⟩, ⟨a4, a5⟩, ⟨a6, a7⟩, hdd⟩ := isM_iff.mp hMB
    have e4 : M4.ent ⟨t', -q', -r', p'⟩ = true := M4.ent_iff.mpr ⟨ent_iff.mpr (by dsimp only; omega), ent_iff.mpr (by dsimp only; omega), ent_iff.mpr (by dsimp only; omega), ent_iff.mpr (by dsimp only; omega)⟩
    obtain ⟨x0, x1, x2', x3, x4, hv⟩ := prodV_form (prodL M4.I [⟨p', q', r', t'⟩, ⟨p2, q2, r2, t2⟩, ⟨t', -q', -r', p'⟩])
    have HV := Lib.hid hv
    have E1 := Lib.hid e1
    have E2 := Lib.hid e2
    have E4 := Lib.hid e4
    clear hv e1 e2 e4 hMC hMB d1 d2 hdd
    go_upto_region 8 with fail
    go_cut [6, 7] (fun v6 v7 wx => ∃ a : Nat, v6 = .pointer (some ⟨a, 0, none⟩) ∧ v7 = .int .i64 x4 ∧ wx.cell? ⟨a, 0, none⟩ = some (.int .i64 x0) ∧ wx.cell? ⟨a, 1, none⟩ = some (.int .i64 x1) ∧ wx.cell? ⟨a, 2, none⟩ = some (.int .i64 x2') ∧ wx.cell? ⟨a, 3, none⟩ = some (.int .i64 x3) ∧ wx.cell? ⟨R, 0, none⟩ = some (.int .i64 0) ∧ wx.cell? ⟨R, 1, none⟩ = some (.int .i64 0) ∧ wx.cell? ⟨R, 2, none⟩ = some (.int .i64 0) ∧ wx.cell? ⟨R, 3, none⟩ = some (.int .i64 0) ∧ (∀ i, wx.frozen? ⟨R, i, none⟩ = false) ∧ wx.cell? ⟨bm, 0, none⟩ = some (.int .i64 p2) ∧ wx.cell? ⟨bm, 1, none⟩ = some (.int .i64 q2) ∧ wx.cell? ⟨bm, 2, none⟩ = some (.int .i64 r2) ∧ wx.cell? ⟨bm, 3, none⟩ = some (.int .i64 t2) ∧ Src s wx ∧ Below R w wx ∧ R < wx.heap.size)
    case first =>
      go_region_held3 (fun w' => w'.cell? ⟨bm, 0, none⟩ = some (.int .i64 p2) ∧ w'.cell? ⟨bm, 1, none⟩ = some (.int .i64 q2) ∧ w'.cell? ⟨bm, 2, none⟩ = some (.int .i64 r2) ∧ w'.cell? ⟨bm, 3, none⟩ = some (.int .i64 t2) ∧ w'.cell? ⟨bn, 0, none⟩ = some (.int .i64 p') ∧ w'.cell? ⟨bn, 1, none⟩ = some (.int .i64 q') ∧ w'.cell? ⟨bn, 2, none⟩ = some (.int .i64 r') ∧ w'.cell? ⟨bn, 3, none⟩ = some (.int .i64 t')) (((try go_split_ands); (try (refine ⟨?_, ?_, ?_, ?_, ?_, ?_, ?_, ?_⟩)) <;> first | (with_reducible assumption) | (with_reducible exact keep_drew (by with_reducible assumption)) | (with_reducible exact held_cell hb (by with_reducible assumption)) | (with_reducible exact keep_new (by with_reducible assumption)) | (with_reducible exact keep_alloc (by with_reducible assumption) (by dsimp only; omega)) | (with_reducible exact keep_drew (keep_new (by with_reducible assumption))) | (with_reducible exact keep_drew (held_cell hb (by with_reducible assumption))) | ((with_reducible refine keep_set ?_ (by dsimp only; omega)); (repeat (with_reducible refine keep_set ?_ (by dsimp only; omega))); first | (with_reducible assumption) | (with_reducible exact held_cell hb (by with_reducible assumption))) | (go_keep; done))) (first | (go_at_call 80; refine (l01Inverse_c _ _ _ _ _ (by omega) (by omega) (by omega) (by omega) (by omega) (by omega) (by omega) (by omega)).mono ?_; rintro e w17 ⟨rfl, hb⟩; have zq7 := hb.size; (try simp only [World.size_alloc, World.size_drew] at zq7); have zzhb := hb.size; (try simp at zzhb); have zhb_R0 : R < w17.heap.size := (by omega); have kchb_R0 : ∀ o, w17.cell? ⟨R, o, none⟩ = _ := fun o => hb.cell (p := ⟨R, o, none⟩) (by go_size); have kfhb_R0 : ∀ o, w17.frozen? ⟨R, o, none⟩ = _ := fun o => hb.frozen (p := ⟨R, o, none⟩) (by go_size); have zhb_bm0 : bm < w17.heap.size := (by omega); have kchb_bm0 : ∀ o, w17.cell? ⟨bm, o, none⟩ = _ := fun o => hb.cell (p := ⟨bm, o, none⟩) (by go_size); have kfhb_bm0 : ∀ o, w17.frozen? ⟨bm, o, none⟩ = _ := fun o => hb.frozen (p := ⟨bm, o, none⟩) (by go_size); have zhb_bn0 : bn < w17.heap.size := (by omega); have kchb_bn0 : ∀ o, w17.cell? ⟨bn, o, none⟩ = _ := fun o => hb.cell (p := ⟨bn, o, none⟩) (by go_size); have kfhb_bn0 : ∀ o, w17.frozen? ⟨bn, o, none⟩ = _ := fun o => hb.frozen (p := ⟨bn, o, none⟩) (by go_size); clear zzhb; (try have n1 : ¬ w17.heap.size = R := by omega); (try have n2 : ¬ w17.heap.size = bm := by omega); (try have n3 : ¬ w17.heap.size = bn := by omega); (try (have zzhb := hb.size; (try simp at zzhb); have zhb_0 : wc.heap.size < w17.heap.size := (by omega); have kchb_0 : ∀ o, w17.cell? ⟨wc.heap.size, o, none⟩ = _ := fun o => hb.cell (p := ⟨wc.heap.size, o, none⟩) (by go_size); have kfhb_0 : ∀ o, w17.frozen? ⟨wc.heap.size, o, none⟩ = _ := fun o => hb.frozen (p := ⟨wc.heap.size, o, none⟩) (by go_size); clear zzhb))) | (go_at_call 79; refine (l01Product_3 _ p' q' r' t' p2 q2 r2 t2 t' (-q') (-r') p' _ E2.out E1.out E4.out (by go_cell) (by go_cell) (by go_cell) (by go_cell) (by go_cell) (by go_cell) (by go_cell) (by go_cell) (by go_cell) (by go_cell) (by go_cell) (by go_cell)).mono ?_; rintro e w18 ⟨rfl, hb⟩; rw [HV.out]; have zq8 := hb.size; (try simp only [World.size_alloc, World.size_drew] at zq8); have zzhb := hb.size; (try simp at zzhb); have zhb_R0 : R < w18.heap.size := (by omega); have kchb_R0 : ∀ o, w18.cell? ⟨R, o, none⟩ = _ := fun o => hb.cell (p := ⟨R, o, none⟩) (by go_size); have kfhb_R0 : ∀ o, w18.frozen? ⟨R, o, none⟩ = _ := fun o => hb.frozen (p := ⟨R, o, none⟩) (by go_size); have zhb_bm0 : bm < w18.heap.size := (by omega); have kchb_bm0 : ∀ o, w18.cell? ⟨bm, o, none⟩ = _ := fun o => hb.cell (p := ⟨bm, o, none⟩) (by go_size); have kfhb_bm0 : ∀ o, w18.frozen? ⟨bm, o, none⟩ = _ := fun o => hb.frozen (p := ⟨bm, o, none⟩) (by go_size); have zhb_bn0 : bn < w18.heap.size := (by omega); have kchb_bn0 : ∀ o, w18.cell? ⟨bn, o, none⟩ = _ := fun o => hb.cell (p := ⟨bn, o, none⟩) (by go_size); have kfhb_bn0 : ∀ o, w18.frozen? ⟨bn, o, none⟩ = _ := fun o => hb.frozen (p := ⟨bn, o, none⟩) (by go_size); clear zzhb; (try (have zzhb := hb.size; (try simp at zzhb); have zhb_0 : wc.heap.size < w18.heap.size := (by omega); have kchb_0 : ∀ o, w18.cell? ⟨wc.heap.size, o, none⟩ = _ := fun o => hb.cell (p := ⟨wc.heap.size, o, none⟩) (by go_size); have kfhb_0 : ∀ o, w18.frozen? ⟨wc.heap.size, o, none⟩ = _ := fun o => hb.frozen (p := ⟨wc.heap.size, o, none⟩) (by go_size); clear zzhb)); (try (have zzhb := hb.size; (try simp at zzhb); have zhb_0 : w17.heap.size < w18.heap.size := (by omega); have kchb_0 : ∀ o, w18.cell? ⟨w17.heap.size, o, none⟩ = _ := fun o => hb.cell (p := ⟨w17.heap.size, o, none⟩) (by go_size); have kfhb_0 : ∀ o, w18.frozen? ⟨w17.heap.size, o, none⟩ = _ := fun o => hb.frozen (p := ⟨w17.heap.size, o, none⟩) (by go_size); clear zzhb)); (try (have zzhb := hb.size; (try simp at zzhb); have zhb_0 : w17.heap.size+1 < w18.heap.size := (by omega); have kchb_0 : ∀ o, w18.cell? ⟨w17.heap.size+1, o, none⟩ = _ := fun o => hb.cell (p := ⟨w17.heap.size+1, o, none⟩) (by go_size); have kfhb_0 : ∀ o, w18.frozen? ⟨w17.heap.size+1, o, none⟩ = _ := fun o => hb.frozen (p := ⟨w17.heap.size+1, o, none⟩) (by go_size); clear zzhb))))
      all_goals (try go_split_ands)
      · generalize hW : World.alloc _ _ = W5
        have a0' : W5.cell? ⟨w18.heap.size, 0, none⟩ = some (.int .i64 x0) := by subst hW; go_cell
        have a1' : W5.cell? ⟨w18.heap.size, 1, none⟩ = some (.int .i64 x1) := by subst hW; go_cell
        have a2' : W5.cell? ⟨w18.heap.size, 2, none⟩ = some (.int .i64 x2') := by subst hW; go_cell
        have a3' : W5.cell? ⟨w18.heap.size, 3, none⟩ = some (.int .i64 x3) := by subst hW; go_cell
        have c0' : W5.cell? ⟨R, 0, none⟩ = some (.int .i64 0) := by subst hW; go_simp
        have c1' : W5.cell? ⟨R, 1, none⟩ = some (.int .i64 0) := by subst hW; go_simp
        have c2' : W5.cell? ⟨R, 2, none⟩ = some (.int .i64 0) := by subst hW; go_simp
        have c3' : W5.cell? ⟨R, 3, none⟩ = some (.int .i64 0) := by subst hW; go_simp
        have cf' : ∀ i, W5.frozen? ⟨R, i, none⟩ = false := by subst hW; intro i; go_simp
        have m0' : W5.cell? ⟨bm, 0, none⟩ = some (.int .i64 p2) := by subst hW; go_simp
        have m1' : W5.cell? ⟨bm, 1, none⟩ = some (.int .i64 q2) := by subst hW; go_simp
        have m2' : W5.cell? ⟨bm, 2, none⟩ = some (.int .i64 r2) := by subst hW; go_simp
        have m3' : W5.cell? ⟨bm, 3, none⟩ = some (.int .i64 t2) := by subst hW; go_simp
        have hS9 : Src s W5 := by subst hW; exact (by repeat' (first | (with_reducible assumption) | (with_reducible refine Src.drewN ?_ _) | (with_reducible refine Src.drew ?_) | (with_reducible refine Src.alloc ?_ _) | (with_reducible refine Src.setCell ?_ ?_ _) | (with_reducible refine Src.below ?_ (by with_reducible assumption) ?_) | go_size | (dsimp only; omega)))
        have hB9 : Below R w W5 := by subst hW; exact (by repeat' (first | (with_reducible exact Below.refl _ _) | (with_reducible assumption) | (with_reducible refine below_drewN ?_ _) | (with_reducible refine Below.drew ?_) | (with_reducible refine Below.alloc ?_ ?_ _) | (with_reducible refine Below.setCell ?_ ?_ _) | (with_reducible refine Below.trans ?_ (Below.mono (by with_reducible assumption) ?_)) | go_size | (dsimp only; omega)))
        have hz9 : R < W5.heap.size := by subst hW; go_size
        clear hW m0 m1 m2 m3 r0 r1 r2' r3 rf n0 n1 n2 n3 hS8 hB8 hb
        go_wp2_with fail
        go_meet
        exact ⟨_, rfl, rfl, a0', a1', a2', a3', c0', c1', c2', c3', cf', m0', m1', m2', m3', hS9, hB9, hz9⟩
      · generalize hW : World.setCell _ _ _ = W5
        have a0' : W5.cell? ⟨w17.heap.size + 1, 0, none⟩ = some (.int .i64 x0) := by subst hW; go_simp
        have a1' : W5.cell? ⟨w17.heap.size + 1, 1, none⟩ = some (.int .i64 x1) := by subst hW; go_simp
        have a2' : W5.cell? ⟨w17.heap.size + 1, 2, none⟩ = some (.int .i64 x2') := by subst hW; go_simp
        have a3' : W5.cell? ⟨w17.heap.size + 1, 3, none⟩ = some (.int .i64 x3) := by subst hW; go_simp
        have c0' : W5.cell? ⟨R, 0, none⟩ = some (.int .i64 0) := by subst hW; go_simp
        have c1' : W5.cell? ⟨R, 1, none⟩ = some (.int .i64 0) := by subst hW; go_simp
        have c2' : W5.cell? ⟨R, 2, none⟩ = some (.int .i64 0) := by subst hW; go_simp
        have c3' : W5.cell? ⟨R, 3, none⟩ = some (.int .i64 0) := by subst hW; go_simp
        have cf' : ∀ i, W5.frozen? ⟨R, i, none⟩ = false := by subst hW; intro i; go_simp
        have m0' : W5.cell? ⟨bm, 0, none⟩ = some (.int .i64 p2) := by subst hW; go_simp
        have m1' : W5.cell? ⟨bm, 1, none⟩ = some (.int .i64 q2) := by subst hW; go_simp
        have m2' : W5.cell? ⟨bm, 2, none⟩ = some (.int .i64 r2) := by subst hW; go_simp
        have m3' : W5.cell? ⟨bm, 3, none⟩ = some (.int .i64 t2) := by subst hW; go_simp
        have hS9 : Src s W5 := by subst hW; exact (by repeat' (first | (with_reducible assumption) | (with_reducible refine Src.drewN ?_ _) | (with_reducible refine Src.drew ?_) | (with_reducible refine Src.alloc ?_ _) | (with_reducible refine Src.setCell ?_ ?_ _) | (with_reducible refine Src.below ?_ (by with_reducible assumption) ?_) | go_size | (dsimp only; omega)))
        have hB9 : Below R w W5 := by subst hW; exact (by repeat' (first | (with_reducible exact Below.refl _ _) | (with_reducible assumption) | (with_reducible refine below_drewN ?_ _) | (with_reducible refine Below.drew ?_) | (with_reducible refine Below.alloc ?_ ?_ _) | (with_reducible refine Below.setCell ?_ ?_ _) | (with_reducible refine Below.trans ?_ (Below.mono (by with_reducible assumption) ?_)) | go_size | (dsimp only; omega)))
        have hz9 : R < W5.heap.size := by subst hW; go_size
        clear hW m0 m1 m2 m3 r0 r1 r2' r3 rf n0 n1 n2 n3 hS8 hB8 hb
        go_wp2_with fail
        go_meet
        exact ⟨_, rfl, rfl, a0', a1', a2', a3', c0', c1', c2', c3', cf', m0', m1', m2', m3', hS9, hB9, hz9⟩
      · generalize hW : World.setCell _ _ _ = W5
        have a0' : W5.cell? ⟨w17.heap.size, 0, none⟩ = some (.int .i64 x0) := by subst hW; go_simp
        have a1' : W5.cell? ⟨w17.heap.size, 1, none⟩ = some (.int .i64 x1) := by subst hW; go_simp
        have a2' : W5.cell? ⟨w17.heap.size, 2, none⟩ = some (.int .i64 x2') := by subst hW; go_simp
        have a3' : W5.cell? ⟨w17.heap.size, 3, none⟩ = some (.int .i64 x3) := by subst hW; go_simp
        have c0' : W5.cell? ⟨R, 0, none⟩ = some (.int .i64 0) := by subst hW; go_simp
        have c1' : W5.cell? ⟨R, 1, none⟩ = some (.int .i64 0) := by subst hW; go_simp
        have c2' : W5.cell? ⟨R, 2, none⟩ = some (.int .i64 0) := by subst hW; go_simp
        have c3' : W5.cell? ⟨R, 3, none⟩ = some (.int .i64 0) := by subst hW; go_simp
        have cf' : ∀ i, W5.frozen? ⟨R, i, none⟩ = false := by subst hW; intro i; go_simp
        have m0' : W5.cell? ⟨bm, 0, none⟩ = some (.int .i64 p2) := by subst hW; go_simp
        have m1' : W5.cell? ⟨bm, 1, none⟩ = some (.int .i64 q2) := by subst hW; go_simp
        have m2' : W5.cell? ⟨bm, 2, none⟩ = some (.int .i64 r2) := by subst hW; go_simp
        have m3' : W5.cell? ⟨bm, 3, none⟩ = some (.int .i64 t2) := by subst hW; go_simp
        have hS9 : Src s W5 := by subst hW; exact (by repeat' (first | (with_reducible assumption) | (with_reducible refine Src.drewN ?_ _) | (with_reducible refine Src.drew ?_) | (with_reducible refine Src.alloc ?_ _) | (with_reducible refine Src.setCell ?_ ?_ _) | (with_reducible refine Src.below ?_ (by with_reducible assumption) ?_) | go_size | (dsimp only; omega)))
        have hB9 : Below R w W5 := by subst hW; exact (by repeat' (first | (with_reducible exact Below.refl _ _) | (with_reducible assumption) | (with_reducible refine below_drewN ?_ _) | (with_reducible refine Below.drew ?_) | (with_reducible refine Below.alloc ?_ ?_ _) | (with_reducible refine Below.setCell ?_ ?_ _) | (with_reducible refine Below.trans ?_ (Below.mono (by with_reducible assumption) ?_)) | go_size | (dsimp only; omega)))
        have hz9 : R < W5.heap.size := by subst hW; go_size
        clear hW m0 m1 m2 m3 r0 r1 r2' r3 rf n0 n1 n2 n3 hS8 hB8 hb
        go_wp2_with fail
        go_meet
        exact ⟨_, rfl, rfl, a0', a1', a2', a3', c0', c1', c2', c3', cf', m0', m1', m2', m3', hS9, hB9, hz9⟩
      · generalize hW : World.setCell _ _ _ = W5
        have g0 : (wc.alloc (Obj.cells #[.int .i64 0, .int .i64 0, .int .i64 0, .int .i64 0] 25)).cell? ⟨R, 0, none⟩ = some (.int .i64 0) := keep_new r0
        have g1 : (wc.alloc (Obj.cells #[.int .i64 0, .int .i64 0, .int .i64 0, .int .i64 0] 25)).cell? ⟨R, 1, none⟩ = some (.int .i64 0) := keep_new r1
        have g2 : (wc.alloc (Obj.cells #[.int .i64 0, .int .i64 0, .int .i64 0, .int .i64 0] 25)).cell? ⟨R, 2, none⟩ = some (.int .i64 0) := keep_new r2'
        have g3 : (wc.alloc (Obj.cells #[.int .i64 0, .int .i64 0, .int .i64 0, .int .i64 0] 25)).cell? ⟨R, 3, none⟩ = some (.int .i64 0) := keep_new r3
        have gf : ∀ i, (wc.alloc (Obj.cells #[.int .i64 0, .int .i64 0, .int .i64 0, .int .i64 0] 25)).frozen? ⟨R, i, none⟩ = false := fun i => by rw [(Below.alloc (Below.refl wc.heap.size wc) (Nat.le_refl _) _).frozen (p := ⟨R, i, none⟩) (by dsimp only; omega)]; exact rf i
        have a0' : W5.cell? ⟨wc.heap.size, 0, none⟩ = some (.int .i64 x0) := by subst hW; go_simp
        have a1' : W5.cell? ⟨wc.heap.size, 1, none⟩ = some (.int .i64 x1) := by subst hW; go_simp
        have a2' : W5.cell? ⟨wc.heap.size, 2, none⟩ = some (.int .i64 x2') := by subst hW; go_simp
        have a3' : W5.cell? ⟨wc.heap.size, 3, none⟩ = some (.int .i64 x3) := by subst hW; go_simp
        have c0' : W5.cell? ⟨R, 0, none⟩ = some (.int .i64 0) := by subst hW; go_simp
        have c1' : W5.cell? ⟨R, 1, none⟩ = some (.int .i64 0) := by subst hW; go_simp
        have c2' : W5.cell? ⟨R, 2, none⟩ = some (.int .i64 0) := by subst hW; go_simp
        have c3' : W5.cell? ⟨R, 3, none⟩ = some (.int .i64 0) := by subst hW; go_simp
        have cf' : ∀ i, W5.frozen? ⟨R, i, none⟩ = false := by subst hW; intro i; go_simp
        have m0' : W5.cell? ⟨bm, 0, none⟩ = some (.int .i64 p2) := by subst hW; go_simp
        have m1' : W5.cell? ⟨bm, 1, none⟩ = some (.int .i64 q2) := by subst hW; go_simp
        have m2' : W5.cell? ⟨bm, 2, none⟩ = some (.int .i64 r2) := by subst hW; go_simp
        have m3' : W5.cell? ⟨bm, 3, none⟩ = some (.int .i64 t2) := by subst hW; go_simp
        have hS9 : Src s W5 := by subst hW; exact (by repeat' (first | (with_reducible assumption) | (with_reducible refine Src.drewN ?_ _) | (with_reducible refine Src.drew ?_) | (with_reducible refine Src.alloc ?_ _) | (with_reducible refine Src.setCell ?_ ?_ _) | (with_reducible refine Src.below ?_ (by with_reducible assumption) ?_) | go_size | (dsimp only; omega)))
        have hB9 : Below R w W5 := by subst hW; exact (by repeat' (first | (with_reducible exact Below.refl _ _) | (with_reducible assumption) | (with_reducible refine below_drewN ?_ _) | (with_reducible refine Below.drew ?_) | (with_reducible refine Below.alloc ?_ ?_ _) | (with_reducible refine Below.setCell ?_ ?_ _) | (with_reducible refine Below.trans ?_ (Below.mono (by with_reducible assumption) ?_)) | go_size | (dsimp only; omega)))
        have hz9 : R < W5.heap.size := by subst hW; go_size
        clear hW g0 g1 g2 g3 gf m0 m1 m2 m3 r0 r1 r2' r3 rf n0 n1 n2 n3 hS8 hB8 hb
        go_wp2_with fail
        go_meet
        exact ⟨_, rfl, rfl, a0', a1', a2', a3', c0', c1', c2', c3', cf', m0', m1', m2', m3', hS9, hB9, hz9⟩
    case rest =>
      clear m0 m1 m2 m3 r0 r1 r2' r3 rf n0 n1 n2 n3 hS8 hB8
      obtain ⟨a, rfl, rfl, a0', a1', a2', a3', c0', c1', c2', c3', cf', m0', m1', m2', m3', hS9, hB9, hz9⟩ := hcut
      by_cases hx : x4 = 0
      · subst hx
        go_wp2_with fail
        refine (bad_c s x0 x1 x2' x3 _ hS9).mono ?_
        rintro e W6 ⟨⟨y0, y1, y2, y3, rfl⟩, hS19, hK19⟩
        have hq19 := hK19.size
        have hlt9 := hS9.lt
        have d0 : W6.cell? ⟨R, 0, none⟩ = some (.int .i64 0) := by rw [hK19.cell (p := ⟨R, 0, none⟩) hz9 (by dsimp only; omega)]; exact c0'
        have d1 : W6.cell? ⟨R, 1, none⟩ = some (.int .i64 0) := by rw [hK19.cell (p := ⟨R, 1, none⟩) hz9 (by dsimp only; omega)]; exact c1'
        have d2 : W6.cell? ⟨R, 2, none⟩ = some (.int .i64 0) := by rw [hK19.cell (p := ⟨R, 2, none⟩) hz9 (by dsimp only; omega)]; exact c2'
        have d3 : W6.cell? ⟨R, 3, none⟩ = some (.int .i64 0) := by rw [hK19.cell (p := ⟨R, 3, none⟩) hz9 (by dsimp only; omega)]; exact c3'
        have df : ∀ i, W6.frozen? ⟨R, i, none⟩ = false := fun i => by rw [hK19.frozen (p := ⟨R, i, none⟩) hz9 (by dsimp only; omega)]; exact cf' i
        have hB19 : Below R w W6 := hB9.trans ((hK19.mono (by omega)).below (by omega))
        have hR19 : R < W6.heap.size := by omega
        clear a0' a1' a2' a3' c0' c1' c2' c3' cf' m0' m1' m2' m3' hS9 hB9 hK19
        go_wp2
        exact bodyPost_ret (v := .agg #[.int .i64 y0, .int .i64 y1, .int .i64 y2, .int .i64 y3]) (by simp only [results, Tryz.results14]; go_simp) rfl ⟨⟨y0, y1, y2, y3, rfl⟩, by rw [HRW.out]; exact (by repeat' (first | (with_reducible exact Below.refl _ _) | (with_reducible assumption) | (with_reducible refine below_drewN ?_ _) | (with_reducible refine Below.drew ?_) | (with_reducible refine Below.alloc ?_ ?_ _) | (with_reducible refine Below.setCell ?_ ?_ _) | (with_reducible refine Below.trans ?_ (Below.mono (by with_reducible assumption) ?_)) | go_size | (dsimp only; omega)))⟩
      · have hx' : (x4 == 0) = false := by simpa using hx
        go_wp2
        exact bodyPost_ret (v := .agg #[.int .i64 p2, .int .i64 q2, .int .i64 r2, .int .i64 t2]) (by simp only [results, Tryz.results14]; go_simp) rfl ⟨⟨_, _, _, _, rfl⟩, by rw [HRW.out]; exact (by repeat' (first | (with_reducible exact Below.refl _ _) | (with_reducible assumption) | (with_reducible refine below_drewN ?_ _) | (with_reducible refine Below.drew ?_) | (with_reducible refine Below.alloc ?_ ?_ _) | (with_reducible refine Below.setCell ?_ ?_ _) | (with_reducible refine Below.trans ?_ (Below.mono (by with_reducible assumption) ?_)) | go_size | (dsimp only; omega)))⟩
end Go.Proofs.YtlkhhpckgcdeeaaGreatDoor
