/- Draws that end in a drawn region with two calls. [genGU.py] -/
import Derived.Test.YtlkhhpckgcdeeaaGreatDoorGT
import Derived.Deep.RegionHeld3
namespace Go.Proofs.YtlkhhpckgcdeeaaGreatDoor
open Go.RowKit
set_option linter.unusedVariables false
set_option linter.unusedSimpArgs false
def AnyMM (e : Ending) : Prop := ∃ p q r t p' q' r' t' : Int, e = .returned (.tuple #[.agg #[.int .i64 p, .int .i64 q, .int .i64 r, .int .i64 t], .agg #[.int .i64 p', .int .i64 q', .int .i64 r', .int .i64 t']])
def AnyQQ (e : Ending) : Prop := ∃ x y x' y' : Int, e = .returned (.tuple #[.agg #[.int .i64 x, .int .i64 y], .agg #[.int .i64 x', .int .i64 y']])
theorem pickBd_c (lo hi : Int) (s g c : Nat) (zs : List Int) (w : World) (hS : Src s w) (hg : g < w.heap.size) (hgs : g ≠ s) (hr : RowI w g 0 zs) (h1 : 1 ≤ zs.length) (h2 : zs.length ≤ 1000) (hb : ∀ x ∈ zs, lo ≤ x ∧ x ≤ hi) :
    Calls Tryz.prog 89 #[.pointer (some ⟨s, 0, none⟩), .slice (some ⟨g, 0, none⟩) zs.length c] w fun e w' => ∃ x : Int, e = .returned (.int .i64 x) ∧ Src s w' ∧ Kp s w.heap.size w w' ∧ Hid (lo ≤ x ∧ x ≤ hi) :=
  (pick_c s g c zs w hS hg hgs hr h1 h2).mono (fun e w' ⟨x, he, hx, hs, hk⟩ => ⟨x, he, hs, hk, Lib.hid (hb x hx)⟩)
set_option maxRecDepth 100000 in
set_option maxHeartbeats 4000000 in
theorem two_c (v : Value) (w : World) (hv : CodeV w v) :
    Calls Tryz.prog 101 #[v] w fun e w' => AnyMM e ∧ Below w.heap.size w w' := by
  go_enter Tryz.func101, Tryz.ntmps101
  obtain ⟨R, hR⟩ : ∃ R, w.heap.size = R := ⟨_, rfl⟩
  have HRW := Lib.hid hR
  go_wp2_with fail
  generalize hw0 : World.alloc (World.alloc _ _) _ = w0
  have cw0_R_0 : w0.cell? ⟨R, 0, none⟩ = some (.int .i64 0) := by subst hw0 hR; first | (go_cell; done) | (go_simp; done)
  have cw0_R_1 : w0.cell? ⟨R, 1, none⟩ = some (.int .i64 0) := by subst hw0 hR; first | (go_cell; done) | (go_simp; done)
  have cw0_R_2 : w0.cell? ⟨R, 2, none⟩ = some (.int .i64 0) := by subst hw0 hR; first | (go_cell; done) | (go_simp; done)
  have cw0_R_3 : w0.cell? ⟨R, 3, none⟩ = some (.int .i64 0) := by subst hw0 hR; first | (go_cell; done) | (go_simp; done)
  have cw0_R_f : ∀ i, w0.frozen? ⟨R, i, none⟩ = false := by intro i; subst hw0 hR; first | (go_cell; done) | (go_simp; done)
  have cw0_R1_0 : w0.cell? ⟨(R + 1), 0, none⟩ = some (.int .i64 0) := by subst hw0 hR; first | (go_cell; done) | (go_simp; done)
  have cw0_R1_1 : w0.cell? ⟨(R + 1), 1, none⟩ = some (.int .i64 0) := by subst hw0 hR; first | (go_cell; done) | (go_simp; done)
  have cw0_R1_2 : w0.cell? ⟨(R + 1), 2, none⟩ = some (.int .i64 0) := by subst hw0 hR; first | (go_cell; done) | (go_simp; done)
  have cw0_R1_3 : w0.cell? ⟨(R + 1), 3, none⟩ = some (.int .i64 0) := by subst hw0 hR; first | (go_cell; done) | (go_simp; done)
  have cw0_R1_f : ∀ i, w0.frozen? ⟨(R + 1), i, none⟩ = false := by intro i; subst hw0 hR; first | (go_cell; done) | (go_simp; done)
  have hB0 : Below R w w0 := by subst hw0; rw [← hR]; exact (by repeat' (first | (with_reducible exact Below.refl _ _) | (with_reducible assumption) | (with_reducible refine below_drewN ?_ _) | (with_reducible refine Below.drew ?_) | (with_reducible refine Below.alloc ?_ ?_ _) | (with_reducible refine Below.setCell ?_ ?_ _) | (with_reducible refine Below.trans ?_ (Below.mono (by with_reducible assumption) ?_)) | go_size | (dsimp only; omega)))
  have hq0 : R + 1 < w0.heap.size := by subst hw0; go_size
  obtain ⟨R1, hR1⟩ : ∃ R1, R + 1 = R1 := ⟨_, rfl⟩
  have hRR1 : R < R1 := by omega
  (try rw [hR1])
  rw [hR1] at cw0_R1_0 cw0_R1_1 cw0_R1_2 cw0_R1_3 cw0_R1_f hq0
  have HR1 := Lib.hid hR1
  clear hw0 hR1
  refine (from_c v w0 (by have h := hv.below (hR ▸ hB0); exact h)).mono ?_
  rintro e w1 ⟨s, rfl, hs, hS1, b1⟩
  have hq1 := b1.size
  have hsl := hS1.lt
  have cw1_R_0 : w1.cell? ⟨R, 0, none⟩ = some (.int .i64 0) := by rw [b1.cell (p := ⟨R, 0, none⟩) (by dsimp only; omega)]; exact cw0_R_0
  have cw1_R_1 : w1.cell? ⟨R, 1, none⟩ = some (.int .i64 0) := by rw [b1.cell (p := ⟨R, 1, none⟩) (by dsimp only; omega)]; exact cw0_R_1
  have cw1_R_2 : w1.cell? ⟨R, 2, none⟩ = some (.int .i64 0) := by rw [b1.cell (p := ⟨R, 2, none⟩) (by dsimp only; omega)]; exact cw0_R_2
  have cw1_R_3 : w1.cell? ⟨R, 3, none⟩ = some (.int .i64 0) := by rw [b1.cell (p := ⟨R, 3, none⟩) (by dsimp only; omega)]; exact cw0_R_3
  have cw1_R_f : ∀ i, w1.frozen? ⟨R, i, none⟩ = false := fun i => by rw [b1.frozen (p := ⟨R, i, none⟩) (by dsimp only; omega)]; exact cw0_R_f i
  have cw1_R1_0 : w1.cell? ⟨R1, 0, none⟩ = some (.int .i64 0) := by rw [b1.cell (p := ⟨R1, 0, none⟩) (by dsimp only; omega)]; exact cw0_R1_0
  have cw1_R1_1 : w1.cell? ⟨R1, 1, none⟩ = some (.int .i64 0) := by rw [b1.cell (p := ⟨R1, 1, none⟩) (by dsimp only; omega)]; exact cw0_R1_1
  have cw1_R1_2 : w1.cell? ⟨R1, 2, none⟩ = some (.int .i64 0) := by rw [b1.cell (p := ⟨R1, 2, none⟩) (by dsimp only; omega)]; exact cw0_R1_2
  have cw1_R1_3 : w1.cell? ⟨R1, 3, none⟩ = some (.int .i64 0) := by rw [b1.cell (p := ⟨R1, 3, none⟩) (by dsimp only; omega)]; exact cw0_R1_3
  have cw1_R1_f : ∀ i, w1.frozen? ⟨R1, i, none⟩ = false := fun i => by rw [b1.frozen (p := ⟨R1, i, none⟩) (by dsimp only; omega)]; exact cw0_R1_f i
  clear cw0_R_0 cw0_R_1 cw0_R_2 cw0_R_3 cw0_R_f cw0_R1_0 cw0_R1_1 cw0_R1_2 cw0_R1_3 cw0_R1_f
  have hB1 : Below R w w1 := hB0.trans (b1.mono (by omega))
  clear hB0 b1 hR
  go_wp2_with fail
  refine (draw_c s _ hS1).mono ?_
  rintro e w2 ⟨p, q, r, t, rfl, hMA, hS2, hK2⟩
  have hq2 := hK2.size
  have cw2_R_0 : w2.cell? ⟨R, 0, none⟩ = some (.int .i64 0) := by rw [hK2.cell (p := ⟨R, 0, none⟩) (by dsimp only; omega) (by dsimp only; omega)]; exact cw1_R_0
  have cw2_R_1 : w2.cell? ⟨R, 1, none⟩ = some (.int .i64 0) := by rw [hK2.cell (p := ⟨R, 1, none⟩) (by dsimp only; omega) (by dsimp only; omega)]; exact cw1_R_1
  have cw2_R_2 : w2.cell? ⟨R, 2, none⟩ = some (.int .i64 0) := by rw [hK2.cell (p := ⟨R, 2, none⟩) (by dsimp only; omega) (by dsimp only; omega)]; exact cw1_R_2
  have cw2_R_3 : w2.cell? ⟨R, 3, none⟩ = some (.int .i64 0) := by rw [hK2.cell (p := ⟨R, 3, none⟩) (by dsimp only; omega) (by dsimp only; omega)]; exact cw1_R_3
  have cw2_R_f : ∀ i, w2.frozen? ⟨R, i, none⟩ = false := fun i => by rw [hK2.frozen (p := ⟨R, i, none⟩) (by dsimp only; omega) (by dsimp only; omega)]; exact cw1_R_f i
  have cw2_R1_0 : w2.cell? ⟨R1, 0, none⟩ = some (.int .i64 0) := by rw [hK2.cell (p := ⟨R1, 0, none⟩) (by dsimp only; omega) (by dsimp only; omega)]; exact cw1_R1_0
  have cw2_R1_1 : w2.cell? ⟨R1, 1, none⟩ = some (.int .i64 0) := by rw [hK2.cell (p := ⟨R1, 1, none⟩) (by dsimp only; omega) (by dsimp only; omega)]; exact cw1_R1_1
  have cw2_R1_2 : w2.cell? ⟨R1, 2, none⟩ = some (.int .i64 0) := by rw [hK2.cell (p := ⟨R1, 2, none⟩) (by dsimp only; omega) (by dsimp only; omega)]; exact cw1_R1_2
  have cw2_R1_3 : w2.cell? ⟨R1, 3, none⟩ = some (.int .i64 0) := by rw [hK2.cell (p := ⟨R1, 3, none⟩) (by dsimp only; omega) (by dsimp only; omega)]; exact cw1_R1_3
  have cw2_R1_f : ∀ i, w2.frozen? ⟨R1, i, none⟩ = false := fun i => by rw [hK2.frozen (p := ⟨R1, i, none⟩) (by dsimp only; omega) (by dsimp only; omega)]; exact cw1_R1_f i
  clear cw1_R_0 cw1_R_1 cw1_R_2 cw1_R_3 cw1_R_f cw1_R1_0 cw1_R1_1 cw1_R1_2 cw1_R1_3 cw1_R1_f
  have hB2 : Below R w w2 := hB1.trans ((hK2.mono (by omega)).below (by omega))
  clear hB1 hS1 hK2
  go_wp2_with fail
  generalize hw3 : World.alloc _ _ = w3
  obtain ⟨bm, hbm⟩ : ∃ b, w2.heap.size = b := ⟨_, rfl⟩
  have bb3 : Below bm w2 w3 := by subst hw3 hbm; exact (by repeat' (first | (with_reducible exact Below.refl _ _) | (with_reducible assumption) | (with_reducible refine below_drewN ?_ _) | (with_reducible refine Below.drew ?_) | (with_reducible refine Below.alloc ?_ ?_ _) | (with_reducible refine Below.setCell ?_ ?_ _) | (with_reducible refine Below.trans ?_ (Below.mono (by with_reducible assumption) ?_)) | go_size | (dsimp only; omega)))
  have cw3_R_0 : w3.cell? ⟨R, 0, none⟩ = some (.int .i64 0) := by rw [bb3.cell (p := ⟨R, 0, none⟩) (by dsimp only; omega)]; exact cw2_R_0
  have cw3_R_1 : w3.cell? ⟨R, 1, none⟩ = some (.int .i64 0) := by rw [bb3.cell (p := ⟨R, 1, none⟩) (by dsimp only; omega)]; exact cw2_R_1
  have cw3_R_2 : w3.cell? ⟨R, 2, none⟩ = some (.int .i64 0) := by rw [bb3.cell (p := ⟨R, 2, none⟩) (by dsimp only; omega)]; exact cw2_R_2
  have cw3_R_3 : w3.cell? ⟨R, 3, none⟩ = some (.int .i64 0) := by rw [bb3.cell (p := ⟨R, 3, none⟩) (by dsimp only; omega)]; exact cw2_R_3
  have cw3_R_f : ∀ i, w3.frozen? ⟨R, i, none⟩ = false := fun i => by rw [bb3.frozen (p := ⟨R, i, none⟩) (by dsimp only; omega)]; exact cw2_R_f i
  have cw3_R1_0 : w3.cell? ⟨R1, 0, none⟩ = some (.int .i64 0) := by rw [bb3.cell (p := ⟨R1, 0, none⟩) (by dsimp only; omega)]; exact cw2_R1_0
  have cw3_R1_1 : w3.cell? ⟨R1, 1, none⟩ = some (.int .i64 0) := by rw [bb3.cell (p := ⟨R1, 1, none⟩) (by dsimp only; omega)]; exact cw2_R1_1
  have cw3_R1_2 : w3.cell? ⟨R1, 2, none⟩ = some (.int .i64 0) := by rw [bb3.cell (p := ⟨R1, 2, none⟩) (by dsimp only; omega)]; exact cw2_R1_2
  have cw3_R1_3 : w3.cell? ⟨R1, 3, none⟩ = some (.int .i64 0) := by rw [bb3.cell (p := ⟨R1, 3, none⟩) (by dsimp only; omega)]; exact cw2_R1_3
  have cw3_R1_f : ∀ i, w3.frozen? ⟨R1, i, none⟩ = false := fun i => by rw [bb3.frozen (p := ⟨R1, i, none⟩) (by dsimp only; omega)]; exact cw2_R1_f i
  clear cw2_R_0 cw2_R_1 cw2_R_2 cw2_R_3 cw2_R_f cw2_R1_0 cw2_R1_1 cw2_R1_2 cw2_R1_3 cw2_R1_f
  have cw3_bm_0 : w3.cell? ⟨bm, 0, none⟩ = some (.int .i64 p) := by subst hw3 hbm; first | (go_cell; done) | (go_simp; done)
  have cw3_bm_1 : w3.cell? ⟨bm, 1, none⟩ = some (.int .i64 q) := by subst hw3 hbm; first | (go_cell; done) | (go_simp; done)
  have cw3_bm_2 : w3.cell? ⟨bm, 2, none⟩ = some (.int .i64 r) := by subst hw3 hbm; first | (go_cell; done) | (go_simp; done)
  have cw3_bm_3 : w3.cell? ⟨bm, 3, none⟩ = some (.int .i64 t) := by subst hw3 hbm; first | (go_cell; done) | (go_simp; done)
  have cw3_bm_f : ∀ i, w3.frozen? ⟨bm, i, none⟩ = false := by intro i; subst hw3 hbm; first | (go_cell; done) | (go_simp; done)
  have hq3 : bm < w3.heap.size := by subst hw3 hbm; simp
  have hS3 := hS2.below bb3 (by have := hS2.lt; omega)
  have hB3 : Below R w w3 := hB2.trans (bb3.mono (by omega))
  have hsbm : s < bm := by have := hS2.lt; omega
  have hobm : w2.heap.size ≤ bm := by omega
  (try rw [hbm])
  clear hw3 hbm bb3 hS2 hB2
  clear hMA
  go_wp2_with fail
  refine (draw_c s _ hS3).mono ?_
  rintro e w4 ⟨p', q', r', t', rfl, hMB, hS4, hK4⟩
  have hq4 := hK4.size
  have cw4_R_0 : w4.cell? ⟨R, 0, none⟩ = some (.int .i64 0) := by rw [hK4.cell (p := ⟨R, 0, none⟩) (by dsimp only; omega) (by dsimp only; omega)]; exact cw3_R_0
  have cw4_R_1 : w4.cell? ⟨R, 1, none⟩ = some (.int .i64 0) := by rw [hK4.cell (p := ⟨R, 1, none⟩) (by dsimp only; omega) (by dsimp only; omega)]; exact cw3_R_1
  have cw4_R_2 : w4.cell? ⟨R, 2, none⟩ = some (.int .i64 0) := by rw [hK4.cell (p := ⟨R, 2, none⟩) (by dsimp only; omega) (by dsimp only; omega)]; exact cw3_R_2
  have cw4_R_3 : w4.cell? ⟨R, 3, none⟩ = some (.int .i64 0) := by rw [hK4.cell (p := ⟨R, 3, none⟩) (by dsimp only; omega) (by dsimp only; omega)]; exact cw3_R_3
  have cw4_R_f : ∀ i, w4.frozen? ⟨R, i, none⟩ = false := fun i => by rw [hK4.frozen (p := ⟨R, i, none⟩) (by dsimp only; omega) (by dsimp only; omega)]; exact cw3_R_f i
  have cw4_R1_0 : w4.cell? ⟨R1, 0, none⟩ = some (.int .i64 0) := by rw [hK4.cell (p := ⟨R1, 0, none⟩) (by dsimp only; omega) (by dsimp only; omega)]; exact cw3_R1_0
  have cw4_R1_1 : w4.cell? ⟨R1, 1, none⟩ = some (.int .i64 0) := by rw [hK4.cell (p := ⟨R1, 1, none⟩) (by dsimp only; omega) (by dsimp only; omega)]; exact cw3_R1_1
  have cw4_R1_2 : w4.cell? ⟨R1, 2, none⟩ = some (.int .i64 0) := by rw [hK4.cell (p := ⟨R1, 2, none⟩) (by dsimp only; omega) (by dsimp only; omega)]; exact cw3_R1_2
  have cw4_R1_3 : w4.cell? ⟨R1, 3, none⟩ = some (.int .i64 0) := by rw [hK4.cell (p := ⟨R1, 3, none⟩) (by dsimp only; omega) (by dsimp only; omega)]; exact cw3_R1_3
  have cw4_R1_f : ∀ i, w4.frozen? ⟨R1, i, none⟩ = false := fun i => by rw [hK4.frozen (p := ⟨R1, i, none⟩) (by dsimp only; omega) (by dsimp only; omega)]; exact cw3_R1_f i
  have cw4_bm_0 : w4.cell? ⟨bm, 0, none⟩ = some (.int .i64 p) := by rw [hK4.cell (p := ⟨bm, 0, none⟩) (by dsimp only; omega) (by dsimp only; omega)]; exact cw3_bm_0
  have cw4_bm_1 : w4.cell? ⟨bm, 1, none⟩ = some (.int .i64 q) := by rw [hK4.cell (p := ⟨bm, 1, none⟩) (by dsimp only; omega) (by dsimp only; omega)]; exact cw3_bm_1
  have cw4_bm_2 : w4.cell? ⟨bm, 2, none⟩ = some (.int .i64 r) := by rw [hK4.cell (p := ⟨bm, 2, none⟩) (by dsimp only; omega) (by dsimp only; omega)]; exact cw3_bm_2
  have cw4_bm_3 : w4.cell? ⟨bm, 3, none⟩ = some (.int .i64 t) := by rw [hK4.cell (p := ⟨bm, 3, none⟩) (by dsimp only; omega) (by dsimp only; omega)]; exact cw3_bm_3
  have cw4_bm_f : ∀ i, w4.frozen? ⟨bm, i, none⟩ = false := fun i => by rw [hK4.frozen (p := ⟨bm, i, none⟩) (by dsimp only; omega) (by dsimp only; omega)]; exact cw3_bm_f i
  clear cw3_R_0 cw3_R_1 cw3_R_2 cw3_R_3 cw3_R_f cw3_R1_0 cw3_R1_1 cw3_R1_2 cw3_R1_3 cw3_R1_f cw3_bm_0 cw3_bm_1 cw3_bm_2 cw3_bm_3 cw3_bm_f
  have hB4 : Below R w w4 := hB3.trans ((hK4.mono (by omega)).below (by omega))
  clear hB3 hS3 hK4
  go_wp2_with fail
  generalize hw5 : World.alloc _ _ = w5
  obtain ⟨bn, hbn⟩ : ∃ b, w4.heap.size = b := ⟨_, rfl⟩
  have bb5 : Below bn w4 w5 := by subst hw5 hbn; exact (by repeat' (first | (with_reducible exact Below.refl _ _) | (with_reducible assumption) | (with_reducible refine below_drewN ?_ _) | (with_reducible refine Below.drew ?_) | (with_reducible refine Below.alloc ?_ ?_ _) | (with_reducible refine Below.setCell ?_ ?_ _) | (with_reducible refine Below.trans ?_ (Below.mono (by with_reducible assumption) ?_)) | go_size | (dsimp only; omega)))
  have cw5_R_0 : w5.cell? ⟨R, 0, none⟩ = some (.int .i64 0) := by rw [bb5.cell (p := ⟨R, 0, none⟩) (by dsimp only; omega)]; exact cw4_R_0
  have cw5_R_1 : w5.cell? ⟨R, 1, none⟩ = some (.int .i64 0) := by rw [bb5.cell (p := ⟨R, 1, none⟩) (by dsimp only; omega)]; exact cw4_R_1
  have cw5_R_2 : w5.cell? ⟨R, 2, none⟩ = some (.int .i64 0) := by rw [bb5.cell (p := ⟨R, 2, none⟩) (by dsimp only; omega)]; exact cw4_R_2
  have cw5_R_3 : w5.cell? ⟨R, 3, none⟩ = some (.int .i64 0) := by rw [bb5.cell (p := ⟨R, 3, none⟩) (by dsimp only; omega)]; exact cw4_R_3
  have cw5_R_f : ∀ i, w5.frozen? ⟨R, i, none⟩ = false := fun i => by rw [bb5.frozen (p := ⟨R, i, none⟩) (by dsimp only; omega)]; exact cw4_R_f i
  have cw5_R1_0 : w5.cell? ⟨R1, 0, none⟩ = some (.int .i64 0) := by rw [bb5.cell (p := ⟨R1, 0, none⟩) (by dsimp only; omega)]; exact cw4_R1_0
  have cw5_R1_1 : w5.cell? ⟨R1, 1, none⟩ = some (.int .i64 0) := by rw [bb5.cell (p := ⟨R1, 1, none⟩) (by dsimp only; omega)]; exact cw4_R1_1
  have cw5_R1_2 : w5.cell? ⟨R1, 2, none⟩ = some (.int .i64 0) := by rw [bb5.cell (p := ⟨R1, 2, none⟩) (by dsimp only; omega)]; exact cw4_R1_2
  have cw5_R1_3 : w5.cell? ⟨R1, 3, none⟩ = some (.int .i64 0) := by rw [bb5.cell (p := ⟨R1, 3, none⟩) (by dsimp only; omega)]; exact cw4_R1_3
  have cw5_R1_f : ∀ i, w5.frozen? ⟨R1, i, none⟩ = false := fun i => by rw [bb5.frozen (p := ⟨R1, i, none⟩) (by dsimp only; omega)]; exact cw4_R1_f i
  have cw5_bm_0 : w5.cell? ⟨bm, 0, none⟩ = some (.int .i64 p) := by rw [bb5.cell (p := ⟨bm, 0, none⟩) (by dsimp only; omega)]; exact cw4_bm_0
  have cw5_bm_1 : w5.cell? ⟨bm, 1, none⟩ = some (.int .i64 q) := by rw [bb5.cell (p := ⟨bm, 1, none⟩) (by dsimp only; omega)]; exact cw4_bm_1
  have cw5_bm_2 : w5.cell? ⟨bm, 2, none⟩ = some (.int .i64 r) := by rw [bb5.cell (p := ⟨bm, 2, none⟩) (by dsimp only; omega)]; exact cw4_bm_2
  have cw5_bm_3 : w5.cell? ⟨bm, 3, none⟩ = some (.int .i64 t) := by rw [bb5.cell (p := ⟨bm, 3, none⟩) (by dsimp only; omega)]; exact cw4_bm_3
  have cw5_bm_f : ∀ i, w5.frozen? ⟨bm, i, none⟩ = false := fun i => by rw [bb5.frozen (p := ⟨bm, i, none⟩) (by dsimp only; omega)]; exact cw4_bm_f i
  clear cw4_R_0 cw4_R_1 cw4_R_2 cw4_R_3 cw4_R_f cw4_R1_0 cw4_R1_1 cw4_R1_2 cw4_R1_3 cw4_R1_f cw4_bm_0 cw4_bm_1 cw4_bm_2 cw4_bm_3 cw4_bm_f
  have cw5_bn_0 : w5.cell? ⟨bn, 0, none⟩ = some (.int .i64 p') := by subst hw5 hbn; first | (go_cell; done) | (go_simp; done)
  have cw5_bn_1 : w5.cell? ⟨bn, 1, none⟩ = some (.int .i64 q') := by subst hw5 hbn; first | (go_cell; done) | (go_simp; done)
  have cw5_bn_2 : w5.cell? ⟨bn, 2, none⟩ = some (.int .i64 r') := by subst hw5 hbn; first | (go_cell; done) | (go_simp; done)
  have cw5_bn_3 : w5.cell? ⟨bn, 3, none⟩ = some (.int .i64 t') := by subst hw5 hbn; first | (go_cell; done) | (go_simp; done)
  have cw5_bn_f : ∀ i, w5.frozen? ⟨bn, i, none⟩ = false := by intro i; subst hw5 hbn; first | (go_cell; done) | (go_simp; done)
  have hq5 : bn < w5.heap.size := by subst hw5 hbn; simp
  have hS5 := hS4.below bb5 (by have := hS4.lt; omega)
  have hB5 : Below R w w5 := hB4.trans (bb5.mono (by omega))
  have hsbn : s < bn := by have := hS4.lt; omega
  have hobn : w4.heap.size ≤ bn := by omega
  (try rw [hbn])
  clear hw5 hbn bb5 hS4 hB4
  clear hMB
  have hmn : bm < bn := by omega
  refine (next_c s 16 _ hS5 (by omega) (by omega)).mono ?_
  rintro e w6 ⟨x, rfl, -, -, hS6, hK6⟩
  have hq6 := hK6.size
  have cw6_R_0 : w6.cell? ⟨R, 0, none⟩ = some (.int .i64 0) := by rw [hK6.cell (p := ⟨R, 0, none⟩) (by dsimp only; omega) (by dsimp only; omega)]; exact cw5_R_0
  have cw6_R_1 : w6.cell? ⟨R, 1, none⟩ = some (.int .i64 0) := by rw [hK6.cell (p := ⟨R, 1, none⟩) (by dsimp only; omega) (by dsimp only; omega)]; exact cw5_R_1
  have cw6_R_2 : w6.cell? ⟨R, 2, none⟩ = some (.int .i64 0) := by rw [hK6.cell (p := ⟨R, 2, none⟩) (by dsimp only; omega) (by dsimp only; omega)]; exact cw5_R_2
  have cw6_R_3 : w6.cell? ⟨R, 3, none⟩ = some (.int .i64 0) := by rw [hK6.cell (p := ⟨R, 3, none⟩) (by dsimp only; omega) (by dsimp only; omega)]; exact cw5_R_3
  have cw6_R_f : ∀ i, w6.frozen? ⟨R, i, none⟩ = false := fun i => by rw [hK6.frozen (p := ⟨R, i, none⟩) (by dsimp only; omega) (by dsimp only; omega)]; exact cw5_R_f i
  have cw6_R1_0 : w6.cell? ⟨R1, 0, none⟩ = some (.int .i64 0) := by rw [hK6.cell (p := ⟨R1, 0, none⟩) (by dsimp only; omega) (by dsimp only; omega)]; exact cw5_R1_0
  have cw6_R1_1 : w6.cell? ⟨R1, 1, none⟩ = some (.int .i64 0) := by rw [hK6.cell (p := ⟨R1, 1, none⟩) (by dsimp only; omega) (by dsimp only; omega)]; exact cw5_R1_1
  have cw6_R1_2 : w6.cell? ⟨R1, 2, none⟩ = some (.int .i64 0) := by rw [hK6.cell (p := ⟨R1, 2, none⟩) (by dsimp only; omega) (by dsimp only; omega)]; exact cw5_R1_2
  have cw6_R1_3 : w6.cell? ⟨R1, 3, none⟩ = some (.int .i64 0) := by rw [hK6.cell (p := ⟨R1, 3, none⟩) (by dsimp only; omega) (by dsimp only; omega)]; exact cw5_R1_3
  have cw6_R1_f : ∀ i, w6.frozen? ⟨R1, i, none⟩ = false := fun i => by rw [hK6.frozen (p := ⟨R1, i, none⟩) (by dsimp only; omega) (by dsimp only; omega)]; exact cw5_R1_f i
  have cw6_bm_0 : w6.cell? ⟨bm, 0, none⟩ = some (.int .i64 p) := by rw [hK6.cell (p := ⟨bm, 0, none⟩) (by dsimp only; omega) (by dsimp only; omega)]; exact cw5_bm_0
  have cw6_bm_1 : w6.cell? ⟨bm, 1, none⟩ = some (.int .i64 q) := by rw [hK6.cell (p := ⟨bm, 1, none⟩) (by dsimp only; omega) (by dsimp only; omega)]; exact cw5_bm_1
  have cw6_bm_2 : w6.cell? ⟨bm, 2, none⟩ = some (.int .i64 r) := by rw [hK6.cell (p := ⟨bm, 2, none⟩) (by dsimp only; omega) (by dsimp only; omega)]; exact cw5_bm_2
  have cw6_bm_3 : w6.cell? ⟨bm, 3, none⟩ = some (.int .i64 t) := by rw [hK6.cell (p := ⟨bm, 3, none⟩) (by dsimp only; omega) (by dsimp only; omega)]; exact cw5_bm_3
  have cw6_bm_f : ∀ i, w6.frozen? ⟨bm, i, none⟩ = false := fun i => by rw [hK6.frozen (p := ⟨bm, i, none⟩) (by dsimp only; omega) (by dsimp only; omega)]; exact cw5_bm_f i
  have cw6_bn_0 : w6.cell? ⟨bn, 0, none⟩ = some (.int .i64 p') := by rw [hK6.cell (p := ⟨bn, 0, none⟩) (by dsimp only; omega) (by dsimp only; omega)]; exact cw5_bn_0
  have cw6_bn_1 : w6.cell? ⟨bn, 1, none⟩ = some (.int .i64 q') := by rw [hK6.cell (p := ⟨bn, 1, none⟩) (by dsimp only; omega) (by dsimp only; omega)]; exact cw5_bn_1
  have cw6_bn_2 : w6.cell? ⟨bn, 2, none⟩ = some (.int .i64 r') := by rw [hK6.cell (p := ⟨bn, 2, none⟩) (by dsimp only; omega) (by dsimp only; omega)]; exact cw5_bn_2
  have cw6_bn_3 : w6.cell? ⟨bn, 3, none⟩ = some (.int .i64 t') := by rw [hK6.cell (p := ⟨bn, 3, none⟩) (by dsimp only; omega) (by dsimp only; omega)]; exact cw5_bn_3
  have cw6_bn_f : ∀ i, w6.frozen? ⟨bn, i, none⟩ = false := fun i => by rw [hK6.frozen (p := ⟨bn, i, none⟩) (by dsimp only; omega) (by dsimp only; omega)]; exact cw5_bn_f i
  clear cw5_R_0 cw5_R_1 cw5_R_2 cw5_R_3 cw5_R_f cw5_R1_0 cw5_R1_1 cw5_R1_2 cw5_R1_3 cw5_R1_f cw5_bm_0 cw5_bm_1 cw5_bm_2 cw5_bm_3 cw5_bm_f cw5_bn_0 cw5_bn_1 cw5_bn_2 cw5_bn_3 cw5_bn_f
  have hB6 : Below R w w6 := hB5.trans ((hK6.mono (by omega)).below (by omega))
  clear hB5 hS5 hK6
  have hsl6 := hS6.lt
  by_cases h0 : x = 0
  · subst h0
    go_wp2
    generalize hw7 : World.setCell _ _ _ = w7
    have cw7_R_0 : w7.cell? ⟨R, 0, none⟩ = some (.int .i64 0) := by subst hw7; go_simp
    have cw7_R_1 : w7.cell? ⟨R, 1, none⟩ = some (.int .i64 0) := by subst hw7; go_simp
    have cw7_R_2 : w7.cell? ⟨R, 2, none⟩ = some (.int .i64 0) := by subst hw7; go_simp
    have cw7_R_3 : w7.cell? ⟨R, 3, none⟩ = some (.int .i64 0) := by subst hw7; go_simp
    have cw7_R_f : ∀ i, w7.frozen? ⟨R, i, none⟩ = false := by subst hw7; intro i; go_simp
    have cw7_R1_0 : w7.cell? ⟨R1, 0, none⟩ = some (.int .i64 0) := by subst hw7; go_simp
    have cw7_R1_1 : w7.cell? ⟨R1, 1, none⟩ = some (.int .i64 0) := by subst hw7; go_simp
    have cw7_R1_2 : w7.cell? ⟨R1, 2, none⟩ = some (.int .i64 0) := by subst hw7; go_simp
    have cw7_R1_3 : w7.cell? ⟨R1, 3, none⟩ = some (.int .i64 0) := by subst hw7; go_simp
    have cw7_R1_f : ∀ i, w7.frozen? ⟨R1, i, none⟩ = false := by subst hw7; intro i; go_simp
    have cw7_bm_0 : w7.cell? ⟨bm, 0, none⟩ = some (.int .i64 1) := by subst hw7; go_simp
    have cw7_bm_1 : w7.cell? ⟨bm, 1, none⟩ = some (.int .i64 900000000) := by subst hw7; go_simp
    have cw7_bm_2 : w7.cell? ⟨bm, 2, none⟩ = some (.int .i64 0) := by subst hw7; go_simp
    have cw7_bm_3 : w7.cell? ⟨bm, 3, none⟩ = some (.int .i64 1) := by subst hw7; go_simp
    have cw7_bm_f : ∀ i, w7.frozen? ⟨bm, i, none⟩ = false := by subst hw7; intro i; go_simp
    have cw7_bn_0 : w7.cell? ⟨bn, 0, none⟩ = some (.int .i64 p') := by subst hw7; go_simp
    have cw7_bn_1 : w7.cell? ⟨bn, 1, none⟩ = some (.int .i64 q') := by subst hw7; go_simp
    have cw7_bn_2 : w7.cell? ⟨bn, 2, none⟩ = some (.int .i64 r') := by subst hw7; go_simp
    have cw7_bn_3 : w7.cell? ⟨bn, 3, none⟩ = some (.int .i64 t') := by subst hw7; go_simp
    have cw7_bn_f : ∀ i, w7.frozen? ⟨bn, i, none⟩ = false := by subst hw7; intro i; go_simp
    have hS7 : Src s w7 := by subst hw7; exact (by repeat' (first | (with_reducible assumption) | (with_reducible refine Src.drewN ?_ _) | (with_reducible refine Src.drew ?_) | (with_reducible refine Src.alloc ?_ _) | (with_reducible refine Src.setCell ?_ ?_ _) | (with_reducible refine Src.below ?_ (by with_reducible assumption) ?_) | go_size | (dsimp only; omega)))
    have hB7 : Below R w w7 := by subst hw7; exact (by repeat' (first | (with_reducible exact Below.refl _ _) | (with_reducible assumption) | (with_reducible refine below_drewN ?_ _) | (with_reducible refine Below.drew ?_) | (with_reducible refine Below.alloc ?_ ?_ _) | (with_reducible refine Below.setCell ?_ ?_ _) | (with_reducible refine Below.trans ?_ (Below.mono (by with_reducible assumption) ?_)) | go_size | (dsimp only; omega)))
    have hq7 : w6.heap.size ≤ w7.heap.size := by subst hw7; go_size
    clear hw7 hS6 hB6 cw6_R_0 cw6_R_1 cw6_R_2 cw6_R_3 cw6_R_f cw6_R1_0 cw6_R1_1 cw6_R1_2 cw6_R1_3 cw6_R1_f cw6_bm_0 cw6_bm_1 cw6_bm_2 cw6_bm_3 cw6_bm_f cw6_bn_0 cw6_bn_1 cw6_bn_2 cw6_bn_3 cw6_bn_f
    have hlt := hS7.lt
    go_region_held3 (fun w' => w'.cell? ⟨bm, 0, none⟩ = some (.int .i64 1) ∧ w'.cell? ⟨bm, 1, none⟩ = some (.int .i64 900000000) ∧ w'.cell? ⟨bm, 2, none⟩ = some (.int .i64 0) ∧ w'.cell? ⟨bm, 3, none⟩ = some (.int .i64 1) ∧ w'.cell? ⟨bn, 0, none⟩ = some (.int .i64 p') ∧ w'.cell? ⟨bn, 1, none⟩ = some (.int .i64 q') ∧ w'.cell? ⟨bn, 2, none⟩ = some (.int .i64 r') ∧ w'.cell? ⟨bn, 3, none⟩ = some (.int .i64 t')) (((try go_split_ands); (try (refine ⟨?_, ?_, ?_, ?_, ?_, ?_, ?_, ?_⟩)) <;> first | (with_reducible assumption) | ((try (with_reducible refine keep_drew ?_)); (repeat (with_reducible refine keep_set ?_ (by dsimp only; omega))); (with_reducible assumption)) | (with_reducible exact keep_drew (by with_reducible assumption)) | (with_reducible exact keep_new (by with_reducible assumption)) | (with_reducible exact keep_alloc (by with_reducible assumption) (by dsimp only; omega)) | (with_reducible exact keep_drew (keep_new (by with_reducible assumption))) | ((with_reducible refine keep_set ?_ (by dsimp only; omega)); (repeat (with_reducible refine keep_set ?_ (by dsimp only; omega))); first | (with_reducible assumption) | (with_reducible exact keep_drew (by with_reducible assumption))) | (go_keep; done))) (first | (have hguard := hSx; clear hguard; go_at_call 81; refine (bad_c s (p') (q') (r') (t') _ (by first | exact hSx | exact hSx.drew | exact hSx.alloc _ | exact (hSx.alloc _).drew | exact hSx.drew.alloc _ | exact (hSx.drew.alloc _).drew | exact (by repeat' (first | (with_reducible assumption) | (with_reducible refine Src.drewN ?_ _) | (with_reducible refine Src.drew ?_) | (with_reducible refine Src.alloc ?_ _) | (with_reducible refine Src.setCell ?_ ?_ _) | (with_reducible refine Src.below ?_ (by with_reducible assumption) ?_) | go_size | (dsimp only; omega))))).mono ?_; rintro e w17 ⟨⟨b0, b1, b2, b3, rfl⟩, hSy, hKy⟩; have zv := hKy.size; have bxv0 := hKy.mono (B' := R) (by go_size); have bxv := bxv0.below (show R ≤ s by omega); clear bxv0; (try simp only [World.size_alloc, World.size_drew] at zv); have zzhKy := hKy.size; (try simp at zzhKy); have zhKy_R0 : R < w17.heap.size := (by omega); have kchKy_R0 : ∀ o, w17.cell? ⟨R, o, none⟩ = _ := fun o => hKy.cell (p := ⟨R, o, none⟩) (by go_size) (by dsimp only; omega); have kfhKy_R0 : ∀ o, w17.frozen? ⟨R, o, none⟩ = _ := fun o => hKy.frozen (p := ⟨R, o, none⟩) (by go_size) (by dsimp only; omega); have zhKy_R10 : R1 < w17.heap.size := (by omega); have kchKy_R10 : ∀ o, w17.cell? ⟨R1, o, none⟩ = _ := fun o => hKy.cell (p := ⟨R1, o, none⟩) (by go_size) (by dsimp only; omega); have kfhKy_R10 : ∀ o, w17.frozen? ⟨R1, o, none⟩ = _ := fun o => hKy.frozen (p := ⟨R1, o, none⟩) (by go_size) (by dsimp only; omega); have zhKy_bm0 : bm < w17.heap.size := (by omega); have kchKy_bm0 : ∀ o, w17.cell? ⟨bm, o, none⟩ = _ := fun o => hKy.cell (p := ⟨bm, o, none⟩) (by go_size) (by dsimp only; omega); have kfhKy_bm0 : ∀ o, w17.frozen? ⟨bm, o, none⟩ = _ := fun o => hKy.frozen (p := ⟨bm, o, none⟩) (by go_size) (by dsimp only; omega); have zhKy_bn0 : bn < w17.heap.size := (by omega); have kchKy_bn0 : ∀ o, w17.cell? ⟨bn, o, none⟩ = _ := fun o => hKy.cell (p := ⟨bn, o, none⟩) (by go_size) (by dsimp only; omega); have kfhKy_bn0 : ∀ o, w17.frozen? ⟨bn, o, none⟩ = _ := fun o => hKy.frozen (p := ⟨bn, o, none⟩) (by go_size) (by dsimp only; omega); clear zzhKy; have nv0 : w17.cell? ⟨bm, 0, none⟩ = some (.int .i64 1) := (by rw [hKy.cell (p := ⟨bm, 0, none⟩) (by go_size) (by dsimp only; omega)]; first | assumption | (go_simp; done)); have nv1 : w17.cell? ⟨bm, 1, none⟩ = some (.int .i64 900000000) := (by rw [hKy.cell (p := ⟨bm, 1, none⟩) (by go_size) (by dsimp only; omega)]; first | assumption | (go_simp; done)); have nv2 : w17.cell? ⟨bm, 2, none⟩ = some (.int .i64 0) := (by rw [hKy.cell (p := ⟨bm, 2, none⟩) (by go_size) (by dsimp only; omega)]; first | assumption | (go_simp; done)); have nv3 : w17.cell? ⟨bm, 3, none⟩ = some (.int .i64 1) := (by rw [hKy.cell (p := ⟨bm, 3, none⟩) (by go_size) (by dsimp only; omega)]; first | assumption | (go_simp; done)); have nv4 : w17.cell? ⟨bn, 0, none⟩ = some (.int .i64 p') := (by rw [hKy.cell (p := ⟨bn, 0, none⟩) (by go_size) (by dsimp only; omega)]; first | assumption | (go_simp; done)); have nv5 : w17.cell? ⟨bn, 1, none⟩ = some (.int .i64 q') := (by rw [hKy.cell (p := ⟨bn, 1, none⟩) (by go_size) (by dsimp only; omega)]; first | assumption | (go_simp; done)); have nv6 : w17.cell? ⟨bn, 2, none⟩ = some (.int .i64 r') := (by rw [hKy.cell (p := ⟨bn, 2, none⟩) (by go_size) (by dsimp only; omega)]; first | assumption | (go_simp; done)); have nv7 : w17.cell? ⟨bn, 3, none⟩ = some (.int .i64 t') := (by rw [hKy.cell (p := ⟨bn, 3, none⟩) (by go_size) (by dsimp only; omega)]; first | assumption | (go_simp; done))) | (go_at_call 81; refine (bad_c s (1) (900000000) (0) (1) _ (by first | exact hS7 | exact hS7.drew | exact hS7.alloc _ | exact (hS7.alloc _).drew | exact hS7.drew.alloc _ | exact (hS7.drew.alloc _).drew | exact (by repeat' (first | (with_reducible assumption) | (with_reducible refine Src.drewN ?_ _) | (with_reducible refine Src.drew ?_) | (with_reducible refine Src.alloc ?_ _) | (with_reducible refine Src.setCell ?_ ?_ _) | (with_reducible refine Src.below ?_ (by with_reducible assumption) ?_) | go_size | (dsimp only; omega))))).mono ?_; rintro e w16 ⟨⟨a0, a1, a2, a3, rfl⟩, hSx, hKx⟩; have zu := hKx.size; have bxu0 := hKx.mono (B' := R) (by go_size); have bxu := bxu0.below (show R ≤ s by omega); clear bxu0; (try simp only [World.size_alloc, World.size_drew] at zu); have zzhKx := hKx.size; (try simp at zzhKx); have zhKx_R0 : R < w16.heap.size := (by omega); have kchKx_R0 : ∀ o, w16.cell? ⟨R, o, none⟩ = _ := fun o => hKx.cell (p := ⟨R, o, none⟩) (by go_size) (by dsimp only; omega); have kfhKx_R0 : ∀ o, w16.frozen? ⟨R, o, none⟩ = _ := fun o => hKx.frozen (p := ⟨R, o, none⟩) (by go_size) (by dsimp only; omega); have zhKx_R10 : R1 < w16.heap.size := (by omega); have kchKx_R10 : ∀ o, w16.cell? ⟨R1, o, none⟩ = _ := fun o => hKx.cell (p := ⟨R1, o, none⟩) (by go_size) (by dsimp only; omega); have kfhKx_R10 : ∀ o, w16.frozen? ⟨R1, o, none⟩ = _ := fun o => hKx.frozen (p := ⟨R1, o, none⟩) (by go_size) (by dsimp only; omega); have zhKx_bm0 : bm < w16.heap.size := (by omega); have kchKx_bm0 : ∀ o, w16.cell? ⟨bm, o, none⟩ = _ := fun o => hKx.cell (p := ⟨bm, o, none⟩) (by go_size) (by dsimp only; omega); have kfhKx_bm0 : ∀ o, w16.frozen? ⟨bm, o, none⟩ = _ := fun o => hKx.frozen (p := ⟨bm, o, none⟩) (by go_size) (by dsimp only; omega); have zhKx_bn0 : bn < w16.heap.size := (by omega); have kchKx_bn0 : ∀ o, w16.cell? ⟨bn, o, none⟩ = _ := fun o => hKx.cell (p := ⟨bn, o, none⟩) (by go_size) (by dsimp only; omega); have kfhKx_bn0 : ∀ o, w16.frozen? ⟨bn, o, none⟩ = _ := fun o => hKx.frozen (p := ⟨bn, o, none⟩) (by go_size) (by dsimp only; omega); clear zzhKx; have nu0 : w16.cell? ⟨bm, 0, none⟩ = some (.int .i64 1) := (by rw [hKx.cell (p := ⟨bm, 0, none⟩) (by go_size) (by dsimp only; omega)]; first | assumption | (go_simp; done)); have nu1 : w16.cell? ⟨bm, 1, none⟩ = some (.int .i64 900000000) := (by rw [hKx.cell (p := ⟨bm, 1, none⟩) (by go_size) (by dsimp only; omega)]; first | assumption | (go_simp; done)); have nu2 : w16.cell? ⟨bm, 2, none⟩ = some (.int .i64 0) := (by rw [hKx.cell (p := ⟨bm, 2, none⟩) (by go_size) (by dsimp only; omega)]; first | assumption | (go_simp; done)); have nu3 : w16.cell? ⟨bm, 3, none⟩ = some (.int .i64 1) := (by rw [hKx.cell (p := ⟨bm, 3, none⟩) (by go_size) (by dsimp only; omega)]; first | assumption | (go_simp; done)); have nu4 : w16.cell? ⟨bn, 0, none⟩ = some (.int .i64 p') := (by rw [hKx.cell (p := ⟨bn, 0, none⟩) (by go_size) (by dsimp only; omega)]; first | assumption | (go_simp; done)); have nu5 : w16.cell? ⟨bn, 1, none⟩ = some (.int .i64 q') := (by rw [hKx.cell (p := ⟨bn, 1, none⟩) (by go_size) (by dsimp only; omega)]; first | assumption | (go_simp; done)); have nu6 : w16.cell? ⟨bn, 2, none⟩ = some (.int .i64 r') := (by rw [hKx.cell (p := ⟨bn, 2, none⟩) (by go_size) (by dsimp only; omega)]; first | assumption | (go_simp; done)); have nu7 : w16.cell? ⟨bn, 3, none⟩ = some (.int .i64 t') := (by rw [hKx.cell (p := ⟨bn, 3, none⟩) (by go_size) (by dsimp only; omega)]; first | assumption | (go_simp; done))))
    all_goals (try go_split_ands)
    all_goals
      generalize hW : World.setCell _ _ _ = W5
      have rR0' : W5.cell? ⟨R, 0, none⟩ = some (.int .i64 a0) := by subst hW; go_simp
      have rR1' : W5.cell? ⟨R, 1, none⟩ = some (.int .i64 a1) := by subst hW; go_simp
      have rR2' : W5.cell? ⟨R, 2, none⟩ = some (.int .i64 a2) := by subst hW; go_simp
      have rR3' : W5.cell? ⟨R, 3, none⟩ = some (.int .i64 a3) := by subst hW; go_simp
      have rR10' : W5.cell? ⟨R1, 0, none⟩ = some (.int .i64 b0) := by subst hW; go_simp
      have rR11' : W5.cell? ⟨R1, 1, none⟩ = some (.int .i64 b1) := by subst hW; go_simp
      have rR12' : W5.cell? ⟨R1, 2, none⟩ = some (.int .i64 b2) := by subst hW; go_simp
      have rR13' : W5.cell? ⟨R1, 3, none⟩ = some (.int .i64 b3) := by subst hW; go_simp
      have hB5 : Below R w W5 := by subst hW; exact (by repeat' (first | (with_reducible exact Below.refl _ _) | (with_reducible assumption) | (with_reducible refine below_drewN ?_ _) | (with_reducible refine Below.drew ?_) | (with_reducible refine Below.alloc ?_ ?_ _) | (with_reducible refine Below.setCell ?_ ?_ _) | (with_reducible refine Below.trans ?_ (Below.mono (by with_reducible assumption) ?_)) | go_size | (dsimp only; omega)))
      clear hW
      (try clear hb)
      clear cw7_R_0 cw7_R_1 cw7_R_2 cw7_R_3 cw7_R_f cw7_R1_0 cw7_R1_1 cw7_R1_2 cw7_R1_3 cw7_R1_f cw7_bm_0 cw7_bm_1 cw7_bm_2 cw7_bm_3 cw7_bm_f cw7_bn_0 cw7_bn_1 cw7_bn_2 cw7_bn_3 cw7_bn_f
      go_wp2
      exact bodyPost_ret (v := .tuple #[.agg #[.int .i64 a0, .int .i64 a1, .int .i64 a2, .int .i64 a3], .agg #[.int .i64 b0, .int .i64 b1, .int .i64 b2, .int .i64 b3]]) (by simp only [results, Tryz.results101]; go_simp) rfl ⟨⟨a0, a1, a2, a3, b0, b1, b2, b3, rfl⟩, by rw [HRW.out]; exact (by repeat' (first | (with_reducible exact Below.refl _ _) | (with_reducible assumption) | (with_reducible refine below_drewN ?_ _) | (with_reducible refine Below.drew ?_) | (with_reducible refine Below.alloc ?_ ?_ _) | (with_reducible refine Below.setCell ?_ ?_ _) | (with_reducible refine Below.trans ?_ (Below.mono (by with_reducible assumption) ?_)) | go_size | (dsimp only; omega)))⟩
  · have h0' : (x == 0) = false := by simpa using h0
    go_wp2
    have hlt := hS6.lt
    go_region_held3 (fun w' => w'.cell? ⟨bm, 0, none⟩ = some (.int .i64 p) ∧ w'.cell? ⟨bm, 1, none⟩ = some (.int .i64 q) ∧ w'.cell? ⟨bm, 2, none⟩ = some (.int .i64 r) ∧ w'.cell? ⟨bm, 3, none⟩ = some (.int .i64 t) ∧ w'.cell? ⟨bn, 0, none⟩ = some (.int .i64 p') ∧ w'.cell? ⟨bn, 1, none⟩ = some (.int .i64 q') ∧ w'.cell? ⟨bn, 2, none⟩ = some (.int .i64 r') ∧ w'.cell? ⟨bn, 3, none⟩ = some (.int .i64 t')) (((try go_split_ands); (try (refine ⟨?_, ?_, ?_, ?_, ?_, ?_, ?_, ?_⟩)) <;> first | (with_reducible assumption) | ((try (with_reducible refine keep_drew ?_)); (repeat (with_reducible refine keep_set ?_ (by dsimp only; omega))); (with_reducible assumption)) | (with_reducible exact keep_drew (by with_reducible assumption)) | (with_reducible exact keep_new (by with_reducible assumption)) | (with_reducible exact keep_alloc (by with_reducible assumption) (by dsimp only; omega)) | (with_reducible exact keep_drew (keep_new (by with_reducible assumption))) | ((with_reducible refine keep_set ?_ (by dsimp only; omega)); (repeat (with_reducible refine keep_set ?_ (by dsimp only; omega))); first | (with_reducible assumption) | (with_reducible exact keep_drew (by with_reducible assumption))) | (go_keep; done))) (first | (have hguard := hSx; clear hguard; go_at_call 81; refine (bad_c s (p') (q') (r') (t') _ (by first | exact hSx | exact hSx.drew | exact hSx.alloc _ | exact (hSx.alloc _).drew | exact hSx.drew.alloc _ | exact (hSx.drew.alloc _).drew | exact (by repeat' (first | (with_reducible assumption) | (with_reducible refine Src.drewN ?_ _) | (with_reducible refine Src.drew ?_) | (with_reducible refine Src.alloc ?_ _) | (with_reducible refine Src.setCell ?_ ?_ _) | (with_reducible refine Src.below ?_ (by with_reducible assumption) ?_) | go_size | (dsimp only; omega))))).mono ?_; rintro e w17 ⟨⟨b0, b1, b2, b3, rfl⟩, hSy, hKy⟩; have zv := hKy.size; have bxv0 := hKy.mono (B' := R) (by go_size); have bxv := bxv0.below (show R ≤ s by omega); clear bxv0; (try simp only [World.size_alloc, World.size_drew] at zv); have zzhKy := hKy.size; (try simp at zzhKy); have zhKy_R0 : R < w17.heap.size := (by omega); have kchKy_R0 : ∀ o, w17.cell? ⟨R, o, none⟩ = _ := fun o => hKy.cell (p := ⟨R, o, none⟩) (by go_size) (by dsimp only; omega); have kfhKy_R0 : ∀ o, w17.frozen? ⟨R, o, none⟩ = _ := fun o => hKy.frozen (p := ⟨R, o, none⟩) (by go_size) (by dsimp only; omega); have zhKy_R10 : R1 < w17.heap.size := (by omega); have kchKy_R10 : ∀ o, w17.cell? ⟨R1, o, none⟩ = _ := fun o => hKy.cell (p := ⟨R1, o, none⟩) (by go_size) (by dsimp only; omega); have kfhKy_R10 : ∀ o, w17.frozen? ⟨R1, o, none⟩ = _ := fun o => hKy.frozen (p := ⟨R1, o, none⟩) (by go_size) (by dsimp only; omega); have zhKy_bm0 : bm < w17.heap.size := (by omega); have kchKy_bm0 : ∀ o, w17.cell? ⟨bm, o, none⟩ = _ := fun o => hKy.cell (p := ⟨bm, o, none⟩) (by go_size) (by dsimp only; omega); have kfhKy_bm0 : ∀ o, w17.frozen? ⟨bm, o, none⟩ = _ := fun o => hKy.frozen (p := ⟨bm, o, none⟩) (by go_size) (by dsimp only; omega); have zhKy_bn0 : bn < w17.heap.size := (by omega); have kchKy_bn0 : ∀ o, w17.cell? ⟨bn, o, none⟩ = _ := fun o => hKy.cell (p := ⟨bn, o, none⟩) (by go_size) (by dsimp only; omega); have kfhKy_bn0 : ∀ o, w17.frozen? ⟨bn, o, none⟩ = _ := fun o => hKy.frozen (p := ⟨bn, o, none⟩) (by go_size) (by dsimp only; omega); clear zzhKy; have nv0 : w17.cell? ⟨bm, 0, none⟩ = some (.int .i64 p) := (by rw [hKy.cell (p := ⟨bm, 0, none⟩) (by go_size) (by dsimp only; omega)]; first | assumption | (go_simp; done)); have nv1 : w17.cell? ⟨bm, 1, none⟩ = some (.int .i64 q) := (by rw [hKy.cell (p := ⟨bm, 1, none⟩) (by go_size) (by dsimp only; omega)]; first | assumption | (go_simp; done)); have nv2 : w17.cell? ⟨bm, 2, none⟩ = some (.int .i64 r) := (by rw [hKy.cell (p := ⟨bm, 2, none⟩) (by go_size) (by dsimp only; omega)]; first | assumption | (go_simp; done)); have nv3 : w17.cell? ⟨bm, 3, none⟩ = some (.int .i64 t) := (by rw [hKy.cell (p := ⟨bm, 3, none⟩) (by go_size) (by dsimp only; omega)]; first | assumption | (go_simp; done)); have nv4 : w17.cell? ⟨bn, 0, none⟩ = some (.int .i64 p') := (by rw [hKy.cell (p := ⟨bn, 0, none⟩) (by go_size) (by dsimp only; omega)]; first | assumption | (go_simp; done)); have nv5 : w17.cell? ⟨bn, 1, none⟩ = some (.int .i64 q') := (by rw [hKy.cell (p := ⟨bn, 1, none⟩) (by go_size) (by dsimp only; omega)]; first | assumption | (go_simp; done)); have nv6 : w17.cell? ⟨bn, 2, none⟩ = some (.int .i64 r') := (by rw [hKy.cell (p := ⟨bn, 2, none⟩) (by go_size) (by dsimp only; omega)]; first | assumption | (go_simp; done)); have nv7 : w17.cell? ⟨bn, 3, none⟩ = some (.int .i64 t') := (by rw [hKy.cell (p := ⟨bn, 3, none⟩) (by go_size) (by dsimp only; omega)]; first | assumption | (go_simp; done))) | (go_at_call 81; refine (bad_c s (p) (q) (r) (t) _ (by first | exact hS6 | exact hS6.drew | exact hS6.alloc _ | exact (hS6.alloc _).drew | exact hS6.drew.alloc _ | exact (hS6.drew.alloc _).drew | exact (by repeat' (first | (with_reducible assumption) | (with_reducible refine Src.drewN ?_ _) | (with_reducible refine Src.drew ?_) | (with_reducible refine Src.alloc ?_ _) | (with_reducible refine Src.setCell ?_ ?_ _) | (with_reducible refine Src.below ?_ (by with_reducible assumption) ?_) | go_size | (dsimp only; omega))))).mono ?_; rintro e w16 ⟨⟨a0, a1, a2, a3, rfl⟩, hSx, hKx⟩; have zu := hKx.size; have bxu0 := hKx.mono (B' := R) (by go_size); have bxu := bxu0.below (show R ≤ s by omega); clear bxu0; (try simp only [World.size_alloc, World.size_drew] at zu); have zzhKx := hKx.size; (try simp at zzhKx); have zhKx_R0 : R < w16.heap.size := (by omega); have kchKx_R0 : ∀ o, w16.cell? ⟨R, o, none⟩ = _ := fun o => hKx.cell (p := ⟨R, o, none⟩) (by go_size) (by dsimp only; omega); have kfhKx_R0 : ∀ o, w16.frozen? ⟨R, o, none⟩ = _ := fun o => hKx.frozen (p := ⟨R, o, none⟩) (by go_size) (by dsimp only; omega); have zhKx_R10 : R1 < w16.heap.size := (by omega); have kchKx_R10 : ∀ o, w16.cell? ⟨R1, o, none⟩ = _ := fun o => hKx.cell (p := ⟨R1, o, none⟩) (by go_size) (by dsimp only; omega); have kfhKx_R10 : ∀ o, w16.frozen? ⟨R1, o, none⟩ = _ := fun o => hKx.frozen (p := ⟨R1, o, none⟩) (by go_size) (by dsimp only; omega); have zhKx_bm0 : bm < w16.heap.size := (by omega); have kchKx_bm0 : ∀ o, w16.cell? ⟨bm, o, none⟩ = _ := fun o => hKx.cell (p := ⟨bm, o, none⟩) (by go_size) (by dsimp only; omega); have kfhKx_bm0 : ∀ o, w16.frozen? ⟨bm, o, none⟩ = _ := fun o => hKx.frozen (p := ⟨bm, o, none⟩) (by go_size) (by dsimp only; omega); have zhKx_bn0 : bn < w16.heap.size := (by omega); have kchKx_bn0 : ∀ o, w16.cell? ⟨bn, o, none⟩ = _ := fun o => hKx.cell (p := ⟨bn, o, none⟩) (by go_size) (by dsimp only; omega); have kfhKx_bn0 : ∀ o, w16.frozen? ⟨bn, o, none⟩ = _ := fun o => hKx.frozen (p := ⟨bn, o, none⟩) (by go_size) (by dsimp only; omega); clear zzhKx; have nu0 : w16.cell? ⟨bm, 0, none⟩ = some (.int .i64 p) := (by rw [hKx.cell (p := ⟨bm, 0, none⟩) (by go_size) (by dsimp only; omega)]; first | assumption | (go_simp; done)); have nu1 : w16.cell? ⟨bm, 1, none⟩ = some (.int .i64 q) := (by rw [hKx.cell (p := ⟨bm, 1, none⟩) (by go_size) (by dsimp only; omega)]; first | assumption | (go_simp; done)); have nu2 : w16.cell? ⟨bm, 2, none⟩ = some (.int .i64 r) := (by rw [hKx.cell (p := ⟨bm, 2, none⟩) (by go_size) (by dsimp only; omega)]; first | assumption | (go_simp; done)); have nu3 : w16.cell? ⟨bm, 3, none⟩ = some (.int .i64 t) := (by rw [hKx.cell (p := ⟨bm, 3, none⟩) (by go_size) (by dsimp only; omega)]; first | assumption | (go_simp; done)); have nu4 : w16.cell? ⟨bn, 0, none⟩ = some (.int .i64 p') := (by rw [hKx.cell (p := ⟨bn, 0, none⟩) (by go_size) (by dsimp only; omega)]; first | assumption | (go_simp; done)); have nu5 : w16.cell? ⟨bn, 1, none⟩ = some (.int .i64 q') := (by rw [hKx.cell (p := ⟨bn, 1, none⟩) (by go_size) (by dsimp only; omega)]; first | assumption | (go_simp; done)); have nu6 : w16.cell? ⟨bn, 2, none⟩ = some (.int .i64 r') := (by rw [hKx.cell (p := ⟨bn, 2, none⟩) (by go_size) (by dsimp only; omega)]; first | assumption | (go_simp; done)); have nu7 : w16.cell? ⟨bn, 3, none⟩ = some (.int .i64 t') := (by rw [hKx.cell (p := ⟨bn, 3, none⟩) (by go_size) (by dsimp only; omega)]; first | assumption | (go_simp; done))))
    all_goals (try go_split_ands)
    all_goals
      generalize hW : World.setCell _ _ _ = W5
      have rR0' : W5.cell? ⟨R, 0, none⟩ = some (.int .i64 a0) := by subst hW; go_simp
      have rR1' : W5.cell? ⟨R, 1, none⟩ = some (.int .i64 a1) := by subst hW; go_simp
      have rR2' : W5.cell? ⟨R, 2, none⟩ = some (.int .i64 a2) := by subst hW; go_simp
      have rR3' : W5.cell? ⟨R, 3, none⟩ = some (.int .i64 a3) := by subst hW; go_simp
      have rR10' : W5.cell? ⟨R1, 0, none⟩ = some (.int .i64 b0) := by subst hW; go_simp
      have rR11' : W5.cell? ⟨R1, 1, none⟩ = some (.int .i64 b1) := by subst hW; go_simp
      have rR12' : W5.cell? ⟨R1, 2, none⟩ = some (.int .i64 b2) := by subst hW; go_simp
      have rR13' : W5.cell? ⟨R1, 3, none⟩ = some (.int .i64 b3) := by subst hW; go_simp
      have hB5 : Below R w W5 := by subst hW; exact (by repeat' (first | (with_reducible exact Below.refl _ _) | (with_reducible assumption) | (with_reducible refine below_drewN ?_ _) | (with_reducible refine Below.drew ?_) | (with_reducible refine Below.alloc ?_ ?_ _) | (with_reducible refine Below.setCell ?_ ?_ _) | (with_reducible refine Below.trans ?_ (Below.mono (by with_reducible assumption) ?_)) | go_size | (dsimp only; omega)))
      clear hW
      (try clear hb)
      clear cw6_R_0 cw6_R_1 cw6_R_2 cw6_R_3 cw6_R_f cw6_R1_0 cw6_R1_1 cw6_R1_2 cw6_R1_3 cw6_R1_f cw6_bm_0 cw6_bm_1 cw6_bm_2 cw6_bm_3 cw6_bm_f cw6_bn_0 cw6_bn_1 cw6_bn_2 cw6_bn_3 cw6_bn_f
      go_wp2
      exact bodyPost_ret (v := .tuple #[.agg #[.int .i64 a0, .int .i64 a1, .int .i64 a2, .int .i64 a3], .agg #[.int .i64 b0, .int .i64 b1, .int .i64 b2, .int .i64 b3]]) (by simp only [results, Tryz.results101]; go_simp) rfl ⟨⟨a0, a1, a2, a3, b0, b1, b2, b3, rfl⟩, by rw [HRW.out]; exact (by repeat' (first | (with_reducible exact Below.refl _ _) | (with_reducible assumption) | (with_reducible refine below_drewN ?_ _) | (with_reducible refine Below.drew ?_) | (with_reducible refine Below.alloc ?_ ?_ _) | (with_reducible refine Below.setCell ?_ ?_ _) | (with_reducible refine Below.trans ?_ (Below.mono (by with_reducible assumption) ?_)) | go_size | (dsimp only; omega)))⟩
set_option maxRecDepth 100000 in
set_option maxHeartbeats 4000000 in
theorem drawCompareFractions_c (v : Value) (w : World) (hv : CodeV w v) :
    Calls Tryz.prog 18 #[v] w fun e w' => AnyQQ e ∧ Below w.heap.size w w' := by
  go_enter Tryz.func18, Tryz.ntmps18
  obtain ⟨R, hR⟩ : ∃ R, w.heap.size = R := ⟨_, rfl⟩
  have HRW := Lib.hid hR
  go_wp2_with fail
  generalize hw0 : World.alloc (World.alloc _ _) _ = w0
  have cw0_R_0 : w0.cell? ⟨R, 0, none⟩ = some (.int .i64 0) := by subst hw0 hR; first | (go_cell; done) | (go_simp; done)
  have cw0_R_1 : w0.cell? ⟨R, 1, none⟩ = some (.int .i64 0) := by subst hw0 hR; first | (go_cell; done) | (go_simp; done)
  have cw0_R_f : ∀ i, w0.frozen? ⟨R, i, none⟩ = false := by intro i; subst hw0 hR; first | (go_cell; done) | (go_simp; done)
  have cw0_R1_0 : w0.cell? ⟨(R + 1), 0, none⟩ = some (.int .i64 0) := by subst hw0 hR; first | (go_cell; done) | (go_simp; done)
  have cw0_R1_1 : w0.cell? ⟨(R + 1), 1, none⟩ = some (.int .i64 0) := by subst hw0 hR; first | (go_cell; done) | (go_simp; done)
  have cw0_R1_f : ∀ i, w0.frozen? ⟨(R + 1), i, none⟩ = false := by intro i; subst hw0 hR; first | (go_cell; done) | (go_simp; done)
  have hB0 : Below R w w0 := by subst hw0; rw [← hR]; exact (by repeat' (first | (with_reducible exact Below.refl _ _) | (with_reducible assumption) | (with_reducible refine below_drewN ?_ _) | (with_reducible refine Below.drew ?_) | (with_reducible refine Below.alloc ?_ ?_ _) | (with_reducible refine Below.setCell ?_ ?_ _) | (with_reducible refine Below.trans ?_ (Below.mono (by with_reducible assumption) ?_)) | go_size | (dsimp only; omega)))
  have hq0 : R + 1 < w0.heap.size := by subst hw0; go_size
  obtain ⟨R1, hR1⟩ : ∃ R1, R + 1 = R1 := ⟨_, rfl⟩
  have hRR1 : R < R1 := by omega
  (try rw [hR1])
  rw [hR1] at cw0_R1_0 cw0_R1_1 cw0_R1_f hq0
  have HR1 := Lib.hid hR1
  clear hw0 hR1
  refine (from_c v w0 (by have h := hv.below (hR ▸ hB0); exact h)).mono ?_
  rintro e w1 ⟨s, rfl, hs, hS1, b1⟩
  have hq1 := b1.size
  have hsl := hS1.lt
  have cw1_R_0 : w1.cell? ⟨R, 0, none⟩ = some (.int .i64 0) := by rw [b1.cell (p := ⟨R, 0, none⟩) (by dsimp only; omega)]; exact cw0_R_0
  have cw1_R_1 : w1.cell? ⟨R, 1, none⟩ = some (.int .i64 0) := by rw [b1.cell (p := ⟨R, 1, none⟩) (by dsimp only; omega)]; exact cw0_R_1
  have cw1_R_f : ∀ i, w1.frozen? ⟨R, i, none⟩ = false := fun i => by rw [b1.frozen (p := ⟨R, i, none⟩) (by dsimp only; omega)]; exact cw0_R_f i
  have cw1_R1_0 : w1.cell? ⟨R1, 0, none⟩ = some (.int .i64 0) := by rw [b1.cell (p := ⟨R1, 0, none⟩) (by dsimp only; omega)]; exact cw0_R1_0
  have cw1_R1_1 : w1.cell? ⟨R1, 1, none⟩ = some (.int .i64 0) := by rw [b1.cell (p := ⟨R1, 1, none⟩) (by dsimp only; omega)]; exact cw0_R1_1
  have cw1_R1_f : ∀ i, w1.frozen? ⟨R1, i, none⟩ = false := fun i => by rw [b1.frozen (p := ⟨R1, i, none⟩) (by dsimp only; omega)]; exact cw0_R1_f i
  clear cw0_R_0 cw0_R_1 cw0_R_f cw0_R1_0 cw0_R1_1 cw0_R1_f
  have hB1 : Below R w w1 := hB0.trans (b1.mono (by omega))
  clear hB0 b1 hR
  go_wp2_with fail
  refine (drawFraction_c s _ hS1).mono ?_
  rintro e w2 ⟨p, q, rfl, hFA, hS2, hK2⟩
  have hq2 := hK2.size
  have cw2_R_0 : w2.cell? ⟨R, 0, none⟩ = some (.int .i64 0) := by rw [hK2.cell (p := ⟨R, 0, none⟩) (by dsimp only; omega) (by dsimp only; omega)]; exact cw1_R_0
  have cw2_R_1 : w2.cell? ⟨R, 1, none⟩ = some (.int .i64 0) := by rw [hK2.cell (p := ⟨R, 1, none⟩) (by dsimp only; omega) (by dsimp only; omega)]; exact cw1_R_1
  have cw2_R_f : ∀ i, w2.frozen? ⟨R, i, none⟩ = false := fun i => by rw [hK2.frozen (p := ⟨R, i, none⟩) (by dsimp only; omega) (by dsimp only; omega)]; exact cw1_R_f i
  have cw2_R1_0 : w2.cell? ⟨R1, 0, none⟩ = some (.int .i64 0) := by rw [hK2.cell (p := ⟨R1, 0, none⟩) (by dsimp only; omega) (by dsimp only; omega)]; exact cw1_R1_0
  have cw2_R1_1 : w2.cell? ⟨R1, 1, none⟩ = some (.int .i64 0) := by rw [hK2.cell (p := ⟨R1, 1, none⟩) (by dsimp only; omega) (by dsimp only; omega)]; exact cw1_R1_1
  have cw2_R1_f : ∀ i, w2.frozen? ⟨R1, i, none⟩ = false := fun i => by rw [hK2.frozen (p := ⟨R1, i, none⟩) (by dsimp only; omega) (by dsimp only; omega)]; exact cw1_R1_f i
  clear cw1_R_0 cw1_R_1 cw1_R_f cw1_R1_0 cw1_R1_1 cw1_R1_f
  have hB2 : Below R w w2 := hB1.trans ((hK2.mono (by omega)).below (by omega))
  clear hB1 hS1 hK2
  go_wp2_with fail
  generalize hw3 : World.alloc _ _ = w3
  obtain ⟨bm, hbm⟩ : ∃ b, w2.heap.size = b := ⟨_, rfl⟩
  have bb3 : Below bm w2 w3 := by subst hw3 hbm; exact (by repeat' (first | (with_reducible exact Below.refl _ _) | (with_reducible assumption) | (with_reducible refine below_drewN ?_ _) | (with_reducible refine Below.drew ?_) | (with_reducible refine Below.alloc ?_ ?_ _) | (with_reducible refine Below.setCell ?_ ?_ _) | (with_reducible refine Below.trans ?_ (Below.mono (by with_reducible assumption) ?_)) | go_size | (dsimp only; omega)))
  have cw3_R_0 : w3.cell? ⟨R, 0, none⟩ = some (.int .i64 0) := by rw [bb3.cell (p := ⟨R, 0, none⟩) (by dsimp only; omega)]; exact cw2_R_0
  have cw3_R_1 : w3.cell? ⟨R, 1, none⟩ = some (.int .i64 0) := by rw [bb3.cell (p := ⟨R, 1, none⟩) (by dsimp only; omega)]; exact cw2_R_1
  have cw3_R_f : ∀ i, w3.frozen? ⟨R, i, none⟩ = false := fun i => by rw [bb3.frozen (p := ⟨R, i, none⟩) (by dsimp only; omega)]; exact cw2_R_f i
  have cw3_R1_0 : w3.cell? ⟨R1, 0, none⟩ = some (.int .i64 0) := by rw [bb3.cell (p := ⟨R1, 0, none⟩) (by dsimp only; omega)]; exact cw2_R1_0
  have cw3_R1_1 : w3.cell? ⟨R1, 1, none⟩ = some (.int .i64 0) := by rw [bb3.cell (p := ⟨R1, 1, none⟩) (by dsimp only; omega)]; exact cw2_R1_1
  have cw3_R1_f : ∀ i, w3.frozen? ⟨R1, i, none⟩ = false := fun i => by rw [bb3.frozen (p := ⟨R1, i, none⟩) (by dsimp only; omega)]; exact cw2_R1_f i
  clear cw2_R_0 cw2_R_1 cw2_R_f cw2_R1_0 cw2_R1_1 cw2_R1_f
  have cw3_bm_0 : w3.cell? ⟨bm, 0, none⟩ = some (.int .i64 p) := by subst hw3 hbm; first | (go_cell; done) | (go_simp; done)
  have cw3_bm_1 : w3.cell? ⟨bm, 1, none⟩ = some (.int .i64 q) := by subst hw3 hbm; first | (go_cell; done) | (go_simp; done)
  have cw3_bm_f : ∀ i, w3.frozen? ⟨bm, i, none⟩ = false := by intro i; subst hw3 hbm; first | (go_cell; done) | (go_simp; done)
  have hq3 : bm < w3.heap.size := by subst hw3 hbm; simp
  have hS3 := hS2.below bb3 (by have := hS2.lt; omega)
  have hB3 : Below R w w3 := hB2.trans (bb3.mono (by omega))
  have hsbm : s < bm := by have := hS2.lt; omega
  have hobm : w2.heap.size ≤ bm := by omega
  (try rw [hbm])
  clear hw3 hbm bb3 hS2 hB2
  have HFA := Lib.hid hFA
  clear hFA
  go_wp2_with fail
  refine (drawFraction_c s _ hS3).mono ?_
  rintro e w4 ⟨p', q', rfl, hFB, hS4, hK4⟩
  have hq4 := hK4.size
  have cw4_R_0 : w4.cell? ⟨R, 0, none⟩ = some (.int .i64 0) := by rw [hK4.cell (p := ⟨R, 0, none⟩) (by dsimp only; omega) (by dsimp only; omega)]; exact cw3_R_0
  have cw4_R_1 : w4.cell? ⟨R, 1, none⟩ = some (.int .i64 0) := by rw [hK4.cell (p := ⟨R, 1, none⟩) (by dsimp only; omega) (by dsimp only; omega)]; exact cw3_R_1
  have cw4_R_f : ∀ i, w4.frozen? ⟨R, i, none⟩ = false := fun i => by rw [hK4.frozen (p := ⟨R, i, none⟩) (by dsimp only; omega) (by dsimp only; omega)]; exact cw3_R_f i
  have cw4_R1_0 : w4.cell? ⟨R1, 0, none⟩ = some (.int .i64 0) := by rw [hK4.cell (p := ⟨R1, 0, none⟩) (by dsimp only; omega) (by dsimp only; omega)]; exact cw3_R1_0
  have cw4_R1_1 : w4.cell? ⟨R1, 1, none⟩ = some (.int .i64 0) := by rw [hK4.cell (p := ⟨R1, 1, none⟩) (by dsimp only; omega) (by dsimp only; omega)]; exact cw3_R1_1
  have cw4_R1_f : ∀ i, w4.frozen? ⟨R1, i, none⟩ = false := fun i => by rw [hK4.frozen (p := ⟨R1, i, none⟩) (by dsimp only; omega) (by dsimp only; omega)]; exact cw3_R1_f i
  have cw4_bm_0 : w4.cell? ⟨bm, 0, none⟩ = some (.int .i64 p) := by rw [hK4.cell (p := ⟨bm, 0, none⟩) (by dsimp only; omega) (by dsimp only; omega)]; exact cw3_bm_0
  have cw4_bm_1 : w4.cell? ⟨bm, 1, none⟩ = some (.int .i64 q) := by rw [hK4.cell (p := ⟨bm, 1, none⟩) (by dsimp only; omega) (by dsimp only; omega)]; exact cw3_bm_1
  have cw4_bm_f : ∀ i, w4.frozen? ⟨bm, i, none⟩ = false := fun i => by rw [hK4.frozen (p := ⟨bm, i, none⟩) (by dsimp only; omega) (by dsimp only; omega)]; exact cw3_bm_f i
  clear cw3_R_0 cw3_R_1 cw3_R_f cw3_R1_0 cw3_R1_1 cw3_R1_f cw3_bm_0 cw3_bm_1 cw3_bm_f
  have hB4 : Below R w w4 := hB3.trans ((hK4.mono (by omega)).below (by omega))
  clear hB3 hS3 hK4
  go_wp2_with fail
  generalize hw5 : World.alloc _ _ = w5
  obtain ⟨bn, hbn⟩ : ∃ b, w4.heap.size = b := ⟨_, rfl⟩
  have bb5 : Below bn w4 w5 := by subst hw5 hbn; exact (by repeat' (first | (with_reducible exact Below.refl _ _) | (with_reducible assumption) | (with_reducible refine below_drewN ?_ _) | (with_reducible refine Below.drew ?_) | (with_reducible refine Below.alloc ?_ ?_ _) | (with_reducible refine Below.setCell ?_ ?_ _) | (with_reducible refine Below.trans ?_ (Below.mono (by with_reducible assumption) ?_)) | go_size | (dsimp only; omega)))
  have cw5_R_0 : w5.cell? ⟨R, 0, none⟩ = some (.int .i64 0) := by rw [bb5.cell (p := ⟨R, 0, none⟩) (by dsimp only; omega)]; exact cw4_R_0
  have cw5_R_1 : w5.cell? ⟨R, 1, none⟩ = some (.int .i64 0) := by rw [bb5.cell (p := ⟨R, 1, none⟩) (by dsimp only; omega)]; exact cw4_R_1
  have cw5_R_f : ∀ i, w5.frozen? ⟨R, i, none⟩ = false := fun i => by rw [bb5.frozen (p := ⟨R, i, none⟩) (by dsimp only; omega)]; exact cw4_R_f i
  have cw5_R1_0 : w5.cell? ⟨R1, 0, none⟩ = some (.int .i64 0) := by rw [bb5.cell (p := ⟨R1, 0, none⟩) (by dsimp only; omega)]; exact cw4_R1_0
  have cw5_R1_1 : w5.cell? ⟨R1, 1, none⟩ = some (.int .i64 0) := by rw [bb5.cell (p := ⟨R1, 1, none⟩) (by dsimp only; omega)]; exact cw4_R1_1
  have cw5_R1_f : ∀ i, w5.frozen? ⟨R1, i, none⟩ = false := fun i => by rw [bb5.frozen (p := ⟨R1, i, none⟩) (by dsimp only; omega)]; exact cw4_R1_f i
  have cw5_bm_0 : w5.cell? ⟨bm, 0, none⟩ = some (.int .i64 p) := by rw [bb5.cell (p := ⟨bm, 0, none⟩) (by dsimp only; omega)]; exact cw4_bm_0
  have cw5_bm_1 : w5.cell? ⟨bm, 1, none⟩ = some (.int .i64 q) := by rw [bb5.cell (p := ⟨bm, 1, none⟩) (by dsimp only; omega)]; exact cw4_bm_1
  have cw5_bm_f : ∀ i, w5.frozen? ⟨bm, i, none⟩ = false := fun i => by rw [bb5.frozen (p := ⟨bm, i, none⟩) (by dsimp only; omega)]; exact cw4_bm_f i
  clear cw4_R_0 cw4_R_1 cw4_R_f cw4_R1_0 cw4_R1_1 cw4_R1_f cw4_bm_0 cw4_bm_1 cw4_bm_f
  have cw5_bn_0 : w5.cell? ⟨bn, 0, none⟩ = some (.int .i64 p') := by subst hw5 hbn; first | (go_cell; done) | (go_simp; done)
  have cw5_bn_1 : w5.cell? ⟨bn, 1, none⟩ = some (.int .i64 q') := by subst hw5 hbn; first | (go_cell; done) | (go_simp; done)
  have cw5_bn_f : ∀ i, w5.frozen? ⟨bn, i, none⟩ = false := by intro i; subst hw5 hbn; first | (go_cell; done) | (go_simp; done)
  have hq5 : bn < w5.heap.size := by subst hw5 hbn; simp
  have hS5 := hS4.below bb5 (by have := hS4.lt; omega)
  have hB5 : Below R w w5 := hB4.trans (bb5.mono (by omega))
  have hsbn : s < bn := by have := hS4.lt; omega
  have hobn : w4.heap.size ≤ bn := by omega
  (try rw [hbn])
  clear hw5 hbn bb5 hS4 hB4
  have HFB := Lib.hid hFB
  clear hFB
  have hmn : bm < bn := by omega
  refine (next_c s 5 _ hS5 (by omega) (by omega)).mono ?_
  rintro e w6 ⟨x, rfl, -, -, hS6, hK6⟩
  have hq6 := hK6.size
  have cw6_R_0 : w6.cell? ⟨R, 0, none⟩ = some (.int .i64 0) := by rw [hK6.cell (p := ⟨R, 0, none⟩) (by dsimp only; omega) (by dsimp only; omega)]; exact cw5_R_0
  have cw6_R_1 : w6.cell? ⟨R, 1, none⟩ = some (.int .i64 0) := by rw [hK6.cell (p := ⟨R, 1, none⟩) (by dsimp only; omega) (by dsimp only; omega)]; exact cw5_R_1
  have cw6_R_f : ∀ i, w6.frozen? ⟨R, i, none⟩ = false := fun i => by rw [hK6.frozen (p := ⟨R, i, none⟩) (by dsimp only; omega) (by dsimp only; omega)]; exact cw5_R_f i
  have cw6_R1_0 : w6.cell? ⟨R1, 0, none⟩ = some (.int .i64 0) := by rw [hK6.cell (p := ⟨R1, 0, none⟩) (by dsimp only; omega) (by dsimp only; omega)]; exact cw5_R1_0
  have cw6_R1_1 : w6.cell? ⟨R1, 1, none⟩ = some (.int .i64 0) := by rw [hK6.cell (p := ⟨R1, 1, none⟩) (by dsimp only; omega) (by dsimp only; omega)]; exact cw5_R1_1
  have cw6_R1_f : ∀ i, w6.frozen? ⟨R1, i, none⟩ = false := fun i => by rw [hK6.frozen (p := ⟨R1, i, none⟩) (by dsimp only; omega) (by dsimp only; omega)]; exact cw5_R1_f i
  have cw6_bm_0 : w6.cell? ⟨bm, 0, none⟩ = some (.int .i64 p) := by rw [hK6.cell (p := ⟨bm, 0, none⟩) (by dsimp only; omega) (by dsimp only; omega)]; exact cw5_bm_0
  have cw6_bm_1 : w6.cell? ⟨bm, 1, none⟩ = some (.int .i64 q) := by rw [hK6.cell (p := ⟨bm, 1, none⟩) (by dsimp only; omega) (by dsimp only; omega)]; exact cw5_bm_1
  have cw6_bm_f : ∀ i, w6.frozen? ⟨bm, i, none⟩ = false := fun i => by rw [hK6.frozen (p := ⟨bm, i, none⟩) (by dsimp only; omega) (by dsimp only; omega)]; exact cw5_bm_f i
  have cw6_bn_0 : w6.cell? ⟨bn, 0, none⟩ = some (.int .i64 p') := by rw [hK6.cell (p := ⟨bn, 0, none⟩) (by dsimp only; omega) (by dsimp only; omega)]; exact cw5_bn_0
  have cw6_bn_1 : w6.cell? ⟨bn, 1, none⟩ = some (.int .i64 q') := by rw [hK6.cell (p := ⟨bn, 1, none⟩) (by dsimp only; omega) (by dsimp only; omega)]; exact cw5_bn_1
  have cw6_bn_f : ∀ i, w6.frozen? ⟨bn, i, none⟩ = false := fun i => by rw [hK6.frozen (p := ⟨bn, i, none⟩) (by dsimp only; omega) (by dsimp only; omega)]; exact cw5_bn_f i
  clear cw5_R_0 cw5_R_1 cw5_R_f cw5_R1_0 cw5_R1_1 cw5_R1_f cw5_bm_0 cw5_bm_1 cw5_bm_f cw5_bn_0 cw5_bn_1 cw5_bn_f
  have hB6 : Below R w w6 := hB5.trans ((hK6.mono (by omega)).below (by omega))
  clear hB5 hS5 hK6
  have hsl6 := hS6.lt
  by_cases h0 : x = 0
  · subst h0
    go_wp2
    generalize hw7 : World.setCell _ _ _ = w7
    have cw7_R_0 : w7.cell? ⟨R, 0, none⟩ = some (.int .i64 0) := by subst hw7; go_simp
    have cw7_R_1 : w7.cell? ⟨R, 1, none⟩ = some (.int .i64 0) := by subst hw7; go_simp
    have cw7_R_f : ∀ i, w7.frozen? ⟨R, i, none⟩ = false := by subst hw7; intro i; go_simp
    have cw7_R1_0 : w7.cell? ⟨R1, 0, none⟩ = some (.int .i64 0) := by subst hw7; go_simp
    have cw7_R1_1 : w7.cell? ⟨R1, 1, none⟩ = some (.int .i64 0) := by subst hw7; go_simp
    have cw7_R1_f : ∀ i, w7.frozen? ⟨R1, i, none⟩ = false := by subst hw7; intro i; go_simp
    have cw7_bm_0 : w7.cell? ⟨bm, 0, none⟩ = some (.int .i64 p) := by subst hw7; go_simp
    have cw7_bm_1 : w7.cell? ⟨bm, 1, none⟩ = some (.int .i64 q) := by subst hw7; go_simp
    have cw7_bm_f : ∀ i, w7.frozen? ⟨bm, i, none⟩ = false := by subst hw7; intro i; go_simp
    have cw7_bn_0 : w7.cell? ⟨bn, 0, none⟩ = some (.int .i64 p) := by subst hw7; go_simp
    have cw7_bn_1 : w7.cell? ⟨bn, 1, none⟩ = some (.int .i64 q) := by subst hw7; go_simp
    have cw7_bn_f : ∀ i, w7.frozen? ⟨bn, i, none⟩ = false := by subst hw7; intro i; go_simp
    have hS7 : Src s w7 := by subst hw7; exact (by repeat' (first | (with_reducible assumption) | (with_reducible refine Src.drewN ?_ _) | (with_reducible refine Src.drew ?_) | (with_reducible refine Src.alloc ?_ _) | (with_reducible refine Src.setCell ?_ ?_ _) | (with_reducible refine Src.below ?_ (by with_reducible assumption) ?_) | go_size | (dsimp only; omega)))
    have hB7 : Below R w w7 := by subst hw7; exact (by repeat' (first | (with_reducible exact Below.refl _ _) | (with_reducible assumption) | (with_reducible refine below_drewN ?_ _) | (with_reducible refine Below.drew ?_) | (with_reducible refine Below.alloc ?_ ?_ _) | (with_reducible refine Below.setCell ?_ ?_ _) | (with_reducible refine Below.trans ?_ (Below.mono (by with_reducible assumption) ?_)) | go_size | (dsimp only; omega)))
    have hq7 : w6.heap.size ≤ w7.heap.size := by subst hw7; go_size
    clear hw7 hS6 hB6 cw6_R_0 cw6_R_1 cw6_R_f cw6_R1_0 cw6_R1_1 cw6_R1_f cw6_bm_0 cw6_bm_1 cw6_bm_f cw6_bn_0 cw6_bn_1 cw6_bn_f
    have hlt := hS7.lt
    go_region_held3 (fun w' => w'.cell? ⟨bm, 0, none⟩ = some (.int .i64 p) ∧ w'.cell? ⟨bm, 1, none⟩ = some (.int .i64 q) ∧ w'.cell? ⟨bn, 0, none⟩ = some (.int .i64 p) ∧ w'.cell? ⟨bn, 1, none⟩ = some (.int .i64 q)) (((try go_split_ands); (try (refine ⟨?_, ?_, ?_, ?_⟩)) <;> first | (with_reducible assumption) | ((try (with_reducible refine keep_drew ?_)); (repeat (with_reducible refine keep_set ?_ (by dsimp only; omega))); (with_reducible assumption)) | (with_reducible exact keep_drew (by with_reducible assumption)) | (with_reducible exact keep_new (by with_reducible assumption)) | (with_reducible exact keep_alloc (by with_reducible assumption) (by dsimp only; omega)) | (with_reducible exact keep_drew (keep_new (by with_reducible assumption))) | ((with_reducible refine keep_set ?_ (by dsimp only; omega)); (repeat (with_reducible refine keep_set ?_ (by dsimp only; omega))); first | (with_reducible assumption) | (with_reducible exact keep_drew (by with_reducible assumption))) | (go_keep; done))) (first | (have hguard := hSx; clear hguard; go_at_call 65; refine (badFraction_c s (p) (q) _ (by first | exact hSx | exact hSx.drew | exact hSx.alloc _ | exact (hSx.alloc _).drew | exact hSx.drew.alloc _ | exact (hSx.drew.alloc _).drew | exact (by repeat' (first | (with_reducible assumption) | (with_reducible refine Src.drewN ?_ _) | (with_reducible refine Src.drew ?_) | (with_reducible refine Src.alloc ?_ _) | (with_reducible refine Src.setCell ?_ ?_ _) | (with_reducible refine Src.below ?_ (by with_reducible assumption) ?_) | go_size | (dsimp only; omega)))) HFA.out).mono ?_; rintro e w17 ⟨⟨b0, b1, rfl⟩, hSy, hKy⟩; have zv := hKy.size; have bxv0 := hKy.mono (B' := R) (by go_size); have bxv := bxv0.below (show R ≤ s by omega); clear bxv0; (try simp only [World.size_alloc, World.size_drew] at zv); have zzhKy := hKy.size; (try simp at zzhKy); have zhKy_R0 : R < w17.heap.size := (by omega); have kchKy_R0 : ∀ o, w17.cell? ⟨R, o, none⟩ = _ := fun o => hKy.cell (p := ⟨R, o, none⟩) (by go_size) (by dsimp only; omega); have kfhKy_R0 : ∀ o, w17.frozen? ⟨R, o, none⟩ = _ := fun o => hKy.frozen (p := ⟨R, o, none⟩) (by go_size) (by dsimp only; omega); have zhKy_R10 : R1 < w17.heap.size := (by omega); have kchKy_R10 : ∀ o, w17.cell? ⟨R1, o, none⟩ = _ := fun o => hKy.cell (p := ⟨R1, o, none⟩) (by go_size) (by dsimp only; omega); have kfhKy_R10 : ∀ o, w17.frozen? ⟨R1, o, none⟩ = _ := fun o => hKy.frozen (p := ⟨R1, o, none⟩) (by go_size) (by dsimp only; omega); have zhKy_bm0 : bm < w17.heap.size := (by omega); have kchKy_bm0 : ∀ o, w17.cell? ⟨bm, o, none⟩ = _ := fun o => hKy.cell (p := ⟨bm, o, none⟩) (by go_size) (by dsimp only; omega); have kfhKy_bm0 : ∀ o, w17.frozen? ⟨bm, o, none⟩ = _ := fun o => hKy.frozen (p := ⟨bm, o, none⟩) (by go_size) (by dsimp only; omega); have zhKy_bn0 : bn < w17.heap.size := (by omega); have kchKy_bn0 : ∀ o, w17.cell? ⟨bn, o, none⟩ = _ := fun o => hKy.cell (p := ⟨bn, o, none⟩) (by go_size) (by dsimp only; omega); have kfhKy_bn0 : ∀ o, w17.frozen? ⟨bn, o, none⟩ = _ := fun o => hKy.frozen (p := ⟨bn, o, none⟩) (by go_size) (by dsimp only; omega); clear zzhKy; have nv0 : w17.cell? ⟨bm, 0, none⟩ = some (.int .i64 p) := (by rw [hKy.cell (p := ⟨bm, 0, none⟩) (by go_size) (by dsimp only; omega)]; first | assumption | (go_simp; done)); have nv1 : w17.cell? ⟨bm, 1, none⟩ = some (.int .i64 q) := (by rw [hKy.cell (p := ⟨bm, 1, none⟩) (by go_size) (by dsimp only; omega)]; first | assumption | (go_simp; done)); have nv2 : w17.cell? ⟨bn, 0, none⟩ = some (.int .i64 p) := (by rw [hKy.cell (p := ⟨bn, 0, none⟩) (by go_size) (by dsimp only; omega)]; first | assumption | (go_simp; done)); have nv3 : w17.cell? ⟨bn, 1, none⟩ = some (.int .i64 q) := (by rw [hKy.cell (p := ⟨bn, 1, none⟩) (by go_size) (by dsimp only; omega)]; first | assumption | (go_simp; done))) | (go_at_call 65; refine (badFraction_c s (p) (q) _ (by first | exact hS7 | exact hS7.drew | exact hS7.alloc _ | exact (hS7.alloc _).drew | exact hS7.drew.alloc _ | exact (hS7.drew.alloc _).drew | exact (by repeat' (first | (with_reducible assumption) | (with_reducible refine Src.drewN ?_ _) | (with_reducible refine Src.drew ?_) | (with_reducible refine Src.alloc ?_ _) | (with_reducible refine Src.setCell ?_ ?_ _) | (with_reducible refine Src.below ?_ (by with_reducible assumption) ?_) | go_size | (dsimp only; omega)))) HFA.out).mono ?_; rintro e w16 ⟨⟨a0, a1, rfl⟩, hSx, hKx⟩; have zu := hKx.size; have bxu0 := hKx.mono (B' := R) (by go_size); have bxu := bxu0.below (show R ≤ s by omega); clear bxu0; (try simp only [World.size_alloc, World.size_drew] at zu); have zzhKx := hKx.size; (try simp at zzhKx); have zhKx_R0 : R < w16.heap.size := (by omega); have kchKx_R0 : ∀ o, w16.cell? ⟨R, o, none⟩ = _ := fun o => hKx.cell (p := ⟨R, o, none⟩) (by go_size) (by dsimp only; omega); have kfhKx_R0 : ∀ o, w16.frozen? ⟨R, o, none⟩ = _ := fun o => hKx.frozen (p := ⟨R, o, none⟩) (by go_size) (by dsimp only; omega); have zhKx_R10 : R1 < w16.heap.size := (by omega); have kchKx_R10 : ∀ o, w16.cell? ⟨R1, o, none⟩ = _ := fun o => hKx.cell (p := ⟨R1, o, none⟩) (by go_size) (by dsimp only; omega); have kfhKx_R10 : ∀ o, w16.frozen? ⟨R1, o, none⟩ = _ := fun o => hKx.frozen (p := ⟨R1, o, none⟩) (by go_size) (by dsimp only; omega); have zhKx_bm0 : bm < w16.heap.size := (by omega); have kchKx_bm0 : ∀ o, w16.cell? ⟨bm, o, none⟩ = _ := fun o => hKx.cell (p := ⟨bm, o, none⟩) (by go_size) (by dsimp only; omega); have kfhKx_bm0 : ∀ o, w16.frozen? ⟨bm, o, none⟩ = _ := fun o => hKx.frozen (p := ⟨bm, o, none⟩) (by go_size) (by dsimp only; omega); have zhKx_bn0 : bn < w16.heap.size := (by omega); have kchKx_bn0 : ∀ o, w16.cell? ⟨bn, o, none⟩ = _ := fun o => hKx.cell (p := ⟨bn, o, none⟩) (by go_size) (by dsimp only; omega); have kfhKx_bn0 : ∀ o, w16.frozen? ⟨bn, o, none⟩ = _ := fun o => hKx.frozen (p := ⟨bn, o, none⟩) (by go_size) (by dsimp only; omega); clear zzhKx; have nu0 : w16.cell? ⟨bm, 0, none⟩ = some (.int .i64 p) := (by rw [hKx.cell (p := ⟨bm, 0, none⟩) (by go_size) (by dsimp only; omega)]; first | assumption | (go_simp; done)); have nu1 : w16.cell? ⟨bm, 1, none⟩ = some (.int .i64 q) := (by rw [hKx.cell (p := ⟨bm, 1, none⟩) (by go_size) (by dsimp only; omega)]; first | assumption | (go_simp; done)); have nu2 : w16.cell? ⟨bn, 0, none⟩ = some (.int .i64 p) := (by rw [hKx.cell (p := ⟨bn, 0, none⟩) (by go_size) (by dsimp only; omega)]; first | assumption | (go_simp; done)); have nu3 : w16.cell? ⟨bn, 1, none⟩ = some (.int .i64 q) := (by rw [hKx.cell (p := ⟨bn, 1, none⟩) (by go_size) (by dsimp only; omega)]; first | assumption | (go_simp; done))))
    all_goals (try go_split_ands)
    all_goals
      generalize hW : World.setCell _ _ _ = W5
      have rR0' : W5.cell? ⟨R, 0, none⟩ = some (.int .i64 a0) := by subst hW; go_simp
      have rR1' : W5.cell? ⟨R, 1, none⟩ = some (.int .i64 a1) := by subst hW; go_simp
      have rR10' : W5.cell? ⟨R1, 0, none⟩ = some (.int .i64 b0) := by subst hW; go_simp
      have rR11' : W5.cell? ⟨R1, 1, none⟩ = some (.int .i64 b1) := by subst hW; go_simp
      have hB5 : Below R w W5 := by subst hW; exact (by repeat' (first | (with_reducible exact Below.refl _ _) | (with_reducible assumption) | (with_reducible refine below_drewN ?_ _) | (with_reducible refine Below.drew ?_) | (with_reducible refine Below.alloc ?_ ?_ _) | (with_reducible refine Below.setCell ?_ ?_ _) | (with_reducible refine Below.trans ?_ (Below.mono (by with_reducible assumption) ?_)) | go_size | (dsimp only; omega)))
      clear hW
      (try clear hb)
      clear cw7_R_0 cw7_R_1 cw7_R_f cw7_R1_0 cw7_R1_1 cw7_R1_f cw7_bm_0 cw7_bm_1 cw7_bm_f cw7_bn_0 cw7_bn_1 cw7_bn_f
      go_wp2
      exact bodyPost_ret (v := .tuple #[.agg #[.int .i64 a0, .int .i64 a1], .agg #[.int .i64 b0, .int .i64 b1]]) (by simp only [results, Tryz.results18]; go_simp) rfl ⟨⟨a0, a1, b0, b1, rfl⟩, by rw [HRW.out]; exact (by repeat' (first | (with_reducible exact Below.refl _ _) | (with_reducible assumption) | (with_reducible refine below_drewN ?_ _) | (with_reducible refine Below.drew ?_) | (with_reducible refine Below.alloc ?_ ?_ _) | (with_reducible refine Below.setCell ?_ ?_ _) | (with_reducible refine Below.trans ?_ (Below.mono (by with_reducible assumption) ?_)) | go_size | (dsimp only; omega)))⟩
  · have h0' : (x == 0) = false := by simpa using h0
    go_wp2
    have hlt := hS6.lt
    go_region_held3 (fun w' => w'.cell? ⟨bm, 0, none⟩ = some (.int .i64 p) ∧ w'.cell? ⟨bm, 1, none⟩ = some (.int .i64 q) ∧ w'.cell? ⟨bn, 0, none⟩ = some (.int .i64 p') ∧ w'.cell? ⟨bn, 1, none⟩ = some (.int .i64 q')) (((try go_split_ands); (try (refine ⟨?_, ?_, ?_, ?_⟩)) <;> first | (with_reducible assumption) | ((try (with_reducible refine keep_drew ?_)); (repeat (with_reducible refine keep_set ?_ (by dsimp only; omega))); (with_reducible assumption)) | (with_reducible exact keep_drew (by with_reducible assumption)) | (with_reducible exact keep_new (by with_reducible assumption)) | (with_reducible exact keep_alloc (by with_reducible assumption) (by dsimp only; omega)) | (with_reducible exact keep_drew (keep_new (by with_reducible assumption))) | ((with_reducible refine keep_set ?_ (by dsimp only; omega)); (repeat (with_reducible refine keep_set ?_ (by dsimp only; omega))); first | (with_reducible assumption) | (with_reducible exact keep_drew (by with_reducible assumption))) | (go_keep; done))) (first | (have hguard := hSx; clear hguard; go_at_call 65; refine (badFraction_c s (p') (q') _ (by first | exact hSx | exact hSx.drew | exact hSx.alloc _ | exact (hSx.alloc _).drew | exact hSx.drew.alloc _ | exact (hSx.drew.alloc _).drew | exact (by repeat' (first | (with_reducible assumption) | (with_reducible refine Src.drewN ?_ _) | (with_reducible refine Src.drew ?_) | (with_reducible refine Src.alloc ?_ _) | (with_reducible refine Src.setCell ?_ ?_ _) | (with_reducible refine Src.below ?_ (by with_reducible assumption) ?_) | go_size | (dsimp only; omega)))) HFB.out).mono ?_; rintro e w17 ⟨⟨b0, b1, rfl⟩, hSy, hKy⟩; have zv := hKy.size; have bxv0 := hKy.mono (B' := R) (by go_size); have bxv := bxv0.below (show R ≤ s by omega); clear bxv0; (try simp only [World.size_alloc, World.size_drew] at zv); have zzhKy := hKy.size; (try simp at zzhKy); have zhKy_R0 : R < w17.heap.size := (by omega); have kchKy_R0 : ∀ o, w17.cell? ⟨R, o, none⟩ = _ := fun o => hKy.cell (p := ⟨R, o, none⟩) (by go_size) (by dsimp only; omega); have kfhKy_R0 : ∀ o, w17.frozen? ⟨R, o, none⟩ = _ := fun o => hKy.frozen (p := ⟨R, o, none⟩) (by go_size) (by dsimp only; omega); have zhKy_R10 : R1 < w17.heap.size := (by omega); have kchKy_R10 : ∀ o, w17.cell? ⟨R1, o, none⟩ = _ := fun o => hKy.cell (p := ⟨R1, o, none⟩) (by go_size) (by dsimp only; omega); have kfhKy_R10 : ∀ o, w17.frozen? ⟨R1, o, none⟩ = _ := fun o => hKy.frozen (p := ⟨R1, o, none⟩) (by go_size) (by dsimp only; omega); have zhKy_bm0 : bm < w17.heap.size := (by omega); have kchKy_bm0 : ∀ o, w17.cell? ⟨bm, o, none⟩ = _ := fun o => hKy.cell (p := ⟨bm, o, none⟩) (by go_size) (by dsimp only; omega); have kfhKy_bm0 : ∀ o, w17.frozen? ⟨bm, o, none⟩ = _ := fun o => hKy.frozen (p := ⟨bm, o, none⟩) (by go_size) (by dsimp only; omega); have zhKy_bn0 : bn < w17.heap.size := (by omega); have kchKy_bn0 : ∀ o, w17.cell? ⟨bn, o, none⟩ = _ := fun o => hKy.cell (p := ⟨bn, o, none⟩) (by go_size) (by dsimp only; omega); have kfhKy_bn0 : ∀ o, w17.frozen? ⟨bn, o, none⟩ = _ := fun o => hKy.frozen (p := ⟨bn, o, none⟩) (by go_size) (by dsimp only; omega); clear zzhKy; have nv0 : w17.cell? ⟨bm, 0, none⟩ = some (.int .i64 p) := (by rw [hKy.cell (p := ⟨bm, 0, none⟩) (by go_size) (by dsimp only; omega)]; first | assumption | (go_simp; done)); have nv1 : w17.cell? ⟨bm, 1, none⟩ = some (.int .i64 q) := (by rw [hKy.cell (p := ⟨bm, 1, none⟩) (by go_size) (by dsimp only; omega)]; first | assumption | (go_simp; done)); have nv2 : w17.cell? ⟨bn, 0, none⟩ = some (.int .i64 p') := (by rw [hKy.cell (p := ⟨bn, 0, none⟩) (by go_size) (by dsimp only; omega)]; first | assumption | (go_simp; done)); have nv3 : w17.cell? ⟨bn, 1, none⟩ = some (.int .i64 q') := (by rw [hKy.cell (p := ⟨bn, 1, none⟩) (by go_size) (by dsimp only; omega)]; first | assumption | (go_simp; done))) | (go_at_call 65; refine (badFraction_c s (p) (q) _ (by first | exact hS6 | exact hS6.drew | exact hS6.alloc _ | exact (hS6.alloc _).drew | exact hS6.drew.alloc _ | exact (hS6.drew.alloc _).drew | exact (by repeat' (first | (with_reducible assumption) | (with_reducible refine Src.drewN ?_ _) | (with_reducible refine Src.drew ?_) | (with_reducible refine Src.alloc ?_ _) | (with_reducible refine Src.setCell ?_ ?_ _) | (with_reducible refine Src.below ?_ (by with_reducible assumption) ?_) | go_size | (dsimp only; omega)))) HFA.out).mono ?_; rintro e w16 ⟨⟨a0, a1, rfl⟩, hSx, hKx⟩; have zu := hKx.size; have bxu0 := hKx.mono (B' := R) (by go_size); have bxu := bxu0.below (show R ≤ s by omega); clear bxu0; (try simp only [World.size_alloc, World.size_drew] at zu); have zzhKx := hKx.size; (try simp at zzhKx); have zhKx_R0 : R < w16.heap.size := (by omega); have kchKx_R0 : ∀ o, w16.cell? ⟨R, o, none⟩ = _ := fun o => hKx.cell (p := ⟨R, o, none⟩) (by go_size) (by dsimp only; omega); have kfhKx_R0 : ∀ o, w16.frozen? ⟨R, o, none⟩ = _ := fun o => hKx.frozen (p := ⟨R, o, none⟩) (by go_size) (by dsimp only; omega); have zhKx_R10 : R1 < w16.heap.size := (by omega); have kchKx_R10 : ∀ o, w16.cell? ⟨R1, o, none⟩ = _ := fun o => hKx.cell (p := ⟨R1, o, none⟩) (by go_size) (by dsimp only; omega); have kfhKx_R10 : ∀ o, w16.frozen? ⟨R1, o, none⟩ = _ := fun o => hKx.frozen (p := ⟨R1, o, none⟩) (by go_size) (by dsimp only; omega); have zhKx_bm0 : bm < w16.heap.size := (by omega); have kchKx_bm0 : ∀ o, w16.cell? ⟨bm, o, none⟩ = _ := fun o => hKx.cell (p := ⟨bm, o, none⟩) (by go_size) (by dsimp only; omega); have kfhKx_bm0 : ∀ o, w16.frozen? ⟨bm, o, none⟩ = _ := fun o => hKx.frozen (p := ⟨bm, o, none⟩) (by go_size) (by dsimp only; omega); have zhKx_bn0 : bn < w16.heap.size := (by omega); have kchKx_bn0 : ∀ o, w16.cell? ⟨bn, o, none⟩ = _ := fun o => hKx.cell (p := ⟨bn, o, none⟩) (by go_size) (by dsimp only; omega); have kfhKx_bn0 : ∀ o, w16.frozen? ⟨bn, o, none⟩ = _ := fun o => hKx.frozen (p := ⟨bn, o, none⟩) (by go_size) (by dsimp only; omega); clear zzhKx; have nu0 : w16.cell? ⟨bm, 0, none⟩ = some (.int .i64 p) := (by rw [hKx.cell (p := ⟨bm, 0, none⟩) (by go_size) (by dsimp only; omega)]; first | assumption | (go_simp; done)); have nu1 : w16.cell? ⟨bm, 1, none⟩ = some (.int .i64 q) := (by rw [hKx.cell (p := ⟨bm, 1, none⟩) (by go_size) (by dsimp only; omega)]; first | assumption | (go_simp; done)); have nu2 : w16.cell? ⟨bn, 0, none⟩ = some (.int .i64 p') := (by rw [hKx.cell (p := ⟨bn, 0, none⟩) (by go_size) (by dsimp only; omega)]; first | assumption | (go_simp; done)); have nu3 : w16.cell? ⟨bn, 1, none⟩ = some (.int .i64 q') := (by rw [hKx.cell (p := ⟨bn, 1, none⟩) (by go_size) (by dsimp only; omega)]; first | assumption | (go_simp; done))))
    all_goals (try go_split_ands)
    all_goals
      generalize hW : World.setCell _ _ _ = W5
      have rR0' : W5.cell? ⟨R, 0, none⟩ = some (.int .i64 a0) := by subst hW; go_simp
      have rR1' : W5.cell? ⟨R, 1, none⟩ = some (.int .i64 a1) := by subst hW; go_simp
      have rR10' : W5.cell? ⟨R1, 0, none⟩ = some (.int .i64 b0) := by subst hW; go_simp
      have rR11' : W5.cell? ⟨R1, 1, none⟩ = some (.int .i64 b1) := by subst hW; go_simp
      have hB5 : Below R w W5 := by subst hW; exact (by repeat' (first | (with_reducible exact Below.refl _ _) | (with_reducible assumption) | (with_reducible refine below_drewN ?_ _) | (with_reducible refine Below.drew ?_) | (with_reducible refine Below.alloc ?_ ?_ _) | (with_reducible refine Below.setCell ?_ ?_ _) | (with_reducible refine Below.trans ?_ (Below.mono (by with_reducible assumption) ?_)) | go_size | (dsimp only; omega)))
      clear hW
      (try clear hb)
      clear cw6_R_0 cw6_R_1 cw6_R_f cw6_R1_0 cw6_R1_1 cw6_R1_f cw6_bm_0 cw6_bm_1 cw6_bm_f cw6_bn_0 cw6_bn_1 cw6_bn_f
      go_wp2
      exact bodyPost_ret (v := .tuple #[.agg #[.int .i64 a0, .int .i64 a1], .agg #[.int .i64 b0, .int .i64 b1]]) (by simp only [results, Tryz.results18]; go_simp) rfl ⟨⟨a0, a1, b0, b1, rfl⟩, by rw [HRW.out]; exact (by repeat' (first | (with_reducible exact Below.refl _ _) | (with_reducible assumption) | (with_reducible refine below_drewN ?_ _) | (with_reducible refine Below.drew ?_) | (with_reducible refine Below.alloc ?_ ?_ _) | (with_reducible refine Below.setCell ?_ ?_ _) | (with_reducible refine Below.trans ?_ (Below.mono (by with_reducible assumption) ?_)) | go_size | (dsimp only; omega)))⟩
set_option maxRecDepth 100000 in
set_option maxHeartbeats 4000000 in
theorem drawRestsOf_c (v : Value) (w : World) (hv : CodeV w v) :
    Calls Tryz.prog 24 #[v] w fun e w' => ∃ p q r t k : Int, e = .returned (.tuple #[.agg #[.int .i64 p, .int .i64 q, .int .i64 r, .int .i64 t], .int .i64 k]) ∧ (-1000000 ≤ k ∧ k ≤ 2000000) ∧ Below w.heap.size w w' := by
  go_enter Tryz.func24, Tryz.ntmps24
  obtain ⟨R, hR⟩ : ∃ R, w.heap.size = R := ⟨_, rfl⟩
  have HRW := Lib.hid hR
  go_wp2_with fail
  generalize hw0 : World.alloc _ _ = w0
  have cw0_R_0 : w0.cell? ⟨R, 0, none⟩ = some (.int .i64 0) := by subst hw0 hR; first | (go_cell; done) | (go_simp; done)
  have cw0_R_1 : w0.cell? ⟨R, 1, none⟩ = some (.int .i64 0) := by subst hw0 hR; first | (go_cell; done) | (go_simp; done)
  have cw0_R_2 : w0.cell? ⟨R, 2, none⟩ = some (.int .i64 0) := by subst hw0 hR; first | (go_cell; done) | (go_simp; done)
  have cw0_R_3 : w0.cell? ⟨R, 3, none⟩ = some (.int .i64 0) := by subst hw0 hR; first | (go_cell; done) | (go_simp; done)
  have cw0_R_f : ∀ i, w0.frozen? ⟨R, i, none⟩ = false := by intro i; subst hw0 hR; first | (go_cell; done) | (go_simp; done)
  have hB0 : Below R w w0 := by subst hw0; rw [← hR]; exact (by repeat' (first | (with_reducible exact Below.refl _ _) | (with_reducible assumption) | (with_reducible refine below_drewN ?_ _) | (with_reducible refine Below.drew ?_) | (with_reducible refine Below.alloc ?_ ?_ _) | (with_reducible refine Below.setCell ?_ ?_ _) | (with_reducible refine Below.trans ?_ (Below.mono (by with_reducible assumption) ?_)) | go_size | (dsimp only; omega)))
  have hq0 : R < w0.heap.size := by subst hw0; go_size
  clear hw0
  refine (from_c v w0 (by have h := hv.below (hR ▸ hB0); exact h)).mono ?_
  rintro e w1 ⟨s, rfl, hs, hS1, b1⟩
  have hq1 := b1.size
  have hsl := hS1.lt
  have cw1_R_0 : w1.cell? ⟨R, 0, none⟩ = some (.int .i64 0) := by rw [b1.cell (p := ⟨R, 0, none⟩) (by dsimp only; omega)]; exact cw0_R_0
  have cw1_R_1 : w1.cell? ⟨R, 1, none⟩ = some (.int .i64 0) := by rw [b1.cell (p := ⟨R, 1, none⟩) (by dsimp only; omega)]; exact cw0_R_1
  have cw1_R_2 : w1.cell? ⟨R, 2, none⟩ = some (.int .i64 0) := by rw [b1.cell (p := ⟨R, 2, none⟩) (by dsimp only; omega)]; exact cw0_R_2
  have cw1_R_3 : w1.cell? ⟨R, 3, none⟩ = some (.int .i64 0) := by rw [b1.cell (p := ⟨R, 3, none⟩) (by dsimp only; omega)]; exact cw0_R_3
  have cw1_R_f : ∀ i, w1.frozen? ⟨R, i, none⟩ = false := fun i => by rw [b1.frozen (p := ⟨R, i, none⟩) (by dsimp only; omega)]; exact cw0_R_f i
  clear cw0_R_0 cw0_R_1 cw0_R_2 cw0_R_3 cw0_R_f
  have hB1 : Below R w w1 := hB0.trans (b1.mono (by omega))
  clear hB0 b1 hR
  go_wp2_with fail
  refine (spoil_c s _ hS1).mono ?_
  rintro e w2 ⟨⟨p, q, r, t, rfl⟩, hS2, hK2⟩
  have hq2 := hK2.size
  have cw2_R_0 : w2.cell? ⟨R, 0, none⟩ = some (.int .i64 0) := by rw [hK2.cell (p := ⟨R, 0, none⟩) (by dsimp only; omega) (by dsimp only; omega)]; exact cw1_R_0
  have cw2_R_1 : w2.cell? ⟨R, 1, none⟩ = some (.int .i64 0) := by rw [hK2.cell (p := ⟨R, 1, none⟩) (by dsimp only; omega) (by dsimp only; omega)]; exact cw1_R_1
  have cw2_R_2 : w2.cell? ⟨R, 2, none⟩ = some (.int .i64 0) := by rw [hK2.cell (p := ⟨R, 2, none⟩) (by dsimp only; omega) (by dsimp only; omega)]; exact cw1_R_2
  have cw2_R_3 : w2.cell? ⟨R, 3, none⟩ = some (.int .i64 0) := by rw [hK2.cell (p := ⟨R, 3, none⟩) (by dsimp only; omega) (by dsimp only; omega)]; exact cw1_R_3
  have cw2_R_f : ∀ i, w2.frozen? ⟨R, i, none⟩ = false := fun i => by rw [hK2.frozen (p := ⟨R, i, none⟩) (by dsimp only; omega) (by dsimp only; omega)]; exact cw1_R_f i
  clear cw1_R_0 cw1_R_1 cw1_R_2 cw1_R_3 cw1_R_f
  have hB2 : Below R w w2 := hB1.trans ((hK2.mono (by omega)).below (by omega))
  clear hB1 hS1 hK2
  go_wp2_with fail
  generalize hw3 : World.alloc _ _ = w3
  obtain ⟨bm, hbm⟩ : ∃ b, w2.heap.size = b := ⟨_, rfl⟩
  have bb3 : Below bm w2 w3 := by subst hw3 hbm; exact (by repeat' (first | (with_reducible exact Below.refl _ _) | (with_reducible assumption) | (with_reducible refine below_drewN ?_ _) | (with_reducible refine Below.drew ?_) | (with_reducible refine Below.alloc ?_ ?_ _) | (with_reducible refine Below.setCell ?_ ?_ _) | (with_reducible refine Below.trans ?_ (Below.mono (by with_reducible assumption) ?_)) | go_size | (dsimp only; omega)))
  have cw3_R_0 : w3.cell? ⟨R, 0, none⟩ = some (.int .i64 0) := by rw [bb3.cell (p := ⟨R, 0, none⟩) (by dsimp only; omega)]; exact cw2_R_0
  have cw3_R_1 : w3.cell? ⟨R, 1, none⟩ = some (.int .i64 0) := by rw [bb3.cell (p := ⟨R, 1, none⟩) (by dsimp only; omega)]; exact cw2_R_1
  have cw3_R_2 : w3.cell? ⟨R, 2, none⟩ = some (.int .i64 0) := by rw [bb3.cell (p := ⟨R, 2, none⟩) (by dsimp only; omega)]; exact cw2_R_2
  have cw3_R_3 : w3.cell? ⟨R, 3, none⟩ = some (.int .i64 0) := by rw [bb3.cell (p := ⟨R, 3, none⟩) (by dsimp only; omega)]; exact cw2_R_3
  have cw3_R_f : ∀ i, w3.frozen? ⟨R, i, none⟩ = false := fun i => by rw [bb3.frozen (p := ⟨R, i, none⟩) (by dsimp only; omega)]; exact cw2_R_f i
  clear cw2_R_0 cw2_R_1 cw2_R_2 cw2_R_3 cw2_R_f
  have cw3_bm_0 : w3.cell? ⟨bm, 0, none⟩ = some (.int .i64 p) := by subst hw3 hbm; first | (go_cell; done) | (go_simp; done)
  have cw3_bm_1 : w3.cell? ⟨bm, 1, none⟩ = some (.int .i64 q) := by subst hw3 hbm; first | (go_cell; done) | (go_simp; done)
  have cw3_bm_2 : w3.cell? ⟨bm, 2, none⟩ = some (.int .i64 r) := by subst hw3 hbm; first | (go_cell; done) | (go_simp; done)
  have cw3_bm_3 : w3.cell? ⟨bm, 3, none⟩ = some (.int .i64 t) := by subst hw3 hbm; first | (go_cell; done) | (go_simp; done)
  have cw3_bm_f : ∀ i, w3.frozen? ⟨bm, i, none⟩ = false := by intro i; subst hw3 hbm; first | (go_cell; done) | (go_simp; done)
  have hq3 : bm < w3.heap.size := by subst hw3 hbm; simp
  have hS3 := hS2.below bb3 (by have := hS2.lt; omega)
  have hB3 : Below R w w3 := hB2.trans (bb3.mono (by omega))
  have hsbm : s < bm := by have := hS2.lt; omega
  have hobm : w2.heap.size ≤ bm := by omega
  (try rw [hbm])
  clear hw3 hbm bb3 hS2 hB2
  have hsl3 := hS3.lt
  go_region_held3 (fun w' => w'.cell? ⟨bm, 0, none⟩ = some (.int .i64 p) ∧ w'.cell? ⟨bm, 1, none⟩ = some (.int .i64 q) ∧ w'.cell? ⟨bm, 2, none⟩ = some (.int .i64 r) ∧ w'.cell? ⟨bm, 3, none⟩ = some (.int .i64 t)) (((try go_split_ands); (try (refine ⟨?_, ?_, ?_, ?_⟩)) <;> first | (with_reducible assumption) | ((try (with_reducible refine keep_drew ?_)); (repeat (with_reducible refine keep_set ?_ (by dsimp only; omega))); (with_reducible assumption)) | (with_reducible exact keep_drew (by with_reducible assumption)) | (with_reducible exact keep_new (by with_reducible assumption)) | (with_reducible exact keep_alloc (by with_reducible assumption) (by dsimp only; omega)) | (with_reducible exact keep_drew (keep_new (by with_reducible assumption))) | ((with_reducible refine keep_set ?_ (by dsimp only; omega)); (repeat (with_reducible refine keep_set ?_ (by dsimp only; omega))); first | (with_reducible assumption) | (with_reducible exact keep_drew (by with_reducible assumption))) | (go_keep; done))) (first | (go_at_call 89; refine (pickBd_c (-1000000) 2000000 s _ _ [1, 2, 3, 4, 5, 7, 10, 12, 999983, 1000000, 0, -5, 1000001] _ (by first | exact hS3.alloc _ | exact (hS3.alloc _).drew | exact hS3.drew.alloc _ | exact (hS3.drew.alloc _).drew | exact (by repeat' (first | (with_reducible assumption) | (with_reducible refine Src.drewN ?_ _) | (with_reducible refine Src.drew ?_) | (with_reducible refine Src.alloc ?_ _) | (with_reducible refine Src.setCell ?_ ?_ _) | (with_reducible refine Src.below ?_ (by with_reducible assumption) ?_) | go_size | (dsimp only; omega)))) (by go_size) (by first | (dsimp only; omega) | (simp; omega)) (by first | exact rowI_alloc _ [1, 2, 3, 4, 5, 7, 10, 12, 999983, 1000000, 0, -5, 1000001] _ | exact RowI.drew (rowI_alloc _ [1, 2, 3, 4, 5, 7, 10, 12, 999983, 1000000, 0, -5, 1000001] _)) (by decide) (by decide) (by decide)).mono ?_; rintro e w16 ⟨k, rfl, hSx, hKx, hkb⟩; have zu := hKx.size; have bxu0 := hKx.mono (B' := R) (by go_size); have bxu := bxu0.below (show R ≤ s by omega); clear bxu0; (try simp only [World.size_alloc, World.size_drew] at zu); have nu0 : w16.cell? ⟨bm, 0, none⟩ = some (.int .i64 p) := (by rw [hKx.cell (p := ⟨bm, 0, none⟩) (by go_size) (by dsimp only; omega)]; first | assumption | (go_simp; done)); have nu1 : w16.cell? ⟨bm, 1, none⟩ = some (.int .i64 q) := (by rw [hKx.cell (p := ⟨bm, 1, none⟩) (by go_size) (by dsimp only; omega)]; first | assumption | (go_simp; done)); have nu2 : w16.cell? ⟨bm, 2, none⟩ = some (.int .i64 r) := (by rw [hKx.cell (p := ⟨bm, 2, none⟩) (by go_size) (by dsimp only; omega)]; first | assumption | (go_simp; done)); have nu3 : w16.cell? ⟨bm, 3, none⟩ = some (.int .i64 t) := (by rw [hKx.cell (p := ⟨bm, 3, none⟩) (by go_size) (by dsimp only; omega)]; first | assumption | (go_simp; done)); have nr0 : w16.cell? ⟨R, 0, none⟩ = some (.int .i64 0) := (by rw [hKx.cell (p := ⟨R, 0, none⟩) (by go_size) (by dsimp only; omega)]; first | exact keep_drew (keep_new cw3_R_0) | exact keep_new cw3_R_0 | (go_simp; done)); have nr1 : w16.cell? ⟨R, 1, none⟩ = some (.int .i64 0) := (by rw [hKx.cell (p := ⟨R, 1, none⟩) (by go_size) (by dsimp only; omega)]; first | exact keep_drew (keep_new cw3_R_1) | exact keep_new cw3_R_1 | (go_simp; done)); have nr2 : w16.cell? ⟨R, 2, none⟩ = some (.int .i64 0) := (by rw [hKx.cell (p := ⟨R, 2, none⟩) (by go_size) (by dsimp only; omega)]; first | exact keep_drew (keep_new cw3_R_2) | exact keep_new cw3_R_2 | (go_simp; done)); have nr3 : w16.cell? ⟨R, 3, none⟩ = some (.int .i64 0) := (by rw [hKx.cell (p := ⟨R, 3, none⟩) (by go_size) (by dsimp only; omega)]; first | exact keep_drew (keep_new cw3_R_3) | exact keep_new cw3_R_3 | (go_simp; done)); have nrf : ∀ i, w16.frozen? ⟨R, i, none⟩ = false := (fun i => by rw [hKx.frozen (p := ⟨R, i, none⟩) (by go_size) (by dsimp only; omega)]; first | (rw [(Below.drew (Below.alloc (Below.refl w3.heap.size w3) (Nat.le_refl _) _)).frozen (p := ⟨R, i, none⟩) (by dsimp only; omega)]; exact cw3_R_f i) | (rw [(Below.alloc (Below.refl w3.heap.size w3) (Nat.le_refl _) _).frozen (p := ⟨R, i, none⟩) (by dsimp only; omega)]; exact cw3_R_f i) | (go_simp; done)); have nrz : R < w16.heap.size := (by omega)))
  all_goals (try go_split_ands)
  all_goals
    generalize hW : World.setCell _ _ _ = W5
    have rR0' : W5.cell? ⟨R, 0, none⟩ = some (.int .i64 p) := by subst hW; go_simp
    have rR1' : W5.cell? ⟨R, 1, none⟩ = some (.int .i64 q) := by subst hW; go_simp
    have rR2' : W5.cell? ⟨R, 2, none⟩ = some (.int .i64 r) := by subst hW; go_simp
    have rR3' : W5.cell? ⟨R, 3, none⟩ = some (.int .i64 t) := by subst hW; go_simp
    have hB5 : Below R w W5 := by subst hW; exact (by repeat' (first | (with_reducible exact Below.refl _ _) | (with_reducible assumption) | (with_reducible refine below_drewN ?_ _) | (with_reducible refine Below.drew ?_) | (with_reducible refine Below.alloc ?_ ?_ _) | (with_reducible refine Below.setCell ?_ ?_ _) | (with_reducible refine Below.trans ?_ (Below.mono (by with_reducible assumption) ?_)) | go_size | (dsimp only; omega)))
    clear hW
    (try clear hb)
    clear cw3_R_0 cw3_R_1 cw3_R_2 cw3_R_3 cw3_R_f cw3_bm_0 cw3_bm_1 cw3_bm_2 cw3_bm_3 cw3_bm_f
    go_wp2
    exact bodyPost_ret (v := .tuple #[.agg #[.int .i64 p, .int .i64 q, .int .i64 r, .int .i64 t], .int .i64 k]) (by simp only [results, Tryz.results24]; go_simp) rfl ⟨p, q, r, t, k, rfl, hkb.out, by rw [HRW.out]; exact (by repeat' (first | (with_reducible exact Below.refl _ _) | (with_reducible assumption) | (with_reducible refine below_drewN ?_ _) | (with_reducible refine Below.drew ?_) | (with_reducible refine Below.alloc ?_ ?_ _) | (with_reducible refine Below.setCell ?_ ?_ _) | (with_reducible refine Below.trans ?_ (Below.mono (by with_reducible assumption) ?_)) | go_size | (dsimp only; omega)))⟩
set_option maxRecDepth 100000 in
set_option maxHeartbeats 4000000 in
theorem drawProductOf_c (v : Value) (w : World) (hv : CodeV w v) :
    Calls Tryz.prog 37 #[v] w fun e w' => AnyMM e ∧ Below w.heap.size w w' := by
  go_enter Tryz.func37, Tryz.ntmps37
  obtain ⟨R, hR⟩ : ∃ R, w.heap.size = R := ⟨_, rfl⟩
  have HRW := Lib.hid hR
  go_wp2_with fail
  generalize hw0 : World.alloc (World.alloc _ _) _ = w0
  have cw0_R_0 : w0.cell? ⟨R, 0, none⟩ = some (.int .i64 0) := by subst hw0 hR; first | (go_cell; done) | (go_simp; done)
  have cw0_R_1 : w0.cell? ⟨R, 1, none⟩ = some (.int .i64 0) := by subst hw0 hR; first | (go_cell; done) | (go_simp; done)
  have cw0_R_2 : w0.cell? ⟨R, 2, none⟩ = some (.int .i64 0) := by subst hw0 hR; first | (go_cell; done) | (go_simp; done)
  have cw0_R_3 : w0.cell? ⟨R, 3, none⟩ = some (.int .i64 0) := by subst hw0 hR; first | (go_cell; done) | (go_simp; done)
  have cw0_R_f : ∀ i, w0.frozen? ⟨R, i, none⟩ = false := by intro i; subst hw0 hR; first | (go_cell; done) | (go_simp; done)
  have cw0_R1_0 : w0.cell? ⟨(R + 1), 0, none⟩ = some (.int .i64 0) := by subst hw0 hR; first | (go_cell; done) | (go_simp; done)
  have cw0_R1_1 : w0.cell? ⟨(R + 1), 1, none⟩ = some (.int .i64 0) := by subst hw0 hR; first | (go_cell; done) | (go_simp; done)
  have cw0_R1_2 : w0.cell? ⟨(R + 1), 2, none⟩ = some (.int .i64 0) := by subst hw0 hR; first | (go_cell; done) | (go_simp; done)
  have cw0_R1_3 : w0.cell? ⟨(R + 1), 3, none⟩ = some (.int .i64 0) := by subst hw0 hR; first | (go_cell; done) | (go_simp; done)
  have cw0_R1_f : ∀ i, w0.frozen? ⟨(R + 1), i, none⟩ = false := by intro i; subst hw0 hR; first | (go_cell; done) | (go_simp; done)
  have hB0 : Below R w w0 := by subst hw0; rw [← hR]; exact (by repeat' (first | (with_reducible exact Below.refl _ _) | (with_reducible assumption) | (with_reducible refine below_drewN ?_ _) | (with_reducible refine Below.drew ?_) | (with_reducible refine Below.alloc ?_ ?_ _) | (with_reducible refine Below.setCell ?_ ?_ _) | (with_reducible refine Below.trans ?_ (Below.mono (by with_reducible assumption) ?_)) | go_size | (dsimp only; omega)))
  have hq0 : R + 1 < w0.heap.size := by subst hw0; go_size
  obtain ⟨R1, hR1⟩ : ∃ R1, R + 1 = R1 := ⟨_, rfl⟩
  have hRR1 : R < R1 := by omega
  (try rw [hR1])
  rw [hR1] at cw0_R1_0 cw0_R1_1 cw0_R1_2 cw0_R1_3 cw0_R1_f hq0
  have HR1 := Lib.hid hR1
  clear hw0 hR1
  refine (two_c v w0 (by have h := hv.below (hR ▸ hB0); exact h)).mono ?_
  rintro e w1 ⟨⟨p, q, r, t, p', q', r', t', rfl⟩, b1⟩
  have hq1 := b1.size
  have cw1_R_0 : w1.cell? ⟨R, 0, none⟩ = some (.int .i64 0) := by rw [b1.cell (p := ⟨R, 0, none⟩) (by dsimp only; omega)]; exact cw0_R_0
  have cw1_R_1 : w1.cell? ⟨R, 1, none⟩ = some (.int .i64 0) := by rw [b1.cell (p := ⟨R, 1, none⟩) (by dsimp only; omega)]; exact cw0_R_1
  have cw1_R_2 : w1.cell? ⟨R, 2, none⟩ = some (.int .i64 0) := by rw [b1.cell (p := ⟨R, 2, none⟩) (by dsimp only; omega)]; exact cw0_R_2
  have cw1_R_3 : w1.cell? ⟨R, 3, none⟩ = some (.int .i64 0) := by rw [b1.cell (p := ⟨R, 3, none⟩) (by dsimp only; omega)]; exact cw0_R_3
  have cw1_R_f : ∀ i, w1.frozen? ⟨R, i, none⟩ = false := fun i => by rw [b1.frozen (p := ⟨R, i, none⟩) (by dsimp only; omega)]; exact cw0_R_f i
  have cw1_R1_0 : w1.cell? ⟨R1, 0, none⟩ = some (.int .i64 0) := by rw [b1.cell (p := ⟨R1, 0, none⟩) (by dsimp only; omega)]; exact cw0_R1_0
  have cw1_R1_1 : w1.cell? ⟨R1, 1, none⟩ = some (.int .i64 0) := by rw [b1.cell (p := ⟨R1, 1, none⟩) (by dsimp only; omega)]; exact cw0_R1_1
  have cw1_R1_2 : w1.cell? ⟨R1, 2, none⟩ = some (.int .i64 0) := by rw [b1.cell (p := ⟨R1, 2, none⟩) (by dsimp only; omega)]; exact cw0_R1_2
  have cw1_R1_3 : w1.cell? ⟨R1, 3, none⟩ = some (.int .i64 0) := by rw [b1.cell (p := ⟨R1, 3, none⟩) (by dsimp only; omega)]; exact cw0_R1_3
  have cw1_R1_f : ∀ i, w1.frozen? ⟨R1, i, none⟩ = false := fun i => by rw [b1.frozen (p := ⟨R1, i, none⟩) (by dsimp only; omega)]; exact cw0_R1_f i
  clear cw0_R_0 cw0_R_1 cw0_R_2 cw0_R_3 cw0_R_f cw0_R1_0 cw0_R1_1 cw0_R1_2 cw0_R1_3 cw0_R1_f
  have hB1 : Below R w w1 := hB0.trans (b1.mono (by omega))
  clear hB0 b1 hR
  go_wp2_with fail
  generalize hw2 : World.alloc (World.alloc _ _) _ = w2
  obtain ⟨bm, hbm⟩ : ∃ b, w1.heap.size = b := ⟨_, rfl⟩
  obtain ⟨bn, hbn⟩ : ∃ b, w1.heap.size + 1 = b := ⟨_, rfl⟩
  have bb2 : Below bm w1 w2 := by subst hw2 hbm; exact (by repeat' (first | (with_reducible exact Below.refl _ _) | (with_reducible assumption) | (with_reducible refine below_drewN ?_ _) | (with_reducible refine Below.drew ?_) | (with_reducible refine Below.alloc ?_ ?_ _) | (with_reducible refine Below.setCell ?_ ?_ _) | (with_reducible refine Below.trans ?_ (Below.mono (by with_reducible assumption) ?_)) | go_size | (dsimp only; omega)))
  have hmn : bm + 1 = bn := by omega
  have hRm : R1 < bm := by omega
  have cw2_R_0 : w2.cell? ⟨R, 0, none⟩ = some (.int .i64 0) := by rw [bb2.cell (p := ⟨R, 0, none⟩) (by dsimp only; omega)]; exact cw1_R_0
  have cw2_R_1 : w2.cell? ⟨R, 1, none⟩ = some (.int .i64 0) := by rw [bb2.cell (p := ⟨R, 1, none⟩) (by dsimp only; omega)]; exact cw1_R_1
  have cw2_R_2 : w2.cell? ⟨R, 2, none⟩ = some (.int .i64 0) := by rw [bb2.cell (p := ⟨R, 2, none⟩) (by dsimp only; omega)]; exact cw1_R_2
  have cw2_R_3 : w2.cell? ⟨R, 3, none⟩ = some (.int .i64 0) := by rw [bb2.cell (p := ⟨R, 3, none⟩) (by dsimp only; omega)]; exact cw1_R_3
  have cw2_R_f : ∀ i, w2.frozen? ⟨R, i, none⟩ = false := fun i => by rw [bb2.frozen (p := ⟨R, i, none⟩) (by dsimp only; omega)]; exact cw1_R_f i
  have cw2_R1_0 : w2.cell? ⟨R1, 0, none⟩ = some (.int .i64 0) := by rw [bb2.cell (p := ⟨R1, 0, none⟩) (by dsimp only; omega)]; exact cw1_R1_0
  have cw2_R1_1 : w2.cell? ⟨R1, 1, none⟩ = some (.int .i64 0) := by rw [bb2.cell (p := ⟨R1, 1, none⟩) (by dsimp only; omega)]; exact cw1_R1_1
  have cw2_R1_2 : w2.cell? ⟨R1, 2, none⟩ = some (.int .i64 0) := by rw [bb2.cell (p := ⟨R1, 2, none⟩) (by dsimp only; omega)]; exact cw1_R1_2
  have cw2_R1_3 : w2.cell? ⟨R1, 3, none⟩ = some (.int .i64 0) := by rw [bb2.cell (p := ⟨R1, 3, none⟩) (by dsimp only; omega)]; exact cw1_R1_3
  have cw2_R1_f : ∀ i, w2.frozen? ⟨R1, i, none⟩ = false := fun i => by rw [bb2.frozen (p := ⟨R1, i, none⟩) (by dsimp only; omega)]; exact cw1_R1_f i
  clear cw1_R_0 cw1_R_1 cw1_R_2 cw1_R_3 cw1_R_f cw1_R1_0 cw1_R1_1 cw1_R1_2 cw1_R1_3 cw1_R1_f
  have cw2_bm_0 : w2.cell? ⟨bm, 0, none⟩ = some (.int .i64 p) := by subst hw2 hbm; first | (go_cell; done) | (go_simp; done)
  have cw2_bm_1 : w2.cell? ⟨bm, 1, none⟩ = some (.int .i64 q) := by subst hw2 hbm; first | (go_cell; done) | (go_simp; done)
  have cw2_bm_2 : w2.cell? ⟨bm, 2, none⟩ = some (.int .i64 r) := by subst hw2 hbm; first | (go_cell; done) | (go_simp; done)
  have cw2_bm_3 : w2.cell? ⟨bm, 3, none⟩ = some (.int .i64 t) := by subst hw2 hbm; first | (go_cell; done) | (go_simp; done)
  have cw2_bm_f : ∀ i, w2.frozen? ⟨bm, i, none⟩ = false := by intro i; subst hw2 hbm; first | (go_cell; done) | (go_simp; done)
  have cw2_bn_0 : w2.cell? ⟨bn, 0, none⟩ = some (.int .i64 p') := by subst hw2 hbn; first | (go_cell; done) | (go_simp; done)
  have cw2_bn_1 : w2.cell? ⟨bn, 1, none⟩ = some (.int .i64 q') := by subst hw2 hbn; first | (go_cell; done) | (go_simp; done)
  have cw2_bn_2 : w2.cell? ⟨bn, 2, none⟩ = some (.int .i64 r') := by subst hw2 hbn; first | (go_cell; done) | (go_simp; done)
  have cw2_bn_3 : w2.cell? ⟨bn, 3, none⟩ = some (.int .i64 t') := by subst hw2 hbn; first | (go_cell; done) | (go_simp; done)
  have cw2_bn_f : ∀ i, w2.frozen? ⟨bn, i, none⟩ = false := by intro i; subst hw2 hbn; first | (go_cell; done) | (go_simp; done)
  have hq2 : bn < w2.heap.size := by subst hw2 hbn; go_size
  have hB2 : Below R w w2 := hB1.trans (bb2.mono (by omega))
  (try rw [hbm])
  (try rw [hmn])
  clear hw2 hbm hbn bb2 hB1
  have hlt : bm < bn := by omega
  have hlt2 : bm < w2.heap.size := by omega
  clear hmn
  go_region_held3 (fun w' => w'.cell? ⟨bm, 0, none⟩ = some (.int .i64 p) ∧ w'.cell? ⟨bm, 1, none⟩ = some (.int .i64 q) ∧ w'.cell? ⟨bm, 2, none⟩ = some (.int .i64 r) ∧ w'.cell? ⟨bm, 3, none⟩ = some (.int .i64 t) ∧ w'.cell? ⟨bn, 0, none⟩ = some (.int .i64 p') ∧ w'.cell? ⟨bn, 1, none⟩ = some (.int .i64 q') ∧ w'.cell? ⟨bn, 2, none⟩ = some (.int .i64 r') ∧ w'.cell? ⟨bn, 3, none⟩ = some (.int .i64 t')) (((try go_split_ands); (try (refine ⟨?_, ?_, ?_, ?_, ?_, ?_, ?_, ?_⟩)) <;> first | (with_reducible assumption) | ((try (with_reducible refine keep_drew ?_)); (repeat (with_reducible refine keep_set ?_ (by dsimp only; omega))); (with_reducible assumption)) | (with_reducible exact keep_drew (by with_reducible assumption)) | (with_reducible exact keep_new (by with_reducible assumption)) | (with_reducible exact keep_alloc (by with_reducible assumption) (by dsimp only; omega)) | (with_reducible exact keep_drew (keep_new (by with_reducible assumption))) | ((with_reducible refine keep_set ?_ (by dsimp only; omega)); (repeat (with_reducible refine keep_set ?_ (by dsimp only; omega))); first | (with_reducible assumption) | (with_reducible exact keep_drew (by with_reducible assumption))) | (go_keep; done))) (fail)
  all_goals (try go_split_ands)
  all_goals
    generalize hW : World.setCell _ _ _ = W5
    have rR0' : W5.cell? ⟨R, 0, none⟩ = some (.int .i64 p) := by subst hW; go_simp
    have rR1' : W5.cell? ⟨R, 1, none⟩ = some (.int .i64 q) := by subst hW; go_simp
    have rR2' : W5.cell? ⟨R, 2, none⟩ = some (.int .i64 r) := by subst hW; go_simp
    have rR3' : W5.cell? ⟨R, 3, none⟩ = some (.int .i64 t) := by subst hW; go_simp
    have rR10' : W5.cell? ⟨R1, 0, none⟩ = some (.int .i64 p') := by subst hW; go_simp
    have rR11' : W5.cell? ⟨R1, 1, none⟩ = some (.int .i64 q') := by subst hW; go_simp
    have rR12' : W5.cell? ⟨R1, 2, none⟩ = some (.int .i64 r') := by subst hW; go_simp
    have rR13' : W5.cell? ⟨R1, 3, none⟩ = some (.int .i64 t') := by subst hW; go_simp
    have hB5 : Below R w W5 := by subst hW; exact (by repeat' (first | (with_reducible exact Below.refl _ _) | (with_reducible assumption) | (with_reducible refine below_drewN ?_ _) | (with_reducible refine Below.drew ?_) | (with_reducible refine Below.alloc ?_ ?_ _) | (with_reducible refine Below.setCell ?_ ?_ _) | (with_reducible refine Below.trans ?_ (Below.mono (by with_reducible assumption) ?_)) | go_size | (dsimp only; omega)))
    clear hW
    (try clear hb)
    clear cw2_R_0 cw2_R_1 cw2_R_2 cw2_R_3 cw2_R_f cw2_R1_0 cw2_R1_1 cw2_R1_2 cw2_R1_3 cw2_R1_f cw2_bm_0 cw2_bm_1 cw2_bm_2 cw2_bm_3 cw2_bm_f cw2_bn_0 cw2_bn_1 cw2_bn_2 cw2_bn_3 cw2_bn_f
    go_wp2
    exact bodyPost_ret (v := .tuple #[.agg #[.int .i64 p, .int .i64 q, .int .i64 r, .int .i64 t], .agg #[.int .i64 p', .int .i64 q', .int .i64 r', .int .i64 t']]) (by simp only [results, Tryz.results37]; go_simp) rfl ⟨⟨p, q, r, t, p', q', r', t', rfl⟩, by rw [HRW.out]; exact (by repeat' (first | (with_reducible exact Below.refl _ _) | (with_reducible assumption) | (with_reducible refine below_drewN ?_ _) | (with_reducible refine Below.drew ?_) | (with_reducible refine Below.alloc ?_ ?_ _) | (with_reducible refine Below.setCell ?_ ?_ _) | (with_reducible refine Below.trans ?_ (Below.mono (by with_reducible assumption) ?_)) | go_size | (dsimp only; omega)))⟩
set_option maxRecDepth 100000 in
set_option maxHeartbeats 4000000 in
theorem drawConjugateBy_c (v : Value) (w : World) (hv : CodeV w v) :
    Calls Tryz.prog 44 #[v] w fun e w' => AnyMM e ∧ Below w.heap.size w w' := by
  go_enter Tryz.func44, Tryz.ntmps44
  obtain ⟨R, hR⟩ : ∃ R, w.heap.size = R := ⟨_, rfl⟩
  have HRW := Lib.hid hR
  go_wp2_with fail
  generalize hw0 : World.alloc (World.alloc _ _) _ = w0
  have cw0_R_0 : w0.cell? ⟨R, 0, none⟩ = some (.int .i64 0) := by subst hw0 hR; first | (go_cell; done) | (go_simp; done)
  have cw0_R_1 : w0.cell? ⟨R, 1, none⟩ = some (.int .i64 0) := by subst hw0 hR; first | (go_cell; done) | (go_simp; done)
  have cw0_R_2 : w0.cell? ⟨R, 2, none⟩ = some (.int .i64 0) := by subst hw0 hR; first | (go_cell; done) | (go_simp; done)
  have cw0_R_3 : w0.cell? ⟨R, 3, none⟩ = some (.int .i64 0) := by subst hw0 hR; first | (go_cell; done) | (go_simp; done)
  have cw0_R_f : ∀ i, w0.frozen? ⟨R, i, none⟩ = false := by intro i; subst hw0 hR; first | (go_cell; done) | (go_simp; done)
  have cw0_R1_0 : w0.cell? ⟨(R + 1), 0, none⟩ = some (.int .i64 0) := by subst hw0 hR; first | (go_cell; done) | (go_simp; done)
  have cw0_R1_1 : w0.cell? ⟨(R + 1), 1, none⟩ = some (.int .i64 0) := by subst hw0 hR; first | (go_cell; done) | (go_simp; done)
  have cw0_R1_2 : w0.cell? ⟨(R + 1), 2, none⟩ = some (.int .i64 0) := by subst hw0 hR; first | (go_cell; done) | (go_simp; done)
  have cw0_R1_3 : w0.cell? ⟨(R + 1), 3, none⟩ = some (.int .i64 0) := by subst hw0 hR; first | (go_cell; done) | (go_simp; done)
  have cw0_R1_f : ∀ i, w0.frozen? ⟨(R + 1), i, none⟩ = false := by intro i; subst hw0 hR; first | (go_cell; done) | (go_simp; done)
  have hB0 : Below R w w0 := by subst hw0; rw [← hR]; exact (by repeat' (first | (with_reducible exact Below.refl _ _) | (with_reducible assumption) | (with_reducible refine below_drewN ?_ _) | (with_reducible refine Below.drew ?_) | (with_reducible refine Below.alloc ?_ ?_ _) | (with_reducible refine Below.setCell ?_ ?_ _) | (with_reducible refine Below.trans ?_ (Below.mono (by with_reducible assumption) ?_)) | go_size | (dsimp only; omega)))
  have hq0 : R + 1 < w0.heap.size := by subst hw0; go_size
  obtain ⟨R1, hR1⟩ : ∃ R1, R + 1 = R1 := ⟨_, rfl⟩
  have hRR1 : R < R1 := by omega
  (try rw [hR1])
  rw [hR1] at cw0_R1_0 cw0_R1_1 cw0_R1_2 cw0_R1_3 cw0_R1_f hq0
  have HR1 := Lib.hid hR1
  clear hw0 hR1
  refine (two_c v w0 (by have h := hv.below (hR ▸ hB0); exact h)).mono ?_
  rintro e w1 ⟨⟨p, q, r, t, p', q', r', t', rfl⟩, b1⟩
  have hq1 := b1.size
  have cw1_R_0 : w1.cell? ⟨R, 0, none⟩ = some (.int .i64 0) := by rw [b1.cell (p := ⟨R, 0, none⟩) (by dsimp only; omega)]; exact cw0_R_0
  have cw1_R_1 : w1.cell? ⟨R, 1, none⟩ = some (.int .i64 0) := by rw [b1.cell (p := ⟨R, 1, none⟩) (by dsimp only; omega)]; exact cw0_R_1
  have cw1_R_2 : w1.cell? ⟨R, 2, none⟩ = some (.int .i64 0) := by rw [b1.cell (p := ⟨R, 2, none⟩) (by dsimp only; omega)]; exact cw0_R_2
  have cw1_R_3 : w1.cell? ⟨R, 3, none⟩ = some (.int .i64 0) := by rw [b1.cell (p := ⟨R, 3, none⟩) (by dsimp only; omega)]; exact cw0_R_3
  have cw1_R_f : ∀ i, w1.frozen? ⟨R, i, none⟩ = false := fun i => by rw [b1.frozen (p := ⟨R, i, none⟩) (by dsimp only; omega)]; exact cw0_R_f i
  have cw1_R1_0 : w1.cell? ⟨R1, 0, none⟩ = some (.int .i64 0) := by rw [b1.cell (p := ⟨R1, 0, none⟩) (by dsimp only; omega)]; exact cw0_R1_0
  have cw1_R1_1 : w1.cell? ⟨R1, 1, none⟩ = some (.int .i64 0) := by rw [b1.cell (p := ⟨R1, 1, none⟩) (by dsimp only; omega)]; exact cw0_R1_1
  have cw1_R1_2 : w1.cell? ⟨R1, 2, none⟩ = some (.int .i64 0) := by rw [b1.cell (p := ⟨R1, 2, none⟩) (by dsimp only; omega)]; exact cw0_R1_2
  have cw1_R1_3 : w1.cell? ⟨R1, 3, none⟩ = some (.int .i64 0) := by rw [b1.cell (p := ⟨R1, 3, none⟩) (by dsimp only; omega)]; exact cw0_R1_3
  have cw1_R1_f : ∀ i, w1.frozen? ⟨R1, i, none⟩ = false := fun i => by rw [b1.frozen (p := ⟨R1, i, none⟩) (by dsimp only; omega)]; exact cw0_R1_f i
  clear cw0_R_0 cw0_R_1 cw0_R_2 cw0_R_3 cw0_R_f cw0_R1_0 cw0_R1_1 cw0_R1_2 cw0_R1_3 cw0_R1_f
  have hB1 : Below R w w1 := hB0.trans (b1.mono (by omega))
  clear hB0 b1 hR
  go_wp2_with fail
  generalize hw2 : World.alloc (World.alloc _ _) _ = w2
  obtain ⟨bm, hbm⟩ : ∃ b, w1.heap.size = b := ⟨_, rfl⟩
  obtain ⟨bn, hbn⟩ : ∃ b, w1.heap.size + 1 = b := ⟨_, rfl⟩
  have bb2 : Below bm w1 w2 := by subst hw2 hbm; exact (by repeat' (first | (with_reducible exact Below.refl _ _) | (with_reducible assumption) | (with_reducible refine below_drewN ?_ _) | (with_reducible refine Below.drew ?_) | (with_reducible refine Below.alloc ?_ ?_ _) | (with_reducible refine Below.setCell ?_ ?_ _) | (with_reducible refine Below.trans ?_ (Below.mono (by with_reducible assumption) ?_)) | go_size | (dsimp only; omega)))
  have hmn : bm + 1 = bn := by omega
  have hRm : R1 < bm := by omega
  have cw2_R_0 : w2.cell? ⟨R, 0, none⟩ = some (.int .i64 0) := by rw [bb2.cell (p := ⟨R, 0, none⟩) (by dsimp only; omega)]; exact cw1_R_0
  have cw2_R_1 : w2.cell? ⟨R, 1, none⟩ = some (.int .i64 0) := by rw [bb2.cell (p := ⟨R, 1, none⟩) (by dsimp only; omega)]; exact cw1_R_1
  have cw2_R_2 : w2.cell? ⟨R, 2, none⟩ = some (.int .i64 0) := by rw [bb2.cell (p := ⟨R, 2, none⟩) (by dsimp only; omega)]; exact cw1_R_2
  have cw2_R_3 : w2.cell? ⟨R, 3, none⟩ = some (.int .i64 0) := by rw [bb2.cell (p := ⟨R, 3, none⟩) (by dsimp only; omega)]; exact cw1_R_3
  have cw2_R_f : ∀ i, w2.frozen? ⟨R, i, none⟩ = false := fun i => by rw [bb2.frozen (p := ⟨R, i, none⟩) (by dsimp only; omega)]; exact cw1_R_f i
  have cw2_R1_0 : w2.cell? ⟨R1, 0, none⟩ = some (.int .i64 0) := by rw [bb2.cell (p := ⟨R1, 0, none⟩) (by dsimp only; omega)]; exact cw1_R1_0
  have cw2_R1_1 : w2.cell? ⟨R1, 1, none⟩ = some (.int .i64 0) := by rw [bb2.cell (p := ⟨R1, 1, none⟩) (by dsimp only; omega)]; exact cw1_R1_1
  have cw2_R1_2 : w2.cell? ⟨R1, 2, none⟩ = some (.int .i64 0) := by rw [bb2.cell (p := ⟨R1, 2, none⟩) (by dsimp only; omega)]; exact cw1_R1_2
  have cw2_R1_3 : w2.cell? ⟨R1, 3, none⟩ = some (.int .i64 0) := by rw [bb2.cell (p := ⟨R1, 3, none⟩) (by dsimp only; omega)]; exact cw1_R1_3
  have cw2_R1_f : ∀ i, w2.frozen? ⟨R1, i, none⟩ = false := fun i => by rw [bb2.frozen (p := ⟨R1, i, none⟩) (by dsimp only; omega)]; exact cw1_R1_f i
  clear cw1_R_0 cw1_R_1 cw1_R_2 cw1_R_3 cw1_R_f cw1_R1_0 cw1_R1_1 cw1_R1_2 cw1_R1_3 cw1_R1_f
  have cw2_bm_0 : w2.cell? ⟨bm, 0, none⟩ = some (.int .i64 p) := by subst hw2 hbm; first | (go_cell; done) | (go_simp; done)
  have cw2_bm_1 : w2.cell? ⟨bm, 1, none⟩ = some (.int .i64 q) := by subst hw2 hbm; first | (go_cell; done) | (go_simp; done)
  have cw2_bm_2 : w2.cell? ⟨bm, 2, none⟩ = some (.int .i64 r) := by subst hw2 hbm; first | (go_cell; done) | (go_simp; done)
  have cw2_bm_3 : w2.cell? ⟨bm, 3, none⟩ = some (.int .i64 t) := by subst hw2 hbm; first | (go_cell; done) | (go_simp; done)
  have cw2_bm_f : ∀ i, w2.frozen? ⟨bm, i, none⟩ = false := by intro i; subst hw2 hbm; first | (go_cell; done) | (go_simp; done)
  have cw2_bn_0 : w2.cell? ⟨bn, 0, none⟩ = some (.int .i64 p') := by subst hw2 hbn; first | (go_cell; done) | (go_simp; done)
  have cw2_bn_1 : w2.cell? ⟨bn, 1, none⟩ = some (.int .i64 q') := by subst hw2 hbn; first | (go_cell; done) | (go_simp; done)
  have cw2_bn_2 : w2.cell? ⟨bn, 2, none⟩ = some (.int .i64 r') := by subst hw2 hbn; first | (go_cell; done) | (go_simp; done)
  have cw2_bn_3 : w2.cell? ⟨bn, 3, none⟩ = some (.int .i64 t') := by subst hw2 hbn; first | (go_cell; done) | (go_simp; done)
  have cw2_bn_f : ∀ i, w2.frozen? ⟨bn, i, none⟩ = false := by intro i; subst hw2 hbn; first | (go_cell; done) | (go_simp; done)
  have hq2 : bn < w2.heap.size := by subst hw2 hbn; go_size
  have hB2 : Below R w w2 := hB1.trans (bb2.mono (by omega))
  (try rw [hbm])
  (try rw [hmn])
  clear hw2 hbm hbn bb2 hB1
  have hlt : bm < bn := by omega
  have hlt2 : bm < w2.heap.size := by omega
  clear hmn
  go_region_held3 (fun w' => w'.cell? ⟨bm, 0, none⟩ = some (.int .i64 p) ∧ w'.cell? ⟨bm, 1, none⟩ = some (.int .i64 q) ∧ w'.cell? ⟨bm, 2, none⟩ = some (.int .i64 r) ∧ w'.cell? ⟨bm, 3, none⟩ = some (.int .i64 t) ∧ w'.cell? ⟨bn, 0, none⟩ = some (.int .i64 p') ∧ w'.cell? ⟨bn, 1, none⟩ = some (.int .i64 q') ∧ w'.cell? ⟨bn, 2, none⟩ = some (.int .i64 r') ∧ w'.cell? ⟨bn, 3, none⟩ = some (.int .i64 t')) (((try go_split_ands); (try (refine ⟨?_, ?_, ?_, ?_, ?_, ?_, ?_, ?_⟩)) <;> first | (with_reducible assumption) | ((try (with_reducible refine keep_drew ?_)); (repeat (with_reducible refine keep_set ?_ (by dsimp only; omega))); (with_reducible assumption)) | (with_reducible exact keep_drew (by with_reducible assumption)) | (with_reducible exact keep_new (by with_reducible assumption)) | (with_reducible exact keep_alloc (by with_reducible assumption) (by dsimp only; omega)) | (with_reducible exact keep_drew (keep_new (by with_reducible assumption))) | ((with_reducible refine keep_set ?_ (by dsimp only; omega)); (repeat (with_reducible refine keep_set ?_ (by dsimp only; omega))); first | (with_reducible assumption) | (with_reducible exact keep_drew (by with_reducible assumption))) | (go_keep; done))) (fail)
  all_goals (try go_split_ands)
  all_goals
    generalize hW : World.setCell _ _ _ = W5
    have rR0' : W5.cell? ⟨R, 0, none⟩ = some (.int .i64 p) := by subst hW; go_simp
    have rR1' : W5.cell? ⟨R, 1, none⟩ = some (.int .i64 q) := by subst hW; go_simp
    have rR2' : W5.cell? ⟨R, 2, none⟩ = some (.int .i64 r) := by subst hW; go_simp
    have rR3' : W5.cell? ⟨R, 3, none⟩ = some (.int .i64 t) := by subst hW; go_simp
    have rR10' : W5.cell? ⟨R1, 0, none⟩ = some (.int .i64 p') := by subst hW; go_simp
    have rR11' : W5.cell? ⟨R1, 1, none⟩ = some (.int .i64 q') := by subst hW; go_simp
    have rR12' : W5.cell? ⟨R1, 2, none⟩ = some (.int .i64 r') := by subst hW; go_simp
    have rR13' : W5.cell? ⟨R1, 3, none⟩ = some (.int .i64 t') := by subst hW; go_simp
    have hB5 : Below R w W5 := by subst hW; exact (by repeat' (first | (with_reducible exact Below.refl _ _) | (with_reducible assumption) | (with_reducible refine below_drewN ?_ _) | (with_reducible refine Below.drew ?_) | (with_reducible refine Below.alloc ?_ ?_ _) | (with_reducible refine Below.setCell ?_ ?_ _) | (with_reducible refine Below.trans ?_ (Below.mono (by with_reducible assumption) ?_)) | go_size | (dsimp only; omega)))
    clear hW
    (try clear hb)
    clear cw2_R_0 cw2_R_1 cw2_R_2 cw2_R_3 cw2_R_f cw2_R1_0 cw2_R1_1 cw2_R1_2 cw2_R1_3 cw2_R1_f cw2_bm_0 cw2_bm_1 cw2_bm_2 cw2_bm_3 cw2_bm_f cw2_bn_0 cw2_bn_1 cw2_bn_2 cw2_bn_3 cw2_bn_f
    go_wp2
    exact bodyPost_ret (v := .tuple #[.agg #[.int .i64 p, .int .i64 q, .int .i64 r, .int .i64 t], .agg #[.int .i64 p', .int .i64 q', .int .i64 r', .int .i64 t']]) (by simp only [results, Tryz.results44]; go_simp) rfl ⟨⟨p, q, r, t, p', q', r', t', rfl⟩, by rw [HRW.out]; exact (by repeat' (first | (with_reducible exact Below.refl _ _) | (with_reducible assumption) | (with_reducible refine below_drewN ?_ _) | (with_reducible refine Below.drew ?_) | (with_reducible refine Below.alloc ?_ ?_ _) | (with_reducible refine Below.setCell ?_ ?_ _) | (with_reducible refine Below.trans ?_ (Below.mono (by with_reducible assumption) ?_)) | go_size | (dsimp only; omega)))⟩
set_option maxRecDepth 100000 in
set_option maxHeartbeats 4000000 in
theorem drawCommutatorOf_c (v : Value) (w : World) (hv : CodeV w v) :
    Calls Tryz.prog 55 #[v] w fun e w' => AnyMM e ∧ Below w.heap.size w w' := by
  go_enter Tryz.func55, Tryz.ntmps55
  obtain ⟨R, hR⟩ : ∃ R, w.heap.size = R := ⟨_, rfl⟩
  have HRW := Lib.hid hR
  go_wp2_with fail
  generalize hw0 : World.alloc (World.alloc _ _) _ = w0
  have cw0_R_0 : w0.cell? ⟨R, 0, none⟩ = some (.int .i64 0) := by subst hw0 hR; first | (go_cell; done) | (go_simp; done)
  have cw0_R_1 : w0.cell? ⟨R, 1, none⟩ = some (.int .i64 0) := by subst hw0 hR; first | (go_cell; done) | (go_simp; done)
  have cw0_R_2 : w0.cell? ⟨R, 2, none⟩ = some (.int .i64 0) := by subst hw0 hR; first | (go_cell; done) | (go_simp; done)
  have cw0_R_3 : w0.cell? ⟨R, 3, none⟩ = some (.int .i64 0) := by subst hw0 hR; first | (go_cell; done) | (go_simp; done)
  have cw0_R_f : ∀ i, w0.frozen? ⟨R, i, none⟩ = false := by intro i; subst hw0 hR; first | (go_cell; done) | (go_simp; done)
  have cw0_R1_0 : w0.cell? ⟨(R + 1), 0, none⟩ = some (.int .i64 0) := by subst hw0 hR; first | (go_cell; done) | (go_simp; done)
  have cw0_R1_1 : w0.cell? ⟨(R + 1), 1, none⟩ = some (.int .i64 0) := by subst hw0 hR; first | (go_cell; done) | (go_simp; done)
  have cw0_R1_2 : w0.cell? ⟨(R + 1), 2, none⟩ = some (.int .i64 0) := by subst hw0 hR; first | (go_cell; done) | (go_simp; done)
  have cw0_R1_3 : w0.cell? ⟨(R + 1), 3, none⟩ = some (.int .i64 0) := by subst hw0 hR; first | (go_cell; done) | (go_simp; done)
  have cw0_R1_f : ∀ i, w0.frozen? ⟨(R + 1), i, none⟩ = false := by intro i; subst hw0 hR; first | (go_cell; done) | (go_simp; done)
  have hB0 : Below R w w0 := by subst hw0; rw [← hR]; exact (by repeat' (first | (with_reducible exact Below.refl _ _) | (with_reducible assumption) | (with_reducible refine below_drewN ?_ _) | (with_reducible refine Below.drew ?_) | (with_reducible refine Below.alloc ?_ ?_ _) | (with_reducible refine Below.setCell ?_ ?_ _) | (with_reducible refine Below.trans ?_ (Below.mono (by with_reducible assumption) ?_)) | go_size | (dsimp only; omega)))
  have hq0 : R + 1 < w0.heap.size := by subst hw0; go_size
  obtain ⟨R1, hR1⟩ : ∃ R1, R + 1 = R1 := ⟨_, rfl⟩
  have hRR1 : R < R1 := by omega
  (try rw [hR1])
  rw [hR1] at cw0_R1_0 cw0_R1_1 cw0_R1_2 cw0_R1_3 cw0_R1_f hq0
  have HR1 := Lib.hid hR1
  clear hw0 hR1
  refine (two_c v w0 (by have h := hv.below (hR ▸ hB0); exact h)).mono ?_
  rintro e w1 ⟨⟨p, q, r, t, p', q', r', t', rfl⟩, b1⟩
  have hq1 := b1.size
  have cw1_R_0 : w1.cell? ⟨R, 0, none⟩ = some (.int .i64 0) := by rw [b1.cell (p := ⟨R, 0, none⟩) (by dsimp only; omega)]; exact cw0_R_0
  have cw1_R_1 : w1.cell? ⟨R, 1, none⟩ = some (.int .i64 0) := by rw [b1.cell (p := ⟨R, 1, none⟩) (by dsimp only; omega)]; exact cw0_R_1
  have cw1_R_2 : w1.cell? ⟨R, 2, none⟩ = some (.int .i64 0) := by rw [b1.cell (p := ⟨R, 2, none⟩) (by dsimp only; omega)]; exact cw0_R_2
  have cw1_R_3 : w1.cell? ⟨R, 3, none⟩ = some (.int .i64 0) := by rw [b1.cell (p := ⟨R, 3, none⟩) (by dsimp only; omega)]; exact cw0_R_3
  have cw1_R_f : ∀ i, w1.frozen? ⟨R, i, none⟩ = false := fun i => by rw [b1.frozen (p := ⟨R, i, none⟩) (by dsimp only; omega)]; exact cw0_R_f i
  have cw1_R1_0 : w1.cell? ⟨R1, 0, none⟩ = some (.int .i64 0) := by rw [b1.cell (p := ⟨R1, 0, none⟩) (by dsimp only; omega)]; exact cw0_R1_0
  have cw1_R1_1 : w1.cell? ⟨R1, 1, none⟩ = some (.int .i64 0) := by rw [b1.cell (p := ⟨R1, 1, none⟩) (by dsimp only; omega)]; exact cw0_R1_1
  have cw1_R1_2 : w1.cell? ⟨R1, 2, none⟩ = some (.int .i64 0) := by rw [b1.cell (p := ⟨R1, 2, none⟩) (by dsimp only; omega)]; exact cw0_R1_2
  have cw1_R1_3 : w1.cell? ⟨R1, 3, none⟩ = some (.int .i64 0) := by rw [b1.cell (p := ⟨R1, 3, none⟩) (by dsimp only; omega)]; exact cw0_R1_3
  have cw1_R1_f : ∀ i, w1.frozen? ⟨R1, i, none⟩ = false := fun i => by rw [b1.frozen (p := ⟨R1, i, none⟩) (by dsimp only; omega)]; exact cw0_R1_f i
  clear cw0_R_0 cw0_R_1 cw0_R_2 cw0_R_3 cw0_R_f cw0_R1_0 cw0_R1_1 cw0_R1_2 cw0_R1_3 cw0_R1_f
  have hB1 : Below R w w1 := hB0.trans (b1.mono (by omega))
  clear hB0 b1 hR
  go_wp2_with fail
  generalize hw2 : World.alloc (World.alloc _ _) _ = w2
  obtain ⟨bm, hbm⟩ : ∃ b, w1.heap.size = b := ⟨_, rfl⟩
  obtain ⟨bn, hbn⟩ : ∃ b, w1.heap.size + 1 = b := ⟨_, rfl⟩
  have bb2 : Below bm w1 w2 := by subst hw2 hbm; exact (by repeat' (first | (with_reducible exact Below.refl _ _) | (with_reducible assumption) | (with_reducible refine below_drewN ?_ _) | (with_reducible refine Below.drew ?_) | (with_reducible refine Below.alloc ?_ ?_ _) | (with_reducible refine Below.setCell ?_ ?_ _) | (with_reducible refine Below.trans ?_ (Below.mono (by with_reducible assumption) ?_)) | go_size | (dsimp only; omega)))
  have hmn : bm + 1 = bn := by omega
  have hRm : R1 < bm := by omega
  have cw2_R_0 : w2.cell? ⟨R, 0, none⟩ = some (.int .i64 0) := by rw [bb2.cell (p := ⟨R, 0, none⟩) (by dsimp only; omega)]; exact cw1_R_0
  have cw2_R_1 : w2.cell? ⟨R, 1, none⟩ = some (.int .i64 0) := by rw [bb2.cell (p := ⟨R, 1, none⟩) (by dsimp only; omega)]; exact cw1_R_1
  have cw2_R_2 : w2.cell? ⟨R, 2, none⟩ = some (.int .i64 0) := by rw [bb2.cell (p := ⟨R, 2, none⟩) (by dsimp only; omega)]; exact cw1_R_2
  have cw2_R_3 : w2.cell? ⟨R, 3, none⟩ = some (.int .i64 0) := by rw [bb2.cell (p := ⟨R, 3, none⟩) (by dsimp only; omega)]; exact cw1_R_3
  have cw2_R_f : ∀ i, w2.frozen? ⟨R, i, none⟩ = false := fun i => by rw [bb2.frozen (p := ⟨R, i, none⟩) (by dsimp only; omega)]; exact cw1_R_f i
  have cw2_R1_0 : w2.cell? ⟨R1, 0, none⟩ = some (.int .i64 0) := by rw [bb2.cell (p := ⟨R1, 0, none⟩) (by dsimp only; omega)]; exact cw1_R1_0
  have cw2_R1_1 : w2.cell? ⟨R1, 1, none⟩ = some (.int .i64 0) := by rw [bb2.cell (p := ⟨R1, 1, none⟩) (by dsimp only; omega)]; exact cw1_R1_1
  have cw2_R1_2 : w2.cell? ⟨R1, 2, none⟩ = some (.int .i64 0) := by rw [bb2.cell (p := ⟨R1, 2, none⟩) (by dsimp only; omega)]; exact cw1_R1_2
  have cw2_R1_3 : w2.cell? ⟨R1, 3, none⟩ = some (.int .i64 0) := by rw [bb2.cell (p := ⟨R1, 3, none⟩) (by dsimp only; omega)]; exact cw1_R1_3
  have cw2_R1_f : ∀ i, w2.frozen? ⟨R1, i, none⟩ = false := fun i => by rw [bb2.frozen (p := ⟨R1, i, none⟩) (by dsimp only; omega)]; exact cw1_R1_f i
  clear cw1_R_0 cw1_R_1 cw1_R_2 cw1_R_3 cw1_R_f cw1_R1_0 cw1_R1_1 cw1_R1_2 cw1_R1_3 cw1_R1_f
  have cw2_bm_0 : w2.cell? ⟨bm, 0, none⟩ = some (.int .i64 p) := by subst hw2 hbm; first | (go_cell; done) | (go_simp; done)
  have cw2_bm_1 : w2.cell? ⟨bm, 1, none⟩ = some (.int .i64 q) := by subst hw2 hbm; first | (go_cell; done) | (go_simp; done)
  have cw2_bm_2 : w2.cell? ⟨bm, 2, none⟩ = some (.int .i64 r) := by subst hw2 hbm; first | (go_cell; done) | (go_simp; done)
  have cw2_bm_3 : w2.cell? ⟨bm, 3, none⟩ = some (.int .i64 t) := by subst hw2 hbm; first | (go_cell; done) | (go_simp; done)
  have cw2_bm_f : ∀ i, w2.frozen? ⟨bm, i, none⟩ = false := by intro i; subst hw2 hbm; first | (go_cell; done) | (go_simp; done)
  have cw2_bn_0 : w2.cell? ⟨bn, 0, none⟩ = some (.int .i64 p') := by subst hw2 hbn; first | (go_cell; done) | (go_simp; done)
  have cw2_bn_1 : w2.cell? ⟨bn, 1, none⟩ = some (.int .i64 q') := by subst hw2 hbn; first | (go_cell; done) | (go_simp; done)
  have cw2_bn_2 : w2.cell? ⟨bn, 2, none⟩ = some (.int .i64 r') := by subst hw2 hbn; first | (go_cell; done) | (go_simp; done)
  have cw2_bn_3 : w2.cell? ⟨bn, 3, none⟩ = some (.int .i64 t') := by subst hw2 hbn; first | (go_cell; done) | (go_simp; done)
  have cw2_bn_f : ∀ i, w2.frozen? ⟨bn, i, none⟩ = false := by intro i; subst hw2 hbn; first | (go_cell; done) | (go_simp; done)
  have hq2 : bn < w2.heap.size := by subst hw2 hbn; go_size
  have hB2 : Below R w w2 := hB1.trans (bb2.mono (by omega))
  (try rw [hbm])
  (try rw [hmn])
  clear hw2 hbm hbn bb2 hB1
  have hlt : bm < bn := by omega
  have hlt2 : bm < w2.heap.size := by omega
  clear hmn
  go_region_held3 (fun w' => w'.cell? ⟨bm, 0, none⟩ = some (.int .i64 p) ∧ w'.cell? ⟨bm, 1, none⟩ = some (.int .i64 q) ∧ w'.cell? ⟨bm, 2, none⟩ = some (.int .i64 r) ∧ w'.cell? ⟨bm, 3, none⟩ = some (.int .i64 t) ∧ w'.cell? ⟨bn, 0, none⟩ = some (.int .i64 p') ∧ w'.cell? ⟨bn, 1, none⟩ = some (.int .i64 q') ∧ w'.cell? ⟨bn, 2, none⟩ = some (.int .i64 r') ∧ w'.cell? ⟨bn, 3, none⟩ = some (.int .i64 t')) (((try go_split_ands); (try (refine ⟨?_, ?_, ?_, ?_, ?_, ?_, ?_, ?_⟩)) <;> first | (with_reducible assumption) | ((try (with_reducible refine keep_drew ?_)); (repeat (with_reducible refine keep_set ?_ (by dsimp only; omega))); (with_reducible assumption)) | (with_reducible exact keep_drew (by with_reducible assumption)) | (with_reducible exact keep_new (by with_reducible assumption)) | (with_reducible exact keep_alloc (by with_reducible assumption) (by dsimp only; omega)) | (with_reducible exact keep_drew (keep_new (by with_reducible assumption))) | ((with_reducible refine keep_set ?_ (by dsimp only; omega)); (repeat (with_reducible refine keep_set ?_ (by dsimp only; omega))); first | (with_reducible assumption) | (with_reducible exact keep_drew (by with_reducible assumption))) | (go_keep; done))) (fail)
  all_goals (try go_split_ands)
  all_goals
    generalize hW : World.setCell _ _ _ = W5
    have rR0' : W5.cell? ⟨R, 0, none⟩ = some (.int .i64 p) := by subst hW; go_simp
    have rR1' : W5.cell? ⟨R, 1, none⟩ = some (.int .i64 q) := by subst hW; go_simp
    have rR2' : W5.cell? ⟨R, 2, none⟩ = some (.int .i64 r) := by subst hW; go_simp
    have rR3' : W5.cell? ⟨R, 3, none⟩ = some (.int .i64 t) := by subst hW; go_simp
    have rR10' : W5.cell? ⟨R1, 0, none⟩ = some (.int .i64 p') := by subst hW; go_simp
    have rR11' : W5.cell? ⟨R1, 1, none⟩ = some (.int .i64 q') := by subst hW; go_simp
    have rR12' : W5.cell? ⟨R1, 2, none⟩ = some (.int .i64 r') := by subst hW; go_simp
    have rR13' : W5.cell? ⟨R1, 3, none⟩ = some (.int .i64 t') := by subst hW; go_simp
    have hB5 : Below R w W5 := by subst hW; exact (by repeat' (first | (with_reducible exact Below.refl _ _) | (with_reducible assumption) | (with_reducible refine below_drewN ?_ _) | (with_reducible refine Below.drew ?_) | (with_reducible refine Below.alloc ?_ ?_ _) | (with_reducible refine Below.setCell ?_ ?_ _) | (with_reducible refine Below.trans ?_ (Below.mono (by with_reducible assumption) ?_)) | go_size | (dsimp only; omega)))
    clear hW
    (try clear hb)
    clear cw2_R_0 cw2_R_1 cw2_R_2 cw2_R_3 cw2_R_f cw2_R1_0 cw2_R1_1 cw2_R1_2 cw2_R1_3 cw2_R1_f cw2_bm_0 cw2_bm_1 cw2_bm_2 cw2_bm_3 cw2_bm_f cw2_bn_0 cw2_bn_1 cw2_bn_2 cw2_bn_3 cw2_bn_f
    go_wp2
    exact bodyPost_ret (v := .tuple #[.agg #[.int .i64 p, .int .i64 q, .int .i64 r, .int .i64 t], .agg #[.int .i64 p', .int .i64 q', .int .i64 r', .int .i64 t']]) (by simp only [results, Tryz.results55]; go_simp) rfl ⟨⟨p, q, r, t, p', q', r', t', rfl⟩, by rw [HRW.out]; exact (by repeat' (first | (with_reducible exact Below.refl _ _) | (with_reducible assumption) | (with_reducible refine below_drewN ?_ _) | (with_reducible refine Below.drew ?_) | (with_reducible refine Below.alloc ?_ ?_ _) | (with_reducible refine Below.setCell ?_ ?_ _) | (with_reducible refine Below.trans ?_ (Below.mono (by with_reducible assumption) ?_)) | go_size | (dsimp only; omega)))⟩
end Go.Proofs.YtlkhhpckgcdeeaaGreatDoor
