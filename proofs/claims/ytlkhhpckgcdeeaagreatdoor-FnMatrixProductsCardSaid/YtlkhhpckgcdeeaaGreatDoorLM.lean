/- FnMatrixProducts: the walk of the law. [genLM.py] -/
import Derived.Test.YtlkhhpckgcdeeaaGreatDoorJE
import Derived.Test.YtlkhhpckgcdeeaaGreatDoorGV
import Derived.Test.YtlkhhpckgcdeeaaGreatDoorGX
import Derived.Test.YtlkhhpckgcdeeaaGreatDoorGI
import Derived.Deep.DeepCutAuto
import Derived.Test.YtlkhhpckgcdeeaaGreatDoorLS
import Derived.Deep.Light
namespace Go.Proofs.YtlkhhpckgcdeeaaGreatDoor
open Go.RowKit
set_option linter.unusedVariables false
set_option linter.unusedSimpArgs false
attribute [local go_sem] run_equalIn_M
set_option maxRecDepth 100000 in
set_option maxHeartbeats 16000000 in
theorem FnMatrixProducts_w (a : Option Addr) (len cap : Nat) (zs0 : List Int) (W : World) (hr : IsRow .u8 W a len cap zs0) (hl : len * 1 ≤ 140737488351232) (VARS : ∃ m t1 t2 p1 p2, Vars W m t1 t2 p1 p2) :
    Calls Tryz.prog 4 #[.slice a len cap] W fun e w' => e = .returned (.bool true) ∧ Below W.heap.size W w' := by
  obtain ⟨vm, vt1, vt2, vp1, vp2, VV⟩ := VARS
  have HV : Hid (∀ w, Below W.heap.size W w → Vars w vm vt1 vt2 vp1 vp2) := Lib.hid (fun w h => VV.later h)
  clear VV
  by_cases hbig : 4096 < len
  · have hb' : decide (4096 < len) = true := decide_eq_true hbig
    clear hr
    go_enter Tryz.func4, Tryz.ntmps4
    go_wp2_with fail
    refine (big_c a len cap W (by omega)).mono ?_
    rintro e w0 ⟨rfl, rfl⟩
    rw [hb']
    go_wp2
    go_returns
    exact ⟨rfl, Below.refl _ _⟩
  have hv := codeV_isRow hr (by omega)
  have hb' : decide (4096 < len) = false := decide_eq_false hbig
  clear hr
  have hB0 : Below W.heap.size W W := Below.refl _ _
  have lWW : W.heap.size ≤ W.heap.size := Nat.le_refl _
  go_enter Tryz.func4, Tryz.ntmps4
  go_wp2_with fail
  refine (big_c a len cap W (by omega)).mono ?_
  rintro e w0 ⟨rfl, rfl⟩
  rw [hb']
  clear hb' hbig hl
  go_wp2_with fail
  refine (drawProductOf_c _ W (hv.below hB0)).mono ?_
  rintro e w1 ⟨⟨m0, m1, m2, m3, n0, n1, n2, n3, rfl⟩, bw1⟩
  have zw1 : W.heap.size ≤ w1.heap.size := bw1.size
  have lWw1 : W.heap.size ≤ w1.heap.size := by omega
  have hBw1 : Below W.heap.size W w1 := hB0.trans (bw1.mono (by omega))
  clear zw1 bw1 lWW hB0
  go_wp2_with fail
  generalize hww2 : World.alloc (World.alloc _ _) _ = w2
  obtain ⟨bm, hbm⟩ : ∃ b, w1.heap.size = b := ⟨_, rfl⟩
  obtain ⟨bn, hbn⟩ : ∃ b, w1.heap.size + 1 = b := ⟨_, rfl⟩
  have bbw2 : Below bm w1 w2 := by subst hww2 hbm; exact (by repeat' (first | (with_reducible exact Below.refl _ _) | (with_reducible assumption) | (with_reducible refine below_drewN ?_ _) | (with_reducible refine Below.drew ?_) | (with_reducible refine Below.alloc ?_ ?_ _) | (with_reducible refine Below.setCell ?_ ?_ _) | (with_reducible refine Below.trans ?_ (Below.mono (by with_reducible assumption) ?_)) | go_size | (dsimp only; omega)))
  have cw2_bm_0 : w2.cell? ⟨bm, 0, none⟩ = some (.int .i64 m0) := by subst hww2 hbm; first | (go_cell; done) | (go_simp; done)
  have cw2_bm_1 : w2.cell? ⟨bm, 1, none⟩ = some (.int .i64 m1) := by subst hww2 hbm; first | (go_cell; done) | (go_simp; done)
  have cw2_bm_2 : w2.cell? ⟨bm, 2, none⟩ = some (.int .i64 m2) := by subst hww2 hbm; first | (go_cell; done) | (go_simp; done)
  have cw2_bm_3 : w2.cell? ⟨bm, 3, none⟩ = some (.int .i64 m3) := by subst hww2 hbm; first | (go_cell; done) | (go_simp; done)
  have cw2_bm_l : bm < w2.heap.size := by subst hww2 hbm; go_size
  have cw2_bn_0 : w2.cell? ⟨bn, 0, none⟩ = some (.int .i64 n0) := by subst hww2 hbn; first | (go_cell; done) | (go_simp; done)
  have cw2_bn_1 : w2.cell? ⟨bn, 1, none⟩ = some (.int .i64 n1) := by subst hww2 hbn; first | (go_cell; done) | (go_simp; done)
  have cw2_bn_2 : w2.cell? ⟨bn, 2, none⟩ = some (.int .i64 n2) := by subst hww2 hbn; first | (go_cell; done) | (go_simp; done)
  have cw2_bn_3 : w2.cell? ⟨bn, 3, none⟩ = some (.int .i64 n3) := by subst hww2 hbn; first | (go_cell; done) | (go_simp; done)
  have cw2_bn_l : bn < w2.heap.size := by subst hww2 hbn; go_size
  have yw2 := bbw2.size
  (try rw [hbm])
  have hbn2 : bm + 1 = bn := by omega
  (try rw [hbn2])
  clear hbn2
  clear hww2
  have zw2 : w1.heap.size ≤ w2.heap.size := yw2
  have lWw2 : W.heap.size ≤ w2.heap.size := by omega
  have hBw2 : Below W.heap.size W w2 := hBw1.trans (bbw2.mono (by omega))
  clear zw2 bbw2 lWw1 hBw1
  clear yw2 hbm hbn
  obtain ⟨x0, x1, x2, x3, x4, K1, K2, hx⟩ := prod_all m0 m1 m2 m3 n0 n1 n2 n3
  have HX := Lib.hid hx
  clear hx
  refine (K1.out.get _).mono ?_
  rintro e w3 ⟨rfl, bw3⟩
  have zw3 : w2.heap.size ≤ w3.heap.size := bw3.size
  have cw3_bm_0 : w3.cell? ⟨bm, 0, none⟩ = some (.int .i64 m0) := by rw [bw3.cell (p := ⟨bm, 0, none⟩) (by dsimp only; omega)]; exact cw2_bm_0
  have cw3_bm_1 : w3.cell? ⟨bm, 1, none⟩ = some (.int .i64 m1) := by rw [bw3.cell (p := ⟨bm, 1, none⟩) (by dsimp only; omega)]; exact cw2_bm_1
  have cw3_bm_2 : w3.cell? ⟨bm, 2, none⟩ = some (.int .i64 m2) := by rw [bw3.cell (p := ⟨bm, 2, none⟩) (by dsimp only; omega)]; exact cw2_bm_2
  have cw3_bm_3 : w3.cell? ⟨bm, 3, none⟩ = some (.int .i64 m3) := by rw [bw3.cell (p := ⟨bm, 3, none⟩) (by dsimp only; omega)]; exact cw2_bm_3
  have cw3_bm_l : bm < w3.heap.size := by omega
  have cw3_bn_0 : w3.cell? ⟨bn, 0, none⟩ = some (.int .i64 n0) := by rw [bw3.cell (p := ⟨bn, 0, none⟩) (by dsimp only; omega)]; exact cw2_bn_0
  have cw3_bn_1 : w3.cell? ⟨bn, 1, none⟩ = some (.int .i64 n1) := by rw [bw3.cell (p := ⟨bn, 1, none⟩) (by dsimp only; omega)]; exact cw2_bn_1
  have cw3_bn_2 : w3.cell? ⟨bn, 2, none⟩ = some (.int .i64 n2) := by rw [bw3.cell (p := ⟨bn, 2, none⟩) (by dsimp only; omega)]; exact cw2_bn_2
  have cw3_bn_3 : w3.cell? ⟨bn, 3, none⟩ = some (.int .i64 n3) := by rw [bw3.cell (p := ⟨bn, 3, none⟩) (by dsimp only; omega)]; exact cw2_bn_3
  have cw3_bn_l : bn < w3.heap.size := by omega
  have lWw3 : W.heap.size ≤ w3.heap.size := by omega
  have hBw3 : Below W.heap.size W w3 := hBw2.trans (bw3.mono (by omega))
  clear zw3 bw3 cw2_bm_0 cw2_bm_1 cw2_bm_2 cw2_bm_3 cw2_bm_l cw2_bn_0 cw2_bn_1 cw2_bn_2 cw2_bn_3 cw2_bn_l lWw2 hBw2
  go_wp2_with fail
  generalize hww4 : World.alloc _ _ = w4
  obtain ⟨bx, hbx⟩ : ∃ b, w3.heap.size = b := ⟨_, rfl⟩
  have bbw4 : Below bx w3 w4 := by subst hww4 hbx; exact (by repeat' (first | (with_reducible exact Below.refl _ _) | (with_reducible assumption) | (with_reducible refine below_drewN ?_ _) | (with_reducible refine Below.drew ?_) | (with_reducible refine Below.alloc ?_ ?_ _) | (with_reducible refine Below.setCell ?_ ?_ _) | (with_reducible refine Below.trans ?_ (Below.mono (by with_reducible assumption) ?_)) | go_size | (dsimp only; omega)))
  have cw4_bx_0 : w4.cell? ⟨bx, 0, none⟩ = some (.int .i64 x0) := by subst hww4 hbx; first | (go_cell; done) | (go_simp; done)
  have cw4_bx_1 : w4.cell? ⟨bx, 1, none⟩ = some (.int .i64 x1) := by subst hww4 hbx; first | (go_cell; done) | (go_simp; done)
  have cw4_bx_2 : w4.cell? ⟨bx, 2, none⟩ = some (.int .i64 x2) := by subst hww4 hbx; first | (go_cell; done) | (go_simp; done)
  have cw4_bx_3 : w4.cell? ⟨bx, 3, none⟩ = some (.int .i64 x3) := by subst hww4 hbx; first | (go_cell; done) | (go_simp; done)
  have cw4_bx_l : bx < w4.heap.size := by subst hww4 hbx; go_size
  have yw4 := bbw4.size
  (try rw [hbx])
  clear hww4
  have zw4 : w3.heap.size ≤ w4.heap.size := yw4
  have cw4_bm_0 : w4.cell? ⟨bm, 0, none⟩ = some (.int .i64 m0) := by rw [bbw4.cell (p := ⟨bm, 0, none⟩) (by dsimp only; omega)]; exact cw3_bm_0
  have cw4_bm_1 : w4.cell? ⟨bm, 1, none⟩ = some (.int .i64 m1) := by rw [bbw4.cell (p := ⟨bm, 1, none⟩) (by dsimp only; omega)]; exact cw3_bm_1
  have cw4_bm_2 : w4.cell? ⟨bm, 2, none⟩ = some (.int .i64 m2) := by rw [bbw4.cell (p := ⟨bm, 2, none⟩) (by dsimp only; omega)]; exact cw3_bm_2
  have cw4_bm_3 : w4.cell? ⟨bm, 3, none⟩ = some (.int .i64 m3) := by rw [bbw4.cell (p := ⟨bm, 3, none⟩) (by dsimp only; omega)]; exact cw3_bm_3
  have cw4_bm_l : bm < w4.heap.size := by omega
  have cw4_bn_0 : w4.cell? ⟨bn, 0, none⟩ = some (.int .i64 n0) := by rw [bbw4.cell (p := ⟨bn, 0, none⟩) (by dsimp only; omega)]; exact cw3_bn_0
  have cw4_bn_1 : w4.cell? ⟨bn, 1, none⟩ = some (.int .i64 n1) := by rw [bbw4.cell (p := ⟨bn, 1, none⟩) (by dsimp only; omega)]; exact cw3_bn_1
  have cw4_bn_2 : w4.cell? ⟨bn, 2, none⟩ = some (.int .i64 n2) := by rw [bbw4.cell (p := ⟨bn, 2, none⟩) (by dsimp only; omega)]; exact cw3_bn_2
  have cw4_bn_3 : w4.cell? ⟨bn, 3, none⟩ = some (.int .i64 n3) := by rw [bbw4.cell (p := ⟨bn, 3, none⟩) (by dsimp only; omega)]; exact cw3_bn_3
  have cw4_bn_l : bn < w4.heap.size := by omega
  have lWw4 : W.heap.size ≤ w4.heap.size := by omega
  have hBw4 : Below W.heap.size W w4 := hBw3.trans (bbw4.mono (by omega))
  clear zw4 bbw4 cw3_bm_0 cw3_bm_1 cw3_bm_2 cw3_bm_3 cw3_bm_l cw3_bn_0 cw3_bn_1 cw3_bn_2 cw3_bn_3 cw3_bn_l lWw3 hBw3
  clear yw4 hbx
  refine (K2.out.get _).mono ?_
  rintro e w5 ⟨rfl, bw5⟩
  have zw5 : w4.heap.size ≤ w5.heap.size := bw5.size
  have cw5_bm_0 : w5.cell? ⟨bm, 0, none⟩ = some (.int .i64 m0) := by rw [bw5.cell (p := ⟨bm, 0, none⟩) (by dsimp only; omega)]; exact cw4_bm_0
  have cw5_bm_1 : w5.cell? ⟨bm, 1, none⟩ = some (.int .i64 m1) := by rw [bw5.cell (p := ⟨bm, 1, none⟩) (by dsimp only; omega)]; exact cw4_bm_1
  have cw5_bm_2 : w5.cell? ⟨bm, 2, none⟩ = some (.int .i64 m2) := by rw [bw5.cell (p := ⟨bm, 2, none⟩) (by dsimp only; omega)]; exact cw4_bm_2
  have cw5_bm_3 : w5.cell? ⟨bm, 3, none⟩ = some (.int .i64 m3) := by rw [bw5.cell (p := ⟨bm, 3, none⟩) (by dsimp only; omega)]; exact cw4_bm_3
  have cw5_bm_l : bm < w5.heap.size := by omega
  have cw5_bn_0 : w5.cell? ⟨bn, 0, none⟩ = some (.int .i64 n0) := by rw [bw5.cell (p := ⟨bn, 0, none⟩) (by dsimp only; omega)]; exact cw4_bn_0
  have cw5_bn_1 : w5.cell? ⟨bn, 1, none⟩ = some (.int .i64 n1) := by rw [bw5.cell (p := ⟨bn, 1, none⟩) (by dsimp only; omega)]; exact cw4_bn_1
  have cw5_bn_2 : w5.cell? ⟨bn, 2, none⟩ = some (.int .i64 n2) := by rw [bw5.cell (p := ⟨bn, 2, none⟩) (by dsimp only; omega)]; exact cw4_bn_2
  have cw5_bn_3 : w5.cell? ⟨bn, 3, none⟩ = some (.int .i64 n3) := by rw [bw5.cell (p := ⟨bn, 3, none⟩) (by dsimp only; omega)]; exact cw4_bn_3
  have cw5_bn_l : bn < w5.heap.size := by omega
  have cw5_bx_0 : w5.cell? ⟨bx, 0, none⟩ = some (.int .i64 x0) := by rw [bw5.cell (p := ⟨bx, 0, none⟩) (by dsimp only; omega)]; exact cw4_bx_0
  have cw5_bx_1 : w5.cell? ⟨bx, 1, none⟩ = some (.int .i64 x1) := by rw [bw5.cell (p := ⟨bx, 1, none⟩) (by dsimp only; omega)]; exact cw4_bx_1
  have cw5_bx_2 : w5.cell? ⟨bx, 2, none⟩ = some (.int .i64 x2) := by rw [bw5.cell (p := ⟨bx, 2, none⟩) (by dsimp only; omega)]; exact cw4_bx_2
  have cw5_bx_3 : w5.cell? ⟨bx, 3, none⟩ = some (.int .i64 x3) := by rw [bw5.cell (p := ⟨bx, 3, none⟩) (by dsimp only; omega)]; exact cw4_bx_3
  have cw5_bx_l : bx < w5.heap.size := by omega
  have lWw5 : W.heap.size ≤ w5.heap.size := by omega
  have hBw5 : Below W.heap.size W w5 := hBw4.trans (bw5.mono (by omega))
  clear zw5 bw5 cw4_bm_0 cw4_bm_1 cw4_bm_2 cw4_bm_3 cw4_bm_l cw4_bn_0 cw4_bn_1 cw4_bn_2 cw4_bn_3 cw4_bn_l cw4_bx_0 cw4_bx_1 cw4_bx_2 cw4_bx_3 cw4_bx_l lWw4 hBw4
  go_upto_region 6 with fail
  generalize hww6 : World.alloc _ _ = w6
  obtain ⟨by1, hby1⟩ : ∃ b, w5.heap.size = b := ⟨_, rfl⟩
  have bbw6 : Below by1 w5 w6 := by subst hww6 hby1; exact (by repeat' (first | (with_reducible exact Below.refl _ _) | (with_reducible assumption) | (with_reducible refine below_drewN ?_ _) | (with_reducible refine Below.drew ?_) | (with_reducible refine Below.alloc ?_ ?_ _) | (with_reducible refine Below.setCell ?_ ?_ _) | (with_reducible refine Below.trans ?_ (Below.mono (by with_reducible assumption) ?_)) | go_size | (dsimp only; omega)))
  have cw6_by1_0 : w6.cell? ⟨by1, 0, none⟩ = some (.int .i64 x0) := by subst hww6 hby1; first | (go_cell; done) | (go_simp; done)
  have cw6_by1_1 : w6.cell? ⟨by1, 1, none⟩ = some (.int .i64 x1) := by subst hww6 hby1; first | (go_cell; done) | (go_simp; done)
  have cw6_by1_2 : w6.cell? ⟨by1, 2, none⟩ = some (.int .i64 x2) := by subst hww6 hby1; first | (go_cell; done) | (go_simp; done)
  have cw6_by1_3 : w6.cell? ⟨by1, 3, none⟩ = some (.int .i64 x3) := by subst hww6 hby1; first | (go_cell; done) | (go_simp; done)
  have cw6_by1_l : by1 < w6.heap.size := by subst hww6 hby1; go_size
  have yw6 := bbw6.size
  (try rw [hby1])
  clear hww6
  have zw6 : w5.heap.size ≤ w6.heap.size := yw6
  have cw6_bm_0 : w6.cell? ⟨bm, 0, none⟩ = some (.int .i64 m0) := by rw [bbw6.cell (p := ⟨bm, 0, none⟩) (by dsimp only; omega)]; exact cw5_bm_0
  have cw6_bm_1 : w6.cell? ⟨bm, 1, none⟩ = some (.int .i64 m1) := by rw [bbw6.cell (p := ⟨bm, 1, none⟩) (by dsimp only; omega)]; exact cw5_bm_1
  have cw6_bm_2 : w6.cell? ⟨bm, 2, none⟩ = some (.int .i64 m2) := by rw [bbw6.cell (p := ⟨bm, 2, none⟩) (by dsimp only; omega)]; exact cw5_bm_2
  have cw6_bm_3 : w6.cell? ⟨bm, 3, none⟩ = some (.int .i64 m3) := by rw [bbw6.cell (p := ⟨bm, 3, none⟩) (by dsimp only; omega)]; exact cw5_bm_3
  have cw6_bm_l : bm < w6.heap.size := by omega
  have cw6_bn_0 : w6.cell? ⟨bn, 0, none⟩ = some (.int .i64 n0) := by rw [bbw6.cell (p := ⟨bn, 0, none⟩) (by dsimp only; omega)]; exact cw5_bn_0
  have cw6_bn_1 : w6.cell? ⟨bn, 1, none⟩ = some (.int .i64 n1) := by rw [bbw6.cell (p := ⟨bn, 1, none⟩) (by dsimp only; omega)]; exact cw5_bn_1
  have cw6_bn_2 : w6.cell? ⟨bn, 2, none⟩ = some (.int .i64 n2) := by rw [bbw6.cell (p := ⟨bn, 2, none⟩) (by dsimp only; omega)]; exact cw5_bn_2
  have cw6_bn_3 : w6.cell? ⟨bn, 3, none⟩ = some (.int .i64 n3) := by rw [bbw6.cell (p := ⟨bn, 3, none⟩) (by dsimp only; omega)]; exact cw5_bn_3
  have cw6_bn_l : bn < w6.heap.size := by omega
  have cw6_bx_0 : w6.cell? ⟨bx, 0, none⟩ = some (.int .i64 x0) := by rw [bbw6.cell (p := ⟨bx, 0, none⟩) (by dsimp only; omega)]; exact cw5_bx_0
  have cw6_bx_1 : w6.cell? ⟨bx, 1, none⟩ = some (.int .i64 x1) := by rw [bbw6.cell (p := ⟨bx, 1, none⟩) (by dsimp only; omega)]; exact cw5_bx_1
  have cw6_bx_2 : w6.cell? ⟨bx, 2, none⟩ = some (.int .i64 x2) := by rw [bbw6.cell (p := ⟨bx, 2, none⟩) (by dsimp only; omega)]; exact cw5_bx_2
  have cw6_bx_3 : w6.cell? ⟨bx, 3, none⟩ = some (.int .i64 x3) := by rw [bbw6.cell (p := ⟨bx, 3, none⟩) (by dsimp only; omega)]; exact cw5_bx_3
  have cw6_bx_l : bx < w6.heap.size := by omega
  have lWw6 : W.heap.size ≤ w6.heap.size := by omega
  have hBw6 : Below W.heap.size W w6 := hBw5.trans (bbw6.mono (by omega))
  clear zw6 bbw6 cw5_bm_0 cw5_bm_1 cw5_bm_2 cw5_bm_3 cw5_bm_l cw5_bn_0 cw5_bn_1 cw5_bn_2 cw5_bn_3 cw5_bn_l cw5_bx_0 cw5_bx_1 cw5_bx_2 cw5_bx_3 cw5_bx_l lWw5 hBw5
  clear yw6 hby1
  obtain ⟨bi, hbi⟩ : ∃ b, isM m0 m1 m2 m3 = b := ⟨_, rfl⟩
  have HBI := Lib.hid hbi
  clear hbi
  refine region_FnMatrixProducts w6 bm bx by1 m0 m1 m2 m3 x0 x1 x2 x3 x4 bi HBI cw6_bm_l cw6_bx_l cw6_by1_l cw6_bm_0 cw6_bm_1 cw6_bm_2 cw6_bm_3 cw6_bx_0 cw6_bx_1 cw6_bx_2 cw6_bx_3 cw6_by1_0 cw6_by1_1 cw6_by1_2 cw6_by1_3 _ _ _ _ _ _ _ _ _ _ _ _ _ _ _ _ _ _ _ _ _ _ _ _ _ _ _ _ _ _ _ _ _ _ _ _ _ _ _ _ _ _ _ _ _ _ _ _ _ _ _ _ _ _ _ _ _ _ _ _ _ _ _ _ _ _ _ _ _ _ _ _ _ _ _ _ _ _ _ _ _ _ _ _ _ _ _ _ _ _ _ _ _ _ _ _ _ _ _ _ _ _ _ _ _ _ _ _ _ _ _ _ _ _ _ _ _ _ _ _ _ _ _ _ _ _ _ _ _ _ _ _ _ _ _ _ _ _ _ _ _ _ _ _ _ _ _ _ _ _ _ _ _ _ _ _ _ _ _ _ _ _ _ _ _ _ _ _ _ _ _ _ _ _ _ _ _ _ _ _ _ _ _ _ _ _ _ _ _ _ _ _ _ _ _ _ _ _ _ _ _ _ _ _ _ _ _ _ _ _ _ _ _ _ _ _ _ _ _ _ _ _ _ _ _ _ _ _ _ _ _ _ _ _ _ _ _ _ _ _ _ _ _ _ _ _ _ _ _ _ _ _ _ _ _ _ _ _ _ _ _ _ _ _ _ _ _ _ _ _ _ _ _ _ _ _ _ _ _ _ _ _ _ _ _ _ _ _ _ _ _ _ _ _ _ _ _ _ _ _ _ _ _ _ _ _ _ _ _ _ _ _ _ _ _ _ _ _ _ _ _ _ _ _ _ _ _ _ _ _ _ _ _ _ _ _ _ _ _ _ _ _ _ _ _ _ _ _ _ _ _ _ _ _ _ _ _ _ _ _ _ _ _ _ _ _ _ _ _ _ _ _ _ _ _ _ _ _ _ _ _ _ _ _ _ _ _ _ _ _ _ _ _ _ _ _ _ _ _ _ _ _ _ _ _ _ _ _ _ _ ?_
  intro v87 v88 v89 v90 v91 v92 v93 v94 v95 v96 v97 v98 v99 v100 w7 bcut
  have zw7 : w6.heap.size ≤ w7.heap.size := bcut.size
  have cw7_bm_0 : w7.cell? ⟨bm, 0, none⟩ = some (.int .i64 m0) := by rw [bcut.cell (p := ⟨bm, 0, none⟩) (by dsimp only; omega)]; exact cw6_bm_0
  have cw7_bm_1 : w7.cell? ⟨bm, 1, none⟩ = some (.int .i64 m1) := by rw [bcut.cell (p := ⟨bm, 1, none⟩) (by dsimp only; omega)]; exact cw6_bm_1
  have cw7_bm_2 : w7.cell? ⟨bm, 2, none⟩ = some (.int .i64 m2) := by rw [bcut.cell (p := ⟨bm, 2, none⟩) (by dsimp only; omega)]; exact cw6_bm_2
  have cw7_bm_3 : w7.cell? ⟨bm, 3, none⟩ = some (.int .i64 m3) := by rw [bcut.cell (p := ⟨bm, 3, none⟩) (by dsimp only; omega)]; exact cw6_bm_3
  have cw7_bm_l : bm < w7.heap.size := by omega
  have cw7_bn_0 : w7.cell? ⟨bn, 0, none⟩ = some (.int .i64 n0) := by rw [bcut.cell (p := ⟨bn, 0, none⟩) (by dsimp only; omega)]; exact cw6_bn_0
  have cw7_bn_1 : w7.cell? ⟨bn, 1, none⟩ = some (.int .i64 n1) := by rw [bcut.cell (p := ⟨bn, 1, none⟩) (by dsimp only; omega)]; exact cw6_bn_1
  have cw7_bn_2 : w7.cell? ⟨bn, 2, none⟩ = some (.int .i64 n2) := by rw [bcut.cell (p := ⟨bn, 2, none⟩) (by dsimp only; omega)]; exact cw6_bn_2
  have cw7_bn_3 : w7.cell? ⟨bn, 3, none⟩ = some (.int .i64 n3) := by rw [bcut.cell (p := ⟨bn, 3, none⟩) (by dsimp only; omega)]; exact cw6_bn_3
  have cw7_bn_l : bn < w7.heap.size := by omega
  have cw7_bx_0 : w7.cell? ⟨bx, 0, none⟩ = some (.int .i64 x0) := by rw [bcut.cell (p := ⟨bx, 0, none⟩) (by dsimp only; omega)]; exact cw6_bx_0
  have cw7_bx_1 : w7.cell? ⟨bx, 1, none⟩ = some (.int .i64 x1) := by rw [bcut.cell (p := ⟨bx, 1, none⟩) (by dsimp only; omega)]; exact cw6_bx_1
  have cw7_bx_2 : w7.cell? ⟨bx, 2, none⟩ = some (.int .i64 x2) := by rw [bcut.cell (p := ⟨bx, 2, none⟩) (by dsimp only; omega)]; exact cw6_bx_2
  have cw7_bx_3 : w7.cell? ⟨bx, 3, none⟩ = some (.int .i64 x3) := by rw [bcut.cell (p := ⟨bx, 3, none⟩) (by dsimp only; omega)]; exact cw6_bx_3
  have cw7_bx_l : bx < w7.heap.size := by omega
  have cw7_by1_0 : w7.cell? ⟨by1, 0, none⟩ = some (.int .i64 x0) := by rw [bcut.cell (p := ⟨by1, 0, none⟩) (by dsimp only; omega)]; exact cw6_by1_0
  have cw7_by1_1 : w7.cell? ⟨by1, 1, none⟩ = some (.int .i64 x1) := by rw [bcut.cell (p := ⟨by1, 1, none⟩) (by dsimp only; omega)]; exact cw6_by1_1
  have cw7_by1_2 : w7.cell? ⟨by1, 2, none⟩ = some (.int .i64 x2) := by rw [bcut.cell (p := ⟨by1, 2, none⟩) (by dsimp only; omega)]; exact cw6_by1_2
  have cw7_by1_3 : w7.cell? ⟨by1, 3, none⟩ = some (.int .i64 x3) := by rw [bcut.cell (p := ⟨by1, 3, none⟩) (by dsimp only; omega)]; exact cw6_by1_3
  have cw7_by1_l : by1 < w7.heap.size := by omega
  have lWw7 : W.heap.size ≤ w7.heap.size := by omega
  have hBw7 : Below W.heap.size W w7 := hBw6.trans (bcut.mono (by omega))
  clear zw7 bcut cw6_bm_0 cw6_bm_1 cw6_bm_2 cw6_bm_3 cw6_bm_l cw6_bn_0 cw6_bn_1 cw6_bn_2 cw6_bn_3 cw6_bn_l cw6_bx_0 cw6_bx_1 cw6_bx_2 cw6_bx_3 cw6_bx_l cw6_by1_0 cw6_by1_1 cw6_by1_2 cw6_by1_3 cw6_by1_l lWw6 hBw6
  clear cw7_by1_0 cw7_by1_1 cw7_by1_2 cw7_by1_3 cw7_by1_l
  go_upto_if 103 with fail
  refine sec1_c W w7 hBw7 lWw7 vm vt1 vt2 vp1 vp2 HV bm bn bx m0 m1 m2 m3 n0 n1 n2 n3 x0 x1 x2 x3 x4 HX cw7_bm_0 cw7_bm_1 cw7_bm_2 cw7_bm_3 cw7_bn_0 cw7_bn_1 cw7_bn_2 cw7_bn_3 cw7_bx_0 cw7_bx_1 cw7_bx_2 cw7_bx_3 cw7_bm_l cw7_bn_l cw7_bx_l _ _ _ _ _ _ _ _ _ _ _ _ _ _ _ _ _ _ _ _ _ _ _ _ _ _ _ _ _ _ _ _ _ _ _ _ _ _ _ _ _ _ _ _ _ _ _ _ _ _ _ _ _ _ _ _ _ _ _ _ _ _ _ _ _ _ _ _ _ _ _ _ _ _ _ _ _ _ _ _ _ _ _ _ _ _ _ _ _ _ _ _ _ _ _ _ _ _ _ _ _ _ _ _ _ _ _ _ _ _ _ _ _ _ _ _ _ _ _ _ _ _ _ _ _ _ _ _ _ _ _ _ _ _ _ _ _ _ _ _ _ _ _ _ _ _ _ _ _ _ _ _ _ _ _ _ _ _ _ _ _ _ _ _ _ _ _ _ _ _ _ _ _ _ _ _ _ _ _ _ _ _ _ _ _ _ _ _ _ _ _ _ _ _ _ _ _ _ _ _ _ _ _ _ _ _ _ _ _ _ _ _ _ _ _ _ _ _ _ _ _ _ _ _ _ _ _ _ _ _ _ _ _ _ _ _ _ _ _ _ _ _ _ _ _ _ _ _ _ _ _ _ _ _ _ _ _ _ _ _ _ _ _ _ _ _ _ _ _ _ _ _ _ _ _ _ _ _ _ _ _ _ _ _ _ _ _ _ _ _ _ _ _ _ _ _ _ _ _ _ _ _ _ _ _ _ _ _ _ _ _ _ _ _ _ _ _ _ _ _ _ _ _ _ _ _ _ _ _ _ _ _ _ _ _ _ _ _ _ _ _ _ _ _ _ _ _ _ _ _ _ _ _ _ _ _ _ _ _ _ _ _ _ _ _ _ _ _ _ _ _ _ _ _ _ _ _ _ _ _ _ _ _ _ _ _ _ _ _ _ _ _ _ _ _ _ _ _ _ _ _ _ _ _ _ _ _ _ _ _ ?_
  intro v9 v10 v11 v12 v13 v14 v15 v16 v104 v105 v106 v107 v108 v109 v110 v111 v112 v113 v114 v115 v116 v117 v118 v119 v120 v121 v122 v123 v124 v125 v126 v127 v128 v129 v130 v131 v132 v133 v134 v135 v136 v137 v138 v139 v140 v141 v142 v143 v144 v145 v146 v147 v148 w8 hBw8
  clear cw7_bm_0 cw7_bm_1 cw7_bm_2 cw7_bm_3 cw7_bm_l cw7_bn_0 cw7_bn_1 cw7_bn_2 cw7_bn_3 cw7_bn_l cw7_bx_0 cw7_bx_1 cw7_bx_2 cw7_bx_3 cw7_bx_l lWw7 hBw7
  have lWw8 : W.heap.size ≤ w8.heap.size := hBw8.size
  clear HX HBI K1 K2
  go_wp2_with fail
  refine (drawConjugateBy_c _ w8 (hv.below hBw8)).mono ?_
  rintro e w9 ⟨⟨a0, a1, a2, a3, b0, b1, b2, b3, rfl⟩, bw9⟩
  have zw9 : w8.heap.size ≤ w9.heap.size := bw9.size
  have lWw9 : W.heap.size ≤ w9.heap.size := by omega
  have hBw9 : Below W.heap.size W w9 := hBw8.trans (bw9.mono (by omega))
  clear zw9 bw9 lWw8 hBw8
  go_wp2_with fail
  generalize hww10 : World.alloc (World.alloc _ _) _ = w10
  obtain ⟨ba, hba⟩ : ∃ b, w9.heap.size = b := ⟨_, rfl⟩
  obtain ⟨bb, hbb⟩ : ∃ b, w9.heap.size + 1 = b := ⟨_, rfl⟩
  have bbw10 : Below ba w9 w10 := by subst hww10 hba; exact (by repeat' (first | (with_reducible exact Below.refl _ _) | (with_reducible assumption) | (with_reducible refine below_drewN ?_ _) | (with_reducible refine Below.drew ?_) | (with_reducible refine Below.alloc ?_ ?_ _) | (with_reducible refine Below.setCell ?_ ?_ _) | (with_reducible refine Below.trans ?_ (Below.mono (by with_reducible assumption) ?_)) | go_size | (dsimp only; omega)))
  have cw10_ba_0 : w10.cell? ⟨ba, 0, none⟩ = some (.int .i64 a0) := by subst hww10 hba; first | (go_cell; done) | (go_simp; done)
  have cw10_ba_1 : w10.cell? ⟨ba, 1, none⟩ = some (.int .i64 a1) := by subst hww10 hba; first | (go_cell; done) | (go_simp; done)
  have cw10_ba_2 : w10.cell? ⟨ba, 2, none⟩ = some (.int .i64 a2) := by subst hww10 hba; first | (go_cell; done) | (go_simp; done)
  have cw10_ba_3 : w10.cell? ⟨ba, 3, none⟩ = some (.int .i64 a3) := by subst hww10 hba; first | (go_cell; done) | (go_simp; done)
  have cw10_ba_l : ba < w10.heap.size := by subst hww10 hba; go_size
  have cw10_bb_0 : w10.cell? ⟨bb, 0, none⟩ = some (.int .i64 b0) := by subst hww10 hbb; first | (go_cell; done) | (go_simp; done)
  have cw10_bb_1 : w10.cell? ⟨bb, 1, none⟩ = some (.int .i64 b1) := by subst hww10 hbb; first | (go_cell; done) | (go_simp; done)
  have cw10_bb_2 : w10.cell? ⟨bb, 2, none⟩ = some (.int .i64 b2) := by subst hww10 hbb; first | (go_cell; done) | (go_simp; done)
  have cw10_bb_3 : w10.cell? ⟨bb, 3, none⟩ = some (.int .i64 b3) := by subst hww10 hbb; first | (go_cell; done) | (go_simp; done)
  have cw10_bb_l : bb < w10.heap.size := by subst hww10 hbb; go_size
  have yw10 := bbw10.size
  (try rw [hba])
  have hbb2 : ba + 1 = bb := by omega
  (try rw [hbb2])
  clear hbb2
  clear hww10
  have zw10 : w9.heap.size ≤ w10.heap.size := yw10
  have lWw10 : W.heap.size ≤ w10.heap.size := by omega
  have hBw10 : Below W.heap.size W w10 := hBw9.trans (bbw10.mono (by omega))
  clear zw10 bbw10 lWw9 hBw9
  clear yw10 hba hbb
  obtain ⟨x0, x1, x2, x3, x4, K1, K2, hx⟩ := conj_all a0 a1 a2 a3 b0 b1 b2 b3
  have HX := Lib.hid hx
  clear hx
  refine (K1.out.get _).mono ?_
  rintro e w11 ⟨rfl, bw11⟩
  have zw11 : w10.heap.size ≤ w11.heap.size := bw11.size
  have cw11_ba_0 : w11.cell? ⟨ba, 0, none⟩ = some (.int .i64 a0) := by rw [bw11.cell (p := ⟨ba, 0, none⟩) (by dsimp only; omega)]; exact cw10_ba_0
  have cw11_ba_1 : w11.cell? ⟨ba, 1, none⟩ = some (.int .i64 a1) := by rw [bw11.cell (p := ⟨ba, 1, none⟩) (by dsimp only; omega)]; exact cw10_ba_1
  have cw11_ba_2 : w11.cell? ⟨ba, 2, none⟩ = some (.int .i64 a2) := by rw [bw11.cell (p := ⟨ba, 2, none⟩) (by dsimp only; omega)]; exact cw10_ba_2
  have cw11_ba_3 : w11.cell? ⟨ba, 3, none⟩ = some (.int .i64 a3) := by rw [bw11.cell (p := ⟨ba, 3, none⟩) (by dsimp only; omega)]; exact cw10_ba_3
  have cw11_ba_l : ba < w11.heap.size := by omega
  have cw11_bb_0 : w11.cell? ⟨bb, 0, none⟩ = some (.int .i64 b0) := by rw [bw11.cell (p := ⟨bb, 0, none⟩) (by dsimp only; omega)]; exact cw10_bb_0
  have cw11_bb_1 : w11.cell? ⟨bb, 1, none⟩ = some (.int .i64 b1) := by rw [bw11.cell (p := ⟨bb, 1, none⟩) (by dsimp only; omega)]; exact cw10_bb_1
  have cw11_bb_2 : w11.cell? ⟨bb, 2, none⟩ = some (.int .i64 b2) := by rw [bw11.cell (p := ⟨bb, 2, none⟩) (by dsimp only; omega)]; exact cw10_bb_2
  have cw11_bb_3 : w11.cell? ⟨bb, 3, none⟩ = some (.int .i64 b3) := by rw [bw11.cell (p := ⟨bb, 3, none⟩) (by dsimp only; omega)]; exact cw10_bb_3
  have cw11_bb_l : bb < w11.heap.size := by omega
  have lWw11 : W.heap.size ≤ w11.heap.size := by omega
  have hBw11 : Below W.heap.size W w11 := hBw10.trans (bw11.mono (by omega))
  clear zw11 bw11 cw10_ba_0 cw10_ba_1 cw10_ba_2 cw10_ba_3 cw10_ba_l cw10_bb_0 cw10_bb_1 cw10_bb_2 cw10_bb_3 cw10_bb_l lWw10 hBw10
  go_wp2_with fail
  generalize hww12 : World.alloc _ _ = w12
  obtain ⟨bx, hbx⟩ : ∃ b, w11.heap.size = b := ⟨_, rfl⟩
  have bbw12 : Below bx w11 w12 := by subst hww12 hbx; exact (by repeat' (first | (with_reducible exact Below.refl _ _) | (with_reducible assumption) | (with_reducible refine below_drewN ?_ _) | (with_reducible refine Below.drew ?_) | (with_reducible refine Below.alloc ?_ ?_ _) | (with_reducible refine Below.setCell ?_ ?_ _) | (with_reducible refine Below.trans ?_ (Below.mono (by with_reducible assumption) ?_)) | go_size | (dsimp only; omega)))
  have cw12_bx_0 : w12.cell? ⟨bx, 0, none⟩ = some (.int .i64 x0) := by subst hww12 hbx; first | (go_cell; done) | (go_simp; done)
  have cw12_bx_1 : w12.cell? ⟨bx, 1, none⟩ = some (.int .i64 x1) := by subst hww12 hbx; first | (go_cell; done) | (go_simp; done)
  have cw12_bx_2 : w12.cell? ⟨bx, 2, none⟩ = some (.int .i64 x2) := by subst hww12 hbx; first | (go_cell; done) | (go_simp; done)
  have cw12_bx_3 : w12.cell? ⟨bx, 3, none⟩ = some (.int .i64 x3) := by subst hww12 hbx; first | (go_cell; done) | (go_simp; done)
  have cw12_bx_l : bx < w12.heap.size := by subst hww12 hbx; go_size
  have yw12 := bbw12.size
  (try rw [hbx])
  clear hww12
  have zw12 : w11.heap.size ≤ w12.heap.size := yw12
  have cw12_ba_0 : w12.cell? ⟨ba, 0, none⟩ = some (.int .i64 a0) := by rw [bbw12.cell (p := ⟨ba, 0, none⟩) (by dsimp only; omega)]; exact cw11_ba_0
  have cw12_ba_1 : w12.cell? ⟨ba, 1, none⟩ = some (.int .i64 a1) := by rw [bbw12.cell (p := ⟨ba, 1, none⟩) (by dsimp only; omega)]; exact cw11_ba_1
  have cw12_ba_2 : w12.cell? ⟨ba, 2, none⟩ = some (.int .i64 a2) := by rw [bbw12.cell (p := ⟨ba, 2, none⟩) (by dsimp only; omega)]; exact cw11_ba_2
  have cw12_ba_3 : w12.cell? ⟨ba, 3, none⟩ = some (.int .i64 a3) := by rw [bbw12.cell (p := ⟨ba, 3, none⟩) (by dsimp only; omega)]; exact cw11_ba_3
  have cw12_ba_l : ba < w12.heap.size := by omega
  have cw12_bb_0 : w12.cell? ⟨bb, 0, none⟩ = some (.int .i64 b0) := by rw [bbw12.cell (p := ⟨bb, 0, none⟩) (by dsimp only; omega)]; exact cw11_bb_0
  have cw12_bb_1 : w12.cell? ⟨bb, 1, none⟩ = some (.int .i64 b1) := by rw [bbw12.cell (p := ⟨bb, 1, none⟩) (by dsimp only; omega)]; exact cw11_bb_1
  have cw12_bb_2 : w12.cell? ⟨bb, 2, none⟩ = some (.int .i64 b2) := by rw [bbw12.cell (p := ⟨bb, 2, none⟩) (by dsimp only; omega)]; exact cw11_bb_2
  have cw12_bb_3 : w12.cell? ⟨bb, 3, none⟩ = some (.int .i64 b3) := by rw [bbw12.cell (p := ⟨bb, 3, none⟩) (by dsimp only; omega)]; exact cw11_bb_3
  have cw12_bb_l : bb < w12.heap.size := by omega
  have lWw12 : W.heap.size ≤ w12.heap.size := by omega
  have hBw12 : Below W.heap.size W w12 := hBw11.trans (bbw12.mono (by omega))
  clear zw12 bbw12 cw11_ba_0 cw11_ba_1 cw11_ba_2 cw11_ba_3 cw11_ba_l cw11_bb_0 cw11_bb_1 cw11_bb_2 cw11_bb_3 cw11_bb_l lWw11 hBw11
  clear yw12 hbx
  refine (K2.out.get _).mono ?_
  rintro e w13 ⟨rfl, bw13⟩
  have zw13 : w12.heap.size ≤ w13.heap.size := bw13.size
  have cw13_ba_0 : w13.cell? ⟨ba, 0, none⟩ = some (.int .i64 a0) := by rw [bw13.cell (p := ⟨ba, 0, none⟩) (by dsimp only; omega)]; exact cw12_ba_0
  have cw13_ba_1 : w13.cell? ⟨ba, 1, none⟩ = some (.int .i64 a1) := by rw [bw13.cell (p := ⟨ba, 1, none⟩) (by dsimp only; omega)]; exact cw12_ba_1
  have cw13_ba_2 : w13.cell? ⟨ba, 2, none⟩ = some (.int .i64 a2) := by rw [bw13.cell (p := ⟨ba, 2, none⟩) (by dsimp only; omega)]; exact cw12_ba_2
  have cw13_ba_3 : w13.cell? ⟨ba, 3, none⟩ = some (.int .i64 a3) := by rw [bw13.cell (p := ⟨ba, 3, none⟩) (by dsimp only; omega)]; exact cw12_ba_3
  have cw13_ba_l : ba < w13.heap.size := by omega
  have cw13_bb_0 : w13.cell? ⟨bb, 0, none⟩ = some (.int .i64 b0) := by rw [bw13.cell (p := ⟨bb, 0, none⟩) (by dsimp only; omega)]; exact cw12_bb_0
  have cw13_bb_1 : w13.cell? ⟨bb, 1, none⟩ = some (.int .i64 b1) := by rw [bw13.cell (p := ⟨bb, 1, none⟩) (by dsimp only; omega)]; exact cw12_bb_1
  have cw13_bb_2 : w13.cell? ⟨bb, 2, none⟩ = some (.int .i64 b2) := by rw [bw13.cell (p := ⟨bb, 2, none⟩) (by dsimp only; omega)]; exact cw12_bb_2
  have cw13_bb_3 : w13.cell? ⟨bb, 3, none⟩ = some (.int .i64 b3) := by rw [bw13.cell (p := ⟨bb, 3, none⟩) (by dsimp only; omega)]; exact cw12_bb_3
  have cw13_bb_l : bb < w13.heap.size := by omega
  have cw13_bx_0 : w13.cell? ⟨bx, 0, none⟩ = some (.int .i64 x0) := by rw [bw13.cell (p := ⟨bx, 0, none⟩) (by dsimp only; omega)]; exact cw12_bx_0
  have cw13_bx_1 : w13.cell? ⟨bx, 1, none⟩ = some (.int .i64 x1) := by rw [bw13.cell (p := ⟨bx, 1, none⟩) (by dsimp only; omega)]; exact cw12_bx_1
  have cw13_bx_2 : w13.cell? ⟨bx, 2, none⟩ = some (.int .i64 x2) := by rw [bw13.cell (p := ⟨bx, 2, none⟩) (by dsimp only; omega)]; exact cw12_bx_2
  have cw13_bx_3 : w13.cell? ⟨bx, 3, none⟩ = some (.int .i64 x3) := by rw [bw13.cell (p := ⟨bx, 3, none⟩) (by dsimp only; omega)]; exact cw12_bx_3
  have cw13_bx_l : bx < w13.heap.size := by omega
  have lWw13 : W.heap.size ≤ w13.heap.size := by omega
  have hBw13 : Below W.heap.size W w13 := hBw12.trans (bw13.mono (by omega))
  clear zw13 bw13 cw12_ba_0 cw12_ba_1 cw12_ba_2 cw12_ba_3 cw12_ba_l cw12_bb_0 cw12_bb_1 cw12_bb_2 cw12_bb_3 cw12_bb_l cw12_bx_0 cw12_bx_1 cw12_bx_2 cw12_bx_3 cw12_bx_l lWw12 hBw12
  go_upto_if 175 with fail
  generalize hww14 : World.alloc _ _ = w14
  obtain ⟨by1, hby1⟩ : ∃ b, w13.heap.size = b := ⟨_, rfl⟩
  have bbw14 : Below by1 w13 w14 := by subst hww14 hby1; exact (by repeat' (first | (with_reducible exact Below.refl _ _) | (with_reducible assumption) | (with_reducible refine below_drewN ?_ _) | (with_reducible refine Below.drew ?_) | (with_reducible refine Below.alloc ?_ ?_ _) | (with_reducible refine Below.setCell ?_ ?_ _) | (with_reducible refine Below.trans ?_ (Below.mono (by with_reducible assumption) ?_)) | go_size | (dsimp only; omega)))
  have cw14_by1_0 : w14.cell? ⟨by1, 0, none⟩ = some (.int .i64 x0) := by subst hww14 hby1; first | (go_cell; done) | (go_simp; done)
  have cw14_by1_1 : w14.cell? ⟨by1, 1, none⟩ = some (.int .i64 x1) := by subst hww14 hby1; first | (go_cell; done) | (go_simp; done)
  have cw14_by1_2 : w14.cell? ⟨by1, 2, none⟩ = some (.int .i64 x2) := by subst hww14 hby1; first | (go_cell; done) | (go_simp; done)
  have cw14_by1_3 : w14.cell? ⟨by1, 3, none⟩ = some (.int .i64 x3) := by subst hww14 hby1; first | (go_cell; done) | (go_simp; done)
  have cw14_by1_l : by1 < w14.heap.size := by subst hww14 hby1; go_size
  have yw14 := bbw14.size
  (try rw [hby1])
  clear hww14
  have zw14 : w13.heap.size ≤ w14.heap.size := yw14
  have cw14_ba_0 : w14.cell? ⟨ba, 0, none⟩ = some (.int .i64 a0) := by rw [bbw14.cell (p := ⟨ba, 0, none⟩) (by dsimp only; omega)]; exact cw13_ba_0
  have cw14_ba_1 : w14.cell? ⟨ba, 1, none⟩ = some (.int .i64 a1) := by rw [bbw14.cell (p := ⟨ba, 1, none⟩) (by dsimp only; omega)]; exact cw13_ba_1
  have cw14_ba_2 : w14.cell? ⟨ba, 2, none⟩ = some (.int .i64 a2) := by rw [bbw14.cell (p := ⟨ba, 2, none⟩) (by dsimp only; omega)]; exact cw13_ba_2
  have cw14_ba_3 : w14.cell? ⟨ba, 3, none⟩ = some (.int .i64 a3) := by rw [bbw14.cell (p := ⟨ba, 3, none⟩) (by dsimp only; omega)]; exact cw13_ba_3
  have cw14_ba_l : ba < w14.heap.size := by omega
  have cw14_bb_0 : w14.cell? ⟨bb, 0, none⟩ = some (.int .i64 b0) := by rw [bbw14.cell (p := ⟨bb, 0, none⟩) (by dsimp only; omega)]; exact cw13_bb_0
  have cw14_bb_1 : w14.cell? ⟨bb, 1, none⟩ = some (.int .i64 b1) := by rw [bbw14.cell (p := ⟨bb, 1, none⟩) (by dsimp only; omega)]; exact cw13_bb_1
  have cw14_bb_2 : w14.cell? ⟨bb, 2, none⟩ = some (.int .i64 b2) := by rw [bbw14.cell (p := ⟨bb, 2, none⟩) (by dsimp only; omega)]; exact cw13_bb_2
  have cw14_bb_3 : w14.cell? ⟨bb, 3, none⟩ = some (.int .i64 b3) := by rw [bbw14.cell (p := ⟨bb, 3, none⟩) (by dsimp only; omega)]; exact cw13_bb_3
  have cw14_bb_l : bb < w14.heap.size := by omega
  have cw14_bx_0 : w14.cell? ⟨bx, 0, none⟩ = some (.int .i64 x0) := by rw [bbw14.cell (p := ⟨bx, 0, none⟩) (by dsimp only; omega)]; exact cw13_bx_0
  have cw14_bx_1 : w14.cell? ⟨bx, 1, none⟩ = some (.int .i64 x1) := by rw [bbw14.cell (p := ⟨bx, 1, none⟩) (by dsimp only; omega)]; exact cw13_bx_1
  have cw14_bx_2 : w14.cell? ⟨bx, 2, none⟩ = some (.int .i64 x2) := by rw [bbw14.cell (p := ⟨bx, 2, none⟩) (by dsimp only; omega)]; exact cw13_bx_2
  have cw14_bx_3 : w14.cell? ⟨bx, 3, none⟩ = some (.int .i64 x3) := by rw [bbw14.cell (p := ⟨bx, 3, none⟩) (by dsimp only; omega)]; exact cw13_bx_3
  have cw14_bx_l : bx < w14.heap.size := by omega
  have lWw14 : W.heap.size ≤ w14.heap.size := by omega
  have hBw14 : Below W.heap.size W w14 := hBw13.trans (bbw14.mono (by omega))
  clear zw14 bbw14 cw13_ba_0 cw13_ba_1 cw13_ba_2 cw13_ba_3 cw13_ba_l cw13_bb_0 cw13_bb_1 cw13_bb_2 cw13_bb_3 cw13_bb_l cw13_bx_0 cw13_bx_1 cw13_bx_2 cw13_bx_3 cw13_bx_l lWw13 hBw13
  clear yw14 hby1
  clear cw14_by1_0 cw14_by1_1 cw14_by1_2 cw14_by1_3 cw14_by1_l cw14_bb_0 cw14_bb_1 cw14_bb_2 cw14_bb_3 cw14_bb_l
  refine sec2_c W w14 hBw14 lWw14 ba bx a0 a1 a2 a3 x0 x1 x2 x3 x4 HX cw14_ba_0 cw14_ba_1 cw14_ba_2 cw14_ba_3 cw14_bx_0 cw14_bx_1 cw14_bx_2 cw14_bx_3 cw14_ba_l cw14_bx_l _ _ _ _ _ _ _ _ _ _ _ _ _ _ _ _ _ _ _ _ _ _ _ _ _ _ _ _ _ _ _ _ _ _ _ _ _ _ _ _ _ _ _ _ _ _ _ _ _ _ _ _ _ _ _ _ _ _ _ _ _ _ _ _ _ _ _ _ _ _ _ _ _ _ _ _ _ _ _ _ _ _ _ _ _ _ _ _ _ _ _ _ _ _ _ _ _ _ _ _ _ _ _ _ _ _ _ _ _ _ _ _ _ _ _ _ _ _ _ _ _ _ _ _ _ _ _ _ _ _ _ _ _ _ _ _ _ _ _ _ _ _ _ _ _ _ _ _ _ _ _ _ _ _ _ _ _ _ _ _ _ _ _ _ _ _ _ _ _ _ _ _ _ _ _ _ _ _ _ _ _ _ _ _ _ _ _ _ _ _ _ _ _ _ _ _ _ _ _ _ _ _ _ _ _ _ _ _ _ _ _ _ _ _ _ _ _ _ _ _ _ _ _ _ _ _ _ _ _ _ _ _ _ _ _ _ _ _ _ _ _ _ _ _ _ _ _ _ _ _ _ _ _ _ _ _ _ _ _ _ _ _ _ _ _ _ _ _ _ _ _ _ _ _ _ _ _ _ _ _ _ _ _ _ _ _ _ _ _ _ _ _ _ _ _ _ _ _ _ _ _ _ _ _ _ _ _ _ _ _ _ _ _ _ _ _ _ _ _ _ _ _ _ _ _ _ _ _ _ _ _ _ _ _ _ _ _ _ _ _ _ _ _ _ _ _ _ _ _ _ _ _ _ _ _ _ _ _ _ _ _ _ _ _ _ _ _ _ _ _ _ _ _ _ _ _ _ _ _ _ _ _ _ _ _ _ _ _ _ _ _ _ _ _ _ _ _ _ _ _ _ _ _ _ _ _ _ _ _ _ _ ?_
  intro v23 v24 v25 v26 v27 v28 v29 v30 v176 v177 v178 v179 v180 v181 v182 v183 v184 v185 v186 v187 v188 v189 v190 v191 v192 v193 v194 v195 v196 v197 v198 v199 v200 v201 v202 v203 v204 v205 v206 v207 v208 v209 v210 v211 v212 v213 v214 v215 v216 v217 v218 v219 w15 hBw15
  clear cw14_ba_0 cw14_ba_1 cw14_ba_2 cw14_ba_3 cw14_ba_l cw14_bx_0 cw14_bx_1 cw14_bx_2 cw14_bx_3 cw14_bx_l lWw14 hBw14
  have lWw15 : W.heap.size ≤ w15.heap.size := hBw15.size
  clear HX K1 K2
  go_wp2_with fail
  refine (drawPowerOf_c _ w15 (hv.below hBw15)).mono ?_
  rintro e w16 ⟨c0, c1, c2, c3, k, rfl, hkb, bw16⟩
  have zw16 : w15.heap.size ≤ w16.heap.size := bw16.size
  have lWw16 : W.heap.size ≤ w16.heap.size := by omega
  have hBw16 : Below W.heap.size W w16 := hBw15.trans (bw16.mono (by omega))
  clear zw16 bw16 lWw15 hBw15
  obtain ⟨hk0, hk1⟩ := hkb
  go_wp2_with fail
  generalize hww17 : World.alloc _ _ = w17
  obtain ⟨bc, hbc⟩ : ∃ b, w16.heap.size = b := ⟨_, rfl⟩
  have bbw17 : Below bc w16 w17 := by subst hww17 hbc; exact (by repeat' (first | (with_reducible exact Below.refl _ _) | (with_reducible assumption) | (with_reducible refine below_drewN ?_ _) | (with_reducible refine Below.drew ?_) | (with_reducible refine Below.alloc ?_ ?_ _) | (with_reducible refine Below.setCell ?_ ?_ _) | (with_reducible refine Below.trans ?_ (Below.mono (by with_reducible assumption) ?_)) | go_size | (dsimp only; omega)))
  have cw17_bc_0 : w17.cell? ⟨bc, 0, none⟩ = some (.int .i64 c0) := by subst hww17 hbc; first | (go_cell; done) | (go_simp; done)
  have cw17_bc_1 : w17.cell? ⟨bc, 1, none⟩ = some (.int .i64 c1) := by subst hww17 hbc; first | (go_cell; done) | (go_simp; done)
  have cw17_bc_2 : w17.cell? ⟨bc, 2, none⟩ = some (.int .i64 c2) := by subst hww17 hbc; first | (go_cell; done) | (go_simp; done)
  have cw17_bc_3 : w17.cell? ⟨bc, 3, none⟩ = some (.int .i64 c3) := by subst hww17 hbc; first | (go_cell; done) | (go_simp; done)
  have cw17_bc_l : bc < w17.heap.size := by subst hww17 hbc; go_size
  have yw17 := bbw17.size
  (try rw [hbc])
  clear hww17
  have zw17 : w16.heap.size ≤ w17.heap.size := yw17
  have lWw17 : W.heap.size ≤ w17.heap.size := by omega
  have hBw17 : Below W.heap.size W w17 := hBw16.trans (bbw17.mono (by omega))
  clear zw17 bbw17 lWw16 hBw16
  clear yw17 hbc
  obtain ⟨x0, x1, x2, x3, x4, K1, K2, hx⟩ := pow_all c0 c1 c2 c3 k
  have HX := Lib.hid hx
  clear hx
  refine (K1.out.get _).mono ?_
  rintro e w18 ⟨rfl, bw18⟩
  have zw18 : w17.heap.size ≤ w18.heap.size := bw18.size
  have cw18_bc_0 : w18.cell? ⟨bc, 0, none⟩ = some (.int .i64 c0) := by rw [bw18.cell (p := ⟨bc, 0, none⟩) (by dsimp only; omega)]; exact cw17_bc_0
  have cw18_bc_1 : w18.cell? ⟨bc, 1, none⟩ = some (.int .i64 c1) := by rw [bw18.cell (p := ⟨bc, 1, none⟩) (by dsimp only; omega)]; exact cw17_bc_1
  have cw18_bc_2 : w18.cell? ⟨bc, 2, none⟩ = some (.int .i64 c2) := by rw [bw18.cell (p := ⟨bc, 2, none⟩) (by dsimp only; omega)]; exact cw17_bc_2
  have cw18_bc_3 : w18.cell? ⟨bc, 3, none⟩ = some (.int .i64 c3) := by rw [bw18.cell (p := ⟨bc, 3, none⟩) (by dsimp only; omega)]; exact cw17_bc_3
  have cw18_bc_l : bc < w18.heap.size := by omega
  have lWw18 : W.heap.size ≤ w18.heap.size := by omega
  have hBw18 : Below W.heap.size W w18 := hBw17.trans (bw18.mono (by omega))
  clear zw18 bw18 cw17_bc_0 cw17_bc_1 cw17_bc_2 cw17_bc_3 cw17_bc_l lWw17 hBw17
  go_wp2_with fail
  generalize hww19 : World.alloc _ _ = w19
  obtain ⟨bx, hbx⟩ : ∃ b, w18.heap.size = b := ⟨_, rfl⟩
  have bbw19 : Below bx w18 w19 := by subst hww19 hbx; exact (by repeat' (first | (with_reducible exact Below.refl _ _) | (with_reducible assumption) | (with_reducible refine below_drewN ?_ _) | (with_reducible refine Below.drew ?_) | (with_reducible refine Below.alloc ?_ ?_ _) | (with_reducible refine Below.setCell ?_ ?_ _) | (with_reducible refine Below.trans ?_ (Below.mono (by with_reducible assumption) ?_)) | go_size | (dsimp only; omega)))
  have cw19_bx_0 : w19.cell? ⟨bx, 0, none⟩ = some (.int .i64 x0) := by subst hww19 hbx; first | (go_cell; done) | (go_simp; done)
  have cw19_bx_1 : w19.cell? ⟨bx, 1, none⟩ = some (.int .i64 x1) := by subst hww19 hbx; first | (go_cell; done) | (go_simp; done)
  have cw19_bx_2 : w19.cell? ⟨bx, 2, none⟩ = some (.int .i64 x2) := by subst hww19 hbx; first | (go_cell; done) | (go_simp; done)
  have cw19_bx_3 : w19.cell? ⟨bx, 3, none⟩ = some (.int .i64 x3) := by subst hww19 hbx; first | (go_cell; done) | (go_simp; done)
  have cw19_bx_l : bx < w19.heap.size := by subst hww19 hbx; go_size
  have yw19 := bbw19.size
  (try rw [hbx])
  clear hww19
  have zw19 : w18.heap.size ≤ w19.heap.size := yw19
  have cw19_bc_0 : w19.cell? ⟨bc, 0, none⟩ = some (.int .i64 c0) := by rw [bbw19.cell (p := ⟨bc, 0, none⟩) (by dsimp only; omega)]; exact cw18_bc_0
  have cw19_bc_1 : w19.cell? ⟨bc, 1, none⟩ = some (.int .i64 c1) := by rw [bbw19.cell (p := ⟨bc, 1, none⟩) (by dsimp only; omega)]; exact cw18_bc_1
  have cw19_bc_2 : w19.cell? ⟨bc, 2, none⟩ = some (.int .i64 c2) := by rw [bbw19.cell (p := ⟨bc, 2, none⟩) (by dsimp only; omega)]; exact cw18_bc_2
  have cw19_bc_3 : w19.cell? ⟨bc, 3, none⟩ = some (.int .i64 c3) := by rw [bbw19.cell (p := ⟨bc, 3, none⟩) (by dsimp only; omega)]; exact cw18_bc_3
  have cw19_bc_l : bc < w19.heap.size := by omega
  have lWw19 : W.heap.size ≤ w19.heap.size := by omega
  have hBw19 : Below W.heap.size W w19 := hBw18.trans (bbw19.mono (by omega))
  clear zw19 bbw19 cw18_bc_0 cw18_bc_1 cw18_bc_2 cw18_bc_3 cw18_bc_l lWw18 hBw18
  clear yw19 hbx
  refine (K2.out.get _).mono ?_
  rintro e w20 ⟨rfl, bw20⟩
  have zw20 : w19.heap.size ≤ w20.heap.size := bw20.size
  have cw20_bc_0 : w20.cell? ⟨bc, 0, none⟩ = some (.int .i64 c0) := by rw [bw20.cell (p := ⟨bc, 0, none⟩) (by dsimp only; omega)]; exact cw19_bc_0
  have cw20_bc_1 : w20.cell? ⟨bc, 1, none⟩ = some (.int .i64 c1) := by rw [bw20.cell (p := ⟨bc, 1, none⟩) (by dsimp only; omega)]; exact cw19_bc_1
  have cw20_bc_2 : w20.cell? ⟨bc, 2, none⟩ = some (.int .i64 c2) := by rw [bw20.cell (p := ⟨bc, 2, none⟩) (by dsimp only; omega)]; exact cw19_bc_2
  have cw20_bc_3 : w20.cell? ⟨bc, 3, none⟩ = some (.int .i64 c3) := by rw [bw20.cell (p := ⟨bc, 3, none⟩) (by dsimp only; omega)]; exact cw19_bc_3
  have cw20_bc_l : bc < w20.heap.size := by omega
  have cw20_bx_0 : w20.cell? ⟨bx, 0, none⟩ = some (.int .i64 x0) := by rw [bw20.cell (p := ⟨bx, 0, none⟩) (by dsimp only; omega)]; exact cw19_bx_0
  have cw20_bx_1 : w20.cell? ⟨bx, 1, none⟩ = some (.int .i64 x1) := by rw [bw20.cell (p := ⟨bx, 1, none⟩) (by dsimp only; omega)]; exact cw19_bx_1
  have cw20_bx_2 : w20.cell? ⟨bx, 2, none⟩ = some (.int .i64 x2) := by rw [bw20.cell (p := ⟨bx, 2, none⟩) (by dsimp only; omega)]; exact cw19_bx_2
  have cw20_bx_3 : w20.cell? ⟨bx, 3, none⟩ = some (.int .i64 x3) := by rw [bw20.cell (p := ⟨bx, 3, none⟩) (by dsimp only; omega)]; exact cw19_bx_3
  have cw20_bx_l : bx < w20.heap.size := by omega
  have lWw20 : W.heap.size ≤ w20.heap.size := by omega
  have hBw20 : Below W.heap.size W w20 := hBw19.trans (bw20.mono (by omega))
  clear zw20 bw20 cw19_bc_0 cw19_bc_1 cw19_bc_2 cw19_bc_3 cw19_bc_l cw19_bx_0 cw19_bx_1 cw19_bx_2 cw19_bx_3 cw19_bx_l lWw19 hBw19
  go_upto_region 32 with fail
  generalize hww21 : World.alloc _ _ = w21
  obtain ⟨by1, hby1⟩ : ∃ b, w20.heap.size = b := ⟨_, rfl⟩
  have bbw21 : Below by1 w20 w21 := by subst hww21 hby1; exact (by repeat' (first | (with_reducible exact Below.refl _ _) | (with_reducible assumption) | (with_reducible refine below_drewN ?_ _) | (with_reducible refine Below.drew ?_) | (with_reducible refine Below.alloc ?_ ?_ _) | (with_reducible refine Below.setCell ?_ ?_ _) | (with_reducible refine Below.trans ?_ (Below.mono (by with_reducible assumption) ?_)) | go_size | (dsimp only; omega)))
  have cw21_by1_0 : w21.cell? ⟨by1, 0, none⟩ = some (.int .i64 x0) := by subst hww21 hby1; first | (go_cell; done) | (go_simp; done)
  have cw21_by1_1 : w21.cell? ⟨by1, 1, none⟩ = some (.int .i64 x1) := by subst hww21 hby1; first | (go_cell; done) | (go_simp; done)
  have cw21_by1_2 : w21.cell? ⟨by1, 2, none⟩ = some (.int .i64 x2) := by subst hww21 hby1; first | (go_cell; done) | (go_simp; done)
  have cw21_by1_3 : w21.cell? ⟨by1, 3, none⟩ = some (.int .i64 x3) := by subst hww21 hby1; first | (go_cell; done) | (go_simp; done)
  have cw21_by1_l : by1 < w21.heap.size := by subst hww21 hby1; go_size
  have yw21 := bbw21.size
  (try rw [hby1])
  clear hww21
  have zw21 : w20.heap.size ≤ w21.heap.size := yw21
  have cw21_bc_0 : w21.cell? ⟨bc, 0, none⟩ = some (.int .i64 c0) := by rw [bbw21.cell (p := ⟨bc, 0, none⟩) (by dsimp only; omega)]; exact cw20_bc_0
  have cw21_bc_1 : w21.cell? ⟨bc, 1, none⟩ = some (.int .i64 c1) := by rw [bbw21.cell (p := ⟨bc, 1, none⟩) (by dsimp only; omega)]; exact cw20_bc_1
  have cw21_bc_2 : w21.cell? ⟨bc, 2, none⟩ = some (.int .i64 c2) := by rw [bbw21.cell (p := ⟨bc, 2, none⟩) (by dsimp only; omega)]; exact cw20_bc_2
  have cw21_bc_3 : w21.cell? ⟨bc, 3, none⟩ = some (.int .i64 c3) := by rw [bbw21.cell (p := ⟨bc, 3, none⟩) (by dsimp only; omega)]; exact cw20_bc_3
  have cw21_bc_l : bc < w21.heap.size := by omega
  have cw21_bx_0 : w21.cell? ⟨bx, 0, none⟩ = some (.int .i64 x0) := by rw [bbw21.cell (p := ⟨bx, 0, none⟩) (by dsimp only; omega)]; exact cw20_bx_0
  have cw21_bx_1 : w21.cell? ⟨bx, 1, none⟩ = some (.int .i64 x1) := by rw [bbw21.cell (p := ⟨bx, 1, none⟩) (by dsimp only; omega)]; exact cw20_bx_1
  have cw21_bx_2 : w21.cell? ⟨bx, 2, none⟩ = some (.int .i64 x2) := by rw [bbw21.cell (p := ⟨bx, 2, none⟩) (by dsimp only; omega)]; exact cw20_bx_2
  have cw21_bx_3 : w21.cell? ⟨bx, 3, none⟩ = some (.int .i64 x3) := by rw [bbw21.cell (p := ⟨bx, 3, none⟩) (by dsimp only; omega)]; exact cw20_bx_3
  have cw21_bx_l : bx < w21.heap.size := by omega
  have lWw21 : W.heap.size ≤ w21.heap.size := by omega
  have hBw21 : Below W.heap.size W w21 := hBw20.trans (bbw21.mono (by omega))
  clear zw21 bbw21 cw20_bc_0 cw20_bc_1 cw20_bc_2 cw20_bc_3 cw20_bc_l cw20_bx_0 cw20_bx_1 cw20_bx_2 cw20_bx_3 cw20_bx_l lWw20 hBw20
  clear yw21 hby1
  clear cw21_by1_0 cw21_by1_1 cw21_by1_2 cw21_by1_3 cw21_by1_l
  refine reg3_c W w21 hBw21 lWw21 x4 k   _ _ _ _ _ _ _ _ _ _ _ _ _ _ _ _ _ _ _ _ _ _ _ _ _ _ _ _ _ _ _ _ _ _ _ _ _ _ _ _ _ _ _ _ _ _ _ _ _ _ _ _ _ _ _ _ _ _ _ _ _ _ _ _ _ _ _ _ _ _ _ _ _ _ _ _ _ _ _ _ _ _ _ _ _ _ _ _ _ _ _ _ _ _ _ _ _ _ _ _ _ _ _ _ _ _ _ _ _ _ _ _ _ _ _ _ _ _ _ _ _ _ _ _ _ _ _ _ _ _ _ _ _ _ _ _ _ _ _ _ _ _ _ _ _ _ _ _ _ _ _ _ _ _ _ _ _ _ _ _ _ _ _ _ _ _ _ _ _ _ _ _ _ _ _ _ _ _ _ _ _ _ _ _ _ _ _ _ _ _ _ _ _ _ _ _ _ _ _ _ _ _ _ _ _ _ _ _ _ _ _ _ _ _ _ _ _ _ _ _ _ _ _ _ _ _ _ _ _ _ _ _ _ _ _ _ _ _ _ _ _ _ _ _ _ _ _ _ _ _ _ _ _ _ _ _ _ _ _ _ _ _ _ _ _ _ _ _ _ _ _ _ _ _ _ _ _ _ _ _ _ _ _ _ _ _ _ _ _ _ _ _ _ _ _ _ _ _ _ _ _ _ _ _ _ _ _ _ _ _ _ _ _ _ _ _ _ _ _ _ _ _ _ _ _ _ _ _ _ _ _ _ _ _ _ _ _ _ _ _ _ _ _ _ _ _ _ _ _ _ _ _ _ _ _ _ _ _ _ _ _ _ _ _ _ _ _ _ _ _ _ _ _ _ _ _ _ _ _ _ _ _ _ _ _ _ _ _ _ _ _ _ _ _ _ _ _ _ _ _ _ _ _ _ _ _ _ _ _ _ _ _ _ ?_
  intro q v245 v246 v247 v248 v249 w22 hcut
  obtain ⟨bcut, hq⟩ := hcut
  have zw22 : w21.heap.size ≤ w22.heap.size := bcut.size
  have cw22_bc_0 : w22.cell? ⟨bc, 0, none⟩ = some (.int .i64 c0) := by rw [bcut.cell (p := ⟨bc, 0, none⟩) (by dsimp only; omega)]; exact cw21_bc_0
  have cw22_bc_1 : w22.cell? ⟨bc, 1, none⟩ = some (.int .i64 c1) := by rw [bcut.cell (p := ⟨bc, 1, none⟩) (by dsimp only; omega)]; exact cw21_bc_1
  have cw22_bc_2 : w22.cell? ⟨bc, 2, none⟩ = some (.int .i64 c2) := by rw [bcut.cell (p := ⟨bc, 2, none⟩) (by dsimp only; omega)]; exact cw21_bc_2
  have cw22_bc_3 : w22.cell? ⟨bc, 3, none⟩ = some (.int .i64 c3) := by rw [bcut.cell (p := ⟨bc, 3, none⟩) (by dsimp only; omega)]; exact cw21_bc_3
  have cw22_bc_l : bc < w22.heap.size := by omega
  have cw22_bx_0 : w22.cell? ⟨bx, 0, none⟩ = some (.int .i64 x0) := by rw [bcut.cell (p := ⟨bx, 0, none⟩) (by dsimp only; omega)]; exact cw21_bx_0
  have cw22_bx_1 : w22.cell? ⟨bx, 1, none⟩ = some (.int .i64 x1) := by rw [bcut.cell (p := ⟨bx, 1, none⟩) (by dsimp only; omega)]; exact cw21_bx_1
  have cw22_bx_2 : w22.cell? ⟨bx, 2, none⟩ = some (.int .i64 x2) := by rw [bcut.cell (p := ⟨bx, 2, none⟩) (by dsimp only; omega)]; exact cw21_bx_2
  have cw22_bx_3 : w22.cell? ⟨bx, 3, none⟩ = some (.int .i64 x3) := by rw [bcut.cell (p := ⟨bx, 3, none⟩) (by dsimp only; omega)]; exact cw21_bx_3
  have cw22_bx_l : bx < w22.heap.size := by omega
  have lWw22 : W.heap.size ≤ w22.heap.size := by omega
  have hBw22 : Below W.heap.size W w22 := hBw21.trans (bcut.mono (by omega))
  clear zw22 bcut cw21_bc_0 cw21_bc_1 cw21_bc_2 cw21_bc_3 cw21_bc_l cw21_bx_0 cw21_bx_1 cw21_bx_2 cw21_bx_3 cw21_bx_l lWw21 hBw21
  have HQ := Lib.hid hq
  clear hq
  go_upto_if 250 with fail
  refine sec3_c W w22 hBw22 lWw22 bc bx c0 c1 c2 c3 k x0 x1 x2 x3 x4 q hk0 hk1 HQ HX cw22_bc_0 cw22_bc_1 cw22_bc_2 cw22_bc_3 cw22_bx_0 cw22_bx_1 cw22_bx_2 cw22_bx_3 cw22_bc_l cw22_bx_l _ _ _ _ _ _ _ _ _ _ _ _ _ _ _ _ _ _ _ _ _ _ _ _ _ _ _ _ _ _ _ _ _ _ _ _ _ _ _ _ _ _ _ _ _ _ _ _ _ _ _ _ _ _ _ _ _ _ _ _ _ _ _ _ _ _ _ _ _ _ _ _ _ _ _ _ _ _ _ _ _ _ _ _ _ _ _ _ _ _ _ _ _ _ _ _ _ _ _ _ _ _ _ _ _ _ _ _ _ _ _ _ _ _ _ _ _ _ _ _ _ _ _ _ _ _ _ _ _ _ _ _ _ _ _ _ _ _ _ _ _ _ _ _ _ _ _ _ _ _ _ _ _ _ _ _ _ _ _ _ _ _ _ _ _ _ _ _ _ _ _ _ _ _ _ _ _ _ _ _ _ _ _ _ _ _ _ _ _ _ _ _ _ _ _ _ _ _ _ _ _ _ _ _ _ _ _ _ _ _ _ _ _ _ _ _ _ _ _ _ _ _ _ _ _ _ _ _ _ _ _ _ _ _ _ _ _ _ _ _ _ _ _ _ _ _ _ _ _ _ _ _ _ _ _ _ _ _ _ _ _ _ _ _ _ _ _ _ _ _ _ _ _ _ _ _ _ _ _ _ _ _ _ _ _ _ _ _ _ _ _ _ _ _ _ _ _ _ _ _ _ _ _ _ _ _ _ _ _ _ _ _ _ _ _ _ _ _ _ _ _ _ _ _ _ _ _ _ _ _ _ _ _ _ _ _ _ _ _ _ _ _ _ _ _ _ _ _ _ _ _ _ _ _ _ _ _ _ _ _ _ _ _ _ _ _ _ _ _ _ _ _ _ _ _ _ _ _ _ _ _ _ _ _ _ _ _ _ _ _ _ _ _ _ _ _ _ _ _ _ _ _ _ _ _ _ _ _ _ _ _ ?_
  intro v37 v38 v39 v40 v251 v252 v253 v254 v255 v256 v257 v258 v259 v260 v261 v262 v263 v264 v265 v266 v267 v268 v269 v270 v271 v272 v273 v274 w23 hBw23
  clear cw22_bc_0 cw22_bc_1 cw22_bc_2 cw22_bc_3 cw22_bc_l cw22_bx_0 cw22_bx_1 cw22_bx_2 cw22_bx_3 cw22_bx_l lWw22 hBw22
  have lWw23 : W.heap.size ≤ w23.heap.size := hBw23.size
  clear HX HQ K1 K2
  go_wp2_with fail
  refine (drawOrderOf_c _ w23 (hv.below hBw23)).mono ?_
  rintro e w24 ⟨⟨d0, d1, d2, d3, rfl⟩, bw24⟩
  have zw24 : w23.heap.size ≤ w24.heap.size := bw24.size
  have lWw24 : W.heap.size ≤ w24.heap.size := by omega
  have hBw24 : Below W.heap.size W w24 := hBw23.trans (bw24.mono (by omega))
  clear zw24 bw24 lWw23 hBw23
  go_wp2_with fail
  generalize hww25 : World.alloc _ _ = w25
  obtain ⟨bd, hbd⟩ : ∃ b, w24.heap.size = b := ⟨_, rfl⟩
  have bbw25 : Below bd w24 w25 := by subst hww25 hbd; exact (by repeat' (first | (with_reducible exact Below.refl _ _) | (with_reducible assumption) | (with_reducible refine below_drewN ?_ _) | (with_reducible refine Below.drew ?_) | (with_reducible refine Below.alloc ?_ ?_ _) | (with_reducible refine Below.setCell ?_ ?_ _) | (with_reducible refine Below.trans ?_ (Below.mono (by with_reducible assumption) ?_)) | go_size | (dsimp only; omega)))
  have cw25_bd_0 : w25.cell? ⟨bd, 0, none⟩ = some (.int .i64 d0) := by subst hww25 hbd; first | (go_cell; done) | (go_simp; done)
  have cw25_bd_1 : w25.cell? ⟨bd, 1, none⟩ = some (.int .i64 d1) := by subst hww25 hbd; first | (go_cell; done) | (go_simp; done)
  have cw25_bd_2 : w25.cell? ⟨bd, 2, none⟩ = some (.int .i64 d2) := by subst hww25 hbd; first | (go_cell; done) | (go_simp; done)
  have cw25_bd_3 : w25.cell? ⟨bd, 3, none⟩ = some (.int .i64 d3) := by subst hww25 hbd; first | (go_cell; done) | (go_simp; done)
  have cw25_bd_l : bd < w25.heap.size := by subst hww25 hbd; go_size
  have yw25 := bbw25.size
  (try rw [hbd])
  clear hww25
  have zw25 : w24.heap.size ≤ w25.heap.size := yw25
  have lWw25 : W.heap.size ≤ w25.heap.size := by omega
  have hBw25 : Below W.heap.size W w25 := hBw24.trans (bbw25.mono (by omega))
  clear zw25 bbw25 lWw24 hBw24
  clear yw25 hbd
  obtain ⟨o, c, k2, d, K1, K2, K3, K4, hx, hy⟩ := order_all d0 d1 d2 d3
  have HX := Lib.hid hx
  have HY := Lib.hid hy
  clear hx hy
  refine (K1.out.get _).mono ?_
  rintro e w26 ⟨rfl, bw26⟩
  have zw26 : w25.heap.size ≤ w26.heap.size := bw26.size
  have cw26_bd_0 : w26.cell? ⟨bd, 0, none⟩ = some (.int .i64 d0) := by rw [bw26.cell (p := ⟨bd, 0, none⟩) (by dsimp only; omega)]; exact cw25_bd_0
  have cw26_bd_1 : w26.cell? ⟨bd, 1, none⟩ = some (.int .i64 d1) := by rw [bw26.cell (p := ⟨bd, 1, none⟩) (by dsimp only; omega)]; exact cw25_bd_1
  have cw26_bd_2 : w26.cell? ⟨bd, 2, none⟩ = some (.int .i64 d2) := by rw [bw26.cell (p := ⟨bd, 2, none⟩) (by dsimp only; omega)]; exact cw25_bd_2
  have cw26_bd_3 : w26.cell? ⟨bd, 3, none⟩ = some (.int .i64 d3) := by rw [bw26.cell (p := ⟨bd, 3, none⟩) (by dsimp only; omega)]; exact cw25_bd_3
  have cw26_bd_l : bd < w26.heap.size := by omega
  have lWw26 : W.heap.size ≤ w26.heap.size := by omega
  have hBw26 : Below W.heap.size W w26 := hBw25.trans (bw26.mono (by omega))
  clear zw26 bw26 cw25_bd_0 cw25_bd_1 cw25_bd_2 cw25_bd_3 cw25_bd_l lWw25 hBw25
  go_wp2_with fail
  refine (K2.out.get _).mono ?_
  rintro e w27 ⟨rfl, bw27⟩
  have zw27 : w26.heap.size ≤ w27.heap.size := bw27.size
  have cw27_bd_0 : w27.cell? ⟨bd, 0, none⟩ = some (.int .i64 d0) := by rw [bw27.cell (p := ⟨bd, 0, none⟩) (by dsimp only; omega)]; exact cw26_bd_0
  have cw27_bd_1 : w27.cell? ⟨bd, 1, none⟩ = some (.int .i64 d1) := by rw [bw27.cell (p := ⟨bd, 1, none⟩) (by dsimp only; omega)]; exact cw26_bd_1
  have cw27_bd_2 : w27.cell? ⟨bd, 2, none⟩ = some (.int .i64 d2) := by rw [bw27.cell (p := ⟨bd, 2, none⟩) (by dsimp only; omega)]; exact cw26_bd_2
  have cw27_bd_3 : w27.cell? ⟨bd, 3, none⟩ = some (.int .i64 d3) := by rw [bw27.cell (p := ⟨bd, 3, none⟩) (by dsimp only; omega)]; exact cw26_bd_3
  have cw27_bd_l : bd < w27.heap.size := by omega
  have lWw27 : W.heap.size ≤ w27.heap.size := by omega
  have hBw27 : Below W.heap.size W w27 := hBw26.trans (bw27.mono (by omega))
  clear zw27 bw27 cw26_bd_0 cw26_bd_1 cw26_bd_2 cw26_bd_3 cw26_bd_l lWw26 hBw26
  go_wp2_with fail
  refine (K3.out.get _).mono ?_
  rintro e w28 ⟨rfl, bw28⟩
  have zw28 : w27.heap.size ≤ w28.heap.size := bw28.size
  have cw28_bd_0 : w28.cell? ⟨bd, 0, none⟩ = some (.int .i64 d0) := by rw [bw28.cell (p := ⟨bd, 0, none⟩) (by dsimp only; omega)]; exact cw27_bd_0
  have cw28_bd_1 : w28.cell? ⟨bd, 1, none⟩ = some (.int .i64 d1) := by rw [bw28.cell (p := ⟨bd, 1, none⟩) (by dsimp only; omega)]; exact cw27_bd_1
  have cw28_bd_2 : w28.cell? ⟨bd, 2, none⟩ = some (.int .i64 d2) := by rw [bw28.cell (p := ⟨bd, 2, none⟩) (by dsimp only; omega)]; exact cw27_bd_2
  have cw28_bd_3 : w28.cell? ⟨bd, 3, none⟩ = some (.int .i64 d3) := by rw [bw28.cell (p := ⟨bd, 3, none⟩) (by dsimp only; omega)]; exact cw27_bd_3
  have cw28_bd_l : bd < w28.heap.size := by omega
  have lWw28 : W.heap.size ≤ w28.heap.size := by omega
  have hBw28 : Below W.heap.size W w28 := hBw27.trans (bw28.mono (by omega))
  clear zw28 bw28 cw27_bd_0 cw27_bd_1 cw27_bd_2 cw27_bd_3 cw27_bd_l lWw27 hBw27
  go_wp2_with fail
  refine (K4.out.get _).mono ?_
  rintro e w29 ⟨rfl, bw29⟩
  have zw29 : w28.heap.size ≤ w29.heap.size := bw29.size
  have cw29_bd_0 : w29.cell? ⟨bd, 0, none⟩ = some (.int .i64 d0) := by rw [bw29.cell (p := ⟨bd, 0, none⟩) (by dsimp only; omega)]; exact cw28_bd_0
  have cw29_bd_1 : w29.cell? ⟨bd, 1, none⟩ = some (.int .i64 d1) := by rw [bw29.cell (p := ⟨bd, 1, none⟩) (by dsimp only; omega)]; exact cw28_bd_1
  have cw29_bd_2 : w29.cell? ⟨bd, 2, none⟩ = some (.int .i64 d2) := by rw [bw29.cell (p := ⟨bd, 2, none⟩) (by dsimp only; omega)]; exact cw28_bd_2
  have cw29_bd_3 : w29.cell? ⟨bd, 3, none⟩ = some (.int .i64 d3) := by rw [bw29.cell (p := ⟨bd, 3, none⟩) (by dsimp only; omega)]; exact cw28_bd_3
  have cw29_bd_l : bd < w29.heap.size := by omega
  have lWw29 : W.heap.size ≤ w29.heap.size := by omega
  have hBw29 : Below W.heap.size W w29 := hBw28.trans (bw29.mono (by omega))
  clear zw29 bw29 cw28_bd_0 cw28_bd_1 cw28_bd_2 cw28_bd_3 cw28_bd_l lWw28 hBw28
  go_upto_region 42 with fail
  refine reg4_c W w29 hBw29 lWw29 o c k2 d HX   _ _ _ _ _ _ _ _ _ _ _ _ _ _ _ _ _ _ _ _ _ _ _ _ _ _ _ _ _ _ _ _ _ _ _ _ _ _ _ _ _ _ _ _ _ _ _ _ _ _ _ _ _ _ _ _ _ _ _ _ _ _ _ _ _ _ _ _ _ _ _ _ _ _ _ _ _ _ _ _ _ _ _ _ _ _ _ _ _ _ _ _ _ _ _ _ _ _ _ _ _ _ _ _ _ _ _ _ _ _ _ _ _ _ _ _ _ _ _ _ _ _ _ _ _ _ _ _ _ _ _ _ _ _ _ _ _ _ _ _ _ _ _ _ _ _ _ _ _ _ _ _ _ _ _ _ _ _ _ _ _ _ _ _ _ _ _ _ _ _ _ _ _ _ _ _ _ _ _ _ _ _ _ _ _ _ _ _ _ _ _ _ _ _ _ _ _ _ _ _ _ _ _ _ _ _ _ _ _ _ _ _ _ _ _ _ _ _ _ _ _ _ _ _ _ _ _ _ _ _ _ _ _ _ _ _ _ _ _ _ _ _ _ _ _ _ _ _ _ _ _ _ _ _ _ _ _ _ _ _ _ _ _ _ _ _ _ _ _ _ _ _ _ _ _ _ _ _ _ _ _ _ _ _ _ _ _ _ _ _ _ _ _ _ _ _ _ _ _ _ _ _ _ _ _ _ _ _ _ _ _ _ _ _ _ _ _ _ _ _ _ _ _ _ _ _ _ _ _ _ _ _ _ _ _ _ _ _ _ _ _ _ _ _ _ _ _ _ _ _ _ _ _ _ _ _ _ _ _ _ _ _ _ _ _ _ _ _ _ _ _ _ _ _ _ _ _ _ _ _ _ _ _ _ _ _ _ _ _ _ _ _ _ _ _ _ _ _ _ _ _ _ _ _ _ _ _ ?_
  intro v297 v298 v299 v300 v301 v302 v303 v304 v305 v306 v307 v308 v309 v310 v311 v312 v313 v314 v315 v316 v317 v318 v319 v320 v321 v322 v323 v324 w30 bcut
  have zw30 : w29.heap.size ≤ w30.heap.size := bcut.size
  have cw30_bd_0 : w30.cell? ⟨bd, 0, none⟩ = some (.int .i64 d0) := by rw [bcut.cell (p := ⟨bd, 0, none⟩) (by dsimp only; omega)]; exact cw29_bd_0
  have cw30_bd_1 : w30.cell? ⟨bd, 1, none⟩ = some (.int .i64 d1) := by rw [bcut.cell (p := ⟨bd, 1, none⟩) (by dsimp only; omega)]; exact cw29_bd_1
  have cw30_bd_2 : w30.cell? ⟨bd, 2, none⟩ = some (.int .i64 d2) := by rw [bcut.cell (p := ⟨bd, 2, none⟩) (by dsimp only; omega)]; exact cw29_bd_2
  have cw30_bd_3 : w30.cell? ⟨bd, 3, none⟩ = some (.int .i64 d3) := by rw [bcut.cell (p := ⟨bd, 3, none⟩) (by dsimp only; omega)]; exact cw29_bd_3
  have cw30_bd_l : bd < w30.heap.size := by omega
  have lWw30 : W.heap.size ≤ w30.heap.size := by omega
  have hBw30 : Below W.heap.size W w30 := hBw29.trans (bcut.mono (by omega))
  clear zw30 bcut cw29_bd_0 cw29_bd_1 cw29_bd_2 cw29_bd_3 cw29_bd_l lWw29 hBw29
  go_upto_if 327 with fail
  refine sec4_c W w30 hBw30 lWw30 bd d0 d1 d2 d3 o c d HY cw30_bd_0 cw30_bd_1 cw30_bd_2 cw30_bd_3 cw30_bd_l _ _ _ _ _ _ _ _ _ _ _ _ _ _ _ _ _ _ _ _ _ _ _ _ _ _ _ _ _ _ _ _ _ _ _ _ _ _ _ _ _ _ _ _ _ _ _ _ _ _ _ _ _ _ _ _ _ _ _ _ _ _ _ _ _ _ _ _ _ _ _ _ _ _ _ _ _ _ _ _ _ _ _ _ _ _ _ _ _ _ _ _ _ _ _ _ _ _ _ _ _ _ _ _ _ _ _ _ _ _ _ _ _ _ _ _ _ _ _ _ _ _ _ _ _ _ _ _ _ _ _ _ _ _ _ _ _ _ _ _ _ _ _ _ _ _ _ _ _ _ _ _ _ _ _ _ _ _ _ _ _ _ _ _ _ _ _ _ _ _ _ _ _ _ _ _ _ _ _ _ _ _ _ _ _ _ _ _ _ _ _ _ _ _ _ _ _ _ _ _ _ _ _ _ _ _ _ _ _ _ _ _ _ _ _ _ _ _ _ _ _ _ _ _ _ _ _ _ _ _ _ _ _ _ _ _ _ _ _ _ _ _ _ _ _ _ _ _ _ _ _ _ _ _ _ _ _ _ _ _ _ _ _ _ _ _ _ _ _ _ _ _ _ _ _ _ _ _ _ _ _ _ _ _ _ _ _ _ _ _ _ _ _ _ _ _ _ _ _ _ _ _ _ _ _ _ _ _ _ _ _ _ _ _ _ _ _ _ _ _ _ _ _ _ _ _ _ _ _ _ _ _ _ _ _ _ _ _ _ _ _ _ _ _ _ _ _ _ _ _ _ _ _ _ _ _ _ _ _ _ _ _ _ _ _ _ _ _ _ _ _ _ _ _ _ _ _ _ _ _ _ _ _ _ _ _ _ _ _ _ _ _ _ _ _ _ _ _ _ _ _ _ _ _ _ _ _ _ _ _ _ ?_
  intro v50 v51 v328 v329 v330 v331 v332 v333 v334 v335 v336 v337 v338 v339 v340 v341 v342 v343 v344 v345 w31 hBw31
  clear cw30_bd_0 cw30_bd_1 cw30_bd_2 cw30_bd_3 cw30_bd_l lWw30 hBw30
  have lWw31 : W.heap.size ≤ w31.heap.size := hBw31.size
  clear HX HY K1 K2 K3 K4
  go_wp2_with fail
  refine (drawCommutatorOf_c _ w31 (hv.below hBw31)).mono ?_
  rintro e w32 ⟨⟨e0, e1, e2, e3, f0, f1, f2, f3, rfl⟩, bw32⟩
  have zw32 : w31.heap.size ≤ w32.heap.size := bw32.size
  have lWw32 : W.heap.size ≤ w32.heap.size := by omega
  have hBw32 : Below W.heap.size W w32 := hBw31.trans (bw32.mono (by omega))
  clear zw32 bw32 lWw31 hBw31
  go_wp2_with fail
  generalize hww33 : World.alloc (World.alloc _ _) _ = w33
  obtain ⟨be, hbe⟩ : ∃ b, w32.heap.size = b := ⟨_, rfl⟩
  obtain ⟨bf, hbf⟩ : ∃ b, w32.heap.size + 1 = b := ⟨_, rfl⟩
  have bbw33 : Below be w32 w33 := by subst hww33 hbe; exact (by repeat' (first | (with_reducible exact Below.refl _ _) | (with_reducible assumption) | (with_reducible refine below_drewN ?_ _) | (with_reducible refine Below.drew ?_) | (with_reducible refine Below.alloc ?_ ?_ _) | (with_reducible refine Below.setCell ?_ ?_ _) | (with_reducible refine Below.trans ?_ (Below.mono (by with_reducible assumption) ?_)) | go_size | (dsimp only; omega)))
  have cw33_be_0 : w33.cell? ⟨be, 0, none⟩ = some (.int .i64 e0) := by subst hww33 hbe; first | (go_cell; done) | (go_simp; done)
  have cw33_be_1 : w33.cell? ⟨be, 1, none⟩ = some (.int .i64 e1) := by subst hww33 hbe; first | (go_cell; done) | (go_simp; done)
  have cw33_be_2 : w33.cell? ⟨be, 2, none⟩ = some (.int .i64 e2) := by subst hww33 hbe; first | (go_cell; done) | (go_simp; done)
  have cw33_be_3 : w33.cell? ⟨be, 3, none⟩ = some (.int .i64 e3) := by subst hww33 hbe; first | (go_cell; done) | (go_simp; done)
  have cw33_be_l : be < w33.heap.size := by subst hww33 hbe; go_size
  have cw33_bf_0 : w33.cell? ⟨bf, 0, none⟩ = some (.int .i64 f0) := by subst hww33 hbf; first | (go_cell; done) | (go_simp; done)
  have cw33_bf_1 : w33.cell? ⟨bf, 1, none⟩ = some (.int .i64 f1) := by subst hww33 hbf; first | (go_cell; done) | (go_simp; done)
  have cw33_bf_2 : w33.cell? ⟨bf, 2, none⟩ = some (.int .i64 f2) := by subst hww33 hbf; first | (go_cell; done) | (go_simp; done)
  have cw33_bf_3 : w33.cell? ⟨bf, 3, none⟩ = some (.int .i64 f3) := by subst hww33 hbf; first | (go_cell; done) | (go_simp; done)
  have cw33_bf_l : bf < w33.heap.size := by subst hww33 hbf; go_size
  have yw33 := bbw33.size
  (try rw [hbe])
  have hbf2 : be + 1 = bf := by omega
  (try rw [hbf2])
  clear hbf2
  clear hww33
  have zw33 : w32.heap.size ≤ w33.heap.size := yw33
  have lWw33 : W.heap.size ≤ w33.heap.size := by omega
  have hBw33 : Below W.heap.size W w33 := hBw32.trans (bbw33.mono (by omega))
  clear zw33 bbw33 lWw32 hBw32
  clear yw33 hbe hbf
  obtain ⟨x0, x1, x2, x3, x4, K1, K2⟩ := comm_all e0 e1 e2 e3 f0 f1 f2 f3
  refine (K1.out.get _).mono ?_
  rintro e w34 ⟨rfl, bw34⟩
  have zw34 : w33.heap.size ≤ w34.heap.size := bw34.size
  have cw34_be_0 : w34.cell? ⟨be, 0, none⟩ = some (.int .i64 e0) := by rw [bw34.cell (p := ⟨be, 0, none⟩) (by dsimp only; omega)]; exact cw33_be_0
  have cw34_be_1 : w34.cell? ⟨be, 1, none⟩ = some (.int .i64 e1) := by rw [bw34.cell (p := ⟨be, 1, none⟩) (by dsimp only; omega)]; exact cw33_be_1
  have cw34_be_2 : w34.cell? ⟨be, 2, none⟩ = some (.int .i64 e2) := by rw [bw34.cell (p := ⟨be, 2, none⟩) (by dsimp only; omega)]; exact cw33_be_2
  have cw34_be_3 : w34.cell? ⟨be, 3, none⟩ = some (.int .i64 e3) := by rw [bw34.cell (p := ⟨be, 3, none⟩) (by dsimp only; omega)]; exact cw33_be_3
  have cw34_be_l : be < w34.heap.size := by omega
  have cw34_bf_0 : w34.cell? ⟨bf, 0, none⟩ = some (.int .i64 f0) := by rw [bw34.cell (p := ⟨bf, 0, none⟩) (by dsimp only; omega)]; exact cw33_bf_0
  have cw34_bf_1 : w34.cell? ⟨bf, 1, none⟩ = some (.int .i64 f1) := by rw [bw34.cell (p := ⟨bf, 1, none⟩) (by dsimp only; omega)]; exact cw33_bf_1
  have cw34_bf_2 : w34.cell? ⟨bf, 2, none⟩ = some (.int .i64 f2) := by rw [bw34.cell (p := ⟨bf, 2, none⟩) (by dsimp only; omega)]; exact cw33_bf_2
  have cw34_bf_3 : w34.cell? ⟨bf, 3, none⟩ = some (.int .i64 f3) := by rw [bw34.cell (p := ⟨bf, 3, none⟩) (by dsimp only; omega)]; exact cw33_bf_3
  have cw34_bf_l : bf < w34.heap.size := by omega
  have lWw34 : W.heap.size ≤ w34.heap.size := by omega
  have hBw34 : Below W.heap.size W w34 := hBw33.trans (bw34.mono (by omega))
  clear zw34 bw34 cw33_be_0 cw33_be_1 cw33_be_2 cw33_be_3 cw33_be_l cw33_bf_0 cw33_bf_1 cw33_bf_2 cw33_bf_3 cw33_bf_l lWw33 hBw33
  go_wp2_with fail
  generalize hww35 : World.alloc _ _ = w35
  obtain ⟨bx, hbx⟩ : ∃ b, w34.heap.size = b := ⟨_, rfl⟩
  have bbw35 : Below bx w34 w35 := by subst hww35 hbx; exact (by repeat' (first | (with_reducible exact Below.refl _ _) | (with_reducible assumption) | (with_reducible refine below_drewN ?_ _) | (with_reducible refine Below.drew ?_) | (with_reducible refine Below.alloc ?_ ?_ _) | (with_reducible refine Below.setCell ?_ ?_ _) | (with_reducible refine Below.trans ?_ (Below.mono (by with_reducible assumption) ?_)) | go_size | (dsimp only; omega)))
  have cw35_bx_0 : w35.cell? ⟨bx, 0, none⟩ = some (.int .i64 x0) := by subst hww35 hbx; first | (go_cell; done) | (go_simp; done)
  have cw35_bx_1 : w35.cell? ⟨bx, 1, none⟩ = some (.int .i64 x1) := by subst hww35 hbx; first | (go_cell; done) | (go_simp; done)
  have cw35_bx_2 : w35.cell? ⟨bx, 2, none⟩ = some (.int .i64 x2) := by subst hww35 hbx; first | (go_cell; done) | (go_simp; done)
  have cw35_bx_3 : w35.cell? ⟨bx, 3, none⟩ = some (.int .i64 x3) := by subst hww35 hbx; first | (go_cell; done) | (go_simp; done)
  have cw35_bx_l : bx < w35.heap.size := by subst hww35 hbx; go_size
  have yw35 := bbw35.size
  (try rw [hbx])
  clear hww35
  have zw35 : w34.heap.size ≤ w35.heap.size := yw35
  have cw35_be_0 : w35.cell? ⟨be, 0, none⟩ = some (.int .i64 e0) := by rw [bbw35.cell (p := ⟨be, 0, none⟩) (by dsimp only; omega)]; exact cw34_be_0
  have cw35_be_1 : w35.cell? ⟨be, 1, none⟩ = some (.int .i64 e1) := by rw [bbw35.cell (p := ⟨be, 1, none⟩) (by dsimp only; omega)]; exact cw34_be_1
  have cw35_be_2 : w35.cell? ⟨be, 2, none⟩ = some (.int .i64 e2) := by rw [bbw35.cell (p := ⟨be, 2, none⟩) (by dsimp only; omega)]; exact cw34_be_2
  have cw35_be_3 : w35.cell? ⟨be, 3, none⟩ = some (.int .i64 e3) := by rw [bbw35.cell (p := ⟨be, 3, none⟩) (by dsimp only; omega)]; exact cw34_be_3
  have cw35_be_l : be < w35.heap.size := by omega
  have cw35_bf_0 : w35.cell? ⟨bf, 0, none⟩ = some (.int .i64 f0) := by rw [bbw35.cell (p := ⟨bf, 0, none⟩) (by dsimp only; omega)]; exact cw34_bf_0
  have cw35_bf_1 : w35.cell? ⟨bf, 1, none⟩ = some (.int .i64 f1) := by rw [bbw35.cell (p := ⟨bf, 1, none⟩) (by dsimp only; omega)]; exact cw34_bf_1
  have cw35_bf_2 : w35.cell? ⟨bf, 2, none⟩ = some (.int .i64 f2) := by rw [bbw35.cell (p := ⟨bf, 2, none⟩) (by dsimp only; omega)]; exact cw34_bf_2
  have cw35_bf_3 : w35.cell? ⟨bf, 3, none⟩ = some (.int .i64 f3) := by rw [bbw35.cell (p := ⟨bf, 3, none⟩) (by dsimp only; omega)]; exact cw34_bf_3
  have cw35_bf_l : bf < w35.heap.size := by omega
  have lWw35 : W.heap.size ≤ w35.heap.size := by omega
  have hBw35 : Below W.heap.size W w35 := hBw34.trans (bbw35.mono (by omega))
  clear zw35 bbw35 cw34_be_0 cw34_be_1 cw34_be_2 cw34_be_3 cw34_be_l cw34_bf_0 cw34_bf_1 cw34_bf_2 cw34_bf_3 cw34_bf_l lWw34 hBw34
  clear yw35 hbx
  refine (K2.out.get _).mono ?_
  rintro e w36 ⟨rfl, bw36⟩
  have zw36 : w35.heap.size ≤ w36.heap.size := bw36.size
  have cw36_be_0 : w36.cell? ⟨be, 0, none⟩ = some (.int .i64 e0) := by rw [bw36.cell (p := ⟨be, 0, none⟩) (by dsimp only; omega)]; exact cw35_be_0
  have cw36_be_1 : w36.cell? ⟨be, 1, none⟩ = some (.int .i64 e1) := by rw [bw36.cell (p := ⟨be, 1, none⟩) (by dsimp only; omega)]; exact cw35_be_1
  have cw36_be_2 : w36.cell? ⟨be, 2, none⟩ = some (.int .i64 e2) := by rw [bw36.cell (p := ⟨be, 2, none⟩) (by dsimp only; omega)]; exact cw35_be_2
  have cw36_be_3 : w36.cell? ⟨be, 3, none⟩ = some (.int .i64 e3) := by rw [bw36.cell (p := ⟨be, 3, none⟩) (by dsimp only; omega)]; exact cw35_be_3
  have cw36_be_l : be < w36.heap.size := by omega
  have cw36_bf_0 : w36.cell? ⟨bf, 0, none⟩ = some (.int .i64 f0) := by rw [bw36.cell (p := ⟨bf, 0, none⟩) (by dsimp only; omega)]; exact cw35_bf_0
  have cw36_bf_1 : w36.cell? ⟨bf, 1, none⟩ = some (.int .i64 f1) := by rw [bw36.cell (p := ⟨bf, 1, none⟩) (by dsimp only; omega)]; exact cw35_bf_1
  have cw36_bf_2 : w36.cell? ⟨bf, 2, none⟩ = some (.int .i64 f2) := by rw [bw36.cell (p := ⟨bf, 2, none⟩) (by dsimp only; omega)]; exact cw35_bf_2
  have cw36_bf_3 : w36.cell? ⟨bf, 3, none⟩ = some (.int .i64 f3) := by rw [bw36.cell (p := ⟨bf, 3, none⟩) (by dsimp only; omega)]; exact cw35_bf_3
  have cw36_bf_l : bf < w36.heap.size := by omega
  have cw36_bx_0 : w36.cell? ⟨bx, 0, none⟩ = some (.int .i64 x0) := by rw [bw36.cell (p := ⟨bx, 0, none⟩) (by dsimp only; omega)]; exact cw35_bx_0
  have cw36_bx_1 : w36.cell? ⟨bx, 1, none⟩ = some (.int .i64 x1) := by rw [bw36.cell (p := ⟨bx, 1, none⟩) (by dsimp only; omega)]; exact cw35_bx_1
  have cw36_bx_2 : w36.cell? ⟨bx, 2, none⟩ = some (.int .i64 x2) := by rw [bw36.cell (p := ⟨bx, 2, none⟩) (by dsimp only; omega)]; exact cw35_bx_2
  have cw36_bx_3 : w36.cell? ⟨bx, 3, none⟩ = some (.int .i64 x3) := by rw [bw36.cell (p := ⟨bx, 3, none⟩) (by dsimp only; omega)]; exact cw35_bx_3
  have cw36_bx_l : bx < w36.heap.size := by omega
  have lWw36 : W.heap.size ≤ w36.heap.size := by omega
  have hBw36 : Below W.heap.size W w36 := hBw35.trans (bw36.mono (by omega))
  clear zw36 bw36 cw35_be_0 cw35_be_1 cw35_be_2 cw35_be_3 cw35_be_l cw35_bf_0 cw35_bf_1 cw35_bf_2 cw35_bf_3 cw35_bf_l cw35_bx_0 cw35_bx_1 cw35_bx_2 cw35_bx_3 cw35_bx_l lWw35 hBw35
  go_wp2_with fail
  generalize hww37 : World.alloc _ _ = w37
  obtain ⟨by1, hby1⟩ : ∃ b, w36.heap.size = b := ⟨_, rfl⟩
  have bbw37 : Below by1 w36 w37 := by subst hww37 hby1; exact (by repeat' (first | (with_reducible exact Below.refl _ _) | (with_reducible assumption) | (with_reducible refine below_drewN ?_ _) | (with_reducible refine Below.drew ?_) | (with_reducible refine Below.alloc ?_ ?_ _) | (with_reducible refine Below.setCell ?_ ?_ _) | (with_reducible refine Below.trans ?_ (Below.mono (by with_reducible assumption) ?_)) | go_size | (dsimp only; omega)))
  have cw37_by1_0 : w37.cell? ⟨by1, 0, none⟩ = some (.int .i64 x0) := by subst hww37 hby1; first | (go_cell; done) | (go_simp; done)
  have cw37_by1_1 : w37.cell? ⟨by1, 1, none⟩ = some (.int .i64 x1) := by subst hww37 hby1; first | (go_cell; done) | (go_simp; done)
  have cw37_by1_2 : w37.cell? ⟨by1, 2, none⟩ = some (.int .i64 x2) := by subst hww37 hby1; first | (go_cell; done) | (go_simp; done)
  have cw37_by1_3 : w37.cell? ⟨by1, 3, none⟩ = some (.int .i64 x3) := by subst hww37 hby1; first | (go_cell; done) | (go_simp; done)
  have cw37_by1_l : by1 < w37.heap.size := by subst hww37 hby1; go_size
  have yw37 := bbw37.size
  (try rw [hby1])
  clear hww37
  have zw37 : w36.heap.size ≤ w37.heap.size := yw37
  have cw37_be_0 : w37.cell? ⟨be, 0, none⟩ = some (.int .i64 e0) := by rw [bbw37.cell (p := ⟨be, 0, none⟩) (by dsimp only; omega)]; exact cw36_be_0
  have cw37_be_1 : w37.cell? ⟨be, 1, none⟩ = some (.int .i64 e1) := by rw [bbw37.cell (p := ⟨be, 1, none⟩) (by dsimp only; omega)]; exact cw36_be_1
  have cw37_be_2 : w37.cell? ⟨be, 2, none⟩ = some (.int .i64 e2) := by rw [bbw37.cell (p := ⟨be, 2, none⟩) (by dsimp only; omega)]; exact cw36_be_2
  have cw37_be_3 : w37.cell? ⟨be, 3, none⟩ = some (.int .i64 e3) := by rw [bbw37.cell (p := ⟨be, 3, none⟩) (by dsimp only; omega)]; exact cw36_be_3
  have cw37_be_l : be < w37.heap.size := by omega
  have cw37_bf_0 : w37.cell? ⟨bf, 0, none⟩ = some (.int .i64 f0) := by rw [bbw37.cell (p := ⟨bf, 0, none⟩) (by dsimp only; omega)]; exact cw36_bf_0
  have cw37_bf_1 : w37.cell? ⟨bf, 1, none⟩ = some (.int .i64 f1) := by rw [bbw37.cell (p := ⟨bf, 1, none⟩) (by dsimp only; omega)]; exact cw36_bf_1
  have cw37_bf_2 : w37.cell? ⟨bf, 2, none⟩ = some (.int .i64 f2) := by rw [bbw37.cell (p := ⟨bf, 2, none⟩) (by dsimp only; omega)]; exact cw36_bf_2
  have cw37_bf_3 : w37.cell? ⟨bf, 3, none⟩ = some (.int .i64 f3) := by rw [bbw37.cell (p := ⟨bf, 3, none⟩) (by dsimp only; omega)]; exact cw36_bf_3
  have cw37_bf_l : bf < w37.heap.size := by omega
  have cw37_bx_0 : w37.cell? ⟨bx, 0, none⟩ = some (.int .i64 x0) := by rw [bbw37.cell (p := ⟨bx, 0, none⟩) (by dsimp only; omega)]; exact cw36_bx_0
  have cw37_bx_1 : w37.cell? ⟨bx, 1, none⟩ = some (.int .i64 x1) := by rw [bbw37.cell (p := ⟨bx, 1, none⟩) (by dsimp only; omega)]; exact cw36_bx_1
  have cw37_bx_2 : w37.cell? ⟨bx, 2, none⟩ = some (.int .i64 x2) := by rw [bbw37.cell (p := ⟨bx, 2, none⟩) (by dsimp only; omega)]; exact cw36_bx_2
  have cw37_bx_3 : w37.cell? ⟨bx, 3, none⟩ = some (.int .i64 x3) := by rw [bbw37.cell (p := ⟨bx, 3, none⟩) (by dsimp only; omega)]; exact cw36_bx_3
  have cw37_bx_l : bx < w37.heap.size := by omega
  have lWw37 : W.heap.size ≤ w37.heap.size := by omega
  have hBw37 : Below W.heap.size W w37 := hBw36.trans (bbw37.mono (by omega))
  clear zw37 bbw37 cw36_be_0 cw36_be_1 cw36_be_2 cw36_be_3 cw36_be_l cw36_bf_0 cw36_bf_1 cw36_bf_2 cw36_bf_3 cw36_bf_l cw36_bx_0 cw36_bx_1 cw36_bx_2 cw36_bx_3 cw36_bx_l lWw36 hBw36
  clear yw37 hby1
  clear cw37_be_0 cw37_be_1 cw37_be_2 cw37_be_3 cw37_be_l cw37_bf_0 cw37_bf_1 cw37_bf_2 cw37_bf_3 cw37_bf_l
  refine (drawParseMatrix_c _ w37 (hv.below hBw37)).mono ?_
  rintro e w38 ⟨str, rfl, hstr, bw38⟩
  have zw38 : w37.heap.size ≤ w38.heap.size := bw38.size
  have cw38_bx_0 : w38.cell? ⟨bx, 0, none⟩ = some (.int .i64 x0) := by rw [bw38.cell (p := ⟨bx, 0, none⟩) (by dsimp only; omega)]; exact cw37_bx_0
  have cw38_bx_1 : w38.cell? ⟨bx, 1, none⟩ = some (.int .i64 x1) := by rw [bw38.cell (p := ⟨bx, 1, none⟩) (by dsimp only; omega)]; exact cw37_bx_1
  have cw38_bx_2 : w38.cell? ⟨bx, 2, none⟩ = some (.int .i64 x2) := by rw [bw38.cell (p := ⟨bx, 2, none⟩) (by dsimp only; omega)]; exact cw37_bx_2
  have cw38_bx_3 : w38.cell? ⟨bx, 3, none⟩ = some (.int .i64 x3) := by rw [bw38.cell (p := ⟨bx, 3, none⟩) (by dsimp only; omega)]; exact cw37_bx_3
  have cw38_bx_l : bx < w38.heap.size := by omega
  have cw38_by1_0 : w38.cell? ⟨by1, 0, none⟩ = some (.int .i64 x0) := by rw [bw38.cell (p := ⟨by1, 0, none⟩) (by dsimp only; omega)]; exact cw37_by1_0
  have cw38_by1_1 : w38.cell? ⟨by1, 1, none⟩ = some (.int .i64 x1) := by rw [bw38.cell (p := ⟨by1, 1, none⟩) (by dsimp only; omega)]; exact cw37_by1_1
  have cw38_by1_2 : w38.cell? ⟨by1, 2, none⟩ = some (.int .i64 x2) := by rw [bw38.cell (p := ⟨by1, 2, none⟩) (by dsimp only; omega)]; exact cw37_by1_2
  have cw38_by1_3 : w38.cell? ⟨by1, 3, none⟩ = some (.int .i64 x3) := by rw [bw38.cell (p := ⟨by1, 3, none⟩) (by dsimp only; omega)]; exact cw37_by1_3
  have cw38_by1_l : by1 < w38.heap.size := by omega
  have lWw38 : W.heap.size ≤ w38.heap.size := by omega
  have hBw38 : Below W.heap.size W w38 := hBw37.trans (bw38.mono (by omega))
  clear zw38 bw38 cw37_bx_0 cw37_bx_1 cw37_bx_2 cw37_bx_3 cw37_bx_l cw37_by1_0 cw37_by1_1 cw37_by1_2 cw37_by1_3 cw37_by1_l lWw37 hBw37
  obtain ⟨p0, p1, p2, p3, p4, hp⟩ := parseM_form' str.data.toList
  have HP := Lib.hid hp
  clear hp
  go_wp2_with fail
  refine (ParseMatrix_c str _ vm vt1 vt2 vp1 vp2 hstr (Lib.hid (HV.out _ hBw38))).mono ?_
  rintro e w39 ⟨rfl, bw39⟩
  have zw39 : w38.heap.size ≤ w39.heap.size := bw39.size
  have cw39_bx_0 : w39.cell? ⟨bx, 0, none⟩ = some (.int .i64 x0) := by rw [bw39.cell (p := ⟨bx, 0, none⟩) (by dsimp only; omega)]; exact cw38_bx_0
  have cw39_bx_1 : w39.cell? ⟨bx, 1, none⟩ = some (.int .i64 x1) := by rw [bw39.cell (p := ⟨bx, 1, none⟩) (by dsimp only; omega)]; exact cw38_bx_1
  have cw39_bx_2 : w39.cell? ⟨bx, 2, none⟩ = some (.int .i64 x2) := by rw [bw39.cell (p := ⟨bx, 2, none⟩) (by dsimp only; omega)]; exact cw38_bx_2
  have cw39_bx_3 : w39.cell? ⟨bx, 3, none⟩ = some (.int .i64 x3) := by rw [bw39.cell (p := ⟨bx, 3, none⟩) (by dsimp only; omega)]; exact cw38_bx_3
  have cw39_bx_l : bx < w39.heap.size := by omega
  have cw39_by1_0 : w39.cell? ⟨by1, 0, none⟩ = some (.int .i64 x0) := by rw [bw39.cell (p := ⟨by1, 0, none⟩) (by dsimp only; omega)]; exact cw38_by1_0
  have cw39_by1_1 : w39.cell? ⟨by1, 1, none⟩ = some (.int .i64 x1) := by rw [bw39.cell (p := ⟨by1, 1, none⟩) (by dsimp only; omega)]; exact cw38_by1_1
  have cw39_by1_2 : w39.cell? ⟨by1, 2, none⟩ = some (.int .i64 x2) := by rw [bw39.cell (p := ⟨by1, 2, none⟩) (by dsimp only; omega)]; exact cw38_by1_2
  have cw39_by1_3 : w39.cell? ⟨by1, 3, none⟩ = some (.int .i64 x3) := by rw [bw39.cell (p := ⟨by1, 3, none⟩) (by dsimp only; omega)]; exact cw38_by1_3
  have cw39_by1_l : by1 < w39.heap.size := by omega
  have lWw39 : W.heap.size ≤ w39.heap.size := by omega
  have hBw39 : Below W.heap.size W w39 := hBw38.trans (bw39.mono (by omega))
  clear zw39 bw39 cw38_bx_0 cw38_bx_1 cw38_bx_2 cw38_bx_3 cw38_bx_l cw38_by1_0 cw38_by1_1 cw38_by1_2 cw38_by1_3 cw38_by1_l lWw38 hBw38
  rw [HP.out]
  go_wp2_with fail
  generalize hww40 : World.alloc _ _ = w40
  obtain ⟨bp, hbp⟩ : ∃ b, w39.heap.size = b := ⟨_, rfl⟩
  have bbw40 : Below bp w39 w40 := by subst hww40 hbp; exact (by repeat' (first | (with_reducible exact Below.refl _ _) | (with_reducible assumption) | (with_reducible refine below_drewN ?_ _) | (with_reducible refine Below.drew ?_) | (with_reducible refine Below.alloc ?_ ?_ _) | (with_reducible refine Below.setCell ?_ ?_ _) | (with_reducible refine Below.trans ?_ (Below.mono (by with_reducible assumption) ?_)) | go_size | (dsimp only; omega)))
  have cw40_bp_0 : w40.cell? ⟨bp, 0, none⟩ = some (.int .i64 p0) := by subst hww40 hbp; first | (go_cell; done) | (go_simp; done)
  have cw40_bp_1 : w40.cell? ⟨bp, 1, none⟩ = some (.int .i64 p1) := by subst hww40 hbp; first | (go_cell; done) | (go_simp; done)
  have cw40_bp_2 : w40.cell? ⟨bp, 2, none⟩ = some (.int .i64 p2) := by subst hww40 hbp; first | (go_cell; done) | (go_simp; done)
  have cw40_bp_3 : w40.cell? ⟨bp, 3, none⟩ = some (.int .i64 p3) := by subst hww40 hbp; first | (go_cell; done) | (go_simp; done)
  have cw40_bp_l : bp < w40.heap.size := by subst hww40 hbp; go_size
  have yw40 := bbw40.size
  (try rw [hbp])
  clear hww40
  have zw40 : w39.heap.size ≤ w40.heap.size := yw40
  have cw40_bx_0 : w40.cell? ⟨bx, 0, none⟩ = some (.int .i64 x0) := by rw [bbw40.cell (p := ⟨bx, 0, none⟩) (by dsimp only; omega)]; exact cw39_bx_0
  have cw40_bx_1 : w40.cell? ⟨bx, 1, none⟩ = some (.int .i64 x1) := by rw [bbw40.cell (p := ⟨bx, 1, none⟩) (by dsimp only; omega)]; exact cw39_bx_1
  have cw40_bx_2 : w40.cell? ⟨bx, 2, none⟩ = some (.int .i64 x2) := by rw [bbw40.cell (p := ⟨bx, 2, none⟩) (by dsimp only; omega)]; exact cw39_bx_2
  have cw40_bx_3 : w40.cell? ⟨bx, 3, none⟩ = some (.int .i64 x3) := by rw [bbw40.cell (p := ⟨bx, 3, none⟩) (by dsimp only; omega)]; exact cw39_bx_3
  have cw40_bx_l : bx < w40.heap.size := by omega
  have cw40_by1_0 : w40.cell? ⟨by1, 0, none⟩ = some (.int .i64 x0) := by rw [bbw40.cell (p := ⟨by1, 0, none⟩) (by dsimp only; omega)]; exact cw39_by1_0
  have cw40_by1_1 : w40.cell? ⟨by1, 1, none⟩ = some (.int .i64 x1) := by rw [bbw40.cell (p := ⟨by1, 1, none⟩) (by dsimp only; omega)]; exact cw39_by1_1
  have cw40_by1_2 : w40.cell? ⟨by1, 2, none⟩ = some (.int .i64 x2) := by rw [bbw40.cell (p := ⟨by1, 2, none⟩) (by dsimp only; omega)]; exact cw39_by1_2
  have cw40_by1_3 : w40.cell? ⟨by1, 3, none⟩ = some (.int .i64 x3) := by rw [bbw40.cell (p := ⟨by1, 3, none⟩) (by dsimp only; omega)]; exact cw39_by1_3
  have cw40_by1_l : by1 < w40.heap.size := by omega
  have lWw40 : W.heap.size ≤ w40.heap.size := by omega
  have hBw40 : Below W.heap.size W w40 := hBw39.trans (bbw40.mono (by omega))
  clear zw40 bbw40 cw39_bx_0 cw39_bx_1 cw39_bx_2 cw39_bx_3 cw39_bx_l cw39_by1_0 cw39_by1_1 cw39_by1_2 cw39_by1_3 cw39_by1_l lWw39 hBw39
  clear yw40 hbp
  refine (sParseMatrix_c str _ hstr).mono ?_
  rintro e w41 ⟨rfl, bw41⟩
  have zw41 : w40.heap.size ≤ w41.heap.size := bw41.size
  have cw41_bx_0 : w41.cell? ⟨bx, 0, none⟩ = some (.int .i64 x0) := by rw [bw41.cell (p := ⟨bx, 0, none⟩) (by dsimp only; omega)]; exact cw40_bx_0
  have cw41_bx_1 : w41.cell? ⟨bx, 1, none⟩ = some (.int .i64 x1) := by rw [bw41.cell (p := ⟨bx, 1, none⟩) (by dsimp only; omega)]; exact cw40_bx_1
  have cw41_bx_2 : w41.cell? ⟨bx, 2, none⟩ = some (.int .i64 x2) := by rw [bw41.cell (p := ⟨bx, 2, none⟩) (by dsimp only; omega)]; exact cw40_bx_2
  have cw41_bx_3 : w41.cell? ⟨bx, 3, none⟩ = some (.int .i64 x3) := by rw [bw41.cell (p := ⟨bx, 3, none⟩) (by dsimp only; omega)]; exact cw40_bx_3
  have cw41_bx_l : bx < w41.heap.size := by omega
  have cw41_by1_0 : w41.cell? ⟨by1, 0, none⟩ = some (.int .i64 x0) := by rw [bw41.cell (p := ⟨by1, 0, none⟩) (by dsimp only; omega)]; exact cw40_by1_0
  have cw41_by1_1 : w41.cell? ⟨by1, 1, none⟩ = some (.int .i64 x1) := by rw [bw41.cell (p := ⟨by1, 1, none⟩) (by dsimp only; omega)]; exact cw40_by1_1
  have cw41_by1_2 : w41.cell? ⟨by1, 2, none⟩ = some (.int .i64 x2) := by rw [bw41.cell (p := ⟨by1, 2, none⟩) (by dsimp only; omega)]; exact cw40_by1_2
  have cw41_by1_3 : w41.cell? ⟨by1, 3, none⟩ = some (.int .i64 x3) := by rw [bw41.cell (p := ⟨by1, 3, none⟩) (by dsimp only; omega)]; exact cw40_by1_3
  have cw41_by1_l : by1 < w41.heap.size := by omega
  have cw41_bp_0 : w41.cell? ⟨bp, 0, none⟩ = some (.int .i64 p0) := by rw [bw41.cell (p := ⟨bp, 0, none⟩) (by dsimp only; omega)]; exact cw40_bp_0
  have cw41_bp_1 : w41.cell? ⟨bp, 1, none⟩ = some (.int .i64 p1) := by rw [bw41.cell (p := ⟨bp, 1, none⟩) (by dsimp only; omega)]; exact cw40_bp_1
  have cw41_bp_2 : w41.cell? ⟨bp, 2, none⟩ = some (.int .i64 p2) := by rw [bw41.cell (p := ⟨bp, 2, none⟩) (by dsimp only; omega)]; exact cw40_bp_2
  have cw41_bp_3 : w41.cell? ⟨bp, 3, none⟩ = some (.int .i64 p3) := by rw [bw41.cell (p := ⟨bp, 3, none⟩) (by dsimp only; omega)]; exact cw40_bp_3
  have cw41_bp_l : bp < w41.heap.size := by omega
  have lWw41 : W.heap.size ≤ w41.heap.size := by omega
  have hBw41 : Below W.heap.size W w41 := hBw40.trans (bw41.mono (by omega))
  clear zw41 bw41 cw40_bx_0 cw40_bx_1 cw40_bx_2 cw40_bx_3 cw40_bx_l cw40_by1_0 cw40_by1_1 cw40_by1_2 cw40_by1_3 cw40_by1_l cw40_bp_0 cw40_bp_1 cw40_bp_2 cw40_bp_3 cw40_bp_l lWw40 hBw40
  rw [HP.out]
  go_wp2_with fail
  generalize hww42 : World.alloc _ _ = w42
  obtain ⟨bq, hbq⟩ : ∃ b, w41.heap.size = b := ⟨_, rfl⟩
  have bbw42 : Below bq w41 w42 := by subst hww42 hbq; exact (by repeat' (first | (with_reducible exact Below.refl _ _) | (with_reducible assumption) | (with_reducible refine below_drewN ?_ _) | (with_reducible refine Below.drew ?_) | (with_reducible refine Below.alloc ?_ ?_ _) | (with_reducible refine Below.setCell ?_ ?_ _) | (with_reducible refine Below.trans ?_ (Below.mono (by with_reducible assumption) ?_)) | go_size | (dsimp only; omega)))
  have cw42_bq_0 : w42.cell? ⟨bq, 0, none⟩ = some (.int .i64 p0) := by subst hww42 hbq; first | (go_cell; done) | (go_simp; done)
  have cw42_bq_1 : w42.cell? ⟨bq, 1, none⟩ = some (.int .i64 p1) := by subst hww42 hbq; first | (go_cell; done) | (go_simp; done)
  have cw42_bq_2 : w42.cell? ⟨bq, 2, none⟩ = some (.int .i64 p2) := by subst hww42 hbq; first | (go_cell; done) | (go_simp; done)
  have cw42_bq_3 : w42.cell? ⟨bq, 3, none⟩ = some (.int .i64 p3) := by subst hww42 hbq; first | (go_cell; done) | (go_simp; done)
  have cw42_bq_l : bq < w42.heap.size := by subst hww42 hbq; go_size
  have yw42 := bbw42.size
  (try rw [hbq])
  clear hww42
  have zw42 : w41.heap.size ≤ w42.heap.size := yw42
  have cw42_bx_0 : w42.cell? ⟨bx, 0, none⟩ = some (.int .i64 x0) := by rw [bbw42.cell (p := ⟨bx, 0, none⟩) (by dsimp only; omega)]; exact cw41_bx_0
  have cw42_bx_1 : w42.cell? ⟨bx, 1, none⟩ = some (.int .i64 x1) := by rw [bbw42.cell (p := ⟨bx, 1, none⟩) (by dsimp only; omega)]; exact cw41_bx_1
  have cw42_bx_2 : w42.cell? ⟨bx, 2, none⟩ = some (.int .i64 x2) := by rw [bbw42.cell (p := ⟨bx, 2, none⟩) (by dsimp only; omega)]; exact cw41_bx_2
  have cw42_bx_3 : w42.cell? ⟨bx, 3, none⟩ = some (.int .i64 x3) := by rw [bbw42.cell (p := ⟨bx, 3, none⟩) (by dsimp only; omega)]; exact cw41_bx_3
  have cw42_bx_l : bx < w42.heap.size := by omega
  have cw42_by1_0 : w42.cell? ⟨by1, 0, none⟩ = some (.int .i64 x0) := by rw [bbw42.cell (p := ⟨by1, 0, none⟩) (by dsimp only; omega)]; exact cw41_by1_0
  have cw42_by1_1 : w42.cell? ⟨by1, 1, none⟩ = some (.int .i64 x1) := by rw [bbw42.cell (p := ⟨by1, 1, none⟩) (by dsimp only; omega)]; exact cw41_by1_1
  have cw42_by1_2 : w42.cell? ⟨by1, 2, none⟩ = some (.int .i64 x2) := by rw [bbw42.cell (p := ⟨by1, 2, none⟩) (by dsimp only; omega)]; exact cw41_by1_2
  have cw42_by1_3 : w42.cell? ⟨by1, 3, none⟩ = some (.int .i64 x3) := by rw [bbw42.cell (p := ⟨by1, 3, none⟩) (by dsimp only; omega)]; exact cw41_by1_3
  have cw42_by1_l : by1 < w42.heap.size := by omega
  have cw42_bp_0 : w42.cell? ⟨bp, 0, none⟩ = some (.int .i64 p0) := by rw [bbw42.cell (p := ⟨bp, 0, none⟩) (by dsimp only; omega)]; exact cw41_bp_0
  have cw42_bp_1 : w42.cell? ⟨bp, 1, none⟩ = some (.int .i64 p1) := by rw [bbw42.cell (p := ⟨bp, 1, none⟩) (by dsimp only; omega)]; exact cw41_bp_1
  have cw42_bp_2 : w42.cell? ⟨bp, 2, none⟩ = some (.int .i64 p2) := by rw [bbw42.cell (p := ⟨bp, 2, none⟩) (by dsimp only; omega)]; exact cw41_bp_2
  have cw42_bp_3 : w42.cell? ⟨bp, 3, none⟩ = some (.int .i64 p3) := by rw [bbw42.cell (p := ⟨bp, 3, none⟩) (by dsimp only; omega)]; exact cw41_bp_3
  have cw42_bp_l : bp < w42.heap.size := by omega
  have lWw42 : W.heap.size ≤ w42.heap.size := by omega
  have hBw42 : Below W.heap.size W w42 := hBw41.trans (bbw42.mono (by omega))
  clear zw42 bbw42 cw41_bx_0 cw41_bx_1 cw41_bx_2 cw41_bx_3 cw41_bx_l cw41_by1_0 cw41_by1_1 cw41_by1_2 cw41_by1_3 cw41_by1_l cw41_bp_0 cw41_bp_1 cw41_bp_2 cw41_bp_3 cw41_bp_l lWw41 hBw41
  clear yw42 hbq
  refine (drawNamedMatrix_c _ w42 (hv.below hBw42)).mono ?_
  rintro e w43 ⟨nm, rfl, hnm, bw43⟩
  have zw43 : w42.heap.size ≤ w43.heap.size := bw43.size
  have cw43_bx_0 : w43.cell? ⟨bx, 0, none⟩ = some (.int .i64 x0) := by rw [bw43.cell (p := ⟨bx, 0, none⟩) (by dsimp only; omega)]; exact cw42_bx_0
  have cw43_bx_1 : w43.cell? ⟨bx, 1, none⟩ = some (.int .i64 x1) := by rw [bw43.cell (p := ⟨bx, 1, none⟩) (by dsimp only; omega)]; exact cw42_bx_1
  have cw43_bx_2 : w43.cell? ⟨bx, 2, none⟩ = some (.int .i64 x2) := by rw [bw43.cell (p := ⟨bx, 2, none⟩) (by dsimp only; omega)]; exact cw42_bx_2
  have cw43_bx_3 : w43.cell? ⟨bx, 3, none⟩ = some (.int .i64 x3) := by rw [bw43.cell (p := ⟨bx, 3, none⟩) (by dsimp only; omega)]; exact cw42_bx_3
  have cw43_bx_l : bx < w43.heap.size := by omega
  have cw43_by1_0 : w43.cell? ⟨by1, 0, none⟩ = some (.int .i64 x0) := by rw [bw43.cell (p := ⟨by1, 0, none⟩) (by dsimp only; omega)]; exact cw42_by1_0
  have cw43_by1_1 : w43.cell? ⟨by1, 1, none⟩ = some (.int .i64 x1) := by rw [bw43.cell (p := ⟨by1, 1, none⟩) (by dsimp only; omega)]; exact cw42_by1_1
  have cw43_by1_2 : w43.cell? ⟨by1, 2, none⟩ = some (.int .i64 x2) := by rw [bw43.cell (p := ⟨by1, 2, none⟩) (by dsimp only; omega)]; exact cw42_by1_2
  have cw43_by1_3 : w43.cell? ⟨by1, 3, none⟩ = some (.int .i64 x3) := by rw [bw43.cell (p := ⟨by1, 3, none⟩) (by dsimp only; omega)]; exact cw42_by1_3
  have cw43_by1_l : by1 < w43.heap.size := by omega
  have cw43_bp_0 : w43.cell? ⟨bp, 0, none⟩ = some (.int .i64 p0) := by rw [bw43.cell (p := ⟨bp, 0, none⟩) (by dsimp only; omega)]; exact cw42_bp_0
  have cw43_bp_1 : w43.cell? ⟨bp, 1, none⟩ = some (.int .i64 p1) := by rw [bw43.cell (p := ⟨bp, 1, none⟩) (by dsimp only; omega)]; exact cw42_bp_1
  have cw43_bp_2 : w43.cell? ⟨bp, 2, none⟩ = some (.int .i64 p2) := by rw [bw43.cell (p := ⟨bp, 2, none⟩) (by dsimp only; omega)]; exact cw42_bp_2
  have cw43_bp_3 : w43.cell? ⟨bp, 3, none⟩ = some (.int .i64 p3) := by rw [bw43.cell (p := ⟨bp, 3, none⟩) (by dsimp only; omega)]; exact cw42_bp_3
  have cw43_bp_l : bp < w43.heap.size := by omega
  have cw43_bq_0 : w43.cell? ⟨bq, 0, none⟩ = some (.int .i64 p0) := by rw [bw43.cell (p := ⟨bq, 0, none⟩) (by dsimp only; omega)]; exact cw42_bq_0
  have cw43_bq_1 : w43.cell? ⟨bq, 1, none⟩ = some (.int .i64 p1) := by rw [bw43.cell (p := ⟨bq, 1, none⟩) (by dsimp only; omega)]; exact cw42_bq_1
  have cw43_bq_2 : w43.cell? ⟨bq, 2, none⟩ = some (.int .i64 p2) := by rw [bw43.cell (p := ⟨bq, 2, none⟩) (by dsimp only; omega)]; exact cw42_bq_2
  have cw43_bq_3 : w43.cell? ⟨bq, 3, none⟩ = some (.int .i64 p3) := by rw [bw43.cell (p := ⟨bq, 3, none⟩) (by dsimp only; omega)]; exact cw42_bq_3
  have cw43_bq_l : bq < w43.heap.size := by omega
  have lWw43 : W.heap.size ≤ w43.heap.size := by omega
  have hBw43 : Below W.heap.size W w43 := hBw42.trans (bw43.mono (by omega))
  clear zw43 bw43 cw42_bx_0 cw42_bx_1 cw42_bx_2 cw42_bx_3 cw42_bx_l cw42_by1_0 cw42_by1_1 cw42_by1_2 cw42_by1_3 cw42_by1_l cw42_bp_0 cw42_bp_1 cw42_bp_2 cw42_bp_3 cw42_bp_l cw42_bq_0 cw42_bq_1 cw42_bq_2 cw42_bq_3 cw42_bq_l lWw42 hBw42
  obtain ⟨q0, q1, q2, q3, q4, hq, hqc⟩ := name_form nm
  have HQ := Lib.hid hq
  have HQC := Lib.hid hqc
  clear hq hqc
  go_wp2_with fail
  refine (NamedMatrix_c nm _).mono ?_
  rintro e w44 ⟨rfl, bw44⟩
  have zw44 : w43.heap.size ≤ w44.heap.size := bw44.size
  have cw44_bx_0 : w44.cell? ⟨bx, 0, none⟩ = some (.int .i64 x0) := by rw [bw44.cell (p := ⟨bx, 0, none⟩) (by dsimp only; omega)]; exact cw43_bx_0
  have cw44_bx_1 : w44.cell? ⟨bx, 1, none⟩ = some (.int .i64 x1) := by rw [bw44.cell (p := ⟨bx, 1, none⟩) (by dsimp only; omega)]; exact cw43_bx_1
  have cw44_bx_2 : w44.cell? ⟨bx, 2, none⟩ = some (.int .i64 x2) := by rw [bw44.cell (p := ⟨bx, 2, none⟩) (by dsimp only; omega)]; exact cw43_bx_2
  have cw44_bx_3 : w44.cell? ⟨bx, 3, none⟩ = some (.int .i64 x3) := by rw [bw44.cell (p := ⟨bx, 3, none⟩) (by dsimp only; omega)]; exact cw43_bx_3
  have cw44_bx_l : bx < w44.heap.size := by omega
  have cw44_by1_0 : w44.cell? ⟨by1, 0, none⟩ = some (.int .i64 x0) := by rw [bw44.cell (p := ⟨by1, 0, none⟩) (by dsimp only; omega)]; exact cw43_by1_0
  have cw44_by1_1 : w44.cell? ⟨by1, 1, none⟩ = some (.int .i64 x1) := by rw [bw44.cell (p := ⟨by1, 1, none⟩) (by dsimp only; omega)]; exact cw43_by1_1
  have cw44_by1_2 : w44.cell? ⟨by1, 2, none⟩ = some (.int .i64 x2) := by rw [bw44.cell (p := ⟨by1, 2, none⟩) (by dsimp only; omega)]; exact cw43_by1_2
  have cw44_by1_3 : w44.cell? ⟨by1, 3, none⟩ = some (.int .i64 x3) := by rw [bw44.cell (p := ⟨by1, 3, none⟩) (by dsimp only; omega)]; exact cw43_by1_3
  have cw44_by1_l : by1 < w44.heap.size := by omega
  have cw44_bp_0 : w44.cell? ⟨bp, 0, none⟩ = some (.int .i64 p0) := by rw [bw44.cell (p := ⟨bp, 0, none⟩) (by dsimp only; omega)]; exact cw43_bp_0
  have cw44_bp_1 : w44.cell? ⟨bp, 1, none⟩ = some (.int .i64 p1) := by rw [bw44.cell (p := ⟨bp, 1, none⟩) (by dsimp only; omega)]; exact cw43_bp_1
  have cw44_bp_2 : w44.cell? ⟨bp, 2, none⟩ = some (.int .i64 p2) := by rw [bw44.cell (p := ⟨bp, 2, none⟩) (by dsimp only; omega)]; exact cw43_bp_2
  have cw44_bp_3 : w44.cell? ⟨bp, 3, none⟩ = some (.int .i64 p3) := by rw [bw44.cell (p := ⟨bp, 3, none⟩) (by dsimp only; omega)]; exact cw43_bp_3
  have cw44_bp_l : bp < w44.heap.size := by omega
  have cw44_bq_0 : w44.cell? ⟨bq, 0, none⟩ = some (.int .i64 p0) := by rw [bw44.cell (p := ⟨bq, 0, none⟩) (by dsimp only; omega)]; exact cw43_bq_0
  have cw44_bq_1 : w44.cell? ⟨bq, 1, none⟩ = some (.int .i64 p1) := by rw [bw44.cell (p := ⟨bq, 1, none⟩) (by dsimp only; omega)]; exact cw43_bq_1
  have cw44_bq_2 : w44.cell? ⟨bq, 2, none⟩ = some (.int .i64 p2) := by rw [bw44.cell (p := ⟨bq, 2, none⟩) (by dsimp only; omega)]; exact cw43_bq_2
  have cw44_bq_3 : w44.cell? ⟨bq, 3, none⟩ = some (.int .i64 p3) := by rw [bw44.cell (p := ⟨bq, 3, none⟩) (by dsimp only; omega)]; exact cw43_bq_3
  have cw44_bq_l : bq < w44.heap.size := by omega
  have lWw44 : W.heap.size ≤ w44.heap.size := by omega
  have hBw44 : Below W.heap.size W w44 := hBw43.trans (bw44.mono (by omega))
  clear zw44 bw44 cw43_bx_0 cw43_bx_1 cw43_bx_2 cw43_bx_3 cw43_bx_l cw43_by1_0 cw43_by1_1 cw43_by1_2 cw43_by1_3 cw43_by1_l cw43_bp_0 cw43_bp_1 cw43_bp_2 cw43_bp_3 cw43_bp_l cw43_bq_0 cw43_bq_1 cw43_bq_2 cw43_bq_3 cw43_bq_l lWw43 hBw43
  rw [HQ.out, HQC.out]
  go_wp2_with fail
  generalize hww45 : World.alloc _ _ = w45
  obtain ⟨br, hbr⟩ : ∃ b, w44.heap.size = b := ⟨_, rfl⟩
  have bbw45 : Below br w44 w45 := by subst hww45 hbr; exact (by repeat' (first | (with_reducible exact Below.refl _ _) | (with_reducible assumption) | (with_reducible refine below_drewN ?_ _) | (with_reducible refine Below.drew ?_) | (with_reducible refine Below.alloc ?_ ?_ _) | (with_reducible refine Below.setCell ?_ ?_ _) | (with_reducible refine Below.trans ?_ (Below.mono (by with_reducible assumption) ?_)) | go_size | (dsimp only; omega)))
  have cw45_br_0 : w45.cell? ⟨br, 0, none⟩ = some (.int .i64 q0) := by subst hww45 hbr; first | (go_cell; done) | (go_simp; done)
  have cw45_br_1 : w45.cell? ⟨br, 1, none⟩ = some (.int .i64 q1) := by subst hww45 hbr; first | (go_cell; done) | (go_simp; done)
  have cw45_br_2 : w45.cell? ⟨br, 2, none⟩ = some (.int .i64 q2) := by subst hww45 hbr; first | (go_cell; done) | (go_simp; done)
  have cw45_br_3 : w45.cell? ⟨br, 3, none⟩ = some (.int .i64 q3) := by subst hww45 hbr; first | (go_cell; done) | (go_simp; done)
  have cw45_br_l : br < w45.heap.size := by subst hww45 hbr; go_size
  have yw45 := bbw45.size
  (try rw [hbr])
  clear hww45
  have zw45 : w44.heap.size ≤ w45.heap.size := yw45
  have cw45_bx_0 : w45.cell? ⟨bx, 0, none⟩ = some (.int .i64 x0) := by rw [bbw45.cell (p := ⟨bx, 0, none⟩) (by dsimp only; omega)]; exact cw44_bx_0
  have cw45_bx_1 : w45.cell? ⟨bx, 1, none⟩ = some (.int .i64 x1) := by rw [bbw45.cell (p := ⟨bx, 1, none⟩) (by dsimp only; omega)]; exact cw44_bx_1
  have cw45_bx_2 : w45.cell? ⟨bx, 2, none⟩ = some (.int .i64 x2) := by rw [bbw45.cell (p := ⟨bx, 2, none⟩) (by dsimp only; omega)]; exact cw44_bx_2
  have cw45_bx_3 : w45.cell? ⟨bx, 3, none⟩ = some (.int .i64 x3) := by rw [bbw45.cell (p := ⟨bx, 3, none⟩) (by dsimp only; omega)]; exact cw44_bx_3
  have cw45_bx_l : bx < w45.heap.size := by omega
  have cw45_by1_0 : w45.cell? ⟨by1, 0, none⟩ = some (.int .i64 x0) := by rw [bbw45.cell (p := ⟨by1, 0, none⟩) (by dsimp only; omega)]; exact cw44_by1_0
  have cw45_by1_1 : w45.cell? ⟨by1, 1, none⟩ = some (.int .i64 x1) := by rw [bbw45.cell (p := ⟨by1, 1, none⟩) (by dsimp only; omega)]; exact cw44_by1_1
  have cw45_by1_2 : w45.cell? ⟨by1, 2, none⟩ = some (.int .i64 x2) := by rw [bbw45.cell (p := ⟨by1, 2, none⟩) (by dsimp only; omega)]; exact cw44_by1_2
  have cw45_by1_3 : w45.cell? ⟨by1, 3, none⟩ = some (.int .i64 x3) := by rw [bbw45.cell (p := ⟨by1, 3, none⟩) (by dsimp only; omega)]; exact cw44_by1_3
  have cw45_by1_l : by1 < w45.heap.size := by omega
  have cw45_bp_0 : w45.cell? ⟨bp, 0, none⟩ = some (.int .i64 p0) := by rw [bbw45.cell (p := ⟨bp, 0, none⟩) (by dsimp only; omega)]; exact cw44_bp_0
  have cw45_bp_1 : w45.cell? ⟨bp, 1, none⟩ = some (.int .i64 p1) := by rw [bbw45.cell (p := ⟨bp, 1, none⟩) (by dsimp only; omega)]; exact cw44_bp_1
  have cw45_bp_2 : w45.cell? ⟨bp, 2, none⟩ = some (.int .i64 p2) := by rw [bbw45.cell (p := ⟨bp, 2, none⟩) (by dsimp only; omega)]; exact cw44_bp_2
  have cw45_bp_3 : w45.cell? ⟨bp, 3, none⟩ = some (.int .i64 p3) := by rw [bbw45.cell (p := ⟨bp, 3, none⟩) (by dsimp only; omega)]; exact cw44_bp_3
  have cw45_bp_l : bp < w45.heap.size := by omega
  have cw45_bq_0 : w45.cell? ⟨bq, 0, none⟩ = some (.int .i64 p0) := by rw [bbw45.cell (p := ⟨bq, 0, none⟩) (by dsimp only; omega)]; exact cw44_bq_0
  have cw45_bq_1 : w45.cell? ⟨bq, 1, none⟩ = some (.int .i64 p1) := by rw [bbw45.cell (p := ⟨bq, 1, none⟩) (by dsimp only; omega)]; exact cw44_bq_1
  have cw45_bq_2 : w45.cell? ⟨bq, 2, none⟩ = some (.int .i64 p2) := by rw [bbw45.cell (p := ⟨bq, 2, none⟩) (by dsimp only; omega)]; exact cw44_bq_2
  have cw45_bq_3 : w45.cell? ⟨bq, 3, none⟩ = some (.int .i64 p3) := by rw [bbw45.cell (p := ⟨bq, 3, none⟩) (by dsimp only; omega)]; exact cw44_bq_3
  have cw45_bq_l : bq < w45.heap.size := by omega
  have lWw45 : W.heap.size ≤ w45.heap.size := by omega
  have hBw45 : Below W.heap.size W w45 := hBw44.trans (bbw45.mono (by omega))
  clear zw45 bbw45 cw44_bx_0 cw44_bx_1 cw44_bx_2 cw44_bx_3 cw44_bx_l cw44_by1_0 cw44_by1_1 cw44_by1_2 cw44_by1_3 cw44_by1_l cw44_bp_0 cw44_bp_1 cw44_bp_2 cw44_bp_3 cw44_bp_l cw44_bq_0 cw44_bq_1 cw44_bq_2 cw44_bq_3 cw44_bq_l lWw44 hBw44
  clear yw45 hbr
  refine (sNamedMatrix_c nm _).mono ?_
  rintro e w46 ⟨rfl, bw46⟩
  have zw46 : w45.heap.size ≤ w46.heap.size := bw46.size
  have cw46_bx_0 : w46.cell? ⟨bx, 0, none⟩ = some (.int .i64 x0) := by rw [bw46.cell (p := ⟨bx, 0, none⟩) (by dsimp only; omega)]; exact cw45_bx_0
  have cw46_bx_1 : w46.cell? ⟨bx, 1, none⟩ = some (.int .i64 x1) := by rw [bw46.cell (p := ⟨bx, 1, none⟩) (by dsimp only; omega)]; exact cw45_bx_1
  have cw46_bx_2 : w46.cell? ⟨bx, 2, none⟩ = some (.int .i64 x2) := by rw [bw46.cell (p := ⟨bx, 2, none⟩) (by dsimp only; omega)]; exact cw45_bx_2
  have cw46_bx_3 : w46.cell? ⟨bx, 3, none⟩ = some (.int .i64 x3) := by rw [bw46.cell (p := ⟨bx, 3, none⟩) (by dsimp only; omega)]; exact cw45_bx_3
  have cw46_bx_l : bx < w46.heap.size := by omega
  have cw46_by1_0 : w46.cell? ⟨by1, 0, none⟩ = some (.int .i64 x0) := by rw [bw46.cell (p := ⟨by1, 0, none⟩) (by dsimp only; omega)]; exact cw45_by1_0
  have cw46_by1_1 : w46.cell? ⟨by1, 1, none⟩ = some (.int .i64 x1) := by rw [bw46.cell (p := ⟨by1, 1, none⟩) (by dsimp only; omega)]; exact cw45_by1_1
  have cw46_by1_2 : w46.cell? ⟨by1, 2, none⟩ = some (.int .i64 x2) := by rw [bw46.cell (p := ⟨by1, 2, none⟩) (by dsimp only; omega)]; exact cw45_by1_2
  have cw46_by1_3 : w46.cell? ⟨by1, 3, none⟩ = some (.int .i64 x3) := by rw [bw46.cell (p := ⟨by1, 3, none⟩) (by dsimp only; omega)]; exact cw45_by1_3
  have cw46_by1_l : by1 < w46.heap.size := by omega
  have cw46_bp_0 : w46.cell? ⟨bp, 0, none⟩ = some (.int .i64 p0) := by rw [bw46.cell (p := ⟨bp, 0, none⟩) (by dsimp only; omega)]; exact cw45_bp_0
  have cw46_bp_1 : w46.cell? ⟨bp, 1, none⟩ = some (.int .i64 p1) := by rw [bw46.cell (p := ⟨bp, 1, none⟩) (by dsimp only; omega)]; exact cw45_bp_1
  have cw46_bp_2 : w46.cell? ⟨bp, 2, none⟩ = some (.int .i64 p2) := by rw [bw46.cell (p := ⟨bp, 2, none⟩) (by dsimp only; omega)]; exact cw45_bp_2
  have cw46_bp_3 : w46.cell? ⟨bp, 3, none⟩ = some (.int .i64 p3) := by rw [bw46.cell (p := ⟨bp, 3, none⟩) (by dsimp only; omega)]; exact cw45_bp_3
  have cw46_bp_l : bp < w46.heap.size := by omega
  have cw46_bq_0 : w46.cell? ⟨bq, 0, none⟩ = some (.int .i64 p0) := by rw [bw46.cell (p := ⟨bq, 0, none⟩) (by dsimp only; omega)]; exact cw45_bq_0
  have cw46_bq_1 : w46.cell? ⟨bq, 1, none⟩ = some (.int .i64 p1) := by rw [bw46.cell (p := ⟨bq, 1, none⟩) (by dsimp only; omega)]; exact cw45_bq_1
  have cw46_bq_2 : w46.cell? ⟨bq, 2, none⟩ = some (.int .i64 p2) := by rw [bw46.cell (p := ⟨bq, 2, none⟩) (by dsimp only; omega)]; exact cw45_bq_2
  have cw46_bq_3 : w46.cell? ⟨bq, 3, none⟩ = some (.int .i64 p3) := by rw [bw46.cell (p := ⟨bq, 3, none⟩) (by dsimp only; omega)]; exact cw45_bq_3
  have cw46_bq_l : bq < w46.heap.size := by omega
  have cw46_br_0 : w46.cell? ⟨br, 0, none⟩ = some (.int .i64 q0) := by rw [bw46.cell (p := ⟨br, 0, none⟩) (by dsimp only; omega)]; exact cw45_br_0
  have cw46_br_1 : w46.cell? ⟨br, 1, none⟩ = some (.int .i64 q1) := by rw [bw46.cell (p := ⟨br, 1, none⟩) (by dsimp only; omega)]; exact cw45_br_1
  have cw46_br_2 : w46.cell? ⟨br, 2, none⟩ = some (.int .i64 q2) := by rw [bw46.cell (p := ⟨br, 2, none⟩) (by dsimp only; omega)]; exact cw45_br_2
  have cw46_br_3 : w46.cell? ⟨br, 3, none⟩ = some (.int .i64 q3) := by rw [bw46.cell (p := ⟨br, 3, none⟩) (by dsimp only; omega)]; exact cw45_br_3
  have cw46_br_l : br < w46.heap.size := by omega
  have lWw46 : W.heap.size ≤ w46.heap.size := by omega
  have hBw46 : Below W.heap.size W w46 := hBw45.trans (bw46.mono (by omega))
  clear zw46 bw46 cw45_bx_0 cw45_bx_1 cw45_bx_2 cw45_bx_3 cw45_bx_l cw45_by1_0 cw45_by1_1 cw45_by1_2 cw45_by1_3 cw45_by1_l cw45_bp_0 cw45_bp_1 cw45_bp_2 cw45_bp_3 cw45_bp_l cw45_bq_0 cw45_bq_1 cw45_bq_2 cw45_bq_3 cw45_bq_l cw45_br_0 cw45_br_1 cw45_br_2 cw45_br_3 cw45_br_l lWw45 hBw45
  rw [HQ.out, HQC.out]
  go_wp2
  go_returns
  exact ⟨rfl, (by repeat' (first | (with_reducible exact Below.refl _ _) | (with_reducible assumption) | (with_reducible refine below_drewN ?_ _) | (with_reducible refine Below.drew ?_) | (with_reducible refine Below.alloc ?_ ?_ _) | (with_reducible refine Below.setCell ?_ ?_ _) | (with_reducible refine Below.trans ?_ (Below.mono (by with_reducible assumption) ?_)) | go_size | (dsimp only; omega)))⟩
end Go.Proofs.YtlkhhpckgcdeeaaGreatDoor
