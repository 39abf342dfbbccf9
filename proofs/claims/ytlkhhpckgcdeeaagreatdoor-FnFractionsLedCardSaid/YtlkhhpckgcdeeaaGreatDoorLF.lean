/- FnFractionsLed: the walk of the law. [genLF.py] -/
import Derived.Test.YtlkhhpckgcdeeaaGreatDoorJK
import Derived.Test.YtlkhhpckgcdeeaaGreatDoorGT
import Derived.Test.YtlkhhpckgcdeeaaGreatDoorGY
import Derived.Test.YtlkhhpckgcdeeaaGreatDoorGU
import Derived.Test.YtlkhhpckgcdeeaaGreatDoorGX
import Derived.Test.YtlkhhpckgcdeeaaGreatDoorGI
import Derived.Deep.DeepCutAuto
import Derived.Test.YtlkhhpckgcdeeaaGreatDoorLT
import Derived.Deep.Light
namespace Go.Proofs.YtlkhhpckgcdeeaaGreatDoor
open Go.RowKit
set_option linter.unusedVariables false
set_option linter.unusedSimpArgs false
attribute [local go_sem] run_equalIn_M run_equalIn_Q
set_option maxRecDepth 100000 in
set_option maxHeartbeats 16000000 in
theorem FnFractionsLed_w (a : Option Addr) (len cap : Nat) (zs0 : List Int) (W : World) (hr : IsRow .u8 W a len cap zs0) (hl : len * 1 ≤ 140737488351232) (VARS : ∃ m t1 t2 p1 p2, Vars W m t1 t2 p1 p2) :
    Calls Tryz.prog 3 #[.slice a len cap] W fun e w' => e = .returned (.bool true) ∧ Below W.heap.size W w' := by
  obtain ⟨vm, vt1, vt2, vp1, vp2, VV⟩ := VARS
  have HV : Hid (∀ w, Below W.heap.size W w → Vars w vm vt1 vt2 vp1 vp2) := Lib.hid (fun w h => VV.later h)
  clear VV
  by_cases hbig : 4096 < len
  · have hb' : decide (4096 < len) = true := decide_eq_true hbig
    clear hr
    go_enter Tryz.func3, Tryz.ntmps3
    go_wp2_with fail
    refine (big_c a len cap W (by omega)).mono ?_
    rintro e w0 ⟨rfl, rfl⟩
    rw [hb']
    go_wp2
    go_returns
    exact ⟨rfl, Below.refl _ _⟩
  have hv := codeV_isRow hr (by omega)
  have hb' : decide (4096 < len) = false := decide_eq_false hbig
  clear hr
  have hB0 : Below W.heap.size W W := Below.refl _ _
  have lWW : W.heap.size ≤ W.heap.size := Nat.le_refl _
  go_enter Tryz.func3, Tryz.ntmps3
  go_wp2_with fail
  refine (big_c a len cap W (by omega)).mono ?_
  rintro e w0 ⟨rfl, rfl⟩
  rw [hb']
  clear hb' hbig hl
  go_wp2_with fail
  refine (drawLeadFraction_c _ W (hv.below hB0)).mono ?_
  rintro e w1 ⟨m0, m1, m2, m3, f0, f1, rfl, bw1⟩
  have zw1 : W.heap.size ≤ w1.heap.size := bw1.size
  have lWw1 : W.heap.size ≤ w1.heap.size := by omega
  have hBw1 : Below W.heap.size W w1 := hB0.trans (bw1.mono (by omega))
  clear zw1 bw1 lWW hB0
  go_wp2_with fail
  generalize hww2 : World.alloc (World.alloc _ _) _ = w2
  obtain ⟨bm, hbm⟩ : ∃ b, w1.heap.size = b := ⟨_, rfl⟩
  obtain ⟨bf, hbf⟩ : ∃ b, w1.heap.size + 1 = b := ⟨_, rfl⟩
  have bbw2 : Below bm w1 w2 := by subst hww2 hbm; exact (by repeat' (first | (with_reducible exact Below.refl _ _) | (with_reducible assumption) | (with_reducible refine below_drewN ?_ _) | (with_reducible refine Below.drew ?_) | (with_reducible refine Below.alloc ?_ ?_ _) | (with_reducible refine Below.setCell ?_ ?_ _) | (with_reducible refine Below.trans ?_ (Below.mono (by with_reducible assumption) ?_)) | go_size | (dsimp only; omega)))
  have cw2_bm_0 : w2.cell? ⟨bm, 0, none⟩ = some (.int .i64 m0) := by subst hww2 hbm; first | (go_cell; done) | (go_simp; done)
  have cw2_bm_1 : w2.cell? ⟨bm, 1, none⟩ = some (.int .i64 m1) := by subst hww2 hbm; first | (go_cell; done) | (go_simp; done)
  have cw2_bm_2 : w2.cell? ⟨bm, 2, none⟩ = some (.int .i64 m2) := by subst hww2 hbm; first | (go_cell; done) | (go_simp; done)
  have cw2_bm_3 : w2.cell? ⟨bm, 3, none⟩ = some (.int .i64 m3) := by subst hww2 hbm; first | (go_cell; done) | (go_simp; done)
  have cw2_bm_l : bm < w2.heap.size := by subst hww2 hbm; go_size
  have cw2_bf_0 : w2.cell? ⟨bf, 0, none⟩ = some (.int .i64 f0) := by subst hww2 hbf; first | (go_cell; done) | (go_simp; done)
  have cw2_bf_1 : w2.cell? ⟨bf, 1, none⟩ = some (.int .i64 f1) := by subst hww2 hbf; first | (go_cell; done) | (go_simp; done)
  have cw2_bf_l : bf < w2.heap.size := by subst hww2 hbf; go_size
  have yw2 := bbw2.size
  (try rw [hbm])
  have hbf2 : bm + 1 = bf := by omega
  (try rw [hbf2])
  clear hbf2
  clear hww2
  have zw2 : w1.heap.size ≤ w2.heap.size := yw2
  have lWw2 : W.heap.size ≤ w2.heap.size := by omega
  have hBw2 : Below W.heap.size W w2 := hBw1.trans (bbw2.mono (by omega))
  clear zw2 bbw2 lWw1 hBw1
  clear yw2 hbm hbf
  obtain ⟨x0, x1, x2, K1, K2, hx⟩ := lead_all m0 m1 m2 m3 f0 f1
  have HX := Lib.hid hx
  clear hx
  refine (K1.out.get _).mono ?_
  rintro e w3 ⟨rfl, bw3⟩
  have zw3 : w2.heap.size ≤ w3.heap.size := bw3.size
  have cw3_bm_0 : w3.cell? ⟨bm, 0, none⟩ = some (.int .i64 m0) := by rw [bw3.cell (p := ⟨bm, 0, none⟩) (by dsimp only; omega)]; exact cw2_bm_0
  have cw3_bm_1 : w3.cell? ⟨bm, 1, none⟩ = some (.int .i64 m1) := by rw [bw3.cell (p := ⟨bm, 1, none⟩) (by dsimp only; omega)]; exact cw2_bm_1
  have cw3_bm_2 : w3.cell? ⟨bm, 2, none⟩ = some (.int .i64 m2) := by rw [bw3.cell (p := ⟨bm, 2, none⟩) (by dsimp only; omega)]; exact cw2_bm_2
  have cw3_bm_3 : w3.cell? ⟨bm, 3, none⟩ = some (.int .i64 m3) := by rw [bw3.cell (p := ⟨bm, 3, none⟩) (by dsimp only; omega)]; exact cw2_bm_3
  have cw3_bm_l : bm < w3.heap.size := by omega
  have cw3_bf_0 : w3.cell? ⟨bf, 0, none⟩ = some (.int .i64 f0) := by rw [bw3.cell (p := ⟨bf, 0, none⟩) (by dsimp only; omega)]; exact cw2_bf_0
  have cw3_bf_1 : w3.cell? ⟨bf, 1, none⟩ = some (.int .i64 f1) := by rw [bw3.cell (p := ⟨bf, 1, none⟩) (by dsimp only; omega)]; exact cw2_bf_1
  have cw3_bf_l : bf < w3.heap.size := by omega
  have lWw3 : W.heap.size ≤ w3.heap.size := by omega
  have hBw3 : Below W.heap.size W w3 := hBw2.trans (bw3.mono (by omega))
  clear zw3 bw3 cw2_bm_0 cw2_bm_1 cw2_bm_2 cw2_bm_3 cw2_bm_l cw2_bf_0 cw2_bf_1 cw2_bf_l lWw2 hBw2
  go_wp2_with fail
  generalize hww4 : World.alloc _ _ = w4
  obtain ⟨bx, hbx⟩ : ∃ b, w3.heap.size = b := ⟨_, rfl⟩
  have bbw4 : Below bx w3 w4 := by subst hww4 hbx; exact (by repeat' (first | (with_reducible exact Below.refl _ _) | (with_reducible assumption) | (with_reducible refine below_drewN ?_ _) | (with_reducible refine Below.drew ?_) | (with_reducible refine Below.alloc ?_ ?_ _) | (with_reducible refine Below.setCell ?_ ?_ _) | (with_reducible refine Below.trans ?_ (Below.mono (by with_reducible assumption) ?_)) | go_size | (dsimp only; omega)))
  have cw4_bx_0 : w4.cell? ⟨bx, 0, none⟩ = some (.int .i64 x0) := by subst hww4 hbx; first | (go_cell; done) | (go_simp; done)
  have cw4_bx_1 : w4.cell? ⟨bx, 1, none⟩ = some (.int .i64 x1) := by subst hww4 hbx; first | (go_cell; done) | (go_simp; done)
  have cw4_bx_l : bx < w4.heap.size := by subst hww4 hbx; go_size
  have yw4 := bbw4.size
  (try rw [hbx])
  clear hww4
  have zw4 : w3.heap.size ≤ w4.heap.size := yw4
  have cw4_bm_0 : w4.cell? ⟨bm, 0, none⟩ = some (.int .i64 m0) := by rw [bbw4.cell (p := ⟨bm, 0, none⟩) (by dsimp only; omega)]; exact cw3_bm_0
  have cw4_bm_1 : w4.cell? ⟨bm, 1, none⟩ = some (.int .i64 m1) := by rw [bbw4.cell (p := ⟨bm, 1, none⟩) (by dsimp only; omega)]; exact cw3_bm_1
  have cw4_bm_2 : w4.cell? ⟨bm, 2, none⟩ = some (.int .i64 m2) := by rw [bbw4.cell (p := ⟨bm, 2, none⟩) (by dsimp only; omega)]; exact cw3_bm_2
  have cw4_bm_3 : w4.cell? ⟨bm, 3, none⟩ = some (.int .i64 m3) := by rw [bbw4.cell (p := ⟨bm, 3, none⟩) (by dsimp only; omega)]; exact cw3_bm_3
  have cw4_bm_l : bm < w4.heap.size := by omega
  have cw4_bf_0 : w4.cell? ⟨bf, 0, none⟩ = some (.int .i64 f0) := by rw [bbw4.cell (p := ⟨bf, 0, none⟩) (by dsimp only; omega)]; exact cw3_bf_0
  have cw4_bf_1 : w4.cell? ⟨bf, 1, none⟩ = some (.int .i64 f1) := by rw [bbw4.cell (p := ⟨bf, 1, none⟩) (by dsimp only; omega)]; exact cw3_bf_1
  have cw4_bf_l : bf < w4.heap.size := by omega
  have lWw4 : W.heap.size ≤ w4.heap.size := by omega
  have hBw4 : Below W.heap.size W w4 := hBw3.trans (bbw4.mono (by omega))
  clear zw4 bbw4 cw3_bm_0 cw3_bm_1 cw3_bm_2 cw3_bm_3 cw3_bm_l cw3_bf_0 cw3_bf_1 cw3_bf_l lWw3 hBw3
  clear yw4 hbx
  refine (K2.out.get _).mono ?_
  rintro e w5 ⟨rfl, bw5⟩
  have zw5 : w4.heap.size ≤ w5.heap.size := bw5.size
  have cw5_bm_0 : w5.cell? ⟨bm, 0, none⟩ = some (.int .i64 m0) := by rw [bw5.cell (p := ⟨bm, 0, none⟩) (by dsimp only; omega)]; exact cw4_bm_0
  have cw5_bm_1 : w5.cell? ⟨bm, 1, none⟩ = some (.int .i64 m1) := by rw [bw5.cell (p := ⟨bm, 1, none⟩) (by dsimp only; omega)]; exact cw4_bm_1
  have cw5_bm_2 : w5.cell? ⟨bm, 2, none⟩ = some (.int .i64 m2) := by rw [bw5.cell (p := ⟨bm, 2, none⟩) (by dsimp only; omega)]; exact cw4_bm_2
  have cw5_bm_3 : w5.cell? ⟨bm, 3, none⟩ = some (.int .i64 m3) := by rw [bw5.cell (p := ⟨bm, 3, none⟩) (by dsimp only; omega)]; exact cw4_bm_3
  have cw5_bm_l : bm < w5.heap.size := by omega
  have cw5_bf_0 : w5.cell? ⟨bf, 0, none⟩ = some (.int .i64 f0) := by rw [bw5.cell (p := ⟨bf, 0, none⟩) (by dsimp only; omega)]; exact cw4_bf_0
  have cw5_bf_1 : w5.cell? ⟨bf, 1, none⟩ = some (.int .i64 f1) := by rw [bw5.cell (p := ⟨bf, 1, none⟩) (by dsimp only; omega)]; exact cw4_bf_1
  have cw5_bf_l : bf < w5.heap.size := by omega
  have cw5_bx_0 : w5.cell? ⟨bx, 0, none⟩ = some (.int .i64 x0) := by rw [bw5.cell (p := ⟨bx, 0, none⟩) (by dsimp only; omega)]; exact cw4_bx_0
  have cw5_bx_1 : w5.cell? ⟨bx, 1, none⟩ = some (.int .i64 x1) := by rw [bw5.cell (p := ⟨bx, 1, none⟩) (by dsimp only; omega)]; exact cw4_bx_1
  have cw5_bx_l : bx < w5.heap.size := by omega
  have lWw5 : W.heap.size ≤ w5.heap.size := by omega
  have hBw5 : Below W.heap.size W w5 := hBw4.trans (bw5.mono (by omega))
  clear zw5 bw5 cw4_bm_0 cw4_bm_1 cw4_bm_2 cw4_bm_3 cw4_bm_l cw4_bf_0 cw4_bf_1 cw4_bf_l cw4_bx_0 cw4_bx_1 cw4_bx_l lWw4 hBw4
  go_upto_region 6 with fail
  generalize hww6 : World.alloc _ _ = w6
  obtain ⟨by1, hby1⟩ : ∃ b, w5.heap.size = b := ⟨_, rfl⟩
  have bbw6 : Below by1 w5 w6 := by subst hww6 hby1; exact (by repeat' (first | (with_reducible exact Below.refl _ _) | (with_reducible assumption) | (with_reducible refine below_drewN ?_ _) | (with_reducible refine Below.drew ?_) | (with_reducible refine Below.alloc ?_ ?_ _) | (with_reducible refine Below.setCell ?_ ?_ _) | (with_reducible refine Below.trans ?_ (Below.mono (by with_reducible assumption) ?_)) | go_size | (dsimp only; omega)))
  have cw6_by1_0 : w6.cell? ⟨by1, 0, none⟩ = some (.int .i64 x0) := by subst hww6 hby1; first | (go_cell; done) | (go_simp; done)
  have cw6_by1_1 : w6.cell? ⟨by1, 1, none⟩ = some (.int .i64 x1) := by subst hww6 hby1; first | (go_cell; done) | (go_simp; done)
  have cw6_by1_l : by1 < w6.heap.size := by subst hww6 hby1; go_size
  have yw6 := bbw6.size
  (try rw [hby1])
  clear hww6
  have zw6 : w5.heap.size ≤ w6.heap.size := yw6
  have cw6_bm_0 : w6.cell? ⟨bm, 0, none⟩ = some (.int .i64 m0) := by rw [bbw6.cell (p := ⟨bm, 0, none⟩) (by dsimp only; omega)]; exact cw5_bm_0
  have cw6_bm_1 : w6.cell? ⟨bm, 1, none⟩ = some (.int .i64 m1) := by rw [bbw6.cell (p := ⟨bm, 1, none⟩) (by dsimp only; omega)]; exact cw5_bm_1
  have cw6_bm_2 : w6.cell? ⟨bm, 2, none⟩ = some (.int .i64 m2) := by rw [bbw6.cell (p := ⟨bm, 2, none⟩) (by dsimp only; omega)]; exact cw5_bm_2
  have cw6_bm_3 : w6.cell? ⟨bm, 3, none⟩ = some (.int .i64 m3) := by rw [bbw6.cell (p := ⟨bm, 3, none⟩) (by dsimp only; omega)]; exact cw5_bm_3
  have cw6_bm_l : bm < w6.heap.size := by omega
  have cw6_bf_0 : w6.cell? ⟨bf, 0, none⟩ = some (.int .i64 f0) := by rw [bbw6.cell (p := ⟨bf, 0, none⟩) (by dsimp only; omega)]; exact cw5_bf_0
  have cw6_bf_1 : w6.cell? ⟨bf, 1, none⟩ = some (.int .i64 f1) := by rw [bbw6.cell (p := ⟨bf, 1, none⟩) (by dsimp only; omega)]; exact cw5_bf_1
  have cw6_bf_l : bf < w6.heap.size := by omega
  have cw6_bx_0 : w6.cell? ⟨bx, 0, none⟩ = some (.int .i64 x0) := by rw [bbw6.cell (p := ⟨bx, 0, none⟩) (by dsimp only; omega)]; exact cw5_bx_0
  have cw6_bx_1 : w6.cell? ⟨bx, 1, none⟩ = some (.int .i64 x1) := by rw [bbw6.cell (p := ⟨bx, 1, none⟩) (by dsimp only; omega)]; exact cw5_bx_1
  have cw6_bx_l : bx < w6.heap.size := by omega
  have lWw6 : W.heap.size ≤ w6.heap.size := by omega
  have hBw6 : Below W.heap.size W w6 := hBw5.trans (bbw6.mono (by omega))
  clear zw6 bbw6 cw5_bm_0 cw5_bm_1 cw5_bm_2 cw5_bm_3 cw5_bm_l cw5_bf_0 cw5_bf_1 cw5_bf_l cw5_bx_0 cw5_bx_1 cw5_bx_l lWw5 hBw5
  clear yw6 hby1
  obtain ⟨bi, hbi⟩ : ∃ b, isF f0 f1 = b := ⟨_, rfl⟩
  have HBI := Lib.hid hbi
  clear hbi
  refine region_FnFractionsLed w6 bf bx by1 f0 f1 x0 x1 x2 bi HBI cw6_bf_l cw6_bx_l cw6_by1_l cw6_bf_0 cw6_bf_1 cw6_bx_0 cw6_bx_1 cw6_by1_0 cw6_by1_1 _ _ _ _ _ _ _ _ _ _ _ _ _ _ _ _ _ _ _ _ _ _ _ _ _ _ _ _ _ _ _ _ _ _ _ _ _ _ _ _ _ _ _ _ _ _ _ _ _ _ _ _ _ _ _ _ _ _ _ _ _ _ _ _ _ _ _ _ _ _ _ _ _ _ _ _ _ _ _ _ _ _ _ _ _ _ _ _ _ _ _ _ _ _ _ _ _ _ _ _ _ _ _ _ _ _ _ _ _ _ _ _ _ _ _ _ _ _ _ _ _ _ _ _ _ _ _ _ _ _ _ _ _ _ _ _ _ _ _ _ _ _ _ _ _ _ _ _ _ _ _ _ _ _ _ _ _ _ _ _ _ _ _ _ _ _ _ _ _ _ _ _ _ _ _ _ _ _ _ _ _ _ _ _ _ _ _ _ _ _ _ _ _ _ _ _ _ _ _ _ _ _ _ _ _ _ _ _ _ _ _ _ _ _ _ _ _ _ _ _ _ _ _ _ _ _ _ _ _ _ _ _ _ _ _ _ _ _ _ _ _ _ _ _ _ _ _ _ _ _ _ _ _ _ _ _ _ _ _ _ _ _ _ _ _ _ _ _ _ _ _ _ _ _ _ _ _ _ _ _ _ _ _ _ _ _ _ _ _ _ _ _ _ _ _ _ _ _ _ _ _ _ _ _ _ _ _ _ _ _ _ _ _ _ _ _ _ _ _ _ _ _ _ _ _ _ _ _ _ _ _ _ _ _ _ _ _ _ _ _ _ _ _ _ _ _ _ _ _ _ _ _ _ _ _ _ _ _ _ _ _ _ _ _ _ _ _ _ _ _ _ _ _ _ _ _ _ _ _ _ _ _ _ _ _ _ _ _ ?_
  intro v80 v81 v82 v83 v84 v85 v86 v87 v88 v89 v90 v91 v92 v93 w7 bcut
  have zw7 : w6.heap.size ≤ w7.heap.size := bcut.size
  have cw7_bm_0 : w7.cell? ⟨bm, 0, none⟩ = some (.int .i64 m0) := by rw [bcut.cell (p := ⟨bm, 0, none⟩) (by dsimp only; omega)]; exact cw6_bm_0
  have cw7_bm_1 : w7.cell? ⟨bm, 1, none⟩ = some (.int .i64 m1) := by rw [bcut.cell (p := ⟨bm, 1, none⟩) (by dsimp only; omega)]; exact cw6_bm_1
  have cw7_bm_2 : w7.cell? ⟨bm, 2, none⟩ = some (.int .i64 m2) := by rw [bcut.cell (p := ⟨bm, 2, none⟩) (by dsimp only; omega)]; exact cw6_bm_2
  have cw7_bm_3 : w7.cell? ⟨bm, 3, none⟩ = some (.int .i64 m3) := by rw [bcut.cell (p := ⟨bm, 3, none⟩) (by dsimp only; omega)]; exact cw6_bm_3
  have cw7_bm_l : bm < w7.heap.size := by omega
  have cw7_bf_0 : w7.cell? ⟨bf, 0, none⟩ = some (.int .i64 f0) := by rw [bcut.cell (p := ⟨bf, 0, none⟩) (by dsimp only; omega)]; exact cw6_bf_0
  have cw7_bf_1 : w7.cell? ⟨bf, 1, none⟩ = some (.int .i64 f1) := by rw [bcut.cell (p := ⟨bf, 1, none⟩) (by dsimp only; omega)]; exact cw6_bf_1
  have cw7_bf_l : bf < w7.heap.size := by omega
  have cw7_bx_0 : w7.cell? ⟨bx, 0, none⟩ = some (.int .i64 x0) := by rw [bcut.cell (p := ⟨bx, 0, none⟩) (by dsimp only; omega)]; exact cw6_bx_0
  have cw7_bx_1 : w7.cell? ⟨bx, 1, none⟩ = some (.int .i64 x1) := by rw [bcut.cell (p := ⟨bx, 1, none⟩) (by dsimp only; omega)]; exact cw6_bx_1
  have cw7_bx_l : bx < w7.heap.size := by omega
  have cw7_by1_0 : w7.cell? ⟨by1, 0, none⟩ = some (.int .i64 x0) := by rw [bcut.cell (p := ⟨by1, 0, none⟩) (by dsimp only; omega)]; exact cw6_by1_0
  have cw7_by1_1 : w7.cell? ⟨by1, 1, none⟩ = some (.int .i64 x1) := by rw [bcut.cell (p := ⟨by1, 1, none⟩) (by dsimp only; omega)]; exact cw6_by1_1
  have cw7_by1_l : by1 < w7.heap.size := by omega
  have lWw7 : W.heap.size ≤ w7.heap.size := by omega
  have hBw7 : Below W.heap.size W w7 := hBw6.trans (bcut.mono (by omega))
  clear zw7 bcut cw6_bm_0 cw6_bm_1 cw6_bm_2 cw6_bm_3 cw6_bm_l cw6_bf_0 cw6_bf_1 cw6_bf_l cw6_bx_0 cw6_bx_1 cw6_bx_l cw6_by1_0 cw6_by1_1 cw6_by1_l lWw6 hBw6
  clear cw7_by1_0 cw7_by1_1 cw7_by1_l
  go_upto_if 96 with fail
  refine fsec1_c W w7 hBw7 lWw7 vm vt1 vt2 vp1 vp2 HV bm bf bx m0 m1 m2 m3 f0 f1 x0 x1 x2 HX cw7_bm_0 cw7_bm_1 cw7_bm_2 cw7_bm_3 cw7_bf_0 cw7_bf_1 cw7_bx_0 cw7_bx_1 cw7_bm_l cw7_bf_l cw7_bx_l _ _ _ _ _ _ _ _ _ _ _ _ _ _ _ _ _ _ _ _ _ _ _ _ _ _ _ _ _ _ _ _ _ _ _ _ _ _ _ _ _ _ _ _ _ _ _ _ _ _ _ _ _ _ _ _ _ _ _ _ _ _ _ _ _ _ _ _ _ _ _ _ _ _ _ _ _ _ _ _ _ _ _ _ _ _ _ _ _ _ _ _ _ _ _ _ _ _ _ _ _ _ _ _ _ _ _ _ _ _ _ _ _ _ _ _ _ _ _ _ _ _ _ _ _ _ _ _ _ _ _ _ _ _ _ _ _ _ _ _ _ _ _ _ _ _ _ _ _ _ _ _ _ _ _ _ _ _ _ _ _ _ _ _ _ _ _ _ _ _ _ _ _ _ _ _ _ _ _ _ _ _ _ _ _ _ _ _ _ _ _ _ _ _ _ _ _ _ _ _ _ _ _ _ _ _ _ _ _ _ _ _ _ _ _ _ _ _ _ _ _ _ _ _ _ _ _ _ _ _ _ _ _ _ _ _ _ _ _ _ _ _ _ _ _ _ _ _ _ _ _ _ _ _ _ _ _ _ _ _ _ _ _ _ _ _ _ _ _ _ _ _ _ _ _ _ _ _ _ _ _ _ _ _ _ _ _ _ _ _ _ _ _ _ _ _ _ _ _ _ _ _ _ _ _ _ _ _ _ _ _ _ _ _ _ _ _ _ _ _ _ _ _ _ _ _ _ _ _ _ _ _ _ _ _ _ _ _ _ _ _ _ _ _ _ _ _ _ _ _ _ _ _ _ _ _ _ _ _ _ _ _ _ _ _ _ _ _ _ _ _ _ _ _ _ _ _ _ _ _ _ _ _ _ _ _ _ _ ?_
  intro v9 v10 v11 v12 v13 v14 v15 v16 v97 v98 v99 v100 v101 v102 v103 v104 v105 v106 v107 v108 v109 v110 v111 v112 v113 v114 v115 v116 v117 v118 v119 v120 v121 v122 v123 v124 v125 v126 v127 v128 v129 v130 v131 v132 v133 v134 v135 v136 v137 v138 v139 v140 v141 v142 v143 v144 v145 v146 w8 hBw8
  clear cw7_bm_0 cw7_bm_1 cw7_bm_2 cw7_bm_3 cw7_bm_l cw7_bf_0 cw7_bf_1 cw7_bf_l cw7_bx_0 cw7_bx_1 cw7_bx_l lWw7 hBw7
  have lWw8 : W.heap.size ≤ w8.heap.size := hBw8.size
  clear HX HBI K1 K2
  go_wp2_with fail
  refine (drawKeptFraction_c _ w8 (hv.below hBw8)).mono ?_
  rintro e w9 ⟨⟨n0, n1, n2, n3, rfl⟩, bw9⟩
  have zw9 : w8.heap.size ≤ w9.heap.size := bw9.size
  have lWw9 : W.heap.size ≤ w9.heap.size := by omega
  have hBw9 : Below W.heap.size W w9 := hBw8.trans (bw9.mono (by omega))
  clear zw9 bw9 lWw8 hBw8
  go_wp2_with fail
  generalize hww10 : World.alloc _ _ = w10
  obtain ⟨bn, hbn⟩ : ∃ b, w9.heap.size = b := ⟨_, rfl⟩
  have bbw10 : Below bn w9 w10 := by subst hww10 hbn; exact (by repeat' (first | (with_reducible exact Below.refl _ _) | (with_reducible assumption) | (with_reducible refine below_drewN ?_ _) | (with_reducible refine Below.drew ?_) | (with_reducible refine Below.alloc ?_ ?_ _) | (with_reducible refine Below.setCell ?_ ?_ _) | (with_reducible refine Below.trans ?_ (Below.mono (by with_reducible assumption) ?_)) | go_size | (dsimp only; omega)))
  have cw10_bn_0 : w10.cell? ⟨bn, 0, none⟩ = some (.int .i64 n0) := by subst hww10 hbn; first | (go_cell; done) | (go_simp; done)
  have cw10_bn_1 : w10.cell? ⟨bn, 1, none⟩ = some (.int .i64 n1) := by subst hww10 hbn; first | (go_cell; done) | (go_simp; done)
  have cw10_bn_2 : w10.cell? ⟨bn, 2, none⟩ = some (.int .i64 n2) := by subst hww10 hbn; first | (go_cell; done) | (go_simp; done)
  have cw10_bn_3 : w10.cell? ⟨bn, 3, none⟩ = some (.int .i64 n3) := by subst hww10 hbn; first | (go_cell; done) | (go_simp; done)
  have cw10_bn_l : bn < w10.heap.size := by subst hww10 hbn; go_size
  have yw10 := bbw10.size
  (try rw [hbn])
  clear hww10
  have zw10 : w9.heap.size ≤ w10.heap.size := yw10
  have lWw10 : W.heap.size ≤ w10.heap.size := by omega
  have hBw10 : Below W.heap.size W w10 := hBw9.trans (bbw10.mono (by omega))
  clear zw10 bbw10 lWw9 hBw9
  clear yw10 hbn
  obtain ⟨x0, x1, x2, K1, K2, hx⟩ := kept_all2 n0 n1 n2 n3
  have HX := Lib.hid hx
  clear hx
  refine (K1.out.get _).mono ?_
  rintro e w11 ⟨rfl, bw11⟩
  have zw11 : w10.heap.size ≤ w11.heap.size := bw11.size
  have cw11_bn_0 : w11.cell? ⟨bn, 0, none⟩ = some (.int .i64 n0) := by rw [bw11.cell (p := ⟨bn, 0, none⟩) (by dsimp only; omega)]; exact cw10_bn_0
  have cw11_bn_1 : w11.cell? ⟨bn, 1, none⟩ = some (.int .i64 n1) := by rw [bw11.cell (p := ⟨bn, 1, none⟩) (by dsimp only; omega)]; exact cw10_bn_1
  have cw11_bn_2 : w11.cell? ⟨bn, 2, none⟩ = some (.int .i64 n2) := by rw [bw11.cell (p := ⟨bn, 2, none⟩) (by dsimp only; omega)]; exact cw10_bn_2
  have cw11_bn_3 : w11.cell? ⟨bn, 3, none⟩ = some (.int .i64 n3) := by rw [bw11.cell (p := ⟨bn, 3, none⟩) (by dsimp only; omega)]; exact cw10_bn_3
  have cw11_bn_l : bn < w11.heap.size := by omega
  have lWw11 : W.heap.size ≤ w11.heap.size := by omega
  have hBw11 : Below W.heap.size W w11 := hBw10.trans (bw11.mono (by omega))
  clear zw11 bw11 cw10_bn_0 cw10_bn_1 cw10_bn_2 cw10_bn_3 cw10_bn_l lWw10 hBw10
  go_wp2_with fail
  generalize hww12 : World.alloc _ _ = w12
  obtain ⟨bx, hbx⟩ : ∃ b, w11.heap.size = b := ⟨_, rfl⟩
  have bbw12 : Below bx w11 w12 := by subst hww12 hbx; exact (by repeat' (first | (with_reducible exact Below.refl _ _) | (with_reducible assumption) | (with_reducible refine below_drewN ?_ _) | (with_reducible refine Below.drew ?_) | (with_reducible refine Below.alloc ?_ ?_ _) | (with_reducible refine Below.setCell ?_ ?_ _) | (with_reducible refine Below.trans ?_ (Below.mono (by with_reducible assumption) ?_)) | go_size | (dsimp only; omega)))
  have cw12_bx_0 : w12.cell? ⟨bx, 0, none⟩ = some (.int .i64 x0) := by subst hww12 hbx; first | (go_cell; done) | (go_simp; done)
  have cw12_bx_1 : w12.cell? ⟨bx, 1, none⟩ = some (.int .i64 x1) := by subst hww12 hbx; first | (go_cell; done) | (go_simp; done)
  have cw12_bx_l : bx < w12.heap.size := by subst hww12 hbx; go_size
  have yw12 := bbw12.size
  (try rw [hbx])
  clear hww12
  have zw12 : w11.heap.size ≤ w12.heap.size := yw12
  have cw12_bn_0 : w12.cell? ⟨bn, 0, none⟩ = some (.int .i64 n0) := by rw [bbw12.cell (p := ⟨bn, 0, none⟩) (by dsimp only; omega)]; exact cw11_bn_0
  have cw12_bn_1 : w12.cell? ⟨bn, 1, none⟩ = some (.int .i64 n1) := by rw [bbw12.cell (p := ⟨bn, 1, none⟩) (by dsimp only; omega)]; exact cw11_bn_1
  have cw12_bn_2 : w12.cell? ⟨bn, 2, none⟩ = some (.int .i64 n2) := by rw [bbw12.cell (p := ⟨bn, 2, none⟩) (by dsimp only; omega)]; exact cw11_bn_2
  have cw12_bn_3 : w12.cell? ⟨bn, 3, none⟩ = some (.int .i64 n3) := by rw [bbw12.cell (p := ⟨bn, 3, none⟩) (by dsimp only; omega)]; exact cw11_bn_3
  have cw12_bn_l : bn < w12.heap.size := by omega
  have lWw12 : W.heap.size ≤ w12.heap.size := by omega
  have hBw12 : Below W.heap.size W w12 := hBw11.trans (bbw12.mono (by omega))
  clear zw12 bbw12 cw11_bn_0 cw11_bn_1 cw11_bn_2 cw11_bn_3 cw11_bn_l lWw11 hBw11
  clear yw12 hbx
  refine (K2.out.get _).mono ?_
  rintro e w13 ⟨rfl, bw13⟩
  have zw13 : w12.heap.size ≤ w13.heap.size := bw13.size
  have cw13_bn_0 : w13.cell? ⟨bn, 0, none⟩ = some (.int .i64 n0) := by rw [bw13.cell (p := ⟨bn, 0, none⟩) (by dsimp only; omega)]; exact cw12_bn_0
  have cw13_bn_1 : w13.cell? ⟨bn, 1, none⟩ = some (.int .i64 n1) := by rw [bw13.cell (p := ⟨bn, 1, none⟩) (by dsimp only; omega)]; exact cw12_bn_1
  have cw13_bn_2 : w13.cell? ⟨bn, 2, none⟩ = some (.int .i64 n2) := by rw [bw13.cell (p := ⟨bn, 2, none⟩) (by dsimp only; omega)]; exact cw12_bn_2
  have cw13_bn_3 : w13.cell? ⟨bn, 3, none⟩ = some (.int .i64 n3) := by rw [bw13.cell (p := ⟨bn, 3, none⟩) (by dsimp only; omega)]; exact cw12_bn_3
  have cw13_bn_l : bn < w13.heap.size := by omega
  have cw13_bx_0 : w13.cell? ⟨bx, 0, none⟩ = some (.int .i64 x0) := by rw [bw13.cell (p := ⟨bx, 0, none⟩) (by dsimp only; omega)]; exact cw12_bx_0
  have cw13_bx_1 : w13.cell? ⟨bx, 1, none⟩ = some (.int .i64 x1) := by rw [bw13.cell (p := ⟨bx, 1, none⟩) (by dsimp only; omega)]; exact cw12_bx_1
  have cw13_bx_l : bx < w13.heap.size := by omega
  have lWw13 : W.heap.size ≤ w13.heap.size := by omega
  have hBw13 : Below W.heap.size W w13 := hBw12.trans (bw13.mono (by omega))
  clear zw13 bw13 cw12_bn_0 cw12_bn_1 cw12_bn_2 cw12_bn_3 cw12_bn_l cw12_bx_0 cw12_bx_1 cw12_bx_l lWw12 hBw12
  go_upto_if 168 with fail
  generalize hww14 : World.alloc _ _ = w14
  obtain ⟨by1, hby1⟩ : ∃ b, w13.heap.size = b := ⟨_, rfl⟩
  have bbw14 : Below by1 w13 w14 := by subst hww14 hby1; exact (by repeat' (first | (with_reducible exact Below.refl _ _) | (with_reducible assumption) | (with_reducible refine below_drewN ?_ _) | (with_reducible refine Below.drew ?_) | (with_reducible refine Below.alloc ?_ ?_ _) | (with_reducible refine Below.setCell ?_ ?_ _) | (with_reducible refine Below.trans ?_ (Below.mono (by with_reducible assumption) ?_)) | go_size | (dsimp only; omega)))
  have cw14_by1_0 : w14.cell? ⟨by1, 0, none⟩ = some (.int .i64 x0) := by subst hww14 hby1; first | (go_cell; done) | (go_simp; done)
  have cw14_by1_1 : w14.cell? ⟨by1, 1, none⟩ = some (.int .i64 x1) := by subst hww14 hby1; first | (go_cell; done) | (go_simp; done)
  have cw14_by1_l : by1 < w14.heap.size := by subst hww14 hby1; go_size
  have yw14 := bbw14.size
  (try rw [hby1])
  clear hww14
  have zw14 : w13.heap.size ≤ w14.heap.size := yw14
  have cw14_bn_0 : w14.cell? ⟨bn, 0, none⟩ = some (.int .i64 n0) := by rw [bbw14.cell (p := ⟨bn, 0, none⟩) (by dsimp only; omega)]; exact cw13_bn_0
  have cw14_bn_1 : w14.cell? ⟨bn, 1, none⟩ = some (.int .i64 n1) := by rw [bbw14.cell (p := ⟨bn, 1, none⟩) (by dsimp only; omega)]; exact cw13_bn_1
  have cw14_bn_2 : w14.cell? ⟨bn, 2, none⟩ = some (.int .i64 n2) := by rw [bbw14.cell (p := ⟨bn, 2, none⟩) (by dsimp only; omega)]; exact cw13_bn_2
  have cw14_bn_3 : w14.cell? ⟨bn, 3, none⟩ = some (.int .i64 n3) := by rw [bbw14.cell (p := ⟨bn, 3, none⟩) (by dsimp only; omega)]; exact cw13_bn_3
  have cw14_bn_l : bn < w14.heap.size := by omega
  have cw14_bx_0 : w14.cell? ⟨bx, 0, none⟩ = some (.int .i64 x0) := by rw [bbw14.cell (p := ⟨bx, 0, none⟩) (by dsimp only; omega)]; exact cw13_bx_0
  have cw14_bx_1 : w14.cell? ⟨bx, 1, none⟩ = some (.int .i64 x1) := by rw [bbw14.cell (p := ⟨bx, 1, none⟩) (by dsimp only; omega)]; exact cw13_bx_1
  have cw14_bx_l : bx < w14.heap.size := by omega
  have lWw14 : W.heap.size ≤ w14.heap.size := by omega
  have hBw14 : Below W.heap.size W w14 := hBw13.trans (bbw14.mono (by omega))
  clear zw14 bbw14 cw13_bn_0 cw13_bn_1 cw13_bn_2 cw13_bn_3 cw13_bn_l cw13_bx_0 cw13_bx_1 cw13_bx_l lWw13 hBw13
  clear yw14 hby1
  clear cw14_by1_0 cw14_by1_1 cw14_by1_l
  refine fsec2_c W w14 hBw14 lWw14 bn bx n0 n1 n2 n3 x0 x1 x2 HX cw14_bn_0 cw14_bn_1 cw14_bn_2 cw14_bn_3 cw14_bx_0 cw14_bx_1 cw14_bn_l cw14_bx_l _ _ _ _ _ _ _ _ _ _ _ _ _ _ _ _ _ _ _ _ _ _ _ _ _ _ _ _ _ _ _ _ _ _ _ _ _ _ _ _ _ _ _ _ _ _ _ _ _ _ _ _ _ _ _ _ _ _ _ _ _ _ _ _ _ _ _ _ _ _ _ _ _ _ _ _ _ _ _ _ _ _ _ _ _ _ _ _ _ _ _ _ _ _ _ _ _ _ _ _ _ _ _ _ _ _ _ _ _ _ _ _ _ _ _ _ _ _ _ _ _ _ _ _ _ _ _ _ _ _ _ _ _ _ _ _ _ _ _ _ _ _ _ _ _ _ _ _ _ _ _ _ _ _ _ _ _ _ _ _ _ _ _ _ _ _ _ _ _ _ _ _ _ _ _ _ _ _ _ _ _ _ _ _ _ _ _ _ _ _ _ _ _ _ _ _ _ _ _ _ _ _ _ _ _ _ _ _ _ _ _ _ _ _ _ _ _ _ _ _ _ _ _ _ _ _ _ _ _ _ _ _ _ _ _ _ _ _ _ _ _ _ _ _ _ _ _ _ _ _ _ _ _ _ _ _ _ _ _ _ _ _ _ _ _ _ _ _ _ _ _ _ _ _ _ _ _ _ _ _ _ _ _ _ _ _ _ _ _ _ _ _ _ _ _ _ _ _ _ _ _ _ _ _ _ _ _ _ _ _ _ _ _ _ _ _ _ _ _ _ _ _ _ _ _ _ _ _ _ _ _ _ _ _ _ _ _ _ _ _ _ _ _ _ _ _ _ _ _ _ _ _ _ _ _ _ _ _ _ _ _ _ _ _ _ _ _ _ _ _ _ _ _ _ _ _ _ _ _ _ _ _ _ _ _ _ _ _ _ ?_
  intro v22 v23 v24 v25 v169 v170 v171 v172 v173 v174 v175 v176 v177 v178 v179 v180 v181 v182 v183 v184 v185 v186 v187 v188 v189 v190 v191 v192 v193 v194 w15 hBw15
  clear cw14_bn_0 cw14_bn_1 cw14_bn_2 cw14_bn_3 cw14_bn_l cw14_bx_0 cw14_bx_1 cw14_bx_l lWw14 hBw14
  have lWw15 : W.heap.size ≤ w15.heap.size := hBw15.size
  clear HX K1 K2
  go_wp2_with fail
  refine (drawCompareFractions_c _ w15 (hv.below hBw15)).mono ?_
  rintro e w16 ⟨⟨g0, g1, h0, h1, rfl⟩, bw16⟩
  have zw16 : w15.heap.size ≤ w16.heap.size := bw16.size
  have lWw16 : W.heap.size ≤ w16.heap.size := by omega
  have hBw16 : Below W.heap.size W w16 := hBw15.trans (bw16.mono (by omega))
  clear zw16 bw16 lWw15 hBw15
  go_wp2_with fail
  generalize hww17 : World.alloc (World.alloc _ _) _ = w17
  obtain ⟨bg, hbg⟩ : ∃ b, w16.heap.size = b := ⟨_, rfl⟩
  obtain ⟨bh, hbh⟩ : ∃ b, w16.heap.size + 1 = b := ⟨_, rfl⟩
  have bbw17 : Below bg w16 w17 := by subst hww17 hbg; exact (by repeat' (first | (with_reducible exact Below.refl _ _) | (with_reducible assumption) | (with_reducible refine below_drewN ?_ _) | (with_reducible refine Below.drew ?_) | (with_reducible refine Below.alloc ?_ ?_ _) | (with_reducible refine Below.setCell ?_ ?_ _) | (with_reducible refine Below.trans ?_ (Below.mono (by with_reducible assumption) ?_)) | go_size | (dsimp only; omega)))
  have cw17_bg_0 : w17.cell? ⟨bg, 0, none⟩ = some (.int .i64 g0) := by subst hww17 hbg; first | (go_cell; done) | (go_simp; done)
  have cw17_bg_1 : w17.cell? ⟨bg, 1, none⟩ = some (.int .i64 g1) := by subst hww17 hbg; first | (go_cell; done) | (go_simp; done)
  have cw17_bg_l : bg < w17.heap.size := by subst hww17 hbg; go_size
  have cw17_bh_0 : w17.cell? ⟨bh, 0, none⟩ = some (.int .i64 h0) := by subst hww17 hbh; first | (go_cell; done) | (go_simp; done)
  have cw17_bh_1 : w17.cell? ⟨bh, 1, none⟩ = some (.int .i64 h1) := by subst hww17 hbh; first | (go_cell; done) | (go_simp; done)
  have cw17_bh_l : bh < w17.heap.size := by subst hww17 hbh; go_size
  have yw17 := bbw17.size
  (try rw [hbg])
  have hbh2 : bg + 1 = bh := by omega
  (try rw [hbh2])
  clear hbh2
  clear hww17
  have zw17 : w16.heap.size ≤ w17.heap.size := yw17
  have lWw17 : W.heap.size ≤ w17.heap.size := by omega
  have hBw17 : Below W.heap.size W w17 := hBw16.trans (bbw17.mono (by omega))
  clear zw17 bbw17 lWw16 hBw16
  clear yw17 hbg hbh
  obtain ⟨x, y, c, K1, K2, K3, hxy, hy0, hy1, hx⟩ := cmp_all g0 g1 h0 h1
  subst hxy
  have HX := Lib.hid hx
  clear hx
  refine (K1.out.get _).mono ?_
  rintro e w18 ⟨rfl, bw18⟩
  have zw18 : w17.heap.size ≤ w18.heap.size := bw18.size
  have cw18_bg_0 : w18.cell? ⟨bg, 0, none⟩ = some (.int .i64 g0) := by rw [bw18.cell (p := ⟨bg, 0, none⟩) (by dsimp only; omega)]; exact cw17_bg_0
  have cw18_bg_1 : w18.cell? ⟨bg, 1, none⟩ = some (.int .i64 g1) := by rw [bw18.cell (p := ⟨bg, 1, none⟩) (by dsimp only; omega)]; exact cw17_bg_1
  have cw18_bg_l : bg < w18.heap.size := by omega
  have cw18_bh_0 : w18.cell? ⟨bh, 0, none⟩ = some (.int .i64 h0) := by rw [bw18.cell (p := ⟨bh, 0, none⟩) (by dsimp only; omega)]; exact cw17_bh_0
  have cw18_bh_1 : w18.cell? ⟨bh, 1, none⟩ = some (.int .i64 h1) := by rw [bw18.cell (p := ⟨bh, 1, none⟩) (by dsimp only; omega)]; exact cw17_bh_1
  have cw18_bh_l : bh < w18.heap.size := by omega
  have lWw18 : W.heap.size ≤ w18.heap.size := by omega
  have hBw18 : Below W.heap.size W w18 := hBw17.trans (bw18.mono (by omega))
  clear zw18 bw18 cw17_bg_0 cw17_bg_1 cw17_bg_l cw17_bh_0 cw17_bh_1 cw17_bh_l lWw17 hBw17
  go_wp2_with fail
  refine (K2.out.get _).mono ?_
  rintro e w19 ⟨rfl, bw19⟩
  have zw19 : w18.heap.size ≤ w19.heap.size := bw19.size
  have cw19_bg_0 : w19.cell? ⟨bg, 0, none⟩ = some (.int .i64 g0) := by rw [bw19.cell (p := ⟨bg, 0, none⟩) (by dsimp only; omega)]; exact cw18_bg_0
  have cw19_bg_1 : w19.cell? ⟨bg, 1, none⟩ = some (.int .i64 g1) := by rw [bw19.cell (p := ⟨bg, 1, none⟩) (by dsimp only; omega)]; exact cw18_bg_1
  have cw19_bg_l : bg < w19.heap.size := by omega
  have cw19_bh_0 : w19.cell? ⟨bh, 0, none⟩ = some (.int .i64 h0) := by rw [bw19.cell (p := ⟨bh, 0, none⟩) (by dsimp only; omega)]; exact cw18_bh_0
  have cw19_bh_1 : w19.cell? ⟨bh, 1, none⟩ = some (.int .i64 h1) := by rw [bw19.cell (p := ⟨bh, 1, none⟩) (by dsimp only; omega)]; exact cw18_bh_1
  have cw19_bh_l : bh < w19.heap.size := by omega
  have lWw19 : W.heap.size ≤ w19.heap.size := by omega
  have hBw19 : Below W.heap.size W w19 := hBw18.trans (bw19.mono (by omega))
  clear zw19 bw19 cw18_bg_0 cw18_bg_1 cw18_bg_l cw18_bh_0 cw18_bh_1 cw18_bh_l lWw18 hBw18
  go_wp2_with fail
  refine (K3.out.get _).mono ?_
  rintro e w20 ⟨rfl, bw20⟩
  have zw20 : w19.heap.size ≤ w20.heap.size := bw20.size
  have cw20_bg_0 : w20.cell? ⟨bg, 0, none⟩ = some (.int .i64 g0) := by rw [bw20.cell (p := ⟨bg, 0, none⟩) (by dsimp only; omega)]; exact cw19_bg_0
  have cw20_bg_1 : w20.cell? ⟨bg, 1, none⟩ = some (.int .i64 g1) := by rw [bw20.cell (p := ⟨bg, 1, none⟩) (by dsimp only; omega)]; exact cw19_bg_1
  have cw20_bg_l : bg < w20.heap.size := by omega
  have cw20_bh_0 : w20.cell? ⟨bh, 0, none⟩ = some (.int .i64 h0) := by rw [bw20.cell (p := ⟨bh, 0, none⟩) (by dsimp only; omega)]; exact cw19_bh_0
  have cw20_bh_1 : w20.cell? ⟨bh, 1, none⟩ = some (.int .i64 h1) := by rw [bw20.cell (p := ⟨bh, 1, none⟩) (by dsimp only; omega)]; exact cw19_bh_1
  have cw20_bh_l : bh < w20.heap.size := by omega
  have lWw20 : W.heap.size ≤ w20.heap.size := by omega
  have hBw20 : Below W.heap.size W w20 := hBw19.trans (bw20.mono (by omega))
  clear zw20 bw20 cw19_bg_0 cw19_bg_1 cw19_bg_l cw19_bh_0 cw19_bh_1 cw19_bh_l lWw19 hBw19
  go_upto_region 29 with fail
  refine freg5_c W w20 hBw20 lWw20 bg bh g0 g1 h0 h1 y c hy0 hy1 HX cw20_bg_0 cw20_bg_1 cw20_bh_0 cw20_bh_1 cw20_bg_l cw20_bh_l _ _ _ _ _ _ _ _ _ _ _ _ _ _ _ _ _ _ _ _ _ _ _ _ _ _ _ _ _ _ _ _ _ _ _ _ _ _ _ _ _ _ _ _ _ _ _ _ _ _ _ _ _ _ _ _ _ _ _ _ _ _ _ _ _ _ _ _ _ _ _ _ _ _ _ _ _ _ _ _ _ _ _ _ _ _ _ _ _ _ _ _ _ _ _ _ _ _ _ _ _ _ _ _ _ _ _ _ _ _ _ _ _ _ _ _ _ _ _ _ _ _ _ _ _ _ _ _ _ _ _ _ _ _ _ _ _ _ _ _ _ _ _ _ _ _ _ _ _ _ _ _ _ _ _ _ _ _ _ _ _ _ _ _ _ _ _ _ _ _ _ _ _ _ _ _ _ _ _ _ _ _ _ _ _ _ _ _ _ _ _ _ _ _ _ _ _ _ _ _ _ _ _ _ _ _ _ _ _ _ _ _ _ _ _ _ _ _ _ _ _ _ _ _ _ _ _ _ _ _ _ _ _ _ _ _ _ _ _ _ _ _ _ _ _ _ _ _ _ _ _ _ _ _ _ _ _ _ _ _ _ _ _ _ _ _ _ _ _ _ _ _ _ _ _ _ _ _ _ _ _ _ _ _ _ _ _ _ _ _ _ _ _ _ _ _ _ _ _ _ _ _ _ _ _ _ _ _ _ _ _ _ _ _ _ _ _ _ _ _ _ _ _ _ _ _ _ _ _ _ _ _ _ _ _ _ _ _ _ _ _ _ _ _ _ _ _ _ _ _ _ _ _ _ _ _ _ _ _ _ _ _ _ _ _ _ _ _ _ _ _ _ _ _ _ _ _ _ _ _ _ _ _ _ _ ?_
  intro v218 v219 v220 v221 v222 v223 v224 v225 v226 v227 v228 v229 v230 v231 v232 v233 v234 v235 v236 v237 v238 v239 v240 v241 v242 v243 v244 v245 v246 v247 w21 bcut
  have zw21 : w20.heap.size ≤ w21.heap.size := bcut.size
  have cw21_bg_0 : w21.cell? ⟨bg, 0, none⟩ = some (.int .i64 g0) := by rw [bcut.cell (p := ⟨bg, 0, none⟩) (by dsimp only; omega)]; exact cw20_bg_0
  have cw21_bg_1 : w21.cell? ⟨bg, 1, none⟩ = some (.int .i64 g1) := by rw [bcut.cell (p := ⟨bg, 1, none⟩) (by dsimp only; omega)]; exact cw20_bg_1
  have cw21_bg_l : bg < w21.heap.size := by omega
  have cw21_bh_0 : w21.cell? ⟨bh, 0, none⟩ = some (.int .i64 h0) := by rw [bcut.cell (p := ⟨bh, 0, none⟩) (by dsimp only; omega)]; exact cw20_bh_0
  have cw21_bh_1 : w21.cell? ⟨bh, 1, none⟩ = some (.int .i64 h1) := by rw [bcut.cell (p := ⟨bh, 1, none⟩) (by dsimp only; omega)]; exact cw20_bh_1
  have cw21_bh_l : bh < w21.heap.size := by omega
  have lWw21 : W.heap.size ≤ w21.heap.size := by omega
  have hBw21 : Below W.heap.size W w21 := hBw20.trans (bcut.mono (by omega))
  clear zw21 bcut cw20_bg_0 cw20_bg_1 cw20_bg_l cw20_bh_0 cw20_bh_1 cw20_bh_l lWw20 hBw20
  clear cw21_bg_0 cw21_bg_1 cw21_bg_l cw21_bh_0 cw21_bh_1 cw21_bh_l
  clear HX K1 K2 K3 hy0 hy1
  go_wp2_with fail
  refine (drawFractionOf_c _ w21 (hv.below hBw21)).mono ?_
  rintro e w22 ⟨p, q, rfl, hp, hq, bw22⟩
  have zw22 : w21.heap.size ≤ w22.heap.size := bw22.size
  have lWw22 : W.heap.size ≤ w22.heap.size := by omega
  have hBw22 : Below W.heap.size W w22 := hBw21.trans (bw22.mono (by omega))
  clear zw22 bw22 lWw21 hBw21
  obtain ⟨a0, a1, a2, K1, K2⟩ := frac_all p q
  go_wp2_with fail
  refine (K1.out.get _).mono ?_
  rintro e w23 ⟨rfl, bw23⟩
  have zw23 : w22.heap.size ≤ w23.heap.size := bw23.size
  have lWw23 : W.heap.size ≤ w23.heap.size := by omega
  have hBw23 : Below W.heap.size W w23 := hBw22.trans (bw23.mono (by omega))
  clear zw23 bw23 lWw22 hBw22
  go_wp2_with fail
  generalize hww24 : World.alloc _ _ = w24
  obtain ⟨ba, hba⟩ : ∃ b, w23.heap.size = b := ⟨_, rfl⟩
  have bbw24 : Below ba w23 w24 := by subst hww24 hba; exact (by repeat' (first | (with_reducible exact Below.refl _ _) | (with_reducible assumption) | (with_reducible refine below_drewN ?_ _) | (with_reducible refine Below.drew ?_) | (with_reducible refine Below.alloc ?_ ?_ _) | (with_reducible refine Below.setCell ?_ ?_ _) | (with_reducible refine Below.trans ?_ (Below.mono (by with_reducible assumption) ?_)) | go_size | (dsimp only; omega)))
  have cw24_ba_0 : w24.cell? ⟨ba, 0, none⟩ = some (.int .i64 a0) := by subst hww24 hba; first | (go_cell; done) | (go_simp; done)
  have cw24_ba_1 : w24.cell? ⟨ba, 1, none⟩ = some (.int .i64 a1) := by subst hww24 hba; first | (go_cell; done) | (go_simp; done)
  have cw24_ba_l : ba < w24.heap.size := by subst hww24 hba; go_size
  have yw24 := bbw24.size
  (try rw [hba])
  clear hww24
  have zw24 : w23.heap.size ≤ w24.heap.size := yw24
  have lWw24 : W.heap.size ≤ w24.heap.size := by omega
  have hBw24 : Below W.heap.size W w24 := hBw23.trans (bbw24.mono (by omega))
  clear zw24 bbw24 lWw23 hBw23
  clear yw24 hba
  refine (K2.out.get _).mono ?_
  rintro e w25 ⟨rfl, bw25⟩
  have zw25 : w24.heap.size ≤ w25.heap.size := bw25.size
  have cw25_ba_0 : w25.cell? ⟨ba, 0, none⟩ = some (.int .i64 a0) := by rw [bw25.cell (p := ⟨ba, 0, none⟩) (by dsimp only; omega)]; exact cw24_ba_0
  have cw25_ba_1 : w25.cell? ⟨ba, 1, none⟩ = some (.int .i64 a1) := by rw [bw25.cell (p := ⟨ba, 1, none⟩) (by dsimp only; omega)]; exact cw24_ba_1
  have cw25_ba_l : ba < w25.heap.size := by omega
  have lWw25 : W.heap.size ≤ w25.heap.size := by omega
  have hBw25 : Below W.heap.size W w25 := hBw24.trans (bw25.mono (by omega))
  clear zw25 bw25 cw24_ba_0 cw24_ba_1 cw24_ba_l lWw24 hBw24
  go_wp2_with fail
  generalize hww26 : World.alloc _ _ = w26
  obtain ⟨bb, hbb⟩ : ∃ b, w25.heap.size = b := ⟨_, rfl⟩
  have bbw26 : Below bb w25 w26 := by subst hww26 hbb; exact (by repeat' (first | (with_reducible exact Below.refl _ _) | (with_reducible assumption) | (with_reducible refine below_drewN ?_ _) | (with_reducible refine Below.drew ?_) | (with_reducible refine Below.alloc ?_ ?_ _) | (with_reducible refine Below.setCell ?_ ?_ _) | (with_reducible refine Below.trans ?_ (Below.mono (by with_reducible assumption) ?_)) | go_size | (dsimp only; omega)))
  have cw26_bb_0 : w26.cell? ⟨bb, 0, none⟩ = some (.int .i64 a0) := by subst hww26 hbb; first | (go_cell; done) | (go_simp; done)
  have cw26_bb_1 : w26.cell? ⟨bb, 1, none⟩ = some (.int .i64 a1) := by subst hww26 hbb; first | (go_cell; done) | (go_simp; done)
  have cw26_bb_l : bb < w26.heap.size := by subst hww26 hbb; go_size
  have yw26 := bbw26.size
  (try rw [hbb])
  clear hww26
  have zw26 : w25.heap.size ≤ w26.heap.size := yw26
  have cw26_ba_0 : w26.cell? ⟨ba, 0, none⟩ = some (.int .i64 a0) := by rw [bbw26.cell (p := ⟨ba, 0, none⟩) (by dsimp only; omega)]; exact cw25_ba_0
  have cw26_ba_1 : w26.cell? ⟨ba, 1, none⟩ = some (.int .i64 a1) := by rw [bbw26.cell (p := ⟨ba, 1, none⟩) (by dsimp only; omega)]; exact cw25_ba_1
  have cw26_ba_l : ba < w26.heap.size := by omega
  have lWw26 : W.heap.size ≤ w26.heap.size := by omega
  have hBw26 : Below W.heap.size W w26 := hBw25.trans (bbw26.mono (by omega))
  clear zw26 bbw26 cw25_ba_0 cw25_ba_1 cw25_ba_l lWw25 hBw25
  clear yw26 hbb
  refine (drawRestsOf_c _ w26 (hv.below hBw26)).mono ?_
  rintro e w27 ⟨r0, r1, r2, r3, k, rfl, hk, bw27⟩
  have zw27 : w26.heap.size ≤ w27.heap.size := bw27.size
  have cw27_ba_0 : w27.cell? ⟨ba, 0, none⟩ = some (.int .i64 a0) := by rw [bw27.cell (p := ⟨ba, 0, none⟩) (by dsimp only; omega)]; exact cw26_ba_0
  have cw27_ba_1 : w27.cell? ⟨ba, 1, none⟩ = some (.int .i64 a1) := by rw [bw27.cell (p := ⟨ba, 1, none⟩) (by dsimp only; omega)]; exact cw26_ba_1
  have cw27_ba_l : ba < w27.heap.size := by omega
  have cw27_bb_0 : w27.cell? ⟨bb, 0, none⟩ = some (.int .i64 a0) := by rw [bw27.cell (p := ⟨bb, 0, none⟩) (by dsimp only; omega)]; exact cw26_bb_0
  have cw27_bb_1 : w27.cell? ⟨bb, 1, none⟩ = some (.int .i64 a1) := by rw [bw27.cell (p := ⟨bb, 1, none⟩) (by dsimp only; omega)]; exact cw26_bb_1
  have cw27_bb_l : bb < w27.heap.size := by omega
  have lWw27 : W.heap.size ≤ w27.heap.size := by omega
  have hBw27 : Below W.heap.size W w27 := hBw26.trans (bw27.mono (by omega))
  clear zw27 bw27 cw26_ba_0 cw26_ba_1 cw26_ba_l cw26_bb_0 cw26_bb_1 cw26_bb_l lWw26 hBw26
  obtain ⟨hk0, hk1⟩ := hk
  go_wp2_with fail
  generalize hww28 : World.alloc _ _ = w28
  obtain ⟨br, hbr⟩ : ∃ b, w27.heap.size = b := ⟨_, rfl⟩
  have bbw28 : Below br w27 w28 := by subst hww28 hbr; exact (by repeat' (first | (with_reducible exact Below.refl _ _) | (with_reducible assumption) | (with_reducible refine below_drewN ?_ _) | (with_reducible refine Below.drew ?_) | (with_reducible refine Below.alloc ?_ ?_ _) | (with_reducible refine Below.setCell ?_ ?_ _) | (with_reducible refine Below.trans ?_ (Below.mono (by with_reducible assumption) ?_)) | go_size | (dsimp only; omega)))
  have cw28_br_0 : w28.cell? ⟨br, 0, none⟩ = some (.int .i64 r0) := by subst hww28 hbr; first | (go_cell; done) | (go_simp; done)
  have cw28_br_1 : w28.cell? ⟨br, 1, none⟩ = some (.int .i64 r1) := by subst hww28 hbr; first | (go_cell; done) | (go_simp; done)
  have cw28_br_2 : w28.cell? ⟨br, 2, none⟩ = some (.int .i64 r2) := by subst hww28 hbr; first | (go_cell; done) | (go_simp; done)
  have cw28_br_3 : w28.cell? ⟨br, 3, none⟩ = some (.int .i64 r3) := by subst hww28 hbr; first | (go_cell; done) | (go_simp; done)
  have cw28_br_l : br < w28.heap.size := by subst hww28 hbr; go_size
  have yw28 := bbw28.size
  (try rw [hbr])
  clear hww28
  have zw28 : w27.heap.size ≤ w28.heap.size := yw28
  have cw28_ba_0 : w28.cell? ⟨ba, 0, none⟩ = some (.int .i64 a0) := by rw [bbw28.cell (p := ⟨ba, 0, none⟩) (by dsimp only; omega)]; exact cw27_ba_0
  have cw28_ba_1 : w28.cell? ⟨ba, 1, none⟩ = some (.int .i64 a1) := by rw [bbw28.cell (p := ⟨ba, 1, none⟩) (by dsimp only; omega)]; exact cw27_ba_1
  have cw28_ba_l : ba < w28.heap.size := by omega
  have cw28_bb_0 : w28.cell? ⟨bb, 0, none⟩ = some (.int .i64 a0) := by rw [bbw28.cell (p := ⟨bb, 0, none⟩) (by dsimp only; omega)]; exact cw27_bb_0
  have cw28_bb_1 : w28.cell? ⟨bb, 1, none⟩ = some (.int .i64 a1) := by rw [bbw28.cell (p := ⟨bb, 1, none⟩) (by dsimp only; omega)]; exact cw27_bb_1
  have cw28_bb_l : bb < w28.heap.size := by omega
  have lWw28 : W.heap.size ≤ w28.heap.size := by omega
  have hBw28 : Below W.heap.size W w28 := hBw27.trans (bbw28.mono (by omega))
  clear zw28 bbw28 cw27_ba_0 cw27_ba_1 cw27_ba_l cw27_bb_0 cw27_bb_1 cw27_bb_l lWw27 hBw27
  clear yw28 hbr
  obtain ⟨zs, c, hzl, K3, K4, hz⟩ := rests_all r0 r1 r2 r3 k
  have HZ := Lib.hid hz
  clear hz
  refine (K3.out w28).mono ?_
  rintro e w29 ⟨v1, rfl, ho1, bw29⟩
  have zw29 : w28.heap.size ≤ w29.heap.size := bw29.size
  have cw29_ba_0 : w29.cell? ⟨ba, 0, none⟩ = some (.int .i64 a0) := by rw [bw29.cell (p := ⟨ba, 0, none⟩) (by dsimp only; omega)]; exact cw28_ba_0
  have cw29_ba_1 : w29.cell? ⟨ba, 1, none⟩ = some (.int .i64 a1) := by rw [bw29.cell (p := ⟨ba, 1, none⟩) (by dsimp only; omega)]; exact cw28_ba_1
  have cw29_ba_l : ba < w29.heap.size := by omega
  have cw29_bb_0 : w29.cell? ⟨bb, 0, none⟩ = some (.int .i64 a0) := by rw [bw29.cell (p := ⟨bb, 0, none⟩) (by dsimp only; omega)]; exact cw28_bb_0
  have cw29_bb_1 : w29.cell? ⟨bb, 1, none⟩ = some (.int .i64 a1) := by rw [bw29.cell (p := ⟨bb, 1, none⟩) (by dsimp only; omega)]; exact cw28_bb_1
  have cw29_bb_l : bb < w29.heap.size := by omega
  have cw29_br_0 : w29.cell? ⟨br, 0, none⟩ = some (.int .i64 r0) := by rw [bw29.cell (p := ⟨br, 0, none⟩) (by dsimp only; omega)]; exact cw28_br_0
  have cw29_br_1 : w29.cell? ⟨br, 1, none⟩ = some (.int .i64 r1) := by rw [bw29.cell (p := ⟨br, 1, none⟩) (by dsimp only; omega)]; exact cw28_br_1
  have cw29_br_2 : w29.cell? ⟨br, 2, none⟩ = some (.int .i64 r2) := by rw [bw29.cell (p := ⟨br, 2, none⟩) (by dsimp only; omega)]; exact cw28_br_2
  have cw29_br_3 : w29.cell? ⟨br, 3, none⟩ = some (.int .i64 r3) := by rw [bw29.cell (p := ⟨br, 3, none⟩) (by dsimp only; omega)]; exact cw28_br_3
  have cw29_br_l : br < w29.heap.size := by omega
  have lWw29 : W.heap.size ≤ w29.heap.size := by omega
  have hBw29 : Below W.heap.size W w29 := hBw28.trans (bw29.mono (by omega))
  clear zw29 bw29 cw28_ba_0 cw28_ba_1 cw28_ba_l cw28_bb_0 cw28_bb_1 cw28_bb_l cw28_br_0 cw28_br_1 cw28_br_2 cw28_br_3 cw28_br_l lWw28 hBw28
  go_wp2_with fail
  refine (K4.out w29).mono ?_
  rintro e w30 ⟨v2, rfl, ho2, bw30⟩
  have ho1 := ho1.below bw30 (Nat.le_refl _)
  have zw30 : w29.heap.size ≤ w30.heap.size := bw30.size
  have cw30_ba_0 : w30.cell? ⟨ba, 0, none⟩ = some (.int .i64 a0) := by rw [bw30.cell (p := ⟨ba, 0, none⟩) (by dsimp only; omega)]; exact cw29_ba_0
  have cw30_ba_1 : w30.cell? ⟨ba, 1, none⟩ = some (.int .i64 a1) := by rw [bw30.cell (p := ⟨ba, 1, none⟩) (by dsimp only; omega)]; exact cw29_ba_1
  have cw30_ba_l : ba < w30.heap.size := by omega
  have cw30_bb_0 : w30.cell? ⟨bb, 0, none⟩ = some (.int .i64 a0) := by rw [bw30.cell (p := ⟨bb, 0, none⟩) (by dsimp only; omega)]; exact cw29_bb_0
  have cw30_bb_1 : w30.cell? ⟨bb, 1, none⟩ = some (.int .i64 a1) := by rw [bw30.cell (p := ⟨bb, 1, none⟩) (by dsimp only; omega)]; exact cw29_bb_1
  have cw30_bb_l : bb < w30.heap.size := by omega
  have cw30_br_0 : w30.cell? ⟨br, 0, none⟩ = some (.int .i64 r0) := by rw [bw30.cell (p := ⟨br, 0, none⟩) (by dsimp only; omega)]; exact cw29_br_0
  have cw30_br_1 : w30.cell? ⟨br, 1, none⟩ = some (.int .i64 r1) := by rw [bw30.cell (p := ⟨br, 1, none⟩) (by dsimp only; omega)]; exact cw29_br_1
  have cw30_br_2 : w30.cell? ⟨br, 2, none⟩ = some (.int .i64 r2) := by rw [bw30.cell (p := ⟨br, 2, none⟩) (by dsimp only; omega)]; exact cw29_br_2
  have cw30_br_3 : w30.cell? ⟨br, 3, none⟩ = some (.int .i64 r3) := by rw [bw30.cell (p := ⟨br, 3, none⟩) (by dsimp only; omega)]; exact cw29_br_3
  have cw30_br_l : br < w30.heap.size := by omega
  have lWw30 : W.heap.size ≤ w30.heap.size := by omega
  have hBw30 : Below W.heap.size W w30 := hBw29.trans (bw30.mono (by omega))
  clear zw30 bw30 cw29_ba_0 cw29_ba_1 cw29_ba_l cw29_bb_0 cw29_bb_1 cw29_bb_l cw29_br_0 cw29_br_1 cw29_br_2 cw29_br_3 cw29_br_l lWw29 hBw29
  go_wp2_with fail
  refine (likeI_c v1 v2 _ _ zs w30 (by omega) ho1 ho2).mono ?_
  rintro e w31 ⟨rfl, jw31, ew31⟩
  have bw31 : Below w30.heap.size w30 w31 := by rw [ew31]; first | exact below_drewN (Below.refl _ _) _ | exact RowKit.below_drewN (Below.refl _ _) _ | exact Go.RowKit.below_drewN (Below.refl _ _) _ | exact ⟨rfl, rfl, rfl, Nat.le_refl _, fun _ _ => rfl⟩
  clear ew31
  have ho1 := ho1.below bw31 (Nat.le_refl _)
  have zw31 : w30.heap.size ≤ w31.heap.size := bw31.size
  have cw31_ba_0 : w31.cell? ⟨ba, 0, none⟩ = some (.int .i64 a0) := by rw [bw31.cell (p := ⟨ba, 0, none⟩) (by dsimp only; omega)]; exact cw30_ba_0
  have cw31_ba_1 : w31.cell? ⟨ba, 1, none⟩ = some (.int .i64 a1) := by rw [bw31.cell (p := ⟨ba, 1, none⟩) (by dsimp only; omega)]; exact cw30_ba_1
  have cw31_ba_l : ba < w31.heap.size := by omega
  have cw31_bb_0 : w31.cell? ⟨bb, 0, none⟩ = some (.int .i64 a0) := by rw [bw31.cell (p := ⟨bb, 0, none⟩) (by dsimp only; omega)]; exact cw30_bb_0
  have cw31_bb_1 : w31.cell? ⟨bb, 1, none⟩ = some (.int .i64 a1) := by rw [bw31.cell (p := ⟨bb, 1, none⟩) (by dsimp only; omega)]; exact cw30_bb_1
  have cw31_bb_l : bb < w31.heap.size := by omega
  have cw31_br_0 : w31.cell? ⟨br, 0, none⟩ = some (.int .i64 r0) := by rw [bw31.cell (p := ⟨br, 0, none⟩) (by dsimp only; omega)]; exact cw30_br_0
  have cw31_br_1 : w31.cell? ⟨br, 1, none⟩ = some (.int .i64 r1) := by rw [bw31.cell (p := ⟨br, 1, none⟩) (by dsimp only; omega)]; exact cw30_br_1
  have cw31_br_2 : w31.cell? ⟨br, 2, none⟩ = some (.int .i64 r2) := by rw [bw31.cell (p := ⟨br, 2, none⟩) (by dsimp only; omega)]; exact cw30_br_2
  have cw31_br_3 : w31.cell? ⟨br, 3, none⟩ = some (.int .i64 r3) := by rw [bw31.cell (p := ⟨br, 3, none⟩) (by dsimp only; omega)]; exact cw30_br_3
  have cw31_br_l : br < w31.heap.size := by omega
  have lWw31 : W.heap.size ≤ w31.heap.size := by omega
  have hBw31 : Below W.heap.size W w31 := hBw30.trans (bw31.mono (by omega))
  clear zw31 bw31 cw30_ba_0 cw30_ba_1 cw30_ba_l cw30_bb_0 cw30_bb_1 cw30_bb_l cw30_br_0 cw30_br_1 cw30_br_2 cw30_br_3 cw30_br_l lWw30 hBw30
  clear ho2
  go_upto_region 39 with fail
  clear cw31_ba_0 cw31_ba_1 cw31_ba_l cw31_bb_0 cw31_bb_1 cw31_bb_l cw31_br_0 cw31_br_1 cw31_br_2 cw31_br_3 cw31_br_l
  refine freg6_c W w31 hBw31 lWw31 _ v1 zs k c ho1 HZ   _ _ _ _ _ _ _ _ _ _ _ _ _ _ _ _ _ _ _ _ _ _ _ _ _ _ _ _ _ _ _ _ _ _ _ _ _ _ _ _ _ _ _ _ _ _ _ _ _ _ _ _ _ _ _ _ _ _ _ _ _ _ _ _ _ _ _ _ _ _ _ _ _ _ _ _ _ _ _ _ _ _ _ _ _ _ _ _ _ _ _ _ _ _ _ _ _ _ _ _ _ _ _ _ _ _ _ _ _ _ _ _ _ _ _ _ _ _ _ _ _ _ _ _ _ _ _ _ _ _ _ _ _ _ _ _ _ _ _ _ _ _ _ _ _ _ _ _ _ _ _ _ _ _ _ _ _ _ _ _ _ _ _ _ _ _ _ _ _ _ _ _ _ _ _ _ _ _ _ _ _ _ _ _ _ _ _ _ _ _ _ _ _ _ _ _ _ _ _ _ _ _ _ _ _ _ _ _ _ _ _ _ _ _ _ _ _ _ _ _ _ _ _ _ _ _ _ _ _ _ _ _ _ _ _ _ _ _ _ _ _ _ _ _ _ _ _ _ _ _ _ _ _ _ _ _ _ _ _ _ _ _ _ _ _ _ _ _ _ _ _ _ _ _ _ _ _ _ _ _ _ _ _ _ _ _ _ _ _ _ _ _ _ _ _ _ _ _ _ _ _ _ _ _ _ _ _ _ _ _ _ _ _ _ _ _ _ _ _ _ _ _ _ _ _ _ _ _ _ _ _ _ _ _ _ _ _ _ _ _ _ _ _ _ _ _ _ _ _ _ _ _ _ _ _ _ _ _ _ _ _ _ _ _ _ _ _ _ _ _ _ _ _ _ _ _ _ _ _ _ _ _ _ _ _ _ _ _ _ _ ?_
  intro v302 v303 v304 v305 v306 v307 v308 v309 v310 v311 v312 v313 v314 v315 v316 v317 v318 v319 v320 v321 v322 v323 v324 v325 v326 v327 w32 bcut
  have zw32 : w31.heap.size ≤ w32.heap.size := bcut.size
  have lWw32 : W.heap.size ≤ w32.heap.size := by omega
  have hBw32 : Below W.heap.size W w32 := hBw31.trans (bcut.mono (by omega))
  clear zw32 bcut lWw31 hBw31
  clear ho1 HZ K1 K2 K3 K4 hzl
  go_wp2_with fail
  refine (drawCountModulo_c _ w32 (hv.below hBw32)).mono ?_
  rintro e w33 ⟨b, rfl, hb0, hb1, bw33⟩
  have zw33 : w32.heap.size ≤ w33.heap.size := bw33.size
  have lWw33 : W.heap.size ≤ w33.heap.size := by omega
  have hBw33 : Below W.heap.size W w33 := hBw32.trans (bw33.mono (by omega))
  clear zw33 bw33 lWw32 hBw32
  obtain ⟨s0, s1, K1, K2⟩ := count_all b
  go_wp2_with fail
  refine (K1.out w33).mono ?_
  rintro e w34 ⟨rfl, bw34⟩
  have zw34 : w33.heap.size ≤ w34.heap.size := bw34.size
  have lWw34 : W.heap.size ≤ w34.heap.size := by omega
  have hBw34 : Below W.heap.size W w34 := hBw33.trans (bw34.mono (by omega))
  clear zw34 bw34 lWw33 hBw33
  go_wp2_with fail
  refine (K2.out w34).mono ?_
  rintro e w2x ⟨rfl, rfl⟩
  go_wp2_with fail
  refine (drawMatricesWithin_c _ w34 (hv.below hBw34)).mono ?_
  rintro e w35 ⟨c2, rfl, hc0, hc1, bw35⟩
  have zw35 : w34.heap.size ≤ w35.heap.size := bw35.size
  have lWw35 : W.heap.size ≤ w35.heap.size := by omega
  have hBw35 : Below W.heap.size W w35 := hBw34.trans (bw35.mono (by omega))
  clear zw35 bw35 lWw34 hBw34
  obtain ⟨ms, mc, hml, K3, K4⟩ := mats_all c2
  go_wp2_with fail
  refine (K3.out w35).mono ?_
  rintro e w36 ⟨v3, rfl, ho3, bw36⟩
  have zw36 : w35.heap.size ≤ w36.heap.size := bw36.size
  have lWw36 : W.heap.size ≤ w36.heap.size := by omega
  have hBw36 : Below W.heap.size W w36 := hBw35.trans (bw36.mono (by omega))
  clear zw36 bw36 lWw35 hBw35
  go_wp2_with fail
  refine (K4.out w36).mono ?_
  rintro e w37 ⟨v4, rfl, ho4, bw37⟩
  have ho3 := ho3.below bw37 (Nat.le_refl _)
  have zw37 : w36.heap.size ≤ w37.heap.size := bw37.size
  have lWw37 : W.heap.size ≤ w37.heap.size := by omega
  have hBw37 : Below W.heap.size W w37 := hBw36.trans (bw37.mono (by omega))
  clear zw37 bw37 lWw36 hBw36
  go_wp2_with fail
  refine (drawParseFraction_c _ w37 (hv.below hBw37)).mono ?_
  rintro e w38 ⟨str, rfl, hstr, bw38⟩
  have ho3 := ho3.below bw38 (Nat.le_refl _)
  have ho4 := ho4.below bw38 (Nat.le_refl _)
  have zw38 : w37.heap.size ≤ w38.heap.size := bw38.size
  have lWw38 : W.heap.size ≤ w38.heap.size := by omega
  have hBw38 : Below W.heap.size W w38 := hBw37.trans (bw38.mono (by omega))
  clear zw38 bw38 lWw37 hBw37
  obtain ⟨p0, p1, p2, hpf⟩ := parseF_form' str.data.toList
  have HP := Lib.hid hpf
  clear hpf
  go_wp2_with fail
  refine (ParseFraction_c str _ vm vt1 vt2 vp1 vp2 hstr (Lib.hid (HV.out _ hBw38))).mono ?_
  rintro e w39 ⟨rfl, bw39⟩
  have ho3 := ho3.below bw39 (Nat.le_refl _)
  have ho4 := ho4.below bw39 (Nat.le_refl _)
  have zw39 : w38.heap.size ≤ w39.heap.size := bw39.size
  have lWw39 : W.heap.size ≤ w39.heap.size := by omega
  have hBw39 : Below W.heap.size W w39 := hBw38.trans (bw39.mono (by omega))
  clear zw39 bw39 lWw38 hBw38
  rw [HP.out]
  go_wp2_with fail
  generalize hww40 : World.alloc _ _ = w40
  obtain ⟨bp, hbp⟩ : ∃ b, w39.heap.size = b := ⟨_, rfl⟩
  have bbw40 : Below bp w39 w40 := by subst hww40 hbp; exact (by repeat' (first | (with_reducible exact Below.refl _ _) | (with_reducible assumption) | (with_reducible refine below_drewN ?_ _) | (with_reducible refine Below.drew ?_) | (with_reducible refine Below.alloc ?_ ?_ _) | (with_reducible refine Below.setCell ?_ ?_ _) | (with_reducible refine Below.trans ?_ (Below.mono (by with_reducible assumption) ?_)) | go_size | (dsimp only; omega)))
  have cw40_bp_0 : w40.cell? ⟨bp, 0, none⟩ = some (.int .i64 p0) := by subst hww40 hbp; first | (go_cell; done) | (go_simp; done)
  have cw40_bp_1 : w40.cell? ⟨bp, 1, none⟩ = some (.int .i64 p1) := by subst hww40 hbp; first | (go_cell; done) | (go_simp; done)
  have cw40_bp_l : bp < w40.heap.size := by subst hww40 hbp; go_size
  have yw40 := bbw40.size
  (try rw [hbp])
  clear hww40
  have ho3 := ho3.below bbw40 (by omega)
  have ho4 := ho4.below bbw40 (by omega)
  have zw40 : w39.heap.size ≤ w40.heap.size := yw40
  have lWw40 : W.heap.size ≤ w40.heap.size := by omega
  have hBw40 : Below W.heap.size W w40 := hBw39.trans (bbw40.mono (by omega))
  clear zw40 bbw40 lWw39 hBw39
  clear yw40 hbp
  refine (sParseFraction_c str _ hstr).mono ?_
  rintro e w41 ⟨rfl, bw41⟩
  have ho3 := ho3.below bw41 (Nat.le_refl _)
  have ho4 := ho4.below bw41 (Nat.le_refl _)
  have zw41 : w40.heap.size ≤ w41.heap.size := bw41.size
  have cw41_bp_0 : w41.cell? ⟨bp, 0, none⟩ = some (.int .i64 p0) := by rw [bw41.cell (p := ⟨bp, 0, none⟩) (by dsimp only; omega)]; exact cw40_bp_0
  have cw41_bp_1 : w41.cell? ⟨bp, 1, none⟩ = some (.int .i64 p1) := by rw [bw41.cell (p := ⟨bp, 1, none⟩) (by dsimp only; omega)]; exact cw40_bp_1
  have cw41_bp_l : bp < w41.heap.size := by omega
  have lWw41 : W.heap.size ≤ w41.heap.size := by omega
  have hBw41 : Below W.heap.size W w41 := hBw40.trans (bw41.mono (by omega))
  clear zw41 bw41 cw40_bp_0 cw40_bp_1 cw40_bp_l lWw40 hBw40
  rw [HP.out]
  go_wp2_with fail
  generalize hww42 : World.alloc _ _ = w42
  obtain ⟨bq, hbq⟩ : ∃ b, w41.heap.size = b := ⟨_, rfl⟩
  have bbw42 : Below bq w41 w42 := by subst hww42 hbq; exact (by repeat' (first | (with_reducible exact Below.refl _ _) | (with_reducible assumption) | (with_reducible refine below_drewN ?_ _) | (with_reducible refine Below.drew ?_) | (with_reducible refine Below.alloc ?_ ?_ _) | (with_reducible refine Below.setCell ?_ ?_ _) | (with_reducible refine Below.trans ?_ (Below.mono (by with_reducible assumption) ?_)) | go_size | (dsimp only; omega)))
  have cw42_bq_0 : w42.cell? ⟨bq, 0, none⟩ = some (.int .i64 p0) := by subst hww42 hbq; first | (go_cell; done) | (go_simp; done)
  have cw42_bq_1 : w42.cell? ⟨bq, 1, none⟩ = some (.int .i64 p1) := by subst hww42 hbq; first | (go_cell; done) | (go_simp; done)
  have cw42_bq_l : bq < w42.heap.size := by subst hww42 hbq; go_size
  have yw42 := bbw42.size
  (try rw [hbq])
  clear hww42
  have ho3 := ho3.below bbw42 (by omega)
  have ho4 := ho4.below bbw42 (by omega)
  have zw42 : w41.heap.size ≤ w42.heap.size := yw42
  have cw42_bp_0 : w42.cell? ⟨bp, 0, none⟩ = some (.int .i64 p0) := by rw [bbw42.cell (p := ⟨bp, 0, none⟩) (by dsimp only; omega)]; exact cw41_bp_0
  have cw42_bp_1 : w42.cell? ⟨bp, 1, none⟩ = some (.int .i64 p1) := by rw [bbw42.cell (p := ⟨bp, 1, none⟩) (by dsimp only; omega)]; exact cw41_bp_1
  have cw42_bp_l : bp < w42.heap.size := by omega
  have lWw42 : W.heap.size ≤ w42.heap.size := by omega
  have hBw42 : Below W.heap.size W w42 := hBw41.trans (bbw42.mono (by omega))
  clear zw42 bbw42 cw41_bp_0 cw41_bp_1 cw41_bp_l lWw41 hBw41
  clear yw42 hbq
  refine (matrices5_c v3 v4 _ _ ms w42 (by omega) ho3 ho4).mono ?_
  rintro e w43 ⟨rfl, jw43, ew43⟩
  have bw43 : Below w42.heap.size w42 w43 := by rw [ew43]; first | exact below_drewN (Below.refl _ _) _ | exact RowKit.below_drewN (Below.refl _ _) _ | exact Go.RowKit.below_drewN (Below.refl _ _) _ | exact ⟨rfl, rfl, rfl, Nat.le_refl _, fun _ _ => rfl⟩
  clear ew43
  have zw43 : w42.heap.size ≤ w43.heap.size := bw43.size
  have cw43_bp_0 : w43.cell? ⟨bp, 0, none⟩ = some (.int .i64 p0) := by rw [bw43.cell (p := ⟨bp, 0, none⟩) (by dsimp only; omega)]; exact cw42_bp_0
  have cw43_bp_1 : w43.cell? ⟨bp, 1, none⟩ = some (.int .i64 p1) := by rw [bw43.cell (p := ⟨bp, 1, none⟩) (by dsimp only; omega)]; exact cw42_bp_1
  have cw43_bp_l : bp < w43.heap.size := by omega
  have cw43_bq_0 : w43.cell? ⟨bq, 0, none⟩ = some (.int .i64 p0) := by rw [bw43.cell (p := ⟨bq, 0, none⟩) (by dsimp only; omega)]; exact cw42_bq_0
  have cw43_bq_1 : w43.cell? ⟨bq, 1, none⟩ = some (.int .i64 p1) := by rw [bw43.cell (p := ⟨bq, 1, none⟩) (by dsimp only; omega)]; exact cw42_bq_1
  have cw43_bq_l : bq < w43.heap.size := by omega
  have lWw43 : W.heap.size ≤ w43.heap.size := by omega
  have hBw43 : Below W.heap.size W w43 := hBw42.trans (bw43.mono (by omega))
  clear zw43 bw43 cw42_bp_0 cw42_bp_1 cw42_bp_l cw42_bq_0 cw42_bq_1 cw42_bq_l lWw42 hBw42
  go_wp2
  go_returns
  exact ⟨rfl, (by repeat' (first | (with_reducible exact Below.refl _ _) | (with_reducible assumption) | (with_reducible refine below_drewN ?_ _) | (with_reducible refine Below.drew ?_) | (with_reducible refine Below.alloc ?_ ?_ _) | (with_reducible refine Below.setCell ?_ ?_ _) | (with_reducible refine Below.trans ?_ (Below.mono (by with_reducible assumption) ?_)) | go_size | (dsimp only; omega)))⟩
end Go.Proofs.YtlkhhpckgcdeeaaGreatDoor
