/- The law of RestsOf. -/
import Derived.Test.YtenmmldkgkbifaaJ
namespace Go.Proofs.Ytenmmldkgkbifaa
open Go.RowKit
set_option linter.unusedVariables false
set_option linter.unusedSimpArgs false
theorem markInt64S_nil (k : Int) (w : World) :
    Calls Try.prog 22 #[.slice none 0 0, .int .i64 k] w fun e w' => e = .returned (.int .i64 k) ∧ w = w' := by
  go_enter Try.func22, Try.ntmps22
  go_wp2
  refine wp_loop_rounds 1 ?_
  rw [rounds_succ]
  go_wp2
  go_ret
  exact ⟨rfl, rfl⟩
theorem heldInt64S_nil (k : Int) (w : World) :
    Calls Try.prog 23 #[.slice none 0 0, .int .i64 k] w fun e w' => e = .returned (.int .i64 k) ∧ w = w' := by
  go_enter Try.func23, Try.ntmps23
  go_wp2
  refine wp_loop_rounds 1 ?_
  rw [rounds_succ]
  go_wp2
  go_ret
  exact ⟨rfl, rfl⟩
set_option maxHeartbeats 4000000 in
theorem RestsOf_nil (p q r s n c : Int) (W : World) (K1 : Hid (∀ w, Calls Try.prog 20 #[.agg #[.int .i64 p, .int .i64 q, .int .i64 r, .int .i64 s], .int .i64 n] w fun e w' => e = .returned (.tuple #[.slice none 0 0, .int .i64 c]) ∧ Below w.heap.size w w')) (K2 : Hid (∀ w, Calls Try.prog 18 #[.agg #[.int .i64 p, .int .i64 q, .int .i64 r, .int .i64 s], .int .i64 n] w fun e w' => e = .returned (.tuple #[.slice none 0 0, .int .i64 c]) ∧ Below w.heap.size w w')) :
    Calls Try.prog 4 #[.agg #[.int .i64 p, .int .i64 q, .int .i64 r, .int .i64 s], .int .i64 n] W fun e w' => e = .returned (.bool true) ∧ Below W.heap.size W w' := by
  go_enter Try.func4, Try.ntmps4
  go_wp2_with fail
  refine (toMatrix_c _ _ _ _ _).mono ?_
  rintro e w0 ⟨rfl, b0⟩
  have zzb0 := b0.size; (try simp at zzb0); have zb0_0 : W.heap.size < w0.heap.size := (by omega); have kcb0_0 : ∀ o, w0.cell? ⟨W.heap.size, o, none⟩ = _ := fun o => b0.cell (p := ⟨W.heap.size, o, none⟩) (by go_size); have kfb0_0 : ∀ o, w0.frozen? ⟨W.heap.size, o, none⟩ = _ := fun o => b0.frozen (p := ⟨W.heap.size, o, none⟩) (by go_size); clear zzb0
  go_wp2_with fail
  refine (K2.out _).mono ?_
  rintro e wa ⟨rfl, ba⟩
  have zzba := ba.size; (try simp at zzba); have zba_0 : W.heap.size < wa.heap.size := (by omega); have kcba_0 : ∀ o, wa.cell? ⟨W.heap.size, o, none⟩ = _ := fun o => ba.cell (p := ⟨W.heap.size, o, none⟩) (by go_size); have kfba_0 : ∀ o, wa.frozen? ⟨W.heap.size, o, none⟩ = _ := fun o => ba.frozen (p := ⟨W.heap.size, o, none⟩) (by go_size); clear zzba
  go_wp2_with fail
  refine (toMatrix_c _ _ _ _ _).mono ?_
  rintro e w1 ⟨rfl, b1⟩
  have zzb1 := b1.size; (try simp at zzb1); have zb1_0 : W.heap.size < w1.heap.size := (by omega); have kcb1_0 : ∀ o, w1.cell? ⟨W.heap.size, o, none⟩ = _ := fun o => b1.cell (p := ⟨W.heap.size, o, none⟩) (by go_size); have kfb1_0 : ∀ o, w1.frozen? ⟨W.heap.size, o, none⟩ = _ := fun o => b1.frozen (p := ⟨W.heap.size, o, none⟩) (by go_size); clear zzb1
  go_wp2_with fail
  refine (K1.out _).mono ?_
  rintro e wb ⟨rfl, bb⟩
  have zzbb := bb.size; (try simp at zzbb); have zbb_0 : W.heap.size < wb.heap.size := (by omega); have kcbb_0 : ∀ o, wb.cell? ⟨W.heap.size, o, none⟩ = _ := fun o => bb.cell (p := ⟨W.heap.size, o, none⟩) (by go_size); have kfbb_0 : ∀ o, wb.frozen? ⟨W.heap.size, o, none⟩ = _ := fun o => bb.frozen (p := ⟨W.heap.size, o, none⟩) (by go_size); clear zzbb
  go_wp2_with fail
  refine (eqInt64S_nil _).mono ?_
  rintro e w2 ⟨rfl, rfl⟩
  go_wp2_with fail
  refine (markInt64S_nil _ _).mono ?_
  rintro e w3 ⟨rfl, rfl⟩
  go_wp2_with fail
  refine (heldInt64S_nil _ _).mono ?_
  rintro e w4 ⟨rfl, rfl⟩
  go_wp2_with fail
  refine (toMatrix_c _ _ _ _ _).mono ?_
  rintro e w5 ⟨rfl, b5⟩
  have zzb5 := b5.size; (try simp at zzb5); have zb5_0 : W.heap.size < w5.heap.size := (by omega); have kcb5_0 : ∀ o, w5.cell? ⟨W.heap.size, o, none⟩ = _ := fun o => b5.cell (p := ⟨W.heap.size, o, none⟩) (by go_size); have kfb5_0 : ∀ o, w5.frozen? ⟨W.heap.size, o, none⟩ = _ := fun o => b5.frozen (p := ⟨W.heap.size, o, none⟩) (by go_size); clear zzb5
  go_wp2_with fail
  refine (K1.out _).mono ?_
  rintro e wd ⟨rfl, bd⟩
  have zzbd := bd.size; (try simp at zzbd); have zbd_0 : W.heap.size < wd.heap.size := (by omega); have kcbd_0 : ∀ o, wd.cell? ⟨W.heap.size, o, none⟩ = _ := fun o => bd.cell (p := ⟨W.heap.size, o, none⟩) (by go_size); have kfbd_0 : ∀ o, wd.frozen? ⟨W.heap.size, o, none⟩ = _ := fun o => bd.frozen (p := ⟨W.heap.size, o, none⟩) (by go_size); clear zzbd
  go_wp2_with fail
  refine (eqInt64S_nil _).mono ?_
  rintro e w6 ⟨rfl, rfl⟩
  go_wp2_with fail
  refine (heldInt64S_nil _ _).mono ?_
  rintro e w7 ⟨rfl, rfl⟩
  go_wp2
  go_returns
  exact ⟨rfl, (by repeat' (first | (with_reducible exact Below.refl _ _) | (with_reducible assumption) | (with_reducible refine below_drewN ?_ _) | (with_reducible refine Below.drew ?_) | (with_reducible refine Below.alloc ?_ ?_ _) | (with_reducible refine Below.setCell ?_ ?_ _) | (with_reducible refine Below.trans ?_ (Below.mono (by with_reducible assumption) ?_)) | go_size | (dsimp only; omega)))⟩
theorem rowI_below {w w' : World} {B g : Nat} {zs : List Int} (h : RowI w g 0 zs) (hb : Below B w w') (hg : g < B) : RowI w' g 0 zs := by
  intro k hk; rw [hb.cell (p := ⟨g, 0 + k, none⟩) hg]; exact h k hk
set_option maxHeartbeats 4000000 in
theorem RestsOf_row (p q r s n c : Int) (W : World) (zs : List Int) (hz : zs ≠ []) (hl : zs.length ≤ 1000000000) (K1 : Hid (∀ w, Calls Try.prog 20 #[.agg #[.int .i64 p, .int .i64 q, .int .i64 r, .int .i64 s], .int .i64 n] w fun e w' => ∃ v, e = .returned (.tuple #[v, .int .i64 c]) ∧ w'.ownsRow w.heap.size 2 1 v zs.length (zs.map (Value.int .i64)) ∧ Below w.heap.size w w')) (K2 : Hid (∀ w, Calls Try.prog 18 #[.agg #[.int .i64 p, .int .i64 q, .int .i64 r, .int .i64 s], .int .i64 n] w fun e w' => ∃ v, e = .returned (.tuple #[v, .int .i64 c]) ∧ w'.ownsRow w.heap.size 2 1 v zs.length (zs.map (Value.int .i64)) ∧ Below w.heap.size w w')) :
    Calls Try.prog 4 #[.agg #[.int .i64 p, .int .i64 q, .int .i64 r, .int .i64 s], .int .i64 n] W fun e w' => e = .returned (.bool true) ∧ Below W.heap.size W w' := by
  go_enter Try.func4, Try.ntmps4
  go_wp2_with fail
  refine (toMatrix_c _ _ _ _ _).mono ?_
  rintro e w0 ⟨rfl, b0⟩
  have zzb0 := b0.size; (try simp at zzb0); have zb0_0 : W.heap.size < w0.heap.size := (by omega); have kcb0_0 : ∀ o, w0.cell? ⟨W.heap.size, o, none⟩ = _ := fun o => b0.cell (p := ⟨W.heap.size, o, none⟩) (by go_size); have kfb0_0 : ∀ o, w0.frozen? ⟨W.heap.size, o, none⟩ = _ := fun o => b0.frozen (p := ⟨W.heap.size, o, none⟩) (by go_size); clear zzb0
  go_wp2_with fail
  refine (K2.out _).mono ?_
  rintro e wa ⟨v2, rfl, ho2, ba⟩
  have zzba := ba.size; (try simp at zzba); have zba_0 : W.heap.size < wa.heap.size := (by omega); have kcba_0 : ∀ o, wa.cell? ⟨W.heap.size, o, none⟩ = _ := fun o => ba.cell (p := ⟨W.heap.size, o, none⟩) (by go_size); have kfba_0 : ∀ o, wa.frozen? ⟨W.heap.size, o, none⟩ = _ := fun o => ba.frozen (p := ⟨W.heap.size, o, none⟩) (by go_size); clear zzba
  obtain ⟨g2, cap2, rfl, hb2, hs2, hr2, hf2⟩ := (own_row ho2).resolve_left (fun h => hz h.2)
  clear ho2
  go_wp2_with fail
  refine (toMatrix_c _ _ _ _ _).mono ?_
  rintro e w1 ⟨rfl, b1⟩
  have zzb1 := b1.size; (try simp at zzb1); have zb1_0 : W.heap.size < w1.heap.size := (by omega); have kcb1_0 : ∀ o, w1.cell? ⟨W.heap.size, o, none⟩ = _ := fun o => b1.cell (p := ⟨W.heap.size, o, none⟩) (by go_size); have kfb1_0 : ∀ o, w1.frozen? ⟨W.heap.size, o, none⟩ = _ := fun o => b1.frozen (p := ⟨W.heap.size, o, none⟩) (by go_size); clear zzb1
  go_wp2_with fail
  refine (K1.out _).mono ?_
  rintro e wb ⟨v1, rfl, ho1, bb⟩
  have zzbb := bb.size; (try simp at zzbb); have zbb_0 : W.heap.size < wb.heap.size := (by omega); have kcbb_0 : ∀ o, wb.cell? ⟨W.heap.size, o, none⟩ = _ := fun o => bb.cell (p := ⟨W.heap.size, o, none⟩) (by go_size); have kfbb_0 : ∀ o, wb.frozen? ⟨W.heap.size, o, none⟩ = _ := fun o => bb.frozen (p := ⟨W.heap.size, o, none⟩) (by go_size); clear zzbb
  obtain ⟨g1, cap1, rfl, hb1, hs1, hr1, hf1⟩ := (own_row ho1).resolve_left (fun h => hz h.2)
  clear ho1
  have z1 := b1.size
  have zb := bb.size
  have x2 := rowI_below hr2 (Below.trans b1 (Below.mono bb (by omega))) hs2
  go_wp2_with fail
  refine (eqInt64S_c g1 0 zs.length cap1 g2 0 cap2 zs _ rfl (by omega) hr1 x2).mono ?_
  rintro e w3' ⟨rfl, m, hw3⟩
  have B3 : Below W.heap.size W w3' := by subst hw3; exact (by repeat' (first | (with_reducible exact Below.refl _ _) | (with_reducible assumption) | (with_reducible refine below_drewN ?_ _) | (with_reducible refine Below.drew ?_) | (with_reducible refine Below.alloc ?_ ?_ _) | (with_reducible refine Below.setCell ?_ ?_ _) | (with_reducible refine Below.trans ?_ (Below.mono (by with_reducible assumption) ?_)) | go_size | (dsimp only; omega)))
  have s3 : w3'.heap.size = wb.heap.size := by subst hw3; simp
  have r3 : RowI w3' g1 0 zs := by subst hw3; intro k hk; simpa using hr1 k hk
  have y3 : RowI w3' g2 0 zs := by subst hw3; intro k hk; simpa using x2 k hk
  have f3 : ∀ i, w3'.frozen? ⟨g1, i, none⟩ = false := by subst hw3; intro i; simpa using hf1 i
  have c3 : ∀ o, w3'.cell? ⟨W.heap.size, o, none⟩ = wb.cell? ⟨W.heap.size, o, none⟩ := by subst hw3; intro o; simp
  clear hw3
  have B3' := Lib.hid B3
  go_wp2_with fail
  refine (markInt64S_c g1 0 zs.length cap1 1 zs _ rfl (by omega) (by omega) (by omega) r3 f3).mono ?_
  rintro e w4 ⟨rfl, r4, f4, o4, s4, B4⟩
  have c4 : ∀ o, w4.cell? ⟨W.heap.size, o, none⟩ = wb.cell? ⟨W.heap.size, o, none⟩ := fun o => (o4 ⟨W.heap.size, o, none⟩ (by dsimp only; omega)).1.trans (c3 o)
  have O4 := Lib.hid o4
  have R4 := Lib.hid r4
  have BB4 := Lib.hid B4
  clear o4 r4 B4 f4
  go_wp2_with fail
  refine (heldInt64S_c g1 0 zs.length cap1 1 _ (by omega) (by omega) (by omega) R4.out).mono ?_
  rintro e w5 ⟨rfl, rfl⟩
  have q4 : g1 < w4.heap.size := by omega
  have y4 : RowI w4 g2 0 zs := by intro k hk; rw [(O4.out ⟨g2, 0 + k, none⟩ (by dsimp only; omega)).1]; exact y3 k hk
  have B4W : Below W.heap.size W w4 := Below.trans B3 (BB4.out _ (by omega))
  go_wp2_with fail
  refine (toMatrix_c _ _ _ _ _).mono ?_
  rintro e w6 ⟨rfl, b6⟩
  have zzb6 := b6.size; (try simp at zzb6); have zb6_0 : W.heap.size < w6.heap.size := (by omega); have kcb6_0 : ∀ o, w6.cell? ⟨W.heap.size, o, none⟩ = _ := fun o => b6.cell (p := ⟨W.heap.size, o, none⟩) (by go_size); have kfb6_0 : ∀ o, w6.frozen? ⟨W.heap.size, o, none⟩ = _ := fun o => b6.frozen (p := ⟨W.heap.size, o, none⟩) (by go_size); clear zzb6
  go_wp2_with fail
  refine (K1.out _).mono ?_
  rintro e wd ⟨v3, rfl, ho3, bd⟩
  have z6 := b6.size
  have zd := bd.size
  have zzbd := bd.size; (try simp at zzbd); have zbd_0 : W.heap.size < wd.heap.size := (by omega); have kcbd_0 : ∀ o, wd.cell? ⟨W.heap.size, o, none⟩ = _ := fun o => bd.cell (p := ⟨W.heap.size, o, none⟩) (by go_size); have kfbd_0 : ∀ o, wd.frozen? ⟨W.heap.size, o, none⟩ = _ := fun o => bd.frozen (p := ⟨W.heap.size, o, none⟩) (by go_size); clear zzbd
  obtain ⟨g3, cap3, rfl, hb3, hs3, hr3, hf3⟩ := (own_row ho3).resolve_left (fun h => hz h.2)
  clear ho3
  have B6 : Below w4.heap.size w4 wd := Below.trans b6 (Below.mono bd (by omega))
  have yd := rowI_below y4 B6 (by omega)
  have rd : ∀ j, j < zs.length → wd.cell? ⟨g1, 0 + j, none⟩ = some (.int .i64 (1 + (j : Int))) := by
    intro j hj; rw [B6.cell (p := ⟨g1, 0 + j, none⟩) q4]; exact R4.out j hj
  have Bd : Below W.heap.size W wd := Below.trans B4W (Below.mono B6 (by omega))
  go_wp2_with fail
  refine (eqInt64S_c g3 0 zs.length cap3 g2 0 cap2 zs _ rfl (by omega) hr3 yd).mono ?_
  rintro e we ⟨rfl, m', hwe⟩
  have Be : Below W.heap.size W we := by subst hwe; exact (by repeat' (first | (with_reducible exact Below.refl _ _) | (with_reducible assumption) | (with_reducible refine below_drewN ?_ _) | (with_reducible refine Below.drew ?_) | (with_reducible refine Below.alloc ?_ ?_ _) | (with_reducible refine Below.setCell ?_ ?_ _) | (with_reducible refine Below.trans ?_ (Below.mono (by with_reducible assumption) ?_)) | go_size | (dsimp only; omega)))
  have re : ∀ j, j < zs.length → we.cell? ⟨g1, 0 + j, none⟩ = some (.int .i64 (1 + (j : Int))) := by subst hwe; intro j hj; simpa using rd j hj
  clear hwe
  have RE := Lib.hid re
  clear re rd
  go_wp2_with fail
  refine (heldInt64S_c g1 0 zs.length cap1 1 _ (by omega) (by omega) (by omega) RE.out).mono ?_
  rintro e w8 ⟨rfl, rfl⟩
  go_wp2
  go_returns
  exact ⟨rfl, Be⟩
theorem FnExactRestsOf_w (p0 q0 r0 s0 : Int) (n1 : Int) (w1 : (Lit.int .i64 n1).wf = true) (W : World) :
    Calls Try.prog 4 #[.agg #[.int .i64 p0, .int .i64 q0, .int .i64 r0, .int .i64 s0], .int .i64 n1] W fun e w' => e = .returned (.bool true) ∧ Below W.heap.size W w' := by
  clear w1
  cases h : isM p0 q0 r0 s0
  · exact RestsOf_nil p0 q0 r0 s0 n1 1 W (Lib.hid (fun w => RestsOf_no _ _ _ _ _ w h)) (Lib.hid (fun w => sRestsOf_no _ _ _ _ _ w h))
  cases hr : (decide (1 ≤ n1) && decide (n1 ≤ 1000000))
  · exact RestsOf_nil p0 q0 r0 s0 n1 2 W (Lib.hid (fun w => RestsOf_range _ _ _ _ _ w h hr)) (Lib.hid (fun w => sRestsOf_range _ _ _ _ _ w h hr))
  · simp at hr
    exact RestsOf_row p0 q0 r0 s0 n1 0 W [p0 % n1, q0 % n1, r0 % n1, s0 % n1] (by simp) (by simp) (Lib.hid (fun w => RestsOf_yes _ _ _ _ _ w h hr.1 hr.2)) (Lib.hid (fun w => sRestsOf_yes _ _ _ _ _ w h hr.1 hr.2))
end Go.Proofs.Ytenmmldkgkbifaa
