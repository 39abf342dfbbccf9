/- Laws on rows of numbers: the walks, printed by rowlaw.py. -/
import Derived.Test.YtmopjfjmmdnapaaAD
namespace Go.Proofs.Ytmopjfjmmdnapaa
open Go.RowKit
set_option linter.unusedVariables false
set_option linter.unusedSimpArgs false
set_option maxHeartbeats 4000000 in
theorem ChainOf_law (p0 q0 r0 s0 : Int) (k0 : Int) (c : Int) (W : World) (zs : List Int) (hl : zs.length ≤ 1000000000000) (K1 : Hid (∀ w, Calls Try.prog 17 #[.agg #[.int .i64 p0, .int .i64 q0, .int .i64 r0, .int .i64 s0]] w fun e w' => ∃ v, e = .returned (.tuple #[.int .i64 k0, v, .int .i64 c]) ∧ OwnI w.heap.size w' v zs ∧ Below w.heap.size w w')) (K2 : Hid (∀ w, Calls Try.prog 15 #[.agg #[.int .i64 p0, .int .i64 q0, .int .i64 r0, .int .i64 s0]] w fun e w' => ∃ v, e = .returned (.tuple #[.int .i64 k0, v, .int .i64 c]) ∧ OwnI w.heap.size w' v zs ∧ Below w.heap.size w w')) :
    Calls Try.prog 3 #[.agg #[.int .i64 p0, .int .i64 q0, .int .i64 r0, .int .i64 s0]] W fun e w' => e = .returned (.bool true) ∧ Below W.heap.size W w' := by
  go_enter Try.func3, Try.ntmps3
  go_wp2_with fail
  refine (toMatrix_c _ _ _ _ _).mono ?_
  rintro e w0 ⟨rfl, b0⟩
  have zzb0 := b0.size; (try simp at zzb0); have zb0_0 : W.heap.size < w0.heap.size := (by omega); have kcb0_0 : ∀ o, w0.cell? ⟨W.heap.size, o, none⟩ = _ := fun o => b0.cell (p := ⟨W.heap.size, o, none⟩) (by go_size); have kfb0_0 : ∀ o, w0.frozen? ⟨W.heap.size, o, none⟩ = _ := fun o => b0.frozen (p := ⟨W.heap.size, o, none⟩) (by go_size); clear zzb0
  go_wp2_with fail
  refine (K2.out _).mono ?_
  rintro e wa ⟨v2, rfl, ho2, ba⟩
  have zzba := ba.size; (try simp at zzba); have zba_0 : W.heap.size < wa.heap.size := (by omega); have kcba_0 : ∀ o, wa.cell? ⟨W.heap.size, o, none⟩ = _ := fun o => ba.cell (p := ⟨W.heap.size, o, none⟩) (by go_size); have kfba_0 : ∀ o, wa.frozen? ⟨W.heap.size, o, none⟩ = _ := fun o => ba.frozen (p := ⟨W.heap.size, o, none⟩) (by go_size); clear zzba
  go_wp2_with fail
  refine (toMatrix_c _ _ _ _ _).mono ?_
  rintro e w1 ⟨rfl, b1⟩
  have zzb1 := b1.size; (try simp at zzb1); have zb1_0 : W.heap.size < w1.heap.size := (by omega); have kcb1_0 : ∀ o, w1.cell? ⟨W.heap.size, o, none⟩ = _ := fun o => b1.cell (p := ⟨W.heap.size, o, none⟩) (by go_size); have kfb1_0 : ∀ o, w1.frozen? ⟨W.heap.size, o, none⟩ = _ := fun o => b1.frozen (p := ⟨W.heap.size, o, none⟩) (by go_size); clear zzb1
  go_wp2_with fail
  refine (K1.out _).mono ?_
  rintro e wb ⟨v1, rfl, ho1, bb⟩
  have zzbb := bb.size; (try simp at zzbb); have zbb_0 : W.heap.size < wb.heap.size := (by omega); have kcbb_0 : ∀ o, wb.cell? ⟨W.heap.size, o, none⟩ = _ := fun o => bb.cell (p := ⟨W.heap.size, o, none⟩) (by go_size); have kfbb_0 : ∀ o, wb.frozen? ⟨W.heap.size, o, none⟩ = _ := fun o => bb.frozen (p := ⟨W.heap.size, o, none⟩) (by go_size); clear zzbb
  have z1 := b1.size
  have za := ba.size
  have zb := bb.size
  (try simp at za)
  (try simp at zb)
  have ba_ : Below w1.heap.size w1 wb := bb
  have h2b : OwnI 0 wb v2 zs := (ho2.below_at ho2 (Nat.le_refl _) (Below.trans b1 (Below.mono bb (by omega)))).base (Nat.zero_le _)
  have H1 := Lib.hid ho1
  have H2 := Lib.hid h2b
  have HO2 := Lib.hid ho2
  clear ho1 h2b ho2 ba_
  go_wp2_with fail
  refine (eqI_c _ _ _ _ zs _ hl H1.out H2.out).mono ?_
  rintro e w3 ⟨rfl, m, hw3⟩
  have B3 : Below wb.heap.size wb w3 := by subst hw3; exact below_drewN (Below.refl _ _) _
  have s3 : w3.heap.size = wb.heap.size := by subst hw3; simp
  clear hw3
  have H3 := Lib.hid (H1.out.below B3 (Nat.le_refl _))
  have H32 := Lib.hid (H2.out.below B3 (Nat.le_refl _))
  have zzB3 := B3.size; (try simp at zzB3); have zB3_0 : W.heap.size < w3.heap.size := (by omega); have kcB3_0 : ∀ o, w3.cell? ⟨W.heap.size, o, none⟩ = _ := fun o => B3.cell (p := ⟨W.heap.size, o, none⟩) (by go_size); have kfB3_0 : ∀ o, w3.frozen? ⟨W.heap.size, o, none⟩ = _ := fun o => B3.frozen (p := ⟨W.heap.size, o, none⟩) (by go_size); clear zzB3
  go_wp2_with fail
  refine (markI_c _ _ 1 zs _ hl (by omega) (by omega) H3.out).mono ?_
  rintro e w4 ⟨rfl, h4, B4, s4⟩
  have H4 := Lib.hid h4
  clear h4
  have H42 := Lib.hid (H32.out.below_at HO2.out (show wa.heap.size ≤ w1.heap.size by omega) B4)
  have q4 : W.heap.size < w1.heap.size := by omega
  have c4 : ∀ o, w4.cell? ⟨W.heap.size, o, none⟩ = w3.cell? ⟨W.heap.size, o, none⟩ := fun o => B4.cell (p := ⟨W.heap.size, o, none⟩) q4
  have f4 : ∀ o, w4.frozen? ⟨W.heap.size, o, none⟩ = w3.frozen? ⟨W.heap.size, o, none⟩ := fun o => B4.frozen (p := ⟨W.heap.size, o, none⟩) q4
  have q5 : W.heap.size < w4.heap.size := by omega
  have BbW : Below W.heap.size W wb := (by repeat' (first | (with_reducible exact Below.refl _ _) | (with_reducible assumption) | (with_reducible refine below_drewN ?_ _) | (with_reducible refine Below.drew ?_) | (with_reducible refine Below.alloc ?_ ?_ _) | (with_reducible refine Below.setCell ?_ ?_ _) | (with_reducible refine Below.trans ?_ (Below.mono (by with_reducible assumption) ?_)) | go_size | (dsimp only; omega)))
  have B4W : Below W.heap.size W w4 := Below.trans BbW (Below.trans (Below.mono B3 (by omega)) (Below.mono B4 (by omega)))
  go_wp2_with fail
  refine (heldI_c _ _ 1 zs _ hl (by omega) (by omega) H4.out).mono ?_
  rintro e w5 ⟨rfl, rfl⟩
  go_wp2_with fail
  refine (toMatrix_c _ _ _ _ _).mono ?_
  rintro e w6 ⟨rfl, b6⟩
  have zzb6 := b6.size; (try simp at zzb6); have zb6_0 : W.heap.size < w6.heap.size := (by omega); have kcb6_0 : ∀ o, w6.cell? ⟨W.heap.size, o, none⟩ = _ := fun o => b6.cell (p := ⟨W.heap.size, o, none⟩) (by go_size); have kfb6_0 : ∀ o, w6.frozen? ⟨W.heap.size, o, none⟩ = _ := fun o => b6.frozen (p := ⟨W.heap.size, o, none⟩) (by go_size); clear zzb6
  go_wp2_with fail
  refine (K1.out _).mono ?_
  rintro e wd ⟨v3, rfl, ho3, bd⟩
  have zzbd := bd.size; (try simp at zzbd); have zbd_0 : W.heap.size < wd.heap.size := (by omega); have kcbd_0 : ∀ o, wd.cell? ⟨W.heap.size, o, none⟩ = _ := fun o => bd.cell (p := ⟨W.heap.size, o, none⟩) (by go_size); have kfbd_0 : ∀ o, wd.frozen? ⟨W.heap.size, o, none⟩ = _ := fun o => bd.frozen (p := ⟨W.heap.size, o, none⟩) (by go_size); clear zzbd
  have z6 := b6.size
  have zd := bd.size
  (try simp at zd)
  have B6 : Below w4.heap.size w4 wd := Below.trans b6 (Below.mono bd (by omega))
  have H6 := Lib.hid (H4.out.below B6 (Nat.le_refl _))
  have H62 := Lib.hid (H42.out.below B6 (Nat.le_refl _))
  have HO3 := Lib.hid ho3
  clear ho3
  have Bd : Below W.heap.size W wd := Below.trans B4W (Below.mono B6 (by omega))
  go_wp2_with fail
  refine (eqI_c _ _ _ _ zs _ hl HO3.out H62.out).mono ?_
  rintro e we ⟨rfl, m', hwe⟩
  have Be : Below wd.heap.size wd we := by subst hwe; exact below_drewN (Below.refl _ _) _
  clear hwe
  have HE := Lib.hid (H6.out.below Be (Nat.le_refl _))
  have zd2 : W.heap.size ≤ wd.heap.size := by omega
  go_wp2_with fail
  refine (heldI_c _ _ 1 zs _ hl (by omega) (by omega) HE.out).mono ?_
  rintro e w8 ⟨rfl, rfl⟩
  go_wp2
  go_returns
  exact ⟨rfl, Below.trans Bd (Below.mono Be zd2)⟩
set_option maxHeartbeats 4000000 in
theorem RunsOf_law (p0 q0 r0 s0 : Int) (c : Int) (W : World) (zs : List Int) (hl : zs.length ≤ 1000000000000) (K1 : Hid (∀ w, Calls Try.prog 34 #[.agg #[.int .i64 p0, .int .i64 q0, .int .i64 r0, .int .i64 s0]] w fun e w' => ∃ v, e = .returned (.tuple #[v, .int .i64 c]) ∧ OwnI w.heap.size w' v zs ∧ Below w.heap.size w w')) (K2 : Hid (∀ w, Calls Try.prog 33 #[.agg #[.int .i64 p0, .int .i64 q0, .int .i64 r0, .int .i64 s0]] w fun e w' => ∃ v, e = .returned (.tuple #[v, .int .i64 c]) ∧ OwnI w.heap.size w' v zs ∧ Below w.heap.size w w')) :
    Calls Try.prog 8 #[.agg #[.int .i64 p0, .int .i64 q0, .int .i64 r0, .int .i64 s0]] W fun e w' => e = .returned (.bool true) ∧ Below W.heap.size W w' := by
  go_enter Try.func8, Try.ntmps8
  go_wp2_with fail
  refine (toMatrix_c _ _ _ _ _).mono ?_
  rintro e w0 ⟨rfl, b0⟩
  have zzb0 := b0.size; (try simp at zzb0); have zb0_0 : W.heap.size < w0.heap.size := (by omega); have kcb0_0 : ∀ o, w0.cell? ⟨W.heap.size, o, none⟩ = _ := fun o => b0.cell (p := ⟨W.heap.size, o, none⟩) (by go_size); have kfb0_0 : ∀ o, w0.frozen? ⟨W.heap.size, o, none⟩ = _ := fun o => b0.frozen (p := ⟨W.heap.size, o, none⟩) (by go_size); clear zzb0
  go_wp2_with fail
  refine (K2.out _).mono ?_
  rintro e wa ⟨v2, rfl, ho2, ba⟩
  have zzba := ba.size; (try simp at zzba); have zba_0 : W.heap.size < wa.heap.size := (by omega); have kcba_0 : ∀ o, wa.cell? ⟨W.heap.size, o, none⟩ = _ := fun o => ba.cell (p := ⟨W.heap.size, o, none⟩) (by go_size); have kfba_0 : ∀ o, wa.frozen? ⟨W.heap.size, o, none⟩ = _ := fun o => ba.frozen (p := ⟨W.heap.size, o, none⟩) (by go_size); clear zzba
  go_wp2_with fail
  refine (toMatrix_c _ _ _ _ _).mono ?_
  rintro e w1 ⟨rfl, b1⟩
  have zzb1 := b1.size; (try simp at zzb1); have zb1_0 : W.heap.size < w1.heap.size := (by omega); have kcb1_0 : ∀ o, w1.cell? ⟨W.heap.size, o, none⟩ = _ := fun o => b1.cell (p := ⟨W.heap.size, o, none⟩) (by go_size); have kfb1_0 : ∀ o, w1.frozen? ⟨W.heap.size, o, none⟩ = _ := fun o => b1.frozen (p := ⟨W.heap.size, o, none⟩) (by go_size); clear zzb1
  go_wp2_with fail
  refine (K1.out _).mono ?_
  rintro e wb ⟨v1, rfl, ho1, bb⟩
  have zzbb := bb.size; (try simp at zzbb); have zbb_0 : W.heap.size < wb.heap.size := (by omega); have kcbb_0 : ∀ o, wb.cell? ⟨W.heap.size, o, none⟩ = _ := fun o => bb.cell (p := ⟨W.heap.size, o, none⟩) (by go_size); have kfbb_0 : ∀ o, wb.frozen? ⟨W.heap.size, o, none⟩ = _ := fun o => bb.frozen (p := ⟨W.heap.size, o, none⟩) (by go_size); clear zzbb
  have z1 := b1.size
  have za := ba.size
  have zb := bb.size
  (try simp at za)
  (try simp at zb)
  have ba_ : Below w1.heap.size w1 wb := bb
  have h2b : OwnI 0 wb v2 zs := (ho2.below_at ho2 (Nat.le_refl _) (Below.trans b1 (Below.mono bb (by omega)))).base (Nat.zero_le _)
  have H1 := Lib.hid ho1
  have H2 := Lib.hid h2b
  have HO2 := Lib.hid ho2
  clear ho1 h2b ho2 ba_
  go_wp2_with fail
  refine (eqI_c _ _ _ _ zs _ hl H1.out H2.out).mono ?_
  rintro e w3 ⟨rfl, m, hw3⟩
  have B3 : Below wb.heap.size wb w3 := by subst hw3; exact below_drewN (Below.refl _ _) _
  have s3 : w3.heap.size = wb.heap.size := by subst hw3; simp
  clear hw3
  have H3 := Lib.hid (H1.out.below B3 (Nat.le_refl _))
  have H32 := Lib.hid (H2.out.below B3 (Nat.le_refl _))
  have zzB3 := B3.size; (try simp at zzB3); have zB3_0 : W.heap.size < w3.heap.size := (by omega); have kcB3_0 : ∀ o, w3.cell? ⟨W.heap.size, o, none⟩ = _ := fun o => B3.cell (p := ⟨W.heap.size, o, none⟩) (by go_size); have kfB3_0 : ∀ o, w3.frozen? ⟨W.heap.size, o, none⟩ = _ := fun o => B3.frozen (p := ⟨W.heap.size, o, none⟩) (by go_size); clear zzB3
  go_wp2_with fail
  refine (markI_c _ _ 1 zs _ hl (by omega) (by omega) H3.out).mono ?_
  rintro e w4 ⟨rfl, h4, B4, s4⟩
  have H4 := Lib.hid h4
  clear h4
  have H42 := Lib.hid (H32.out.below_at HO2.out (show wa.heap.size ≤ w1.heap.size by omega) B4)
  have q4 : W.heap.size < w1.heap.size := by omega
  have c4 : ∀ o, w4.cell? ⟨W.heap.size, o, none⟩ = w3.cell? ⟨W.heap.size, o, none⟩ := fun o => B4.cell (p := ⟨W.heap.size, o, none⟩) q4
  have f4 : ∀ o, w4.frozen? ⟨W.heap.size, o, none⟩ = w3.frozen? ⟨W.heap.size, o, none⟩ := fun o => B4.frozen (p := ⟨W.heap.size, o, none⟩) q4
  have q5 : W.heap.size < w4.heap.size := by omega
  have BbW : Below W.heap.size W wb := (by repeat' (first | (with_reducible exact Below.refl _ _) | (with_reducible assumption) | (with_reducible refine below_drewN ?_ _) | (with_reducible refine Below.drew ?_) | (with_reducible refine Below.alloc ?_ ?_ _) | (with_reducible refine Below.setCell ?_ ?_ _) | (with_reducible refine Below.trans ?_ (Below.mono (by with_reducible assumption) ?_)) | go_size | (dsimp only; omega)))
  have B4W : Below W.heap.size W w4 := Below.trans BbW (Below.trans (Below.mono B3 (by omega)) (Below.mono B4 (by omega)))
  go_wp2_with fail
  refine (heldI_c _ _ 1 zs _ hl (by omega) (by omega) H4.out).mono ?_
  rintro e w5 ⟨rfl, rfl⟩
  go_wp2_with fail
  refine (toMatrix_c _ _ _ _ _).mono ?_
  rintro e w6 ⟨rfl, b6⟩
  have zzb6 := b6.size; (try simp at zzb6); have zb6_0 : W.heap.size < w6.heap.size := (by omega); have kcb6_0 : ∀ o, w6.cell? ⟨W.heap.size, o, none⟩ = _ := fun o => b6.cell (p := ⟨W.heap.size, o, none⟩) (by go_size); have kfb6_0 : ∀ o, w6.frozen? ⟨W.heap.size, o, none⟩ = _ := fun o => b6.frozen (p := ⟨W.heap.size, o, none⟩) (by go_size); clear zzb6
  go_wp2_with fail
  refine (K1.out _).mono ?_
  rintro e wd ⟨v3, rfl, ho3, bd⟩
  have zzbd := bd.size; (try simp at zzbd); have zbd_0 : W.heap.size < wd.heap.size := (by omega); have kcbd_0 : ∀ o, wd.cell? ⟨W.heap.size, o, none⟩ = _ := fun o => bd.cell (p := ⟨W.heap.size, o, none⟩) (by go_size); have kfbd_0 : ∀ o, wd.frozen? ⟨W.heap.size, o, none⟩ = _ := fun o => bd.frozen (p := ⟨W.heap.size, o, none⟩) (by go_size); clear zzbd
  have z6 := b6.size
  have zd := bd.size
  (try simp at zd)
  have B6 : Below w4.heap.size w4 wd := Below.trans b6 (Below.mono bd (by omega))
  have H6 := Lib.hid (H4.out.below B6 (Nat.le_refl _))
  have H62 := Lib.hid (H42.out.below B6 (Nat.le_refl _))
  have HO3 := Lib.hid ho3
  clear ho3
  have Bd : Below W.heap.size W wd := Below.trans B4W (Below.mono B6 (by omega))
  go_wp2_with fail
  refine (eqI_c _ _ _ _ zs _ hl HO3.out H62.out).mono ?_
  rintro e we ⟨rfl, m', hwe⟩
  have Be : Below wd.heap.size wd we := by subst hwe; exact below_drewN (Below.refl _ _) _
  clear hwe
  have HE := Lib.hid (H6.out.below Be (Nat.le_refl _))
  have zd2 : W.heap.size ≤ wd.heap.size := by omega
  go_wp2_with fail
  refine (heldI_c _ _ 1 zs _ hl (by omega) (by omega) HE.out).mono ?_
  rintro e w8 ⟨rfl, rfl⟩
  go_wp2
  go_returns
  exact ⟨rfl, Below.trans Bd (Below.mono Be zd2)⟩
set_option maxHeartbeats 4000000 in
theorem ContinuedOf_law (p0 q0 : Int) (c : Int) (W : World) (zs : List Int) (hl : zs.length ≤ 1000000000000) (K1 : Hid (∀ w, Calls Try.prog 30 #[.agg #[.int .i64 p0, .int .i64 q0]] w fun e w' => ∃ v, e = .returned (.tuple #[v, .int .i64 c]) ∧ OwnI w.heap.size w' v zs ∧ Below w.heap.size w w')) (K2 : Hid (∀ w, Calls Try.prog 28 #[.agg #[.int .i64 p0, .int .i64 q0]] w fun e w' => ∃ v, e = .returned (.tuple #[v, .int .i64 c]) ∧ OwnI w.heap.size w' v zs ∧ Below w.heap.size w w')) :
    Calls Try.prog 6 #[.agg #[.int .i64 p0, .int .i64 q0]] W fun e w' => e = .returned (.bool true) ∧ Below W.heap.size W w' := by
  go_enter Try.func6, Try.ntmps6
  go_wp2_with fail
  refine (toFraction_c _ _ _).mono ?_
  rintro e w0 ⟨rfl, b0⟩
  have zzb0 := b0.size; (try simp at zzb0); have zb0_0 : W.heap.size < w0.heap.size := (by omega); have kcb0_0 : ∀ o, w0.cell? ⟨W.heap.size, o, none⟩ = _ := fun o => b0.cell (p := ⟨W.heap.size, o, none⟩) (by go_size); have kfb0_0 : ∀ o, w0.frozen? ⟨W.heap.size, o, none⟩ = _ := fun o => b0.frozen (p := ⟨W.heap.size, o, none⟩) (by go_size); clear zzb0
  go_wp2_with fail
  refine (K2.out _).mono ?_
  rintro e wa ⟨v2, rfl, ho2, ba⟩
  have zzba := ba.size; (try simp at zzba); have zba_0 : W.heap.size < wa.heap.size := (by omega); have kcba_0 : ∀ o, wa.cell? ⟨W.heap.size, o, none⟩ = _ := fun o => ba.cell (p := ⟨W.heap.size, o, none⟩) (by go_size); have kfba_0 : ∀ o, wa.frozen? ⟨W.heap.size, o, none⟩ = _ := fun o => ba.frozen (p := ⟨W.heap.size, o, none⟩) (by go_size); clear zzba
  go_wp2_with fail
  refine (toFraction_c _ _ _).mono ?_
  rintro e w1 ⟨rfl, b1⟩
  have zzb1 := b1.size; (try simp at zzb1); have zb1_0 : W.heap.size < w1.heap.size := (by omega); have kcb1_0 : ∀ o, w1.cell? ⟨W.heap.size, o, none⟩ = _ := fun o => b1.cell (p := ⟨W.heap.size, o, none⟩) (by go_size); have kfb1_0 : ∀ o, w1.frozen? ⟨W.heap.size, o, none⟩ = _ := fun o => b1.frozen (p := ⟨W.heap.size, o, none⟩) (by go_size); clear zzb1
  go_wp2_with fail
  refine (K1.out _).mono ?_
  rintro e wb ⟨v1, rfl, ho1, bb⟩
  have zzbb := bb.size; (try simp at zzbb); have zbb_0 : W.heap.size < wb.heap.size := (by omega); have kcbb_0 : ∀ o, wb.cell? ⟨W.heap.size, o, none⟩ = _ := fun o => bb.cell (p := ⟨W.heap.size, o, none⟩) (by go_size); have kfbb_0 : ∀ o, wb.frozen? ⟨W.heap.size, o, none⟩ = _ := fun o => bb.frozen (p := ⟨W.heap.size, o, none⟩) (by go_size); clear zzbb
  have z1 := b1.size
  have za := ba.size
  have zb := bb.size
  (try simp at za)
  (try simp at zb)
  have ba_ : Below w1.heap.size w1 wb := bb
  have h2b : OwnI 0 wb v2 zs := (ho2.below_at ho2 (Nat.le_refl _) (Below.trans b1 (Below.mono bb (by omega)))).base (Nat.zero_le _)
  have H1 := Lib.hid ho1
  have H2 := Lib.hid h2b
  have HO2 := Lib.hid ho2
  clear ho1 h2b ho2 ba_
  go_wp2_with fail
  refine (eqI_c _ _ _ _ zs _ hl H1.out H2.out).mono ?_
  rintro e w3 ⟨rfl, m, hw3⟩
  have B3 : Below wb.heap.size wb w3 := by subst hw3; exact below_drewN (Below.refl _ _) _
  have s3 : w3.heap.size = wb.heap.size := by subst hw3; simp
  clear hw3
  have H3 := Lib.hid (H1.out.below B3 (Nat.le_refl _))
  have H32 := Lib.hid (H2.out.below B3 (Nat.le_refl _))
  have zzB3 := B3.size; (try simp at zzB3); have zB3_0 : W.heap.size < w3.heap.size := (by omega); have kcB3_0 : ∀ o, w3.cell? ⟨W.heap.size, o, none⟩ = _ := fun o => B3.cell (p := ⟨W.heap.size, o, none⟩) (by go_size); have kfB3_0 : ∀ o, w3.frozen? ⟨W.heap.size, o, none⟩ = _ := fun o => B3.frozen (p := ⟨W.heap.size, o, none⟩) (by go_size); clear zzB3
  go_wp2_with fail
  refine (markI_c _ _ 1 zs _ hl (by omega) (by omega) H3.out).mono ?_
  rintro e w4 ⟨rfl, h4, B4, s4⟩
  have H4 := Lib.hid h4
  clear h4
  have H42 := Lib.hid (H32.out.below_at HO2.out (show wa.heap.size ≤ w1.heap.size by omega) B4)
  have q4 : W.heap.size < w1.heap.size := by omega
  have c4 : ∀ o, w4.cell? ⟨W.heap.size, o, none⟩ = w3.cell? ⟨W.heap.size, o, none⟩ := fun o => B4.cell (p := ⟨W.heap.size, o, none⟩) q4
  have f4 : ∀ o, w4.frozen? ⟨W.heap.size, o, none⟩ = w3.frozen? ⟨W.heap.size, o, none⟩ := fun o => B4.frozen (p := ⟨W.heap.size, o, none⟩) q4
  have q5 : W.heap.size < w4.heap.size := by omega
  have BbW : Below W.heap.size W wb := (by repeat' (first | (with_reducible exact Below.refl _ _) | (with_reducible assumption) | (with_reducible refine below_drewN ?_ _) | (with_reducible refine Below.drew ?_) | (with_reducible refine Below.alloc ?_ ?_ _) | (with_reducible refine Below.setCell ?_ ?_ _) | (with_reducible refine Below.trans ?_ (Below.mono (by with_reducible assumption) ?_)) | go_size | (dsimp only; omega)))
  have B4W : Below W.heap.size W w4 := Below.trans BbW (Below.trans (Below.mono B3 (by omega)) (Below.mono B4 (by omega)))
  go_wp2_with fail
  refine (heldI_c _ _ 1 zs _ hl (by omega) (by omega) H4.out).mono ?_
  rintro e w5 ⟨rfl, rfl⟩
  go_wp2_with fail
  refine (toFraction_c _ _ _).mono ?_
  rintro e w6 ⟨rfl, b6⟩
  have zzb6 := b6.size; (try simp at zzb6); have zb6_0 : W.heap.size < w6.heap.size := (by omega); have kcb6_0 : ∀ o, w6.cell? ⟨W.heap.size, o, none⟩ = _ := fun o => b6.cell (p := ⟨W.heap.size, o, none⟩) (by go_size); have kfb6_0 : ∀ o, w6.frozen? ⟨W.heap.size, o, none⟩ = _ := fun o => b6.frozen (p := ⟨W.heap.size, o, none⟩) (by go_size); clear zzb6
  go_wp2_with fail
  refine (K1.out _).mono ?_
  rintro e wd ⟨v3, rfl, ho3, bd⟩
  have zzbd := bd.size; (try simp at zzbd); have zbd_0 : W.heap.size < wd.heap.size := (by omega); have kcbd_0 : ∀ o, wd.cell? ⟨W.heap.size, o, none⟩ = _ := fun o => bd.cell (p := ⟨W.heap.size, o, none⟩) (by go_size); have kfbd_0 : ∀ o, wd.frozen? ⟨W.heap.size, o, none⟩ = _ := fun o => bd.frozen (p := ⟨W.heap.size, o, none⟩) (by go_size); clear zzbd
  have z6 := b6.size
  have zd := bd.size
  (try simp at zd)
  have B6 : Below w4.heap.size w4 wd := Below.trans b6 (Below.mono bd (by omega))
  have H6 := Lib.hid (H4.out.below B6 (Nat.le_refl _))
  have H62 := Lib.hid (H42.out.below B6 (Nat.le_refl _))
  have HO3 := Lib.hid ho3
  clear ho3
  have Bd : Below W.heap.size W wd := Below.trans B4W (Below.mono B6 (by omega))
  go_wp2_with fail
  refine (eqI_c _ _ _ _ zs _ hl HO3.out H62.out).mono ?_
  rintro e we ⟨rfl, m', hwe⟩
  have Be : Below wd.heap.size wd we := by subst hwe; exact below_drewN (Below.refl _ _) _
  clear hwe
  have HE := Lib.hid (H6.out.below Be (Nat.le_refl _))
  have zd2 : W.heap.size ≤ wd.heap.size := by omega
  go_wp2_with fail
  refine (heldI_c _ _ 1 zs _ hl (by omega) (by omega) HE.out).mono ?_
  rintro e w8 ⟨rfl, rfl⟩
  go_wp2
  go_returns
  exact ⟨rfl, Below.trans Bd (Below.mono Be zd2)⟩
end Go.Proofs.Ytmopjfjmmdnapaa
