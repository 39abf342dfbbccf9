/- Laws on rows of fractions and of matrices: the walks, printed by rowlaw.py. -/
import Derived.Test.YtandannjdhnlmaaFR
namespace Go.Proofs.Ytandannjdhnlmaa
open Go.RowKit
set_option linter.unusedVariables false
set_option linter.unusedSimpArgs false
set_option maxHeartbeats 4000000 in
theorem TierOf_law (n0 : Int) (c : Int) (W : World) (zs : List Int) (hl : zs.length ≤ 1000000000000) (K1 : Hid (∀ w, Calls Try.prog 5 #[.int .i64 n0] w fun e w' => ∃ v, e = .returned (.tuple #[v, .int .i64 c]) ∧ OwnF 2 w.heap.size w' v zs ∧ Below w.heap.size w w')) (K2 : Hid (∀ w, Calls Try.prog 4 #[.int .i64 n0] w fun e w' => ∃ v, e = .returned (.tuple #[v, .int .i64 c]) ∧ OwnF 2 w.heap.size w' v zs ∧ Below w.heap.size w w')) :
    Calls Try.prog 3 #[.int .i64 n0] W fun e w' => e = .returned (.bool true) ∧ Below W.heap.size W w' := by
  go_enter Try.func3, Try.ntmps3
  go_wp2_with fail
  refine (K2.out _).mono ?_
  rintro e wa ⟨v2, rfl, ho2, ba⟩
  go_wp2_with fail
  refine (K1.out _).mono ?_
  rintro e wb ⟨v1, rfl, ho1, bb⟩
  have za := ba.size
  have zb := bb.size
  (try simp at za)
  (try simp at zb)
  have ba_ : Below wa.heap.size wa wb := bb
  have h2b : OwnF 2 0 wb v2 zs := (ho2.below_at ho2 (Nat.le_refl _) bb).base (Nat.zero_le _)
  have H1 := Lib.hid ho1
  have H2 := Lib.hid h2b
  have HO2 := Lib.hid ho2
  clear ho1 h2b ho2 ba_
  go_wp2_with fail
  refine (eqF_c _ _ _ _ zs _ hl H1.out H2.out).mono ?_
  rintro e w3 ⟨rfl, B3⟩
  have s3 : wb.heap.size ≤ w3.heap.size := B3.size
  have H3 := Lib.hid (H1.out.below B3 (Nat.le_refl _))
  have H32 := Lib.hid (H2.out.below B3 (Nat.le_refl _))
  go_wp2_with fail
  refine (markF_c _ _ 1 zs _ hl (by omega) (by omega) H3.out).mono ?_
  rintro e w4 ⟨rfl, h4, B4, s4⟩
  have H4 := Lib.hid h4
  clear h4
  have H42 := Lib.hid (H32.out.below_at HO2.out (show wa.heap.size ≤ wa.heap.size by omega) B4)
  have BbW : Below W.heap.size W wb := (by repeat' (first | (with_reducible exact Below.refl _ _) | (with_reducible assumption) | (with_reducible refine below_drewN ?_ _) | (with_reducible refine Below.drew ?_) | (with_reducible refine Below.alloc ?_ ?_ _) | (with_reducible refine Below.setCell ?_ ?_ _) | (with_reducible refine Below.trans ?_ (Below.mono (by with_reducible assumption) ?_)) | go_size | (dsimp only; omega)))
  have B4W : Below W.heap.size W w4 := Below.trans BbW (Below.trans (Below.mono B3 (by omega)) (Below.mono B4 (by omega)))
  go_wp2_with fail
  refine (heldF_c _ _ 1 zs _ hl (by omega) (by omega) H4.out).mono ?_
  rintro e w5 ⟨rfl, rfl⟩
  go_wp2_with fail
  refine (K1.out _).mono ?_
  rintro e wd ⟨v3, rfl, ho3, bd⟩
  have zd := bd.size
  (try simp at zd)
  have B6 : Below w4.heap.size w4 wd := bd
  have H6 := Lib.hid (H4.out.below B6 (Nat.le_refl _))
  have H62 := Lib.hid (H42.out.below B6 (Nat.le_refl _))
  have HO3 := Lib.hid ho3
  clear ho3
  have Bd : Below W.heap.size W wd := Below.trans B4W (Below.mono B6 (by omega))
  go_wp2_with fail
  refine (eqF_c _ _ _ _ zs _ hl HO3.out H62.out).mono ?_
  rintro e we ⟨rfl, Be⟩
  have HE := Lib.hid (H6.out.below Be (Nat.le_refl _))
  have zd2 : W.heap.size ≤ wd.heap.size := by omega
  go_wp2_with fail
  refine (heldF_c _ _ 1 zs _ hl (by omega) (by omega) HE.out).mono ?_
  rintro e w8 ⟨rfl, rfl⟩
  go_wp2
  go_returns
  exact ⟨rfl, Below.trans Bd (Below.mono Be zd2)⟩
end Go.Proofs.Ytandannjdhnlmaa
