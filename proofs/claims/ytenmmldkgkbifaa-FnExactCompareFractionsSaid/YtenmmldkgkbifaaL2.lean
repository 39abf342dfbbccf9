/- Laws on two fractions, on two matrices: the walks. Printed by gen2.py. -/
import Derived.Test.YtenmmldkgkbifaaH
namespace Go.Proofs.Ytenmmldkgkbifaa
open Go.RowKit
set_option linter.unusedVariables false
set_option linter.unusedSimpArgs false
attribute [local go_sem] run_min_int4 run_max_int4
attribute [local go_sem] run_equalIn_M
attribute [local go_sem] run_equalIn_Q

set_option maxHeartbeats 2000000 in
theorem FnExactAreNeighbours_w (p0 q0 : Int) (p1 q1 : Int) (W : World) :
    Calls Try.prog 3 #[.agg #[.int .i64 p0, .int .i64 q0], .agg #[.int .i64 p1, .int .i64 q1]] W fun e w' => e = .returned (.bool true) ∧ Below W.heap.size W w' := by
  obtain ⟨x0, x1, K1, K2⟩ : ∃ (x0 : Bool) (x1 : Int), Hid (∀ w, Calls Try.prog 17 #[.agg #[.int .i64 p0, .int .i64 q0], .agg #[.int .i64 p1, .int .i64 q1]] w fun e w' => e = .returned (.tuple #[.bool x0, .int .i64 x1]) ∧ Below w.heap.size w w') ∧ Hid (∀ w, Calls Try.prog 15 #[.agg #[.int .i64 p0, .int .i64 q0], .agg #[.int .i64 p1, .int .i64 q1]] w fun e w' => e = .returned (.tuple #[.bool x0, .int .i64 x1]) ∧ Below w.heap.size w w') := by
    cases h : (isF p0 q0 && isF p1 q1)
    · exact ⟨_, _, fun w => AreNeighbours_no _ _ _ _ w h, fun w => sAreNeighbours_no _ _ _ _ w h⟩
    · exact ⟨_, _, fun w => AreNeighbours_yes _ _ _ _ w h, fun w => sAreNeighbours_yes _ _ _ _ w h⟩
  go_enter Try.func3, Try.ntmps3
  go_wp2_with fail
  go_region_held3 (fun w' => Below W.heap.size W w' ∧ W.heap.size < w'.heap.size ∧ W.heap.size + 1 < w'.heap.size ∧ w'.cell? ⟨W.heap.size, 0, none⟩ = some (.int .i64 p0) ∧ w'.cell? ⟨W.heap.size, 1, none⟩ = some (.int .i64 q0) ∧ w'.cell? ⟨W.heap.size + 1, 0, none⟩ = some (.int .i64 p1) ∧ w'.cell? ⟨W.heap.size + 1, 1, none⟩ = some (.int .i64 q1)) (first | (go_keep; done) | ((try go_split_ands); refine ⟨?_, ?_, ?_, ?_, ?_, ?_, ?_⟩ <;> first | (go_keep; done) | exact held_cell hb (by assumption) | exact held_cell (by assumption) (by assumption) | exact held_size hb (by assumption) | exact held_size (by assumption) (by assumption) | exact (by repeat' (first | (with_reducible exact Below.refl _ _) | (with_reducible assumption) | (with_reducible refine below_drewN ?_ _) | (with_reducible refine Below.drew ?_) | (with_reducible refine Below.alloc ?_ ?_ _) | (with_reducible refine Below.setCell ?_ ?_ _) | (with_reducible refine Below.trans ?_ (Below.mono (by assumption) ?_)) | go_size)) | go_size)) (first | (go_at_call 16; refine (toFraction_c _ _ _).mono ?_; rintro e wt ⟨rfl, hb⟩) | (go_at_call 15; refine (K2.out _).mono ?_; rintro e wa ⟨rfl, hb⟩))
  go_split_ands
  go_wp2_with fail
  go_region_held3 (fun w' => Below W.heap.size W w' ∧ W.heap.size < w'.heap.size ∧ W.heap.size + 1 < w'.heap.size ∧ w'.cell? ⟨W.heap.size, 0, none⟩ = some (.int .i64 p0) ∧ w'.cell? ⟨W.heap.size, 1, none⟩ = some (.int .i64 q0) ∧ w'.cell? ⟨W.heap.size + 1, 0, none⟩ = some (.int .i64 p1) ∧ w'.cell? ⟨W.heap.size + 1, 1, none⟩ = some (.int .i64 q1)) (first | (go_keep; done) | ((try go_split_ands); refine ⟨?_, ?_, ?_, ?_, ?_, ?_, ?_⟩ <;> first | (go_keep; done) | exact held_cell hb (by assumption) | exact held_cell (by assumption) (by assumption) | exact held_size hb (by assumption) | exact held_size (by assumption) (by assumption) | exact (by repeat' (first | (with_reducible exact Below.refl _ _) | (with_reducible assumption) | (with_reducible refine below_drewN ?_ _) | (with_reducible refine Below.drew ?_) | (with_reducible refine Below.alloc ?_ ?_ _) | (with_reducible refine Below.setCell ?_ ?_ _) | (with_reducible refine Below.trans ?_ (Below.mono (by assumption) ?_)) | go_size)) | go_size)) (first | (go_at_call 16; refine (toFraction_c _ _ _).mono ?_; rintro e wt ⟨rfl, hb⟩) | (go_at_call 17; refine (K1.out _).mono ?_; rintro e wb ⟨rfl, hb⟩))
  go_split_ands
  go_wp2
  go_returns
  exact ⟨rfl, (by repeat' (first | (with_reducible exact Below.refl _ _) | (with_reducible assumption) | (with_reducible refine below_drewN ?_ _) | (with_reducible refine Below.drew ?_) | (with_reducible refine Below.alloc ?_ ?_ _) | (with_reducible refine Below.setCell ?_ ?_ _) | (with_reducible refine Below.trans ?_ (Below.mono (by assumption) ?_)) | go_size))⟩

set_option maxHeartbeats 2000000 in
theorem FnExactCompareFractions_w (p0 q0 : Int) (p1 q1 : Int) (W : World) :
    Calls Try.prog 5 #[.agg #[.int .i64 p0, .int .i64 q0], .agg #[.int .i64 p1, .int .i64 q1]] W fun e w' => e = .returned (.bool true) ∧ Below W.heap.size W w' := by
  obtain ⟨x0, x1, K1, K2⟩ : ∃ (x0 : Int) (x1 : Int), Hid (∀ w, Calls Try.prog 25 #[.agg #[.int .i64 p0, .int .i64 q0], .agg #[.int .i64 p1, .int .i64 q1]] w fun e w' => e = .returned (.tuple #[.int .i64 x0, .int .i64 x1]) ∧ Below w.heap.size w w') ∧ Hid (∀ w, Calls Try.prog 24 #[.agg #[.int .i64 p0, .int .i64 q0], .agg #[.int .i64 p1, .int .i64 q1]] w fun e w' => e = .returned (.tuple #[.int .i64 x0, .int .i64 x1]) ∧ Below w.heap.size w w') := by
    cases h : (isF p0 q0 && isF p1 q1)
    · exact ⟨_, _, fun w => CompareFractions_no _ _ _ _ w h, fun w => sCompareFractions_no _ _ _ _ w h⟩
    · exact ⟨_, _, fun w => CompareFractions_yes _ _ _ _ w h, fun w => sCompareFractions_yes _ _ _ _ w h⟩
  go_enter Try.func5, Try.ntmps5
  go_wp2_with fail
  go_region_held3 (fun w' => Below W.heap.size W w' ∧ W.heap.size < w'.heap.size ∧ W.heap.size + 1 < w'.heap.size ∧ w'.cell? ⟨W.heap.size, 0, none⟩ = some (.int .i64 p0) ∧ w'.cell? ⟨W.heap.size, 1, none⟩ = some (.int .i64 q0) ∧ w'.cell? ⟨W.heap.size + 1, 0, none⟩ = some (.int .i64 p1) ∧ w'.cell? ⟨W.heap.size + 1, 1, none⟩ = some (.int .i64 q1)) (first | (go_keep; done) | ((try go_split_ands); refine ⟨?_, ?_, ?_, ?_, ?_, ?_, ?_⟩ <;> first | (go_keep; done) | exact held_cell hb (by assumption) | exact held_cell (by assumption) (by assumption) | exact held_size hb (by assumption) | exact held_size (by assumption) (by assumption) | exact (by repeat' (first | (with_reducible exact Below.refl _ _) | (with_reducible assumption) | (with_reducible refine below_drewN ?_ _) | (with_reducible refine Below.drew ?_) | (with_reducible refine Below.alloc ?_ ?_ _) | (with_reducible refine Below.setCell ?_ ?_ _) | (with_reducible refine Below.trans ?_ (Below.mono (by assumption) ?_)) | go_size)) | go_size)) (first | (go_at_call 16; refine (toFraction_c _ _ _).mono ?_; rintro e wt ⟨rfl, hb⟩) | (go_at_call 24; refine (K2.out _).mono ?_; rintro e wa ⟨rfl, hb⟩))
  go_split_ands
  go_wp2_with fail
  go_region_held3 (fun w' => Below W.heap.size W w' ∧ W.heap.size < w'.heap.size ∧ W.heap.size + 1 < w'.heap.size ∧ w'.cell? ⟨W.heap.size, 0, none⟩ = some (.int .i64 p0) ∧ w'.cell? ⟨W.heap.size, 1, none⟩ = some (.int .i64 q0) ∧ w'.cell? ⟨W.heap.size + 1, 0, none⟩ = some (.int .i64 p1) ∧ w'.cell? ⟨W.heap.size + 1, 1, none⟩ = some (.int .i64 q1)) (first | (go_keep; done) | ((try go_split_ands); refine ⟨?_, ?_, ?_, ?_, ?_, ?_, ?_⟩ <;> first | (go_keep; done) | exact held_cell hb (by assumption) | exact held_cell (by assumption) (by assumption) | exact held_size hb (by assumption) | exact held_size (by assumption) (by assumption) | exact (by repeat' (first | (with_reducible exact Below.refl _ _) | (with_reducible assumption) | (with_reducible refine below_drewN ?_ _) | (with_reducible refine Below.drew ?_) | (with_reducible refine Below.alloc ?_ ?_ _) | (with_reducible refine Below.setCell ?_ ?_ _) | (with_reducible refine Below.trans ?_ (Below.mono (by assumption) ?_)) | go_size)) | go_size)) (first | (go_at_call 16; refine (toFraction_c _ _ _).mono ?_; rintro e wt ⟨rfl, hb⟩) | (go_at_call 25; refine (K1.out _).mono ?_; rintro e wb ⟨rfl, hb⟩))
  go_split_ands
  go_wp2
  go_returns
  exact ⟨rfl, (by repeat' (first | (with_reducible exact Below.refl _ _) | (with_reducible assumption) | (with_reducible refine below_drewN ?_ _) | (with_reducible refine Below.drew ?_) | (with_reducible refine Below.alloc ?_ ?_ _) | (with_reducible refine Below.setCell ?_ ?_ _) | (with_reducible refine Below.trans ?_ (Below.mono (by assumption) ?_)) | go_size))⟩

end Go.Proofs.Ytenmmldkgkbifaa
