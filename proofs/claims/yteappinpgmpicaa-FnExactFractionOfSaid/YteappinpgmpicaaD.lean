/- Laws on one matrix and on two: the walks. -/
import Derived.Test.YteappinpgmpicaaC
namespace Go.Proofs.Yteappinpgmpicaa
open Go.RowKit
set_option linter.unusedVariables false
set_option linter.unusedSimpArgs false
attribute [local go_sem] run_min_int4 run_max_int4
attribute [local go_sem] run_equalIn_M
attribute [local go_sem] run_equalIn_Q
theorem FnExactIsPositive_w (p q r s : Int) (W : World) :
    Calls Try.prog 5 #[.agg #[.int .i64 p, .int .i64 q, .int .i64 r, .int .i64 s]] W fun e w' => e = .returned (.bool true) ∧ Below W.heap.size W w' := by
  cases h : isM p q r s
  · go_enter Try.func5, Try.ntmps5
    go_wp2_with fail
    refine (toMatrix_c _ _ _ _ _).mono ?_
    rintro e w1 ⟨rfl, b1⟩
    have zzb1 := b1.size; (try simp at zzb1); have zb1_0 : W.heap.size < w1.heap.size := (by omega); have kcb1_0 : ∀ o, w1.cell? ⟨W.heap.size, o, none⟩ = _ := fun o => b1.cell (p := ⟨W.heap.size, o, none⟩) (by go_size); have kfb1_0 : ∀ o, w1.frozen? ⟨W.heap.size, o, none⟩ = _ := fun o => b1.frozen (p := ⟨W.heap.size, o, none⟩) (by go_size); clear zzb1
    go_wp2_with fail
    refine (sIsPositive_no _ _ _ _ _ h).mono ?_
    rintro e w2 ⟨rfl, b2⟩
    have zzb2 := b2.size; (try simp at zzb2); have zb2_0 : W.heap.size < w2.heap.size := (by omega); have kcb2_0 : ∀ o, w2.cell? ⟨W.heap.size, o, none⟩ = _ := fun o => b2.cell (p := ⟨W.heap.size, o, none⟩) (by go_size); have kfb2_0 : ∀ o, w2.frozen? ⟨W.heap.size, o, none⟩ = _ := fun o => b2.frozen (p := ⟨W.heap.size, o, none⟩) (by go_size); clear zzb2
    go_wp2_with fail
    refine (toMatrix_c _ _ _ _ _).mono ?_
    rintro e w3 ⟨rfl, b3⟩
    have zzb3 := b3.size; (try simp at zzb3); have zb3_0 : W.heap.size < w3.heap.size := (by omega); have kcb3_0 : ∀ o, w3.cell? ⟨W.heap.size, o, none⟩ = _ := fun o => b3.cell (p := ⟨W.heap.size, o, none⟩) (by go_size); have kfb3_0 : ∀ o, w3.frozen? ⟨W.heap.size, o, none⟩ = _ := fun o => b3.frozen (p := ⟨W.heap.size, o, none⟩) (by go_size); clear zzb3
    go_wp2_with fail
    refine (IsPositive_no _ _ _ _ _ h).mono ?_
    rintro e w4 ⟨rfl, b4⟩
    have zzb4 := b4.size; (try simp at zzb4); have zb4_0 : W.heap.size < w4.heap.size := (by omega); have kcb4_0 : ∀ o, w4.cell? ⟨W.heap.size, o, none⟩ = _ := fun o => b4.cell (p := ⟨W.heap.size, o, none⟩) (by go_size); have kfb4_0 : ∀ o, w4.frozen? ⟨W.heap.size, o, none⟩ = _ := fun o => b4.frozen (p := ⟨W.heap.size, o, none⟩) (by go_size); clear zzb4
    go_wp2
    go_returns
    exact ⟨rfl, (by repeat' (first | (with_reducible exact Below.refl _ _) | (with_reducible assumption) | (with_reducible refine below_drewN ?_ _) | (with_reducible refine Below.drew ?_) | (with_reducible refine Below.alloc ?_ ?_ _) | (with_reducible refine Below.setCell ?_ ?_ _) | (with_reducible refine Below.trans ?_ (Below.mono (by assumption) ?_)) | go_size))⟩
  · go_enter Try.func5, Try.ntmps5
    go_wp2_with fail
    refine (toMatrix_c _ _ _ _ _).mono ?_
    rintro e w1 ⟨rfl, b1⟩
    have zzb1 := b1.size; (try simp at zzb1); have zb1_0 : W.heap.size < w1.heap.size := (by omega); have kcb1_0 : ∀ o, w1.cell? ⟨W.heap.size, o, none⟩ = _ := fun o => b1.cell (p := ⟨W.heap.size, o, none⟩) (by go_size); have kfb1_0 : ∀ o, w1.frozen? ⟨W.heap.size, o, none⟩ = _ := fun o => b1.frozen (p := ⟨W.heap.size, o, none⟩) (by go_size); clear zzb1
    go_wp2_with fail
    refine (sIsPositive_yes _ _ _ _ _ h).mono ?_
    rintro e w2 ⟨rfl, b2⟩
    have zzb2 := b2.size; (try simp at zzb2); have zb2_0 : W.heap.size < w2.heap.size := (by omega); have kcb2_0 : ∀ o, w2.cell? ⟨W.heap.size, o, none⟩ = _ := fun o => b2.cell (p := ⟨W.heap.size, o, none⟩) (by go_size); have kfb2_0 : ∀ o, w2.frozen? ⟨W.heap.size, o, none⟩ = _ := fun o => b2.frozen (p := ⟨W.heap.size, o, none⟩) (by go_size); clear zzb2
    go_wp2_with fail
    refine (toMatrix_c _ _ _ _ _).mono ?_
    rintro e w3 ⟨rfl, b3⟩
    have zzb3 := b3.size; (try simp at zzb3); have zb3_0 : W.heap.size < w3.heap.size := (by omega); have kcb3_0 : ∀ o, w3.cell? ⟨W.heap.size, o, none⟩ = _ := fun o => b3.cell (p := ⟨W.heap.size, o, none⟩) (by go_size); have kfb3_0 : ∀ o, w3.frozen? ⟨W.heap.size, o, none⟩ = _ := fun o => b3.frozen (p := ⟨W.heap.size, o, none⟩) (by go_size); clear zzb3
    go_wp2_with fail
    refine (IsPositive_yes _ _ _ _ _ h).mono ?_
    rintro e w4 ⟨rfl, b4⟩
    have zzb4 := b4.size; (try simp at zzb4); have zb4_0 : W.heap.size < w4.heap.size := (by omega); have kcb4_0 : ∀ o, w4.cell? ⟨W.heap.size, o, none⟩ = _ := fun o => b4.cell (p := ⟨W.heap.size, o, none⟩) (by go_size); have kfb4_0 : ∀ o, w4.frozen? ⟨W.heap.size, o, none⟩ = _ := fun o => b4.frozen (p := ⟨W.heap.size, o, none⟩) (by go_size); clear zzb4
    go_wp2
    go_returns
    exact ⟨rfl, (by repeat' (first | (with_reducible exact Below.refl _ _) | (with_reducible assumption) | (with_reducible refine below_drewN ?_ _) | (with_reducible refine Below.drew ?_) | (with_reducible refine Below.alloc ?_ ?_ _) | (with_reducible refine Below.setCell ?_ ?_ _) | (with_reducible refine Below.trans ?_ (Below.mono (by assumption) ?_)) | go_size))⟩

theorem FnExactTraceOf_w (p q r s : Int) (W : World) :
    Calls Try.prog 6 #[.agg #[.int .i64 p, .int .i64 q, .int .i64 r, .int .i64 s]] W fun e w' => e = .returned (.bool true) ∧ Below W.heap.size W w' := by
  cases h : isM p q r s
  · go_enter Try.func6, Try.ntmps6
    go_wp2_with fail
    refine (toMatrix_c _ _ _ _ _).mono ?_
    rintro e w1 ⟨rfl, b1⟩
    have zzb1 := b1.size; (try simp at zzb1); have zb1_0 : W.heap.size < w1.heap.size := (by omega); have kcb1_0 : ∀ o, w1.cell? ⟨W.heap.size, o, none⟩ = _ := fun o => b1.cell (p := ⟨W.heap.size, o, none⟩) (by go_size); have kfb1_0 : ∀ o, w1.frozen? ⟨W.heap.size, o, none⟩ = _ := fun o => b1.frozen (p := ⟨W.heap.size, o, none⟩) (by go_size); clear zzb1
    go_wp2_with fail
    refine (sTraceOf_no _ _ _ _ _ h).mono ?_
    rintro e w2 ⟨rfl, b2⟩
    have zzb2 := b2.size; (try simp at zzb2); have zb2_0 : W.heap.size < w2.heap.size := (by omega); have kcb2_0 : ∀ o, w2.cell? ⟨W.heap.size, o, none⟩ = _ := fun o => b2.cell (p := ⟨W.heap.size, o, none⟩) (by go_size); have kfb2_0 : ∀ o, w2.frozen? ⟨W.heap.size, o, none⟩ = _ := fun o => b2.frozen (p := ⟨W.heap.size, o, none⟩) (by go_size); clear zzb2
    go_wp2_with fail
    refine (toMatrix_c _ _ _ _ _).mono ?_
    rintro e w3 ⟨rfl, b3⟩
    have zzb3 := b3.size; (try simp at zzb3); have zb3_0 : W.heap.size < w3.heap.size := (by omega); have kcb3_0 : ∀ o, w3.cell? ⟨W.heap.size, o, none⟩ = _ := fun o => b3.cell (p := ⟨W.heap.size, o, none⟩) (by go_size); have kfb3_0 : ∀ o, w3.frozen? ⟨W.heap.size, o, none⟩ = _ := fun o => b3.frozen (p := ⟨W.heap.size, o, none⟩) (by go_size); clear zzb3
    go_wp2_with fail
    refine (TraceOf_no _ _ _ _ _ h).mono ?_
    rintro e w4 ⟨rfl, b4⟩
    have zzb4 := b4.size; (try simp at zzb4); have zb4_0 : W.heap.size < w4.heap.size := (by omega); have kcb4_0 : ∀ o, w4.cell? ⟨W.heap.size, o, none⟩ = _ := fun o => b4.cell (p := ⟨W.heap.size, o, none⟩) (by go_size); have kfb4_0 : ∀ o, w4.frozen? ⟨W.heap.size, o, none⟩ = _ := fun o => b4.frozen (p := ⟨W.heap.size, o, none⟩) (by go_size); clear zzb4
    go_wp2
    go_returns
    exact ⟨rfl, (by repeat' (first | (with_reducible exact Below.refl _ _) | (with_reducible assumption) | (with_reducible refine below_drewN ?_ _) | (with_reducible refine Below.drew ?_) | (with_reducible refine Below.alloc ?_ ?_ _) | (with_reducible refine Below.setCell ?_ ?_ _) | (with_reducible refine Below.trans ?_ (Below.mono (by assumption) ?_)) | go_size))⟩
  · go_enter Try.func6, Try.ntmps6
    go_wp2_with fail
    refine (toMatrix_c _ _ _ _ _).mono ?_
    rintro e w1 ⟨rfl, b1⟩
    have zzb1 := b1.size; (try simp at zzb1); have zb1_0 : W.heap.size < w1.heap.size := (by omega); have kcb1_0 : ∀ o, w1.cell? ⟨W.heap.size, o, none⟩ = _ := fun o => b1.cell (p := ⟨W.heap.size, o, none⟩) (by go_size); have kfb1_0 : ∀ o, w1.frozen? ⟨W.heap.size, o, none⟩ = _ := fun o => b1.frozen (p := ⟨W.heap.size, o, none⟩) (by go_size); clear zzb1
    go_wp2_with fail
    refine (sTraceOf_yes _ _ _ _ _ h).mono ?_
    rintro e w2 ⟨rfl, b2⟩
    have zzb2 := b2.size; (try simp at zzb2); have zb2_0 : W.heap.size < w2.heap.size := (by omega); have kcb2_0 : ∀ o, w2.cell? ⟨W.heap.size, o, none⟩ = _ := fun o => b2.cell (p := ⟨W.heap.size, o, none⟩) (by go_size); have kfb2_0 : ∀ o, w2.frozen? ⟨W.heap.size, o, none⟩ = _ := fun o => b2.frozen (p := ⟨W.heap.size, o, none⟩) (by go_size); clear zzb2
    go_wp2_with fail
    refine (toMatrix_c _ _ _ _ _).mono ?_
    rintro e w3 ⟨rfl, b3⟩
    have zzb3 := b3.size; (try simp at zzb3); have zb3_0 : W.heap.size < w3.heap.size := (by omega); have kcb3_0 : ∀ o, w3.cell? ⟨W.heap.size, o, none⟩ = _ := fun o => b3.cell (p := ⟨W.heap.size, o, none⟩) (by go_size); have kfb3_0 : ∀ o, w3.frozen? ⟨W.heap.size, o, none⟩ = _ := fun o => b3.frozen (p := ⟨W.heap.size, o, none⟩) (by go_size); clear zzb3
    go_wp2_with fail
    refine (TraceOf_yes _ _ _ _ _ h).mono ?_
    rintro e w4 ⟨rfl, b4⟩
    have zzb4 := b4.size; (try simp at zzb4); have zb4_0 : W.heap.size < w4.heap.size := (by omega); have kcb4_0 : ∀ o, w4.cell? ⟨W.heap.size, o, none⟩ = _ := fun o => b4.cell (p := ⟨W.heap.size, o, none⟩) (by go_size); have kfb4_0 : ∀ o, w4.frozen? ⟨W.heap.size, o, none⟩ = _ := fun o => b4.frozen (p := ⟨W.heap.size, o, none⟩) (by go_size); clear zzb4
    go_wp2
    go_returns
    exact ⟨rfl, (by repeat' (first | (with_reducible exact Below.refl _ _) | (with_reducible assumption) | (with_reducible refine below_drewN ?_ _) | (with_reducible refine Below.drew ?_) | (with_reducible refine Below.alloc ?_ ?_ _) | (with_reducible refine Below.setCell ?_ ?_ _) | (with_reducible refine Below.trans ?_ (Below.mono (by assumption) ?_)) | go_size))⟩

theorem FnExactKindOf_w (p q r s : Int) (W : World) :
    Calls Try.prog 13 #[.agg #[.int .i64 p, .int .i64 q, .int .i64 r, .int .i64 s]] W fun e w' => e = .returned (.bool true) ∧ Below W.heap.size W w' := by
  cases h : isM p q r s
  · go_enter Try.func13, Try.ntmps13
    go_wp2_with fail
    refine (toMatrix_c _ _ _ _ _).mono ?_
    rintro e w1 ⟨rfl, b1⟩
    have zzb1 := b1.size; (try simp at zzb1); have zb1_0 : W.heap.size < w1.heap.size := (by omega); have kcb1_0 : ∀ o, w1.cell? ⟨W.heap.size, o, none⟩ = _ := fun o => b1.cell (p := ⟨W.heap.size, o, none⟩) (by go_size); have kfb1_0 : ∀ o, w1.frozen? ⟨W.heap.size, o, none⟩ = _ := fun o => b1.frozen (p := ⟨W.heap.size, o, none⟩) (by go_size); clear zzb1
    go_wp2_with fail
    refine (sKindOf_no _ _ _ _ _ h).mono ?_
    rintro e w2 ⟨rfl, b2⟩
    have zzb2 := b2.size; (try simp at zzb2); have zb2_0 : W.heap.size < w2.heap.size := (by omega); have kcb2_0 : ∀ o, w2.cell? ⟨W.heap.size, o, none⟩ = _ := fun o => b2.cell (p := ⟨W.heap.size, o, none⟩) (by go_size); have kfb2_0 : ∀ o, w2.frozen? ⟨W.heap.size, o, none⟩ = _ := fun o => b2.frozen (p := ⟨W.heap.size, o, none⟩) (by go_size); clear zzb2
    go_wp2_with fail
    refine (toMatrix_c _ _ _ _ _).mono ?_
    rintro e w3 ⟨rfl, b3⟩
    have zzb3 := b3.size; (try simp at zzb3); have zb3_0 : W.heap.size < w3.heap.size := (by omega); have kcb3_0 : ∀ o, w3.cell? ⟨W.heap.size, o, none⟩ = _ := fun o => b3.cell (p := ⟨W.heap.size, o, none⟩) (by go_size); have kfb3_0 : ∀ o, w3.frozen? ⟨W.heap.size, o, none⟩ = _ := fun o => b3.frozen (p := ⟨W.heap.size, o, none⟩) (by go_size); clear zzb3
    go_wp2_with fail
    refine (KindOf_no _ _ _ _ _ h).mono ?_
    rintro e w4 ⟨rfl, b4⟩
    have zzb4 := b4.size; (try simp at zzb4); have zb4_0 : W.heap.size < w4.heap.size := (by omega); have kcb4_0 : ∀ o, w4.cell? ⟨W.heap.size, o, none⟩ = _ := fun o => b4.cell (p := ⟨W.heap.size, o, none⟩) (by go_size); have kfb4_0 : ∀ o, w4.frozen? ⟨W.heap.size, o, none⟩ = _ := fun o => b4.frozen (p := ⟨W.heap.size, o, none⟩) (by go_size); clear zzb4
    go_wp2
    go_returns
    exact ⟨rfl, (by repeat' (first | (with_reducible exact Below.refl _ _) | (with_reducible assumption) | (with_reducible refine below_drewN ?_ _) | (with_reducible refine Below.drew ?_) | (with_reducible refine Below.alloc ?_ ?_ _) | (with_reducible refine Below.setCell ?_ ?_ _) | (with_reducible refine Below.trans ?_ (Below.mono (by assumption) ?_)) | go_size))⟩
  · go_enter Try.func13, Try.ntmps13
    go_wp2_with fail
    refine (toMatrix_c _ _ _ _ _).mono ?_
    rintro e w1 ⟨rfl, b1⟩
    have zzb1 := b1.size; (try simp at zzb1); have zb1_0 : W.heap.size < w1.heap.size := (by omega); have kcb1_0 : ∀ o, w1.cell? ⟨W.heap.size, o, none⟩ = _ := fun o => b1.cell (p := ⟨W.heap.size, o, none⟩) (by go_size); have kfb1_0 : ∀ o, w1.frozen? ⟨W.heap.size, o, none⟩ = _ := fun o => b1.frozen (p := ⟨W.heap.size, o, none⟩) (by go_size); clear zzb1
    go_wp2_with fail
    refine (sKindOf_yes _ _ _ _ _ h).mono ?_
    rintro e w2 ⟨rfl, b2⟩
    have zzb2 := b2.size; (try simp at zzb2); have zb2_0 : W.heap.size < w2.heap.size := (by omega); have kcb2_0 : ∀ o, w2.cell? ⟨W.heap.size, o, none⟩ = _ := fun o => b2.cell (p := ⟨W.heap.size, o, none⟩) (by go_size); have kfb2_0 : ∀ o, w2.frozen? ⟨W.heap.size, o, none⟩ = _ := fun o => b2.frozen (p := ⟨W.heap.size, o, none⟩) (by go_size); clear zzb2
    go_wp2_with fail
    refine (toMatrix_c _ _ _ _ _).mono ?_
    rintro e w3 ⟨rfl, b3⟩
    have zzb3 := b3.size; (try simp at zzb3); have zb3_0 : W.heap.size < w3.heap.size := (by omega); have kcb3_0 : ∀ o, w3.cell? ⟨W.heap.size, o, none⟩ = _ := fun o => b3.cell (p := ⟨W.heap.size, o, none⟩) (by go_size); have kfb3_0 : ∀ o, w3.frozen? ⟨W.heap.size, o, none⟩ = _ := fun o => b3.frozen (p := ⟨W.heap.size, o, none⟩) (by go_size); clear zzb3
    go_wp2_with fail
    refine (KindOf_yes _ _ _ _ _ h).mono ?_
    rintro e w4 ⟨rfl, b4⟩
    have zzb4 := b4.size; (try simp at zzb4); have zb4_0 : W.heap.size < w4.heap.size := (by omega); have kcb4_0 : ∀ o, w4.cell? ⟨W.heap.size, o, none⟩ = _ := fun o => b4.cell (p := ⟨W.heap.size, o, none⟩) (by go_size); have kfb4_0 : ∀ o, w4.frozen? ⟨W.heap.size, o, none⟩ = _ := fun o => b4.frozen (p := ⟨W.heap.size, o, none⟩) (by go_size); clear zzb4
    go_wp2
    go_returns
    exact ⟨rfl, (by repeat' (first | (with_reducible exact Below.refl _ _) | (with_reducible assumption) | (with_reducible refine below_drewN ?_ _) | (with_reducible refine Below.drew ?_) | (with_reducible refine Below.alloc ?_ ?_ _) | (with_reducible refine Below.setCell ?_ ?_ _) | (with_reducible refine Below.trans ?_ (Below.mono (by assumption) ?_)) | go_size))⟩

theorem FnExactInverseOf_w (p q r s : Int) (W : World) :
    Calls Try.prog 8 #[.agg #[.int .i64 p, .int .i64 q, .int .i64 r, .int .i64 s]] W fun e w' => e = .returned (.bool true) ∧ Below W.heap.size W w' := by
  cases h : isM p q r s
  · go_enter Try.func8, Try.ntmps8
    go_wp2_with fail
    refine (toMatrix_c _ _ _ _ _).mono ?_
    rintro e w1 ⟨rfl, b1⟩
    have zzb1 := b1.size; (try simp at zzb1); have zb1_0 : W.heap.size < w1.heap.size := (by omega); have kcb1_0 : ∀ o, w1.cell? ⟨W.heap.size, o, none⟩ = _ := fun o => b1.cell (p := ⟨W.heap.size, o, none⟩) (by go_size); have kfb1_0 : ∀ o, w1.frozen? ⟨W.heap.size, o, none⟩ = _ := fun o => b1.frozen (p := ⟨W.heap.size, o, none⟩) (by go_size); clear zzb1
    go_wp2_with fail
    refine (sInverseOf_no _ _ _ _ _ h).mono ?_
    rintro e w2 ⟨rfl, b2⟩
    have zzb2 := b2.size; (try simp at zzb2); have zb2_0 : W.heap.size < w2.heap.size := (by omega); have kcb2_0 : ∀ o, w2.cell? ⟨W.heap.size, o, none⟩ = _ := fun o => b2.cell (p := ⟨W.heap.size, o, none⟩) (by go_size); have kfb2_0 : ∀ o, w2.frozen? ⟨W.heap.size, o, none⟩ = _ := fun o => b2.frozen (p := ⟨W.heap.size, o, none⟩) (by go_size); clear zzb2
    go_wp2_with fail
    refine (toMatrix_c _ _ _ _ _).mono ?_
    rintro e w3 ⟨rfl, b3⟩
    have zzb3 := b3.size; (try simp at zzb3); have zb3_W0 : W.heap.size < w3.heap.size := (by omega); have kcb3_W0 : ∀ o, w3.cell? ⟨W.heap.size, o, none⟩ = _ := fun o => b3.cell (p := ⟨W.heap.size, o, none⟩) (by go_size); have kfb3_W0 : ∀ o, w3.frozen? ⟨W.heap.size, o, none⟩ = _ := fun o => b3.frozen (p := ⟨W.heap.size, o, none⟩) (by go_size); have zb3_w20 : w2.heap.size < w3.heap.size := (by omega); have kcb3_w20 : ∀ o, w3.cell? ⟨w2.heap.size, o, none⟩ = _ := fun o => b3.cell (p := ⟨w2.heap.size, o, none⟩) (by go_size); have kfb3_w20 : ∀ o, w3.frozen? ⟨w2.heap.size, o, none⟩ = _ := fun o => b3.frozen (p := ⟨w2.heap.size, o, none⟩) (by go_size); clear zzb3
    go_wp2_with fail
    refine (InverseOf_no _ _ _ _ _ h).mono ?_
    rintro e w4 ⟨rfl, b4⟩
    have zzb4 := b4.size; (try simp at zzb4); have zb4_W0 : W.heap.size < w4.heap.size := (by omega); have kcb4_W0 : ∀ o, w4.cell? ⟨W.heap.size, o, none⟩ = _ := fun o => b4.cell (p := ⟨W.heap.size, o, none⟩) (by go_size); have kfb4_W0 : ∀ o, w4.frozen? ⟨W.heap.size, o, none⟩ = _ := fun o => b4.frozen (p := ⟨W.heap.size, o, none⟩) (by go_size); have zb4_w20 : w2.heap.size < w4.heap.size := (by omega); have kcb4_w20 : ∀ o, w4.cell? ⟨w2.heap.size, o, none⟩ = _ := fun o => b4.cell (p := ⟨w2.heap.size, o, none⟩) (by go_size); have kfb4_w20 : ∀ o, w4.frozen? ⟨w2.heap.size, o, none⟩ = _ := fun o => b4.frozen (p := ⟨w2.heap.size, o, none⟩) (by go_size); clear zzb4
    go_wp2_with fail
    refine (eqMatrix_same _ _ _ _ _).mono ?_
    rintro e w5 ⟨rfl, b5⟩
    have zzb5 := b5.size; (try simp at zzb5); have zb5_0 : W.heap.size < w5.heap.size := (by omega); have kcb5_0 : ∀ o, w5.cell? ⟨W.heap.size, o, none⟩ = _ := fun o => b5.cell (p := ⟨W.heap.size, o, none⟩) (by go_size); have kfb5_0 : ∀ o, w5.frozen? ⟨W.heap.size, o, none⟩ = _ := fun o => b5.frozen (p := ⟨W.heap.size, o, none⟩) (by go_size); clear zzb5
    go_wp2
    go_returns
    exact ⟨rfl, (by repeat' (first | (with_reducible exact Below.refl _ _) | (with_reducible assumption) | (with_reducible refine below_drewN ?_ _) | (with_reducible refine Below.drew ?_) | (with_reducible refine Below.alloc ?_ ?_ _) | (with_reducible refine Below.setCell ?_ ?_ _) | (with_reducible refine Below.trans ?_ (Below.mono (by assumption) ?_)) | go_size))⟩
  · go_enter Try.func8, Try.ntmps8
    go_wp2_with fail
    refine (toMatrix_c _ _ _ _ _).mono ?_
    rintro e w1 ⟨rfl, b1⟩
    have zzb1 := b1.size; (try simp at zzb1); have zb1_0 : W.heap.size < w1.heap.size := (by omega); have kcb1_0 : ∀ o, w1.cell? ⟨W.heap.size, o, none⟩ = _ := fun o => b1.cell (p := ⟨W.heap.size, o, none⟩) (by go_size); have kfb1_0 : ∀ o, w1.frozen? ⟨W.heap.size, o, none⟩ = _ := fun o => b1.frozen (p := ⟨W.heap.size, o, none⟩) (by go_size); clear zzb1
    go_wp2_with fail
    refine (sInverseOf_yes _ _ _ _ _ h).mono ?_
    rintro e w2 ⟨rfl, b2⟩
    have zzb2 := b2.size; (try simp at zzb2); have zb2_0 : W.heap.size < w2.heap.size := (by omega); have kcb2_0 : ∀ o, w2.cell? ⟨W.heap.size, o, none⟩ = _ := fun o => b2.cell (p := ⟨W.heap.size, o, none⟩) (by go_size); have kfb2_0 : ∀ o, w2.frozen? ⟨W.heap.size, o, none⟩ = _ := fun o => b2.frozen (p := ⟨W.heap.size, o, none⟩) (by go_size); clear zzb2
    go_wp2_with fail
    refine (toMatrix_c _ _ _ _ _).mono ?_
    rintro e w3 ⟨rfl, b3⟩
    have zzb3 := b3.size; (try simp at zzb3); have zb3_W0 : W.heap.size < w3.heap.size := (by omega); have kcb3_W0 : ∀ o, w3.cell? ⟨W.heap.size, o, none⟩ = _ := fun o => b3.cell (p := ⟨W.heap.size, o, none⟩) (by go_size); have kfb3_W0 : ∀ o, w3.frozen? ⟨W.heap.size, o, none⟩ = _ := fun o => b3.frozen (p := ⟨W.heap.size, o, none⟩) (by go_size); have zb3_w20 : w2.heap.size < w3.heap.size := (by omega); have kcb3_w20 : ∀ o, w3.cell? ⟨w2.heap.size, o, none⟩ = _ := fun o => b3.cell (p := ⟨w2.heap.size, o, none⟩) (by go_size); have kfb3_w20 : ∀ o, w3.frozen? ⟨w2.heap.size, o, none⟩ = _ := fun o => b3.frozen (p := ⟨w2.heap.size, o, none⟩) (by go_size); clear zzb3
    go_wp2_with fail
    refine (InverseOf_yes _ _ _ _ _ h).mono ?_
    rintro e w4 ⟨rfl, b4⟩
    have zzb4 := b4.size; (try simp at zzb4); have zb4_W0 : W.heap.size < w4.heap.size := (by omega); have kcb4_W0 : ∀ o, w4.cell? ⟨W.heap.size, o, none⟩ = _ := fun o => b4.cell (p := ⟨W.heap.size, o, none⟩) (by go_size); have kfb4_W0 : ∀ o, w4.frozen? ⟨W.heap.size, o, none⟩ = _ := fun o => b4.frozen (p := ⟨W.heap.size, o, none⟩) (by go_size); have zb4_w20 : w2.heap.size < w4.heap.size := (by omega); have kcb4_w20 : ∀ o, w4.cell? ⟨w2.heap.size, o, none⟩ = _ := fun o => b4.cell (p := ⟨w2.heap.size, o, none⟩) (by go_size); have kfb4_w20 : ∀ o, w4.frozen? ⟨w2.heap.size, o, none⟩ = _ := fun o => b4.frozen (p := ⟨w2.heap.size, o, none⟩) (by go_size); clear zzb4
    go_wp2_with fail
    refine (eqMatrix_same _ _ _ _ _).mono ?_
    rintro e w5 ⟨rfl, b5⟩
    have zzb5 := b5.size; (try simp at zzb5); have zb5_0 : W.heap.size < w5.heap.size := (by omega); have kcb5_0 : ∀ o, w5.cell? ⟨W.heap.size, o, none⟩ = _ := fun o => b5.cell (p := ⟨W.heap.size, o, none⟩) (by go_size); have kfb5_0 : ∀ o, w5.frozen? ⟨W.heap.size, o, none⟩ = _ := fun o => b5.frozen (p := ⟨W.heap.size, o, none⟩) (by go_size); clear zzb5
    go_wp2
    go_returns
    exact ⟨rfl, (by repeat' (first | (with_reducible exact Below.refl _ _) | (with_reducible assumption) | (with_reducible refine below_drewN ?_ _) | (with_reducible refine Below.drew ?_) | (with_reducible refine Below.alloc ?_ ?_ _) | (with_reducible refine Below.setCell ?_ ?_ _) | (with_reducible refine Below.trans ?_ (Below.mono (by assumption) ?_)) | go_size))⟩
/-- equal matrices -/
def eqM (p q r s p' q' r' s' : Int) : Bool := (p == p' && (q == q' && (r == r' && s == s')))
/-- what SignBetween answers -/
def signB (p q r s p' q' r' s' : Int) : Int := if (p == p' && (q == q' && (r == r' && s == s'))) = true then 1 else if (p == -p' && (q == -q' && (r == -r' && s == -s'))) = true then -1 else 0
set_option maxHeartbeats 1000000 in
theorem SignBetween_no (p q r s p' q' r' s' : Int) (w : World) (h : (isM p q r s && isM p' q' r' s') = false) :
    Calls Try.prog 35 #[.agg #[.int .i64 p, .int .i64 q, .int .i64 r, .int .i64 s], .agg #[.int .i64 p', .int .i64 q', .int .i64 r', .int .i64 s']] w fun e w' => e = .returned (.tuple #[.int .i64 0, .int .i64 1]) ∧ Below w.heap.size w w' := by
  have H := Lib.hid h
  clear h
  go_enter Try.func35, Try.ntmps35
  go_wp2_with fail
  refine (areMatrices_2 _ p q r s p' q' r' s' _ (by go_cell) (by go_cell) (by go_cell) (by go_cell) (by go_cell) (by go_cell) (by go_cell) (by go_cell)).mono ?_
  rintro e w1 ⟨rfl, b1⟩
  have zzb1 := b1.size; (try simp at zzb1); have zb1_0 : w.heap.size < w1.heap.size := (by omega); have kcb1_0 : ∀ o, w1.cell? ⟨w.heap.size, o, none⟩ = _ := fun o => b1.cell (p := ⟨w.heap.size, o, none⟩) (by go_size); have kfb1_0 : ∀ o, w1.frozen? ⟨w.heap.size, o, none⟩ = _ := fun o => b1.frozen (p := ⟨w.heap.size, o, none⟩) (by go_size); have zb1_1 : w.heap.size + 1 < w1.heap.size := (by omega); have kcb1_1 : ∀ o, w1.cell? ⟨w.heap.size + 1, o, none⟩ = _ := fun o => b1.cell (p := ⟨w.heap.size + 1, o, none⟩) (by go_size); have kfb1_1 : ∀ o, w1.frozen? ⟨w.heap.size + 1, o, none⟩ = _ := fun o => b1.frozen (p := ⟨w.heap.size + 1, o, none⟩) (by go_size); clear zzb1
  rw [H.out]
  go_wp2
  go_returns
  exact ⟨rfl, (by repeat' (first | (with_reducible exact Below.refl _ _) | (with_reducible assumption) | (with_reducible refine below_drewN ?_ _) | (with_reducible refine Below.drew ?_) | (with_reducible refine Below.alloc ?_ ?_ _) | (with_reducible refine Below.setCell ?_ ?_ _) | (with_reducible refine Below.trans ?_ (Below.mono (by assumption) ?_)) | go_size))⟩
set_option maxHeartbeats 1000000 in
theorem SignBetween_yes (p q r s p' q' r' s' : Int) (w : World) (h : (isM p q r s && isM p' q' r' s') = true) :
    Calls Try.prog 35 #[.agg #[.int .i64 p, .int .i64 q, .int .i64 r, .int .i64 s], .agg #[.int .i64 p', .int .i64 q', .int .i64 r', .int .i64 s']] w fun e w' => e = .returned (.tuple #[.int .i64 (signB p q r s p' q' r' s'), .int .i64 0]) ∧ Below w.heap.size w w' := by
  have h' := h
  rw [Bool.and_eq_true] at h'
  obtain ⟨⟨hp0, hp1⟩, ⟨hq0, hq1⟩, ⟨hr0, hr1⟩, ⟨hs0, hs1⟩, -⟩ := isM_iff.mp h'.2
  have H := Lib.hid h
  clear h h'
  cases h1 : (p == p' && (q == q' && (r == r' && s == s')))
  · go_enter Try.func35, Try.ntmps35
    go_wp2_with fail
    refine (areMatrices_2 _ p q r s p' q' r' s' _ (by go_cell) (by go_cell) (by go_cell) (by go_cell) (by go_cell) (by go_cell) (by go_cell) (by go_cell)).mono ?_
    rintro e w1 ⟨rfl, b1⟩
    have zzb1 := b1.size; (try simp at zzb1); have zb1_0 : w.heap.size < w1.heap.size := (by omega); have kcb1_0 : ∀ o, w1.cell? ⟨w.heap.size, o, none⟩ = _ := fun o => b1.cell (p := ⟨w.heap.size, o, none⟩) (by go_size); have kfb1_0 : ∀ o, w1.frozen? ⟨w.heap.size, o, none⟩ = _ := fun o => b1.frozen (p := ⟨w.heap.size, o, none⟩) (by go_size); have zb1_1 : w.heap.size + 1 < w1.heap.size := (by omega); have kcb1_1 : ∀ o, w1.cell? ⟨w.heap.size + 1, o, none⟩ = _ := fun o => b1.cell (p := ⟨w.heap.size + 1, o, none⟩) (by go_size); have kfb1_1 : ∀ o, w1.frozen? ⟨w.heap.size + 1, o, none⟩ = _ := fun o => b1.frozen (p := ⟨w.heap.size + 1, o, none⟩) (by go_size); clear zzb1
    rw [H.out]
    go_wp2_with fail
    go_region_held3 (fun w' => Below w.heap.size w w' ∧ w.heap.size < w'.heap.size ∧ w.heap.size + 1 < w'.heap.size ∧ w'.cell? ⟨w.heap.size, 0, none⟩ = some (.int .i64 p) ∧ w'.cell? ⟨w.heap.size, 1, none⟩ = some (.int .i64 q) ∧ w'.cell? ⟨w.heap.size, 2, none⟩ = some (.int .i64 r) ∧ w'.cell? ⟨w.heap.size, 3, none⟩ = some (.int .i64 s) ∧ w'.cell? ⟨w.heap.size + 1, 0, none⟩ = some (.int .i64 p') ∧ w'.cell? ⟨w.heap.size + 1, 1, none⟩ = some (.int .i64 q') ∧ w'.cell? ⟨w.heap.size + 1, 2, none⟩ = some (.int .i64 r') ∧ w'.cell? ⟨w.heap.size + 1, 3, none⟩ = some (.int .i64 s')) (first | (go_keep; done) | (go_split_ands; refine ⟨?_, ?_, ?_, ?_, ?_, ?_, ?_, ?_, ?_, ?_, ?_⟩ <;> first | (go_keep; done) | exact held_cell (by assumption) (by assumption) | exact held_size (by assumption) (by assumption) | exact (by repeat' (first | (with_reducible exact Below.refl _ _) | (with_reducible assumption) | (with_reducible refine below_drewN ?_ _) | (with_reducible refine Below.drew ?_) | (with_reducible refine Below.alloc ?_ ?_ _) | (with_reducible refine Below.setCell ?_ ?_ _) | (with_reducible refine Below.trans ?_ (Below.mono (by assumption) ?_)) | go_size)) | go_size)) (first | (go_at_call 61; refine (negative_c _ _ _ _ _ (by omega) (by omega) (by omega) (by omega) (by omega) (by omega) (by omega) (by omega)).mono ?_; rintro e w3 ⟨rfl, hb⟩))
    go_split_ands
    go_wp2
    all_goals (go_returns; exact ⟨ret_ii (by first | (simp [signB, *]; done) | (simp [signB, *]; grind) | grind [signB]) rfl, (by repeat' (first | (with_reducible exact Below.refl _ _) | (with_reducible assumption) | (with_reducible refine below_drewN ?_ _) | (with_reducible refine Below.drew ?_) | (with_reducible refine Below.alloc ?_ ?_ _) | (with_reducible refine Below.setCell ?_ ?_ _) | (with_reducible refine Below.trans ?_ (Below.mono (by assumption) ?_)) | go_size))⟩)
  · go_enter Try.func35, Try.ntmps35
    go_wp2_with fail
    refine (areMatrices_2 _ p q r s p' q' r' s' _ (by go_cell) (by go_cell) (by go_cell) (by go_cell) (by go_cell) (by go_cell) (by go_cell) (by go_cell)).mono ?_
    rintro e w1 ⟨rfl, b1⟩
    have zzb1 := b1.size; (try simp at zzb1); have zb1_0 : w.heap.size < w1.heap.size := (by omega); have kcb1_0 : ∀ o, w1.cell? ⟨w.heap.size, o, none⟩ = _ := fun o => b1.cell (p := ⟨w.heap.size, o, none⟩) (by go_size); have kfb1_0 : ∀ o, w1.frozen? ⟨w.heap.size, o, none⟩ = _ := fun o => b1.frozen (p := ⟨w.heap.size, o, none⟩) (by go_size); have zb1_1 : w.heap.size + 1 < w1.heap.size := (by omega); have kcb1_1 : ∀ o, w1.cell? ⟨w.heap.size + 1, o, none⟩ = _ := fun o => b1.cell (p := ⟨w.heap.size + 1, o, none⟩) (by go_size); have kfb1_1 : ∀ o, w1.frozen? ⟨w.heap.size + 1, o, none⟩ = _ := fun o => b1.frozen (p := ⟨w.heap.size + 1, o, none⟩) (by go_size); clear zzb1
    rw [H.out]
    go_wp2
    go_returns
    exact ⟨ret_ii (by simp [signB, h1]) rfl, (by repeat' (first | (with_reducible exact Below.refl _ _) | (with_reducible assumption) | (with_reducible refine below_drewN ?_ _) | (with_reducible refine Below.drew ?_) | (with_reducible refine Below.alloc ?_ ?_ _) | (with_reducible refine Below.setCell ?_ ?_ _) | (with_reducible refine Below.trans ?_ (Below.mono (by assumption) ?_)) | go_size))⟩
set_option maxHeartbeats 1000000 in
theorem sSignBetween_no (p q r s p' q' r' s' : Int) (w : World) (h : (isM p q r s && isM p' q' r' s') = false) :
    Calls Try.prog 34 #[.agg #[.int .i64 p, .int .i64 q, .int .i64 r, .int .i64 s], .agg #[.int .i64 p', .int .i64 q', .int .i64 r', .int .i64 s']] w fun e w' => e = .returned (.tuple #[.int .i64 0, .int .i64 1]) ∧ Below w.heap.size w w' := by
  cases m1 : isM p q r s
  · clear h
    go_enter Try.func34, Try.ntmps34
    go_wp2_with fail
    refine (l01Is_c _ _ _ _ _).mono ?_
    rintro e w1 ⟨rfl, b1⟩
    have zzb1 := b1.size; (try simp at zzb1); have zb1_0 : w.heap.size < w1.heap.size := (by omega); have kcb1_0 : ∀ o, w1.cell? ⟨w.heap.size, o, none⟩ = _ := fun o => b1.cell (p := ⟨w.heap.size, o, none⟩) (by go_size); have kfb1_0 : ∀ o, w1.frozen? ⟨w.heap.size, o, none⟩ = _ := fun o => b1.frozen (p := ⟨w.heap.size, o, none⟩) (by go_size); have zb1_1 : w.heap.size + 1 < w1.heap.size := (by omega); have kcb1_1 : ∀ o, w1.cell? ⟨w.heap.size + 1, o, none⟩ = _ := fun o => b1.cell (p := ⟨w.heap.size + 1, o, none⟩) (by go_size); have kfb1_1 : ∀ o, w1.frozen? ⟨w.heap.size + 1, o, none⟩ = _ := fun o => b1.frozen (p := ⟨w.heap.size + 1, o, none⟩) (by go_size); clear zzb1
    go_wp2
    go_returns
    exact ⟨rfl, (by repeat' (first | (with_reducible exact Below.refl _ _) | (with_reducible assumption) | (with_reducible refine below_drewN ?_ _) | (with_reducible refine Below.drew ?_) | (with_reducible refine Below.alloc ?_ ?_ _) | (with_reducible refine Below.setCell ?_ ?_ _) | (with_reducible refine Below.trans ?_ (Below.mono (by assumption) ?_)) | go_size))⟩
  · have m2 : isM p' q' r' s' = false := by simpa [m1] using h
    clear h
    go_enter Try.func34, Try.ntmps34
    go_wp2_with fail
    refine (l01Is_c _ _ _ _ _).mono ?_
    rintro e w1 ⟨rfl, b1⟩
    have zzb1 := b1.size; (try simp at zzb1); have zb1_0 : w.heap.size < w1.heap.size := (by omega); have kcb1_0 : ∀ o, w1.cell? ⟨w.heap.size, o, none⟩ = _ := fun o => b1.cell (p := ⟨w.heap.size, o, none⟩) (by go_size); have kfb1_0 : ∀ o, w1.frozen? ⟨w.heap.size, o, none⟩ = _ := fun o => b1.frozen (p := ⟨w.heap.size, o, none⟩) (by go_size); have zb1_1 : w.heap.size + 1 < w1.heap.size := (by omega); have kcb1_1 : ∀ o, w1.cell? ⟨w.heap.size + 1, o, none⟩ = _ := fun o => b1.cell (p := ⟨w.heap.size + 1, o, none⟩) (by go_size); have kfb1_1 : ∀ o, w1.frozen? ⟨w.heap.size + 1, o, none⟩ = _ := fun o => b1.frozen (p := ⟨w.heap.size + 1, o, none⟩) (by go_size); clear zzb1
    go_wp2_with fail
    refine (l01Is_c _ _ _ _ _).mono ?_
    rintro e w2 ⟨rfl, b2⟩
    have zzb2 := b2.size; (try simp at zzb2); have zb2_0 : w.heap.size < w2.heap.size := (by omega); have kcb2_0 : ∀ o, w2.cell? ⟨w.heap.size, o, none⟩ = _ := fun o => b2.cell (p := ⟨w.heap.size, o, none⟩) (by go_size); have kfb2_0 : ∀ o, w2.frozen? ⟨w.heap.size, o, none⟩ = _ := fun o => b2.frozen (p := ⟨w.heap.size, o, none⟩) (by go_size); have zb2_1 : w.heap.size + 1 < w2.heap.size := (by omega); have kcb2_1 : ∀ o, w2.cell? ⟨w.heap.size + 1, o, none⟩ = _ := fun o => b2.cell (p := ⟨w.heap.size + 1, o, none⟩) (by go_size); have kfb2_1 : ∀ o, w2.frozen? ⟨w.heap.size + 1, o, none⟩ = _ := fun o => b2.frozen (p := ⟨w.heap.size + 1, o, none⟩) (by go_size); clear zzb2
    go_wp2
    go_returns
    exact ⟨rfl, (by repeat' (first | (with_reducible exact Below.refl _ _) | (with_reducible assumption) | (with_reducible refine below_drewN ?_ _) | (with_reducible refine Below.drew ?_) | (with_reducible refine Below.alloc ?_ ?_ _) | (with_reducible refine Below.setCell ?_ ?_ _) | (with_reducible refine Below.trans ?_ (Below.mono (by assumption) ?_)) | go_size))⟩
set_option maxHeartbeats 1000000 in
theorem sSignBetween_yes (p q r s p' q' r' s' : Int) (w : World) (h : (isM p q r s && isM p' q' r' s') = true) :
    Calls Try.prog 34 #[.agg #[.int .i64 p, .int .i64 q, .int .i64 r, .int .i64 s], .agg #[.int .i64 p', .int .i64 q', .int .i64 r', .int .i64 s']] w fun e w' => e = .returned (.tuple #[.int .i64 (signB p q r s p' q' r' s'), .int .i64 0]) ∧ Below w.heap.size w w' := by
  rw [Bool.and_eq_true] at h
  obtain ⟨m1, m2⟩ := h
  obtain ⟨⟨hp0, hp1⟩, ⟨hq0, hq1⟩, ⟨hr0, hr1⟩, ⟨hs0, hs1⟩, -⟩ := isM_iff.mp m2
  cases h1 : (p == p' && (q == q' && (r == r' && s == s')))
  · go_enter Try.func34, Try.ntmps34
    go_wp2_with fail
    refine (l01Is_c _ _ _ _ _).mono ?_
    rintro e w1 ⟨rfl, b1⟩
    have zzb1 := b1.size; (try simp at zzb1); have zb1_0 : w.heap.size < w1.heap.size := (by omega); have kcb1_0 : ∀ o, w1.cell? ⟨w.heap.size, o, none⟩ = _ := fun o => b1.cell (p := ⟨w.heap.size, o, none⟩) (by go_size); have kfb1_0 : ∀ o, w1.frozen? ⟨w.heap.size, o, none⟩ = _ := fun o => b1.frozen (p := ⟨w.heap.size, o, none⟩) (by go_size); have zb1_1 : w.heap.size + 1 < w1.heap.size := (by omega); have kcb1_1 : ∀ o, w1.cell? ⟨w.heap.size + 1, o, none⟩ = _ := fun o => b1.cell (p := ⟨w.heap.size + 1, o, none⟩) (by go_size); have kfb1_1 : ∀ o, w1.frozen? ⟨w.heap.size + 1, o, none⟩ = _ := fun o => b1.frozen (p := ⟨w.heap.size + 1, o, none⟩) (by go_size); clear zzb1
    go_wp2_with fail
    refine (l01Is_c _ _ _ _ _).mono ?_
    rintro e w2 ⟨rfl, b2⟩
    have zzb2 := b2.size; (try simp at zzb2); have zb2_0 : w.heap.size < w2.heap.size := (by omega); have kcb2_0 : ∀ o, w2.cell? ⟨w.heap.size, o, none⟩ = _ := fun o => b2.cell (p := ⟨w.heap.size, o, none⟩) (by go_size); have kfb2_0 : ∀ o, w2.frozen? ⟨w.heap.size, o, none⟩ = _ := fun o => b2.frozen (p := ⟨w.heap.size, o, none⟩) (by go_size); have zb2_1 : w.heap.size + 1 < w2.heap.size := (by omega); have kcb2_1 : ∀ o, w2.cell? ⟨w.heap.size + 1, o, none⟩ = _ := fun o => b2.cell (p := ⟨w.heap.size + 1, o, none⟩) (by go_size); have kfb2_1 : ∀ o, w2.frozen? ⟨w.heap.size + 1, o, none⟩ = _ := fun o => b2.frozen (p := ⟨w.heap.size + 1, o, none⟩) (by go_size); clear zzb2
    go_wp2_with fail
    go_region_held3 (fun w' => Below w.heap.size w w' ∧ w.heap.size < w'.heap.size ∧ w.heap.size + 1 < w'.heap.size ∧ w'.cell? ⟨w.heap.size, 0, none⟩ = some (.int .i64 p) ∧ w'.cell? ⟨w.heap.size, 1, none⟩ = some (.int .i64 q) ∧ w'.cell? ⟨w.heap.size, 2, none⟩ = some (.int .i64 r) ∧ w'.cell? ⟨w.heap.size, 3, none⟩ = some (.int .i64 s) ∧ w'.cell? ⟨w.heap.size + 1, 0, none⟩ = some (.int .i64 p') ∧ w'.cell? ⟨w.heap.size + 1, 1, none⟩ = some (.int .i64 q') ∧ w'.cell? ⟨w.heap.size + 1, 2, none⟩ = some (.int .i64 r') ∧ w'.cell? ⟨w.heap.size + 1, 3, none⟩ = some (.int .i64 s')) (first | (go_keep; done) | (go_split_ands; refine ⟨?_, ?_, ?_, ?_, ?_, ?_, ?_, ?_, ?_, ?_, ?_⟩ <;> first | (go_keep; done) | exact held_cell (by assumption) (by assumption) | exact held_size (by assumption) (by assumption) | exact (by repeat' (first | (with_reducible exact Below.refl _ _) | (with_reducible assumption) | (with_reducible refine below_drewN ?_ _) | (with_reducible refine Below.drew ?_) | (with_reducible refine Below.alloc ?_ ?_ _) | (with_reducible refine Below.setCell ?_ ?_ _) | (with_reducible refine Below.trans ?_ (Below.mono (by assumption) ?_)) | go_size)) | go_size)) (first | (go_at_call 59; refine (l01Negative_c _ _ _ _ _ (by omega) (by omega) (by omega) (by omega) (by omega) (by omega) (by omega) (by omega)).mono ?_; rintro e w3 ⟨rfl, hb⟩))
    go_split_ands
    go_wp2
    all_goals (go_returns; exact ⟨ret_ii (by first | (simp [signB, *]; done) | (simp [signB, *]; grind) | grind [signB]) rfl, (by repeat' (first | (with_reducible exact Below.refl _ _) | (with_reducible assumption) | (with_reducible refine below_drewN ?_ _) | (with_reducible refine Below.drew ?_) | (with_reducible refine Below.alloc ?_ ?_ _) | (with_reducible refine Below.setCell ?_ ?_ _) | (with_reducible refine Below.trans ?_ (Below.mono (by assumption) ?_)) | go_size))⟩)
  · go_enter Try.func34, Try.ntmps34
    go_wp2_with fail
    refine (l01Is_c _ _ _ _ _).mono ?_
    rintro e w1 ⟨rfl, b1⟩
    have zzb1 := b1.size; (try simp at zzb1); have zb1_0 : w.heap.size < w1.heap.size := (by omega); have kcb1_0 : ∀ o, w1.cell? ⟨w.heap.size, o, none⟩ = _ := fun o => b1.cell (p := ⟨w.heap.size, o, none⟩) (by go_size); have kfb1_0 : ∀ o, w1.frozen? ⟨w.heap.size, o, none⟩ = _ := fun o => b1.frozen (p := ⟨w.heap.size, o, none⟩) (by go_size); have zb1_1 : w.heap.size + 1 < w1.heap.size := (by omega); have kcb1_1 : ∀ o, w1.cell? ⟨w.heap.size + 1, o, none⟩ = _ := fun o => b1.cell (p := ⟨w.heap.size + 1, o, none⟩) (by go_size); have kfb1_1 : ∀ o, w1.frozen? ⟨w.heap.size + 1, o, none⟩ = _ := fun o => b1.frozen (p := ⟨w.heap.size + 1, o, none⟩) (by go_size); clear zzb1
    go_wp2_with fail
    refine (l01Is_c _ _ _ _ _).mono ?_
    rintro e w2 ⟨rfl, b2⟩
    have zzb2 := b2.size; (try simp at zzb2); have zb2_0 : w.heap.size < w2.heap.size := (by omega); have kcb2_0 : ∀ o, w2.cell? ⟨w.heap.size, o, none⟩ = _ := fun o => b2.cell (p := ⟨w.heap.size, o, none⟩) (by go_size); have kfb2_0 : ∀ o, w2.frozen? ⟨w.heap.size, o, none⟩ = _ := fun o => b2.frozen (p := ⟨w.heap.size, o, none⟩) (by go_size); have zb2_1 : w.heap.size + 1 < w2.heap.size := (by omega); have kcb2_1 : ∀ o, w2.cell? ⟨w.heap.size + 1, o, none⟩ = _ := fun o => b2.cell (p := ⟨w.heap.size + 1, o, none⟩) (by go_size); have kfb2_1 : ∀ o, w2.frozen? ⟨w.heap.size + 1, o, none⟩ = _ := fun o => b2.frozen (p := ⟨w.heap.size + 1, o, none⟩) (by go_size); clear zzb2
    go_wp2
    go_returns
    exact ⟨ret_ii (by simp [signB, h1]) rfl, (by repeat' (first | (with_reducible exact Below.refl _ _) | (with_reducible assumption) | (with_reducible refine below_drewN ?_ _) | (with_reducible refine Below.drew ?_) | (with_reducible refine Below.alloc ?_ ?_ _) | (with_reducible refine Below.setCell ?_ ?_ _) | (with_reducible refine Below.trans ?_ (Below.mono (by assumption) ?_)) | go_size))⟩
set_option maxHeartbeats 2000000 in
theorem FnExactSignBetween_w (p q r s p' q' r' s' : Int) (W : World) :
    Calls Try.prog 12 #[.agg #[.int .i64 p, .int .i64 q, .int .i64 r, .int .i64 s], .agg #[.int .i64 p', .int .i64 q', .int .i64 r', .int .i64 s']] W fun e w' => e = .returned (.bool true) ∧ Below W.heap.size W w' := by
  cases h : (isM p q r s && isM p' q' r' s')
  · have H := Lib.hid h
    clear h
    go_enter Try.func12, Try.ntmps12
    go_wp2_with fail
    go_region_held3 (fun w' => Below W.heap.size W w' ∧ W.heap.size < w'.heap.size ∧ W.heap.size + 1 < w'.heap.size ∧ w'.cell? ⟨W.heap.size, 0, none⟩ = some (.int .i64 p) ∧ w'.cell? ⟨W.heap.size, 1, none⟩ = some (.int .i64 q) ∧ w'.cell? ⟨W.heap.size, 2, none⟩ = some (.int .i64 r) ∧ w'.cell? ⟨W.heap.size, 3, none⟩ = some (.int .i64 s) ∧ w'.cell? ⟨W.heap.size + 1, 0, none⟩ = some (.int .i64 p') ∧ w'.cell? ⟨W.heap.size + 1, 1, none⟩ = some (.int .i64 q') ∧ w'.cell? ⟨W.heap.size + 1, 2, none⟩ = some (.int .i64 r') ∧ w'.cell? ⟨W.heap.size + 1, 3, none⟩ = some (.int .i64 s')) (first | (go_keep; done) | (go_split_ands; refine ⟨?_, ?_, ?_, ?_, ?_, ?_, ?_, ?_, ?_, ?_, ?_⟩ <;> first | (go_keep; done) | exact held_cell (by assumption) (by assumption) | exact held_size (by assumption) (by assumption) | exact (by repeat' (first | (with_reducible exact Below.refl _ _) | (with_reducible assumption) | (with_reducible refine below_drewN ?_ _) | (with_reducible refine Below.drew ?_) | (with_reducible refine Below.alloc ?_ ?_ _) | (with_reducible refine Below.setCell ?_ ?_ _) | (with_reducible refine Below.trans ?_ (Below.mono (by assumption) ?_)) | go_size)) | go_size)) (first | (go_at_call 16; refine (toMatrix_c _ _ _ _ _).mono ?_; rintro e w1 ⟨rfl, hb⟩) | (go_at_call 34; refine (sSignBetween_no _ _ _ _ _ _ _ _ _ H.out).mono ?_; rintro e w2 ⟨rfl, hb⟩))
    go_split_ands
    go_wp2_with fail
    go_region_held3 (fun w' => Below W.heap.size W w' ∧ W.heap.size < w'.heap.size ∧ W.heap.size + 1 < w'.heap.size ∧ w'.cell? ⟨W.heap.size, 0, none⟩ = some (.int .i64 p) ∧ w'.cell? ⟨W.heap.size, 1, none⟩ = some (.int .i64 q) ∧ w'.cell? ⟨W.heap.size, 2, none⟩ = some (.int .i64 r) ∧ w'.cell? ⟨W.heap.size, 3, none⟩ = some (.int .i64 s) ∧ w'.cell? ⟨W.heap.size + 1, 0, none⟩ = some (.int .i64 p') ∧ w'.cell? ⟨W.heap.size + 1, 1, none⟩ = some (.int .i64 q') ∧ w'.cell? ⟨W.heap.size + 1, 2, none⟩ = some (.int .i64 r') ∧ w'.cell? ⟨W.heap.size + 1, 3, none⟩ = some (.int .i64 s')) (first | (go_keep; done) | (go_split_ands; refine ⟨?_, ?_, ?_, ?_, ?_, ?_, ?_, ?_, ?_, ?_, ?_⟩ <;> first | (go_keep; done) | exact held_cell (by assumption) (by assumption) | exact held_size (by assumption) (by assumption) | exact (by repeat' (first | (with_reducible exact Below.refl _ _) | (with_reducible assumption) | (with_reducible refine below_drewN ?_ _) | (with_reducible refine Below.drew ?_) | (with_reducible refine Below.alloc ?_ ?_ _) | (with_reducible refine Below.setCell ?_ ?_ _) | (with_reducible refine Below.trans ?_ (Below.mono (by assumption) ?_)) | go_size)) | go_size)) (first | (go_at_call 16; refine (toMatrix_c _ _ _ _ _).mono ?_; rintro e w3 ⟨rfl, hb⟩) | (go_at_call 35; refine (SignBetween_no _ _ _ _ _ _ _ _ _ H.out).mono ?_; rintro e w4 ⟨rfl, hb⟩))
    go_split_ands
    go_wp2
    go_returns
    exact ⟨rfl, (by repeat' (first | (with_reducible exact Below.refl _ _) | (with_reducible assumption) | (with_reducible refine below_drewN ?_ _) | (with_reducible refine Below.drew ?_) | (with_reducible refine Below.alloc ?_ ?_ _) | (with_reducible refine Below.setCell ?_ ?_ _) | (with_reducible refine Below.trans ?_ (Below.mono (by assumption) ?_)) | go_size))⟩
  · have H := Lib.hid h
    clear h
    go_enter Try.func12, Try.ntmps12
    go_wp2_with fail
    go_region_held3 (fun w' => Below W.heap.size W w' ∧ W.heap.size < w'.heap.size ∧ W.heap.size + 1 < w'.heap.size ∧ w'.cell? ⟨W.heap.size, 0, none⟩ = some (.int .i64 p) ∧ w'.cell? ⟨W.heap.size, 1, none⟩ = some (.int .i64 q) ∧ w'.cell? ⟨W.heap.size, 2, none⟩ = some (.int .i64 r) ∧ w'.cell? ⟨W.heap.size, 3, none⟩ = some (.int .i64 s) ∧ w'.cell? ⟨W.heap.size + 1, 0, none⟩ = some (.int .i64 p') ∧ w'.cell? ⟨W.heap.size + 1, 1, none⟩ = some (.int .i64 q') ∧ w'.cell? ⟨W.heap.size + 1, 2, none⟩ = some (.int .i64 r') ∧ w'.cell? ⟨W.heap.size + 1, 3, none⟩ = some (.int .i64 s')) (first | (go_keep; done) | (go_split_ands; refine ⟨?_, ?_, ?_, ?_, ?_, ?_, ?_, ?_, ?_, ?_, ?_⟩ <;> first | (go_keep; done) | exact held_cell (by assumption) (by assumption) | exact held_size (by assumption) (by assumption) | exact (by repeat' (first | (with_reducible exact Below.refl _ _) | (with_reducible assumption) | (with_reducible refine below_drewN ?_ _) | (with_reducible refine Below.drew ?_) | (with_reducible refine Below.alloc ?_ ?_ _) | (with_reducible refine Below.setCell ?_ ?_ _) | (with_reducible refine Below.trans ?_ (Below.mono (by assumption) ?_)) | go_size)) | go_size)) (first | (go_at_call 16; refine (toMatrix_c _ _ _ _ _).mono ?_; rintro e w1 ⟨rfl, hb⟩) | (go_at_call 34; refine (sSignBetween_yes _ _ _ _ _ _ _ _ _ H.out).mono ?_; rintro e w2 ⟨rfl, hb⟩))
    go_split_ands
    go_wp2_with fail
    go_region_held3 (fun w' => Below W.heap.size W w' ∧ W.heap.size < w'.heap.size ∧ W.heap.size + 1 < w'.heap.size ∧ w'.cell? ⟨W.heap.size, 0, none⟩ = some (.int .i64 p) ∧ w'.cell? ⟨W.heap.size, 1, none⟩ = some (.int .i64 q) ∧ w'.cell? ⟨W.heap.size, 2, none⟩ = some (.int .i64 r) ∧ w'.cell? ⟨W.heap.size, 3, none⟩ = some (.int .i64 s) ∧ w'.cell? ⟨W.heap.size + 1, 0, none⟩ = some (.int .i64 p') ∧ w'.cell? ⟨W.heap.size + 1, 1, none⟩ = some (.int .i64 q') ∧ w'.cell? ⟨W.heap.size + 1, 2, none⟩ = some (.int .i64 r') ∧ w'.cell? ⟨W.heap.size + 1, 3, none⟩ = some (.int .i64 s')) (first | (go_keep; done) | (go_split_ands; refine ⟨?_, ?_, ?_, ?_, ?_, ?_, ?_, ?_, ?_, ?_, ?_⟩ <;> first | (go_keep; done) | exact held_cell (by assumption) (by assumption) | exact held_size (by assumption) (by assumption) | exact (by repeat' (first | (with_reducible exact Below.refl _ _) | (with_reducible assumption) | (with_reducible refine below_drewN ?_ _) | (with_reducible refine Below.drew ?_) | (with_reducible refine Below.alloc ?_ ?_ _) | (with_reducible refine Below.setCell ?_ ?_ _) | (with_reducible refine Below.trans ?_ (Below.mono (by assumption) ?_)) | go_size)) | go_size)) (first | (go_at_call 16; refine (toMatrix_c _ _ _ _ _).mono ?_; rintro e w3 ⟨rfl, hb⟩) | (go_at_call 35; refine (SignBetween_yes _ _ _ _ _ _ _ _ _ H.out).mono ?_; rintro e w4 ⟨rfl, hb⟩))
    go_split_ands
    go_wp2
    go_returns
    exact ⟨rfl, (by repeat' (first | (with_reducible exact Below.refl _ _) | (with_reducible assumption) | (with_reducible refine below_drewN ?_ _) | (with_reducible refine Below.drew ?_) | (with_reducible refine Below.alloc ?_ ?_ _) | (with_reducible refine Below.setCell ?_ ?_ _) | (with_reducible refine Below.trans ?_ (Below.mono (by assumption) ?_)) | go_size))⟩
end Go.Proofs.Yteappinpgmpicaa
