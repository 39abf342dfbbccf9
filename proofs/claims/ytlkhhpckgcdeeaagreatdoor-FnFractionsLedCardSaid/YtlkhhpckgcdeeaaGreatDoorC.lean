/- The exported functions on one matrix or two, of the program and of the reference. -/
import Derived.Test.YtlkhhpckgcdeeaaGreatDoorB
namespace Go.Proofs.YtlkhhpckgcdeeaaGreatDoor
open Go.RowKit
set_option linter.unusedVariables false
set_option linter.unusedSimpArgs false
attribute [local go_sem] run_min_int4 run_max_int4
attribute [local go_sem] run_equalIn_M
attribute [local go_sem] run_equalIn_Q
theorem ret_bi {a b : Bool} {c d : Int} (h : a = b) (h' : c = d) : Ending.returned (.tuple #[.bool a, .int .i64 c]) = .returned (.tuple #[.bool b, .int .i64 d]) := by rw [h, h']
theorem ret_ii {a b c d : Int} (h : a = b) (h' : c = d) : Ending.returned (.tuple #[.int .i64 a, .int .i64 c]) = .returned (.tuple #[.int .i64 b, .int .i64 d]) := by rw [h, h']
/-- what a function of a matrix answers: its code is 1 where it is none -/
def posOf (p q r s : Int) : Bool × Int := if isM p q r s = true then (posM p q r s, 0) else (false, 1)



theorem TraceOf_no (p q r s : Int) (w : World) (h : isM p q r s = false) :
    Calls Tryz.prog 47 #[.agg #[.int .i64 p, .int .i64 q, .int .i64 r, .int .i64 s]] w fun e w' => e = .returned (.tuple #[.int .i64 0, .int .i64 1]) ∧ Below w.heap.size w w' := by
  go_enter Tryz.func47, Tryz.ntmps47
  go_wp2_with fail
  refine (IsMatrix_c _ _ _ _ _).mono ?_
  rintro e w1 ⟨rfl, b1⟩
  have zzb1 := b1.size; (try simp at zzb1); have zb1_0 : w.heap.size < w1.heap.size := (by omega); have kcb1_0 : ∀ o, w1.cell? ⟨w.heap.size, o, none⟩ = _ := fun o => b1.cell (p := ⟨w.heap.size, o, none⟩) (by go_size); have kfb1_0 : ∀ o, w1.frozen? ⟨w.heap.size, o, none⟩ = _ := fun o => b1.frozen (p := ⟨w.heap.size, o, none⟩) (by go_size); clear zzb1
  go_wp2
  go_returns
  exact ⟨rfl, (by repeat' (first | (with_reducible exact Below.refl _ _) | (with_reducible assumption) | (with_reducible refine below_drewN ?_ _) | (with_reducible refine Below.drew ?_) | (with_reducible refine Below.alloc ?_ ?_ _) | (with_reducible refine Below.setCell ?_ ?_ _) | (with_reducible refine Below.trans ?_ (Below.mono (by with_reducible assumption) ?_)) | go_size | (dsimp only; omega)))⟩
theorem TraceOf_yes (p q r s : Int) (w : World) (h : isM p q r s = true) :
    Calls Tryz.prog 47 #[.agg #[.int .i64 p, .int .i64 q, .int .i64 r, .int .i64 s]] w fun e w' => e = .returned (.tuple #[.int .i64 (p + s), .int .i64 0]) ∧ Below w.heap.size w w' := by
  obtain ⟨⟨hp0, hp1⟩, ⟨hq0, hq1⟩, ⟨hr0, hr1⟩, ⟨hs0, hs1⟩, hd⟩ := isM_iff.mp h
  have HD := Lib.hid hd
  clear hd
  go_enter Tryz.func47, Tryz.ntmps47
  go_wp2_with fail
  refine (IsMatrix_c _ _ _ _ _).mono ?_
  rintro e w1 ⟨rfl, b1⟩
  have zzb1 := b1.size; (try simp at zzb1); have zb1_0 : w.heap.size < w1.heap.size := (by omega); have kcb1_0 : ∀ o, w1.cell? ⟨w.heap.size, o, none⟩ = _ := fun o => b1.cell (p := ⟨w.heap.size, o, none⟩) (by go_size); have kfb1_0 : ∀ o, w1.frozen? ⟨w.heap.size, o, none⟩ = _ := fun o => b1.frozen (p := ⟨w.heap.size, o, none⟩) (by go_size); clear zzb1
  go_wp2_with fail
  refine (trace_c _ _ _ _ _ (by omega) (by omega) (by omega) (by omega)).mono ?_
  rintro e w2 ⟨rfl, b2⟩
  have zzb2 := b2.size; (try simp at zzb2); have zb2_0 : w.heap.size < w2.heap.size := (by omega); have kcb2_0 : ∀ o, w2.cell? ⟨w.heap.size, o, none⟩ = _ := fun o => b2.cell (p := ⟨w.heap.size, o, none⟩) (by go_size); have kfb2_0 : ∀ o, w2.frozen? ⟨w.heap.size, o, none⟩ = _ := fun o => b2.frozen (p := ⟨w.heap.size, o, none⟩) (by go_size); clear zzb2
  go_wp2
  go_returns
  exact ⟨rfl, (by repeat' (first | (with_reducible exact Below.refl _ _) | (with_reducible assumption) | (with_reducible refine below_drewN ?_ _) | (with_reducible refine Below.drew ?_) | (with_reducible refine Below.alloc ?_ ?_ _) | (with_reducible refine Below.setCell ?_ ?_ _) | (with_reducible refine Below.trans ?_ (Below.mono (by with_reducible assumption) ?_)) | go_size | (dsimp only; omega)))⟩


theorem InverseOf_no (p q r s : Int) (w : World) (h : isM p q r s = false) :
    Calls Tryz.prog 11 #[.agg #[.int .i64 p, .int .i64 q, .int .i64 r, .int .i64 s]] w fun e w' => e = .returned (.tuple #[.agg #[.int .i64 0, .int .i64 0, .int .i64 0, .int .i64 0], .int .i64 1]) ∧ Below w.heap.size w w' := by
  go_enter Tryz.func11, Tryz.ntmps11
  go_wp2_with fail
  refine (IsMatrix_c _ _ _ _ _).mono ?_
  rintro e w1 ⟨rfl, b1⟩
  have zzb1 := b1.size; (try simp at zzb1); have zb1_0 : w.heap.size < w1.heap.size := (by omega); have kcb1_0 : ∀ o, w1.cell? ⟨w.heap.size, o, none⟩ = _ := fun o => b1.cell (p := ⟨w.heap.size, o, none⟩) (by go_size); have kfb1_0 : ∀ o, w1.frozen? ⟨w.heap.size, o, none⟩ = _ := fun o => b1.frozen (p := ⟨w.heap.size, o, none⟩) (by go_size); have zb1_1 : w.heap.size + 1 < w1.heap.size := (by omega); have kcb1_1 : ∀ o, w1.cell? ⟨w.heap.size + 1, o, none⟩ = _ := fun o => b1.cell (p := ⟨w.heap.size + 1, o, none⟩) (by go_size); have kfb1_1 : ∀ o, w1.frozen? ⟨w.heap.size + 1, o, none⟩ = _ := fun o => b1.frozen (p := ⟨w.heap.size + 1, o, none⟩) (by go_size); clear zzb1
  go_wp2
  exact bodyPost_ret (v := .tuple #[.agg #[.int .i64 0, .int .i64 0, .int .i64 0, .int .i64 0], .int .i64 1]) (by simp [results, Tryz.results11, go_sem, kcb1_1, kfb1_1]) rfl ⟨rfl, (by repeat' (first | (with_reducible exact Below.refl _ _) | (with_reducible assumption) | (with_reducible refine below_drewN ?_ _) | (with_reducible refine Below.drew ?_) | (with_reducible refine Below.alloc ?_ ?_ _) | (with_reducible refine Below.setCell ?_ ?_ _) | (with_reducible refine Below.trans ?_ (Below.mono (by with_reducible assumption) ?_)) | go_size | (dsimp only; omega)))⟩
theorem InverseOf_yes (p q r s : Int) (w : World) (h : isM p q r s = true) :
    Calls Tryz.prog 11 #[.agg #[.int .i64 p, .int .i64 q, .int .i64 r, .int .i64 s]] w fun e w' => e = .returned (.tuple #[.agg #[.int .i64 s, .int .i64 (-q), .int .i64 (-r), .int .i64 p], .int .i64 0]) ∧ Below w.heap.size w w' := by
  obtain ⟨⟨hp0, hp1⟩, ⟨hq0, hq1⟩, ⟨hr0, hr1⟩, ⟨hs0, hs1⟩, hd⟩ := isM_iff.mp h
  have HD := Lib.hid hd
  clear hd
  go_enter Tryz.func11, Tryz.ntmps11
  go_wp2_with fail
  refine (IsMatrix_c _ _ _ _ _).mono ?_
  rintro e w1 ⟨rfl, b1⟩
  have zzb1 := b1.size; (try simp at zzb1); have zb1_0 : w.heap.size < w1.heap.size := (by omega); have kcb1_0 : ∀ o, w1.cell? ⟨w.heap.size, o, none⟩ = _ := fun o => b1.cell (p := ⟨w.heap.size, o, none⟩) (by go_size); have kfb1_0 : ∀ o, w1.frozen? ⟨w.heap.size, o, none⟩ = _ := fun o => b1.frozen (p := ⟨w.heap.size, o, none⟩) (by go_size); have zb1_1 : w.heap.size + 1 < w1.heap.size := (by omega); have kcb1_1 : ∀ o, w1.cell? ⟨w.heap.size + 1, o, none⟩ = _ := fun o => b1.cell (p := ⟨w.heap.size + 1, o, none⟩) (by go_size); have kfb1_1 : ∀ o, w1.frozen? ⟨w.heap.size + 1, o, none⟩ = _ := fun o => b1.frozen (p := ⟨w.heap.size + 1, o, none⟩) (by go_size); clear zzb1
  go_wp2_with fail
  refine (inverse_c _ _ _ _ _ (by omega) (by omega) (by omega) (by omega) (by omega) (by omega) (by omega) (by omega)).mono ?_
  rintro e w2 ⟨rfl, b2⟩
  have zzb2 := b2.size; (try simp at zzb2); have zb2_0 : w.heap.size < w2.heap.size := (by omega); have kcb2_0 : ∀ o, w2.cell? ⟨w.heap.size, o, none⟩ = _ := fun o => b2.cell (p := ⟨w.heap.size, o, none⟩) (by go_size); have kfb2_0 : ∀ o, w2.frozen? ⟨w.heap.size, o, none⟩ = _ := fun o => b2.frozen (p := ⟨w.heap.size, o, none⟩) (by go_size); have zb2_1 : w.heap.size + 1 < w2.heap.size := (by omega); have kcb2_1 : ∀ o, w2.cell? ⟨w.heap.size + 1, o, none⟩ = _ := fun o => b2.cell (p := ⟨w.heap.size + 1, o, none⟩) (by go_size); have kfb2_1 : ∀ o, w2.frozen? ⟨w.heap.size + 1, o, none⟩ = _ := fun o => b2.frozen (p := ⟨w.heap.size + 1, o, none⟩) (by go_size); clear zzb2
  go_wp2
  exact bodyPost_ret (v := .tuple #[.agg #[.int .i64 s, .int .i64 (-q), .int .i64 (-r), .int .i64 p], .int .i64 0]) (by simp [results, Tryz.results11, go_sem, kcb1_1, kfb1_1, kcb2_1, kfb2_1]) rfl ⟨rfl, (by repeat' (first | (with_reducible exact Below.refl _ _) | (with_reducible assumption) | (with_reducible refine below_drewN ?_ _) | (with_reducible refine Below.drew ?_) | (with_reducible refine Below.alloc ?_ ?_ _) | (with_reducible refine Below.setCell ?_ ?_ _) | (with_reducible refine Below.trans ?_ (Below.mono (by with_reducible assumption) ?_)) | go_size | (dsimp only; omega)))⟩


theorem KindOf_no (p q r s : Int) (w : World) (h : isM p q r s = false) :
    Calls Tryz.prog 17 #[.agg #[.int .i64 p, .int .i64 q, .int .i64 r, .int .i64 s]] w fun e w' => e = .returned (.tuple #[.int .i64 0, .int .i64 1]) ∧ Below w.heap.size w w' := by
  go_enter Tryz.func17, Tryz.ntmps17
  go_wp2_with fail
  refine (IsMatrix_c _ _ _ _ _).mono ?_
  rintro e w1 ⟨rfl, b1⟩
  have zzb1 := b1.size; (try simp at zzb1); have zb1_0 : w.heap.size < w1.heap.size := (by omega); have kcb1_0 : ∀ o, w1.cell? ⟨w.heap.size, o, none⟩ = _ := fun o => b1.cell (p := ⟨w.heap.size, o, none⟩) (by go_size); have kfb1_0 : ∀ o, w1.frozen? ⟨w.heap.size, o, none⟩ = _ := fun o => b1.frozen (p := ⟨w.heap.size, o, none⟩) (by go_size); clear zzb1
  go_wp2
  go_returns
  exact ⟨rfl, (by repeat' (first | (with_reducible exact Below.refl _ _) | (with_reducible assumption) | (with_reducible refine below_drewN ?_ _) | (with_reducible refine Below.drew ?_) | (with_reducible refine Below.alloc ?_ ?_ _) | (with_reducible refine Below.setCell ?_ ?_ _) | (with_reducible refine Below.trans ?_ (Below.mono (by with_reducible assumption) ?_)) | go_size | (dsimp only; omega)))⟩
theorem KindOf_yes (p q r s : Int) (w : World) (h : isM p q r s = true) :
    Calls Tryz.prog 17 #[.agg #[.int .i64 p, .int .i64 q, .int .i64 r, .int .i64 s]] w fun e w' => e = .returned (.tuple #[.int .i64 (kindOf p q r s), .int .i64 0]) ∧ Below w.heap.size w w' := by
  obtain ⟨⟨hp0, hp1⟩, ⟨hq0, hq1⟩, ⟨hr0, hr1⟩, ⟨hs0, hs1⟩, hd⟩ := isM_iff.mp h
  have HD := Lib.hid hd
  clear hd
  go_enter Tryz.func17, Tryz.ntmps17
  go_wp2_with fail
  refine (IsMatrix_c _ _ _ _ _).mono ?_
  rintro e w1 ⟨rfl, b1⟩
  have zzb1 := b1.size; (try simp at zzb1); have zb1_0 : w.heap.size < w1.heap.size := (by omega); have kcb1_0 : ∀ o, w1.cell? ⟨w.heap.size, o, none⟩ = _ := fun o => b1.cell (p := ⟨w.heap.size, o, none⟩) (by go_size); have kfb1_0 : ∀ o, w1.frozen? ⟨w.heap.size, o, none⟩ = _ := fun o => b1.frozen (p := ⟨w.heap.size, o, none⟩) (by go_size); clear zzb1
  go_wp2_with fail
  refine (kind_c _ _ _ _ _ (by omega) (by omega) (by omega) (by omega) (by omega) (by omega) (by omega) (by omega) HD.out).mono ?_
  rintro e w2 ⟨rfl, b2⟩
  have zzb2 := b2.size; (try simp at zzb2); have zb2_0 : w.heap.size < w2.heap.size := (by omega); have kcb2_0 : ∀ o, w2.cell? ⟨w.heap.size, o, none⟩ = _ := fun o => b2.cell (p := ⟨w.heap.size, o, none⟩) (by go_size); have kfb2_0 : ∀ o, w2.frozen? ⟨w.heap.size, o, none⟩ = _ := fun o => b2.frozen (p := ⟨w.heap.size, o, none⟩) (by go_size); clear zzb2
  go_wp2
  go_returns
  exact ⟨rfl, (by repeat' (first | (with_reducible exact Below.refl _ _) | (with_reducible assumption) | (with_reducible refine below_drewN ?_ _) | (with_reducible refine Below.drew ?_) | (with_reducible refine Below.alloc ?_ ?_ _) | (with_reducible refine Below.setCell ?_ ?_ _) | (with_reducible refine Below.trans ?_ (Below.mono (by with_reducible assumption) ?_)) | go_size | (dsimp only; omega)))⟩

theorem sKindOf_no (p q r s : Int) (w : World) (h : isM p q r s = false) :
    Calls Tryz.prog 54 #[.agg #[.int .i64 p, .int .i64 q, .int .i64 r, .int .i64 s]] w fun e w' => e = .returned (.tuple #[.int .i64 0, .int .i64 1]) ∧ Below w.heap.size w w' := by
  go_enter Tryz.func54, Tryz.ntmps54
  go_wp2_with fail
  refine (l01Is_c _ _ _ _ _).mono ?_
  rintro e w1 ⟨rfl, b1⟩
  have zzb1 := b1.size; (try simp at zzb1); have zb1_0 : w.heap.size < w1.heap.size := (by omega); have kcb1_0 : ∀ o, w1.cell? ⟨w.heap.size, o, none⟩ = _ := fun o => b1.cell (p := ⟨w.heap.size, o, none⟩) (by go_size); have kfb1_0 : ∀ o, w1.frozen? ⟨w.heap.size, o, none⟩ = _ := fun o => b1.frozen (p := ⟨w.heap.size, o, none⟩) (by go_size); clear zzb1
  go_wp2
  go_returns
  exact ⟨rfl, (by repeat' (first | (with_reducible exact Below.refl _ _) | (with_reducible assumption) | (with_reducible refine below_drewN ?_ _) | (with_reducible refine Below.drew ?_) | (with_reducible refine Below.alloc ?_ ?_ _) | (with_reducible refine Below.setCell ?_ ?_ _) | (with_reducible refine Below.trans ?_ (Below.mono (by with_reducible assumption) ?_)) | go_size | (dsimp only; omega)))⟩
theorem sKindOf_yes (p q r s : Int) (w : World) (h : isM p q r s = true) :
    Calls Tryz.prog 54 #[.agg #[.int .i64 p, .int .i64 q, .int .i64 r, .int .i64 s]] w fun e w' => e = .returned (.tuple #[.int .i64 (kindOf p q r s), .int .i64 0]) ∧ Below w.heap.size w w' := by
  obtain ⟨⟨hp0, hp1⟩, ⟨hq0, hq1⟩, ⟨hr0, hr1⟩, ⟨hs0, hs1⟩, hd⟩ := isM_iff.mp h
  have HD := Lib.hid hd
  clear hd
  go_enter Tryz.func54, Tryz.ntmps54
  go_wp2_with fail
  refine (l01Is_c _ _ _ _ _).mono ?_
  rintro e w1 ⟨rfl, b1⟩
  have zzb1 := b1.size; (try simp at zzb1); have zb1_0 : w.heap.size < w1.heap.size := (by omega); have kcb1_0 : ∀ o, w1.cell? ⟨w.heap.size, o, none⟩ = _ := fun o => b1.cell (p := ⟨w.heap.size, o, none⟩) (by go_size); have kfb1_0 : ∀ o, w1.frozen? ⟨w.heap.size, o, none⟩ = _ := fun o => b1.frozen (p := ⟨w.heap.size, o, none⟩) (by go_size); clear zzb1
  go_wp2_with fail
  refine (l01Kind_c _ _ _ _ _ (by omega) (by omega) (by omega) (by omega)).mono ?_
  rintro e w2 ⟨rfl, b2⟩
  have zzb2 := b2.size; (try simp at zzb2); have zb2_0 : w.heap.size < w2.heap.size := (by omega); have kcb2_0 : ∀ o, w2.cell? ⟨w.heap.size, o, none⟩ = _ := fun o => b2.cell (p := ⟨w.heap.size, o, none⟩) (by go_size); have kfb2_0 : ∀ o, w2.frozen? ⟨w.heap.size, o, none⟩ = _ := fun o => b2.frozen (p := ⟨w.heap.size, o, none⟩) (by go_size); clear zzb2
  go_wp2
  go_returns
  exact ⟨rfl, (by repeat' (first | (with_reducible exact Below.refl _ _) | (with_reducible assumption) | (with_reducible refine below_drewN ?_ _) | (with_reducible refine Below.drew ?_) | (with_reducible refine Below.alloc ?_ ?_ _) | (with_reducible refine Below.setCell ?_ ?_ _) | (with_reducible refine Below.trans ?_ (Below.mono (by with_reducible assumption) ?_)) | go_size | (dsimp only; omega)))⟩

end Go.Proofs.YtlkhhpckgcdeeaaGreatDoor
