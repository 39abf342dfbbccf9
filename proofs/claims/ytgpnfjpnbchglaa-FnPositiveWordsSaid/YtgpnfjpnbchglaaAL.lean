/- The law of RunsOf. -/
import Derived.Test.YtgpnfjpnbchglaaAJ
import Derived.Test.YtgpnfjpnbchglaaAF
namespace Go.Proofs.Ytgpnfjpnbchglaa
open Go.RowKit
open Plain (oft Runs)
set_option linter.unusedVariables false
set_option linter.unusedSimpArgs false
/-- the code of a matrix that has to be positive -/
def posC (p q r s : Int) : Int := if isM p q r s = true then (if posM p q r s = true then 0 else 5) else 1
theorem positiveCode_c (p q r s : Int) (w : World) :
    Calls Try.prog 53 #[.agg #[.int .i64 p, .int .i64 q, .int .i64 r, .int .i64 s]] w fun e w' => e = .returned (.int .i64 (posC p q r s)) ∧ Below w.heap.size w w' := by
  cases h : isM p q r s
  · rw [show posC p q r s = 1 from by simp [posC, h]]
    go_enter Try.func53, Try.ntmps53
    go_wp2_with fail
    refine (IsMatrix_c _ _ _ _ _).mono ?_
    rintro e w1 ⟨rfl, b1⟩
    have zzb1 := b1.size; (try simp at zzb1); have zb1_0 : w.heap.size < w1.heap.size := (by omega); have kcb1_0 : ∀ o, w1.cell? ⟨w.heap.size, o, none⟩ = _ := fun o => b1.cell (p := ⟨w.heap.size, o, none⟩) (by go_size); have kfb1_0 : ∀ o, w1.frozen? ⟨w.heap.size, o, none⟩ = _ := fun o => b1.frozen (p := ⟨w.heap.size, o, none⟩) (by go_size); clear zzb1
    go_wp2
    go_returns
    exact ⟨rfl, (by repeat' (first | (with_reducible exact Below.refl _ _) | (with_reducible assumption) | (with_reducible refine below_drewN ?_ _) | (with_reducible refine Below.drew ?_) | (with_reducible refine Below.alloc ?_ ?_ _) | (with_reducible refine Below.setCell ?_ ?_ _) | (with_reducible refine Below.trans ?_ (Below.mono (by with_reducible assumption) ?_)) | go_size | (dsimp only; omega)))⟩
  cases hp : posM p q r s
  · rw [show posC p q r s = 5 from by simp [posC, h, hp]]
    go_enter Try.func53, Try.ntmps53
    go_wp2_with fail
    refine (IsMatrix_c _ _ _ _ _).mono ?_
    rintro e w1 ⟨rfl, b1⟩
    have zzb1 := b1.size; (try simp at zzb1); have zb1_0 : w.heap.size < w1.heap.size := (by omega); have kcb1_0 : ∀ o, w1.cell? ⟨w.heap.size, o, none⟩ = _ := fun o => b1.cell (p := ⟨w.heap.size, o, none⟩) (by go_size); have kfb1_0 : ∀ o, w1.frozen? ⟨w.heap.size, o, none⟩ = _ := fun o => b1.frozen (p := ⟨w.heap.size, o, none⟩) (by go_size); clear zzb1
    go_wp2_with fail
    refine (isPositive_c _ _ _ _ _).mono ?_
    rintro e w2 ⟨rfl, b2⟩
    have zzb2 := b2.size; (try simp at zzb2); have zb2_0 : w.heap.size < w2.heap.size := (by omega); have kcb2_0 : ∀ o, w2.cell? ⟨w.heap.size, o, none⟩ = _ := fun o => b2.cell (p := ⟨w.heap.size, o, none⟩) (by go_size); have kfb2_0 : ∀ o, w2.frozen? ⟨w.heap.size, o, none⟩ = _ := fun o => b2.frozen (p := ⟨w.heap.size, o, none⟩) (by go_size); clear zzb2
    go_wp2
    go_returns
    exact ⟨rfl, (by repeat' (first | (with_reducible exact Below.refl _ _) | (with_reducible assumption) | (with_reducible refine below_drewN ?_ _) | (with_reducible refine Below.drew ?_) | (with_reducible refine Below.alloc ?_ ?_ _) | (with_reducible refine Below.setCell ?_ ?_ _) | (with_reducible refine Below.trans ?_ (Below.mono (by with_reducible assumption) ?_)) | go_size | (dsimp only; omega)))⟩
  · rw [show posC p q r s = 0 from by simp [posC, h, hp]]
    go_enter Try.func53, Try.ntmps53
    go_wp2_with fail
    refine (IsMatrix_c _ _ _ _ _).mono ?_
    rintro e w1 ⟨rfl, b1⟩
    have zzb1 := b1.size; (try simp at zzb1); have zb1_0 : w.heap.size < w1.heap.size := (by omega); have kcb1_0 : ∀ o, w1.cell? ⟨w.heap.size, o, none⟩ = _ := fun o => b1.cell (p := ⟨w.heap.size, o, none⟩) (by go_size); have kfb1_0 : ∀ o, w1.frozen? ⟨w.heap.size, o, none⟩ = _ := fun o => b1.frozen (p := ⟨w.heap.size, o, none⟩) (by go_size); clear zzb1
    go_wp2_with fail
    refine (isPositive_c _ _ _ _ _).mono ?_
    rintro e w2 ⟨rfl, b2⟩
    have zzb2 := b2.size; (try simp at zzb2); have zb2_0 : w.heap.size < w2.heap.size := (by omega); have kcb2_0 : ∀ o, w2.cell? ⟨w.heap.size, o, none⟩ = _ := fun o => b2.cell (p := ⟨w.heap.size, o, none⟩) (by go_size); have kfb2_0 : ∀ o, w2.frozen? ⟨w.heap.size, o, none⟩ = _ := fun o => b2.frozen (p := ⟨w.heap.size, o, none⟩) (by go_size); clear zzb2
    go_wp2
    go_returns
    exact ⟨rfl, (by repeat' (first | (with_reducible exact Below.refl _ _) | (with_reducible assumption) | (with_reducible refine below_drewN ?_ _) | (with_reducible refine Below.drew ?_) | (with_reducible refine Below.alloc ?_ ?_ _) | (with_reducible refine Below.setCell ?_ ?_ _) | (with_reducible refine Below.trans ?_ (Below.mono (by with_reducible assumption) ?_)) | go_size | (dsimp only; omega)))⟩
theorem RunsOf_no (p q r s c : Int) (w : World) (hc : posC p q r s = c) (hz : c ≠ 0) :
    Calls Try.prog 20 #[.agg #[.int .i64 p, .int .i64 q, .int .i64 r, .int .i64 s]] w fun e w' => ∃ v, e = .returned (.tuple #[v, .int .i64 c]) ∧ OwnI w.heap.size w' v [] ∧ Below w.heap.size w w' := by
  have HC := Lib.hid hc
  have hz' : (c == 0) = false := by simpa using hz
  have hz2 : (c != 0) = true := by simpa using hz
  clear hc
  go_enter Try.func20, Try.ntmps20
  go_wp2_with fail
  refine (positiveCode_c _ _ _ _ _).mono ?_
  rintro e w1 ⟨rfl, b1⟩
  have zzb1 := b1.size; (try simp at zzb1); have zb1_0 : w.heap.size < w1.heap.size := (by omega); have kcb1_0 : ∀ o, w1.cell? ⟨w.heap.size, o, none⟩ = _ := fun o => b1.cell (p := ⟨w.heap.size, o, none⟩) (by go_size); have kfb1_0 : ∀ o, w1.frozen? ⟨w.heap.size, o, none⟩ = _ := fun o => b1.frozen (p := ⟨w.heap.size, o, none⟩) (by go_size); clear zzb1
  rw [HC.out]
  go_wp2
  go_returns
  exact ⟨_, rfl, OwnI.nil, (by repeat' (first | (with_reducible exact Below.refl _ _) | (with_reducible assumption) | (with_reducible refine below_drewN ?_ _) | (with_reducible refine Below.drew ?_) | (with_reducible refine Below.alloc ?_ ?_ _) | (with_reducible refine Below.setCell ?_ ?_ _) | (with_reducible refine Below.trans ?_ (Below.mono (by with_reducible assumption) ?_)) | go_size | (dsimp only; omega)))⟩
theorem RunsOf_yes (p q r s : Int) (zs : List Int) (w : World) (h : isM p q r s = true) (hp : posM p q r s = true) (hr : Runs true p q r s zs) (hl : zs.length ≤ 4000000001) :
    Calls Try.prog 20 #[.agg #[.int .i64 p, .int .i64 q, .int .i64 r, .int .i64 s]] w fun e w' => ∃ v, e = .returned (.tuple #[v, .int .i64 0]) ∧ OwnI w.heap.size w' v zs ∧ Below w.heap.size w w' := by
  have hc : posC p q r s = 0 := by simp [posC, h, hp]
  have HC := Lib.hid hc
  have HR := Lib.hid hr
  have H := Lib.hid h
  have HP := Lib.hid hp
  clear hc hr h hp
  go_enter Try.func20, Try.ntmps20
  go_wp2_with fail
  refine (positiveCode_c _ _ _ _ _).mono ?_
  rintro e w1 ⟨rfl, b1⟩
  have zzb1 := b1.size; (try simp at zzb1); have zb1_0 : w.heap.size < w1.heap.size := (by omega); have kcb1_0 : ∀ o, w1.cell? ⟨w.heap.size, o, none⟩ = _ := fun o => b1.cell (p := ⟨w.heap.size, o, none⟩) (by go_size); have kfb1_0 : ∀ o, w1.frozen? ⟨w.heap.size, o, none⟩ = _ := fun o => b1.frozen (p := ⟨w.heap.size, o, none⟩) (by go_size); clear zzb1
  rw [HC.out]
  go_wp2_with fail
  refine (runs_c p q r s _ zs H.out HP.out HR.out hl).mono ?_
  rintro e w2 ⟨v, rfl, ho, b2⟩
  have HO := Lib.hid ho
  clear ho
  go_wp2
  exact bodyPost_ret (v := .tuple #[v, .int .i64 0]) (by simp only [results, Try.results20]; go_simp) rfl ⟨v, rfl, HO.out.base (by have := b1.size; simp at this; omega), (by repeat' (first | (with_reducible exact Below.refl _ _) | (with_reducible assumption) | (with_reducible refine below_drewN ?_ _) | (with_reducible refine Below.drew ?_) | (with_reducible refine Below.alloc ?_ ?_ _) | (with_reducible refine Below.setCell ?_ ?_ _) | (with_reducible refine Below.trans ?_ (Below.mono (by with_reducible assumption) ?_)) | go_size | (dsimp only; omega)))⟩
theorem l02Given_c (p q r s : Int) (w : World) :
    Calls Try.prog 56 #[.agg #[.int .i64 p, .int .i64 q, .int .i64 r, .int .i64 s]] w fun e w' => e = .returned (.int .i64 (posC p q r s)) ∧ Below w.heap.size w w' := by
  cases h : isM p q r s
  · rw [show posC p q r s = 1 from by simp [posC, h]]
    go_enter Try.func56, Try.ntmps56
    go_wp2_with fail
    refine (l01Is_c _ _ _ _ _).mono ?_
    rintro e w1 ⟨rfl, b1⟩
    have zzb1 := b1.size; (try simp at zzb1); have zb1_0 : w.heap.size < w1.heap.size := (by omega); have kcb1_0 : ∀ o, w1.cell? ⟨w.heap.size, o, none⟩ = _ := fun o => b1.cell (p := ⟨w.heap.size, o, none⟩) (by go_size); have kfb1_0 : ∀ o, w1.frozen? ⟨w.heap.size, o, none⟩ = _ := fun o => b1.frozen (p := ⟨w.heap.size, o, none⟩) (by go_size); clear zzb1
    go_wp2
    go_returns
    exact ⟨rfl, (by repeat' (first | (with_reducible exact Below.refl _ _) | (with_reducible assumption) | (with_reducible refine below_drewN ?_ _) | (with_reducible refine Below.drew ?_) | (with_reducible refine Below.alloc ?_ ?_ _) | (with_reducible refine Below.setCell ?_ ?_ _) | (with_reducible refine Below.trans ?_ (Below.mono (by with_reducible assumption) ?_)) | go_size | (dsimp only; omega)))⟩
  cases hp : posM p q r s
  · rw [show posC p q r s = 5 from by simp [posC, h, hp]]
    go_enter Try.func56, Try.ntmps56
    go_wp2_with fail
    refine (l01Is_c _ _ _ _ _).mono ?_
    rintro e w1 ⟨rfl, b1⟩
    have zzb1 := b1.size; (try simp at zzb1); have zb1_0 : w.heap.size < w1.heap.size := (by omega); have kcb1_0 : ∀ o, w1.cell? ⟨w.heap.size, o, none⟩ = _ := fun o => b1.cell (p := ⟨w.heap.size, o, none⟩) (by go_size); have kfb1_0 : ∀ o, w1.frozen? ⟨w.heap.size, o, none⟩ = _ := fun o => b1.frozen (p := ⟨w.heap.size, o, none⟩) (by go_size); clear zzb1
    go_wp2_with fail
    refine (l02Positive_c _ _ _ _ _).mono ?_
    rintro e w2 ⟨rfl, b2⟩
    have zzb2 := b2.size; (try simp at zzb2); have zb2_0 : w.heap.size < w2.heap.size := (by omega); have kcb2_0 : ∀ o, w2.cell? ⟨w.heap.size, o, none⟩ = _ := fun o => b2.cell (p := ⟨w.heap.size, o, none⟩) (by go_size); have kfb2_0 : ∀ o, w2.frozen? ⟨w.heap.size, o, none⟩ = _ := fun o => b2.frozen (p := ⟨w.heap.size, o, none⟩) (by go_size); clear zzb2
    go_wp2
    go_returns
    exact ⟨rfl, (by repeat' (first | (with_reducible exact Below.refl _ _) | (with_reducible assumption) | (with_reducible refine below_drewN ?_ _) | (with_reducible refine Below.drew ?_) | (with_reducible refine Below.alloc ?_ ?_ _) | (with_reducible refine Below.setCell ?_ ?_ _) | (with_reducible refine Below.trans ?_ (Below.mono (by with_reducible assumption) ?_)) | go_size | (dsimp only; omega)))⟩
  · rw [show posC p q r s = 0 from by simp [posC, h, hp]]
    go_enter Try.func56, Try.ntmps56
    go_wp2_with fail
    refine (l01Is_c _ _ _ _ _).mono ?_
    rintro e w1 ⟨rfl, b1⟩
    have zzb1 := b1.size; (try simp at zzb1); have zb1_0 : w.heap.size < w1.heap.size := (by omega); have kcb1_0 : ∀ o, w1.cell? ⟨w.heap.size, o, none⟩ = _ := fun o => b1.cell (p := ⟨w.heap.size, o, none⟩) (by go_size); have kfb1_0 : ∀ o, w1.frozen? ⟨w.heap.size, o, none⟩ = _ := fun o => b1.frozen (p := ⟨w.heap.size, o, none⟩) (by go_size); clear zzb1
    go_wp2_with fail
    refine (l02Positive_c _ _ _ _ _).mono ?_
    rintro e w2 ⟨rfl, b2⟩
    have zzb2 := b2.size; (try simp at zzb2); have zb2_0 : w.heap.size < w2.heap.size := (by omega); have kcb2_0 : ∀ o, w2.cell? ⟨w.heap.size, o, none⟩ = _ := fun o => b2.cell (p := ⟨w.heap.size, o, none⟩) (by go_size); have kfb2_0 : ∀ o, w2.frozen? ⟨w.heap.size, o, none⟩ = _ := fun o => b2.frozen (p := ⟨w.heap.size, o, none⟩) (by go_size); clear zzb2
    go_wp2
    go_returns
    exact ⟨rfl, (by repeat' (first | (with_reducible exact Below.refl _ _) | (with_reducible assumption) | (with_reducible refine below_drewN ?_ _) | (with_reducible refine Below.drew ?_) | (with_reducible refine Below.alloc ?_ ?_ _) | (with_reducible refine Below.setCell ?_ ?_ _) | (with_reducible refine Below.trans ?_ (Below.mono (by with_reducible assumption) ?_)) | go_size | (dsimp only; omega)))⟩
theorem sRunsOf_no (p q r s c : Int) (w : World) (hc : posC p q r s = c) (hz : c ≠ 0) :
    Calls Try.prog 21 #[.agg #[.int .i64 p, .int .i64 q, .int .i64 r, .int .i64 s]] w fun e w' => ∃ v, e = .returned (.tuple #[v, .int .i64 c]) ∧ OwnI w.heap.size w' v [] ∧ Below w.heap.size w w' := by
  have HC := Lib.hid hc
  have hz' : (c == 0) = false := by simpa using hz
  have hz2 : (c != 0) = true := by simpa using hz
  clear hc
  go_enter Try.func21, Try.ntmps21
  go_wp2_with fail
  refine (l02Given_c _ _ _ _ _).mono ?_
  rintro e w1 ⟨rfl, b1⟩
  have zzb1 := b1.size; (try simp at zzb1); have zb1_0 : w.heap.size < w1.heap.size := (by omega); have kcb1_0 : ∀ o, w1.cell? ⟨w.heap.size, o, none⟩ = _ := fun o => b1.cell (p := ⟨w.heap.size, o, none⟩) (by go_size); have kfb1_0 : ∀ o, w1.frozen? ⟨w.heap.size, o, none⟩ = _ := fun o => b1.frozen (p := ⟨w.heap.size, o, none⟩) (by go_size); clear zzb1
  rw [HC.out]
  go_wp2
  go_returns
  exact ⟨_, rfl, OwnI.nil, (by repeat' (first | (with_reducible exact Below.refl _ _) | (with_reducible assumption) | (with_reducible refine below_drewN ?_ _) | (with_reducible refine Below.drew ?_) | (with_reducible refine Below.alloc ?_ ?_ _) | (with_reducible refine Below.setCell ?_ ?_ _) | (with_reducible refine Below.trans ?_ (Below.mono (by with_reducible assumption) ?_)) | go_size | (dsimp only; omega)))⟩
theorem sRunsOf_yes (p q r s : Int) (zs : List Int) (w : World) (h : isM p q r s = true) (hp : posM p q r s = true) (hr : Runs true p q r s zs) (hl : zs.length ≤ 4000000001) :
    Calls Try.prog 21 #[.agg #[.int .i64 p, .int .i64 q, .int .i64 r, .int .i64 s]] w fun e w' => ∃ v, e = .returned (.tuple #[v, .int .i64 0]) ∧ OwnI w.heap.size w' v zs ∧ Below w.heap.size w w' := by
  have hc : posC p q r s = 0 := by simp [posC, h, hp]
  have HC := Lib.hid hc
  have HR := Lib.hid hr
  have H := Lib.hid h
  have HP := Lib.hid hp
  clear hc hr h hp
  go_enter Try.func21, Try.ntmps21
  go_wp2_with fail
  refine (l02Given_c _ _ _ _ _).mono ?_
  rintro e w1 ⟨rfl, b1⟩
  have zzb1 := b1.size; (try simp at zzb1); have zb1_0 : w.heap.size < w1.heap.size := (by omega); have kcb1_0 : ∀ o, w1.cell? ⟨w.heap.size, o, none⟩ = _ := fun o => b1.cell (p := ⟨w.heap.size, o, none⟩) (by go_size); have kfb1_0 : ∀ o, w1.frozen? ⟨w.heap.size, o, none⟩ = _ := fun o => b1.frozen (p := ⟨w.heap.size, o, none⟩) (by go_size); clear zzb1
  rw [HC.out]
  go_wp2_with fail
  refine (l02Runs_c p q r s _ zs H.out HP.out HR.out hl).mono ?_
  rintro e w2 ⟨v, rfl, ho, b2⟩
  have HO := Lib.hid ho
  clear ho
  go_wp2
  exact bodyPost_ret (v := .tuple #[v, .int .i64 0]) (by simp only [results, Try.results21]; go_simp) rfl ⟨v, rfl, HO.out.base (by have := b1.size; simp at this; omega), (by repeat' (first | (with_reducible exact Below.refl _ _) | (with_reducible assumption) | (with_reducible refine below_drewN ?_ _) | (with_reducible refine Below.drew ?_) | (with_reducible refine Below.alloc ?_ ?_ _) | (with_reducible refine Below.setCell ?_ ?_ _) | (with_reducible refine Below.trans ?_ (Below.mono (by with_reducible assumption) ?_)) | go_size | (dsimp only; omega)))⟩
end Go.Proofs.Ytgpnfjpnbchglaa
