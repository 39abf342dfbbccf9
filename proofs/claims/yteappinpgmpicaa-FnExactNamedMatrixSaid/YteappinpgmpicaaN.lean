/- Matrices with names. -/
import Derived.Test.YteappinpgmpicaaD
namespace Go.Proofs.Yteappinpgmpicaa
open Go.RowKit
set_option linter.unusedVariables false
set_option linter.unusedSimpArgs false
/-- the matrix with a name -/
def nameOf (l : List UInt8) : Option (Int × Int × Int × Int) :=
  if l = [83] then some (0, -1, 1, 0) else if l = [84] then some (1, 1, 0, 1) else if l = [76] then some (1, 0, 1, 1) else if l = [85] then some (1, -1, 1, 0) else if l = [73] then some (1, 0, 0, 1) else none
def optM : Option (Int × Int × Int × Int) → Value
  | some (p, q, r, s) => .agg #[.int .i64 p, .int .i64 q, .int .i64 r, .int .i64 s]
  | none => .agg #[.int .i64 0, .int .i64 0, .int .i64 0, .int .i64 0]
set_option maxHeartbeats 1000000 in
theorem named_c (s : ByteArray) (w : World) :
    Calls Try.prog 56 #[.string s] w fun e w' => e = .returned (.tuple #[optM (nameOf s.toList), .bool (nameOf s.toList).isSome]) ∧ Below w.heap.size w w' := by
  cases h0 : (s.toList == [83])
  case true =>
    have e : nameOf s.toList = some (0, -1, 1, 0) := by
      simp only [beq_iff_eq] at h0
      simp [nameOf, h0]
    rw [e]
    clear e
    simp only [optM, Option.isSome]
    go_enter Try.func56, Try.ntmps56
    go_wp2
    exact bodyPost_ret (v := .tuple #[.agg #[.int .i64 0, .int .i64 (-1), .int .i64 1, .int .i64 0], .bool true]) (by simp [results, Try.results56, go_sem]) rfl ⟨rfl, (by repeat' (first | (with_reducible exact Below.refl _ _) | (with_reducible assumption) | (with_reducible refine below_drewN ?_ _) | (with_reducible refine Below.drew ?_) | (with_reducible refine Below.alloc ?_ ?_ _) | (with_reducible refine Below.setCell ?_ ?_ _) | (with_reducible refine Below.trans ?_ (Below.mono (by assumption) ?_)) | go_size))⟩
  cases h1 : (s.toList == [84])
  case true =>
    have e : nameOf s.toList = some (1, 1, 0, 1) := by
      simp only [beq_iff_eq, beq_eq_false_iff_ne, ne_eq] at h0 h1
      simp [nameOf, h1]
    rw [e]
    clear e
    simp only [optM, Option.isSome]
    go_enter Try.func56, Try.ntmps56
    go_wp2
    exact bodyPost_ret (v := .tuple #[.agg #[.int .i64 1, .int .i64 1, .int .i64 0, .int .i64 1], .bool true]) (by simp [results, Try.results56, go_sem]) rfl ⟨rfl, (by repeat' (first | (with_reducible exact Below.refl _ _) | (with_reducible assumption) | (with_reducible refine below_drewN ?_ _) | (with_reducible refine Below.drew ?_) | (with_reducible refine Below.alloc ?_ ?_ _) | (with_reducible refine Below.setCell ?_ ?_ _) | (with_reducible refine Below.trans ?_ (Below.mono (by assumption) ?_)) | go_size))⟩
  cases h2 : (s.toList == [76])
  case true =>
    have e : nameOf s.toList = some (1, 0, 1, 1) := by
      simp only [beq_iff_eq, beq_eq_false_iff_ne, ne_eq] at h0 h1 h2
      simp [nameOf, h2]
    rw [e]
    clear e
    simp only [optM, Option.isSome]
    go_enter Try.func56, Try.ntmps56
    go_wp2
    exact bodyPost_ret (v := .tuple #[.agg #[.int .i64 1, .int .i64 0, .int .i64 1, .int .i64 1], .bool true]) (by simp [results, Try.results56, go_sem]) rfl ⟨rfl, (by repeat' (first | (with_reducible exact Below.refl _ _) | (with_reducible assumption) | (with_reducible refine below_drewN ?_ _) | (with_reducible refine Below.drew ?_) | (with_reducible refine Below.alloc ?_ ?_ _) | (with_reducible refine Below.setCell ?_ ?_ _) | (with_reducible refine Below.trans ?_ (Below.mono (by assumption) ?_)) | go_size))⟩
  cases h3 : (s.toList == [85])
  case true =>
    have e : nameOf s.toList = some (1, -1, 1, 0) := by
      simp only [beq_iff_eq, beq_eq_false_iff_ne, ne_eq] at h0 h1 h2 h3
      simp [nameOf, h3]
    rw [e]
    clear e
    simp only [optM, Option.isSome]
    go_enter Try.func56, Try.ntmps56
    go_wp2
    exact bodyPost_ret (v := .tuple #[.agg #[.int .i64 1, .int .i64 (-1), .int .i64 1, .int .i64 0], .bool true]) (by simp [results, Try.results56, go_sem]) rfl ⟨rfl, (by repeat' (first | (with_reducible exact Below.refl _ _) | (with_reducible assumption) | (with_reducible refine below_drewN ?_ _) | (with_reducible refine Below.drew ?_) | (with_reducible refine Below.alloc ?_ ?_ _) | (with_reducible refine Below.setCell ?_ ?_ _) | (with_reducible refine Below.trans ?_ (Below.mono (by assumption) ?_)) | go_size))⟩
  cases h4 : (s.toList == [73])
  case true =>
    have e : nameOf s.toList = some (1, 0, 0, 1) := by
      simp only [beq_iff_eq, beq_eq_false_iff_ne, ne_eq] at h0 h1 h2 h3 h4
      simp [nameOf, h4]
    rw [e]
    clear e
    simp only [optM, Option.isSome]
    go_enter Try.func56, Try.ntmps56
    go_wp2_with fail
    refine (identity_c _).mono ?_
    rintro e w1 ⟨rfl, b1⟩
    have zzb1 := b1.size; (try simp at zzb1); have zb1_0 : w.heap.size < w1.heap.size := (by omega); have kcb1_0 : ∀ o, w1.cell? ⟨w.heap.size, o, none⟩ = _ := fun o => b1.cell (p := ⟨w.heap.size, o, none⟩) (by go_size); have kfb1_0 : ∀ o, w1.frozen? ⟨w.heap.size, o, none⟩ = _ := fun o => b1.frozen (p := ⟨w.heap.size, o, none⟩) (by go_size); clear zzb1
    go_wp2
    exact bodyPost_ret (v := .tuple #[.agg #[.int .i64 1, .int .i64 0, .int .i64 0, .int .i64 1], .bool true]) (by simp [results, Try.results56, go_sem, kcb1_0, kfb1_0, zb1_0]) rfl ⟨rfl, (by repeat' (first | (with_reducible exact Below.refl _ _) | (with_reducible assumption) | (with_reducible refine below_drewN ?_ _) | (with_reducible refine Below.drew ?_) | (with_reducible refine Below.alloc ?_ ?_ _) | (with_reducible refine Below.setCell ?_ ?_ _) | (with_reducible refine Below.trans ?_ (Below.mono (by assumption) ?_)) | go_size))⟩
  have e : nameOf s.toList = none := by
    simp only [beq_eq_false_iff_ne, ne_eq] at h0 h1 h2 h3 h4
    simp [nameOf, h0, h1, h2, h3, h4]
  rw [e]
  clear e
  simp only [optM, Option.isSome]
  go_enter Try.func56, Try.ntmps56
  go_wp2
  exact bodyPost_ret (v := .tuple #[.agg #[.int .i64 0, .int .i64 0, .int .i64 0, .int .i64 0], .bool false]) (by simp [results, Try.results56, go_sem]) rfl ⟨rfl, (by repeat' (first | (with_reducible exact Below.refl _ _) | (with_reducible assumption) | (with_reducible refine below_drewN ?_ _) | (with_reducible refine Below.drew ?_) | (with_reducible refine Below.alloc ?_ ?_ _) | (with_reducible refine Below.setCell ?_ ?_ _) | (with_reducible refine Below.trans ?_ (Below.mono (by assumption) ?_)) | go_size))⟩
set_option maxHeartbeats 1000000 in
theorem l01Named_c (s : ByteArray) (w : World) :
    Calls Try.prog 55 #[.string s] w fun e w' => e = .returned (.tuple #[optM (nameOf s.toList), .bool (nameOf s.toList).isSome]) ∧ Below w.heap.size w w' := by
  cases h0 : (s.toList == [83])
  case true =>
    have e : nameOf s.toList = some (0, -1, 1, 0) := by
      simp only [beq_iff_eq] at h0
      simp [nameOf, h0]
    rw [e]
    clear e
    simp only [optM, Option.isSome]
    go_enter Try.func55, Try.ntmps55
    go_wp2
    exact bodyPost_ret (v := .tuple #[.agg #[.int .i64 0, .int .i64 (-1), .int .i64 1, .int .i64 0], .bool true]) (by simp [results, Try.results55, go_sem]) rfl ⟨rfl, (by repeat' (first | (with_reducible exact Below.refl _ _) | (with_reducible assumption) | (with_reducible refine below_drewN ?_ _) | (with_reducible refine Below.drew ?_) | (with_reducible refine Below.alloc ?_ ?_ _) | (with_reducible refine Below.setCell ?_ ?_ _) | (with_reducible refine Below.trans ?_ (Below.mono (by assumption) ?_)) | go_size))⟩
  cases h1 : (s.toList == [84])
  case true =>
    have e : nameOf s.toList = some (1, 1, 0, 1) := by
      simp only [beq_iff_eq, beq_eq_false_iff_ne, ne_eq] at h0 h1
      simp [nameOf, h1]
    rw [e]
    clear e
    simp only [optM, Option.isSome]
    go_enter Try.func55, Try.ntmps55
    go_wp2
    exact bodyPost_ret (v := .tuple #[.agg #[.int .i64 1, .int .i64 1, .int .i64 0, .int .i64 1], .bool true]) (by simp [results, Try.results55, go_sem]) rfl ⟨rfl, (by repeat' (first | (with_reducible exact Below.refl _ _) | (with_reducible assumption) | (with_reducible refine below_drewN ?_ _) | (with_reducible refine Below.drew ?_) | (with_reducible refine Below.alloc ?_ ?_ _) | (with_reducible refine Below.setCell ?_ ?_ _) | (with_reducible refine Below.trans ?_ (Below.mono (by assumption) ?_)) | go_size))⟩
  cases h2 : (s.toList == [76])
  case true =>
    have e : nameOf s.toList = some (1, 0, 1, 1) := by
      simp only [beq_iff_eq, beq_eq_false_iff_ne, ne_eq] at h0 h1 h2
      simp [nameOf, h2]
    rw [e]
    clear e
    simp only [optM, Option.isSome]
    go_enter Try.func55, Try.ntmps55
    go_wp2
    exact bodyPost_ret (v := .tuple #[.agg #[.int .i64 1, .int .i64 0, .int .i64 1, .int .i64 1], .bool true]) (by simp [results, Try.results55, go_sem]) rfl ⟨rfl, (by repeat' (first | (with_reducible exact Below.refl _ _) | (with_reducible assumption) | (with_reducible refine below_drewN ?_ _) | (with_reducible refine Below.drew ?_) | (with_reducible refine Below.alloc ?_ ?_ _) | (with_reducible refine Below.setCell ?_ ?_ _) | (with_reducible refine Below.trans ?_ (Below.mono (by assumption) ?_)) | go_size))⟩
  cases h3 : (s.toList == [85])
  case true =>
    have e : nameOf s.toList = some (1, -1, 1, 0) := by
      simp only [beq_iff_eq, beq_eq_false_iff_ne, ne_eq] at h0 h1 h2 h3
      simp [nameOf, h3]
    rw [e]
    clear e
    simp only [optM, Option.isSome]
    go_enter Try.func55, Try.ntmps55
    go_wp2
    exact bodyPost_ret (v := .tuple #[.agg #[.int .i64 1, .int .i64 (-1), .int .i64 1, .int .i64 0], .bool true]) (by simp [results, Try.results55, go_sem]) rfl ⟨rfl, (by repeat' (first | (with_reducible exact Below.refl _ _) | (with_reducible assumption) | (with_reducible refine below_drewN ?_ _) | (with_reducible refine Below.drew ?_) | (with_reducible refine Below.alloc ?_ ?_ _) | (with_reducible refine Below.setCell ?_ ?_ _) | (with_reducible refine Below.trans ?_ (Below.mono (by assumption) ?_)) | go_size))⟩
  cases h4 : (s.toList == [73])
  case true =>
    have e : nameOf s.toList = some (1, 0, 0, 1) := by
      simp only [beq_iff_eq, beq_eq_false_iff_ne, ne_eq] at h0 h1 h2 h3 h4
      simp [nameOf, h4]
    rw [e]
    clear e
    simp only [optM, Option.isSome]
    go_enter Try.func55, Try.ntmps55
    go_wp2
    exact bodyPost_ret (v := .tuple #[.agg #[.int .i64 1, .int .i64 0, .int .i64 0, .int .i64 1], .bool true]) (by simp [results, Try.results55, go_sem]) rfl ⟨rfl, (by repeat' (first | (with_reducible exact Below.refl _ _) | (with_reducible assumption) | (with_reducible refine below_drewN ?_ _) | (with_reducible refine Below.drew ?_) | (with_reducible refine Below.alloc ?_ ?_ _) | (with_reducible refine Below.setCell ?_ ?_ _) | (with_reducible refine Below.trans ?_ (Below.mono (by assumption) ?_)) | go_size))⟩
  have e : nameOf s.toList = none := by
    simp only [beq_eq_false_iff_ne, ne_eq] at h0 h1 h2 h3 h4
    simp [nameOf, h0, h1, h2, h3, h4]
  rw [e]
  clear e
  simp only [optM, Option.isSome]
  go_enter Try.func55, Try.ntmps55
  go_wp2
  exact bodyPost_ret (v := .tuple #[.agg #[.int .i64 0, .int .i64 0, .int .i64 0, .int .i64 0], .bool false]) (by simp [results, Try.results55, go_sem]) rfl ⟨rfl, (by repeat' (first | (with_reducible exact Below.refl _ _) | (with_reducible assumption) | (with_reducible refine below_drewN ?_ _) | (with_reducible refine Below.drew ?_) | (with_reducible refine Below.alloc ?_ ?_ _) | (with_reducible refine Below.setCell ?_ ?_ _) | (with_reducible refine Below.trans ?_ (Below.mono (by assumption) ?_)) | go_size))⟩
set_option maxHeartbeats 4000000 in
theorem NamedMatrix_c (s : ByteArray) (w : World) :
    Calls Try.prog 31 #[.string s] w fun e w' => e = .returned (.tuple #[optM (nameOf s.toList), .int .i64 (if (nameOf s.toList).isSome then 0 else 4)]) ∧ Below w.heap.size w w' := by
  have K := named_c s
  cases h : nameOf s.toList with
  | none =>
    rw [h] at K
    simp only [optM, Option.isSome] at K
    have HK := Lib.hid K
    clear K h
    simp only [optM, Option.isSome]
    go_enter Try.func31, Try.ntmps31
    go_wp2_with fail
    refine (HK.out _).mono ?_
    rintro e w1 ⟨rfl, b1⟩
    have zzb1 := b1.size; (try simp at zzb1); have zb1_0 : w.heap.size < w1.heap.size := (by omega); have kcb1_0 : ∀ o, w1.cell? ⟨w.heap.size, o, none⟩ = _ := fun o => b1.cell (p := ⟨w.heap.size, o, none⟩) (by go_size); have kfb1_0 : ∀ o, w1.frozen? ⟨w.heap.size, o, none⟩ = _ := fun o => b1.frozen (p := ⟨w.heap.size, o, none⟩) (by go_size); clear zzb1
    go_wp2
    exact bodyPost_ret (v := .tuple #[.agg #[.int .i64 0, .int .i64 0, .int .i64 0, .int .i64 0], .int .i64 4]) (by simp [results, Try.results31, go_sem, kcb1_0, kfb1_0, zb1_0]) rfl ⟨rfl, (by repeat' (first | (with_reducible exact Below.refl _ _) | (with_reducible assumption) | (with_reducible refine below_drewN ?_ _) | (with_reducible refine Below.drew ?_) | (with_reducible refine Below.alloc ?_ ?_ _) | (with_reducible refine Below.setCell ?_ ?_ _) | (with_reducible refine Below.trans ?_ (Below.mono (by assumption) ?_)) | go_size))⟩
  | some m =>
    obtain ⟨p, q, r, t⟩ := m
    rw [h] at K
    simp only [optM, Option.isSome] at K
    have HK := Lib.hid K
    clear K h
    simp only [optM, Option.isSome]
    go_enter Try.func31, Try.ntmps31
    go_wp2_with fail
    refine (HK.out _).mono ?_
    rintro e w1 ⟨rfl, b1⟩
    have zzb1 := b1.size; (try simp at zzb1); have zb1_0 : w.heap.size < w1.heap.size := (by omega); have kcb1_0 : ∀ o, w1.cell? ⟨w.heap.size, o, none⟩ = _ := fun o => b1.cell (p := ⟨w.heap.size, o, none⟩) (by go_size); have kfb1_0 : ∀ o, w1.frozen? ⟨w.heap.size, o, none⟩ = _ := fun o => b1.frozen (p := ⟨w.heap.size, o, none⟩) (by go_size); clear zzb1
    go_wp2
    exact bodyPost_ret (v := .tuple #[.agg #[.int .i64 p, .int .i64 q, .int .i64 r, .int .i64 t], .int .i64 0]) (by simp [results, Try.results31, go_sem, kcb1_0, kfb1_0, zb1_0]) rfl ⟨rfl, (by repeat' (first | (with_reducible exact Below.refl _ _) | (with_reducible assumption) | (with_reducible refine below_drewN ?_ _) | (with_reducible refine Below.drew ?_) | (with_reducible refine Below.alloc ?_ ?_ _) | (with_reducible refine Below.setCell ?_ ?_ _) | (with_reducible refine Below.trans ?_ (Below.mono (by assumption) ?_)) | go_size))⟩
set_option maxHeartbeats 4000000 in
theorem sNamedMatrix_c (s : ByteArray) (w : World) :
    Calls Try.prog 30 #[.string s] w fun e w' => e = .returned (.tuple #[optM (nameOf s.toList), .int .i64 (if (nameOf s.toList).isSome then 0 else 4)]) ∧ Below w.heap.size w w' := by
  have K := l01Named_c s
  cases h : nameOf s.toList with
  | none =>
    rw [h] at K
    simp only [optM, Option.isSome] at K
    have HK := Lib.hid K
    clear K h
    simp only [optM, Option.isSome]
    go_enter Try.func30, Try.ntmps30
    go_wp2_with fail
    refine (HK.out _).mono ?_
    rintro e w1 ⟨rfl, b1⟩
    have zzb1 := b1.size; (try simp at zzb1); have zb1_0 : w.heap.size < w1.heap.size := (by omega); have kcb1_0 : ∀ o, w1.cell? ⟨w.heap.size, o, none⟩ = _ := fun o => b1.cell (p := ⟨w.heap.size, o, none⟩) (by go_size); have kfb1_0 : ∀ o, w1.frozen? ⟨w.heap.size, o, none⟩ = _ := fun o => b1.frozen (p := ⟨w.heap.size, o, none⟩) (by go_size); clear zzb1
    go_wp2
    exact bodyPost_ret (v := .tuple #[.agg #[.int .i64 0, .int .i64 0, .int .i64 0, .int .i64 0], .int .i64 4]) (by simp [results, Try.results30, go_sem, kcb1_0, kfb1_0, zb1_0]) rfl ⟨rfl, (by repeat' (first | (with_reducible exact Below.refl _ _) | (with_reducible assumption) | (with_reducible refine below_drewN ?_ _) | (with_reducible refine Below.drew ?_) | (with_reducible refine Below.alloc ?_ ?_ _) | (with_reducible refine Below.setCell ?_ ?_ _) | (with_reducible refine Below.trans ?_ (Below.mono (by assumption) ?_)) | go_size))⟩
  | some m =>
    obtain ⟨p, q, r, t⟩ := m
    rw [h] at K
    simp only [optM, Option.isSome] at K
    have HK := Lib.hid K
    clear K h
    simp only [optM, Option.isSome]
    go_enter Try.func30, Try.ntmps30
    go_wp2_with fail
    refine (HK.out _).mono ?_
    rintro e w1 ⟨rfl, b1⟩
    have zzb1 := b1.size; (try simp at zzb1); have zb1_0 : w.heap.size < w1.heap.size := (by omega); have kcb1_0 : ∀ o, w1.cell? ⟨w.heap.size, o, none⟩ = _ := fun o => b1.cell (p := ⟨w.heap.size, o, none⟩) (by go_size); have kfb1_0 : ∀ o, w1.frozen? ⟨w.heap.size, o, none⟩ = _ := fun o => b1.frozen (p := ⟨w.heap.size, o, none⟩) (by go_size); clear zzb1
    go_wp2
    exact bodyPost_ret (v := .tuple #[.agg #[.int .i64 p, .int .i64 q, .int .i64 r, .int .i64 t], .int .i64 0]) (by simp [results, Try.results30, go_sem, kcb1_0, kfb1_0, zb1_0]) rfl ⟨rfl, (by repeat' (first | (with_reducible exact Below.refl _ _) | (with_reducible assumption) | (with_reducible refine below_drewN ?_ _) | (with_reducible refine Below.drew ?_) | (with_reducible refine Below.alloc ?_ ?_ _) | (with_reducible refine Below.setCell ?_ ?_ _) | (with_reducible refine Below.trans ?_ (Below.mono (by assumption) ?_)) | go_size))⟩
theorem FnExactNamedMatrix_w (s : ByteArray) (hs : s.size ≤ 140737488351232) (W : World) :
    Calls Try.prog 10 #[.string s] W fun e w' => e = .returned (.bool true) ∧ Below W.heap.size W w' := by
  have K1 := sNamedMatrix_c s
  have K2 := NamedMatrix_c s
  obtain ⟨p, q, r, t, c, hv⟩ : ∃ p q r t c, optM (nameOf s.toList) = .agg #[.int .i64 p, .int .i64 q, .int .i64 r, .int .i64 t] ∧ (if (nameOf s.toList).isSome then 0 else 4 : Int) = c := by
    cases nameOf s.toList with
    | none => exact ⟨_, _, _, _, _, rfl, rfl⟩
    | some m => exact ⟨_, _, _, _, _, rfl, rfl⟩
  rw [hv.1, hv.2] at K1 K2
  have HK1 := Lib.hid K1
  have HK2 := Lib.hid K2
  clear K1 K2 hv
  by_cases h : s.size ≤ 1048576
  · go_enter Try.func10, Try.ntmps10
    go_wp2_with fail
    refine (HK1.out _).mono ?_
    rintro e w1 ⟨rfl, b1⟩
    have z1 := b1.size
    go_wp2_with fail
    refine (HK2.out _).mono ?_
    rintro e w2 ⟨rfl, b2⟩
    have zzb2 := b2.size; (try simp at zzb2); have zb2_0 : w1.heap.size < w2.heap.size := (by omega); have kcb2_0 : ∀ o, w2.cell? ⟨w1.heap.size, o, none⟩ = _ := fun o => b2.cell (p := ⟨w1.heap.size, o, none⟩) (by go_size); have kfb2_0 : ∀ o, w2.frozen? ⟨w1.heap.size, o, none⟩ = _ := fun o => b2.frozen (p := ⟨w1.heap.size, o, none⟩) (by go_size); clear zzb2
    go_wp2_with fail
    refine (eqMatrix_same _ _ _ _ _).mono ?_
    rintro e w3 ⟨rfl, b3⟩
    have zzb3 := b3.size; (try simp at zzb3); clear zzb3
    go_wp2
    go_returns
    exact ⟨rfl, (by repeat' (first | (with_reducible exact Below.refl _ _) | (with_reducible assumption) | (with_reducible refine below_drewN ?_ _) | (with_reducible refine Below.drew ?_) | (with_reducible refine Below.alloc ?_ ?_ _) | (with_reducible refine Below.setCell ?_ ?_ _) | (with_reducible refine Below.trans ?_ (Below.mono (by assumption) ?_)) | go_size))⟩
  · go_enter Try.func10, Try.ntmps10
    go_wp2
    go_returns
    exact ⟨rfl, (by repeat' (first | (with_reducible exact Below.refl _ _) | (with_reducible assumption) | (with_reducible refine below_drewN ?_ _) | (with_reducible refine Below.drew ?_) | (with_reducible refine Below.alloc ?_ ?_ _) | (with_reducible refine Below.setCell ?_ ?_ _) | (with_reducible refine Below.trans ?_ (Below.mono (by assumption) ?_)) | go_size))⟩
end Go.Proofs.Yteappinpgmpicaa
