/- Matrices with names. -/
import Derived.Test.YtlkhhpckgcdeeaaGreatDoorD
namespace Go.Proofs.YtlkhhpckgcdeeaaGreatDoor
open Go.RowKit
set_option linter.unusedVariables false
set_option linter.unusedSimpArgs false
/-- the matrix with a name -/
def nameOf (l : List UInt8) : Option (Int × Int × Int × Int) :=
  if l = [83] then some (0, -1, 1, 0) else if l = [84] then some (1, 1, 0, 1) else if l = [76] then some (1, 0, 1, 1) else if l = [85] then some (1, -1, 1, 0) else if l = [73] then some (1, 0, 0, 1) else none
def optM : Option (Int × Int × Int × Int) → Value
  | some (p, q, r, s) => .agg #[.int .i64 p, .int .i64 q, .int .i64 r, .int .i64 s]
  | none => .agg #[.int .i64 0, .int .i64 0, .int .i64 0, .int .i64 0]
set_option maxHeartbeats 1000000 in
theorem named_c (s : ByteArray) (w : World) :
    Calls Tryz.prog 112 #[.string s] w fun e w' => e = .returned (.tuple #[optM (nameOf s.toList), .bool (nameOf s.toList).isSome]) ∧ Below w.heap.size w w' := by
  cases h0 : (s.toList == [83])
  case true =>
    have e : nameOf s.toList = some (0, -1, 1, 0) := by
      simp only [beq_iff_eq] at h0
      simp [nameOf, h0]
    rw [e]
    clear e
    simp only [optM, Option.isSome]
    go_enter Tryz.func112, Tryz.ntmps112
    go_wp2
    exact bodyPost_ret (v := .tuple #[.agg #[.int .i64 0, .int .i64 (-1), .int .i64 1, .int .i64 0], .bool true]) (by simp [results, Tryz.results112, go_sem]) rfl ⟨rfl, (by repeat' (first | (with_reducible exact Below.refl _ _) | (with_reducible assumption) | (with_reducible refine below_drewN ?_ _) | (with_reducible refine Below.drew ?_) | (with_reducible refine Below.alloc ?_ ?_ _) | (with_reducible refine Below.setCell ?_ ?_ _) | (with_reducible refine Below.trans ?_ (Below.mono (by with_reducible assumption) ?_)) | go_size | (dsimp only; omega)))⟩
  cases h1 : (s.toList == [84])
  case true =>
    have e : nameOf s.toList = some (1, 1, 0, 1) := by
      simp only [beq_iff_eq, beq_eq_false_iff_ne, ne_eq] at h0 h1
      simp [nameOf, h1]
    rw [e]
    clear e
    simp only [optM, Option.isSome]
    go_enter Tryz.func112, Tryz.ntmps112
    go_wp2
    exact bodyPost_ret (v := .tuple #[.agg #[.int .i64 1, .int .i64 1, .int .i64 0, .int .i64 1], .bool true]) (by simp [results, Tryz.results112, go_sem]) rfl ⟨rfl, (by repeat' (first | (with_reducible exact Below.refl _ _) | (with_reducible assumption) | (with_reducible refine below_drewN ?_ _) | (with_reducible refine Below.drew ?_) | (with_reducible refine Below.alloc ?_ ?_ _) | (with_reducible refine Below.setCell ?_ ?_ _) | (with_reducible refine Below.trans ?_ (Below.mono (by with_reducible assumption) ?_)) | go_size | (dsimp only; omega)))⟩
  cases h2 : (s.toList == [76])
  case true =>
    have e : nameOf s.toList = some (1, 0, 1, 1) := by
      simp only [beq_iff_eq, beq_eq_false_iff_ne, ne_eq] at h0 h1 h2
      simp [nameOf, h2]
    rw [e]
    clear e
    simp only [optM, Option.isSome]
    go_enter Tryz.func112, Tryz.ntmps112
    go_wp2
    exact bodyPost_ret (v := .tuple #[.agg #[.int .i64 1, .int .i64 0, .int .i64 1, .int .i64 1], .bool true]) (by simp [results, Tryz.results112, go_sem]) rfl ⟨rfl, (by repeat' (first | (with_reducible exact Below.refl _ _) | (with_reducible assumption) | (with_reducible refine below_drewN ?_ _) | (with_reducible refine Below.drew ?_) | (with_reducible refine Below.alloc ?_ ?_ _) | (with_reducible refine Below.setCell ?_ ?_ _) | (with_reducible refine Below.trans ?_ (Below.mono (by with_reducible assumption) ?_)) | go_size | (dsimp only; omega)))⟩
  cases h3 : (s.toList == [85])
  case true =>
    have e : nameOf s.toList = some (1, -1, 1, 0) := by
      simp only [beq_iff_eq, beq_eq_false_iff_ne, ne_eq] at h0 h1 h2 h3
      simp [nameOf, h3]
    rw [e]
    clear e
    simp only [optM, Option.isSome]
    go_enter Tryz.func112, Tryz.ntmps112
    go_wp2
    exact bodyPost_ret (v := .tuple #[.agg #[.int .i64 1, .int .i64 (-1), .int .i64 1, .int .i64 0], .bool true]) (by simp [results, Tryz.results112, go_sem]) rfl ⟨rfl, (by repeat' (first | (with_reducible exact Below.refl _ _) | (with_reducible assumption) | (with_reducible refine below_drewN ?_ _) | (with_reducible refine Below.drew ?_) | (with_reducible refine Below.alloc ?_ ?_ _) | (with_reducible refine Below.setCell ?_ ?_ _) | (with_reducible refine Below.trans ?_ (Below.mono (by with_reducible assumption) ?_)) | go_size | (dsimp only; omega)))⟩
  cases h4 : (s.toList == [73])
  case true =>
    have e : nameOf s.toList = some (1, 0, 0, 1) := by
      simp only [beq_iff_eq, beq_eq_false_iff_ne, ne_eq] at h0 h1 h2 h3 h4
      simp [nameOf, h4]
    rw [e]
    clear e
    simp only [optM, Option.isSome]
    go_enter Tryz.func112, Tryz.ntmps112
    go_wp2_with fail
    refine (identity_c _).mono ?_
    rintro e w1 ⟨rfl, b1⟩
    have zzb1 := b1.size; (try simp at zzb1); have zb1_0 : w.heap.size < w1.heap.size := (by omega); have kcb1_0 : ∀ o, w1.cell? ⟨w.heap.size, o, none⟩ = _ := fun o => b1.cell (p := ⟨w.heap.size, o, none⟩) (by go_size); have kfb1_0 : ∀ o, w1.frozen? ⟨w.heap.size, o, none⟩ = _ := fun o => b1.frozen (p := ⟨w.heap.size, o, none⟩) (by go_size); clear zzb1
    go_wp2
    exact bodyPost_ret (v := .tuple #[.agg #[.int .i64 1, .int .i64 0, .int .i64 0, .int .i64 1], .bool true]) (by simp [results, Tryz.results112, go_sem, kcb1_0, kfb1_0, zb1_0]) rfl ⟨rfl, (by repeat' (first | (with_reducible exact Below.refl _ _) | (with_reducible assumption) | (with_reducible refine below_drewN ?_ _) | (with_reducible refine Below.drew ?_) | (with_reducible refine Below.alloc ?_ ?_ _) | (with_reducible refine Below.setCell ?_ ?_ _) | (with_reducible refine Below.trans ?_ (Below.mono (by with_reducible assumption) ?_)) | go_size | (dsimp only; omega)))⟩
  have e : nameOf s.toList = none := by
    simp only [beq_eq_false_iff_ne, ne_eq] at h0 h1 h2 h3 h4
    simp [nameOf, h0, h1, h2, h3, h4]
  rw [e]
  clear e
  simp only [optM, Option.isSome]
  go_enter Tryz.func112, Tryz.ntmps112
  go_wp2
  exact bodyPost_ret (v := .tuple #[.agg #[.int .i64 0, .int .i64 0, .int .i64 0, .int .i64 0], .bool false]) (by simp [results, Tryz.results112, go_sem]) rfl ⟨rfl, (by repeat' (first | (with_reducible exact Below.refl _ _) | (with_reducible assumption) | (with_reducible refine below_drewN ?_ _) | (with_reducible refine Below.drew ?_) | (with_reducible refine Below.alloc ?_ ?_ _) | (with_reducible refine Below.setCell ?_ ?_ _) | (with_reducible refine Below.trans ?_ (Below.mono (by with_reducible assumption) ?_)) | go_size | (dsimp only; omega)))⟩
set_option maxHeartbeats 1000000 in
theorem l01Named_c (s : ByteArray) (w : World) :
    Calls Tryz.prog 113 #[.string s] w fun e w' => e = .returned (.tuple #[optM (nameOf s.toList), .bool (nameOf s.toList).isSome]) ∧ Below w.heap.size w w' := by
  cases h0 : (s.toList == [83])
  case true =>
    have e : nameOf s.toList = some (0, -1, 1, 0) := by
      simp only [beq_iff_eq] at h0
      simp [nameOf, h0]
    rw [e]
    clear e
    simp only [optM, Option.isSome]
    go_enter Tryz.func113, Tryz.ntmps113
    go_wp2
    exact bodyPost_ret (v := .tuple #[.agg #[.int .i64 0, .int .i64 (-1), .int .i64 1, .int .i64 0], .bool true]) (by simp [results, Tryz.results113, go_sem]) rfl ⟨rfl, (by repeat' (first | (with_reducible exact Below.refl _ _) | (with_reducible assumption) | (with_reducible refine below_drewN ?_ _) | (with_reducible refine Below.drew ?_) | (with_reducible refine Below.alloc ?_ ?_ _) | (with_reducible refine Below.setCell ?_ ?_ _) | (with_reducible refine Below.trans ?_ (Below.mono (by with_reducible assumption) ?_)) | go_size | (dsimp only; omega)))⟩
  cases h1 : (s.toList == [84])
  case true =>
    have e : nameOf s.toList = some (1, 1, 0, 1) := by
      simp only [beq_iff_eq, beq_eq_false_iff_ne, ne_eq] at h0 h1
      simp [nameOf, h1]
    rw [e]
    clear e
    simp only [optM, Option.isSome]
    go_enter Tryz.func113, Tryz.ntmps113
    go_wp2
    exact bodyPost_ret (v := .tuple #[.agg #[.int .i64 1, .int .i64 1, .int .i64 0, .int .i64 1], .bool true]) (by simp [results, Tryz.results113, go_sem]) rfl ⟨rfl, (by repeat' (first | (with_reducible exact Below.refl _ _) | (with_reducible assumption) | (with_reducible refine below_drewN ?_ _) | (with_reducible refine Below.drew ?_) | (with_reducible refine Below.alloc ?_ ?_ _) | (with_reducible refine Below.setCell ?_ ?_ _) | (with_reducible refine Below.trans ?_ (Below.mono (by with_reducible assumption) ?_)) | go_size | (dsimp only; omega)))⟩
  cases h2 : (s.toList == [76])
  case true =>
    have e : nameOf s.toList = some (1, 0, 1, 1) := by
      simp only [beq_iff_eq, beq_eq_false_iff_ne, ne_eq] at h0 h1 h2
      simp [nameOf, h2]
    rw [e]
    clear e
    simp only [optM, Option.isSome]
    go_enter Tryz.func113, Tryz.ntmps113
    go_wp2
    exact bodyPost_ret (v := .tuple #[.agg #[.int .i64 1, .int .i64 0, .int .i64 1, .int .i64 1], .bool true]) (by simp [results, Tryz.results113, go_sem]) rfl ⟨rfl, (by repeat' (first | (with_reducible exact Below.refl _ _) | (with_reducible assumption) | (with_reducible refine below_drewN ?_ _) | (with_reducible refine Below.drew ?_) | (with_reducible refine Below.alloc ?_ ?_ _) | (with_reducible refine Below.setCell ?_ ?_ _) | (with_reducible refine Below.trans ?_ (Below.mono (by with_reducible assumption) ?_)) | go_size | (dsimp only; omega)))⟩
  cases h3 : (s.toList == [85])
  case true =>
    have e : nameOf s.toList = some (1, -1, 1, 0) := by
      simp only [beq_iff_eq, beq_eq_false_iff_ne, ne_eq] at h0 h1 h2 h3
      simp [nameOf, h3]
    rw [e]
    clear e
    simp only [optM, Option.isSome]
    go_enter Tryz.func113, Tryz.ntmps113
    go_wp2
    exact bodyPost_ret (v := .tuple #[.agg #[.int .i64 1, .int .i64 (-1), .int .i64 1, .int .i64 0], .bool true]) (by simp [results, Tryz.results113, go_sem]) rfl ⟨rfl, (by repeat' (first | (with_reducible exact Below.refl _ _) | (with_reducible assumption) | (with_reducible refine below_drewN ?_ _) | (with_reducible refine Below.drew ?_) | (with_reducible refine Below.alloc ?_ ?_ _) | (with_reducible refine Below.setCell ?_ ?_ _) | (with_reducible refine Below.trans ?_ (Below.mono (by with_reducible assumption) ?_)) | go_size | (dsimp only; omega)))⟩
  cases h4 : (s.toList == [73])
  case true =>
    have e : nameOf s.toList = some (1, 0, 0, 1) := by
      simp only [beq_iff_eq, beq_eq_false_iff_ne, ne_eq] at h0 h1 h2 h3 h4
      simp [nameOf, h4]
    rw [e]
    clear e
    simp only [optM, Option.isSome]
    go_enter Tryz.func113, Tryz.ntmps113
    go_wp2
    exact bodyPost_ret (v := .tuple #[.agg #[.int .i64 1, .int .i64 0, .int .i64 0, .int .i64 1], .bool true]) (by simp [results, Tryz.results113, go_sem]) rfl ⟨rfl, (by repeat' (first | (with_reducible exact Below.refl _ _) | (with_reducible assumption) | (with_reducible refine below_drewN ?_ _) | (with_reducible refine Below.drew ?_) | (with_reducible refine Below.alloc ?_ ?_ _) | (with_reducible refine Below.setCell ?_ ?_ _) | (with_reducible refine Below.trans ?_ (Below.mono (by with_reducible assumption) ?_)) | go_size | (dsimp only; omega)))⟩
  have e : nameOf s.toList = none := by
    simp only [beq_eq_false_iff_ne, ne_eq] at h0 h1 h2 h3 h4
    simp [nameOf, h0, h1, h2, h3, h4]
  rw [e]
  clear e
  simp only [optM, Option.isSome]
  go_enter Tryz.func113, Tryz.ntmps113
  go_wp2
  exact bodyPost_ret (v := .tuple #[.agg #[.int .i64 0, .int .i64 0, .int .i64 0, .int .i64 0], .bool false]) (by simp [results, Tryz.results113, go_sem]) rfl ⟨rfl, (by repeat' (first | (with_reducible exact Below.refl _ _) | (with_reducible assumption) | (with_reducible refine below_drewN ?_ _) | (with_reducible refine Below.drew ?_) | (with_reducible refine Below.alloc ?_ ?_ _) | (with_reducible refine Below.setCell ?_ ?_ _) | (with_reducible refine Below.trans ?_ (Below.mono (by with_reducible assumption) ?_)) | go_size | (dsimp only; omega)))⟩
set_option maxHeartbeats 4000000 in
theorem NamedMatrix_c (s : ByteArray) (w : World) :
    Calls Tryz.prog 61 #[.string s] w fun e w' => e = .returned (.tuple #[optM (nameOf s.toList), .int .i64 (if (nameOf s.toList).isSome then 0 else 4)]) ∧ Below w.heap.size w w' := by
  have K := named_c s
  cases h : nameOf s.toList with
  | none =>
    rw [h] at K
    simp only [optM, Option.isSome] at K
    have HK := Lib.hid K
    clear K h
    simp only [optM, Option.isSome]
    go_enter Tryz.func61, Tryz.ntmps61
    go_wp2_with fail
    refine (HK.out _).mono ?_
    rintro e w1 ⟨rfl, b1⟩
    have zzb1 := b1.size; (try simp at zzb1); have zb1_0 : w.heap.size < w1.heap.size := (by omega); have kcb1_0 : ∀ o, w1.cell? ⟨w.heap.size, o, none⟩ = _ := fun o => b1.cell (p := ⟨w.heap.size, o, none⟩) (by go_size); have kfb1_0 : ∀ o, w1.frozen? ⟨w.heap.size, o, none⟩ = _ := fun o => b1.frozen (p := ⟨w.heap.size, o, none⟩) (by go_size); clear zzb1
    go_wp2
    exact bodyPost_ret (v := .tuple #[.agg #[.int .i64 0, .int .i64 0, .int .i64 0, .int .i64 0], .int .i64 4]) (by simp [results, Tryz.results61, go_sem, kcb1_0, kfb1_0, zb1_0]) rfl ⟨rfl, (by repeat' (first | (with_reducible exact Below.refl _ _) | (with_reducible assumption) | (with_reducible refine below_drewN ?_ _) | (with_reducible refine Below.drew ?_) | (with_reducible refine Below.alloc ?_ ?_ _) | (with_reducible refine Below.setCell ?_ ?_ _) | (with_reducible refine Below.trans ?_ (Below.mono (by with_reducible assumption) ?_)) | go_size | (dsimp only; omega)))⟩
  | some m =>
    obtain ⟨p, q, r, t⟩ := m
    rw [h] at K
    simp only [optM, Option.isSome] at K
    have HK := Lib.hid K
    clear K h
    simp only [optM, Option.isSome]
    go_enter Tryz.func61, Tryz.ntmps61
    go_wp2_with fail
    refine (HK.out _).mono ?_
    rintro e w1 ⟨rfl, b1⟩
    have zzb1 := b1.size; (try simp at zzb1); have zb1_0 : w.heap.size < w1.heap.size := (by omega); have kcb1_0 : ∀ o, w1.cell? ⟨w.heap.size, o, none⟩ = _ := fun o => b1.cell (p := ⟨w.heap.size, o, none⟩) (by go_size); have kfb1_0 : ∀ o, w1.frozen? ⟨w.heap.size, o, none⟩ = _ := fun o => b1.frozen (p := ⟨w.heap.size, o, none⟩) (by go_size); clear zzb1
    go_wp2
    exact bodyPost_ret (v := .tuple #[.agg #[.int .i64 p, .int .i64 q, .int .i64 r, .int .i64 t], .int .i64 0]) (by simp [results, Tryz.results61, go_sem, kcb1_0, kfb1_0, zb1_0]) rfl ⟨rfl, (by repeat' (first | (with_reducible exact Below.refl _ _) | (with_reducible assumption) | (with_reducible refine below_drewN ?_ _) | (with_reducible refine Below.drew ?_) | (with_reducible refine Below.alloc ?_ ?_ _) | (with_reducible refine Below.setCell ?_ ?_ _) | (with_reducible refine Below.trans ?_ (Below.mono (by with_reducible assumption) ?_)) | go_size | (dsimp only; omega)))⟩
set_option maxHeartbeats 4000000 in
theorem sNamedMatrix_c (s : ByteArray) (w : World) :
    Calls Tryz.prog 62 #[.string s] w fun e w' => e = .returned (.tuple #[optM (nameOf s.toList), .int .i64 (if (nameOf s.toList).isSome then 0 else 4)]) ∧ Below w.heap.size w w' := by
  have K := l01Named_c s
  cases h : nameOf s.toList with
  | none =>
    rw [h] at K
    simp only [optM, Option.isSome] at K
    have HK := Lib.hid K
    clear K h
    simp only [optM, Option.isSome]
    go_enter Tryz.func62, Tryz.ntmps62
    go_wp2_with fail
    refine (HK.out _).mono ?_
    rintro e w1 ⟨rfl, b1⟩
    have zzb1 := b1.size; (try simp at zzb1); have zb1_0 : w.heap.size < w1.heap.size := (by omega); have kcb1_0 : ∀ o, w1.cell? ⟨w.heap.size, o, none⟩ = _ := fun o => b1.cell (p := ⟨w.heap.size, o, none⟩) (by go_size); have kfb1_0 : ∀ o, w1.frozen? ⟨w.heap.size, o, none⟩ = _ := fun o => b1.frozen (p := ⟨w.heap.size, o, none⟩) (by go_size); clear zzb1
    go_wp2
    exact bodyPost_ret (v := .tuple #[.agg #[.int .i64 0, .int .i64 0, .int .i64 0, .int .i64 0], .int .i64 4]) (by simp [results, Tryz.results62, go_sem, kcb1_0, kfb1_0, zb1_0]) rfl ⟨rfl, (by repeat' (first | (with_reducible exact Below.refl _ _) | (with_reducible assumption) | (with_reducible refine below_drewN ?_ _) | (with_reducible refine Below.drew ?_) | (with_reducible refine Below.alloc ?_ ?_ _) | (with_reducible refine Below.setCell ?_ ?_ _) | (with_reducible refine Below.trans ?_ (Below.mono (by with_reducible assumption) ?_)) | go_size | (dsimp only; omega)))⟩
  | some m =>
    obtain ⟨p, q, r, t⟩ := m
    rw [h] at K
    simp only [optM, Option.isSome] at K
    have HK := Lib.hid K
    clear K h
    simp only [optM, Option.isSome]
    go_enter Tryz.func62, Tryz.ntmps62
    go_wp2_with fail
    refine (HK.out _).mono ?_
    rintro e w1 ⟨rfl, b1⟩
    have zzb1 := b1.size; (try simp at zzb1); have zb1_0 : w.heap.size < w1.heap.size := (by omega); have kcb1_0 : ∀ o, w1.cell? ⟨w.heap.size, o, none⟩ = _ := fun o => b1.cell (p := ⟨w.heap.size, o, none⟩) (by go_size); have kfb1_0 : ∀ o, w1.frozen? ⟨w.heap.size, o, none⟩ = _ := fun o => b1.frozen (p := ⟨w.heap.size, o, none⟩) (by go_size); clear zzb1
    go_wp2
    exact bodyPost_ret (v := .tuple #[.agg #[.int .i64 p, .int .i64 q, .int .i64 r, .int .i64 t], .int .i64 0]) (by simp [results, Tryz.results62, go_sem, kcb1_0, kfb1_0, zb1_0]) rfl ⟨rfl, (by repeat' (first | (with_reducible exact Below.refl _ _) | (with_reducible assumption) | (with_reducible refine below_drewN ?_ _) | (with_reducible refine Below.drew ?_) | (with_reducible refine Below.alloc ?_ ?_ _) | (with_reducible refine Below.setCell ?_ ?_ _) | (with_reducible refine Below.trans ?_ (Below.mono (by with_reducible assumption) ?_)) | go_size | (dsimp only; omega)))⟩
end Go.Proofs.YtlkhhpckgcdeeaaGreatDoor
