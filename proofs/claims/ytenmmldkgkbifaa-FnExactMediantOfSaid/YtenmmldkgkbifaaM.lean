/- The mediant. -/
import Derived.Test.YtenmmldkgkbifaaH
import Derived.Test.YtenmmldkgkbifaaW
import Derived.Deep.DeepCutAuto
namespace Go.Proofs.Ytenmmldkgkbifaa
open Go.RowKit
set_option linter.unusedVariables false
set_option linter.unusedSimpArgs false
attribute [local go_sem] run_min_int4 run_max_int4
attribute [local go_sem] run_equalIn_M
attribute [local go_sem] run_equalIn_Q
theorem sum_nz {p q p' q' : Int} (h1 : isF p q = true) (h2 : isF p' q' = true) : ¬ (p + p' = 0 ∧ q + q' = 0) := by
  obtain ⟨a1, a2, -, a4⟩ := isF_iff.mp h1
  obtain ⟨b1, b2, -, b4⟩ := isF_iff.mp h2
  omega
set_option maxHeartbeats 1000000 in
theorem mediant_no (p q p' q' : Int) (w : World) (h1 : isF p q = true) (h2 : isF p' q' = true) (he : (ent (redP (p + p') (q + q')) && ent (redQ (p + p') (q + q'))) = false) :
    Calls Try.prog 80 #[.agg #[.int .i64 p, .int .i64 q], .agg #[.int .i64 p', .int .i64 q']] w fun e w' => e = .returned (.tuple #[.agg #[.int .i64 0, .int .i64 0], .int .i64 3]) ∧ Below w.heap.size w w' := by
  have hz := sum_nz h1 h2
  obtain ⟨⟨a0, a1⟩, a2, a3, -⟩ := isF_bd h1
  obtain ⟨⟨b0, b1⟩, b2, b3, -⟩ := isF_bd h2
  have HE := Lib.hid he
  have HZ := Lib.hid hz
  clear h1 h2 he hz
  go_enter Try.func80, Try.ntmps80
  go_wp2_with fail
  refine (fraction_no (p + p') (q + q') _ (by omega) (by omega) (by omega) (by omega) HZ.out HE.out).mono ?_
  rintro e w1 ⟨rfl, b1⟩
  have zzb1 := b1.size; (try simp at zzb1); have zb1_0 : w.heap.size < w1.heap.size := (by omega); have kcb1_0 : ∀ o, w1.cell? ⟨w.heap.size, o, none⟩ = _ := fun o => b1.cell (p := ⟨w.heap.size, o, none⟩) (by go_size); have kfb1_0 : ∀ o, w1.frozen? ⟨w.heap.size, o, none⟩ = _ := fun o => b1.frozen (p := ⟨w.heap.size, o, none⟩) (by go_size); have zb1_1 : w.heap.size + 1 < w1.heap.size := (by omega); have kcb1_1 : ∀ o, w1.cell? ⟨w.heap.size + 1, o, none⟩ = _ := fun o => b1.cell (p := ⟨w.heap.size + 1, o, none⟩) (by go_size); have kfb1_1 : ∀ o, w1.frozen? ⟨w.heap.size + 1, o, none⟩ = _ := fun o => b1.frozen (p := ⟨w.heap.size + 1, o, none⟩) (by go_size); have zb1_2 : w.heap.size + 2 < w1.heap.size := (by omega); have kcb1_2 : ∀ o, w1.cell? ⟨w.heap.size + 2, o, none⟩ = _ := fun o => b1.cell (p := ⟨w.heap.size + 2, o, none⟩) (by go_size); have kfb1_2 : ∀ o, w1.frozen? ⟨w.heap.size + 2, o, none⟩ = _ := fun o => b1.frozen (p := ⟨w.heap.size + 2, o, none⟩) (by go_size); clear zzb1
  go_wp2
  exact bodyPost_ret (v := .tuple #[.agg #[.int .i64 0, .int .i64 0], .int .i64 3]) (by simp only [results, Try.results80]; go_simp) rfl ⟨rfl, (by repeat' (first | (with_reducible exact Below.refl _ _) | (with_reducible assumption) | (with_reducible refine below_drewN ?_ _) | (with_reducible refine Below.drew ?_) | (with_reducible refine Below.alloc ?_ ?_ _) | (with_reducible refine Below.setCell ?_ ?_ _) | (with_reducible refine Below.trans ?_ (Below.mono (by with_reducible assumption) ?_)) | go_size | (dsimp only; omega)))⟩
set_option maxHeartbeats 1000000 in
theorem mediant_yes (p q p' q' : Int) (w : World) (h1 : isF p q = true) (h2 : isF p' q' = true) (he : (ent (redP (p + p') (q + q')) && ent (redQ (p + p') (q + q'))) = true) :
    Calls Try.prog 80 #[.agg #[.int .i64 p, .int .i64 q], .agg #[.int .i64 p', .int .i64 q']] w fun e w' => e = .returned (.tuple #[.agg #[.int .i64 (redP (p + p') (q + q')), .int .i64 (redQ (p + p') (q + q'))], .int .i64 0]) ∧ Below w.heap.size w w' := by
  have hz := sum_nz h1 h2
  obtain ⟨⟨a0, a1⟩, a2, a3, -⟩ := isF_bd h1
  obtain ⟨⟨b0, b1⟩, b2, b3, -⟩ := isF_bd h2
  have HE := Lib.hid he
  have HZ := Lib.hid hz
  clear h1 h2 he hz
  go_enter Try.func80, Try.ntmps80
  go_wp2_with fail
  refine (fraction_yes (p + p') (q + q') _ (by omega) (by omega) (by omega) (by omega) HZ.out HE.out).mono ?_
  rintro e w1 ⟨rfl, b1⟩
  have zzb1 := b1.size; (try simp at zzb1); have zb1_0 : w.heap.size < w1.heap.size := (by omega); have kcb1_0 : ∀ o, w1.cell? ⟨w.heap.size, o, none⟩ = _ := fun o => b1.cell (p := ⟨w.heap.size, o, none⟩) (by go_size); have kfb1_0 : ∀ o, w1.frozen? ⟨w.heap.size, o, none⟩ = _ := fun o => b1.frozen (p := ⟨w.heap.size, o, none⟩) (by go_size); have zb1_1 : w.heap.size + 1 < w1.heap.size := (by omega); have kcb1_1 : ∀ o, w1.cell? ⟨w.heap.size + 1, o, none⟩ = _ := fun o => b1.cell (p := ⟨w.heap.size + 1, o, none⟩) (by go_size); have kfb1_1 : ∀ o, w1.frozen? ⟨w.heap.size + 1, o, none⟩ = _ := fun o => b1.frozen (p := ⟨w.heap.size + 1, o, none⟩) (by go_size); have zb1_2 : w.heap.size + 2 < w1.heap.size := (by omega); have kcb1_2 : ∀ o, w1.cell? ⟨w.heap.size + 2, o, none⟩ = _ := fun o => b1.cell (p := ⟨w.heap.size + 2, o, none⟩) (by go_size); have kfb1_2 : ∀ o, w1.frozen? ⟨w.heap.size + 2, o, none⟩ = _ := fun o => b1.frozen (p := ⟨w.heap.size + 2, o, none⟩) (by go_size); clear zzb1
  go_wp2
  exact bodyPost_ret (v := .tuple #[.agg #[.int .i64 (redP (p + p') (q + q')), .int .i64 (redQ (p + p') (q + q'))], .int .i64 0]) (by simp only [results, Try.results80]; go_simp) rfl ⟨rfl, (by repeat' (first | (with_reducible exact Below.refl _ _) | (with_reducible assumption) | (with_reducible refine below_drewN ?_ _) | (with_reducible refine Below.drew ?_) | (with_reducible refine Below.alloc ?_ ?_ _) | (with_reducible refine Below.setCell ?_ ?_ _) | (with_reducible refine Below.trans ?_ (Below.mono (by with_reducible assumption) ?_)) | go_size | (dsimp only; omega)))⟩
theorem MediantOf_no (p q p' q' : Int) (w : World) (h : (isF p q && isF p' q') = false) :
    Calls Try.prog 51 #[.agg #[.int .i64 p, .int .i64 q], .agg #[.int .i64 p', .int .i64 q']] w fun e w' => e = .returned (.tuple #[.agg #[.int .i64 0, .int .i64 0], .int .i64 1]) ∧ Below w.heap.size w w' := by
  have H := Lib.hid h
  clear h
  go_enter Try.func51, Try.ntmps51
  go_wp2_with fail
  refine (areFractions_2 _ p q p' q' _ (by go_cell) (by go_cell) (by go_cell) (by go_cell)).mono ?_
  rintro e w1 ⟨rfl, b1⟩
  rw [H.out]
  have zzb1 := b1.size; (try simp at zzb1); have zb1_0 : w.heap.size < w1.heap.size := (by omega); have kcb1_0 : ∀ o, w1.cell? ⟨w.heap.size, o, none⟩ = _ := fun o => b1.cell (p := ⟨w.heap.size, o, none⟩) (by go_size); have kfb1_0 : ∀ o, w1.frozen? ⟨w.heap.size, o, none⟩ = _ := fun o => b1.frozen (p := ⟨w.heap.size, o, none⟩) (by go_size); have zb1_1 : w.heap.size + 1 < w1.heap.size := (by omega); have kcb1_1 : ∀ o, w1.cell? ⟨w.heap.size + 1, o, none⟩ = _ := fun o => b1.cell (p := ⟨w.heap.size + 1, o, none⟩) (by go_size); have kfb1_1 : ∀ o, w1.frozen? ⟨w.heap.size + 1, o, none⟩ = _ := fun o => b1.frozen (p := ⟨w.heap.size + 1, o, none⟩) (by go_size); have zb1_2 : w.heap.size + 2 < w1.heap.size := (by omega); have kcb1_2 : ∀ o, w1.cell? ⟨w.heap.size + 2, o, none⟩ = _ := fun o => b1.cell (p := ⟨w.heap.size + 2, o, none⟩) (by go_size); have kfb1_2 : ∀ o, w1.frozen? ⟨w.heap.size + 2, o, none⟩ = _ := fun o => b1.frozen (p := ⟨w.heap.size + 2, o, none⟩) (by go_size); clear zzb1
  go_wp2
  exact bodyPost_ret (v := .tuple #[.agg #[.int .i64 0, .int .i64 0], .int .i64 1]) (by simp only [results, Try.results51]; go_simp) rfl ⟨rfl, (by repeat' (first | (with_reducible exact Below.refl _ _) | (with_reducible assumption) | (with_reducible refine below_drewN ?_ _) | (with_reducible refine Below.drew ?_) | (with_reducible refine Below.alloc ?_ ?_ _) | (with_reducible refine Below.setCell ?_ ?_ _) | (with_reducible refine Below.trans ?_ (Below.mono (by with_reducible assumption) ?_)) | go_size | (dsimp only; omega)))⟩
theorem MediantOf_limit (p q p' q' : Int) (w : World) (h : (isF p q && isF p' q') = true) (he : (ent (redP (p + p') (q + q')) && ent (redQ (p + p') (q + q'))) = false) :
    Calls Try.prog 51 #[.agg #[.int .i64 p, .int .i64 q], .agg #[.int .i64 p', .int .i64 q']] w fun e w' => e = .returned (.tuple #[.agg #[.int .i64 0, .int .i64 0], .int .i64 3]) ∧ Below w.heap.size w w' := by
  have h' := h
  rw [Bool.and_eq_true] at h'
  have H := Lib.hid h
  have H' := Lib.hid h'
  have HE := Lib.hid he
  clear h h' he
  go_enter Try.func51, Try.ntmps51
  go_wp2_with fail
  refine (areFractions_2 _ p q p' q' _ (by go_cell) (by go_cell) (by go_cell) (by go_cell)).mono ?_
  rintro e w1 ⟨rfl, b1⟩
  rw [H.out]
  have zzb1 := b1.size; (try simp at zzb1); have zb1_0 : w.heap.size < w1.heap.size := (by omega); have kcb1_0 : ∀ o, w1.cell? ⟨w.heap.size, o, none⟩ = _ := fun o => b1.cell (p := ⟨w.heap.size, o, none⟩) (by go_size); have kfb1_0 : ∀ o, w1.frozen? ⟨w.heap.size, o, none⟩ = _ := fun o => b1.frozen (p := ⟨w.heap.size, o, none⟩) (by go_size); have zb1_1 : w.heap.size + 1 < w1.heap.size := (by omega); have kcb1_1 : ∀ o, w1.cell? ⟨w.heap.size + 1, o, none⟩ = _ := fun o => b1.cell (p := ⟨w.heap.size + 1, o, none⟩) (by go_size); have kfb1_1 : ∀ o, w1.frozen? ⟨w.heap.size + 1, o, none⟩ = _ := fun o => b1.frozen (p := ⟨w.heap.size + 1, o, none⟩) (by go_size); have zb1_2 : w.heap.size + 2 < w1.heap.size := (by omega); have kcb1_2 : ∀ o, w1.cell? ⟨w.heap.size + 2, o, none⟩ = _ := fun o => b1.cell (p := ⟨w.heap.size + 2, o, none⟩) (by go_size); have kfb1_2 : ∀ o, w1.frozen? ⟨w.heap.size + 2, o, none⟩ = _ := fun o => b1.frozen (p := ⟨w.heap.size + 2, o, none⟩) (by go_size); clear zzb1
  go_wp2_with fail
  refine (mediant_no p q p' q' _ H'.out.1 H'.out.2 HE.out).mono ?_
  rintro e w2 ⟨rfl, b2⟩
  have zzb2 := b2.size; (try simp at zzb2); have zb2_0 : w.heap.size < w2.heap.size := (by omega); have kcb2_0 : ∀ o, w2.cell? ⟨w.heap.size, o, none⟩ = _ := fun o => b2.cell (p := ⟨w.heap.size, o, none⟩) (by go_size); have kfb2_0 : ∀ o, w2.frozen? ⟨w.heap.size, o, none⟩ = _ := fun o => b2.frozen (p := ⟨w.heap.size, o, none⟩) (by go_size); have zb2_1 : w.heap.size + 1 < w2.heap.size := (by omega); have kcb2_1 : ∀ o, w2.cell? ⟨w.heap.size + 1, o, none⟩ = _ := fun o => b2.cell (p := ⟨w.heap.size + 1, o, none⟩) (by go_size); have kfb2_1 : ∀ o, w2.frozen? ⟨w.heap.size + 1, o, none⟩ = _ := fun o => b2.frozen (p := ⟨w.heap.size + 1, o, none⟩) (by go_size); have zb2_2 : w.heap.size + 2 < w2.heap.size := (by omega); have kcb2_2 : ∀ o, w2.cell? ⟨w.heap.size + 2, o, none⟩ = _ := fun o => b2.cell (p := ⟨w.heap.size + 2, o, none⟩) (by go_size); have kfb2_2 : ∀ o, w2.frozen? ⟨w.heap.size + 2, o, none⟩ = _ := fun o => b2.frozen (p := ⟨w.heap.size + 2, o, none⟩) (by go_size); clear zzb2
  go_wp2
  exact bodyPost_ret (v := .tuple #[.agg #[.int .i64 0, .int .i64 0], .int .i64 3]) (by simp only [results, Try.results51]; go_simp) rfl ⟨rfl, (by repeat' (first | (with_reducible exact Below.refl _ _) | (with_reducible assumption) | (with_reducible refine below_drewN ?_ _) | (with_reducible refine Below.drew ?_) | (with_reducible refine Below.alloc ?_ ?_ _) | (with_reducible refine Below.setCell ?_ ?_ _) | (with_reducible refine Below.trans ?_ (Below.mono (by with_reducible assumption) ?_)) | go_size | (dsimp only; omega)))⟩
theorem MediantOf_yes (p q p' q' : Int) (w : World) (h : (isF p q && isF p' q') = true) (he : (ent (redP (p + p') (q + q')) && ent (redQ (p + p') (q + q'))) = true) :
    Calls Try.prog 51 #[.agg #[.int .i64 p, .int .i64 q], .agg #[.int .i64 p', .int .i64 q']] w fun e w' => e = .returned (.tuple #[.agg #[.int .i64 (redP (p + p') (q + q')), .int .i64 (redQ (p + p') (q + q'))], .int .i64 0]) ∧ Below w.heap.size w w' := by
  have h' := h
  rw [Bool.and_eq_true] at h'
  have H := Lib.hid h
  have H' := Lib.hid h'
  have HE := Lib.hid he
  clear h h' he
  go_enter Try.func51, Try.ntmps51
  go_wp2_with fail
  refine (areFractions_2 _ p q p' q' _ (by go_cell) (by go_cell) (by go_cell) (by go_cell)).mono ?_
  rintro e w1 ⟨rfl, b1⟩
  rw [H.out]
  have zzb1 := b1.size; (try simp at zzb1); have zb1_0 : w.heap.size < w1.heap.size := (by omega); have kcb1_0 : ∀ o, w1.cell? ⟨w.heap.size, o, none⟩ = _ := fun o => b1.cell (p := ⟨w.heap.size, o, none⟩) (by go_size); have kfb1_0 : ∀ o, w1.frozen? ⟨w.heap.size, o, none⟩ = _ := fun o => b1.frozen (p := ⟨w.heap.size, o, none⟩) (by go_size); have zb1_1 : w.heap.size + 1 < w1.heap.size := (by omega); have kcb1_1 : ∀ o, w1.cell? ⟨w.heap.size + 1, o, none⟩ = _ := fun o => b1.cell (p := ⟨w.heap.size + 1, o, none⟩) (by go_size); have kfb1_1 : ∀ o, w1.frozen? ⟨w.heap.size + 1, o, none⟩ = _ := fun o => b1.frozen (p := ⟨w.heap.size + 1, o, none⟩) (by go_size); have zb1_2 : w.heap.size + 2 < w1.heap.size := (by omega); have kcb1_2 : ∀ o, w1.cell? ⟨w.heap.size + 2, o, none⟩ = _ := fun o => b1.cell (p := ⟨w.heap.size + 2, o, none⟩) (by go_size); have kfb1_2 : ∀ o, w1.frozen? ⟨w.heap.size + 2, o, none⟩ = _ := fun o => b1.frozen (p := ⟨w.heap.size + 2, o, none⟩) (by go_size); clear zzb1
  go_wp2_with fail
  refine (mediant_yes p q p' q' _ H'.out.1 H'.out.2 HE.out).mono ?_
  rintro e w2 ⟨rfl, b2⟩
  have zzb2 := b2.size; (try simp at zzb2); have zb2_0 : w.heap.size < w2.heap.size := (by omega); have kcb2_0 : ∀ o, w2.cell? ⟨w.heap.size, o, none⟩ = _ := fun o => b2.cell (p := ⟨w.heap.size, o, none⟩) (by go_size); have kfb2_0 : ∀ o, w2.frozen? ⟨w.heap.size, o, none⟩ = _ := fun o => b2.frozen (p := ⟨w.heap.size, o, none⟩) (by go_size); have zb2_1 : w.heap.size + 1 < w2.heap.size := (by omega); have kcb2_1 : ∀ o, w2.cell? ⟨w.heap.size + 1, o, none⟩ = _ := fun o => b2.cell (p := ⟨w.heap.size + 1, o, none⟩) (by go_size); have kfb2_1 : ∀ o, w2.frozen? ⟨w.heap.size + 1, o, none⟩ = _ := fun o => b2.frozen (p := ⟨w.heap.size + 1, o, none⟩) (by go_size); have zb2_2 : w.heap.size + 2 < w2.heap.size := (by omega); have kcb2_2 : ∀ o, w2.cell? ⟨w.heap.size + 2, o, none⟩ = _ := fun o => b2.cell (p := ⟨w.heap.size + 2, o, none⟩) (by go_size); have kfb2_2 : ∀ o, w2.frozen? ⟨w.heap.size + 2, o, none⟩ = _ := fun o => b2.frozen (p := ⟨w.heap.size + 2, o, none⟩) (by go_size); clear zzb2
  go_wp2
  exact bodyPost_ret (v := .tuple #[.agg #[.int .i64 (redP (p + p') (q + q')), .int .i64 (redQ (p + p') (q + q'))], .int .i64 0]) (by simp only [results, Try.results51]; go_simp) rfl ⟨rfl, (by repeat' (first | (with_reducible exact Below.refl _ _) | (with_reducible assumption) | (with_reducible refine below_drewN ?_ _) | (with_reducible refine Below.drew ?_) | (with_reducible refine Below.alloc ?_ ?_ _) | (with_reducible refine Below.setCell ?_ ?_ _) | (with_reducible refine Below.trans ?_ (Below.mono (by with_reducible assumption) ?_)) | go_size | (dsimp only; omega)))⟩
theorem l03Mediant_c (p q p' q' : Int) (w : World) (h1 : isF p q = true) (h2 : isF p' q' = true) :
    Calls Try.prog 78 #[.agg #[.int .i64 p, .int .i64 q], .agg #[.int .i64 p', .int .i64 q']] w fun e w' => e = .returned (.agg #[.int .i64 (redP (p + p') (q + q')), .int .i64 (redQ (p + p') (q + q'))]) ∧ Below w.heap.size w w' := by
  have hz := sum_nz h1 h2
  obtain ⟨⟨a0, a1⟩, a2, a3, -⟩ := isF_bd h1
  obtain ⟨⟨b0, b1⟩, b2, b3, -⟩ := isF_bd h2
  have HZ := Lib.hid hz
  clear h1 h2 hz
  go_enter Try.func78, Try.ntmps78
  go_wp2_with fail
  refine (l01Reduced_c (p + p') (q + q') _ (by omega) (by omega) (by omega) (by omega) HZ.out).mono ?_
  rintro e w1 ⟨rfl, b1⟩
  have zzb1 := b1.size; (try simp at zzb1); have zb1_0 : w.heap.size < w1.heap.size := (by omega); have kcb1_0 : ∀ o, w1.cell? ⟨w.heap.size, o, none⟩ = _ := fun o => b1.cell (p := ⟨w.heap.size, o, none⟩) (by go_size); have kfb1_0 : ∀ o, w1.frozen? ⟨w.heap.size, o, none⟩ = _ := fun o => b1.frozen (p := ⟨w.heap.size, o, none⟩) (by go_size); have zb1_1 : w.heap.size + 1 < w1.heap.size := (by omega); have kcb1_1 : ∀ o, w1.cell? ⟨w.heap.size + 1, o, none⟩ = _ := fun o => b1.cell (p := ⟨w.heap.size + 1, o, none⟩) (by go_size); have kfb1_1 : ∀ o, w1.frozen? ⟨w.heap.size + 1, o, none⟩ = _ := fun o => b1.frozen (p := ⟨w.heap.size + 1, o, none⟩) (by go_size); have zb1_2 : w.heap.size + 2 < w1.heap.size := (by omega); have kcb1_2 : ∀ o, w1.cell? ⟨w.heap.size + 2, o, none⟩ = _ := fun o => b1.cell (p := ⟨w.heap.size + 2, o, none⟩) (by go_size); have kfb1_2 : ∀ o, w1.frozen? ⟨w.heap.size + 2, o, none⟩ = _ := fun o => b1.frozen (p := ⟨w.heap.size + 2, o, none⟩) (by go_size); clear zzb1
  go_wp2
  exact bodyPost_ret (v := .agg #[.int .i64 (redP (p + p') (q + q')), .int .i64 (redQ (p + p') (q + q'))]) (by simp only [results, Try.results78]; go_simp) rfl ⟨rfl, (by repeat' (first | (with_reducible exact Below.refl _ _) | (with_reducible assumption) | (with_reducible refine below_drewN ?_ _) | (with_reducible refine Below.drew ?_) | (with_reducible refine Below.alloc ?_ ?_ _) | (with_reducible refine Below.setCell ?_ ?_ _) | (with_reducible refine Below.trans ?_ (Below.mono (by with_reducible assumption) ?_)) | go_size | (dsimp only; omega)))⟩
theorem sMediantOf_no (p q p' q' : Int) (w : World) (h : (isF p q && isF p' q') = false) :
    Calls Try.prog 50 #[.agg #[.int .i64 p, .int .i64 q], .agg #[.int .i64 p', .int .i64 q']] w fun e w' => e = .returned (.tuple #[.agg #[.int .i64 0, .int .i64 0], .int .i64 1]) ∧ Below w.heap.size w w' := by
  have hx : (if (isF p q && isF p' q') = true then (0 : Int) else 1) = 1 := by rw [h]; rfl
  have H := Lib.hid hx
  clear h hx
  go_enter Try.func50, Try.ntmps50
  go_wp2_with fail
  refine (l03Both_c _ _ _ _ _).mono ?_
  rintro e w1 ⟨rfl, b1⟩
  rw [H.out]
  have zzb1 := b1.size; (try simp at zzb1); have zb1_0 : w.heap.size < w1.heap.size := (by omega); have kcb1_0 : ∀ o, w1.cell? ⟨w.heap.size, o, none⟩ = _ := fun o => b1.cell (p := ⟨w.heap.size, o, none⟩) (by go_size); have kfb1_0 : ∀ o, w1.frozen? ⟨w.heap.size, o, none⟩ = _ := fun o => b1.frozen (p := ⟨w.heap.size, o, none⟩) (by go_size); have zb1_1 : w.heap.size + 1 < w1.heap.size := (by omega); have kcb1_1 : ∀ o, w1.cell? ⟨w.heap.size + 1, o, none⟩ = _ := fun o => b1.cell (p := ⟨w.heap.size + 1, o, none⟩) (by go_size); have kfb1_1 : ∀ o, w1.frozen? ⟨w.heap.size + 1, o, none⟩ = _ := fun o => b1.frozen (p := ⟨w.heap.size + 1, o, none⟩) (by go_size); have zb1_2 : w.heap.size + 2 < w1.heap.size := (by omega); have kcb1_2 : ∀ o, w1.cell? ⟨w.heap.size + 2, o, none⟩ = _ := fun o => b1.cell (p := ⟨w.heap.size + 2, o, none⟩) (by go_size); have kfb1_2 : ∀ o, w1.frozen? ⟨w.heap.size + 2, o, none⟩ = _ := fun o => b1.frozen (p := ⟨w.heap.size + 2, o, none⟩) (by go_size); clear zzb1
  go_wp2
  exact bodyPost_ret (v := .tuple #[.agg #[.int .i64 0, .int .i64 0], .int .i64 1]) (by simp only [results, Try.results50]; go_simp) rfl ⟨rfl, (by repeat' (first | (with_reducible exact Below.refl _ _) | (with_reducible assumption) | (with_reducible refine below_drewN ?_ _) | (with_reducible refine Below.drew ?_) | (with_reducible refine Below.alloc ?_ ?_ _) | (with_reducible refine Below.setCell ?_ ?_ _) | (with_reducible refine Below.trans ?_ (Below.mono (by with_reducible assumption) ?_)) | go_size | (dsimp only; omega)))⟩
set_option maxHeartbeats 1000000 in
theorem sMediantOf_limit (p q p' q' : Int) (w : World) (h : (isF p q && isF p' q') = true) (he : (ent (redP (p + p') (q + q')) && ent (redQ (p + p') (q + q'))) = false) :
    Calls Try.prog 50 #[.agg #[.int .i64 p, .int .i64 q], .agg #[.int .i64 p', .int .i64 q']] w fun e w' => e = .returned (.tuple #[.agg #[.int .i64 0, .int .i64 0], .int .i64 3]) ∧ Below w.heap.size w w' := by
  have hx : (if (isF p q && isF p' q') = true then (0 : Int) else 1) = 0 := by rw [h]; rfl
  rw [Bool.and_eq_true] at h
  have H := Lib.hid hx
  have H' := Lib.hid h
  clear h hx
  generalize hX : redP (p + p') (q + q') = X at he
  generalize hY : redQ (p + p') (q + q') = Y at he
  have HX := Lib.hid hX
  have HY := Lib.hid hY
  clear hX hY
  go_enter Try.func50, Try.ntmps50
  go_wp2_with fail
  refine (l03Both_c _ _ _ _ _).mono ?_
  rintro e w1 ⟨rfl, b1⟩
  rw [H.out]
  have zzb1 := b1.size; (try simp at zzb1); have zb1_0 : w.heap.size < w1.heap.size := (by omega); have kcb1_0 : ∀ o, w1.cell? ⟨w.heap.size, o, none⟩ = _ := fun o => b1.cell (p := ⟨w.heap.size, o, none⟩) (by go_size); have kfb1_0 : ∀ o, w1.frozen? ⟨w.heap.size, o, none⟩ = _ := fun o => b1.frozen (p := ⟨w.heap.size, o, none⟩) (by go_size); have zb1_1 : w.heap.size + 1 < w1.heap.size := (by omega); have kcb1_1 : ∀ o, w1.cell? ⟨w.heap.size + 1, o, none⟩ = _ := fun o => b1.cell (p := ⟨w.heap.size + 1, o, none⟩) (by go_size); have kfb1_1 : ∀ o, w1.frozen? ⟨w.heap.size + 1, o, none⟩ = _ := fun o => b1.frozen (p := ⟨w.heap.size + 1, o, none⟩) (by go_size); have zb1_2 : w.heap.size + 2 < w1.heap.size := (by omega); have kcb1_2 : ∀ o, w1.cell? ⟨w.heap.size + 2, o, none⟩ = _ := fun o => b1.cell (p := ⟨w.heap.size + 2, o, none⟩) (by go_size); have kfb1_2 : ∀ o, w1.frozen? ⟨w.heap.size + 2, o, none⟩ = _ := fun o => b1.frozen (p := ⟨w.heap.size + 2, o, none⟩) (by go_size); clear zzb1
  go_wp2_with fail
  refine (l03Mediant_c p q p' q' _ H'.out.1 H'.out.2).mono ?_
  rintro e w2 ⟨rfl, b2⟩
  have zzb2 := b2.size; (try simp at zzb2); have zb2_0 : w.heap.size < w2.heap.size := (by omega); have kcb2_0 : ∀ o, w2.cell? ⟨w.heap.size, o, none⟩ = _ := fun o => b2.cell (p := ⟨w.heap.size, o, none⟩) (by go_size); have kfb2_0 : ∀ o, w2.frozen? ⟨w.heap.size, o, none⟩ = _ := fun o => b2.frozen (p := ⟨w.heap.size, o, none⟩) (by go_size); have zb2_1 : w.heap.size + 1 < w2.heap.size := (by omega); have kcb2_1 : ∀ o, w2.cell? ⟨w.heap.size + 1, o, none⟩ = _ := fun o => b2.cell (p := ⟨w.heap.size + 1, o, none⟩) (by go_size); have kfb2_1 : ∀ o, w2.frozen? ⟨w.heap.size + 1, o, none⟩ = _ := fun o => b2.frozen (p := ⟨w.heap.size + 1, o, none⟩) (by go_size); have zb2_2 : w.heap.size + 2 < w2.heap.size := (by omega); have kcb2_2 : ∀ o, w2.cell? ⟨w.heap.size + 2, o, none⟩ = _ := fun o => b2.cell (p := ⟨w.heap.size + 2, o, none⟩) (by go_size); have kfb2_2 : ∀ o, w2.frozen? ⟨w.heap.size + 2, o, none⟩ = _ := fun o => b2.frozen (p := ⟨w.heap.size + 2, o, none⟩) (by go_size); clear zzb2
  rw [HX.out, HY.out]
  cases m1 : ent X
  · go_wp2_with fail
    refine (l01Entry_c _ _).mono ?_
    rintro e w3 ⟨rfl, rfl⟩
    go_wp2
    exact bodyPost_ret (v := .tuple #[.agg #[.int .i64 0, .int .i64 0], .int .i64 3]) (by simp only [results, Try.results50]; go_simp) rfl ⟨rfl, (by repeat' (first | (with_reducible exact Below.refl _ _) | (with_reducible assumption) | (with_reducible refine below_drewN ?_ _) | (with_reducible refine Below.drew ?_) | (with_reducible refine Below.alloc ?_ ?_ _) | (with_reducible refine Below.setCell ?_ ?_ _) | (with_reducible refine Below.trans ?_ (Below.mono (by with_reducible assumption) ?_)) | go_size | (dsimp only; omega)))⟩
  · have m2 : ent Y = false := by simpa [m1] using he
    clear he
    go_wp2_with fail
    refine (l01Entry_c _ _).mono ?_
    rintro e w3 ⟨rfl, rfl⟩
    go_wp2_with fail
    refine (l01Entry_c _ _).mono ?_
    rintro e w4 ⟨rfl, rfl⟩
    go_wp2
    exact bodyPost_ret (v := .tuple #[.agg #[.int .i64 0, .int .i64 0], .int .i64 3]) (by simp only [results, Try.results50]; go_simp) rfl ⟨rfl, (by repeat' (first | (with_reducible exact Below.refl _ _) | (with_reducible assumption) | (with_reducible refine below_drewN ?_ _) | (with_reducible refine Below.drew ?_) | (with_reducible refine Below.alloc ?_ ?_ _) | (with_reducible refine Below.setCell ?_ ?_ _) | (with_reducible refine Below.trans ?_ (Below.mono (by with_reducible assumption) ?_)) | go_size | (dsimp only; omega)))⟩
set_option maxHeartbeats 1000000 in
theorem sMediantOf_yes (p q p' q' : Int) (w : World) (h : (isF p q && isF p' q') = true) (he : (ent (redP (p + p') (q + q')) && ent (redQ (p + p') (q + q'))) = true) :
    Calls Try.prog 50 #[.agg #[.int .i64 p, .int .i64 q], .agg #[.int .i64 p', .int .i64 q']] w fun e w' => e = .returned (.tuple #[.agg #[.int .i64 (redP (p + p') (q + q')), .int .i64 (redQ (p + p') (q + q'))], .int .i64 0]) ∧ Below w.heap.size w w' := by
  have hx : (if (isF p q && isF p' q') = true then (0 : Int) else 1) = 0 := by rw [h]; rfl
  rw [Bool.and_eq_true] at h he
  obtain ⟨m1, m2⟩ := he
  have H := Lib.hid hx
  have H' := Lib.hid h
  clear h hx
  generalize hX : redP (p + p') (q + q') = X at m1 ⊢
  generalize hY : redQ (p + p') (q + q') = Y at m2 ⊢
  have HX := Lib.hid hX
  have HY := Lib.hid hY
  clear hX hY
  go_enter Try.func50, Try.ntmps50
  go_wp2_with fail
  refine (l03Both_c _ _ _ _ _).mono ?_
  rintro e w1 ⟨rfl, b1⟩
  rw [H.out]
  have zzb1 := b1.size; (try simp at zzb1); have zb1_0 : w.heap.size < w1.heap.size := (by omega); have kcb1_0 : ∀ o, w1.cell? ⟨w.heap.size, o, none⟩ = _ := fun o => b1.cell (p := ⟨w.heap.size, o, none⟩) (by go_size); have kfb1_0 : ∀ o, w1.frozen? ⟨w.heap.size, o, none⟩ = _ := fun o => b1.frozen (p := ⟨w.heap.size, o, none⟩) (by go_size); have zb1_1 : w.heap.size + 1 < w1.heap.size := (by omega); have kcb1_1 : ∀ o, w1.cell? ⟨w.heap.size + 1, o, none⟩ = _ := fun o => b1.cell (p := ⟨w.heap.size + 1, o, none⟩) (by go_size); have kfb1_1 : ∀ o, w1.frozen? ⟨w.heap.size + 1, o, none⟩ = _ := fun o => b1.frozen (p := ⟨w.heap.size + 1, o, none⟩) (by go_size); have zb1_2 : w.heap.size + 2 < w1.heap.size := (by omega); have kcb1_2 : ∀ o, w1.cell? ⟨w.heap.size + 2, o, none⟩ = _ := fun o => b1.cell (p := ⟨w.heap.size + 2, o, none⟩) (by go_size); have kfb1_2 : ∀ o, w1.frozen? ⟨w.heap.size + 2, o, none⟩ = _ := fun o => b1.frozen (p := ⟨w.heap.size + 2, o, none⟩) (by go_size); clear zzb1
  go_wp2_with fail
  refine (l03Mediant_c p q p' q' _ H'.out.1 H'.out.2).mono ?_
  rintro e w2 ⟨rfl, b2⟩
  have zzb2 := b2.size; (try simp at zzb2); have zb2_0 : w.heap.size < w2.heap.size := (by omega); have kcb2_0 : ∀ o, w2.cell? ⟨w.heap.size, o, none⟩ = _ := fun o => b2.cell (p := ⟨w.heap.size, o, none⟩) (by go_size); have kfb2_0 : ∀ o, w2.frozen? ⟨w.heap.size, o, none⟩ = _ := fun o => b2.frozen (p := ⟨w.heap.size, o, none⟩) (by go_size); have zb2_1 : w.heap.size + 1 < w2.heap.size := (by omega); have kcb2_1 : ∀ o, w2.cell? ⟨w.heap.size + 1, o, none⟩ = _ := fun o => b2.cell (p := ⟨w.heap.size + 1, o, none⟩) (by go_size); have kfb2_1 : ∀ o, w2.frozen? ⟨w.heap.size + 1, o, none⟩ = _ := fun o => b2.frozen (p := ⟨w.heap.size + 1, o, none⟩) (by go_size); have zb2_2 : w.heap.size + 2 < w2.heap.size := (by omega); have kcb2_2 : ∀ o, w2.cell? ⟨w.heap.size + 2, o, none⟩ = _ := fun o => b2.cell (p := ⟨w.heap.size + 2, o, none⟩) (by go_size); have kfb2_2 : ∀ o, w2.frozen? ⟨w.heap.size + 2, o, none⟩ = _ := fun o => b2.frozen (p := ⟨w.heap.size + 2, o, none⟩) (by go_size); clear zzb2
  rw [HX.out, HY.out]
  go_wp2_with fail
  refine (l01Entry_c _ _).mono ?_
  rintro e w3 ⟨rfl, rfl⟩
  go_wp2_with fail
  refine (l01Entry_c _ _).mono ?_
  rintro e w4 ⟨rfl, rfl⟩
  go_wp2
  exact bodyPost_ret (v := .tuple #[.agg #[.int .i64 X, .int .i64 Y], .int .i64 0]) (by simp only [results, Try.results50]; go_simp) rfl ⟨rfl, (by repeat' (first | (with_reducible exact Below.refl _ _) | (with_reducible assumption) | (with_reducible refine below_drewN ?_ _) | (with_reducible refine Below.drew ?_) | (with_reducible refine Below.alloc ?_ ?_ _) | (with_reducible refine Below.setCell ?_ ?_ _) | (with_reducible refine Below.trans ?_ (Below.mono (by with_reducible assumption) ?_)) | go_size | (dsimp only; omega)))⟩
set_option maxHeartbeats 8000000 in
theorem FnExactMediantOf_w (p0 q0 : Int) (p1 q1 : Int) (W : World) :
    Calls Try.prog 14 #[.agg #[.int .i64 p0, .int .i64 q0], .agg #[.int .i64 p1, .int .i64 q1]] W fun e w' => e = .returned (.bool true) ∧ Below W.heap.size W w' := by
  obtain ⟨x0, x1, x2, K1, K2⟩ : ∃ (x0 : Int) (x1 : Int) (x2 : Int), Hid (∀ w, Calls Try.prog 51 #[.agg #[.int .i64 p0, .int .i64 q0], .agg #[.int .i64 p1, .int .i64 q1]] w fun e w' => e = .returned (.tuple #[.agg #[.int .i64 x0, .int .i64 x1], .int .i64 x2]) ∧ Below w.heap.size w w') ∧ Hid (∀ w, Calls Try.prog 50 #[.agg #[.int .i64 p0, .int .i64 q0], .agg #[.int .i64 p1, .int .i64 q1]] w fun e w' => e = .returned (.tuple #[.agg #[.int .i64 x0, .int .i64 x1], .int .i64 x2]) ∧ Below w.heap.size w w') := by
    cases h : (isF p0 q0 && isF p1 q1)
    · exact ⟨_, _, _, fun w => MediantOf_no _ _ _ _ w h, fun w => sMediantOf_no _ _ _ _ w h⟩
    · cases he : (ent (redP (p0 + p1) (q0 + q1)) && ent (redQ (p0 + p1) (q0 + q1)))
      · exact ⟨_, _, _, fun w => MediantOf_limit _ _ _ _ w h he, fun w => sMediantOf_limit _ _ _ _ w h he⟩
      · exact ⟨_, _, _, fun w => MediantOf_yes _ _ _ _ w h he, fun w => sMediantOf_yes _ _ _ _ w h he⟩
  go_enter Try.func14, Try.ntmps14
  go_upto_region 1 with fail
  go_cut [5, 6] (fun v5 v6 wx => ∃ g : Nat, v5 = .pointer (some ⟨g, 0, none⟩) ∧ v6 = .int .i64 x2 ∧ W.heap.size + 1 < g ∧ g < wx.heap.size ∧ wx.cell? ⟨g, 0, none⟩ = some (.int .i64 x0) ∧ wx.cell? ⟨g, 1, none⟩ = some (.int .i64 x1) ∧ Below W.heap.size W wx ∧ wx.cell? ⟨W.heap.size, 0, none⟩ = some (.int .i64 p0) ∧ wx.cell? ⟨W.heap.size, 1, none⟩ = some (.int .i64 q0) ∧ wx.cell? ⟨W.heap.size + 1, 0, none⟩ = some (.int .i64 p1) ∧ wx.cell? ⟨W.heap.size + 1, 1, none⟩ = some (.int .i64 q1))
  case first =>
    go_region_held3 (fun w' => Below W.heap.size W w' ∧ W.heap.size < w'.heap.size ∧ W.heap.size + 1 < w'.heap.size ∧ w'.cell? ⟨W.heap.size, 0, none⟩ = some (.int .i64 p0) ∧ w'.cell? ⟨W.heap.size, 1, none⟩ = some (.int .i64 q0) ∧ w'.cell? ⟨W.heap.size + 1, 0, none⟩ = some (.int .i64 p1) ∧ w'.cell? ⟨W.heap.size + 1, 1, none⟩ = some (.int .i64 q1)) (((try go_split_ands); (try (refine ⟨?_, ?_, ?_, ?_, ?_, ?_, ?_⟩)) <;> first | (with_reducible assumption) | (with_reducible exact keep_drew (by with_reducible assumption)) | (with_reducible exact held_cell hb (by with_reducible assumption)) | (with_reducible exact held_size hb (by with_reducible assumption)) | (with_reducible exact keep_new (by with_reducible assumption)) | (with_reducible exact keep_alloc (by with_reducible assumption) (by dsimp only; omega)) | (with_reducible exact keep_drew (keep_new (by with_reducible assumption))) | (with_reducible exact keep_drew (held_cell hb (by with_reducible assumption))) | ((with_reducible refine keep_set ?_ (by dsimp only; omega)); (repeat (with_reducible refine keep_set ?_ (by dsimp only; omega))); first | (with_reducible assumption) | (with_reducible exact held_cell hb (by with_reducible assumption))) | ((repeat' (first | (with_reducible exact Below.refl _ _) | (with_reducible assumption) | (with_reducible refine below_drewN ?_ _) | (with_reducible refine Below.drew ?_) | (with_reducible refine Below.alloc ?_ ?_ _) | (with_reducible refine Below.setCell ?_ ?_ _) | (with_reducible refine Below.trans ?_ (Below.mono (by with_reducible assumption) ?_)) | go_size | (dsimp only; omega))); done) | (go_size; done) | (with_reducible exact held_cell (by with_reducible assumption) (by with_reducible assumption)) | (with_reducible exact held_size (by with_reducible assumption) (by with_reducible assumption)) | (go_keep; done))) (first | (go_at_call_of 16 (Value.agg #[.int .i64 p0, .int .i64 q0]); refine (toFraction_c _ _ _).mono ?_; rintro e wt0 ⟨rfl, hb⟩; have kk := fun (b o : Nat) (h : b < _) => hb.cell (p := ⟨b, o, none⟩) h; have ff := fun (b o : Nat) (h : b < _) => hb.frozen (p := ⟨b, o, none⟩) h; have zz := hb.size; (try simp only [World.size_alloc, World.size_drew] at zz); (try have zwt0_0 : W.heap.size + 2 < wt0.heap.size := (by omega)); (try have zwt0_2 : wt1.heap.size < wt0.heap.size := (by omega))) | (go_at_call_of 16 (Value.agg #[.int .i64 p1, .int .i64 q1]); refine (toFraction_c _ _ _).mono ?_; rintro e wt1 ⟨rfl, hb⟩; have kk := fun (b o : Nat) (h : b < _) => hb.cell (p := ⟨b, o, none⟩) h; have ff := fun (b o : Nat) (h : b < _) => hb.frozen (p := ⟨b, o, none⟩) h; have zz := hb.size; (try simp only [World.size_alloc, World.size_drew] at zz); (try have zwt1_0 : W.heap.size + 2 < wt1.heap.size := (by omega)); (try have zwt1_1 : wt0.heap.size < wt1.heap.size := (by omega))) | (go_at_call 50; refine (K2.out _).mono ?_; rintro e wa ⟨rfl, hb⟩; have kk := fun (b o : Nat) (h : b < _) => hb.cell (p := ⟨b, o, none⟩) h; have ff := fun (b o : Nat) (h : b < _) => hb.frozen (p := ⟨b, o, none⟩) h; have zz := hb.size; (try simp only [World.size_alloc, World.size_drew] at zz); (try have zwa_0 : W.heap.size + 2 < wa.heap.size := (by omega)); (try have zwa_1 : wt0.heap.size < wa.heap.size := (by omega)); (try have zwa_2 : wt1.heap.size < wa.heap.size := (by omega))))
    all_goals go_split_ands
    all_goals (go_wp2_with fail)
    all_goals go_meet
    all_goals (refine ⟨_, rfl, rfl, ?_, ?_, ?_, ?_, ?_, ?_, ?_, ?_, ?_⟩ <;> first | (with_reducible assumption) | (go_keep; done) | (go_simp; done) | ((repeat' (first | (with_reducible exact Below.refl _ _) | (with_reducible assumption) | (with_reducible refine below_drewN ?_ _) | (with_reducible refine Below.drew ?_) | (with_reducible refine Below.alloc ?_ ?_ _) | (with_reducible refine Below.setCell ?_ ?_ _) | (with_reducible refine Below.trans ?_ (Below.mono (by with_reducible assumption) ?_)) | go_size | (dsimp only; omega))); done) | (go_size; done) | ((repeat (with_reducible refine keep_set ?_ (by dsimp only; omega))); first | (with_reducible assumption) | (go_keep; done)))
  case rest =>
    obtain ⟨g, rfl, rfl, hg0, hg1, hx0, hx1, hB, hw0, hw1, hw2, hw3⟩ := hcut
    have hg2 : W.heap.size + 1 < wc.heap.size := Nat.lt_trans hg0 hg1
    go_upto_region 2 with fail
    go_cut [7, 8] (fun v7 v8 wx => ∃ g' : Nat, v7 = .pointer (some ⟨g', 0, none⟩) ∧ v8 = .int .i64 x2 ∧ W.heap.size + 1 < g' ∧ g' < wx.heap.size ∧ wx.cell? ⟨g', 0, none⟩ = some (.int .i64 x0) ∧ wx.cell? ⟨g', 1, none⟩ = some (.int .i64 x1) ∧ Below W.heap.size W wx ∧ wx.cell? ⟨g, 0, none⟩ = some (.int .i64 x0) ∧ wx.cell? ⟨g, 1, none⟩ = some (.int .i64 x1))
    case first =>
      go_region_held3 (fun w' => Below W.heap.size W w' ∧ W.heap.size < w'.heap.size ∧ W.heap.size + 1 < w'.heap.size ∧ g < w'.heap.size ∧ w'.cell? ⟨W.heap.size, 0, none⟩ = some (.int .i64 p0) ∧ w'.cell? ⟨W.heap.size, 1, none⟩ = some (.int .i64 q0) ∧ w'.cell? ⟨W.heap.size + 1, 0, none⟩ = some (.int .i64 p1) ∧ w'.cell? ⟨W.heap.size + 1, 1, none⟩ = some (.int .i64 q1) ∧ w'.cell? ⟨g, 0, none⟩ = some (.int .i64 x0) ∧ w'.cell? ⟨g, 1, none⟩ = some (.int .i64 x1)) (((try go_split_ands); (try (refine ⟨?_, ?_, ?_, ?_, ?_, ?_, ?_, ?_, ?_, ?_⟩)) <;> first | (with_reducible assumption) | (with_reducible exact keep_drew (by with_reducible assumption)) | (with_reducible exact held_cell hb (by with_reducible assumption)) | (with_reducible exact held_size hb (by with_reducible assumption)) | (with_reducible exact keep_new (by with_reducible assumption)) | (with_reducible exact keep_alloc (by with_reducible assumption) (by dsimp only; omega)) | (with_reducible exact keep_drew (keep_new (by with_reducible assumption))) | (with_reducible exact keep_drew (held_cell hb (by with_reducible assumption))) | ((with_reducible refine keep_set ?_ (by dsimp only; omega)); (repeat (with_reducible refine keep_set ?_ (by dsimp only; omega))); first | (with_reducible assumption) | (with_reducible exact held_cell hb (by with_reducible assumption))) | ((repeat' (first | (with_reducible exact Below.refl _ _) | (with_reducible assumption) | (with_reducible refine below_drewN ?_ _) | (with_reducible refine Below.drew ?_) | (with_reducible refine Below.alloc ?_ ?_ _) | (with_reducible refine Below.setCell ?_ ?_ _) | (with_reducible refine Below.trans ?_ (Below.mono (by with_reducible assumption) ?_)) | go_size | (dsimp only; omega))); done) | (go_size; done) | (with_reducible exact held_cell (by with_reducible assumption) (by with_reducible assumption)) | (with_reducible exact held_size (by with_reducible assumption) (by with_reducible assumption)) | (go_keep; done))) (first | (go_at_call_of 16 (Value.agg #[.int .i64 p0, .int .i64 q0]); refine (toFraction_c _ _ _).mono ?_; rintro e wt0 ⟨rfl, hb⟩; have kk := fun (b o : Nat) (h : b < _) => hb.cell (p := ⟨b, o, none⟩) h; have ff := fun (b o : Nat) (h : b < _) => hb.frozen (p := ⟨b, o, none⟩) h; have zz := hb.size; (try simp only [World.size_alloc, World.size_drew] at zz); (try have zwt0_0 : wc.heap.size < wt0.heap.size := (by omega)); (try have zwt0_2 : wt1.heap.size < wt0.heap.size := (by omega))) | (go_at_call_of 16 (Value.agg #[.int .i64 p1, .int .i64 q1]); refine (toFraction_c _ _ _).mono ?_; rintro e wt1 ⟨rfl, hb⟩; have kk := fun (b o : Nat) (h : b < _) => hb.cell (p := ⟨b, o, none⟩) h; have ff := fun (b o : Nat) (h : b < _) => hb.frozen (p := ⟨b, o, none⟩) h; have zz := hb.size; (try simp only [World.size_alloc, World.size_drew] at zz); (try have zwt1_0 : wc.heap.size < wt1.heap.size := (by omega)); (try have zwt1_1 : wt0.heap.size < wt1.heap.size := (by omega))) | (go_at_call 51; refine (K1.out _).mono ?_; rintro e wb ⟨rfl, hb⟩; have kk := fun (b o : Nat) (h : b < _) => hb.cell (p := ⟨b, o, none⟩) h; have ff := fun (b o : Nat) (h : b < _) => hb.frozen (p := ⟨b, o, none⟩) h; have zz := hb.size; (try simp only [World.size_alloc, World.size_drew] at zz); (try have zwb_0 : wc.heap.size < wb.heap.size := (by omega)); (try have zwb_1 : wt0.heap.size < wb.heap.size := (by omega)); (try have zwb_2 : wt1.heap.size < wb.heap.size := (by omega))))
      all_goals go_split_ands
      all_goals (go_wp2_with fail)
      all_goals go_meet
      all_goals (refine ⟨_, rfl, rfl, ?_, ?_, ?_, ?_, ?_, ?_, ?_⟩ <;> first | (with_reducible assumption) | (go_keep; done) | (go_simp; done) | ((repeat' (first | (with_reducible exact Below.refl _ _) | (with_reducible assumption) | (with_reducible refine below_drewN ?_ _) | (with_reducible refine Below.drew ?_) | (with_reducible refine Below.alloc ?_ ?_ _) | (with_reducible refine Below.setCell ?_ ?_ _) | (with_reducible refine Below.trans ?_ (Below.mono (by with_reducible assumption) ?_)) | go_size | (dsimp only; omega))); done) | (go_size; done) | ((repeat (with_reducible refine keep_set ?_ (by dsimp only; omega))); first | (with_reducible assumption) | (go_keep; done)))
    case rest =>
      obtain ⟨g', rfl, rfl, hh0, hh1, hy0, hy1, hB2, hz0, hz1⟩ := hcut
      go_wp2_with fail
      refine (eqFraction_same _ _ _).mono ?_
      rintro e w9 ⟨rfl, b9⟩
      have zzb9 := b9.size; (try simp at zzb9); clear zzb9
      go_wp2
      go_returns
      exact ⟨rfl, (by repeat' (first | (with_reducible exact Below.refl _ _) | (with_reducible assumption) | (with_reducible refine below_drewN ?_ _) | (with_reducible refine Below.drew ?_) | (with_reducible refine Below.alloc ?_ ?_ _) | (with_reducible refine Below.setCell ?_ ?_ _) | (with_reducible refine Below.trans ?_ (Below.mono (by with_reducible assumption) ?_)) | go_size | (dsimp only; omega)))⟩

end Go.Proofs.Ytenmmldkgkbifaa
