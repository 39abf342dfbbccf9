/- The order of a matrix. -/
import Derived.Test.YtlkhhpckgcdeeaaGreatDoorP
import Derived.Test.YtlkhhpckgcdeeaaGreatDoorC
namespace Go.Proofs.YtlkhhpckgcdeeaaGreatDoor
open Go.RowKit
set_option linter.unusedVariables false
set_option linter.unusedSimpArgs false
attribute [local go_sem] run_min_int4 run_max_int4
attribute [local go_sem] run_equalIn_M
theorem ent4 {a b c d : Int} (h1 : -1000000000 ≤ a ∧ a ≤ 1000000000) (h2 : -1000000000 ≤ b ∧ b ≤ 1000000000) (h3 : -1000000000 ≤ c ∧ c ≤ 1000000000) (h4 : -1000000000 ≤ d ∧ d ≤ 1000000000) : M4.ent ⟨a, b, c, d⟩ = true :=
  M4.ent_iff.mpr ⟨ent_iff.mpr h1, ent_iff.mpr h2, ent_iff.mpr h3, ent_iff.mpr h4⟩
/-- what OrderOf answers for a matrix of kind 0 or 1 -/
def ordOf (t : Int) : Int := if t = 2 then 1 else if t = -2 then 2 else if t = -1 then 3 else if t = 0 then 4 else 6
theorem OrderOf_no (p q r s : Int) (w : World) (h : isM p q r s = false) :
    Calls Tryz.prog 52 #[.agg #[.int .i64 p, .int .i64 q, .int .i64 r, .int .i64 s]] w fun e w' => e = .returned (.tuple #[.int .i64 0, .int .i64 1]) ∧ Below w.heap.size w w' := by
  go_enter Tryz.func52, Tryz.ntmps52
  go_wp2_with fail
  refine (IsMatrix_c _ _ _ _ _).mono ?_
  rintro e w1 ⟨rfl, b1⟩
  have zzb1 := b1.size; (try simp at zzb1); have zb1_0 : w.heap.size < w1.heap.size := (by omega); have kcb1_0 : ∀ o, w1.cell? ⟨w.heap.size, o, none⟩ = _ := fun o => b1.cell (p := ⟨w.heap.size, o, none⟩) (by go_size); have kfb1_0 : ∀ o, w1.frozen? ⟨w.heap.size, o, none⟩ = _ := fun o => b1.frozen (p := ⟨w.heap.size, o, none⟩) (by go_size); clear zzb1
  go_wp2
  go_returns
  exact ⟨rfl, (by repeat' (first | (with_reducible exact Below.refl _ _) | (with_reducible assumption) | (with_reducible refine below_drewN ?_ _) | (with_reducible refine Below.drew ?_) | (with_reducible refine Below.alloc ?_ ?_ _) | (with_reducible refine Below.setCell ?_ ?_ _) | (with_reducible refine Below.trans ?_ (Below.mono (by with_reducible assumption) ?_)) | go_size | (dsimp only; omega)))⟩
theorem OrderOf_far (p q r s : Int) (w : World) (h : isM p q r s = true) (hk : 1 < kindOf p q r s) :
    Calls Tryz.prog 52 #[.agg #[.int .i64 p, .int .i64 q, .int .i64 r, .int .i64 s]] w fun e w' => e = .returned (.tuple #[.int .i64 0, .int .i64 4]) ∧ Below w.heap.size w w' := by
  obtain ⟨⟨hp0, hp1⟩, ⟨hq0, hq1⟩, ⟨hr0, hr1⟩, ⟨hs0, hs1⟩, hd⟩ := isM_iff.mp h
  have HD := Lib.hid hd
  clear hd
  go_enter Tryz.func52, Tryz.ntmps52
  go_wp2_with fail
  refine (IsMatrix_c _ _ _ _ _).mono ?_
  rintro e w1 ⟨rfl, b1⟩
  have zzb1 := b1.size; (try simp at zzb1); have zb1_0 : w.heap.size < w1.heap.size := (by omega); have kcb1_0 : ∀ o, w1.cell? ⟨w.heap.size, o, none⟩ = _ := fun o => b1.cell (p := ⟨w.heap.size, o, none⟩) (by go_size); have kfb1_0 : ∀ o, w1.frozen? ⟨w.heap.size, o, none⟩ = _ := fun o => b1.frozen (p := ⟨w.heap.size, o, none⟩) (by go_size); clear zzb1
  go_wp2_with fail
  refine (kind_c _ _ _ _ _ (by omega) (by omega) (by omega) (by omega) (by omega) (by omega) (by omega) (by omega) HD.out).mono ?_
  rintro e w2 ⟨rfl, b2⟩
  have zzb2 := b2.size; (try simp at zzb2); have zb2_0 : w.heap.size < w2.heap.size := (by omega); have kcb2_0 : ∀ o, w2.cell? ⟨w.heap.size, o, none⟩ = _ := fun o => b2.cell (p := ⟨w.heap.size, o, none⟩) (by go_size); have kfb2_0 : ∀ o, w2.frozen? ⟨w.heap.size, o, none⟩ = _ := fun o => b2.frozen (p := ⟨w.heap.size, o, none⟩) (by go_size); clear zzb2
  go_wp2
  go_returns
  exact ⟨rfl, (by repeat' (first | (with_reducible exact Below.refl _ _) | (with_reducible assumption) | (with_reducible refine below_drewN ?_ _) | (with_reducible refine Below.drew ?_) | (with_reducible refine Below.alloc ?_ ?_ _) | (with_reducible refine Below.setCell ?_ ?_ _) | (with_reducible refine Below.trans ?_ (Below.mono (by with_reducible assumption) ?_)) | go_size | (dsimp only; omega)))⟩
theorem OrderOf_yes (p q r s : Int) (w : World) (h : isM p q r s = true) (hk : ¬ 1 < kindOf p q r s) :
    Calls Tryz.prog 52 #[.agg #[.int .i64 p, .int .i64 q, .int .i64 r, .int .i64 s]] w fun e w' => e = .returned (.tuple #[.int .i64 (ordOf (p + s)), .int .i64 0]) ∧ Below w.heap.size w w' := by
  obtain ⟨⟨hp0, hp1⟩, ⟨hq0, hq1⟩, ⟨hr0, hr1⟩, ⟨hs0, hs1⟩, hd⟩ := isM_iff.mp h
  have HD := Lib.hid hd
  clear hd
  go_enter Tryz.func52, Tryz.ntmps52
  go_wp2_with fail
  refine (IsMatrix_c _ _ _ _ _).mono ?_
  rintro e w1 ⟨rfl, b1⟩
  have zzb1 := b1.size; (try simp at zzb1); have zb1_0 : w.heap.size < w1.heap.size := (by omega); have kcb1_0 : ∀ o, w1.cell? ⟨w.heap.size, o, none⟩ = _ := fun o => b1.cell (p := ⟨w.heap.size, o, none⟩) (by go_size); have kfb1_0 : ∀ o, w1.frozen? ⟨w.heap.size, o, none⟩ = _ := fun o => b1.frozen (p := ⟨w.heap.size, o, none⟩) (by go_size); clear zzb1
  go_wp2_with fail
  refine (kind_c _ _ _ _ _ (by omega) (by omega) (by omega) (by omega) (by omega) (by omega) (by omega) (by omega) HD.out).mono ?_
  rintro e w2 ⟨rfl, b2⟩
  have zzb2 := b2.size; (try simp at zzb2); have zb2_0 : w.heap.size < w2.heap.size := (by omega); have kcb2_0 : ∀ o, w2.cell? ⟨w.heap.size, o, none⟩ = _ := fun o => b2.cell (p := ⟨w.heap.size, o, none⟩) (by go_size); have kfb2_0 : ∀ o, w2.frozen? ⟨w.heap.size, o, none⟩ = _ := fun o => b2.frozen (p := ⟨w.heap.size, o, none⟩) (by go_size); clear zzb2
  go_wp2_with fail
  refine (trace_c _ _ _ _ _ (by omega) (by omega) (by omega) (by omega)).mono ?_
  rintro e w3 ⟨rfl, b3⟩
  have zzb3 := b3.size; (try simp at zzb3); have zb3_0 : w.heap.size < w3.heap.size := (by omega); have kcb3_0 : ∀ o, w3.cell? ⟨w.heap.size, o, none⟩ = _ := fun o => b3.cell (p := ⟨w.heap.size, o, none⟩) (by go_size); have kfb3_0 : ∀ o, w3.frozen? ⟨w.heap.size, o, none⟩ = _ := fun o => b3.frozen (p := ⟨w.heap.size, o, none⟩) (by go_size); clear zzb3
  go_wp2
  all_goals (go_returns; exact ⟨ret_ii (by grind [ordOf]) rfl, (by repeat' (first | (with_reducible exact Below.refl _ _) | (with_reducible assumption) | (with_reducible refine below_drewN ?_ _) | (with_reducible refine Below.drew ?_) | (with_reducible refine Below.alloc ?_ ?_ _) | (with_reducible refine Below.setCell ?_ ?_ _) | (with_reducible refine Below.trans ?_ (Below.mono (by with_reducible assumption) ?_)) | go_size | (dsimp only; omega)))⟩)
theorem l01Times_v (p q r s p' q' r' s' x y z t : Int) (w : World) (h1 : M4.ent ⟨p, q, r, s⟩ = true) (h2 : M4.ent ⟨p', q', r', s'⟩ = true) (hx : p * p' + q * r' = x) (hy : p * q' + q * s' = y) (hz : r * p' + s * r' = z) (ht : r * q' + s * s' = t) (he : M4.ent ⟨x, y, z, t⟩ = true) :
    Calls Tryz.prog 109 #[.agg #[.int .i64 p, .int .i64 q, .int .i64 r, .int .i64 s], .agg #[.int .i64 p', .int .i64 q', .int .i64 r', .int .i64 s']] w fun e w' => e = .returned (.tuple #[.agg #[.int .i64 x, .int .i64 y, .int .i64 z, .int .i64 t], .bool true]) ∧ Below w.heap.size w w' := by
  subst hx hy hz ht
  obtain ⟨a1, a2, a3, a4⟩ := M4.ent_iff.mp h1
  obtain ⟨b1, b2, b3, b4⟩ := M4.ent_iff.mp h2
  refine (l01Times_c p q r s p' q' r' s' w a1 a2 a3 a4 b1 b2 b3 b4).mono ?_
  rintro e w' ⟨h, hb⟩
  refine ⟨?_, hb⟩
  rw [h]
  exact congrArg Ending.returned (if_pos he)
theorem sOrderOf_no (p q r s : Int) (w : World) (h : isM p q r s = false) :
    Calls Tryz.prog 53 #[.agg #[.int .i64 p, .int .i64 q, .int .i64 r, .int .i64 s]] w fun e w' => e = .returned (.tuple #[.int .i64 0, .int .i64 1]) ∧ Below w.heap.size w w' := by
  go_enter Tryz.func53, Tryz.ntmps53
  go_wp2_with fail
  refine (l01Is_c _ _ _ _ _).mono ?_
  rintro e w1 ⟨rfl, b1⟩
  have zzb1 := b1.size; (try simp at zzb1); have zb1_0 : w.heap.size < w1.heap.size := (by omega); have kcb1_0 : ∀ o, w1.cell? ⟨w.heap.size, o, none⟩ = _ := fun o => b1.cell (p := ⟨w.heap.size, o, none⟩) (by go_size); have kfb1_0 : ∀ o, w1.frozen? ⟨w.heap.size, o, none⟩ = _ := fun o => b1.frozen (p := ⟨w.heap.size, o, none⟩) (by go_size); clear zzb1
  go_wp2
  go_returns
  exact ⟨rfl, (by repeat' (first | (with_reducible exact Below.refl _ _) | (with_reducible assumption) | (with_reducible refine below_drewN ?_ _) | (with_reducible refine Below.drew ?_) | (with_reducible refine Below.alloc ?_ ?_ _) | (with_reducible refine Below.setCell ?_ ?_ _) | (with_reducible refine Below.trans ?_ (Below.mono (by with_reducible assumption) ?_)) | go_size | (dsimp only; omega)))⟩
theorem sOrderOf_far (p q r s : Int) (w : World) (h : isM p q r s = true) (hk : 1 < kindOf p q r s) :
    Calls Tryz.prog 53 #[.agg #[.int .i64 p, .int .i64 q, .int .i64 r, .int .i64 s]] w fun e w' => e = .returned (.tuple #[.int .i64 0, .int .i64 4]) ∧ Below w.heap.size w w' := by
  obtain ⟨⟨hp0, hp1⟩, ⟨hq0, hq1⟩, ⟨hr0, hr1⟩, ⟨hs0, hs1⟩, hd⟩ := isM_iff.mp h
  clear hd
  go_enter Tryz.func53, Tryz.ntmps53
  go_wp2_with fail
  refine (l01Is_c _ _ _ _ _).mono ?_
  rintro e w1 ⟨rfl, b1⟩
  have zzb1 := b1.size; (try simp at zzb1); have zb1_0 : w.heap.size < w1.heap.size := (by omega); have kcb1_0 : ∀ o, w1.cell? ⟨w.heap.size, o, none⟩ = _ := fun o => b1.cell (p := ⟨w.heap.size, o, none⟩) (by go_size); have kfb1_0 : ∀ o, w1.frozen? ⟨w.heap.size, o, none⟩ = _ := fun o => b1.frozen (p := ⟨w.heap.size, o, none⟩) (by go_size); clear zzb1
  go_wp2_with fail
  refine (l01Kind_c _ _ _ _ _ (by omega) (by omega) (by omega) (by omega)).mono ?_
  rintro e w2 ⟨rfl, b2⟩
  have zzb2 := b2.size; (try simp at zzb2); have zb2_0 : w.heap.size < w2.heap.size := (by omega); have kcb2_0 : ∀ o, w2.cell? ⟨w.heap.size, o, none⟩ = _ := fun o => b2.cell (p := ⟨w.heap.size, o, none⟩) (by go_size); have kfb2_0 : ∀ o, w2.frozen? ⟨w.heap.size, o, none⟩ = _ := fun o => b2.frozen (p := ⟨w.heap.size, o, none⟩) (by go_size); clear zzb2
  go_wp2
  go_returns
  exact ⟨rfl, (by repeat' (first | (with_reducible exact Below.refl _ _) | (with_reducible assumption) | (with_reducible refine below_drewN ?_ _) | (with_reducible refine Below.drew ?_) | (with_reducible refine Below.alloc ?_ ?_ _) | (with_reducible refine Below.setCell ?_ ?_ _) | (with_reducible refine Below.trans ?_ (Below.mono (by with_reducible assumption) ?_)) | go_size | (dsimp only; omega)))⟩
set_option maxHeartbeats 4000000 in
theorem sOrderOf_zero (p q r s : Int) (w : World) (h : isM p q r s = true) (hk : ¬ 1 < kindOf p q r s) (ht : p + s = 0) :
    Calls Tryz.prog 53 #[.agg #[.int .i64 p, .int .i64 q, .int .i64 r, .int .i64 s]] w fun e w' => e = .returned (.tuple #[.int .i64 4, .int .i64 0]) ∧ Below w.heap.size w w' := by
  obtain ⟨⟨hp0, hp1⟩, ⟨hq0, hq1⟩, ⟨hr0, hr1⟩, ⟨hs0, hs1⟩, hd⟩ := isM_iff.mp h
  have X1 := Lib.hid (show (p) * (p) + (q) * (r) = -1 by grind)
  have Y1 := Lib.hid (show (p) * (q) + (q) * (s) = 0 by grind)
  have Z1 := Lib.hid (show (r) * (p) + (s) * (r) = 0 by grind)
  have T1 := Lib.hid (show (r) * (q) + (s) * (s) = -1 by grind)
  have X2 := Lib.hid (show (-1) * (p) + (0) * (r) = -p by grind)
  have Y2 := Lib.hid (show (-1) * (q) + (0) * (s) = -q by grind)
  have Z2 := Lib.hid (show (0) * (p) + (-1) * (r) = -r by grind)
  have T2 := Lib.hid (show (0) * (q) + (-1) * (s) = -s by grind)
  have X3 := Lib.hid (show (-p) * (p) + (-q) * (r) = 1 by grind)
  have Y3 := Lib.hid (show (-p) * (q) + (-q) * (s) = 0 by grind)
  have Z3 := Lib.hid (show (-r) * (p) + (-s) * (r) = 0 by grind)
  have T3 := Lib.hid (show (-r) * (q) + (-s) * (s) = 1 by grind)
  have E1 := Lib.hid (show M4.ent ⟨p, q, r, s⟩ = true from ent4 (by omega) (by omega) (by omega) (by omega))
  have E2 := Lib.hid (show M4.ent ⟨-1, 0, 0, -1⟩ = true from ent4 (by omega) (by omega) (by omega) (by omega))
  have E3 := Lib.hid (show M4.ent ⟨-p, -q, -r, -s⟩ = true from ent4 (by omega) (by omega) (by omega) (by omega))
  have E4 := Lib.hid (show M4.ent ⟨1, 0, 0, 1⟩ = true from ent4 (by omega) (by omega) (by omega) (by omega))
  have n1 : (p == 1 && (q == 0 && (r == 0 && s == 1))) = false := by
    rcases Bool.eq_false_or_eq_true (p == 1 && (q == 0 && (r == 0 && s == 1))) with h | h
    · simp at h; omega
    · exact h
  have n3 : (-p == 1 && (-q == 0 && (-r == 0 && -s == 1))) = false := by
    rcases Bool.eq_false_or_eq_true (-p == 1 && (-q == 0 && (-r == 0 && -s == 1))) with h | h
    · simp at h; omega
    · exact h
  clear hd ht
  go_enter Tryz.func53, Tryz.ntmps53
  go_wp2_with fail
  refine (l01Is_c _ _ _ _ _).mono ?_
  rintro e w1 ⟨rfl, b1⟩
  have zzb1 := b1.size; (try simp at zzb1); have zb1_0 : w.heap.size < w1.heap.size := (by omega); have kcb1_0 : ∀ o, w1.cell? ⟨w.heap.size, o, none⟩ = _ := fun o => b1.cell (p := ⟨w.heap.size, o, none⟩) (by go_size); have kfb1_0 : ∀ o, w1.frozen? ⟨w.heap.size, o, none⟩ = _ := fun o => b1.frozen (p := ⟨w.heap.size, o, none⟩) (by go_size); clear zzb1
  go_wp2_with fail
  refine (l01Kind_c _ _ _ _ _ (by omega) (by omega) (by omega) (by omega)).mono ?_
  rintro e w2 ⟨rfl, b2⟩
  have zzb2 := b2.size; (try simp at zzb2); have zb2_0 : w.heap.size < w2.heap.size := (by omega); have kcb2_0 : ∀ o, w2.cell? ⟨w.heap.size, o, none⟩ = _ := fun o => b2.cell (p := ⟨w.heap.size, o, none⟩) (by go_size); have kfb2_0 : ∀ o, w2.frozen? ⟨w.heap.size, o, none⟩ = _ := fun o => b2.frozen (p := ⟨w.heap.size, o, none⟩) (by go_size); clear zzb2
  go_wp2
  refine wp_loop_rounds 4 ?_
  rw [rounds_succ]
  go_wp2_with fail
  refine (l01Times_v (p) (q) (r) (s) (p) (q) (r) (s) (-1) (0) (0) (-1) _ E1.out E1.out X1.out Y1.out Z1.out T1.out E2.out).mono ?_
  rintro e w3 ⟨rfl, b3⟩
  have zzb3 := b3.size; (try simp at zzb3); have zb3_w0 : w.heap.size < w3.heap.size := (by omega); have kcb3_w0 : ∀ o, w3.cell? ⟨w.heap.size, o, none⟩ = _ := fun o => b3.cell (p := ⟨w.heap.size, o, none⟩) (by go_size); have kfb3_w0 : ∀ o, w3.frozen? ⟨w.heap.size, o, none⟩ = _ := fun o => b3.frozen (p := ⟨w.heap.size, o, none⟩) (by go_size); have zb3_w20 : w2.heap.size < w3.heap.size := (by omega); have kcb3_w20 : ∀ o, w3.cell? ⟨w2.heap.size, o, none⟩ = _ := fun o => b3.cell (p := ⟨w2.heap.size, o, none⟩) (by go_size); have kfb3_w20 : ∀ o, w3.frozen? ⟨w2.heap.size, o, none⟩ = _ := fun o => b3.frozen (p := ⟨w2.heap.size, o, none⟩) (by go_size); clear zzb3
  go_wp2_with fail
  rw [rounds_succ]
  go_wp2_with fail
  refine (l01Times_v (-1) (0) (0) (-1) (p) (q) (r) (s) (-p) (-q) (-r) (-s) _ E2.out E1.out X2.out Y2.out Z2.out T2.out E3.out).mono ?_
  rintro e w4 ⟨rfl, b4⟩
  have zzb4 := b4.size; (try simp at zzb4); have zb4_w0 : w.heap.size < w4.heap.size := (by omega); have kcb4_w0 : ∀ o, w4.cell? ⟨w.heap.size, o, none⟩ = _ := fun o => b4.cell (p := ⟨w.heap.size, o, none⟩) (by go_size); have kfb4_w0 : ∀ o, w4.frozen? ⟨w.heap.size, o, none⟩ = _ := fun o => b4.frozen (p := ⟨w.heap.size, o, none⟩) (by go_size); have zb4_w30 : w3.heap.size < w4.heap.size := (by omega); have kcb4_w30 : ∀ o, w4.cell? ⟨w3.heap.size, o, none⟩ = _ := fun o => b4.cell (p := ⟨w3.heap.size, o, none⟩) (by go_size); have kfb4_w30 : ∀ o, w4.frozen? ⟨w3.heap.size, o, none⟩ = _ := fun o => b4.frozen (p := ⟨w3.heap.size, o, none⟩) (by go_size); clear zzb4
  go_wp2_with fail
  rw [rounds_succ]
  go_wp2_with fail
  refine (l01Times_v (-p) (-q) (-r) (-s) (p) (q) (r) (s) (1) (0) (0) (1) _ E3.out E1.out X3.out Y3.out Z3.out T3.out E4.out).mono ?_
  rintro e w5 ⟨rfl, b5⟩
  have zzb5 := b5.size; (try simp at zzb5); have zb5_w0 : w.heap.size < w5.heap.size := (by omega); have kcb5_w0 : ∀ o, w5.cell? ⟨w.heap.size, o, none⟩ = _ := fun o => b5.cell (p := ⟨w.heap.size, o, none⟩) (by go_size); have kfb5_w0 : ∀ o, w5.frozen? ⟨w.heap.size, o, none⟩ = _ := fun o => b5.frozen (p := ⟨w.heap.size, o, none⟩) (by go_size); have zb5_w40 : w4.heap.size < w5.heap.size := (by omega); have kcb5_w40 : ∀ o, w5.cell? ⟨w4.heap.size, o, none⟩ = _ := fun o => b5.cell (p := ⟨w4.heap.size, o, none⟩) (by go_size); have kfb5_w40 : ∀ o, w5.frozen? ⟨w4.heap.size, o, none⟩ = _ := fun o => b5.frozen (p := ⟨w4.heap.size, o, none⟩) (by go_size); clear zzb5
  go_wp2_with fail
  rw [rounds_succ]
  go_wp2
  go_returns
  exact ⟨rfl, (by repeat' (first | (with_reducible exact Below.refl _ _) | (with_reducible assumption) | (with_reducible refine below_drewN ?_ _) | (with_reducible refine Below.drew ?_) | (with_reducible refine Below.alloc ?_ ?_ _) | (with_reducible refine Below.setCell ?_ ?_ _) | (with_reducible refine Below.trans ?_ (Below.mono (by with_reducible assumption) ?_)) | go_size | (dsimp only; omega)))⟩
set_option maxHeartbeats 4000000 in
theorem sOrderOf_one (p q r s : Int) (w : World) (h : isM p q r s = true) (hk : ¬ 1 < kindOf p q r s) (ht : p + s = 1) :
    Calls Tryz.prog 53 #[.agg #[.int .i64 p, .int .i64 q, .int .i64 r, .int .i64 s]] w fun e w' => e = .returned (.tuple #[.int .i64 6, .int .i64 0]) ∧ Below w.heap.size w w' := by
  obtain ⟨⟨hp0, hp1⟩, ⟨hq0, hq1⟩, ⟨hr0, hr1⟩, ⟨hs0, hs1⟩, hd⟩ := isM_iff.mp h
  have X1 := Lib.hid (show (p) * (p) + (q) * (r) = -s by grind)
  have Y1 := Lib.hid (show (p) * (q) + (q) * (s) = q by grind)
  have Z1 := Lib.hid (show (r) * (p) + (s) * (r) = r by grind)
  have T1 := Lib.hid (show (r) * (q) + (s) * (s) = -p by grind)
  have X2 := Lib.hid (show (-s) * (p) + (q) * (r) = -1 by grind)
  have Y2 := Lib.hid (show (-s) * (q) + (q) * (s) = 0 by grind)
  have Z2 := Lib.hid (show (r) * (p) + (-p) * (r) = 0 by grind)
  have T2 := Lib.hid (show (r) * (q) + (-p) * (s) = -1 by grind)
  have X3 := Lib.hid (show (-1) * (p) + (0) * (r) = -p by grind)
  have Y3 := Lib.hid (show (-1) * (q) + (0) * (s) = -q by grind)
  have Z3 := Lib.hid (show (0) * (p) + (-1) * (r) = -r by grind)
  have T3 := Lib.hid (show (0) * (q) + (-1) * (s) = -s by grind)
  have X4 := Lib.hid (show (-p) * (p) + (-q) * (r) = s by grind)
  have Y4 := Lib.hid (show (-p) * (q) + (-q) * (s) = -q by grind)
  have Z4 := Lib.hid (show (-r) * (p) + (-s) * (r) = -r by grind)
  have T4 := Lib.hid (show (-r) * (q) + (-s) * (s) = p by grind)
  have X5 := Lib.hid (show (s) * (p) + (-q) * (r) = 1 by grind)
  have Y5 := Lib.hid (show (s) * (q) + (-q) * (s) = 0 by grind)
  have Z5 := Lib.hid (show (-r) * (p) + (p) * (r) = 0 by grind)
  have T5 := Lib.hid (show (-r) * (q) + (p) * (s) = 1 by grind)
  have E1 := Lib.hid (show M4.ent ⟨p, q, r, s⟩ = true from ent4 (by omega) (by omega) (by omega) (by omega))
  have E2 := Lib.hid (show M4.ent ⟨-s, q, r, -p⟩ = true from ent4 (by omega) (by omega) (by omega) (by omega))
  have E3 := Lib.hid (show M4.ent ⟨-1, 0, 0, -1⟩ = true from ent4 (by omega) (by omega) (by omega) (by omega))
  have E4 := Lib.hid (show M4.ent ⟨-p, -q, -r, -s⟩ = true from ent4 (by omega) (by omega) (by omega) (by omega))
  have E5 := Lib.hid (show M4.ent ⟨s, -q, -r, p⟩ = true from ent4 (by omega) (by omega) (by omega) (by omega))
  have E6 := Lib.hid (show M4.ent ⟨1, 0, 0, 1⟩ = true from ent4 (by omega) (by omega) (by omega) (by omega))
  have n1 : (p == 1 && (q == 0 && (r == 0 && s == 1))) = false := by
    rcases Bool.eq_false_or_eq_true (p == 1 && (q == 0 && (r == 0 && s == 1))) with h | h
    · simp at h; omega
    · exact h
  have n2 : (-s == 1 && (q == 0 && (r == 0 && -p == 1))) = false := by
    rcases Bool.eq_false_or_eq_true (-s == 1 && (q == 0 && (r == 0 && -p == 1))) with h | h
    · simp at h; omega
    · exact h
  have n4 : (-p == 1 && (-q == 0 && (-r == 0 && -s == 1))) = false := by
    rcases Bool.eq_false_or_eq_true (-p == 1 && (-q == 0 && (-r == 0 && -s == 1))) with h | h
    · simp at h; omega
    · exact h
  have n5 : (s == 1 && (-q == 0 && (-r == 0 && p == 1))) = false := by
    rcases Bool.eq_false_or_eq_true (s == 1 && (-q == 0 && (-r == 0 && p == 1))) with h | h
    · simp at h; omega
    · exact h
  clear hd ht
  go_enter Tryz.func53, Tryz.ntmps53
  go_wp2_with fail
  refine (l01Is_c _ _ _ _ _).mono ?_
  rintro e w1 ⟨rfl, b1⟩
  have zzb1 := b1.size; (try simp at zzb1); have zb1_0 : w.heap.size < w1.heap.size := (by omega); have kcb1_0 : ∀ o, w1.cell? ⟨w.heap.size, o, none⟩ = _ := fun o => b1.cell (p := ⟨w.heap.size, o, none⟩) (by go_size); have kfb1_0 : ∀ o, w1.frozen? ⟨w.heap.size, o, none⟩ = _ := fun o => b1.frozen (p := ⟨w.heap.size, o, none⟩) (by go_size); clear zzb1
  go_wp2_with fail
  refine (l01Kind_c _ _ _ _ _ (by omega) (by omega) (by omega) (by omega)).mono ?_
  rintro e w2 ⟨rfl, b2⟩
  have zzb2 := b2.size; (try simp at zzb2); have zb2_0 : w.heap.size < w2.heap.size := (by omega); have kcb2_0 : ∀ o, w2.cell? ⟨w.heap.size, o, none⟩ = _ := fun o => b2.cell (p := ⟨w.heap.size, o, none⟩) (by go_size); have kfb2_0 : ∀ o, w2.frozen? ⟨w.heap.size, o, none⟩ = _ := fun o => b2.frozen (p := ⟨w.heap.size, o, none⟩) (by go_size); clear zzb2
  go_wp2
  refine wp_loop_rounds 6 ?_
  rw [rounds_succ]
  go_wp2_with fail
  refine (l01Times_v (p) (q) (r) (s) (p) (q) (r) (s) (-s) (q) (r) (-p) _ E1.out E1.out X1.out Y1.out Z1.out T1.out E2.out).mono ?_
  rintro e w3 ⟨rfl, b3⟩
  have zzb3 := b3.size; (try simp at zzb3); have zb3_w0 : w.heap.size < w3.heap.size := (by omega); have kcb3_w0 : ∀ o, w3.cell? ⟨w.heap.size, o, none⟩ = _ := fun o => b3.cell (p := ⟨w.heap.size, o, none⟩) (by go_size); have kfb3_w0 : ∀ o, w3.frozen? ⟨w.heap.size, o, none⟩ = _ := fun o => b3.frozen (p := ⟨w.heap.size, o, none⟩) (by go_size); have zb3_w20 : w2.heap.size < w3.heap.size := (by omega); have kcb3_w20 : ∀ o, w3.cell? ⟨w2.heap.size, o, none⟩ = _ := fun o => b3.cell (p := ⟨w2.heap.size, o, none⟩) (by go_size); have kfb3_w20 : ∀ o, w3.frozen? ⟨w2.heap.size, o, none⟩ = _ := fun o => b3.frozen (p := ⟨w2.heap.size, o, none⟩) (by go_size); clear zzb3
  go_wp2_with fail
  rw [rounds_succ]
  go_wp2_with fail
  refine (l01Times_v (-s) (q) (r) (-p) (p) (q) (r) (s) (-1) (0) (0) (-1) _ E2.out E1.out X2.out Y2.out Z2.out T2.out E3.out).mono ?_
  rintro e w4 ⟨rfl, b4⟩
  have zzb4 := b4.size; (try simp at zzb4); have zb4_w0 : w.heap.size < w4.heap.size := (by omega); have kcb4_w0 : ∀ o, w4.cell? ⟨w.heap.size, o, none⟩ = _ := fun o => b4.cell (p := ⟨w.heap.size, o, none⟩) (by go_size); have kfb4_w0 : ∀ o, w4.frozen? ⟨w.heap.size, o, none⟩ = _ := fun o => b4.frozen (p := ⟨w.heap.size, o, none⟩) (by go_size); have zb4_w30 : w3.heap.size < w4.heap.size := (by omega); have kcb4_w30 : ∀ o, w4.cell? ⟨w3.heap.size, o, none⟩ = _ := fun o => b4.cell (p := ⟨w3.heap.size, o, none⟩) (by go_size); have kfb4_w30 : ∀ o, w4.frozen? ⟨w3.heap.size, o, none⟩ = _ := fun o => b4.frozen (p := ⟨w3.heap.size, o, none⟩) (by go_size); clear zzb4
  go_wp2_with fail
  rw [rounds_succ]
  go_wp2_with fail
  refine (l01Times_v (-1) (0) (0) (-1) (p) (q) (r) (s) (-p) (-q) (-r) (-s) _ E3.out E1.out X3.out Y3.out Z3.out T3.out E4.out).mono ?_
  rintro e w5 ⟨rfl, b5⟩
  have zzb5 := b5.size; (try simp at zzb5); have zb5_w0 : w.heap.size < w5.heap.size := (by omega); have kcb5_w0 : ∀ o, w5.cell? ⟨w.heap.size, o, none⟩ = _ := fun o => b5.cell (p := ⟨w.heap.size, o, none⟩) (by go_size); have kfb5_w0 : ∀ o, w5.frozen? ⟨w.heap.size, o, none⟩ = _ := fun o => b5.frozen (p := ⟨w.heap.size, o, none⟩) (by go_size); have zb5_w40 : w4.heap.size < w5.heap.size := (by omega); have kcb5_w40 : ∀ o, w5.cell? ⟨w4.heap.size, o, none⟩ = _ := fun o => b5.cell (p := ⟨w4.heap.size, o, none⟩) (by go_size); have kfb5_w40 : ∀ o, w5.frozen? ⟨w4.heap.size, o, none⟩ = _ := fun o => b5.frozen (p := ⟨w4.heap.size, o, none⟩) (by go_size); clear zzb5
  go_wp2_with fail
  rw [rounds_succ]
  go_wp2_with fail
  refine (l01Times_v (-p) (-q) (-r) (-s) (p) (q) (r) (s) (s) (-q) (-r) (p) _ E4.out E1.out X4.out Y4.out Z4.out T4.out E5.out).mono ?_
  rintro e w6 ⟨rfl, b6⟩
  have zzb6 := b6.size; (try simp at zzb6); have zb6_w0 : w.heap.size < w6.heap.size := (by omega); have kcb6_w0 : ∀ o, w6.cell? ⟨w.heap.size, o, none⟩ = _ := fun o => b6.cell (p := ⟨w.heap.size, o, none⟩) (by go_size); have kfb6_w0 : ∀ o, w6.frozen? ⟨w.heap.size, o, none⟩ = _ := fun o => b6.frozen (p := ⟨w.heap.size, o, none⟩) (by go_size); have zb6_w50 : w5.heap.size < w6.heap.size := (by omega); have kcb6_w50 : ∀ o, w6.cell? ⟨w5.heap.size, o, none⟩ = _ := fun o => b6.cell (p := ⟨w5.heap.size, o, none⟩) (by go_size); have kfb6_w50 : ∀ o, w6.frozen? ⟨w5.heap.size, o, none⟩ = _ := fun o => b6.frozen (p := ⟨w5.heap.size, o, none⟩) (by go_size); clear zzb6
  go_wp2_with fail
  rw [rounds_succ]
  go_wp2_with fail
  refine (l01Times_v (s) (-q) (-r) (p) (p) (q) (r) (s) (1) (0) (0) (1) _ E5.out E1.out X5.out Y5.out Z5.out T5.out E6.out).mono ?_
  rintro e w7 ⟨rfl, b7⟩
  have zzb7 := b7.size; (try simp at zzb7); have zb7_w0 : w.heap.size < w7.heap.size := (by omega); have kcb7_w0 : ∀ o, w7.cell? ⟨w.heap.size, o, none⟩ = _ := fun o => b7.cell (p := ⟨w.heap.size, o, none⟩) (by go_size); have kfb7_w0 : ∀ o, w7.frozen? ⟨w.heap.size, o, none⟩ = _ := fun o => b7.frozen (p := ⟨w.heap.size, o, none⟩) (by go_size); have zb7_w60 : w6.heap.size < w7.heap.size := (by omega); have kcb7_w60 : ∀ o, w7.cell? ⟨w6.heap.size, o, none⟩ = _ := fun o => b7.cell (p := ⟨w6.heap.size, o, none⟩) (by go_size); have kfb7_w60 : ∀ o, w7.frozen? ⟨w6.heap.size, o, none⟩ = _ := fun o => b7.frozen (p := ⟨w6.heap.size, o, none⟩) (by go_size); clear zzb7
  go_wp2_with fail
  rw [rounds_succ]
  go_wp2
  go_returns
  exact ⟨rfl, (by repeat' (first | (with_reducible exact Below.refl _ _) | (with_reducible assumption) | (with_reducible refine below_drewN ?_ _) | (with_reducible refine Below.drew ?_) | (with_reducible refine Below.alloc ?_ ?_ _) | (with_reducible refine Below.setCell ?_ ?_ _) | (with_reducible refine Below.trans ?_ (Below.mono (by with_reducible assumption) ?_)) | go_size | (dsimp only; omega)))⟩
set_option maxHeartbeats 4000000 in
theorem sOrderOf_minus (p q r s : Int) (w : World) (h : isM p q r s = true) (hk : ¬ 1 < kindOf p q r s) (ht : p + s = -1) :
    Calls Tryz.prog 53 #[.agg #[.int .i64 p, .int .i64 q, .int .i64 r, .int .i64 s]] w fun e w' => e = .returned (.tuple #[.int .i64 3, .int .i64 0]) ∧ Below w.heap.size w w' := by
  obtain ⟨⟨hp0, hp1⟩, ⟨hq0, hq1⟩, ⟨hr0, hr1⟩, ⟨hs0, hs1⟩, hd⟩ := isM_iff.mp h
  have X1 := Lib.hid (show (p) * (p) + (q) * (r) = s by grind)
  have Y1 := Lib.hid (show (p) * (q) + (q) * (s) = -q by grind)
  have Z1 := Lib.hid (show (r) * (p) + (s) * (r) = -r by grind)
  have T1 := Lib.hid (show (r) * (q) + (s) * (s) = p by grind)
  have X2 := Lib.hid (show (s) * (p) + (-q) * (r) = 1 by grind)
  have Y2 := Lib.hid (show (s) * (q) + (-q) * (s) = 0 by grind)
  have Z2 := Lib.hid (show (-r) * (p) + (p) * (r) = 0 by grind)
  have T2 := Lib.hid (show (-r) * (q) + (p) * (s) = 1 by grind)
  have E1 := Lib.hid (show M4.ent ⟨p, q, r, s⟩ = true from ent4 (by omega) (by omega) (by omega) (by omega))
  have E2 := Lib.hid (show M4.ent ⟨s, -q, -r, p⟩ = true from ent4 (by omega) (by omega) (by omega) (by omega))
  have E3 := Lib.hid (show M4.ent ⟨1, 0, 0, 1⟩ = true from ent4 (by omega) (by omega) (by omega) (by omega))
  have n1 : (p == 1 && (q == 0 && (r == 0 && s == 1))) = false := by
    rcases Bool.eq_false_or_eq_true (p == 1 && (q == 0 && (r == 0 && s == 1))) with h | h
    · simp at h; omega
    · exact h
  have n2 : (s == 1 && (-q == 0 && (-r == 0 && p == 1))) = false := by
    rcases Bool.eq_false_or_eq_true (s == 1 && (-q == 0 && (-r == 0 && p == 1))) with h | h
    · simp at h; omega
    · exact h
  clear hd ht
  go_enter Tryz.func53, Tryz.ntmps53
  go_wp2_with fail
  refine (l01Is_c _ _ _ _ _).mono ?_
  rintro e w1 ⟨rfl, b1⟩
  have zzb1 := b1.size; (try simp at zzb1); have zb1_0 : w.heap.size < w1.heap.size := (by omega); have kcb1_0 : ∀ o, w1.cell? ⟨w.heap.size, o, none⟩ = _ := fun o => b1.cell (p := ⟨w.heap.size, o, none⟩) (by go_size); have kfb1_0 : ∀ o, w1.frozen? ⟨w.heap.size, o, none⟩ = _ := fun o => b1.frozen (p := ⟨w.heap.size, o, none⟩) (by go_size); clear zzb1
  go_wp2_with fail
  refine (l01Kind_c _ _ _ _ _ (by omega) (by omega) (by omega) (by omega)).mono ?_
  rintro e w2 ⟨rfl, b2⟩
  have zzb2 := b2.size; (try simp at zzb2); have zb2_0 : w.heap.size < w2.heap.size := (by omega); have kcb2_0 : ∀ o, w2.cell? ⟨w.heap.size, o, none⟩ = _ := fun o => b2.cell (p := ⟨w.heap.size, o, none⟩) (by go_size); have kfb2_0 : ∀ o, w2.frozen? ⟨w.heap.size, o, none⟩ = _ := fun o => b2.frozen (p := ⟨w.heap.size, o, none⟩) (by go_size); clear zzb2
  go_wp2
  refine wp_loop_rounds 3 ?_
  rw [rounds_succ]
  go_wp2_with fail
  refine (l01Times_v (p) (q) (r) (s) (p) (q) (r) (s) (s) (-q) (-r) (p) _ E1.out E1.out X1.out Y1.out Z1.out T1.out E2.out).mono ?_
  rintro e w3 ⟨rfl, b3⟩
  have zzb3 := b3.size; (try simp at zzb3); have zb3_w0 : w.heap.size < w3.heap.size := (by omega); have kcb3_w0 : ∀ o, w3.cell? ⟨w.heap.size, o, none⟩ = _ := fun o => b3.cell (p := ⟨w.heap.size, o, none⟩) (by go_size); have kfb3_w0 : ∀ o, w3.frozen? ⟨w.heap.size, o, none⟩ = _ := fun o => b3.frozen (p := ⟨w.heap.size, o, none⟩) (by go_size); have zb3_w20 : w2.heap.size < w3.heap.size := (by omega); have kcb3_w20 : ∀ o, w3.cell? ⟨w2.heap.size, o, none⟩ = _ := fun o => b3.cell (p := ⟨w2.heap.size, o, none⟩) (by go_size); have kfb3_w20 : ∀ o, w3.frozen? ⟨w2.heap.size, o, none⟩ = _ := fun o => b3.frozen (p := ⟨w2.heap.size, o, none⟩) (by go_size); clear zzb3
  go_wp2_with fail
  rw [rounds_succ]
  go_wp2_with fail
  refine (l01Times_v (s) (-q) (-r) (p) (p) (q) (r) (s) (1) (0) (0) (1) _ E2.out E1.out X2.out Y2.out Z2.out T2.out E3.out).mono ?_
  rintro e w4 ⟨rfl, b4⟩
  have zzb4 := b4.size; (try simp at zzb4); have zb4_w0 : w.heap.size < w4.heap.size := (by omega); have kcb4_w0 : ∀ o, w4.cell? ⟨w.heap.size, o, none⟩ = _ := fun o => b4.cell (p := ⟨w.heap.size, o, none⟩) (by go_size); have kfb4_w0 : ∀ o, w4.frozen? ⟨w.heap.size, o, none⟩ = _ := fun o => b4.frozen (p := ⟨w.heap.size, o, none⟩) (by go_size); have zb4_w30 : w3.heap.size < w4.heap.size := (by omega); have kcb4_w30 : ∀ o, w4.cell? ⟨w3.heap.size, o, none⟩ = _ := fun o => b4.cell (p := ⟨w3.heap.size, o, none⟩) (by go_size); have kfb4_w30 : ∀ o, w4.frozen? ⟨w3.heap.size, o, none⟩ = _ := fun o => b4.frozen (p := ⟨w3.heap.size, o, none⟩) (by go_size); clear zzb4
  go_wp2_with fail
  rw [rounds_succ]
  go_wp2
  go_returns
  exact ⟨rfl, (by repeat' (first | (with_reducible exact Below.refl _ _) | (with_reducible assumption) | (with_reducible refine below_drewN ?_ _) | (with_reducible refine Below.drew ?_) | (with_reducible refine Below.alloc ?_ ?_ _) | (with_reducible refine Below.setCell ?_ ?_ _) | (with_reducible refine Below.trans ?_ (Below.mono (by with_reducible assumption) ?_)) | go_size | (dsimp only; omega)))⟩
set_option maxHeartbeats 4000000 in
theorem sOrderOf_unit (w : World) :
    Calls Tryz.prog 53 #[.agg #[.int .i64 1, .int .i64 0, .int .i64 0, .int .i64 1]] w fun e w' => e = .returned (.tuple #[.int .i64 1, .int .i64 0]) ∧ Below w.heap.size w w' := by
  have h : isM 1 0 0 1 = true := by decide
  have hk : ¬ 1 < kindOf 1 0 0 1 := by decide
  go_enter Tryz.func53, Tryz.ntmps53
  go_wp2_with fail
  refine (l01Is_c _ _ _ _ _).mono ?_
  rintro e w1 ⟨rfl, b1⟩
  have zzb1 := b1.size; (try simp at zzb1); have zb1_0 : w.heap.size < w1.heap.size := (by omega); have kcb1_0 : ∀ o, w1.cell? ⟨w.heap.size, o, none⟩ = _ := fun o => b1.cell (p := ⟨w.heap.size, o, none⟩) (by go_size); have kfb1_0 : ∀ o, w1.frozen? ⟨w.heap.size, o, none⟩ = _ := fun o => b1.frozen (p := ⟨w.heap.size, o, none⟩) (by go_size); clear zzb1
  go_wp2_with fail
  refine (l01Kind_c _ _ _ _ _ (by omega) (by omega) (by omega) (by omega)).mono ?_
  rintro e w2 ⟨rfl, b2⟩
  have zzb2 := b2.size; (try simp at zzb2); have zb2_0 : w.heap.size < w2.heap.size := (by omega); have kcb2_0 : ∀ o, w2.cell? ⟨w.heap.size, o, none⟩ = _ := fun o => b2.cell (p := ⟨w.heap.size, o, none⟩) (by go_size); have kfb2_0 : ∀ o, w2.frozen? ⟨w.heap.size, o, none⟩ = _ := fun o => b2.frozen (p := ⟨w.heap.size, o, none⟩) (by go_size); clear zzb2
  go_wp2
  refine wp_loop_rounds 1 ?_
  rw [rounds_succ]
  go_wp2
  go_returns
  exact ⟨rfl, (by repeat' (first | (with_reducible exact Below.refl _ _) | (with_reducible assumption) | (with_reducible refine below_drewN ?_ _) | (with_reducible refine Below.drew ?_) | (with_reducible refine Below.alloc ?_ ?_ _) | (with_reducible refine Below.setCell ?_ ?_ _) | (with_reducible refine Below.trans ?_ (Below.mono (by with_reducible assumption) ?_)) | go_size | (dsimp only; omega)))⟩
set_option maxHeartbeats 4000000 in
theorem sOrderOf_neg (w : World) :
    Calls Tryz.prog 53 #[.agg #[.int .i64 ((-1)), .int .i64 0, .int .i64 0, .int .i64 ((-1))]] w fun e w' => e = .returned (.tuple #[.int .i64 2, .int .i64 0]) ∧ Below w.heap.size w w' := by
  have h : isM (-1) 0 0 (-1) = true := by decide
  have hk : ¬ 1 < kindOf (-1) 0 0 (-1) := by decide
  have X1 := Lib.hid (show ((-1)) * ((-1)) + (0) * (0) = 1 by grind)
  have Y1 := Lib.hid (show ((-1)) * (0) + (0) * ((-1)) = 0 by grind)
  have Z1 := Lib.hid (show (0) * ((-1)) + ((-1)) * (0) = 0 by grind)
  have T1 := Lib.hid (show (0) * (0) + ((-1)) * ((-1)) = 1 by grind)
  have E1 := Lib.hid (show M4.ent ⟨(-1), 0, 0, (-1)⟩ = true from ent4 (by omega) (by omega) (by omega) (by omega))
  have E2 := Lib.hid (show M4.ent ⟨1, 0, 0, 1⟩ = true from ent4 (by omega) (by omega) (by omega) (by omega))
  go_enter Tryz.func53, Tryz.ntmps53
  go_wp2_with fail
  refine (l01Is_c _ _ _ _ _).mono ?_
  rintro e w1 ⟨rfl, b1⟩
  have zzb1 := b1.size; (try simp at zzb1); have zb1_0 : w.heap.size < w1.heap.size := (by omega); have kcb1_0 : ∀ o, w1.cell? ⟨w.heap.size, o, none⟩ = _ := fun o => b1.cell (p := ⟨w.heap.size, o, none⟩) (by go_size); have kfb1_0 : ∀ o, w1.frozen? ⟨w.heap.size, o, none⟩ = _ := fun o => b1.frozen (p := ⟨w.heap.size, o, none⟩) (by go_size); clear zzb1
  go_wp2_with fail
  refine (l01Kind_c _ _ _ _ _ (by omega) (by omega) (by omega) (by omega)).mono ?_
  rintro e w2 ⟨rfl, b2⟩
  have zzb2 := b2.size; (try simp at zzb2); have zb2_0 : w.heap.size < w2.heap.size := (by omega); have kcb2_0 : ∀ o, w2.cell? ⟨w.heap.size, o, none⟩ = _ := fun o => b2.cell (p := ⟨w.heap.size, o, none⟩) (by go_size); have kfb2_0 : ∀ o, w2.frozen? ⟨w.heap.size, o, none⟩ = _ := fun o => b2.frozen (p := ⟨w.heap.size, o, none⟩) (by go_size); clear zzb2
  go_wp2
  refine wp_loop_rounds 2 ?_
  rw [rounds_succ]
  go_wp2_with fail
  refine (l01Times_v ((-1)) (0) (0) ((-1)) ((-1)) (0) (0) ((-1)) (1) (0) (0) (1) _ E1.out E1.out X1.out Y1.out Z1.out T1.out E2.out).mono ?_
  rintro e w3 ⟨rfl, b3⟩
  have zzb3 := b3.size; (try simp at zzb3); have zb3_w0 : w.heap.size < w3.heap.size := (by omega); have kcb3_w0 : ∀ o, w3.cell? ⟨w.heap.size, o, none⟩ = _ := fun o => b3.cell (p := ⟨w.heap.size, o, none⟩) (by go_size); have kfb3_w0 : ∀ o, w3.frozen? ⟨w.heap.size, o, none⟩ = _ := fun o => b3.frozen (p := ⟨w.heap.size, o, none⟩) (by go_size); have zb3_w20 : w2.heap.size < w3.heap.size := (by omega); have kcb3_w20 : ∀ o, w3.cell? ⟨w2.heap.size, o, none⟩ = _ := fun o => b3.cell (p := ⟨w2.heap.size, o, none⟩) (by go_size); have kfb3_w20 : ∀ o, w3.frozen? ⟨w2.heap.size, o, none⟩ = _ := fun o => b3.frozen (p := ⟨w2.heap.size, o, none⟩) (by go_size); clear zzb3
  go_wp2_with fail
  rw [rounds_succ]
  go_wp2
  go_returns
  exact ⟨rfl, (by repeat' (first | (with_reducible exact Below.refl _ _) | (with_reducible assumption) | (with_reducible refine below_drewN ?_ _) | (with_reducible refine Below.drew ?_) | (with_reducible refine Below.alloc ?_ ?_ _) | (with_reducible refine Below.setCell ?_ ?_ _) | (with_reducible refine Below.trans ?_ (Below.mono (by with_reducible assumption) ?_)) | go_size | (dsimp only; omega)))⟩
theorem sOrderOf_yes (p q r s : Int) (w : World) (h : isM p q r s = true) (hk : ¬ 1 < kindOf p q r s) :
    Calls Tryz.prog 53 #[.agg #[.int .i64 p, .int .i64 q, .int .i64 r, .int .i64 s]] w fun e w' => e = .returned (.tuple #[.int .i64 (ordOf (p + s)), .int .i64 0]) ∧ Below w.heap.size w w' := by
  obtain ⟨-, -, -, -, hd⟩ := isM_iff.mp h
  have hu := kind_u hd
  by_cases hz : q = 0 ∧ r = 0
  · obtain ⟨rfl, rfl⟩ := hz
    rcases hu rfl rfl with ⟨rfl, rfl⟩ | ⟨rfl, rfl⟩
    · exact sOrderOf_unit w
    · exact sOrderOf_neg w
  · have h3 : p + s = 0 ∨ p + s = 1 ∨ p + s = -1 := by
      clear hu hd h
      unfold kindOf at hk
      rw [if_neg hz] at hk
      grind
    rcases h3 with h0 | h0 | h0
    · rw [h0]; exact sOrderOf_zero p q r s w h hk h0
    · rw [h0]; exact sOrderOf_one p q r s w h hk h0
    · rw [h0]; exact sOrderOf_minus p q r s w h hk h0
end Go.Proofs.YtlkhhpckgcdeeaaGreatDoor
