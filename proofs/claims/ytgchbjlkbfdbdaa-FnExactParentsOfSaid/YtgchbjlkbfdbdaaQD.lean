/- The laws of PathOf and of ParentsOf: the walks. -/
import Derived.Test.YtgchbjlkbfdbdaaQC
namespace Go.Proofs.Ytgchbjlkbfdbdaa
open Go.RowKit
open Plain (On)
set_option linter.unusedVariables false
set_option linter.unusedSimpArgs false
attribute [local go_sem] run_min_int4 run_max_int4
theorem tree_walk {p q : Int} (h : treeC p q = 0) : ∃ L A B C D, Plain.Walk 0 1 1 0 q p L A B C D ∧ L.length ≤ 20000 := by
  obtain ⟨hf, hp0, hp1, hq0, hq1⟩ := treeC_zero h
  have hg : Int.gcd q p = 1 := by rw [Int.gcd_comm]; exact (isF_iff.mp hf).2.2.1
  obtain ⟨L, A, B, C, D, hw, hl⟩ := Plain.walk_exists 20000 0 1 1 0 q p hq0 hp0 hg (by omega)
  exact ⟨L, A, B, C, D, hw, hl⟩
set_option maxHeartbeats 2000000 in
theorem ParentsOf_no (p q c : Int) (w : World) (hc : treeC p q = c) (hz : c ≠ 0) :
    Calls Try.prog 22 #[.agg #[.int .i64 p, .int .i64 q]] w fun e w' => e = .returned (.tuple #[.agg #[.int .i64 0, .int .i64 0], .agg #[.int .i64 0, .int .i64 0], .int .i64 c]) ∧ Below w.heap.size w w' := by
  have HC := Lib.hid hc
  have hz' : (c == 0) = false := by simpa using hz
  have hz2 : (c != 0) = true := by simpa using hz
  clear hc
  go_enter Try.func22, Try.ntmps22
  go_wp2_with fail
  refine (treeCode_c _ _ _).mono ?_
  rintro e w1 ⟨rfl, b1⟩
  have zzb1 := b1.size; (try simp at zzb1); have zb1_0 : w.heap.size < w1.heap.size := (by omega); have kcb1_0 : ∀ o, w1.cell? ⟨w.heap.size, o, none⟩ = _ := fun o => b1.cell (p := ⟨w.heap.size, o, none⟩) (by go_size); have kfb1_0 : ∀ o, w1.frozen? ⟨w.heap.size, o, none⟩ = _ := fun o => b1.frozen (p := ⟨w.heap.size, o, none⟩) (by go_size); have zb1_1 : w.heap.size + 1 < w1.heap.size := (by omega); have kcb1_1 : ∀ o, w1.cell? ⟨w.heap.size + 1, o, none⟩ = _ := fun o => b1.cell (p := ⟨w.heap.size + 1, o, none⟩) (by go_size); have kfb1_1 : ∀ o, w1.frozen? ⟨w.heap.size + 1, o, none⟩ = _ := fun o => b1.frozen (p := ⟨w.heap.size + 1, o, none⟩) (by go_size); have zb1_2 : w.heap.size + 2 < w1.heap.size := (by omega); have kcb1_2 : ∀ o, w1.cell? ⟨w.heap.size + 2, o, none⟩ = _ := fun o => b1.cell (p := ⟨w.heap.size + 2, o, none⟩) (by go_size); have kfb1_2 : ∀ o, w1.frozen? ⟨w.heap.size + 2, o, none⟩ = _ := fun o => b1.frozen (p := ⟨w.heap.size + 2, o, none⟩) (by go_size); clear zzb1
  rw [HC.out]
  go_wp2
  exact bodyPost_ret (v := .tuple #[.agg #[.int .i64 0, .int .i64 0], .agg #[.int .i64 0, .int .i64 0], .int .i64 c]) (by simp only [results, Try.results22]; go_simp) rfl ⟨rfl, (by repeat' (first | (with_reducible exact Below.refl _ _) | (with_reducible assumption) | (with_reducible refine below_drewN ?_ _) | (with_reducible refine Below.drew ?_) | (with_reducible refine Below.alloc ?_ ?_ _) | (with_reducible refine Below.setCell ?_ ?_ _) | (with_reducible refine Below.trans ?_ (Below.mono (by with_reducible assumption) ?_)) | go_size | (dsimp only; omega)))⟩
set_option maxRecDepth 100000 in
set_option maxHeartbeats 4000000 in
theorem ParentsOf_yes (p q A B C D : Int) (L : List UInt8) (w : World) (hc : treeC p q = 0) (hW : Plain.Walk 0 1 1 0 q p L A B C D) (hL : L.length ≤ 20000) :
    Calls Try.prog 22 #[.agg #[.int .i64 p, .int .i64 q]] w fun e w' => e = .returned (.tuple #[.agg #[.int .i64 A, .int .i64 B], .agg #[.int .i64 C, .int .i64 D], .int .i64 0]) ∧ Below w.heap.size w w' := by
  obtain ⟨hf, hp0, hp1, hq0, hq1⟩ := treeC_zero hc
  have HC := Lib.hid hc
  have HW := Lib.hid hW
  clear hc hW hf
  go_enter Try.func22, Try.ntmps22
  go_wp2_with fail
  refine (treeCode_c _ _ _).mono ?_
  rintro e w1 ⟨rfl, b1⟩
  have zzb1 := b1.size; (try simp at zzb1); have zb1_0 : w.heap.size < w1.heap.size := (by omega); have kcb1_0 : ∀ o, w1.cell? ⟨w.heap.size, o, none⟩ = _ := fun o => b1.cell (p := ⟨w.heap.size, o, none⟩) (by go_size); have kfb1_0 : ∀ o, w1.frozen? ⟨w.heap.size, o, none⟩ = _ := fun o => b1.frozen (p := ⟨w.heap.size, o, none⟩) (by go_size); have zb1_1 : w.heap.size + 1 < w1.heap.size := (by omega); have kcb1_1 : ∀ o, w1.cell? ⟨w.heap.size + 1, o, none⟩ = _ := fun o => b1.cell (p := ⟨w.heap.size + 1, o, none⟩) (by go_size); have kfb1_1 : ∀ o, w1.frozen? ⟨w.heap.size + 1, o, none⟩ = _ := fun o => b1.frozen (p := ⟨w.heap.size + 1, o, none⟩) (by go_size); have zb1_2 : w.heap.size + 2 < w1.heap.size := (by omega); have kcb1_2 : ∀ o, w1.cell? ⟨w.heap.size + 2, o, none⟩ = _ := fun o => b1.cell (p := ⟨w.heap.size + 2, o, none⟩) (by go_size); have kfb1_2 : ∀ o, w1.frozen? ⟨w.heap.size + 2, o, none⟩ = _ := fun o => b1.frozen (p := ⟨w.heap.size + 2, o, none⟩) (by go_size); clear zzb1
  rw [HC.out]
  go_wp2_with fail
  refine (descend_c p q A B C D L _ hp0 hp1 hq0 hq1 HW.out (by omega)).mono ?_
  rintro e w2 ⟨rfl, b2⟩
  have zz : w.heap.size + 2 < w2.heap.size := by have h1 := b1.size; have h2 := b2.size; simp at h1; omega
  have zzb2 := b2.size; (try simp at zzb2); have zb2_0 : w.heap.size < w2.heap.size := (by omega); have kcb2_0 : ∀ o, w2.cell? ⟨w.heap.size, o, none⟩ = _ := fun o => b2.cell (p := ⟨w.heap.size, o, none⟩) (by go_size); have kfb2_0 : ∀ o, w2.frozen? ⟨w.heap.size, o, none⟩ = _ := fun o => b2.frozen (p := ⟨w.heap.size, o, none⟩) (by go_size); have zb2_1 : w.heap.size + 1 < w2.heap.size := (by omega); have kcb2_1 : ∀ o, w2.cell? ⟨w.heap.size + 1, o, none⟩ = _ := fun o => b2.cell (p := ⟨w.heap.size + 1, o, none⟩) (by go_size); have kfb2_1 : ∀ o, w2.frozen? ⟨w.heap.size + 1, o, none⟩ = _ := fun o => b2.frozen (p := ⟨w.heap.size + 1, o, none⟩) (by go_size); have zb2_2 : w.heap.size + 2 < w2.heap.size := (by omega); have kcb2_2 : ∀ o, w2.cell? ⟨w.heap.size + 2, o, none⟩ = _ := fun o => b2.cell (p := ⟨w.heap.size + 2, o, none⟩) (by go_size); have kfb2_2 : ∀ o, w2.frozen? ⟨w.heap.size + 2, o, none⟩ = _ := fun o => b2.frozen (p := ⟨w.heap.size + 2, o, none⟩) (by go_size); clear zzb2
  go_wp2
  go_region
  go_wp2
  exact bodyPost_ret (v := .tuple #[.agg #[.int .i64 A, .int .i64 B], .agg #[.int .i64 C, .int .i64 D], .int .i64 0]) (by simp only [results, Try.results22]; go_simp) rfl ⟨rfl, (by repeat' (first | (with_reducible exact Below.refl _ _) | (with_reducible assumption) | (with_reducible refine below_drewN ?_ _) | (with_reducible refine Below.drew ?_) | (with_reducible refine Below.alloc ?_ ?_ _) | (with_reducible refine Below.setCell ?_ ?_ _) | (with_reducible refine Below.trans ?_ (Below.mono (by with_reducible assumption) ?_)) | go_size | (dsimp only; omega)))⟩
set_option maxHeartbeats 2000000 in
theorem sParentsOf_no (p q c : Int) (w : World) (hc : treeC p q = c) (hz : c ≠ 0) :
    Calls Try.prog 20 #[.agg #[.int .i64 p, .int .i64 q]] w fun e w' => e = .returned (.tuple #[.agg #[.int .i64 0, .int .i64 0], .agg #[.int .i64 0, .int .i64 0], .int .i64 c]) ∧ Below w.heap.size w w' := by
  have HC := Lib.hid hc
  have hz' : (c == 0) = false := by simpa using hz
  have hz2 : (c != 0) = true := by simpa using hz
  clear hc
  go_enter Try.func20, Try.ntmps20
  go_wp2_with fail
  refine (l03Given_c _ _ _).mono ?_
  rintro e w1 ⟨rfl, b1⟩
  have zzb1 := b1.size; (try simp at zzb1); have zb1_0 : w.heap.size < w1.heap.size := (by omega); have kcb1_0 : ∀ o, w1.cell? ⟨w.heap.size, o, none⟩ = _ := fun o => b1.cell (p := ⟨w.heap.size, o, none⟩) (by go_size); have kfb1_0 : ∀ o, w1.frozen? ⟨w.heap.size, o, none⟩ = _ := fun o => b1.frozen (p := ⟨w.heap.size, o, none⟩) (by go_size); have zb1_1 : w.heap.size + 1 < w1.heap.size := (by omega); have kcb1_1 : ∀ o, w1.cell? ⟨w.heap.size + 1, o, none⟩ = _ := fun o => b1.cell (p := ⟨w.heap.size + 1, o, none⟩) (by go_size); have kfb1_1 : ∀ o, w1.frozen? ⟨w.heap.size + 1, o, none⟩ = _ := fun o => b1.frozen (p := ⟨w.heap.size + 1, o, none⟩) (by go_size); have zb1_2 : w.heap.size + 2 < w1.heap.size := (by omega); have kcb1_2 : ∀ o, w1.cell? ⟨w.heap.size + 2, o, none⟩ = _ := fun o => b1.cell (p := ⟨w.heap.size + 2, o, none⟩) (by go_size); have kfb1_2 : ∀ o, w1.frozen? ⟨w.heap.size + 2, o, none⟩ = _ := fun o => b1.frozen (p := ⟨w.heap.size + 2, o, none⟩) (by go_size); clear zzb1
  rw [HC.out]
  go_wp2
  exact bodyPost_ret (v := .tuple #[.agg #[.int .i64 0, .int .i64 0], .agg #[.int .i64 0, .int .i64 0], .int .i64 c]) (by simp only [results, Try.results20]; go_simp) rfl ⟨rfl, (by repeat' (first | (with_reducible exact Below.refl _ _) | (with_reducible assumption) | (with_reducible refine below_drewN ?_ _) | (with_reducible refine Below.drew ?_) | (with_reducible refine Below.alloc ?_ ?_ _) | (with_reducible refine Below.setCell ?_ ?_ _) | (with_reducible refine Below.trans ?_ (Below.mono (by with_reducible assumption) ?_)) | go_size | (dsimp only; omega)))⟩
set_option maxRecDepth 100000 in
set_option maxHeartbeats 4000000 in
theorem sParentsOf_yes (p q A B C D : Int) (L : List UInt8) (w : World) (hc : treeC p q = 0) (hW : Plain.Walk 0 1 1 0 q p L A B C D) (hL : L.length ≤ 20000) :
    Calls Try.prog 20 #[.agg #[.int .i64 p, .int .i64 q]] w fun e w' => e = .returned (.tuple #[.agg #[.int .i64 A, .int .i64 B], .agg #[.int .i64 C, .int .i64 D], .int .i64 0]) ∧ Below w.heap.size w w' := by
  obtain ⟨hf, hp0, hp1, hq0, hq1⟩ := treeC_zero hc
  have HC := Lib.hid hc
  have HW := Lib.hid hW
  clear hc hW hf
  go_enter Try.func20, Try.ntmps20
  go_wp2_with fail
  refine (l03Given_c _ _ _).mono ?_
  rintro e w1 ⟨rfl, b1⟩
  have zzb1 := b1.size; (try simp at zzb1); have zb1_0 : w.heap.size < w1.heap.size := (by omega); have kcb1_0 : ∀ o, w1.cell? ⟨w.heap.size, o, none⟩ = _ := fun o => b1.cell (p := ⟨w.heap.size, o, none⟩) (by go_size); have kfb1_0 : ∀ o, w1.frozen? ⟨w.heap.size, o, none⟩ = _ := fun o => b1.frozen (p := ⟨w.heap.size, o, none⟩) (by go_size); have zb1_1 : w.heap.size + 1 < w1.heap.size := (by omega); have kcb1_1 : ∀ o, w1.cell? ⟨w.heap.size + 1, o, none⟩ = _ := fun o => b1.cell (p := ⟨w.heap.size + 1, o, none⟩) (by go_size); have kfb1_1 : ∀ o, w1.frozen? ⟨w.heap.size + 1, o, none⟩ = _ := fun o => b1.frozen (p := ⟨w.heap.size + 1, o, none⟩) (by go_size); have zb1_2 : w.heap.size + 2 < w1.heap.size := (by omega); have kcb1_2 : ∀ o, w1.cell? ⟨w.heap.size + 2, o, none⟩ = _ := fun o => b1.cell (p := ⟨w.heap.size + 2, o, none⟩) (by go_size); have kfb1_2 : ∀ o, w1.frozen? ⟨w.heap.size + 2, o, none⟩ = _ := fun o => b1.frozen (p := ⟨w.heap.size + 2, o, none⟩) (by go_size); clear zzb1
  rw [HC.out]
  go_wp2_with fail
  refine (l03Walk_c p q A B C D L _ hp0 hp1 hq0 hq1 HW.out (by omega)).mono ?_
  rintro e w2 ⟨g, cap, rfl, -, b2⟩
  have zz : w.heap.size + 2 < w2.heap.size := by have h1 := b1.size; have h2 := b2.size; simp at h1; omega
  have zzb2 := b2.size; (try simp at zzb2); have zb2_0 : w.heap.size < w2.heap.size := (by omega); have kcb2_0 : ∀ o, w2.cell? ⟨w.heap.size, o, none⟩ = _ := fun o => b2.cell (p := ⟨w.heap.size, o, none⟩) (by go_size); have kfb2_0 : ∀ o, w2.frozen? ⟨w.heap.size, o, none⟩ = _ := fun o => b2.frozen (p := ⟨w.heap.size, o, none⟩) (by go_size); have zb2_1 : w.heap.size + 1 < w2.heap.size := (by omega); have kcb2_1 : ∀ o, w2.cell? ⟨w.heap.size + 1, o, none⟩ = _ := fun o => b2.cell (p := ⟨w.heap.size + 1, o, none⟩) (by go_size); have kfb2_1 : ∀ o, w2.frozen? ⟨w.heap.size + 1, o, none⟩ = _ := fun o => b2.frozen (p := ⟨w.heap.size + 1, o, none⟩) (by go_size); have zb2_2 : w.heap.size + 2 < w2.heap.size := (by omega); have kcb2_2 : ∀ o, w2.cell? ⟨w.heap.size + 2, o, none⟩ = _ := fun o => b2.cell (p := ⟨w.heap.size + 2, o, none⟩) (by go_size); have kfb2_2 : ∀ o, w2.frozen? ⟨w.heap.size + 2, o, none⟩ = _ := fun o => b2.frozen (p := ⟨w.heap.size + 2, o, none⟩) (by go_size); clear zzb2
  go_wp2
  go_region
  go_wp2
  exact bodyPost_ret (v := .tuple #[.agg #[.int .i64 A, .int .i64 B], .agg #[.int .i64 C, .int .i64 D], .int .i64 0]) (by simp only [results, Try.results20]; go_simp) rfl ⟨rfl, (by repeat' (first | (with_reducible exact Below.refl _ _) | (with_reducible assumption) | (with_reducible refine below_drewN ?_ _) | (with_reducible refine Below.drew ?_) | (with_reducible refine Below.alloc ?_ ?_ _) | (with_reducible refine Below.setCell ?_ ?_ _) | (with_reducible refine Below.trans ?_ (Below.mono (by with_reducible assumption) ?_)) | go_size | (dsimp only; omega)))⟩
set_option maxHeartbeats 2000000 in
theorem FnExactParentsOf_w (p0 q0 : Int) (W : World) :
    Calls Try.prog 5 #[.agg #[.int .i64 p0, .int .i64 q0]] W fun e w' => e = .returned (.bool true) ∧ Below W.heap.size W w' := by
  obtain ⟨x0, x1, x2, x3, x4, K1, K2⟩ : ∃ (x0 : Int) (x1 : Int) (x2 : Int) (x3 : Int) (x4 : Int), Hid (∀ w, Calls Try.prog 22 #[.agg #[.int .i64 p0, .int .i64 q0]] w fun e w' => e = .returned (.tuple #[.agg #[.int .i64 x0, .int .i64 x1], .agg #[.int .i64 x2, .int .i64 x3], .int .i64 x4]) ∧ Below w.heap.size w w') ∧ Hid (∀ w, Calls Try.prog 20 #[.agg #[.int .i64 p0, .int .i64 q0]] w fun e w' => e = .returned (.tuple #[.agg #[.int .i64 x0, .int .i64 x1], .agg #[.int .i64 x2, .int .i64 x3], .int .i64 x4]) ∧ Below w.heap.size w w') := by
    by_cases h : treeC p0 q0 = 0
    · obtain ⟨L, A, B, C, D, hw, hl⟩ := tree_walk h
      exact ⟨A, B, C, D, 0, Lib.hid (fun w => ParentsOf_yes p0 q0 A B C D L w h hw hl), Lib.hid (fun w => sParentsOf_yes p0 q0 A B C D L w h hw hl)⟩
    · exact ⟨0, 0, 0, 0, _, Lib.hid (fun w => ParentsOf_no _ _ _ w rfl h), Lib.hid (fun w => sParentsOf_no _ _ _ w rfl h)⟩
  go_enter Try.func5, Try.ntmps5
  go_wp2_with fail
  refine (toFraction_c _ _ _).mono ?_
  rintro e w0 ⟨rfl, b0⟩
  have zzb0 := b0.size; (try simp at zzb0); have zb0_0 : W.heap.size < w0.heap.size := (by omega); have kcb0_0 : ∀ o, w0.cell? ⟨W.heap.size, o, none⟩ = _ := fun o => b0.cell (p := ⟨W.heap.size, o, none⟩) (by go_size); have kfb0_0 : ∀ o, w0.frozen? ⟨W.heap.size, o, none⟩ = _ := fun o => b0.frozen (p := ⟨W.heap.size, o, none⟩) (by go_size); clear zzb0
  go_wp2_with fail
  refine (K2.out _).mono ?_
  rintro e wa ⟨rfl, ba⟩
  have zzba := ba.size; (try simp at zzba); have zba_0 : W.heap.size < wa.heap.size := (by omega); have kcba_0 : ∀ o, wa.cell? ⟨W.heap.size, o, none⟩ = _ := fun o => ba.cell (p := ⟨W.heap.size, o, none⟩) (by go_size); have kfba_0 : ∀ o, wa.frozen? ⟨W.heap.size, o, none⟩ = _ := fun o => ba.frozen (p := ⟨W.heap.size, o, none⟩) (by go_size); clear zzba
  go_wp2_with fail
  refine (toFraction_c _ _ _).mono ?_
  rintro e w2 ⟨rfl, b2⟩
  have zzb2 := b2.size; (try simp at zzb2); have zb2_W0 : W.heap.size < w2.heap.size := (by omega); have kcb2_W0 : ∀ o, w2.cell? ⟨W.heap.size, o, none⟩ = _ := fun o => b2.cell (p := ⟨W.heap.size, o, none⟩) (by go_size); have kfb2_W0 : ∀ o, w2.frozen? ⟨W.heap.size, o, none⟩ = _ := fun o => b2.frozen (p := ⟨W.heap.size, o, none⟩) (by go_size); have zb2_wa0 : wa.heap.size < w2.heap.size := (by omega); have kcb2_wa0 : ∀ o, w2.cell? ⟨wa.heap.size, o, none⟩ = _ := fun o => b2.cell (p := ⟨wa.heap.size, o, none⟩) (by go_size); have kfb2_wa0 : ∀ o, w2.frozen? ⟨wa.heap.size, o, none⟩ = _ := fun o => b2.frozen (p := ⟨wa.heap.size, o, none⟩) (by go_size); have zb2_wa1 : wa.heap.size + 1 < w2.heap.size := (by omega); have kcb2_wa1 : ∀ o, w2.cell? ⟨wa.heap.size + 1, o, none⟩ = _ := fun o => b2.cell (p := ⟨wa.heap.size + 1, o, none⟩) (by go_size); have kfb2_wa1 : ∀ o, w2.frozen? ⟨wa.heap.size + 1, o, none⟩ = _ := fun o => b2.frozen (p := ⟨wa.heap.size + 1, o, none⟩) (by go_size); clear zzb2
  go_wp2_with fail
  refine (K1.out _).mono ?_
  rintro e wb ⟨rfl, bb⟩
  have zzbb := bb.size; (try simp at zzbb); have zbb_W0 : W.heap.size < wb.heap.size := (by omega); have kcbb_W0 : ∀ o, wb.cell? ⟨W.heap.size, o, none⟩ = _ := fun o => bb.cell (p := ⟨W.heap.size, o, none⟩) (by go_size); have kfbb_W0 : ∀ o, wb.frozen? ⟨W.heap.size, o, none⟩ = _ := fun o => bb.frozen (p := ⟨W.heap.size, o, none⟩) (by go_size); have zbb_wa0 : wa.heap.size < wb.heap.size := (by omega); have kcbb_wa0 : ∀ o, wb.cell? ⟨wa.heap.size, o, none⟩ = _ := fun o => bb.cell (p := ⟨wa.heap.size, o, none⟩) (by go_size); have kfbb_wa0 : ∀ o, wb.frozen? ⟨wa.heap.size, o, none⟩ = _ := fun o => bb.frozen (p := ⟨wa.heap.size, o, none⟩) (by go_size); have zbb_wa1 : wa.heap.size + 1 < wb.heap.size := (by omega); have kcbb_wa1 : ∀ o, wb.cell? ⟨wa.heap.size + 1, o, none⟩ = _ := fun o => bb.cell (p := ⟨wa.heap.size + 1, o, none⟩) (by go_size); have kfbb_wa1 : ∀ o, wb.frozen? ⟨wa.heap.size + 1, o, none⟩ = _ := fun o => bb.frozen (p := ⟨wa.heap.size + 1, o, none⟩) (by go_size); clear zzbb
  go_wp2_with fail
  refine (eqFraction_same _ _ _).mono ?_
  rintro e w5 ⟨rfl, b5⟩
  have zzb5 := b5.size; (try simp at zzb5); have zb5_wa0 : wa.heap.size < w5.heap.size := (by omega); have kcb5_wa0 : ∀ o, w5.cell? ⟨wa.heap.size, o, none⟩ = _ := fun o => b5.cell (p := ⟨wa.heap.size, o, none⟩) (by go_size); have kfb5_wa0 : ∀ o, w5.frozen? ⟨wa.heap.size, o, none⟩ = _ := fun o => b5.frozen (p := ⟨wa.heap.size, o, none⟩) (by go_size); have zb5_wa1 : wa.heap.size + 1 < w5.heap.size := (by omega); have kcb5_wa1 : ∀ o, w5.cell? ⟨wa.heap.size + 1, o, none⟩ = _ := fun o => b5.cell (p := ⟨wa.heap.size + 1, o, none⟩) (by go_size); have kfb5_wa1 : ∀ o, w5.frozen? ⟨wa.heap.size + 1, o, none⟩ = _ := fun o => b5.frozen (p := ⟨wa.heap.size + 1, o, none⟩) (by go_size); have zb5_wb0 : wb.heap.size < w5.heap.size := (by omega); have kcb5_wb0 : ∀ o, w5.cell? ⟨wb.heap.size, o, none⟩ = _ := fun o => b5.cell (p := ⟨wb.heap.size, o, none⟩) (by go_size); have kfb5_wb0 : ∀ o, w5.frozen? ⟨wb.heap.size, o, none⟩ = _ := fun o => b5.frozen (p := ⟨wb.heap.size, o, none⟩) (by go_size); have zb5_wb1 : wb.heap.size + 1 < w5.heap.size := (by omega); have kcb5_wb1 : ∀ o, w5.cell? ⟨wb.heap.size + 1, o, none⟩ = _ := fun o => b5.cell (p := ⟨wb.heap.size + 1, o, none⟩) (by go_size); have kfb5_wb1 : ∀ o, w5.frozen? ⟨wb.heap.size + 1, o, none⟩ = _ := fun o => b5.frozen (p := ⟨wb.heap.size + 1, o, none⟩) (by go_size); clear zzb5
  go_wp2_with fail
  refine (eqFraction_same _ _ _).mono ?_
  rintro e w6 ⟨rfl, b6⟩
  have zzb6 := b6.size; (try simp at zzb6); clear zzb6
  go_wp2
  go_returns
  exact ⟨rfl, (by repeat' (first | (with_reducible exact Below.refl _ _) | (with_reducible assumption) | (with_reducible refine below_drewN ?_ _) | (with_reducible refine Below.drew ?_) | (with_reducible refine Below.alloc ?_ ?_ _) | (with_reducible refine Below.setCell ?_ ?_ _) | (with_reducible refine Below.trans ?_ (Below.mono (by with_reducible assumption) ?_)) | go_size | (dsimp only; omega)))⟩
end Go.Proofs.Ytgchbjlkbfdbdaa
