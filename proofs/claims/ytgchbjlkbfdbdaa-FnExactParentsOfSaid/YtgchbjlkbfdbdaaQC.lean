/- The laws of PathOf and of ParentsOf. -/
import Derived.Test.YtgchbjlkbfdbdaaQB
namespace Go.Proofs.Ytgchbjlkbfdbdaa
open Go.RowKit
open Plain (On)
set_option linter.unusedVariables false
set_option linter.unusedSimpArgs false
attribute [local go_sem] run_min_int4 run_max_int4
/-- the code of a fraction that has to be in the tree -/
def treeC (p q : Int) : Int := if isF p q = true then (if p ≤ 0 ∨ q = 0 then 5 else if 10000 < p ∨ 10000 < q then 3 else 0) else 1
theorem treeC_zero {p q : Int} (h : treeC p q = 0) : isF p q = true ∧ 1 ≤ p ∧ p ≤ 10000 ∧ 1 ≤ q ∧ q ≤ 10000 := by
  unfold treeC at h
  split at h
  · rename_i hf
    have := (isF_iff.mp hf).2.1
    split at h
    · omega
    · split at h
      · omega
      · exact ⟨hf, by omega, by omega, by omega, by omega⟩
  · omega
set_option maxHeartbeats 2000000 in
theorem treeCode_c (p q : Int) (w : World) :
    Calls Try.prog 41 #[.agg #[.int .i64 p, .int .i64 q]] w fun e w' => e = .returned (.int .i64 (treeC p q)) ∧ Below w.heap.size w w' := by
  cases hf : isF p q
  · rw [show treeC p q = 1 from by simp [treeC, hf]]
    have HF := Lib.hid hf
    clear hf
    go_enter Try.func41, Try.ntmps41
    go_wp2_with fail
    refine (IsFraction_c _ _ _).mono ?_
    rintro e w1 ⟨rfl, b1⟩
    have zzb1 := b1.size; (try simp at zzb1); have zb1_0 : w.heap.size < w1.heap.size := (by omega); have kcb1_0 : ∀ o, w1.cell? ⟨w.heap.size, o, none⟩ = _ := fun o => b1.cell (p := ⟨w.heap.size, o, none⟩) (by go_size); have kfb1_0 : ∀ o, w1.frozen? ⟨w.heap.size, o, none⟩ = _ := fun o => b1.frozen (p := ⟨w.heap.size, o, none⟩) (by go_size); clear zzb1
    rw [HF.out]
    go_wp2
    all_goals (go_returns; exact ⟨rfl, (by repeat' (first | (with_reducible exact Below.refl _ _) | (with_reducible assumption) | (with_reducible refine below_drewN ?_ _) | (with_reducible refine Below.drew ?_) | (with_reducible refine Below.alloc ?_ ?_ _) | (with_reducible refine Below.setCell ?_ ?_ _) | (with_reducible refine Below.trans ?_ (Below.mono (by with_reducible assumption) ?_)) | go_size | (dsimp only; omega)))⟩)
  have hb := (isF_iff.mp hf).2.1
  by_cases h1 : p ≤ 0
  · rw [show treeC p q = 5 from by simp [treeC, hf, h1]]
    have HF := Lib.hid hf
    clear hf
    go_enter Try.func41, Try.ntmps41
    go_wp2_with fail
    refine (IsFraction_c _ _ _).mono ?_
    rintro e w1 ⟨rfl, b1⟩
    have zzb1 := b1.size; (try simp at zzb1); have zb1_0 : w.heap.size < w1.heap.size := (by omega); have kcb1_0 : ∀ o, w1.cell? ⟨w.heap.size, o, none⟩ = _ := fun o => b1.cell (p := ⟨w.heap.size, o, none⟩) (by go_size); have kfb1_0 : ∀ o, w1.frozen? ⟨w.heap.size, o, none⟩ = _ := fun o => b1.frozen (p := ⟨w.heap.size, o, none⟩) (by go_size); clear zzb1
    rw [HF.out]
    go_wp2
    all_goals (go_returns; exact ⟨rfl, (by repeat' (first | (with_reducible exact Below.refl _ _) | (with_reducible assumption) | (with_reducible refine below_drewN ?_ _) | (with_reducible refine Below.drew ?_) | (with_reducible refine Below.alloc ?_ ?_ _) | (with_reducible refine Below.setCell ?_ ?_ _) | (with_reducible refine Below.trans ?_ (Below.mono (by with_reducible assumption) ?_)) | go_size | (dsimp only; omega)))⟩)
  by_cases h2 : q = 0
  · rw [show treeC p q = 5 from by unfold treeC; rw [if_pos hf, if_pos (.inr h2)]]
    have HF := Lib.hid hf
    have h3 : (q == 0) = true := by simpa using h2
    clear hf
    subst h2
    go_enter Try.func41, Try.ntmps41
    go_wp2_with fail
    refine (IsFraction_c _ _ _).mono ?_
    rintro e w1 ⟨rfl, b1⟩
    have zzb1 := b1.size; (try simp at zzb1); have zb1_0 : w.heap.size < w1.heap.size := (by omega); have kcb1_0 : ∀ o, w1.cell? ⟨w.heap.size, o, none⟩ = _ := fun o => b1.cell (p := ⟨w.heap.size, o, none⟩) (by go_size); have kfb1_0 : ∀ o, w1.frozen? ⟨w.heap.size, o, none⟩ = _ := fun o => b1.frozen (p := ⟨w.heap.size, o, none⟩) (by go_size); clear zzb1
    rw [HF.out]
    go_wp2
    all_goals (go_returns; exact ⟨rfl, (by repeat' (first | (with_reducible exact Below.refl _ _) | (with_reducible assumption) | (with_reducible refine below_drewN ?_ _) | (with_reducible refine Below.drew ?_) | (with_reducible refine Below.alloc ?_ ?_ _) | (with_reducible refine Below.setCell ?_ ?_ _) | (with_reducible refine Below.trans ?_ (Below.mono (by with_reducible assumption) ?_)) | go_size | (dsimp only; omega)))⟩)
  have h3 : (q == 0) = false := by simpa using h2
  by_cases h4 : 10000 < p ∨ 10000 < q
  · rw [show treeC p q = 3 from by unfold treeC; rw [if_pos hf, if_neg (by omega), if_pos h4]]
    have HF := Lib.hid hf
    clear hf
    by_cases h5 : 10000 < p
    · by_cases h6 : p ≤ q
      · have h7 : ¬ q < p := by omega
        have h8 : 10000 < q := by omega
        clear h4
        go_enter Try.func41, Try.ntmps41
        go_wp2_with fail
        refine (IsFraction_c _ _ _).mono ?_
        rintro e w1 ⟨rfl, b1⟩
        have zzb1 := b1.size; (try simp at zzb1); have zb1_0 : w.heap.size < w1.heap.size := (by omega); have kcb1_0 : ∀ o, w1.cell? ⟨w.heap.size, o, none⟩ = _ := fun o => b1.cell (p := ⟨w.heap.size, o, none⟩) (by go_size); have kfb1_0 : ∀ o, w1.frozen? ⟨w.heap.size, o, none⟩ = _ := fun o => b1.frozen (p := ⟨w.heap.size, o, none⟩) (by go_size); clear zzb1
        rw [HF.out]
        go_wp2
        all_goals (go_returns; exact ⟨rfl, (by repeat' (first | (with_reducible exact Below.refl _ _) | (with_reducible assumption) | (with_reducible refine below_drewN ?_ _) | (with_reducible refine Below.drew ?_) | (with_reducible refine Below.alloc ?_ ?_ _) | (with_reducible refine Below.setCell ?_ ?_ _) | (with_reducible refine Below.trans ?_ (Below.mono (by with_reducible assumption) ?_)) | go_size | (dsimp only; omega)))⟩)
      · have h7 : q < p := by omega
        clear h4
        go_enter Try.func41, Try.ntmps41
        go_wp2_with fail
        refine (IsFraction_c _ _ _).mono ?_
        rintro e w1 ⟨rfl, b1⟩
        have zzb1 := b1.size; (try simp at zzb1); have zb1_0 : w.heap.size < w1.heap.size := (by omega); have kcb1_0 : ∀ o, w1.cell? ⟨w.heap.size, o, none⟩ = _ := fun o => b1.cell (p := ⟨w.heap.size, o, none⟩) (by go_size); have kfb1_0 : ∀ o, w1.frozen? ⟨w.heap.size, o, none⟩ = _ := fun o => b1.frozen (p := ⟨w.heap.size, o, none⟩) (by go_size); clear zzb1
        rw [HF.out]
        go_wp2
        all_goals (go_returns; exact ⟨rfl, (by repeat' (first | (with_reducible exact Below.refl _ _) | (with_reducible assumption) | (with_reducible refine below_drewN ?_ _) | (with_reducible refine Below.drew ?_) | (with_reducible refine Below.alloc ?_ ?_ _) | (with_reducible refine Below.setCell ?_ ?_ _) | (with_reducible refine Below.trans ?_ (Below.mono (by with_reducible assumption) ?_)) | go_size | (dsimp only; omega)))⟩)
    · have h8 : 10000 < q := by omega
      have h6 : p ≤ q := by omega
      clear h4
      go_enter Try.func41, Try.ntmps41
      go_wp2_with fail
      refine (IsFraction_c _ _ _).mono ?_
      rintro e w1 ⟨rfl, b1⟩
      have zzb1 := b1.size; (try simp at zzb1); have zb1_0 : w.heap.size < w1.heap.size := (by omega); have kcb1_0 : ∀ o, w1.cell? ⟨w.heap.size, o, none⟩ = _ := fun o => b1.cell (p := ⟨w.heap.size, o, none⟩) (by go_size); have kfb1_0 : ∀ o, w1.frozen? ⟨w.heap.size, o, none⟩ = _ := fun o => b1.frozen (p := ⟨w.heap.size, o, none⟩) (by go_size); clear zzb1
      rw [HF.out]
      go_wp2
      all_goals (go_returns; exact ⟨rfl, (by repeat' (first | (with_reducible exact Below.refl _ _) | (with_reducible assumption) | (with_reducible refine below_drewN ?_ _) | (with_reducible refine Below.drew ?_) | (with_reducible refine Below.alloc ?_ ?_ _) | (with_reducible refine Below.setCell ?_ ?_ _) | (with_reducible refine Below.trans ?_ (Below.mono (by with_reducible assumption) ?_)) | go_size | (dsimp only; omega)))⟩)
  · rw [show treeC p q = 0 from by unfold treeC; rw [if_pos hf, if_neg (by omega), if_neg h4]]
    have HF := Lib.hid hf
    have h5 : ¬ 10000 < p := by omega
    have h6 : ¬ 10000 < q := by omega
    clear hf h4
    go_enter Try.func41, Try.ntmps41
    go_wp2_with fail
    refine (IsFraction_c _ _ _).mono ?_
    rintro e w1 ⟨rfl, b1⟩
    have zzb1 := b1.size; (try simp at zzb1); have zb1_0 : w.heap.size < w1.heap.size := (by omega); have kcb1_0 : ∀ o, w1.cell? ⟨w.heap.size, o, none⟩ = _ := fun o => b1.cell (p := ⟨w.heap.size, o, none⟩) (by go_size); have kfb1_0 : ∀ o, w1.frozen? ⟨w.heap.size, o, none⟩ = _ := fun o => b1.frozen (p := ⟨w.heap.size, o, none⟩) (by go_size); clear zzb1
    rw [HF.out]
    go_wp2
    all_goals (go_returns; exact ⟨rfl, (by repeat' (first | (with_reducible exact Below.refl _ _) | (with_reducible assumption) | (with_reducible refine below_drewN ?_ _) | (with_reducible refine Below.drew ?_) | (with_reducible refine Below.alloc ?_ ?_ _) | (with_reducible refine Below.setCell ?_ ?_ _) | (with_reducible refine Below.trans ?_ (Below.mono (by with_reducible assumption) ?_)) | go_size | (dsimp only; omega)))⟩)
set_option maxHeartbeats 2000000 in
theorem l03Given_c (p q : Int) (w : World) :
    Calls Try.prog 39 #[.agg #[.int .i64 p, .int .i64 q]] w fun e w' => e = .returned (.int .i64 (treeC p q)) ∧ Below w.heap.size w w' := by
  cases hf : isF p q
  · rw [show treeC p q = 1 from by simp [treeC, hf]]
    have HF := Lib.hid hf
    clear hf
    go_enter Try.func39, Try.ntmps39
    go_wp2_with fail
    refine (l01Fraction_c _ _ _).mono ?_
    rintro e w1 ⟨rfl, b1⟩
    have zzb1 := b1.size; (try simp at zzb1); have zb1_0 : w.heap.size < w1.heap.size := (by omega); have kcb1_0 : ∀ o, w1.cell? ⟨w.heap.size, o, none⟩ = _ := fun o => b1.cell (p := ⟨w.heap.size, o, none⟩) (by go_size); have kfb1_0 : ∀ o, w1.frozen? ⟨w.heap.size, o, none⟩ = _ := fun o => b1.frozen (p := ⟨w.heap.size, o, none⟩) (by go_size); clear zzb1
    rw [HF.out]
    go_wp2
    all_goals (go_returns; exact ⟨rfl, (by repeat' (first | (with_reducible exact Below.refl _ _) | (with_reducible assumption) | (with_reducible refine below_drewN ?_ _) | (with_reducible refine Below.drew ?_) | (with_reducible refine Below.alloc ?_ ?_ _) | (with_reducible refine Below.setCell ?_ ?_ _) | (with_reducible refine Below.trans ?_ (Below.mono (by with_reducible assumption) ?_)) | go_size | (dsimp only; omega)))⟩)
  have hb := (isF_iff.mp hf).2.1
  by_cases h1 : p ≤ 0
  · rw [show treeC p q = 5 from by simp [treeC, hf, h1]]
    have HF := Lib.hid hf
    clear hf
    go_enter Try.func39, Try.ntmps39
    go_wp2_with fail
    refine (l01Fraction_c _ _ _).mono ?_
    rintro e w1 ⟨rfl, b1⟩
    have zzb1 := b1.size; (try simp at zzb1); have zb1_0 : w.heap.size < w1.heap.size := (by omega); have kcb1_0 : ∀ o, w1.cell? ⟨w.heap.size, o, none⟩ = _ := fun o => b1.cell (p := ⟨w.heap.size, o, none⟩) (by go_size); have kfb1_0 : ∀ o, w1.frozen? ⟨w.heap.size, o, none⟩ = _ := fun o => b1.frozen (p := ⟨w.heap.size, o, none⟩) (by go_size); clear zzb1
    rw [HF.out]
    go_wp2
    all_goals (go_returns; exact ⟨rfl, (by repeat' (first | (with_reducible exact Below.refl _ _) | (with_reducible assumption) | (with_reducible refine below_drewN ?_ _) | (with_reducible refine Below.drew ?_) | (with_reducible refine Below.alloc ?_ ?_ _) | (with_reducible refine Below.setCell ?_ ?_ _) | (with_reducible refine Below.trans ?_ (Below.mono (by with_reducible assumption) ?_)) | go_size | (dsimp only; omega)))⟩)
  by_cases h2 : q = 0
  · rw [show treeC p q = 5 from by unfold treeC; rw [if_pos hf, if_pos (.inr h2)]]
    have HF := Lib.hid hf
    have h3 : (q == 0) = true := by simpa using h2
    clear hf
    subst h2
    go_enter Try.func39, Try.ntmps39
    go_wp2_with fail
    refine (l01Fraction_c _ _ _).mono ?_
    rintro e w1 ⟨rfl, b1⟩
    have zzb1 := b1.size; (try simp at zzb1); have zb1_0 : w.heap.size < w1.heap.size := (by omega); have kcb1_0 : ∀ o, w1.cell? ⟨w.heap.size, o, none⟩ = _ := fun o => b1.cell (p := ⟨w.heap.size, o, none⟩) (by go_size); have kfb1_0 : ∀ o, w1.frozen? ⟨w.heap.size, o, none⟩ = _ := fun o => b1.frozen (p := ⟨w.heap.size, o, none⟩) (by go_size); clear zzb1
    rw [HF.out]
    go_wp2
    all_goals (go_returns; exact ⟨rfl, (by repeat' (first | (with_reducible exact Below.refl _ _) | (with_reducible assumption) | (with_reducible refine below_drewN ?_ _) | (with_reducible refine Below.drew ?_) | (with_reducible refine Below.alloc ?_ ?_ _) | (with_reducible refine Below.setCell ?_ ?_ _) | (with_reducible refine Below.trans ?_ (Below.mono (by with_reducible assumption) ?_)) | go_size | (dsimp only; omega)))⟩)
  have h3 : (q == 0) = false := by simpa using h2
  by_cases h4 : 10000 < p ∨ 10000 < q
  · rw [show treeC p q = 3 from by unfold treeC; rw [if_pos hf, if_neg (by omega), if_pos h4]]
    have HF := Lib.hid hf
    clear hf
    by_cases h5 : 10000 < p
    · by_cases h6 : p ≤ q
      · have h7 : ¬ q < p := by omega
        have h8 : 10000 < q := by omega
        clear h4
        go_enter Try.func39, Try.ntmps39
        go_wp2_with fail
        refine (l01Fraction_c _ _ _).mono ?_
        rintro e w1 ⟨rfl, b1⟩
        have zzb1 := b1.size; (try simp at zzb1); have zb1_0 : w.heap.size < w1.heap.size := (by omega); have kcb1_0 : ∀ o, w1.cell? ⟨w.heap.size, o, none⟩ = _ := fun o => b1.cell (p := ⟨w.heap.size, o, none⟩) (by go_size); have kfb1_0 : ∀ o, w1.frozen? ⟨w.heap.size, o, none⟩ = _ := fun o => b1.frozen (p := ⟨w.heap.size, o, none⟩) (by go_size); clear zzb1
        rw [HF.out]
        go_wp2
        all_goals (go_returns; exact ⟨rfl, (by repeat' (first | (with_reducible exact Below.refl _ _) | (with_reducible assumption) | (with_reducible refine below_drewN ?_ _) | (with_reducible refine Below.drew ?_) | (with_reducible refine Below.alloc ?_ ?_ _) | (with_reducible refine Below.setCell ?_ ?_ _) | (with_reducible refine Below.trans ?_ (Below.mono (by with_reducible assumption) ?_)) | go_size | (dsimp only; omega)))⟩)
      · have h7 : q < p := by omega
        clear h4
        go_enter Try.func39, Try.ntmps39
        go_wp2_with fail
        refine (l01Fraction_c _ _ _).mono ?_
        rintro e w1 ⟨rfl, b1⟩
        have zzb1 := b1.size; (try simp at zzb1); have zb1_0 : w.heap.size < w1.heap.size := (by omega); have kcb1_0 : ∀ o, w1.cell? ⟨w.heap.size, o, none⟩ = _ := fun o => b1.cell (p := ⟨w.heap.size, o, none⟩) (by go_size); have kfb1_0 : ∀ o, w1.frozen? ⟨w.heap.size, o, none⟩ = _ := fun o => b1.frozen (p := ⟨w.heap.size, o, none⟩) (by go_size); clear zzb1
        rw [HF.out]
        go_wp2
        all_goals (go_returns; exact ⟨rfl, (by repeat' (first | (with_reducible exact Below.refl _ _) | (with_reducible assumption) | (with_reducible refine below_drewN ?_ _) | (with_reducible refine Below.drew ?_) | (with_reducible refine Below.alloc ?_ ?_ _) | (with_reducible refine Below.setCell ?_ ?_ _) | (with_reducible refine Below.trans ?_ (Below.mono (by with_reducible assumption) ?_)) | go_size | (dsimp only; omega)))⟩)
    · have h8 : 10000 < q := by omega
      have h6 : p ≤ q := by omega
      clear h4
      go_enter Try.func39, Try.ntmps39
      go_wp2_with fail
      refine (l01Fraction_c _ _ _).mono ?_
      rintro e w1 ⟨rfl, b1⟩
      have zzb1 := b1.size; (try simp at zzb1); have zb1_0 : w.heap.size < w1.heap.size := (by omega); have kcb1_0 : ∀ o, w1.cell? ⟨w.heap.size, o, none⟩ = _ := fun o => b1.cell (p := ⟨w.heap.size, o, none⟩) (by go_size); have kfb1_0 : ∀ o, w1.frozen? ⟨w.heap.size, o, none⟩ = _ := fun o => b1.frozen (p := ⟨w.heap.size, o, none⟩) (by go_size); clear zzb1
      rw [HF.out]
      go_wp2
      all_goals (go_returns; exact ⟨rfl, (by repeat' (first | (with_reducible exact Below.refl _ _) | (with_reducible assumption) | (with_reducible refine below_drewN ?_ _) | (with_reducible refine Below.drew ?_) | (with_reducible refine Below.alloc ?_ ?_ _) | (with_reducible refine Below.setCell ?_ ?_ _) | (with_reducible refine Below.trans ?_ (Below.mono (by with_reducible assumption) ?_)) | go_size | (dsimp only; omega)))⟩)
  · rw [show treeC p q = 0 from by unfold treeC; rw [if_pos hf, if_neg (by omega), if_neg h4]]
    have HF := Lib.hid hf
    have h5 : ¬ 10000 < p := by omega
    have h6 : ¬ 10000 < q := by omega
    clear hf h4
    go_enter Try.func39, Try.ntmps39
    go_wp2_with fail
    refine (l01Fraction_c _ _ _).mono ?_
    rintro e w1 ⟨rfl, b1⟩
    have zzb1 := b1.size; (try simp at zzb1); have zb1_0 : w.heap.size < w1.heap.size := (by omega); have kcb1_0 : ∀ o, w1.cell? ⟨w.heap.size, o, none⟩ = _ := fun o => b1.cell (p := ⟨w.heap.size, o, none⟩) (by go_size); have kfb1_0 : ∀ o, w1.frozen? ⟨w.heap.size, o, none⟩ = _ := fun o => b1.frozen (p := ⟨w.heap.size, o, none⟩) (by go_size); clear zzb1
    rw [HF.out]
    go_wp2
    all_goals (go_returns; exact ⟨rfl, (by repeat' (first | (with_reducible exact Below.refl _ _) | (with_reducible assumption) | (with_reducible refine below_drewN ?_ _) | (with_reducible refine Below.drew ?_) | (with_reducible refine Below.alloc ?_ ?_ _) | (with_reducible refine Below.setCell ?_ ?_ _) | (with_reducible refine Below.trans ?_ (Below.mono (by with_reducible assumption) ?_)) | go_size | (dsimp only; omega)))⟩)
theorem own_conv {w : World} {base g cap : Nat} {L : List UInt8} (h : w.ownsRow base 5 1 (.slice (some ⟨g, 0, none⟩) L.length cap) L.length (u8s L)) :
    (convert 55 9 (.slice (some ⟨g, 0, none⟩) L.length cap)).run Try.prog w = .ok (.string ⟨L.toArray⟩) w := by
  refine run_convert_bytes_back (P := Try.prog) w 55 9 5 ⟨g, 0, none⟩ cap L under_u8s Try.underlying5 Try.underlying9 ?_
  intro j hj
  exact @World.ownsRow.cells w _ _ _ _ _ _ h (g := g) rfl j (.int .u8 (L[j].toNat : Int)) (by simp [u8s, hj])
end Go.Proofs.Ytgchbjlkbfdbdaa
