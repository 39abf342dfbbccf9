/- The laws of PathOf and of ParentsOf. -/
import Derived.Test.YtmopjfjmmdnapaaQB
namespace Go.Proofs.Ytmopjfjmmdnapaa
open Go.RowKit
open Plain (On)
set_option linter.unusedVariables false
set_option linter.unusedSimpArgs false
attribute [local go_sem] run_min_int4 run_max_int4
/-- the code of a fraction that has to be in the tree -/
def treeC (p q : Int) : Int := if isF p q = true then (if p ≤ 0 ∨ q = 0 then 5 else if 10000 < p ∨ 10000 < q then 3 else 0) else 1
theorem treeC_zero {p q : Int} (h : treeC p q = 0) : isF p q = true ∧ 1 ≤ p ∧ p ≤ 10000 ∧ 1 ≤ q ∧ q ≤ 10000 := by
  unfold treeC at h
  split at h
  · rename_i hf
    have := (isF_iff.mp hf).2.1
    split at h
    · omega
    · split at h
      · omega
      · exact ⟨hf, by omega, by omega, by omega, by omega⟩
  · omega
set_option maxHeartbeats 2000000 in
theorem treeCode_c (p q : Int) (w : World) :
    Calls Try.prog 78 #[.agg #[.int .i64 p, .int .i64 q]] w fun e w' => e = .returned (.int .i64 (treeC p q)) ∧ Below w.heap.size w w' := by
  cases hf : isF p q
  · rw [show treeC p q = 1 from by simp [treeC, hf]]
    have HF := Lib.hid hf
    clear hf
    go_enter Try.func78, Try.ntmps78
    go_wp2_with fail
    refine (IsFraction_c _ _ _).mono ?_
    rintro e w1 ⟨rfl, b1⟩
    have zzb1 := b1.size; (try simp at zzb1); have zb1_0 : w.heap.size < w1.heap.size := (by omega); have kcb1_0 : ∀ o, w1.cell? ⟨w.heap.size, o, none⟩ = _ := fun o => b1.cell (p := ⟨w.heap.size, o, none⟩) (by go_size); have kfb1_0 : ∀ o, w1.frozen? ⟨w.heap.size, o, none⟩ = _ := fun o => b1.frozen (p := ⟨w.heap.size, o, none⟩) (by go_size); clear zzb1
    rw [HF.out]
    go_wp2
    all_goals (go_returns; exact ⟨rfl, (by repeat' (first | (with_reducible exact Below.refl _ _) | (with_reducible assumption) | (with_reducible refine below_drewN ?_ _) | (with_reducible refine Below.drew ?_) | (with_reducible refine Below.alloc ?_ ?_ _) | (with_reducible refine Below.setCell ?_ ?_ _) | (with_reducible refine Below.trans ?_ (Below.mono (by with_reducible assumption) ?_)) | go_size | (dsimp only; omega)))⟩)
  have hb := (isF_iff.mp hf).2.1
  by_cases h1 : p ≤ 0
  · rw [show treeC p q = 5 from by simp [treeC, hf, h1]]
    have HF := Lib.hid hf
    clear hf
    go_enter Try.func78, Try.ntmps78
    go_wp2_with fail
    refine (IsFraction_c _ _ _).mono ?_
    rintro e w1 ⟨rfl, b1⟩
    have zzb1 := b1.size; (try simp at zzb1); have zb1_0 : w.heap.size < w1.heap.size := (by omega); have kcb1_0 : ∀ o, w1.cell? ⟨w.heap.size, o, none⟩ = _ := fun o => b1.cell (p := ⟨w.heap.size, o, none⟩) (by go_size); have kfb1_0 : ∀ o, w1.frozen? ⟨w.heap.size, o, none⟩ = _ := fun o => b1.frozen (p := ⟨w.heap.size, o, none⟩) (by go_size); clear zzb1
    rw [HF.out]
    go_wp2
    all_goals (go_returns; exact ⟨rfl, (by repeat' (first | (with_reducible exact Below.refl _ _) | (with_reducible assumption) | (with_reducible refine below_drewN ?_ _) | (with_reducible refine Below.drew ?_) | (with_reducible refine Below.alloc ?_ ?_ _) | (with_reducible refine Below.setCell ?_ ?_ _) | (with_reducible refine Below.trans ?_ (Below.mono (by with_reducible assumption) ?_)) | go_size | (dsimp only; omega)))⟩)
  by_cases h2 : q = 0
  · rw [show treeC p q = 5 from by unfold treeC; rw [if_pos hf, if_pos (.inr h2)]]
    have HF := Lib.hid hf
    have h3 : (q == 0) = true := by simpa using h2
    clear hf
    subst h2
    go_enter Try.func78, Try.ntmps78
    go_wp2_with fail
    refine (IsFraction_c _ _ _).mono ?_
    rintro e w1 ⟨rfl, b1⟩
    have zzb1 := b1.size; (try simp at zzb1); have zb1_0 : w.heap.size < w1.heap.size := (by omega); have kcb1_0 : ∀ o, w1.cell? ⟨w.heap.size, o, none⟩ = _ := fun o => b1.cell (p := ⟨w.heap.size, o, none⟩) (by go_size); have kfb1_0 : ∀ o, w1.frozen? ⟨w.heap.size, o, none⟩ = _ := fun o => b1.frozen (p := ⟨w.heap.size, o, none⟩) (by go_size); clear zzb1
    rw [HF.out]
    go_wp2
    all_goals (go_returns; exact ⟨rfl, (by repeat' (first | (with_reducible exact Below.refl _ _) | (with_reducible assumption) | (with_reducible refine below_drewN ?_ _) | (with_reducible refine Below.drew ?_) | (with_reducible refine Below.alloc ?_ ?_ _) | (with_reducible refine Below.setCell ?_ ?_ _) | (with_reducible refine Below.trans ?_ (Below.mono (by with_reducible assumption) ?_)) | go_size | (dsimp only; omega)))⟩)
  have h3 : (q == 0) = false := by simpa using h2
  by_cases h4 : 10000 < p ∨ 10000 < q
  · rw [show treeC p q = 3 from by unfold treeC; rw [if_pos hf, if_neg (by omega), if_pos h4]]
    have HF := Lib.hid hf
    clear hf
    by_cases h5 : 10000 < p
    · by_cases h6 : p ≤ q
      · have h7 : ¬ q < p := by omega
        have h8 : 10000 < q := by omega
        clear h4
        go_enter Try.func78, Try.ntmps78
        go_wp2_with fail
        refine (IsFraction_c _ _ _).mono ?_
        rintro e w1 ⟨rfl, b1⟩
        have zzb1 := b1.size; (try simp at zzb1); have zb1_0 : w.heap.size < w1.heap.size := (by omega); have kcb1_0 : ∀ o, w1.cell? ⟨w.heap.size, o, none⟩ = _ := fun o => b1.cell (p := ⟨w.heap.size, o, none⟩) (by go_size); have kfb1_0 : ∀ o, w1.frozen? ⟨w.heap.size, o, none⟩ = _ := fun o => b1.frozen (p := ⟨w.heap.size, o, none⟩) (by go_size); clear zzb1
        rw [HF.out]
        go_wp2
        all_goals (go_returns; exact ⟨rfl, (by repeat' (first | (with_reducible exact Below.refl _ _) | (with_reducible assumption) | (with_reducible refine below_drewN ?_ _) | (with_reducible refine Below.drew ?_) | (with_reducible refine Below.alloc ?_ ?_ _) | (with_reducible refine Below.setCell ?_ ?_ _) | (with_reducible refine Below.trans ?_ (Below.mono (by with_reducible assumption) ?_)) | go_size | (dsimp only; omega)))⟩)
      · have h7 : q < p := by omega
        clear h4
        go_enter Try.func78, Try.ntmps78
        go_wp2_with fail
        refine (IsFraction_c _ _ _).mono ?_
        rintro e w1 ⟨rfl, b1⟩
        have zzb1 := b1.size; (try simp at zzb1); have zb1_0 : w.heap.size < w1.heap.size := (by omega); have kcb1_0 : ∀ o, w1.cell? ⟨w.heap.size, o, none⟩ = _ := fun o => b1.cell (p := ⟨w.heap.size, o, none⟩) (by go_size); have kfb1_0 : ∀ o, w1.frozen? ⟨w.heap.size, o, none⟩ = _ := fun o => b1.frozen (p := ⟨w.heap.size, o, none⟩) (by go_size); clear zzb1
        rw [HF.out]
        go_wp2
        all_goals (go_returns; exact ⟨rfl, (by repeat' (first | (with_reducible exact Below.refl _ _) | (with_reducible assumption) | (with_reducible refine below_drewN ?_ _) | (with_reducible refine Below.drew ?_) | (with_reducible refine Below.alloc ?_ ?_ _) | (with_reducible refine Below.setCell ?_ ?_ _) | (with_reducible refine Below.trans ?_ (Below.mono (by with_reducible assumption) ?_)) | go_size | (dsimp only; omega)))⟩)
    · have h8 : 10000 < q := by omega
      have h6 : p ≤ q := by omega
      clear h4
      go_enter Try.func78, Try.ntmps78
      go_wp2_with fail
      refine (IsFraction_c _ _ _).mono ?_
      rintro e w1 ⟨rfl, b1⟩
      have zzb1 := b1.size; (try simp at zzb1); have zb1_0 : w.heap.size < w1.heap.size := (by omega); have kcb1_0 : ∀ o, w1.cell? ⟨w.heap.size, o, none⟩ = _ := fun o => b1.cell (p := ⟨w.heap.size, o, none⟩) (by go_size); have kfb1_0 : ∀ o, w1.frozen? ⟨w.heap.size, o, none⟩ = _ := fun o => b1.frozen (p := ⟨w.heap.size, o, none⟩) (by go_size); clear zzb1
      rw [HF.out]
      go_wp2
      all_goals (go_returns; exact ⟨rfl, (by repeat' (first | (with_reducible exact Below.refl _ _) | (with_reducible assumption) | (with_reducible refine below_drewN ?_ _) | (with_reducible refine Below.drew ?_) | (with_reducible refine Below.alloc ?_ ?_ _) | (with_reducible refine Below.setCell ?_ ?_ _) | (with_reducible refine Below.trans ?_ (Below.mono (by with_reducible assumption) ?_)) | go_size | (dsimp only; omega)))⟩)
  · rw [show treeC p q = 0 from by unfold treeC; rw [if_pos hf, if_neg (by omega), if_neg h4]]
    have HF := Lib.hid hf
    have h5 : ¬ 10000 < p := by omega
    have h6 : ¬ 10000 < q := by omega
    clear hf h4
    go_enter Try.func78, Try.ntmps78
    go_wp2_with fail
    refine (IsFraction_c _ _ _).mono ?_
    rintro e w1 ⟨rfl, b1⟩
    have zzb1 := b1.size; (try simp at zzb1); have zb1_0 : w.heap.size < w1.heap.size := (by omega); have kcb1_0 : ∀ o, w1.cell? ⟨w.heap.size, o, none⟩ = _ := fun o => b1.cell (p := ⟨w.heap.size, o, none⟩) (by go_size); have kfb1_0 : ∀ o, w1.frozen? ⟨w.heap.size, o, none⟩ = _ := fun o => b1.frozen (p := ⟨w.heap.size, o, none⟩) (by go_size); clear zzb1
    rw [HF.out]
    go_wp2
    all_goals (go_returns; exact ⟨rfl, (by repeat' (first | (with_reducible exact Below.refl _ _) | (with_reducible assumption) | (with_reducible refine below_drewN ?_ _) | (with_reducible refine Below.drew ?_) | (with_reducible refine Below.alloc ?_ ?_ _) | (with_reducible refine Below.setCell ?_ ?_ _) | (with_reducible refine Below.trans ?_ (Below.mono (by with_reducible assumption) ?_)) | go_size | (dsimp only; omega)))⟩)
set_option maxHeartbeats 2000000 in
theorem l03Given_c (p q : Int) (w : World) :
    Calls Try.prog 76 #[.agg #[.int .i64 p, .int .i64 q]] w fun e w' => e = .returned (.int .i64 (treeC p q)) ∧ Below w.heap.size w w' := by
  cases hf : isF p q
  · rw [show treeC p q = 1 from by simp [treeC, hf]]
    have HF := Lib.hid hf
    clear hf
    go_enter Try.func76, Try.ntmps76
    go_wp2_with fail
    refine (l01Fraction_c _ _ _).mono ?_
    rintro e w1 ⟨rfl, b1⟩
    have zzb1 := b1.size; (try simp at zzb1); have zb1_0 : w.heap.size < w1.heap.size := (by omega); have kcb1_0 : ∀ o, w1.cell? ⟨w.heap.size, o, none⟩ = _ := fun o => b1.cell (p := ⟨w.heap.size, o, none⟩) (by go_size); have kfb1_0 : ∀ o, w1.frozen? ⟨w.heap.size, o, none⟩ = _ := fun o => b1.frozen (p := ⟨w.heap.size, o, none⟩) (by go_size); clear zzb1
    rw [HF.out]
    go_wp2
    all_goals (go_returns; exact ⟨rfl, (by repeat' (first | (with_reducible exact Below.refl _ _) | (with_reducible assumption) | (with_reducible refine below_drewN ?_ _) | (with_reducible refine Below.drew ?_) | (with_reducible refine Below.alloc ?_ ?_ _) | (with_reducible refine Below.setCell ?_ ?_ _) | (with_reducible refine Below.trans ?_ (Below.mono (by with_reducible assumption) ?_)) | go_size | (dsimp only; omega)))⟩)
  have hb := (isF_iff.mp hf).2.1
  by_cases h1 : p ≤ 0
  · rw [show treeC p q = 5 from by simp [treeC, hf, h1]]
    have HF := Lib.hid hf
    clear hf
    go_enter Try.func76, Try.ntmps76
    go_wp2_with fail
    refine (l01Fraction_c _ _ _).mono ?_
    rintro e w1 ⟨rfl, b1⟩
    have zzb1 := b1.size; (try simp at zzb1); have zb1_0 : w.heap.size < w1.heap.size := (by omega); have kcb1_0 : ∀ o, w1.cell? ⟨w.heap.size, o, none⟩ = _ := fun o => b1.cell (p := ⟨w.heap.size, o, none⟩) (by go_size); have kfb1_0 : ∀ o, w1.frozen? ⟨w.heap.size, o, none⟩ = _ := fun o => b1.frozen (p := ⟨w.heap.size, o, none⟩) (by go_size); clear zzb1
    rw [HF.out]
    go_wp2
    all_goals (go_returns; exact ⟨rfl, (by repeat' (first | (with_reducible exact Below.refl _ _) | (with_reducible assumption) | (with_reducible refine below_drewN ?_ _) | (with_reducible refine Below.drew ?_) | (with_reducible refine Below.alloc ?_ ?_ _) | (with_reducible refine Below.setCell ?_ ?_ _) | (with_reducible refine Below.trans ?_ (Below.mono (by with_reducible assumption) ?_)) | go_size | (dsimp only; omega)))⟩)
  by_cases h2 : q = 0
  · rw [show treeC p q = 5 from by unfold treeC; rw [if_pos hf, if_pos (.inr h2)]]
    have HF := Lib.hid hf
    have h3 : (q == 0) = true := by simpa using h2
    clear hf
    subst h2
    go_enter Try.func76, Try.ntmps76
    go_wp2_with fail
    refine (l01Fraction_c _ _ _).mono ?_
    rintro e w1 ⟨rfl, b1⟩
    have zzb1 := b1.size; (try simp at zzb1); have zb1_0 : w.heap.size < w1.heap.size := (by omega); have kcb1_0 : ∀ o, w1.cell? ⟨w.heap.size, o, none⟩ = _ := fun o => b1.cell (p := ⟨w.heap.size, o, none⟩) (by go_size); have kfb1_0 : ∀ o, w1.frozen? ⟨w.heap.size, o, none⟩ = _ := fun o => b1.frozen (p := ⟨w.heap.size, o, none⟩) (by go_size); clear zzb1
    rw [HF.out]
    go_wp2
    all_goals (go_returns; exact ⟨rfl, (by repeat' (first | (with_reducible exact Below.refl _ _) | (with_reducible assumption) | (with_reducible refine below_drewN ?_ _) | (with_reducible refine Below.drew ?_) | (with_reducible refine Below.alloc ?_ ?_ _) | (with_reducible refine Below.setCell ?_ ?_ _) | (with_reducible refine Below.trans ?_ (Below.mono (by with_reducible assumption) ?_)) | go_size | (dsimp only; omega)))⟩)
  have h3 : (q == 0) = false := by simpa using h2
  by_cases h4 : 10000 < p ∨ 10000 < q
  · rw [show treeC p q = 3 from by unfold treeC; rw [if_pos hf, if_neg (by omega), if_pos h4]]
    have HF := Lib.hid hf
    clear hf
    by_cases h5 : 10000 < p
    · by_cases h6 : p ≤ q
      · have h7 : ¬ q < p := by omega
        have h8 : 10000 < q := by omega
        clear h4
        go_enter Try.func76, Try.ntmps76
        go_wp2_with fail
        refine (l01Fraction_c _ _ _).mono ?_
        rintro e w1 ⟨rfl, b1⟩
        have zzb1 := b1.size; (try simp at zzb1); have zb1_0 : w.heap.size < w1.heap.size := (by omega); have kcb1_0 : ∀ o, w1.cell? ⟨w.heap.size, o, none⟩ = _ := fun o => b1.cell (p := ⟨w.heap.size, o, none⟩) (by go_size); have kfb1_0 : ∀ o, w1.frozen? ⟨w.heap.size, o, none⟩ = _ := fun o => b1.frozen (p := ⟨w.heap.size, o, none⟩) (by go_size); clear zzb1
        rw [HF.out]
        go_wp2
        all_goals (go_returns; exact ⟨rfl, (by repeat' (first | (with_reducible exact Below.refl _ _) | (with_reducible assumption) | (with_reducible refine below_drewN ?_ _) | (with_reducible refine Below.drew ?_) | (with_reducible refine Below.alloc ?_ ?_ _) | (with_reducible refine Below.setCell ?_ ?_ _) | (with_reducible refine Below.trans ?_ (Below.mono (by with_reducible assumption) ?_)) | go_size | (dsimp only; omega)))⟩)
      · have h7 : q < p := by omega
        clear h4
        go_enter Try.func76, Try.ntmps76
        go_wp2_with fail
        refine (l01Fraction_c _ _ _).mono ?_
        rintro e w1 ⟨rfl, b1⟩
        have zzb1 := b1.size; (try simp at zzb1); have zb1_0 : w.heap.size < w1.heap.size := (by omega); have kcb1_0 : ∀ o, w1.cell? ⟨w.heap.size, o, none⟩ = _ := fun o => b1.cell (p := ⟨w.heap.size, o, none⟩) (by go_size); have kfb1_0 : ∀ o, w1.frozen? ⟨w.heap.size, o, none⟩ = _ := fun o => b1.frozen (p := ⟨w.heap.size, o, none⟩) (by go_size); clear zzb1
        rw [HF.out]
        go_wp2
        all_goals (go_returns; exact ⟨rfl, (by repeat' (first | (with_reducible exact Below.refl _ _) | (with_reducible assumption) | (with_reducible refine below_drewN ?_ _) | (with_reducible refine Below.drew ?_) | (with_reducible refine Below.alloc ?_ ?_ _) | (with_reducible refine Below.setCell ?_ ?_ _) | (with_reducible refine Below.trans ?_ (Below.mono (by with_reducible assumption) ?_)) | go_size | (dsimp only; omega)))⟩)
    · have h8 : 10000 < q := by omega
      have h6 : p ≤ q := by omega
      clear h4
      go_enter Try.func76, Try.ntmps76
      go_wp2_with fail
      refine (l01Fraction_c _ _ _).mono ?_
      rintro e w1 ⟨rfl, b1⟩
      have zzb1 := b1.size; (try simp at zzb1); have zb1_0 : w.heap.size < w1.heap.size := (by omega); have kcb1_0 : ∀ o, w1.cell? ⟨w.heap.size, o, none⟩ = _ := fun o => b1.cell (p := ⟨w.heap.size, o, none⟩) (by go_size); have kfb1_0 : ∀ o, w1.frozen? ⟨w.heap.size, o, none⟩ = _ := fun o => b1.frozen (p := ⟨w.heap.size, o, none⟩) (by go_size); clear zzb1
      rw [HF.out]
      go_wp2
      all_goals (go_returns; exact ⟨rfl, (by repeat' (first | (with_reducible exact Below.refl _ _) | (with_reducible assumption) | (with_reducible refine below_drewN ?_ _) | (with_reducible refine Below.drew ?_) | (with_reducible refine Below.alloc ?_ ?_ _) | (with_reducible refine Below.setCell ?_ ?_ _) | (with_reducible refine Below.trans ?_ (Below.mono (by with_reducible assumption) ?_)) | go_size | (dsimp only; omega)))⟩)
  · rw [show treeC p q = 0 from by unfold treeC; rw [if_pos hf, if_neg (by omega), if_neg h4]]
    have HF := Lib.hid hf
    have h5 : ¬ 10000 < p := by omega
    have h6 : ¬ 10000 < q := by omega
    clear hf h4
    go_enter Try.func76, Try.ntmps76
    go_wp2_with fail
    refine (l01Fraction_c _ _ _).mono ?_
    rintro e w1 ⟨rfl, b1⟩
    have zzb1 := b1.size; (try simp at zzb1); have zb1_0 : w.heap.size < w1.heap.size := (by omega); have kcb1_0 : ∀ o, w1.cell? ⟨w.heap.size, o, none⟩ = _ := fun o => b1.cell (p := ⟨w.heap.size, o, none⟩) (by go_size); have kfb1_0 : ∀ o, w1.frozen? ⟨w.heap.size, o, none⟩ = _ := fun o => b1.frozen (p := ⟨w.heap.size, o, none⟩) (by go_size); clear zzb1
    rw [HF.out]
    go_wp2
    all_goals (go_returns; exact ⟨rfl, (by repeat' (first | (with_reducible exact Below.refl _ _) | (with_reducible assumption) | (with_reducible refine below_drewN ?_ _) | (with_reducible refine Below.drew ?_) | (with_reducible refine Below.alloc ?_ ?_ _) | (with_reducible refine Below.setCell ?_ ?_ _) | (with_reducible refine Below.trans ?_ (Below.mono (by with_reducible assumption) ?_)) | go_size | (dsimp only; omega)))⟩)
theorem own_conv {w : World} {base g cap : Nat} {L : List UInt8} (h : w.ownsRow base 5 1 (.slice (some ⟨g, 0, none⟩) L.length cap) L.length (u8s L)) :
    (convert 81 9 (.slice (some ⟨g, 0, none⟩) L.length cap)).run Try.prog w = .ok (.string ⟨L.toArray⟩) w := by
  refine run_convert_bytes_back (P := Try.prog) w 81 9 5 ⟨g, 0, none⟩ cap L under_u8s Try.underlying5 Try.underlying9 ?_
  intro j hj
  exact @World.ownsRow.cells w _ _ _ _ _ _ h (g := g) rfl j (.int .u8 (L[j].toNat : Int)) (by simp [u8s, hj])
theorem PathOf_no (p q c : Int) (w : World) (hc : treeC p q = c) (hz : c ≠ 0) :
    Calls Try.prog 40 #[.agg #[.int .i64 p, .int .i64 q]] w fun e w' => e = .returned (.tuple #[.string ⟨#[]⟩, .int .i64 c]) ∧ Below w.heap.size w w' := by
  have HC := Lib.hid hc
  have hz' : (c == 0) = false := by simpa using hz
  have hz2 : (c != 0) = true := by simpa using hz
  clear hc
  go_enter Try.func40, Try.ntmps40
  go_wp2_with fail
  refine (treeCode_c _ _ _).mono ?_
  rintro e w1 ⟨rfl, b1⟩
  have zzb1 := b1.size; (try simp at zzb1); have zb1_0 : w.heap.size < w1.heap.size := (by omega); have kcb1_0 : ∀ o, w1.cell? ⟨w.heap.size, o, none⟩ = _ := fun o => b1.cell (p := ⟨w.heap.size, o, none⟩) (by go_size); have kfb1_0 : ∀ o, w1.frozen? ⟨w.heap.size, o, none⟩ = _ := fun o => b1.frozen (p := ⟨w.heap.size, o, none⟩) (by go_size); clear zzb1
  rw [HC.out]
  go_wp2
  go_returns
  exact ⟨rfl, (by repeat' (first | (with_reducible exact Below.refl _ _) | (with_reducible assumption) | (with_reducible refine below_drewN ?_ _) | (with_reducible refine Below.drew ?_) | (with_reducible refine Below.alloc ?_ ?_ _) | (with_reducible refine Below.setCell ?_ ?_ _) | (with_reducible refine Below.trans ?_ (Below.mono (by with_reducible assumption) ?_)) | go_size | (dsimp only; omega)))⟩
set_option maxRecDepth 100000 in
set_option maxHeartbeats 2000000 in
theorem PathOf_yes (p q A B C D : Int) (L : List UInt8) (w : World) (hc : treeC p q = 0) (hW : Plain.Walk 0 1 1 0 q p L A B C D) (hL : L.length ≤ 20000) :
    Calls Try.prog 40 #[.agg #[.int .i64 p, .int .i64 q]] w fun e w' => e = .returned (if L.length ≤ 200 then .tuple #[.string ⟨L.toArray⟩, .int .i64 0] else .tuple #[.string ⟨#[]⟩, .int .i64 3]) ∧ Below w.heap.size w w' := by
  obtain ⟨hf, hp0, hp1, hq0, hq1⟩ := treeC_zero hc
  have HC := Lib.hid hc
  have HW := Lib.hid hW
  clear hc hW hf
  by_cases h200 : L.length ≤ 200
  · rw [if_pos h200]
    have hn : ¬ (200 < (L.length : Int)) := by omega
    go_enter Try.func40, Try.ntmps40
    go_wp2_with fail
    refine (treeCode_c _ _ _).mono ?_
    rintro e w1 ⟨rfl, b1⟩
    have zzb1 := b1.size; (try simp at zzb1); have zb1_0 : w.heap.size < w1.heap.size := (by omega); have kcb1_0 : ∀ o, w1.cell? ⟨w.heap.size, o, none⟩ = _ := fun o => b1.cell (p := ⟨w.heap.size, o, none⟩) (by go_size); have kfb1_0 : ∀ o, w1.frozen? ⟨w.heap.size, o, none⟩ = _ := fun o => b1.frozen (p := ⟨w.heap.size, o, none⟩) (by go_size); clear zzb1
    rw [HC.out]
    go_wp2_with fail
    refine (descend_c p q A B C D L _ hp0 hp1 hq0 hq1 HW.out (by omega)).mono ?_
    rintro e w2 ⟨rfl, b2⟩
    have zz : w.heap.size ≤ w2.heap.size := by have h1 := b1.size; have h2 := b2.size; simp at h1; omega
    have hlen : (⟨L.toArray⟩ : ByteArray).size = L.length := by simp [ByteArray.size]
    go_wp2
    go_returns
    exact ⟨rfl, (by repeat' (first | (with_reducible exact Below.refl _ _) | (with_reducible assumption) | (with_reducible refine below_drewN ?_ _) | (with_reducible refine Below.drew ?_) | (with_reducible refine Below.alloc ?_ ?_ _) | (with_reducible refine Below.setCell ?_ ?_ _) | (with_reducible refine Below.trans ?_ (Below.mono (by with_reducible assumption) ?_)) | go_size | (dsimp only; omega)))⟩
  · rw [if_neg h200]
    have hn : (200 < (L.length : Int)) := by omega
    go_enter Try.func40, Try.ntmps40
    go_wp2_with fail
    refine (treeCode_c _ _ _).mono ?_
    rintro e w1 ⟨rfl, b1⟩
    have zzb1 := b1.size; (try simp at zzb1); have zb1_0 : w.heap.size < w1.heap.size := (by omega); have kcb1_0 : ∀ o, w1.cell? ⟨w.heap.size, o, none⟩ = _ := fun o => b1.cell (p := ⟨w.heap.size, o, none⟩) (by go_size); have kfb1_0 : ∀ o, w1.frozen? ⟨w.heap.size, o, none⟩ = _ := fun o => b1.frozen (p := ⟨w.heap.size, o, none⟩) (by go_size); clear zzb1
    rw [HC.out]
    go_wp2_with fail
    refine (descend_c p q A B C D L _ hp0 hp1 hq0 hq1 HW.out (by omega)).mono ?_
    rintro e w2 ⟨rfl, b2⟩
    have zz : w.heap.size ≤ w2.heap.size := by have h1 := b1.size; have h2 := b2.size; simp at h1; omega
    have hlen : (⟨L.toArray⟩ : ByteArray).size = L.length := by simp [ByteArray.size]
    go_wp2
    go_returns
    exact ⟨rfl, (by repeat' (first | (with_reducible exact Below.refl _ _) | (with_reducible assumption) | (with_reducible refine below_drewN ?_ _) | (with_reducible refine Below.drew ?_) | (with_reducible refine Below.alloc ?_ ?_ _) | (with_reducible refine Below.setCell ?_ ?_ _) | (with_reducible refine Below.trans ?_ (Below.mono (by with_reducible assumption) ?_)) | go_size | (dsimp only; omega)))⟩
theorem sPathOf_no (p q c : Int) (w : World) (hc : treeC p q = c) (hz : c ≠ 0) :
    Calls Try.prog 39 #[.agg #[.int .i64 p, .int .i64 q]] w fun e w' => e = .returned (.tuple #[.string ⟨#[]⟩, .int .i64 c]) ∧ Below w.heap.size w w' := by
  have HC := Lib.hid hc
  have hz' : (c == 0) = false := by simpa using hz
  have hz2 : (c != 0) = true := by simpa using hz
  clear hc
  go_enter Try.func39, Try.ntmps39
  go_wp2_with fail
  refine (l03Given_c _ _ _).mono ?_
  rintro e w1 ⟨rfl, b1⟩
  have zzb1 := b1.size; (try simp at zzb1); have zb1_0 : w.heap.size < w1.heap.size := (by omega); have kcb1_0 : ∀ o, w1.cell? ⟨w.heap.size, o, none⟩ = _ := fun o => b1.cell (p := ⟨w.heap.size, o, none⟩) (by go_size); have kfb1_0 : ∀ o, w1.frozen? ⟨w.heap.size, o, none⟩ = _ := fun o => b1.frozen (p := ⟨w.heap.size, o, none⟩) (by go_size); clear zzb1
  rw [HC.out]
  go_wp2
  go_returns
  exact ⟨rfl, (by repeat' (first | (with_reducible exact Below.refl _ _) | (with_reducible assumption) | (with_reducible refine below_drewN ?_ _) | (with_reducible refine Below.drew ?_) | (with_reducible refine Below.alloc ?_ ?_ _) | (with_reducible refine Below.setCell ?_ ?_ _) | (with_reducible refine Below.trans ?_ (Below.mono (by with_reducible assumption) ?_)) | go_size | (dsimp only; omega)))⟩
set_option maxRecDepth 100000 in
set_option maxHeartbeats 2000000 in
theorem sPathOf_yes (p q A B C D : Int) (L : List UInt8) (w : World) (hc : treeC p q = 0) (hW : Plain.Walk 0 1 1 0 q p L A B C D) (hL : L.length ≤ 20000) :
    Calls Try.prog 39 #[.agg #[.int .i64 p, .int .i64 q]] w fun e w' => e = .returned (if L.length ≤ 200 then .tuple #[.string ⟨L.toArray⟩, .int .i64 0] else .tuple #[.string ⟨#[]⟩, .int .i64 3]) ∧ Below w.heap.size w w' := by
  obtain ⟨hf, hp0, hp1, hq0, hq1⟩ := treeC_zero hc
  have HC := Lib.hid hc
  have HW := Lib.hid hW
  clear hc hW hf
  by_cases h200 : L.length ≤ 200
  · rw [if_pos h200]
    have hn : ¬ (200 < (L.length : Int)) := by omega
    go_enter Try.func39, Try.ntmps39
    go_wp2_with fail
    refine (l03Given_c _ _ _).mono ?_
    rintro e w1 ⟨rfl, b1⟩
    have zzb1 := b1.size; (try simp at zzb1); have zb1_0 : w.heap.size < w1.heap.size := (by omega); have kcb1_0 : ∀ o, w1.cell? ⟨w.heap.size, o, none⟩ = _ := fun o => b1.cell (p := ⟨w.heap.size, o, none⟩) (by go_size); have kfb1_0 : ∀ o, w1.frozen? ⟨w.heap.size, o, none⟩ = _ := fun o => b1.frozen (p := ⟨w.heap.size, o, none⟩) (by go_size); clear zzb1
    rw [HC.out]
    go_wp2_with fail
    refine (l03Walk_c p q A B C D L _ hp0 hp1 hq0 hq1 HW.out (by omega)).mono ?_
    rintro e w2 ⟨g, cap, rfl, ho, b2⟩
    have zz : w.heap.size ≤ w2.heap.size := by have h1 := b1.size; have h2 := b2.size; simp at h1; omega
    have hcv := own_conv ((ho.alloc (Obj.cells #[.int .i64 A, .int .i64 B] 32)).alloc (Obj.cells #[.int .i64 C, .int .i64 D] 32))
    clear ho
    go_wp2
    go_returns
    exact ⟨rfl, (by repeat' (first | (with_reducible exact Below.refl _ _) | (with_reducible assumption) | (with_reducible refine below_drewN ?_ _) | (with_reducible refine Below.drew ?_) | (with_reducible refine Below.alloc ?_ ?_ _) | (with_reducible refine Below.setCell ?_ ?_ _) | (with_reducible refine Below.trans ?_ (Below.mono (by with_reducible assumption) ?_)) | go_size | (dsimp only; omega)))⟩
  · rw [if_neg h200]
    have hn : (200 < (L.length : Int)) := by omega
    go_enter Try.func39, Try.ntmps39
    go_wp2_with fail
    refine (l03Given_c _ _ _).mono ?_
    rintro e w1 ⟨rfl, b1⟩
    have zzb1 := b1.size; (try simp at zzb1); have zb1_0 : w.heap.size < w1.heap.size := (by omega); have kcb1_0 : ∀ o, w1.cell? ⟨w.heap.size, o, none⟩ = _ := fun o => b1.cell (p := ⟨w.heap.size, o, none⟩) (by go_size); have kfb1_0 : ∀ o, w1.frozen? ⟨w.heap.size, o, none⟩ = _ := fun o => b1.frozen (p := ⟨w.heap.size, o, none⟩) (by go_size); clear zzb1
    rw [HC.out]
    go_wp2_with fail
    refine (l03Walk_c p q A B C D L _ hp0 hp1 hq0 hq1 HW.out (by omega)).mono ?_
    rintro e w2 ⟨g, cap, rfl, ho, b2⟩
    have zz : w.heap.size ≤ w2.heap.size := by have h1 := b1.size; have h2 := b2.size; simp at h1; omega
    have hcv := own_conv ((ho.alloc (Obj.cells #[.int .i64 A, .int .i64 B] 32)).alloc (Obj.cells #[.int .i64 C, .int .i64 D] 32))
    clear ho
    go_wp2
    go_returns
    exact ⟨rfl, (by repeat' (first | (with_reducible exact Below.refl _ _) | (with_reducible assumption) | (with_reducible refine below_drewN ?_ _) | (with_reducible refine Below.drew ?_) | (with_reducible refine Below.alloc ?_ ?_ _) | (with_reducible refine Below.setCell ?_ ?_ _) | (with_reducible refine Below.trans ?_ (Below.mono (by with_reducible assumption) ?_)) | go_size | (dsimp only; omega)))⟩
end Go.Proofs.Ytmopjfjmmdnapaa
