/- FractionOfContinued in plain Lean: which lists are continued fractions, and what is answered. -/
import Derived.Test.YtmopjfjmmdnapaaCX
import Derived.Test.YtmopjfjmmdnapaaCY
namespace Go.Proofs.Ytmopjfjmmdnapaa
open Go.RowKit
set_option linter.unusedVariables false
set_option linter.unusedSimpArgs false
/-- a number of a list stands well -/
def okC (zs : List Int) (i : Nat) : Prop := if i = 0 then -1000000000 ≤ zs.getD i 0 ∧ zs.getD i 0 ≤ 1000000000 else 1 ≤ zs.getD i 0 ∧ zs.getD i 0 ≤ 1000000000 ∧ ¬ (i + 1 = zs.length ∧ zs.getD i 0 = 1)
def OkC (zs : List Int) : Prop := 1 ≤ zs.length ∧ zs.length ≤ 60 ∧ ∀ i, i < zs.length → okC zs i
theorem okC_ent {zs : List Int} {i : Nat} (h : okC zs i) : ent (zs.getD i 0) = true := by
  apply ent_iff.mpr
  unfold okC at h
  split at h <;> omega
theorem OkC_ent {zs : List Int} (h : OkC zs) : ∀ i, i < zs.length → ent (zs.getD i 0) = true := fun i hi => okC_ent (h.2.2 i hi)
theorem all_ent {zs : List Int} (h : ∀ i, i < zs.length → ent (zs.getD i 0) = true) : zs.all ent = true := by
  apply List.all_eq_true.mpr
  intro x hx
  obtain ⟨k, hk, rfl⟩ := List.mem_iff_getElem.mp hx
  have := h k hk
  simpa [List.getD, hk] using this
theorem ent_all {zs : List Int} (h : zs.all ent = true) : ∀ i, i < zs.length → ent (zs.getD i 0) = true := by
  intro i hi
  have := List.all_eq_true.mp h zs[i] (List.getElem_mem _)
  simpa [List.getD, hi] using this
/-- the least number of 1 and of all numbers behind the first one up to place k -/
def least (zs : List Int) : Nat → Int
  | 0 => 1
  | k + 1 => min (least zs k) (zs.getD (k + 1) 0)
theorem least_le {zs : List Int} : ∀ k i : Nat, 1 ≤ i → i ≤ k → least zs k ≤ zs.getD i 0
  | 0, i, h1, h2 => by omega
  | k + 1, i, h1, h2 => by
    unfold least
    by_cases h : i = k + 1
    · subst h; omega
    · have := least_le (zs := zs) k i h1 (by omega); omega
theorem le_least {zs : List Int} : ∀ k : Nat, (∀ i, 1 ≤ i → i ≤ k → 1 ≤ zs.getD i 0) → 1 ≤ least zs k
  | 0, _ => by simp [least]
  | k + 1, h => by
    unfold least
    have h1 := le_least (zs := zs) k (fun i a b => h i a (by omega))
    have h2 := h (k + 1) (by omega) (by omega)
    omega
theorem OkC_of {zs : List Int} (h1 : 1 ≤ zs.length) (h2 : zs.length ≤ 60) (h3 : zs.all ent = true) (h4 : 1 < zs.length → 2 ≤ zs.getD (zs.length - 1) 0) (h5 : 1 ≤ least zs (zs.length - 1)) : OkC zs := by
  refine ⟨h1, h2, fun i hi => ?_⟩
  have he := ent_iff.mp (ent_all h3 i hi)
  unfold okC
  split
  · exact he
  · have := least_le (zs := zs) (zs.length - 1) i (by omega) (by omega)
    refine ⟨by omega, he.2, fun ⟨a, b⟩ => ?_⟩
    have h6 := h4 (by omega)
    have : zs.length - 1 = i := by omega
    rw [this] at h6; omega
theorem OkC_to {zs : List Int} (h : OkC zs) : zs.all ent = true ∧ (1 < zs.length → 2 ≤ zs.getD (zs.length - 1) 0) ∧ 1 ≤ least zs (zs.length - 1) := by
  refine ⟨all_ent (OkC_ent h), fun hl => ?_, le_least _ (fun i a b => ?_)⟩
  · have := h.2.2 (zs.length - 1) (by omega)
    unfold okC at this
    rw [if_neg (by omega)] at this
    have h1 := this.1
    rcases Int.lt_or_le (zs.getD (zs.length - 1) 0) 2 with h2 | h2
    · exact absurd ⟨by omega, by omega⟩ this.2.2
    · exact h2
  · have := h.2.2 i (by have := h.1; omega)
    unfold okC at this
    rw [if_neg (by omega)] at this
    exact this.1
open Classical in
/-- what FractionOfContinued answers -/
noncomputable def contV (zs : List Int) : Value := if OkC zs then (match convs 1 0 0 1 zs with | some L => .tuple #[.agg #[.int .i64 (L.getD ((zs.length - 1) * 2) 0), .int .i64 (L.getD ((zs.length - 1) * 2 + 1) 0)], .int .i64 0] | none => .tuple #[.agg #[.int .i64 0, .int .i64 0], .int .i64 3]) else .tuple #[.agg #[.int .i64 0, .int .i64 0], .int .i64 2]
theorem contV_yes {zs L : List Int} (h : OkC zs) (hL : convs 1 0 0 1 zs = some L) : contV zs = .tuple #[.agg #[.int .i64 (L.getD ((zs.length - 1) * 2) 0), .int .i64 (L.getD ((zs.length - 1) * 2 + 1) 0)], .int .i64 0] := by
  unfold contV
  rw [if_pos h, hL]
theorem contV_lim {zs : List Int} (h : OkC zs) (hL : convs 1 0 0 1 zs = none) : contV zs = .tuple #[.agg #[.int .i64 0, .int .i64 0], .int .i64 3] := by
  unfold contV
  rw [if_pos h, hL]
theorem contV_no {zs : List Int} (h : ¬ OkC zs) : contV zs = .tuple #[.agg #[.int .i64 0, .int .i64 0], .int .i64 2] := if_neg h
theorem contV_form (zs : List Int) : ∃ p q c : Int, contV zs = .tuple #[.agg #[.int .i64 p, .int .i64 q], .int .i64 c] := by
  by_cases h : OkC zs
  · cases hL : convs 1 0 0 1 zs
    · exact ⟨_, _, _, contV_lim h hL⟩
    · exact ⟨_, _, _, contV_yes h hL⟩
  · exact ⟨_, _, _, contV_no h⟩
end Go.Proofs.Ytmopjfjmmdnapaa
