/- MatrixOfChain. -/
import Derived.Test.YtlkhhpckgcdeeaaGreatDoorAX
import Derived.Deep.DeepCutAuto
import Derived.StillTailTactics
namespace Go.Proofs.YtlkhhpckgcdeeaaGreatDoor
open Go.RowKit
set_option linter.unusedVariables false
set_option linter.unusedSimpArgs false
attribute [local go_sem] run_min_int4 run_max_int4
theorem prodL_append (l1 l2 : List M4) : ∀ m, prodL m (l1 ++ l2) = (prodL m l1).bind (fun x => prodL x l2) := by
  induction l1 with
  | nil => intro m; rfl
  | cons n l1 ih =>
    intro m
    rw [List.cons_append, prodL, prodL]
    split
    · exact ih _
    · rfl
def mS : M4 := ⟨0, -1, 1, 0⟩
def mT (z : Int) : M4 := ⟨1, z, 0, 1⟩
/-- the factors of a chain's first k numbers -/
def cC (sg : Int) (zs : List Int) : Nat → List M4
  | 0 => [⟨sg, 0, 0, sg⟩]
  | k + 1 => cC sg zs k ++ (if k = 0 then [mT (zs.getD k 0)] else [mS, mT (zs.getD k 0)])
theorem cC_len (sg : Int) (zs : List Int) (k : Nat) : (cC sg zs k).length = if k = 0 then 1 else 2 * k := by
  induction k with
  | zero => rfl
  | succ k ih =>
    rw [cC, List.length_append, ih]
    by_cases h : k = 0
    · subst h; rfl
    · rw [if_neg h, if_neg h, if_neg (by omega)]; simp; omega
def OkC (sg : Int) (zs : List Int) : Prop := (sg = 1 ∨ sg = -1) ∧ 1 ≤ zs.length ∧ zs.length ≤ 100 ∧ ∀ i, i < zs.length → ent (zs.getD i 0) = true
theorem mT_ent {z : Int} (h : ent z = true) : (mT z).ent = true := M4.ent_iff.mpr ⟨(by decide : ent 1 = true), h, (by decide : ent 0 = true), (by decide : ent 1 = true)⟩
theorem cC_ent {sg : Int} {zs : List Int} (h : OkC sg zs) : ∀ k, k ≤ zs.length → ∀ m ∈ cC sg zs k, m.ent = true := by
  intro k
  induction k with
  | zero =>
    intro _ m hm
    simp only [cC, List.mem_singleton] at hm
    subst hm
    rcases h.1 with e | e <;> subst e <;> decide
  | succ k ih =>
    intro hk m hm
    rw [cC, List.mem_append] at hm
    rcases hm with hm | hm
    · exact ih (by omega) m hm
    · have ht := mT_ent (h.2.2.2 k (by omega))
      split at hm
      · simp only [List.mem_singleton] at hm; rw [hm]; exact ht
      · simp only [List.mem_cons, List.not_mem_nil, or_false] at hm
        rcases hm with e | e
        · rw [e]; decide
        · rw [e]; exact ht
theorem cC_none (sg : Int) (zs : List Int) {k n : Nat} (hk : k ≤ n) (h : prodL M4.I (cC sg zs k) = none) : prodL M4.I (cC sg zs n) = none := by
  induction hk with
  | refl => exact h
  | step _ ih => rw [cC, prodL_append, ih]; rfl
theorem cC_start {sg : Int} (h : sg = 1 ∨ sg = -1) (zs : List Int) : prodL M4.I (cC sg zs 0) = some ⟨sg, 0, 0, sg⟩ := by
  rcases h with e | e <;> subst e <;> rfl
open Classical in
/-- what MatrixOfChain answers -/
noncomputable def chainV (sg : Int) (zs : List Int) : Value := if OkC sg zs then prodV (prodL M4.I (cC sg zs zs.length)) else .tuple #[.agg #[.int .i64 0, .int .i64 0, .int .i64 0, .int .i64 0], .int .i64 2]
theorem chainV_yes {sg : Int} {zs : List Int} (h : OkC sg zs) : chainV sg zs = prodV (prodL M4.I (cC sg zs zs.length)) := if_pos h
theorem chainV_no {sg : Int} {zs : List Int} (h : ¬ OkC sg zs) : chainV sg zs = .tuple #[.agg #[.int .i64 0, .int .i64 0, .int .i64 0, .int .i64 0], .int .i64 2] := if_neg h
theorem chainV_form (sg : Int) (zs : List Int) : ∃ a b c d e : Int, chainV sg zs = .tuple #[.agg #[.int .i64 a, .int .i64 b, .int .i64 c, .int .i64 d], .int .i64 e] := by
  unfold chainV
  split
  · exact prodV_form _
  · exact ⟨_, _, _, _, _, rfl⟩
theorem size_wide (n : Int) (w : World) (h0 : -9223372036854775807 ≤ n) (h1 : n ≤ 9223372036854775807) :
    Calls Tryz.prog 116 #[.int .i64 n] w fun e w' => e = .returned (.int .i64 (max n (-n))) ∧ w = w' := by
  go_enter Tryz.func116, Tryz.ntmps116
  go_wp2
  all_goals (go_ret; exact ⟨ret_int (by omega), rfl⟩)
theorem size_least (w : World) :
    Calls Tryz.prog 116 #[.int .i64 (-9223372036854775808)] w fun e w' => e = .returned (.int .i64 (-9223372036854775808)) ∧ w = w' := by
  go_enter Tryz.func116, Tryz.ntmps116
  go_wp2
  all_goals (go_ret; exact ⟨ret_int (by rw [show wrap64 9223372036854775808 = -9223372036854775808 from by first | kernel_rfl | (unfold wrap64; omega) | (simp [wrap64]; done)]; omega), rfl⟩)
theorem size_any (n : Int) (w : World) (hw : (Lit.int .i64 n).wf = true) :
    ∃ m : Int, (m = 1 ↔ (n = 1 ∨ n = -1)) ∧ Calls Tryz.prog 116 #[.int .i64 n] w fun e w' => e = .returned (.int .i64 m) ∧ w = w' := by
  have hb : -9223372036854775808 ≤ n ∧ n ≤ 9223372036854775807 := by
    simp only [Lit.wf, Bool.and_eq_true, decide_eq_true_eq] at hw
    have e1 : IntKind.i64.min = -9223372036854775808 := by decide
    have e2 : IntKind.i64.max = 9223372036854775807 := by decide
    rw [e1, e2] at hw; exact hw
  by_cases h : n = -9223372036854775808
  · subst h; exact ⟨_, by omega, size_least w⟩
  · exact ⟨_, by omega, size_wide n w (by omega) hb.2⟩
end Go.Proofs.YtlkhhpckgcdeeaaGreatDoor
