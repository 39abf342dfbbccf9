/- Whatever the number, CountModulo of the program and of the reference come to the same: within 1 to 1000 each number is reckoned through by the kernel, outside both answer the same code. No condition. -/
import Derived.Test.YteappinpgmpicaaPFnExactCountModulox1
namespace Go.Proofs.Yteappinpgmpicaa.Pure
open Go.RowKit Go.Proofs.Yteappinpgmpicaa.PFnExactCountModulo Go.Proofs.YteappinpgmpicaaW.PrintWords Go.Proofs.YteappinpgmpicaaW.PrintLast

theorem within_no {a : Int} (h : ¬ (1 ≤ a ∧ a ≤ 1000)) : spec_l01In.f a 1 1000 = some false ∧ impl_within.f a 1 1000 = some false := by
  unfold spec_l01In.f impl_within.f
  by_cases h1 : a ≥ 1
  · have : ¬ a ≤ 1000 := by omega
    simp [this]
  · simp [h1]
set_option maxRecDepth 1000000 in
theorem small : ∀ n : Fin 1000, laws_FnExactCountModulo.f 1100 ((n.val : Int) + 1) = some true := by decide +kernel
theorem FnExactCountModulo : laws_FnExactCountModulo.Pure := by
  intro a _
  by_cases h : 1 ≤ a ∧ a ≤ 1000
  · refine ⟨1100, ?_⟩
    have := small ⟨(a - 1).toNat, by omega⟩
    simp only at this
    rwa [show (((a - 1).toNat : Nat) : Int) + 1 = a by omega] at this
  · obtain ⟨h1, h2⟩ := within_no h
    refine ⟨1, ?_⟩
    unfold laws_FnExactCountModulo.f spec_CountModulo.f impl_CountModulo.f
    rw [h1, h2]
    rfl

end Go.Proofs.Yteappinpgmpicaa.Pure
