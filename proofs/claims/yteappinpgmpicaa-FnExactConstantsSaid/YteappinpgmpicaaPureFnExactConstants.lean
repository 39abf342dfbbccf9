/- The constants are the document's. No condition. -/
import Derived.Test.YteappinpgmpicaaPFnExactConstantsx1
namespace Go.Proofs.Yteappinpgmpicaa.Pure
open Go.RowKit Go.Proofs.Yteappinpgmpicaa.PFnExactConstants Go.Proofs.YteappinpgmpicaaW.PrintWords Go.Proofs.YteappinpgmpicaaW.PrintLast

/-- YOURS: laws_FnExactConstants.f  = some true
What it reaches (each with k first where it has rounds; `.mono`: more rounds tell the same; `.l0`, ..: its loops, with `.mono_l`): laws_FnExactConstants.f -/
theorem FnExactConstants : laws_FnExactConstants.Pure := by
  rfl

end Go.Proofs.Yteappinpgmpicaa.Pure
