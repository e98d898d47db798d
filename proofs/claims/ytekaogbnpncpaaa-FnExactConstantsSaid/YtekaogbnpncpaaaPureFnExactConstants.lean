/- The law FnExactConstants, as a plain statement over numbers and lists (no Go, no memory): laws_FnExactConstants.f  = some true
It holds for all such arguments; there are no further conditions. -/
import Derived.Test.YtekaogbnpncpaaaPFnExactConstantsx1
import Derived.Test.YtekaogbnpncpaaaPlain
set_option linter.unusedVariables false
set_option linter.unusedSimpArgs false
namespace Go.Proofs.Ytekaogbnpncpaaa.Pure
open Go.RowKit Go.Proofs.Ytekaogbnpncpaaa.PFnExactConstants Go.Proofs.YtekaogbnpncpaaaW.PrintWords Go.Proofs.YtekaogbnpncpaaaW.PrintLast Go.Proofs.Ytekaogbnpncpaaa.Plain
theorem FnExactConstants : laws_FnExactConstants.Pure := by
  unfold laws_FnExactConstants.Pure laws_FnExactConstants.f
  rfl
end Go.Proofs.Ytekaogbnpncpaaa.Pure
