/- The law FnExactNamNew, as a plain statement over numbers and lists (no Go, no memory): ∃ k, laws_FnExactNamNew.f k = some true
It holds for all such arguments; there are no further conditions. -/
import Derived.Test.YtiemacjmipiakaaQFnExactNamNewx3
import Derived.Test.YtiemacjmipiakaaPlain
set_option linter.unusedVariables false
set_option linter.unusedSimpArgs false
namespace Go.Proofs.Ytiemacjmipiakaa.Pure
open Go.RowKit Go.Proofs.Ytiemacjmipiakaa.QFnExactNamNew Go.Proofs.YtiemacjmipiakaaW.PrintWords Go.Proofs.YtiemacjmipiakaaW.PrintLast Go.Proofs.Ytiemacjmipiakaa.Plain
theorem FnExactNamNew : ∃ k, laws_FnExactNamNew.f k = some true := by
-- bare
  exact ⟨60, by kernel_rfl⟩
end Go.Proofs.Ytiemacjmipiakaa.Pure
