/- The law FnExactGueNew, as a plain statement over numbers and lists (no Go, no memory): ∃ k, laws_FnExactGueNew.f k  = some true
It holds for all such arguments; there are no further conditions. -/
import Derived.Test.YtmapppjgmlcbaaaPFnExactGueNewx3
import Derived.Test.YtmapppjgmlcbaaaPlain
set_option linter.unusedVariables false
set_option linter.unusedSimpArgs false
namespace Go.Proofs.Ytmapppjgmlcbaaa.Pure
open Go.RowKit Go.Proofs.Ytmapppjgmlcbaaa.PFnExactGueNew Go.Proofs.YtmapppjgmlcbaaaW.PrintWords Go.Proofs.YtmapppjgmlcbaaaW.PrintLast Go.Proofs.Ytmapppjgmlcbaaa.Plain
theorem FnExactGueNew : laws_FnExactGueNew.Pure := by
-- bare
  exact ⟨40, by kernel_rfl⟩
end Go.Proofs.Ytmapppjgmlcbaaa.Pure
