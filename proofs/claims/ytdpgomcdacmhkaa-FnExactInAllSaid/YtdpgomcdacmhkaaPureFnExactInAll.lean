/- The law FnExactInAll, as a plain statement over numbers and lists (no Go, no memory): ∃ k, laws_FnExactInAll.f k  = some true
It holds for all such arguments; there are no further conditions. -/
import Derived.Test.YtdpgomcdacmhkaaPFnExactInAllx2
import Derived.Test.YtdpgomcdacmhkaaPlain
set_option linter.unusedVariables false
set_option linter.unusedSimpArgs false
namespace Go.Proofs.Ytdpgomcdacmhkaa.Pure
open Go.RowKit Go.Proofs.Ytdpgomcdacmhkaa.PFnExactInAll Go.Proofs.YtdpgomcdacmhkaaW.PrintWords Go.Proofs.YtdpgomcdacmhkaaW.PrintLast Go.Proofs.Ytdpgomcdacmhkaa.Plain
theorem FnExactInAll : laws_FnExactInAll.Pure := by
-- bare
  exact ⟨5, by kernel_rfl⟩
end Go.Proofs.Ytdpgomcdacmhkaa.Pure
