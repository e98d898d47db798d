/-
  No cell of these rows narrows 'for every input' (looked for: loops, veiled, ifaces, maps, wideKeys, modest, calm, conditions, laid).
  DERIVED. THE GIVEN ROWS OF THIS SEAT. 11 by the template 'for every input the law returns true; each argument reads behind the call as it read before'; 0 by the template 'total and deterministic' (their statements: YtiemacjmipiakaaTotals.lean).
  GIVEN WITH THE SEED: the statements are not yours to turn. If you find one false, say at which input.
  Laid BY PROGRAM, IN A SANDBOX (cutbox-rows.mjs): the forced cells as the released guide's own fill.sh prints them over the translation ca14a222defafd27… (all of the seat's roots in one cut). By AI agents, Wed Nov 11 2026. No macro, syntax, notation, axiom, sorry.
-/
import Derived.Test.YtiemacjmipiakaaChecked
import GoSem.Claim
import GoSem.ClaimJoined
import GoSem.ClaimMapViews
import Derived.JoinedTies
import Derived.KernelRfl
namespace Go.Proofs.Ytiemacjmipiakaa
/- THE CELL 'sum', in the pinned program and in every row, IS THE sha256 OF THE DUMP (.gsa) THAT YtiemacjmipiakaaProg.lean LOADS. Nothing in Lean hashes anything: it is a label: what it is worth is what the hold of that sum in a sandbox is worth. -/
noncomputable def Try.pinned : Pinned := { name := "ytiemacjmipiakaa", sum := "ca14a222defafd2725b0ec36f0ba160943509fc19a7f32a4a3bcb38073cb656c", checked := Try.checked }
namespace Rows
def none {H : Type} : Left H := { results := [], args := [] }

/-- 'laws.FnExactNamNew': WHATEVER THE INPUT: true; the input reads as it did. -/
def fnExactNamNewSpec : ChangeSpec := { name := "fnExactNamNew", fn := fun _ => fun
  | [] => { results := [.lit (.bool true)], args := [] }
  | _ => none }
def fnExactNamNewRow : OpenClaim := { program := "ytiemacjmipiakaa", sum := "ca14a222defafd2725b0ec36f0ba160943509fc19a7f32a4a3bcb38073cb656c", func := "loop.example/harbinger/laws.FnExactNamNew", spec := "fnExactNamNew", apart := false }
def FnExactNamNewSaid : Prop := fnExactNamNewRow.holds Try.pinned (OpenSpec.ofChange fnExactNamNewSpec)

/-- ITS FALSE NEIGHBOUR: 'it returns false'. Refute it at one input. -/
def fnExactNamNewWrong : ChangeSpec := { name := "fnExactNamNew", fn := fun _ => fun
  | [] => { results := [.lit (.bool false)], args := [] }
  | _ => none }
def FnExactNamNewWrongFalsely : Prop := fnExactNamNewRow.holds Try.pinned (OpenSpec.ofChange fnExactNamNewWrong)

/-- 'laws.FnExactNamOk': WHATEVER THE INPUT: true; the input reads as it did. -/
def fnExactNamOkSpec : ChangeSpec := { name := "fnExactNamOk", fn := fun _ => fun
  | [d] => { results := [.lit (.bool true)], args := [d] }
  | _ => none }
def fnExactNamOkRow : OpenClaim := { program := "ytiemacjmipiakaa", sum := "ca14a222defafd2725b0ec36f0ba160943509fc19a7f32a4a3bcb38073cb656c", func := "loop.example/harbinger/laws.FnExactNamOk", spec := "fnExactNamOk", apart := false }
def FnExactNamOkSaid : Prop := fnExactNamOkRow.holds Try.pinned (OpenSpec.ofChange fnExactNamOkSpec)

/-- ITS FALSE NEIGHBOUR: 'it returns false'. Refute it at one input. -/
def fnExactNamOkWrong : ChangeSpec := { name := "fnExactNamOk", fn := fun _ => fun
  | [d] => { results := [.lit (.bool false)], args := [d] }
  | _ => none }
def FnExactNamOkWrongFalsely : Prop := fnExactNamOkRow.holds Try.pinned (OpenSpec.ofChange fnExactNamOkWrong)

/-- 'laws.FnExactNamGet': WHATEVER THE INPUT: true; the input reads as it did. -/
def fnExactNamGetSpec : ChangeSpec := { name := "fnExactNamGet", fn := fun _ => fun
  | [d1, d2] => { results := [.lit (.bool true)], args := [d1, d2] }
  | _ => none }
def fnExactNamGetRow : OpenClaim := { program := "ytiemacjmipiakaa", sum := "ca14a222defafd2725b0ec36f0ba160943509fc19a7f32a4a3bcb38073cb656c", func := "loop.example/harbinger/laws.FnExactNamGet", spec := "fnExactNamGet", apart := false }
def FnExactNamGetSaid : Prop := fnExactNamGetRow.holds Try.pinned (OpenSpec.ofChange fnExactNamGetSpec)

/-- ITS FALSE NEIGHBOUR: 'it returns false'. Refute it at one input. -/
def fnExactNamGetWrong : ChangeSpec := { name := "fnExactNamGet", fn := fun _ => fun
  | [d1, d2] => { results := [.lit (.bool false)], args := [d1, d2] }
  | _ => none }
def FnExactNamGetWrongFalsely : Prop := fnExactNamGetRow.holds Try.pinned (OpenSpec.ofChange fnExactNamGetWrong)

/-- 'laws.FnExactNamFree': WHATEVER THE INPUT: true; the input reads as it did. -/
def fnExactNamFreeSpec : ChangeSpec := { name := "fnExactNamFree", fn := fun _ => fun
  | [d1, d2] => { results := [.lit (.bool true)], args := [d1, d2] }
  | _ => none }
def fnExactNamFreeRow : OpenClaim := { program := "ytiemacjmipiakaa", sum := "ca14a222defafd2725b0ec36f0ba160943509fc19a7f32a4a3bcb38073cb656c", func := "loop.example/harbinger/laws.FnExactNamFree", spec := "fnExactNamFree", apart := false }
def FnExactNamFreeSaid : Prop := fnExactNamFreeRow.holds Try.pinned (OpenSpec.ofChange fnExactNamFreeSpec)

/-- ITS FALSE NEIGHBOUR: 'it returns false'. Refute it at one input. -/
def fnExactNamFreeWrong : ChangeSpec := { name := "fnExactNamFree", fn := fun _ => fun
  | [d1, d2] => { results := [.lit (.bool false)], args := [d1, d2] }
  | _ => none }
def FnExactNamFreeWrongFalsely : Prop := fnExactNamFreeRow.holds Try.pinned (OpenSpec.ofChange fnExactNamFreeWrong)

/-- 'laws.FnExactNamBack': WHATEVER THE INPUT: true; the input reads as it did. -/
def fnExactNamBackSpec : ChangeSpec := { name := "fnExactNamBack", fn := fun _ => fun
  | [d1, d2, d3, d4] => { results := [.lit (.bool true)], args := [d1, d2, d3, d4] }
  | _ => none }
def fnExactNamBackRow : OpenClaim := { program := "ytiemacjmipiakaa", sum := "ca14a222defafd2725b0ec36f0ba160943509fc19a7f32a4a3bcb38073cb656c", func := "loop.example/harbinger/laws.FnExactNamBack", spec := "fnExactNamBack", apart := false }
def FnExactNamBackSaid : Prop := fnExactNamBackRow.holds Try.pinned (OpenSpec.ofChange fnExactNamBackSpec)

/-- ITS FALSE NEIGHBOUR: 'it returns false'. Refute it at one input. -/
def fnExactNamBackWrong : ChangeSpec := { name := "fnExactNamBack", fn := fun _ => fun
  | [d1, d2, d3, d4] => { results := [.lit (.bool false)], args := [d1, d2, d3, d4] }
  | _ => none }
def FnExactNamBackWrongFalsely : Prop := fnExactNamBackRow.holds Try.pinned (OpenSpec.ofChange fnExactNamBackWrong)

/-- 'laws.FnExactNamTake': WHATEVER THE INPUT: true; the input reads as it did. -/
def fnExactNamTakeSpec : ChangeSpec := { name := "fnExactNamTake", fn := fun _ => fun
  | [d1, d2] => { results := [.lit (.bool true)], args := [d1, d2] }
  | _ => none }
def fnExactNamTakeRow : OpenClaim := { program := "ytiemacjmipiakaa", sum := "ca14a222defafd2725b0ec36f0ba160943509fc19a7f32a4a3bcb38073cb656c", func := "loop.example/harbinger/laws.FnExactNamTake", spec := "fnExactNamTake", apart := false }
def FnExactNamTakeSaid : Prop := fnExactNamTakeRow.holds Try.pinned (OpenSpec.ofChange fnExactNamTakeSpec)

/-- ITS FALSE NEIGHBOUR: 'it returns false'. Refute it at one input. -/
def fnExactNamTakeWrong : ChangeSpec := { name := "fnExactNamTake", fn := fun _ => fun
  | [d1, d2] => { results := [.lit (.bool false)], args := [d1, d2] }
  | _ => none }
def FnExactNamTakeWrongFalsely : Prop := fnExactNamTakeRow.holds Try.pinned (OpenSpec.ofChange fnExactNamTakeWrong)

/-- 'laws.FnNamLast': WHATEVER THE INPUT: true; the input reads as it did. -/
def fnNamLastSpec : ChangeSpec := { name := "fnNamLast", fn := fun _ => fun
  | [d] => { results := [.lit (.bool true)], args := [d] }
  | _ => none }
def fnNamLastRow : OpenClaim := { program := "ytiemacjmipiakaa", sum := "ca14a222defafd2725b0ec36f0ba160943509fc19a7f32a4a3bcb38073cb656c", func := "loop.example/harbinger/laws.FnNamLast", spec := "fnNamLast", apart := false }
def FnNamLastSaid : Prop := fnNamLastRow.holds Try.pinned (OpenSpec.ofChange fnNamLastSpec)

/-- ITS FALSE NEIGHBOUR: 'it returns false'. Refute it at one input. -/
def fnNamLastWrong : ChangeSpec := { name := "fnNamLast", fn := fun _ => fun
  | [d] => { results := [.lit (.bool false)], args := [d] }
  | _ => none }
def FnNamLastWrongFalsely : Prop := fnNamLastRow.holds Try.pinned (OpenSpec.ofChange fnNamLastWrong)

/-- 'laws.FnNamGet': WHATEVER THE INPUT: true; the input reads as it did. -/
def fnNamGetSpec : ChangeSpec := { name := "fnNamGet", fn := fun _ => fun
  | [d] => { results := [.lit (.bool true)], args := [d] }
  | _ => none }
def fnNamGetRow : OpenClaim := { program := "ytiemacjmipiakaa", sum := "ca14a222defafd2725b0ec36f0ba160943509fc19a7f32a4a3bcb38073cb656c", func := "loop.example/harbinger/laws.FnNamGet", spec := "fnNamGet", apart := false }
def FnNamGetSaid : Prop := fnNamGetRow.holds Try.pinned (OpenSpec.ofChange fnNamGetSpec)

/-- ITS FALSE NEIGHBOUR: 'it returns false'. Refute it at one input. -/
def fnNamGetWrong : ChangeSpec := { name := "fnNamGet", fn := fun _ => fun
  | [d] => { results := [.lit (.bool false)], args := [d] }
  | _ => none }
def FnNamGetWrongFalsely : Prop := fnNamGetRow.holds Try.pinned (OpenSpec.ofChange fnNamGetWrong)

/-- 'laws.FnNamOk': WHATEVER THE INPUT: true; the input reads as it did. -/
def fnNamOkSpec : ChangeSpec := { name := "fnNamOk", fn := fun _ => fun
  | [d] => { results := [.lit (.bool true)], args := [d] }
  | _ => none }
def fnNamOkRow : OpenClaim := { program := "ytiemacjmipiakaa", sum := "ca14a222defafd2725b0ec36f0ba160943509fc19a7f32a4a3bcb38073cb656c", func := "loop.example/harbinger/laws.FnNamOk", spec := "fnNamOk", apart := false }
def FnNamOkSaid : Prop := fnNamOkRow.holds Try.pinned (OpenSpec.ofChange fnNamOkSpec)

/-- ITS FALSE NEIGHBOUR: 'it returns false'. Refute it at one input. -/
def fnNamOkWrong : ChangeSpec := { name := "fnNamOk", fn := fun _ => fun
  | [d] => { results := [.lit (.bool false)], args := [d] }
  | _ => none }
def FnNamOkWrongFalsely : Prop := fnNamOkRow.holds Try.pinned (OpenSpec.ofChange fnNamOkWrong)

/-- 'laws.FnNamFree': WHATEVER THE INPUT: true; the input reads as it did. -/
def fnNamFreeSpec : ChangeSpec := { name := "fnNamFree", fn := fun _ => fun
  | [d] => { results := [.lit (.bool true)], args := [d] }
  | _ => none }
def fnNamFreeRow : OpenClaim := { program := "ytiemacjmipiakaa", sum := "ca14a222defafd2725b0ec36f0ba160943509fc19a7f32a4a3bcb38073cb656c", func := "loop.example/harbinger/laws.FnNamFree", spec := "fnNamFree", apart := false }
def FnNamFreeSaid : Prop := fnNamFreeRow.holds Try.pinned (OpenSpec.ofChange fnNamFreeSpec)

/-- ITS FALSE NEIGHBOUR: 'it returns false'. Refute it at one input. -/
def fnNamFreeWrong : ChangeSpec := { name := "fnNamFree", fn := fun _ => fun
  | [d] => { results := [.lit (.bool false)], args := [d] }
  | _ => none }
def FnNamFreeWrongFalsely : Prop := fnNamFreeRow.holds Try.pinned (OpenSpec.ofChange fnNamFreeWrong)

/-- 'laws.FnNamTake': WHATEVER THE INPUT: true; the input reads as it did. -/
def fnNamTakeSpec : ChangeSpec := { name := "fnNamTake", fn := fun _ => fun
  | [d] => { results := [.lit (.bool true)], args := [d] }
  | _ => none }
def fnNamTakeRow : OpenClaim := { program := "ytiemacjmipiakaa", sum := "ca14a222defafd2725b0ec36f0ba160943509fc19a7f32a4a3bcb38073cb656c", func := "loop.example/harbinger/laws.FnNamTake", spec := "fnNamTake", apart := false }
def FnNamTakeSaid : Prop := fnNamTakeRow.holds Try.pinned (OpenSpec.ofChange fnNamTakeSpec)

/-- ITS FALSE NEIGHBOUR: 'it returns false'. Refute it at one input. -/
def fnNamTakeWrong : ChangeSpec := { name := "fnNamTake", fn := fun _ => fun
  | [d] => { results := [.lit (.bool false)], args := [d] }
  | _ => none }
def FnNamTakeWrongFalsely : Prop := fnNamTakeRow.holds Try.pinned (OpenSpec.ofChange fnNamTakeWrong)

/- THE SECOND FORM. 'bulk': how many values and letters a reading holds, each counted each time it is reached (what is shared counts as often as it is met; a slice's spare places count too). A statement '..UptoSaid' is the law's where the arguments, and the package variables that the reading takes, are together of bulk at most 1048576: NARROWER than '..Said'. Prove '..Said' where nothing that the law and all that it calls make is longer than what came in: it says more and counts as full. Else prove '..UptoSaid'. A law counts once. -/
mutual
def uptoBulk {H : Type} : DataW H → Nat
  | .lit (.string bytes) => bytes.length + 1
  | .lit _ => 1
  | .nil => 1
  | .ptr d => uptoBulk d + 1
  | .slice elems spare => uptoBulkAll elems + uptoBulkAll spare + 1
  | .agg parts => uptoBulkAll parts + 1
  | .iface _ d => uptoBulk d + 1
  | .map entries => uptoBulkEntries entries + 1
  | .held _ => 1
def uptoBulkAll {H : Type} : List (DataW H) → Nat
  | [] => 0
  | d :: r => uptoBulk d + uptoBulkAll r
def uptoBulkEntries {H : Type} : List (Lit × DataW H) → Nat
  | [] => 0
  | x :: r => uptoBulkEntry x + uptoBulkEntries r
def uptoBulkEntry {H : Type} : Lit × DataW H → Nat
  | (.string bytes, d) => bytes.length + uptoBulk d + 1
  | (_, d) => uptoBulk d + 1
 end
def uptoSmall : (H : Type) → List (DataW H) → Bool := fun _ ds => decide (uptoBulkAll ds ≤ 1048576)
def OpenSpec.upto (s : _root_.Go.ChangeSpec) : _root_.Go.OpenSpec := { _root_.Go.OpenSpec.ofChange s with cond := some uptoSmall }

/-- 'laws.FnExactNamNew', WHERE WHAT IT READS IS OF BULK AT MOST 1048576: true; the input reads as it did. -/
def fnExactNamNewUptoRow : OpenClaim := { program := "ytiemacjmipiakaa", sum := "ca14a222defafd2725b0ec36f0ba160943509fc19a7f32a4a3bcb38073cb656c", func := "loop.example/harbinger/laws.FnExactNamNew", spec := "fnExactNamNew", apart := false, narrowed := true }
def FnExactNamNewUptoSaid : Prop := fnExactNamNewUptoRow.holds Try.pinned (OpenSpec.upto fnExactNamNewSpec)

/-- 'laws.FnExactNamOk', WHERE WHAT IT READS IS OF BULK AT MOST 1048576: true; the input reads as it did. -/
def fnExactNamOkUptoRow : OpenClaim := { program := "ytiemacjmipiakaa", sum := "ca14a222defafd2725b0ec36f0ba160943509fc19a7f32a4a3bcb38073cb656c", func := "loop.example/harbinger/laws.FnExactNamOk", spec := "fnExactNamOk", apart := false, narrowed := true }
def FnExactNamOkUptoSaid : Prop := fnExactNamOkUptoRow.holds Try.pinned (OpenSpec.upto fnExactNamOkSpec)

/-- 'laws.FnExactNamGet', WHERE WHAT IT READS IS OF BULK AT MOST 1048576: true; the input reads as it did. -/
def fnExactNamGetUptoRow : OpenClaim := { program := "ytiemacjmipiakaa", sum := "ca14a222defafd2725b0ec36f0ba160943509fc19a7f32a4a3bcb38073cb656c", func := "loop.example/harbinger/laws.FnExactNamGet", spec := "fnExactNamGet", apart := false, narrowed := true }
def FnExactNamGetUptoSaid : Prop := fnExactNamGetUptoRow.holds Try.pinned (OpenSpec.upto fnExactNamGetSpec)

/-- 'laws.FnExactNamFree', WHERE WHAT IT READS IS OF BULK AT MOST 1048576: true; the input reads as it did. -/
def fnExactNamFreeUptoRow : OpenClaim := { program := "ytiemacjmipiakaa", sum := "ca14a222defafd2725b0ec36f0ba160943509fc19a7f32a4a3bcb38073cb656c", func := "loop.example/harbinger/laws.FnExactNamFree", spec := "fnExactNamFree", apart := false, narrowed := true }
def FnExactNamFreeUptoSaid : Prop := fnExactNamFreeUptoRow.holds Try.pinned (OpenSpec.upto fnExactNamFreeSpec)

/-- 'laws.FnExactNamBack', WHERE WHAT IT READS IS OF BULK AT MOST 1048576: true; the input reads as it did. -/
def fnExactNamBackUptoRow : OpenClaim := { program := "ytiemacjmipiakaa", sum := "ca14a222defafd2725b0ec36f0ba160943509fc19a7f32a4a3bcb38073cb656c", func := "loop.example/harbinger/laws.FnExactNamBack", spec := "fnExactNamBack", apart := false, narrowed := true }
def FnExactNamBackUptoSaid : Prop := fnExactNamBackUptoRow.holds Try.pinned (OpenSpec.upto fnExactNamBackSpec)

/-- 'laws.FnExactNamTake', WHERE WHAT IT READS IS OF BULK AT MOST 1048576: true; the input reads as it did. -/
def fnExactNamTakeUptoRow : OpenClaim := { program := "ytiemacjmipiakaa", sum := "ca14a222defafd2725b0ec36f0ba160943509fc19a7f32a4a3bcb38073cb656c", func := "loop.example/harbinger/laws.FnExactNamTake", spec := "fnExactNamTake", apart := false, narrowed := true }
def FnExactNamTakeUptoSaid : Prop := fnExactNamTakeUptoRow.holds Try.pinned (OpenSpec.upto fnExactNamTakeSpec)

/-- 'laws.FnNamLast', WHERE WHAT IT READS IS OF BULK AT MOST 1048576: true; the input reads as it did. -/
def fnNamLastUptoRow : OpenClaim := { program := "ytiemacjmipiakaa", sum := "ca14a222defafd2725b0ec36f0ba160943509fc19a7f32a4a3bcb38073cb656c", func := "loop.example/harbinger/laws.FnNamLast", spec := "fnNamLast", apart := false, narrowed := true }
def FnNamLastUptoSaid : Prop := fnNamLastUptoRow.holds Try.pinned (OpenSpec.upto fnNamLastSpec)

/-- 'laws.FnNamGet', WHERE WHAT IT READS IS OF BULK AT MOST 1048576: true; the input reads as it did. -/
def fnNamGetUptoRow : OpenClaim := { program := "ytiemacjmipiakaa", sum := "ca14a222defafd2725b0ec36f0ba160943509fc19a7f32a4a3bcb38073cb656c", func := "loop.example/harbinger/laws.FnNamGet", spec := "fnNamGet", apart := false, narrowed := true }
def FnNamGetUptoSaid : Prop := fnNamGetUptoRow.holds Try.pinned (OpenSpec.upto fnNamGetSpec)

/-- 'laws.FnNamOk', WHERE WHAT IT READS IS OF BULK AT MOST 1048576: true; the input reads as it did. -/
def fnNamOkUptoRow : OpenClaim := { program := "ytiemacjmipiakaa", sum := "ca14a222defafd2725b0ec36f0ba160943509fc19a7f32a4a3bcb38073cb656c", func := "loop.example/harbinger/laws.FnNamOk", spec := "fnNamOk", apart := false, narrowed := true }
def FnNamOkUptoSaid : Prop := fnNamOkUptoRow.holds Try.pinned (OpenSpec.upto fnNamOkSpec)

/-- 'laws.FnNamFree', WHERE WHAT IT READS IS OF BULK AT MOST 1048576: true; the input reads as it did. -/
def fnNamFreeUptoRow : OpenClaim := { program := "ytiemacjmipiakaa", sum := "ca14a222defafd2725b0ec36f0ba160943509fc19a7f32a4a3bcb38073cb656c", func := "loop.example/harbinger/laws.FnNamFree", spec := "fnNamFree", apart := false, narrowed := true }
def FnNamFreeUptoSaid : Prop := fnNamFreeUptoRow.holds Try.pinned (OpenSpec.upto fnNamFreeSpec)

/-- 'laws.FnNamTake', WHERE WHAT IT READS IS OF BULK AT MOST 1048576: true; the input reads as it did. -/
def fnNamTakeUptoRow : OpenClaim := { program := "ytiemacjmipiakaa", sum := "ca14a222defafd2725b0ec36f0ba160943509fc19a7f32a4a3bcb38073cb656c", func := "loop.example/harbinger/laws.FnNamTake", spec := "fnNamTake", apart := false, narrowed := true }
def FnNamTakeUptoSaid : Prop := fnNamTakeUptoRow.holds Try.pinned (OpenSpec.upto fnNamTakeSpec)

end Rows
end Go.Proofs.Ytiemacjmipiakaa
