/-
  No cell of these rows narrows 'for every input' (looked for: loops, veiled, ifaces, maps, wideKeys, modest, calm, conditions, laid).
  DERIVED. THE GIVEN ROWS OF THIS SEAT. 15 by the template 'for every input the law returns true; each argument reads behind the call as it read before'; 0 by the template 'total and deterministic' (their statements: YtekaogbnpncpaaaTotals.lean).
  GIVEN WITH THE SEED: the statements are not yours to turn. If you find one false, say at which input.
  Laid BY PROGRAM, IN A SANDBOX (cutbox-rows.mjs): the forced cells as the released guide's own fill.sh prints them over the translation cf25b440b59f9115… (all of the seat's roots in one cut). By AI agents, Wed Nov 11 2026. No macro, syntax, notation, axiom, sorry.
-/
import Derived.Test.YtekaogbnpncpaaaChecked
import GoSem.Claim
import GoSem.ClaimJoined
import GoSem.ClaimMapViews
import Derived.JoinedTies
import Derived.KernelRfl
namespace Go.Proofs.Ytekaogbnpncpaaa
/- THE CELL 'sum', in the pinned program and in every row, IS THE sha256 OF THE DUMP (.gsa) THAT YtekaogbnpncpaaaProg.lean LOADS. Nothing in Lean hashes anything: it is a label: what it is worth is what the hold of that sum in a sandbox is worth. -/
noncomputable def Try.pinned : Pinned := { name := "ytekaogbnpncpaaa", sum := "cf25b440b59f911571baa6168c2ac8e5cd6c29b9dd7a5e93b9732e5047f2251e", checked := Try.checked }
namespace Rows
def none {H : Type} : Left H := { results := [], args := [] }

/-- 'laws.FnExactConstants': WHATEVER THE INPUT: true; the input reads as it did. -/
def fnExactConstantsSpec : ChangeSpec := { name := "fnExactConstants", fn := fun _ => fun
  | [] => { results := [.lit (.bool true)], args := [] }
  | _ => none }
def fnExactConstantsRow : OpenClaim := { program := "ytekaogbnpncpaaa", sum := "cf25b440b59f911571baa6168c2ac8e5cd6c29b9dd7a5e93b9732e5047f2251e", func := "loop.example/harbinger/laws.FnExactConstants", spec := "fnExactConstants", apart := false }
def FnExactConstantsSaid : Prop := fnExactConstantsRow.holds Try.pinned (OpenSpec.ofChange fnExactConstantsSpec)

/-- ITS FALSE NEIGHBOUR: 'it returns false'. Refute it at one input. -/
def fnExactConstantsWrong : ChangeSpec := { name := "fnExactConstants", fn := fun _ => fun
  | [] => { results := [.lit (.bool false)], args := [] }
  | _ => none }
def FnExactConstantsWrongFalsely : Prop := fnExactConstantsRow.holds Try.pinned (OpenSpec.ofChange fnExactConstantsWrong)

/-- 'laws.FnExactWrdOk': WHATEVER THE INPUT: true; the input reads as it did. -/
def fnExactWrdOkSpec : ChangeSpec := { name := "fnExactWrdOk", fn := fun _ => fun
  | [d] => { results := [.lit (.bool true)], args := [d] }
  | _ => none }
def fnExactWrdOkRow : OpenClaim := { program := "ytekaogbnpncpaaa", sum := "cf25b440b59f911571baa6168c2ac8e5cd6c29b9dd7a5e93b9732e5047f2251e", func := "loop.example/harbinger/laws.FnExactWrdOk", spec := "fnExactWrdOk", apart := false }
def FnExactWrdOkSaid : Prop := fnExactWrdOkRow.holds Try.pinned (OpenSpec.ofChange fnExactWrdOkSpec)

/-- ITS FALSE NEIGHBOUR: 'it returns false'. Refute it at one input. -/
def fnExactWrdOkWrong : ChangeSpec := { name := "fnExactWrdOk", fn := fun _ => fun
  | [d] => { results := [.lit (.bool false)], args := [d] }
  | _ => none }
def FnExactWrdOkWrongFalsely : Prop := fnExactWrdOkRow.holds Try.pinned (OpenSpec.ofChange fnExactWrdOkWrong)

/-- 'laws.FnExactMulDo': WHATEVER THE INPUT: true; the input reads as it did. -/
def fnExactMulDoSpec : ChangeSpec := { name := "fnExactMulDo", fn := fun _ => fun
  | [d1, d2] => { results := [.lit (.bool true)], args := [d1, d2] }
  | _ => none }
def fnExactMulDoRow : OpenClaim := { program := "ytekaogbnpncpaaa", sum := "cf25b440b59f911571baa6168c2ac8e5cd6c29b9dd7a5e93b9732e5047f2251e", func := "loop.example/harbinger/laws.FnExactMulDo", spec := "fnExactMulDo", apart := false }
def FnExactMulDoSaid : Prop := fnExactMulDoRow.holds Try.pinned (OpenSpec.ofChange fnExactMulDoSpec)

/-- ITS FALSE NEIGHBOUR: 'it returns false'. Refute it at one input. -/
def fnExactMulDoWrong : ChangeSpec := { name := "fnExactMulDo", fn := fun _ => fun
  | [d1, d2] => { results := [.lit (.bool false)], args := [d1, d2] }
  | _ => none }
def FnExactMulDoWrongFalsely : Prop := fnExactMulDoRow.holds Try.pinned (OpenSpec.ofChange fnExactMulDoWrong)

/-- 'laws.FnExactWrdInt': WHATEVER THE INPUT: true; the input reads as it did. -/
def fnExactWrdIntSpec : ChangeSpec := { name := "fnExactWrdInt", fn := fun _ => fun
  | [d] => { results := [.lit (.bool true)], args := [d] }
  | _ => none }
def fnExactWrdIntRow : OpenClaim := { program := "ytekaogbnpncpaaa", sum := "cf25b440b59f911571baa6168c2ac8e5cd6c29b9dd7a5e93b9732e5047f2251e", func := "loop.example/harbinger/laws.FnExactWrdInt", spec := "fnExactWrdInt", apart := false }
def FnExactWrdIntSaid : Prop := fnExactWrdIntRow.holds Try.pinned (OpenSpec.ofChange fnExactWrdIntSpec)

/-- ITS FALSE NEIGHBOUR: 'it returns false'. Refute it at one input. -/
def fnExactWrdIntWrong : ChangeSpec := { name := "fnExactWrdInt", fn := fun _ => fun
  | [d] => { results := [.lit (.bool false)], args := [d] }
  | _ => none }
def FnExactWrdIntWrongFalsely : Prop := fnExactWrdIntRow.holds Try.pinned (OpenSpec.ofChange fnExactWrdIntWrong)

/-- 'laws.FnExactWrdSign': WHATEVER THE INPUT: true; the input reads as it did. -/
def fnExactWrdSignSpec : ChangeSpec := { name := "fnExactWrdSign", fn := fun _ => fun
  | [d1, d2] => { results := [.lit (.bool true)], args := [d1, d2] }
  | _ => none }
def fnExactWrdSignRow : OpenClaim := { program := "ytekaogbnpncpaaa", sum := "cf25b440b59f911571baa6168c2ac8e5cd6c29b9dd7a5e93b9732e5047f2251e", func := "loop.example/harbinger/laws.FnExactWrdSign", spec := "fnExactWrdSign", apart := false }
def FnExactWrdSignSaid : Prop := fnExactWrdSignRow.holds Try.pinned (OpenSpec.ofChange fnExactWrdSignSpec)

/-- ITS FALSE NEIGHBOUR: 'it returns false'. Refute it at one input. -/
def fnExactWrdSignWrong : ChangeSpec := { name := "fnExactWrdSign", fn := fun _ => fun
  | [d1, d2] => { results := [.lit (.bool false)], args := [d1, d2] }
  | _ => none }
def FnExactWrdSignWrongFalsely : Prop := fnExactWrdSignRow.holds Try.pinned (OpenSpec.ofChange fnExactWrdSignWrong)

/-- 'laws.FnWrdOk': WHATEVER THE INPUT: true; the input reads as it did. -/
def fnWrdOkSpec : ChangeSpec := { name := "fnWrdOk", fn := fun _ => fun
  | [d] => { results := [.lit (.bool true)], args := [d] }
  | _ => none }
def fnWrdOkRow : OpenClaim := { program := "ytekaogbnpncpaaa", sum := "cf25b440b59f911571baa6168c2ac8e5cd6c29b9dd7a5e93b9732e5047f2251e", func := "loop.example/harbinger/laws.FnWrdOk", spec := "fnWrdOk", apart := false }
def FnWrdOkSaid : Prop := fnWrdOkRow.holds Try.pinned (OpenSpec.ofChange fnWrdOkSpec)

/-- ITS FALSE NEIGHBOUR: 'it returns false'. Refute it at one input. -/
def fnWrdOkWrong : ChangeSpec := { name := "fnWrdOk", fn := fun _ => fun
  | [d] => { results := [.lit (.bool false)], args := [d] }
  | _ => none }
def FnWrdOkWrongFalsely : Prop := fnWrdOkRow.holds Try.pinned (OpenSpec.ofChange fnWrdOkWrong)

/-- 'laws.FnWrdInt': WHATEVER THE INPUT: true; the input reads as it did. -/
def fnWrdIntSpec : ChangeSpec := { name := "fnWrdInt", fn := fun _ => fun
  | [d] => { results := [.lit (.bool true)], args := [d] }
  | _ => none }
def fnWrdIntRow : OpenClaim := { program := "ytekaogbnpncpaaa", sum := "cf25b440b59f911571baa6168c2ac8e5cd6c29b9dd7a5e93b9732e5047f2251e", func := "loop.example/harbinger/laws.FnWrdInt", spec := "fnWrdInt", apart := false }
def FnWrdIntSaid : Prop := fnWrdIntRow.holds Try.pinned (OpenSpec.ofChange fnWrdIntSpec)

/-- ITS FALSE NEIGHBOUR: 'it returns false'. Refute it at one input. -/
def fnWrdIntWrong : ChangeSpec := { name := "fnWrdInt", fn := fun _ => fun
  | [d] => { results := [.lit (.bool false)], args := [d] }
  | _ => none }
def FnWrdIntWrongFalsely : Prop := fnWrdIntRow.holds Try.pinned (OpenSpec.ofChange fnWrdIntWrong)

/-- 'laws.FnWrdSign': WHATEVER THE INPUT: true; the input reads as it did. -/
def fnWrdSignSpec : ChangeSpec := { name := "fnWrdSign", fn := fun _ => fun
  | [d] => { results := [.lit (.bool true)], args := [d] }
  | _ => none }
def fnWrdSignRow : OpenClaim := { program := "ytekaogbnpncpaaa", sum := "cf25b440b59f911571baa6168c2ac8e5cd6c29b9dd7a5e93b9732e5047f2251e", func := "loop.example/harbinger/laws.FnWrdSign", spec := "fnWrdSign", apart := false }
def FnWrdSignSaid : Prop := fnWrdSignRow.holds Try.pinned (OpenSpec.ofChange fnWrdSignSpec)

/-- ITS FALSE NEIGHBOUR: 'it returns false'. Refute it at one input. -/
def fnWrdSignWrong : ChangeSpec := { name := "fnWrdSign", fn := fun _ => fun
  | [d] => { results := [.lit (.bool false)], args := [d] }
  | _ => none }
def FnWrdSignWrongFalsely : Prop := fnWrdSignRow.holds Try.pinned (OpenSpec.ofChange fnWrdSignWrong)

/-- 'laws.FnExactAluDo': WHATEVER THE INPUT: true; the input reads as it did. -/
def fnExactAluDoSpec : ChangeSpec := { name := "fnExactAluDo", fn := fun _ => fun
  | [d1, d2, d3] => { results := [.lit (.bool true)], args := [d1, d2, d3] }
  | _ => none }
def fnExactAluDoRow : OpenClaim := { program := "ytekaogbnpncpaaa", sum := "cf25b440b59f911571baa6168c2ac8e5cd6c29b9dd7a5e93b9732e5047f2251e", func := "loop.example/harbinger/laws.FnExactAluDo", spec := "fnExactAluDo", apart := false }
def FnExactAluDoSaid : Prop := fnExactAluDoRow.holds Try.pinned (OpenSpec.ofChange fnExactAluDoSpec)

/-- ITS FALSE NEIGHBOUR: 'it returns false'. Refute it at one input. -/
def fnExactAluDoWrong : ChangeSpec := { name := "fnExactAluDo", fn := fun _ => fun
  | [d1, d2, d3] => { results := [.lit (.bool false)], args := [d1, d2, d3] }
  | _ => none }
def FnExactAluDoWrongFalsely : Prop := fnExactAluDoRow.holds Try.pinned (OpenSpec.ofChange fnExactAluDoWrong)

/-- 'laws.FnMulDo': WHATEVER THE INPUT: true; the input reads as it did. -/
def fnMulDoSpec : ChangeSpec := { name := "fnMulDo", fn := fun _ => fun
  | [d1, d2] => { results := [.lit (.bool true)], args := [d1, d2] }
  | _ => none }
def fnMulDoRow : OpenClaim := { program := "ytekaogbnpncpaaa", sum := "cf25b440b59f911571baa6168c2ac8e5cd6c29b9dd7a5e93b9732e5047f2251e", func := "loop.example/harbinger/laws.FnMulDo", spec := "fnMulDo", apart := false }
def FnMulDoSaid : Prop := fnMulDoRow.holds Try.pinned (OpenSpec.ofChange fnMulDoSpec)

/-- ITS FALSE NEIGHBOUR: 'it returns false'. Refute it at one input. -/
def fnMulDoWrong : ChangeSpec := { name := "fnMulDo", fn := fun _ => fun
  | [d1, d2] => { results := [.lit (.bool false)], args := [d1, d2] }
  | _ => none }
def FnMulDoWrongFalsely : Prop := fnMulDoRow.holds Try.pinned (OpenSpec.ofChange fnMulDoWrong)

/-- 'laws.FnAluAdd': WHATEVER THE INPUT: true; the input reads as it did. -/
def fnAluAddSpec : ChangeSpec := { name := "fnAluAdd", fn := fun _ => fun
  | [d] => { results := [.lit (.bool true)], args := [d] }
  | _ => none }
def fnAluAddRow : OpenClaim := { program := "ytekaogbnpncpaaa", sum := "cf25b440b59f911571baa6168c2ac8e5cd6c29b9dd7a5e93b9732e5047f2251e", func := "loop.example/harbinger/laws.FnAluAdd", spec := "fnAluAdd", apart := false }
def FnAluAddSaid : Prop := fnAluAddRow.holds Try.pinned (OpenSpec.ofChange fnAluAddSpec)

/-- ITS FALSE NEIGHBOUR: 'it returns false'. Refute it at one input. -/
def fnAluAddWrong : ChangeSpec := { name := "fnAluAdd", fn := fun _ => fun
  | [d] => { results := [.lit (.bool false)], args := [d] }
  | _ => none }
def FnAluAddWrongFalsely : Prop := fnAluAddRow.holds Try.pinned (OpenSpec.ofChange fnAluAddWrong)

/-- 'laws.FnAluBits': WHATEVER THE INPUT: true; the input reads as it did. -/
def fnAluBitsSpec : ChangeSpec := { name := "fnAluBits", fn := fun _ => fun
  | [d] => { results := [.lit (.bool true)], args := [d] }
  | _ => none }
def fnAluBitsRow : OpenClaim := { program := "ytekaogbnpncpaaa", sum := "cf25b440b59f911571baa6168c2ac8e5cd6c29b9dd7a5e93b9732e5047f2251e", func := "loop.example/harbinger/laws.FnAluBits", spec := "fnAluBits", apart := false }
def FnAluBitsSaid : Prop := fnAluBitsRow.holds Try.pinned (OpenSpec.ofChange fnAluBitsSpec)

/-- ITS FALSE NEIGHBOUR: 'it returns false'. Refute it at one input. -/
def fnAluBitsWrong : ChangeSpec := { name := "fnAluBits", fn := fun _ => fun
  | [d] => { results := [.lit (.bool false)], args := [d] }
  | _ => none }
def FnAluBitsWrongFalsely : Prop := fnAluBitsRow.holds Try.pinned (OpenSpec.ofChange fnAluBitsWrong)

/-- 'laws.FnAluShift': WHATEVER THE INPUT: true; the input reads as it did. -/
def fnAluShiftSpec : ChangeSpec := { name := "fnAluShift", fn := fun _ => fun
  | [d] => { results := [.lit (.bool true)], args := [d] }
  | _ => none }
def fnAluShiftRow : OpenClaim := { program := "ytekaogbnpncpaaa", sum := "cf25b440b59f911571baa6168c2ac8e5cd6c29b9dd7a5e93b9732e5047f2251e", func := "loop.example/harbinger/laws.FnAluShift", spec := "fnAluShift", apart := false }
def FnAluShiftSaid : Prop := fnAluShiftRow.holds Try.pinned (OpenSpec.ofChange fnAluShiftSpec)

/-- ITS FALSE NEIGHBOUR: 'it returns false'. Refute it at one input. -/
def fnAluShiftWrong : ChangeSpec := { name := "fnAluShift", fn := fun _ => fun
  | [d] => { results := [.lit (.bool false)], args := [d] }
  | _ => none }
def FnAluShiftWrongFalsely : Prop := fnAluShiftRow.holds Try.pinned (OpenSpec.ofChange fnAluShiftWrong)

/-- 'laws.FnAluThree': WHATEVER THE INPUT: true; the input reads as it did. -/
def fnAluThreeSpec : ChangeSpec := { name := "fnAluThree", fn := fun _ => fun
  | [d1, d2] => { results := [.lit (.bool true)], args := [d1, d2] }
  | _ => none }
def fnAluThreeRow : OpenClaim := { program := "ytekaogbnpncpaaa", sum := "cf25b440b59f911571baa6168c2ac8e5cd6c29b9dd7a5e93b9732e5047f2251e", func := "loop.example/harbinger/laws.FnAluThree", spec := "fnAluThree", apart := false }
def FnAluThreeSaid : Prop := fnAluThreeRow.holds Try.pinned (OpenSpec.ofChange fnAluThreeSpec)

/-- ITS FALSE NEIGHBOUR: 'it returns false'. Refute it at one input. -/
def fnAluThreeWrong : ChangeSpec := { name := "fnAluThree", fn := fun _ => fun
  | [d1, d2] => { results := [.lit (.bool false)], args := [d1, d2] }
  | _ => none }
def FnAluThreeWrongFalsely : Prop := fnAluThreeRow.holds Try.pinned (OpenSpec.ofChange fnAluThreeWrong)

/-- 'laws.FnAluLt': WHATEVER THE INPUT: true; the input reads as it did. -/
def fnAluLtSpec : ChangeSpec := { name := "fnAluLt", fn := fun _ => fun
  | [d] => { results := [.lit (.bool true)], args := [d] }
  | _ => none }
def fnAluLtRow : OpenClaim := { program := "ytekaogbnpncpaaa", sum := "cf25b440b59f911571baa6168c2ac8e5cd6c29b9dd7a5e93b9732e5047f2251e", func := "loop.example/harbinger/laws.FnAluLt", spec := "fnAluLt", apart := false }
def FnAluLtSaid : Prop := fnAluLtRow.holds Try.pinned (OpenSpec.ofChange fnAluLtSpec)

/-- ITS FALSE NEIGHBOUR: 'it returns false'. Refute it at one input. -/
def fnAluLtWrong : ChangeSpec := { name := "fnAluLt", fn := fun _ => fun
  | [d] => { results := [.lit (.bool false)], args := [d] }
  | _ => none }
def FnAluLtWrongFalsely : Prop := fnAluLtRow.holds Try.pinned (OpenSpec.ofChange fnAluLtWrong)

/- THE SECOND FORM. 'bulk': how many values and letters a reading holds, each counted each time it is reached (what is shared counts as often as it is met; a slice's spare places count too). A statement '..UptoSaid' is the law's where the arguments, and the package variables that the reading takes, are together of bulk at most 1048576: NARROWER than '..Said'. Prove '..Said' where nothing that the law and all that it calls make is longer than what came in: it says more and counts as full. Else prove '..UptoSaid'. A law counts once. -/
mutual
def uptoBulk {H : Type} : DataW H → Nat
  | .lit (.string bytes) => bytes.length + 1
  | .lit _ => 1
  | .nil => 1
  | .ptr d => uptoBulk d + 1
  | .slice elems spare => uptoBulkAll elems + uptoBulkAll spare + 1
  | .agg parts => uptoBulkAll parts + 1
  | .iface _ d => uptoBulk d + 1
  | .map entries => uptoBulkEntries entries + 1
  | .held _ => 1
def uptoBulkAll {H : Type} : List (DataW H) → Nat
  | [] => 0
  | d :: r => uptoBulk d + uptoBulkAll r
def uptoBulkEntries {H : Type} : List (Lit × DataW H) → Nat
  | [] => 0
  | x :: r => uptoBulkEntry x + uptoBulkEntries r
def uptoBulkEntry {H : Type} : Lit × DataW H → Nat
  | (.string bytes, d) => bytes.length + uptoBulk d + 1
  | (_, d) => uptoBulk d + 1
 end
def uptoSmall : (H : Type) → List (DataW H) → Bool := fun _ ds => decide (uptoBulkAll ds ≤ 1048576)
def OpenSpec.upto (s : _root_.Go.ChangeSpec) : _root_.Go.OpenSpec := { _root_.Go.OpenSpec.ofChange s with cond := some uptoSmall }

/-- 'laws.FnExactConstants', WHERE WHAT IT READS IS OF BULK AT MOST 1048576: true; the input reads as it did. -/
def fnExactConstantsUptoRow : OpenClaim := { program := "ytekaogbnpncpaaa", sum := "cf25b440b59f911571baa6168c2ac8e5cd6c29b9dd7a5e93b9732e5047f2251e", func := "loop.example/harbinger/laws.FnExactConstants", spec := "fnExactConstants", apart := false, narrowed := true }
def FnExactConstantsUptoSaid : Prop := fnExactConstantsUptoRow.holds Try.pinned (OpenSpec.upto fnExactConstantsSpec)

/-- 'laws.FnExactWrdOk', WHERE WHAT IT READS IS OF BULK AT MOST 1048576: true; the input reads as it did. -/
def fnExactWrdOkUptoRow : OpenClaim := { program := "ytekaogbnpncpaaa", sum := "cf25b440b59f911571baa6168c2ac8e5cd6c29b9dd7a5e93b9732e5047f2251e", func := "loop.example/harbinger/laws.FnExactWrdOk", spec := "fnExactWrdOk", apart := false, narrowed := true }
def FnExactWrdOkUptoSaid : Prop := fnExactWrdOkUptoRow.holds Try.pinned (OpenSpec.upto fnExactWrdOkSpec)

/-- 'laws.FnExactMulDo', WHERE WHAT IT READS IS OF BULK AT MOST 1048576: true; the input reads as it did. -/
def fnExactMulDoUptoRow : OpenClaim := { program := "ytekaogbnpncpaaa", sum := "cf25b440b59f911571baa6168c2ac8e5cd6c29b9dd7a5e93b9732e5047f2251e", func := "loop.example/harbinger/laws.FnExactMulDo", spec := "fnExactMulDo", apart := false, narrowed := true }
def FnExactMulDoUptoSaid : Prop := fnExactMulDoUptoRow.holds Try.pinned (OpenSpec.upto fnExactMulDoSpec)

/-- 'laws.FnExactWrdInt', WHERE WHAT IT READS IS OF BULK AT MOST 1048576: true; the input reads as it did. -/
def fnExactWrdIntUptoRow : OpenClaim := { program := "ytekaogbnpncpaaa", sum := "cf25b440b59f911571baa6168c2ac8e5cd6c29b9dd7a5e93b9732e5047f2251e", func := "loop.example/harbinger/laws.FnExactWrdInt", spec := "fnExactWrdInt", apart := false, narrowed := true }
def FnExactWrdIntUptoSaid : Prop := fnExactWrdIntUptoRow.holds Try.pinned (OpenSpec.upto fnExactWrdIntSpec)

/-- 'laws.FnExactWrdSign', WHERE WHAT IT READS IS OF BULK AT MOST 1048576: true; the input reads as it did. -/
def fnExactWrdSignUptoRow : OpenClaim := { program := "ytekaogbnpncpaaa", sum := "cf25b440b59f911571baa6168c2ac8e5cd6c29b9dd7a5e93b9732e5047f2251e", func := "loop.example/harbinger/laws.FnExactWrdSign", spec := "fnExactWrdSign", apart := false, narrowed := true }
def FnExactWrdSignUptoSaid : Prop := fnExactWrdSignUptoRow.holds Try.pinned (OpenSpec.upto fnExactWrdSignSpec)

/-- 'laws.FnWrdOk', WHERE WHAT IT READS IS OF BULK AT MOST 1048576: true; the input reads as it did. -/
def fnWrdOkUptoRow : OpenClaim := { program := "ytekaogbnpncpaaa", sum := "cf25b440b59f911571baa6168c2ac8e5cd6c29b9dd7a5e93b9732e5047f2251e", func := "loop.example/harbinger/laws.FnWrdOk", spec := "fnWrdOk", apart := false, narrowed := true }
def FnWrdOkUptoSaid : Prop := fnWrdOkUptoRow.holds Try.pinned (OpenSpec.upto fnWrdOkSpec)

/-- 'laws.FnWrdInt', WHERE WHAT IT READS IS OF BULK AT MOST 1048576: true; the input reads as it did. -/
def fnWrdIntUptoRow : OpenClaim := { program := "ytekaogbnpncpaaa", sum := "cf25b440b59f911571baa6168c2ac8e5cd6c29b9dd7a5e93b9732e5047f2251e", func := "loop.example/harbinger/laws.FnWrdInt", spec := "fnWrdInt", apart := false, narrowed := true }
def FnWrdIntUptoSaid : Prop := fnWrdIntUptoRow.holds Try.pinned (OpenSpec.upto fnWrdIntSpec)

/-- 'laws.FnWrdSign', WHERE WHAT IT READS IS OF BULK AT MOST 1048576: true; the input reads as it did. -/
def fnWrdSignUptoRow : OpenClaim := { program := "ytekaogbnpncpaaa", sum := "cf25b440b59f911571baa6168c2ac8e5cd6c29b9dd7a5e93b9732e5047f2251e", func := "loop.example/harbinger/laws.FnWrdSign", spec := "fnWrdSign", apart := false, narrowed := true }
def FnWrdSignUptoSaid : Prop := fnWrdSignUptoRow.holds Try.pinned (OpenSpec.upto fnWrdSignSpec)

/-- 'laws.FnExactAluDo', WHERE WHAT IT READS IS OF BULK AT MOST 1048576: true; the input reads as it did. -/
def fnExactAluDoUptoRow : OpenClaim := { program := "ytekaogbnpncpaaa", sum := "cf25b440b59f911571baa6168c2ac8e5cd6c29b9dd7a5e93b9732e5047f2251e", func := "loop.example/harbinger/laws.FnExactAluDo", spec := "fnExactAluDo", apart := false, narrowed := true }
def FnExactAluDoUptoSaid : Prop := fnExactAluDoUptoRow.holds Try.pinned (OpenSpec.upto fnExactAluDoSpec)

/-- 'laws.FnMulDo', WHERE WHAT IT READS IS OF BULK AT MOST 1048576: true; the input reads as it did. -/
def fnMulDoUptoRow : OpenClaim := { program := "ytekaogbnpncpaaa", sum := "cf25b440b59f911571baa6168c2ac8e5cd6c29b9dd7a5e93b9732e5047f2251e", func := "loop.example/harbinger/laws.FnMulDo", spec := "fnMulDo", apart := false, narrowed := true }
def FnMulDoUptoSaid : Prop := fnMulDoUptoRow.holds Try.pinned (OpenSpec.upto fnMulDoSpec)

/-- 'laws.FnAluAdd', WHERE WHAT IT READS IS OF BULK AT MOST 1048576: true; the input reads as it did. -/
def fnAluAddUptoRow : OpenClaim := { program := "ytekaogbnpncpaaa", sum := "cf25b440b59f911571baa6168c2ac8e5cd6c29b9dd7a5e93b9732e5047f2251e", func := "loop.example/harbinger/laws.FnAluAdd", spec := "fnAluAdd", apart := false, narrowed := true }
def FnAluAddUptoSaid : Prop := fnAluAddUptoRow.holds Try.pinned (OpenSpec.upto fnAluAddSpec)

/-- 'laws.FnAluBits', WHERE WHAT IT READS IS OF BULK AT MOST 1048576: true; the input reads as it did. -/
def fnAluBitsUptoRow : OpenClaim := { program := "ytekaogbnpncpaaa", sum := "cf25b440b59f911571baa6168c2ac8e5cd6c29b9dd7a5e93b9732e5047f2251e", func := "loop.example/harbinger/laws.FnAluBits", spec := "fnAluBits", apart := false, narrowed := true }
def FnAluBitsUptoSaid : Prop := fnAluBitsUptoRow.holds Try.pinned (OpenSpec.upto fnAluBitsSpec)

/-- 'laws.FnAluShift', WHERE WHAT IT READS IS OF BULK AT MOST 1048576: true; the input reads as it did. -/
def fnAluShiftUptoRow : OpenClaim := { program := "ytekaogbnpncpaaa", sum := "cf25b440b59f911571baa6168c2ac8e5cd6c29b9dd7a5e93b9732e5047f2251e", func := "loop.example/harbinger/laws.FnAluShift", spec := "fnAluShift", apart := false, narrowed := true }
def FnAluShiftUptoSaid : Prop := fnAluShiftUptoRow.holds Try.pinned (OpenSpec.upto fnAluShiftSpec)

/-- 'laws.FnAluThree', WHERE WHAT IT READS IS OF BULK AT MOST 1048576: true; the input reads as it did. -/
def fnAluThreeUptoRow : OpenClaim := { program := "ytekaogbnpncpaaa", sum := "cf25b440b59f911571baa6168c2ac8e5cd6c29b9dd7a5e93b9732e5047f2251e", func := "loop.example/harbinger/laws.FnAluThree", spec := "fnAluThree", apart := false, narrowed := true }
def FnAluThreeUptoSaid : Prop := fnAluThreeUptoRow.holds Try.pinned (OpenSpec.upto fnAluThreeSpec)

/-- 'laws.FnAluLt', WHERE WHAT IT READS IS OF BULK AT MOST 1048576: true; the input reads as it did. -/
def fnAluLtUptoRow : OpenClaim := { program := "ytekaogbnpncpaaa", sum := "cf25b440b59f911571baa6168c2ac8e5cd6c29b9dd7a5e93b9732e5047f2251e", func := "loop.example/harbinger/laws.FnAluLt", spec := "fnAluLt", apart := false, narrowed := true }
def FnAluLtUptoSaid : Prop := fnAluLtUptoRow.holds Try.pinned (OpenSpec.upto fnAluLtSpec)

end Rows
end Go.Proofs.Ytekaogbnpncpaaa
