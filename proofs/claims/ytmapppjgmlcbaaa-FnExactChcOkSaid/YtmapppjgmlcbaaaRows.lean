/-
  No cell of these rows narrows 'for every input' (looked for: loops, veiled, ifaces, maps, wideKeys, modest, calm, conditions, laid).
  DERIVED. THE GIVEN ROWS OF THIS SEAT. 11 by the template 'for every input the law returns true; each argument reads behind the call as it read before'; 0 by the template 'total and deterministic' (their statements: YtmapppjgmlcbaaaTotals.lean).
  GIVEN WITH THE SEED: the statements are not yours to turn. If you find one false, say at which input.
  Laid BY PROGRAM, IN A SANDBOX (cutbox-rows.mjs): the forced cells as the released guide's own fill.sh prints them over the translation c3f9a229494006d8… (all of the seat's roots in one cut). By AI agents, Wed Nov 11 2026. No macro, syntax, notation, axiom, sorry.
-/
import Derived.Test.YtmapppjgmlcbaaaChecked
import GoSem.Claim
import GoSem.ClaimJoined
import GoSem.ClaimMapViews
import Derived.JoinedTies
import Derived.KernelRfl
namespace Go.Proofs.Ytmapppjgmlcbaaa
/- THE CELL 'sum', in the pinned program and in every row, IS THE sha256 OF THE DUMP (.gsa) THAT YtmapppjgmlcbaaaProg.lean LOADS. Nothing in Lean hashes anything: it is a label: what it is worth is what the hold of that sum in a sandbox is worth. -/
noncomputable def Try.pinned : Pinned := { name := "ytmapppjgmlcbaaa", sum := "c3f9a229494006d87682df38104618983a9c40c3ee26907577fe60d78a0be58d", checked := Try.checked }
namespace Rows
def none {H : Type} : Left H := { results := [], args := [] }

/-- 'laws.FnExactGueNew': WHATEVER THE INPUT: true; the input reads as it did. -/
def fnExactGueNewSpec : ChangeSpec := { name := "fnExactGueNew", fn := fun _ => fun
  | [] => { results := [.lit (.bool true)], args := [] }
  | _ => none }
def fnExactGueNewRow : OpenClaim := { program := "ytmapppjgmlcbaaa", sum := "c3f9a229494006d87682df38104618983a9c40c3ee26907577fe60d78a0be58d", func := "loop.example/harbinger/laws.FnExactGueNew", spec := "fnExactGueNew", apart := false }
def FnExactGueNewSaid : Prop := fnExactGueNewRow.holds Try.pinned (OpenSpec.ofChange fnExactGueNewSpec)

/-- ITS FALSE NEIGHBOUR: 'it returns false'. Refute it at one input. -/
def fnExactGueNewWrong : ChangeSpec := { name := "fnExactGueNew", fn := fun _ => fun
  | [] => { results := [.lit (.bool false)], args := [] }
  | _ => none }
def FnExactGueNewWrongFalsely : Prop := fnExactGueNewRow.holds Try.pinned (OpenSpec.ofChange fnExactGueNewWrong)

/-- 'laws.FnExactGueOk': WHATEVER THE INPUT: true; the input reads as it did. -/
def fnExactGueOkSpec : ChangeSpec := { name := "fnExactGueOk", fn := fun _ => fun
  | [d] => { results := [.lit (.bool true)], args := [d] }
  | _ => none }
def fnExactGueOkRow : OpenClaim := { program := "ytmapppjgmlcbaaa", sum := "c3f9a229494006d87682df38104618983a9c40c3ee26907577fe60d78a0be58d", func := "loop.example/harbinger/laws.FnExactGueOk", spec := "fnExactGueOk", apart := false }
def FnExactGueOkSaid : Prop := fnExactGueOkRow.holds Try.pinned (OpenSpec.ofChange fnExactGueOkSpec)

/-- ITS FALSE NEIGHBOUR: 'it returns false'. Refute it at one input. -/
def fnExactGueOkWrong : ChangeSpec := { name := "fnExactGueOk", fn := fun _ => fun
  | [d] => { results := [.lit (.bool false)], args := [d] }
  | _ => none }
def FnExactGueOkWrongFalsely : Prop := fnExactGueOkRow.holds Try.pinned (OpenSpec.ofChange fnExactGueOkWrong)

/-- 'laws.FnExactGueLearn': WHATEVER THE INPUT: true; the input reads as it did. -/
def fnExactGueLearnSpec : ChangeSpec := { name := "fnExactGueLearn", fn := fun _ => fun
  | [d1, d2, d3] => { results := [.lit (.bool true)], args := [d1, d2, d3] }
  | _ => none }
def fnExactGueLearnRow : OpenClaim := { program := "ytmapppjgmlcbaaa", sum := "c3f9a229494006d87682df38104618983a9c40c3ee26907577fe60d78a0be58d", func := "loop.example/harbinger/laws.FnExactGueLearn", spec := "fnExactGueLearn", apart := false }
def FnExactGueLearnSaid : Prop := fnExactGueLearnRow.holds Try.pinned (OpenSpec.ofChange fnExactGueLearnSpec)

/-- ITS FALSE NEIGHBOUR: 'it returns false'. Refute it at one input. -/
def fnExactGueLearnWrong : ChangeSpec := { name := "fnExactGueLearn", fn := fun _ => fun
  | [d1, d2, d3] => { results := [.lit (.bool false)], args := [d1, d2, d3] }
  | _ => none }
def FnExactGueLearnWrongFalsely : Prop := fnExactGueLearnRow.holds Try.pinned (OpenSpec.ofChange fnExactGueLearnWrong)

/-- 'laws.FnGueOk': WHATEVER THE INPUT: true; the input reads as it did. -/
def fnGueOkSpec : ChangeSpec := { name := "fnGueOk", fn := fun _ => fun
  | [d] => { results := [.lit (.bool true)], args := [d] }
  | _ => none }
def fnGueOkRow : OpenClaim := { program := "ytmapppjgmlcbaaa", sum := "c3f9a229494006d87682df38104618983a9c40c3ee26907577fe60d78a0be58d", func := "loop.example/harbinger/laws.FnGueOk", spec := "fnGueOk", apart := false }
def FnGueOkSaid : Prop := fnGueOkRow.holds Try.pinned (OpenSpec.ofChange fnGueOkSpec)

/-- ITS FALSE NEIGHBOUR: 'it returns false'. Refute it at one input. -/
def fnGueOkWrong : ChangeSpec := { name := "fnGueOk", fn := fun _ => fun
  | [d] => { results := [.lit (.bool false)], args := [d] }
  | _ => none }
def FnGueOkWrongFalsely : Prop := fnGueOkRow.holds Try.pinned (OpenSpec.ofChange fnGueOkWrong)

/-- 'laws.FnExactChcNew': WHATEVER THE INPUT: true; the input reads as it did. -/
def fnExactChcNewSpec : ChangeSpec := { name := "fnExactChcNew", fn := fun _ => fun
  | [d] => { results := [.lit (.bool true)], args := [d] }
  | _ => none }
def fnExactChcNewRow : OpenClaim := { program := "ytmapppjgmlcbaaa", sum := "c3f9a229494006d87682df38104618983a9c40c3ee26907577fe60d78a0be58d", func := "loop.example/harbinger/laws.FnExactChcNew", spec := "fnExactChcNew", apart := false }
def FnExactChcNewSaid : Prop := fnExactChcNewRow.holds Try.pinned (OpenSpec.ofChange fnExactChcNewSpec)

/-- ITS FALSE NEIGHBOUR: 'it returns false'. Refute it at one input. -/
def fnExactChcNewWrong : ChangeSpec := { name := "fnExactChcNew", fn := fun _ => fun
  | [d] => { results := [.lit (.bool false)], args := [d] }
  | _ => none }
def FnExactChcNewWrongFalsely : Prop := fnExactChcNewRow.holds Try.pinned (OpenSpec.ofChange fnExactChcNewWrong)

/-- 'laws.FnExactChcOk': WHATEVER THE INPUT: true; the input reads as it did. -/
def fnExactChcOkSpec : ChangeSpec := { name := "fnExactChcOk", fn := fun _ => fun
  | [d] => { results := [.lit (.bool true)], args := [d] }
  | _ => none }
def fnExactChcOkRow : OpenClaim := { program := "ytmapppjgmlcbaaa", sum := "c3f9a229494006d87682df38104618983a9c40c3ee26907577fe60d78a0be58d", func := "loop.example/harbinger/laws.FnExactChcOk", spec := "fnExactChcOk", apart := false }
def FnExactChcOkSaid : Prop := fnExactChcOkRow.holds Try.pinned (OpenSpec.ofChange fnExactChcOkSpec)

/-- ITS FALSE NEIGHBOUR: 'it returns false'. Refute it at one input. -/
def fnExactChcOkWrong : ChangeSpec := { name := "fnExactChcOk", fn := fun _ => fun
  | [d] => { results := [.lit (.bool false)], args := [d] }
  | _ => none }
def FnExactChcOkWrongFalsely : Prop := fnExactChcOkRow.holds Try.pinned (OpenSpec.ofChange fnExactChcOkWrong)

/-- 'laws.FnExactChcLook': WHATEVER THE INPUT: true; the input reads as it did. -/
def fnExactChcLookSpec : ChangeSpec := { name := "fnExactChcLook", fn := fun _ => fun
  | [d1, d2] => { results := [.lit (.bool true)], args := [d1, d2] }
  | _ => none }
def fnExactChcLookRow : OpenClaim := { program := "ytmapppjgmlcbaaa", sum := "c3f9a229494006d87682df38104618983a9c40c3ee26907577fe60d78a0be58d", func := "loop.example/harbinger/laws.FnExactChcLook", spec := "fnExactChcLook", apart := false }
def FnExactChcLookSaid : Prop := fnExactChcLookRow.holds Try.pinned (OpenSpec.ofChange fnExactChcLookSpec)

/-- ITS FALSE NEIGHBOUR: 'it returns false'. Refute it at one input. -/
def fnExactChcLookWrong : ChangeSpec := { name := "fnExactChcLook", fn := fun _ => fun
  | [d1, d2] => { results := [.lit (.bool false)], args := [d1, d2] }
  | _ => none }
def FnExactChcLookWrongFalsely : Prop := fnExactChcLookRow.holds Try.pinned (OpenSpec.ofChange fnExactChcLookWrong)

/-- 'laws.FnExactChcAll': WHATEVER THE INPUT: true; the input reads as it did. -/
def fnExactChcAllSpec : ChangeSpec := { name := "fnExactChcAll", fn := fun _ => fun
  | [d] => { results := [.lit (.bool true)], args := [d] }
  | _ => none }
def fnExactChcAllRow : OpenClaim := { program := "ytmapppjgmlcbaaa", sum := "c3f9a229494006d87682df38104618983a9c40c3ee26907577fe60d78a0be58d", func := "loop.example/harbinger/laws.FnExactChcAll", spec := "fnExactChcAll", apart := false }
def FnExactChcAllSaid : Prop := fnExactChcAllRow.holds Try.pinned (OpenSpec.ofChange fnExactChcAllSpec)

/-- ITS FALSE NEIGHBOUR: 'it returns false'. Refute it at one input. -/
def fnExactChcAllWrong : ChangeSpec := { name := "fnExactChcAll", fn := fun _ => fun
  | [d] => { results := [.lit (.bool false)], args := [d] }
  | _ => none }
def FnExactChcAllWrongFalsely : Prop := fnExactChcAllRow.holds Try.pinned (OpenSpec.ofChange fnExactChcAllWrong)

/-- 'laws.FnChcOk': WHATEVER THE INPUT: true; the input reads as it did. -/
def fnChcOkSpec : ChangeSpec := { name := "fnChcOk", fn := fun _ => fun
  | [d] => { results := [.lit (.bool true)], args := [d] }
  | _ => none }
def fnChcOkRow : OpenClaim := { program := "ytmapppjgmlcbaaa", sum := "c3f9a229494006d87682df38104618983a9c40c3ee26907577fe60d78a0be58d", func := "loop.example/harbinger/laws.FnChcOk", spec := "fnChcOk", apart := false }
def FnChcOkSaid : Prop := fnChcOkRow.holds Try.pinned (OpenSpec.ofChange fnChcOkSpec)

/-- ITS FALSE NEIGHBOUR: 'it returns false'. Refute it at one input. -/
def fnChcOkWrong : ChangeSpec := { name := "fnChcOk", fn := fun _ => fun
  | [d] => { results := [.lit (.bool false)], args := [d] }
  | _ => none }
def FnChcOkWrongFalsely : Prop := fnChcOkRow.holds Try.pinned (OpenSpec.ofChange fnChcOkWrong)

/-- 'laws.FnChcNew': WHATEVER THE INPUT: true; the input reads as it did. -/
def fnChcNewSpec : ChangeSpec := { name := "fnChcNew", fn := fun _ => fun
  | [d] => { results := [.lit (.bool true)], args := [d] }
  | _ => none }
def fnChcNewRow : OpenClaim := { program := "ytmapppjgmlcbaaa", sum := "c3f9a229494006d87682df38104618983a9c40c3ee26907577fe60d78a0be58d", func := "loop.example/harbinger/laws.FnChcNew", spec := "fnChcNew", apart := false }
def FnChcNewSaid : Prop := fnChcNewRow.holds Try.pinned (OpenSpec.ofChange fnChcNewSpec)

/-- ITS FALSE NEIGHBOUR: 'it returns false'. Refute it at one input. -/
def fnChcNewWrong : ChangeSpec := { name := "fnChcNew", fn := fun _ => fun
  | [d] => { results := [.lit (.bool false)], args := [d] }
  | _ => none }
def FnChcNewWrongFalsely : Prop := fnChcNewRow.holds Try.pinned (OpenSpec.ofChange fnChcNewWrong)

/-- 'laws.FnChcAll': WHATEVER THE INPUT: true; the input reads as it did. -/
def fnChcAllSpec : ChangeSpec := { name := "fnChcAll", fn := fun _ => fun
  | [d1, d2] => { results := [.lit (.bool true)], args := [d1, d2] }
  | _ => none }
def fnChcAllRow : OpenClaim := { program := "ytmapppjgmlcbaaa", sum := "c3f9a229494006d87682df38104618983a9c40c3ee26907577fe60d78a0be58d", func := "loop.example/harbinger/laws.FnChcAll", spec := "fnChcAll", apart := false }
def FnChcAllSaid : Prop := fnChcAllRow.holds Try.pinned (OpenSpec.ofChange fnChcAllSpec)

/-- ITS FALSE NEIGHBOUR: 'it returns false'. Refute it at one input. -/
def fnChcAllWrong : ChangeSpec := { name := "fnChcAll", fn := fun _ => fun
  | [d1, d2] => { results := [.lit (.bool false)], args := [d1, d2] }
  | _ => none }
def FnChcAllWrongFalsely : Prop := fnChcAllRow.holds Try.pinned (OpenSpec.ofChange fnChcAllWrong)

/- THE SECOND FORM. 'bulk': how many values and letters a reading holds, each counted each time it is reached (what is shared counts as often as it is met; a slice's spare places count too). A statement '..UptoSaid' is the law's where the arguments, and the package variables that the reading takes, are together of bulk at most 1048576: NARROWER than '..Said'. Prove '..Said' where nothing that the law and all that it calls make is longer than what came in: it says more and counts as full. Else prove '..UptoSaid'. A law counts once. -/
mutual
def uptoBulk {H : Type} : DataW H → Nat
  | .lit (.string bytes) => bytes.length + 1
  | .lit _ => 1
  | .nil => 1
  | .ptr d => uptoBulk d + 1
  | .slice elems spare => uptoBulkAll elems + uptoBulkAll spare + 1
  | .agg parts => uptoBulkAll parts + 1
  | .iface _ d => uptoBulk d + 1
  | .map entries => uptoBulkEntries entries + 1
  | .held _ => 1
def uptoBulkAll {H : Type} : List (DataW H) → Nat
  | [] => 0
  | d :: r => uptoBulk d + uptoBulkAll r
def uptoBulkEntries {H : Type} : List (Lit × DataW H) → Nat
  | [] => 0
  | x :: r => uptoBulkEntry x + uptoBulkEntries r
def uptoBulkEntry {H : Type} : Lit × DataW H → Nat
  | (.string bytes, d) => bytes.length + uptoBulk d + 1
  | (_, d) => uptoBulk d + 1
 end
def uptoSmall : (H : Type) → List (DataW H) → Bool := fun _ ds => decide (uptoBulkAll ds ≤ 1048576)
def OpenSpec.upto (s : _root_.Go.ChangeSpec) : _root_.Go.OpenSpec := { _root_.Go.OpenSpec.ofChange s with cond := some uptoSmall }

/-- 'laws.FnExactGueNew', WHERE WHAT IT READS IS OF BULK AT MOST 1048576: true; the input reads as it did. -/
def fnExactGueNewUptoRow : OpenClaim := { program := "ytmapppjgmlcbaaa", sum := "c3f9a229494006d87682df38104618983a9c40c3ee26907577fe60d78a0be58d", func := "loop.example/harbinger/laws.FnExactGueNew", spec := "fnExactGueNew", apart := false, narrowed := true }
def FnExactGueNewUptoSaid : Prop := fnExactGueNewUptoRow.holds Try.pinned (OpenSpec.upto fnExactGueNewSpec)

/-- 'laws.FnExactGueOk', WHERE WHAT IT READS IS OF BULK AT MOST 1048576: true; the input reads as it did. -/
def fnExactGueOkUptoRow : OpenClaim := { program := "ytmapppjgmlcbaaa", sum := "c3f9a229494006d87682df38104618983a9c40c3ee26907577fe60d78a0be58d", func := "loop.example/harbinger/laws.FnExactGueOk", spec := "fnExactGueOk", apart := false, narrowed := true }
def FnExactGueOkUptoSaid : Prop := fnExactGueOkUptoRow.holds Try.pinned (OpenSpec.upto fnExactGueOkSpec)

/-- 'laws.FnExactGueLearn', WHERE WHAT IT READS IS OF BULK AT MOST 1048576: true; the input reads as it did. -/
def fnExactGueLearnUptoRow : OpenClaim := { program := "ytmapppjgmlcbaaa", sum := "c3f9a229494006d87682df38104618983a9c40c3ee26907577fe60d78a0be58d", func := "loop.example/harbinger/laws.FnExactGueLearn", spec := "fnExactGueLearn", apart := false, narrowed := true }
def FnExactGueLearnUptoSaid : Prop := fnExactGueLearnUptoRow.holds Try.pinned (OpenSpec.upto fnExactGueLearnSpec)

/-- 'laws.FnGueOk', WHERE WHAT IT READS IS OF BULK AT MOST 1048576: true; the input reads as it did. -/
def fnGueOkUptoRow : OpenClaim := { program := "ytmapppjgmlcbaaa", sum := "c3f9a229494006d87682df38104618983a9c40c3ee26907577fe60d78a0be58d", func := "loop.example/harbinger/laws.FnGueOk", spec := "fnGueOk", apart := false, narrowed := true }
def FnGueOkUptoSaid : Prop := fnGueOkUptoRow.holds Try.pinned (OpenSpec.upto fnGueOkSpec)

/-- 'laws.FnExactChcNew', WHERE WHAT IT READS IS OF BULK AT MOST 1048576: true; the input reads as it did. -/
def fnExactChcNewUptoRow : OpenClaim := { program := "ytmapppjgmlcbaaa", sum := "c3f9a229494006d87682df38104618983a9c40c3ee26907577fe60d78a0be58d", func := "loop.example/harbinger/laws.FnExactChcNew", spec := "fnExactChcNew", apart := false, narrowed := true }
def FnExactChcNewUptoSaid : Prop := fnExactChcNewUptoRow.holds Try.pinned (OpenSpec.upto fnExactChcNewSpec)

/-- 'laws.FnExactChcOk', WHERE WHAT IT READS IS OF BULK AT MOST 1048576: true; the input reads as it did. -/
def fnExactChcOkUptoRow : OpenClaim := { program := "ytmapppjgmlcbaaa", sum := "c3f9a229494006d87682df38104618983a9c40c3ee26907577fe60d78a0be58d", func := "loop.example/harbinger/laws.FnExactChcOk", spec := "fnExactChcOk", apart := false, narrowed := true }
def FnExactChcOkUptoSaid : Prop := fnExactChcOkUptoRow.holds Try.pinned (OpenSpec.upto fnExactChcOkSpec)

/-- 'laws.FnExactChcLook', WHERE WHAT IT READS IS OF BULK AT MOST 1048576: true; the input reads as it did. -/
def fnExactChcLookUptoRow : OpenClaim := { program := "ytmapppjgmlcbaaa", sum := "c3f9a229494006d87682df38104618983a9c40c3ee26907577fe60d78a0be58d", func := "loop.example/harbinger/laws.FnExactChcLook", spec := "fnExactChcLook", apart := false, narrowed := true }
def FnExactChcLookUptoSaid : Prop := fnExactChcLookUptoRow.holds Try.pinned (OpenSpec.upto fnExactChcLookSpec)

/-- 'laws.FnExactChcAll', WHERE WHAT IT READS IS OF BULK AT MOST 1048576: true; the input reads as it did. -/
def fnExactChcAllUptoRow : OpenClaim := { program := "ytmapppjgmlcbaaa", sum := "c3f9a229494006d87682df38104618983a9c40c3ee26907577fe60d78a0be58d", func := "loop.example/harbinger/laws.FnExactChcAll", spec := "fnExactChcAll", apart := false, narrowed := true }
def FnExactChcAllUptoSaid : Prop := fnExactChcAllUptoRow.holds Try.pinned (OpenSpec.upto fnExactChcAllSpec)

/-- 'laws.FnChcOk', WHERE WHAT IT READS IS OF BULK AT MOST 1048576: true; the input reads as it did. -/
def fnChcOkUptoRow : OpenClaim := { program := "ytmapppjgmlcbaaa", sum := "c3f9a229494006d87682df38104618983a9c40c3ee26907577fe60d78a0be58d", func := "loop.example/harbinger/laws.FnChcOk", spec := "fnChcOk", apart := false, narrowed := true }
def FnChcOkUptoSaid : Prop := fnChcOkUptoRow.holds Try.pinned (OpenSpec.upto fnChcOkSpec)

/-- 'laws.FnChcNew', WHERE WHAT IT READS IS OF BULK AT MOST 1048576: true; the input reads as it did. -/
def fnChcNewUptoRow : OpenClaim := { program := "ytmapppjgmlcbaaa", sum := "c3f9a229494006d87682df38104618983a9c40c3ee26907577fe60d78a0be58d", func := "loop.example/harbinger/laws.FnChcNew", spec := "fnChcNew", apart := false, narrowed := true }
def FnChcNewUptoSaid : Prop := fnChcNewUptoRow.holds Try.pinned (OpenSpec.upto fnChcNewSpec)

/-- 'laws.FnChcAll', WHERE WHAT IT READS IS OF BULK AT MOST 1048576: true; the input reads as it did. -/
def fnChcAllUptoRow : OpenClaim := { program := "ytmapppjgmlcbaaa", sum := "c3f9a229494006d87682df38104618983a9c40c3ee26907577fe60d78a0be58d", func := "loop.example/harbinger/laws.FnChcAll", spec := "fnChcAll", apart := false, narrowed := true }
def FnChcAllUptoSaid : Prop := fnChcAllUptoRow.holds Try.pinned (OpenSpec.upto fnChcAllSpec)

end Rows
end Go.Proofs.Ytmapppjgmlcbaaa
