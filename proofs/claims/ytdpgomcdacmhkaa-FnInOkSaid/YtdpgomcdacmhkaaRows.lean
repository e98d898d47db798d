/-
  No cell of these rows narrows 'for every input' (looked for: loops, veiled, ifaces, maps, wideKeys, modest, calm, conditions, laid).
  DERIVED. THE GIVEN ROWS OF THIS SEAT. 8 by the template 'for every input the law returns true; each argument reads behind the call as it read before'; 0 by the template 'total and deterministic' (their statements: YtdpgomcdacmhkaaTotals.lean).
  GIVEN WITH THE SEED: the statements are not yours to turn. If you find one false, say at which input.
  Laid BY PROGRAM, IN A SANDBOX (cutbox-rows.mjs): the forced cells as the released guide's own fill.sh prints them over the translation 1efdc25f653a2920… (all of the seat's roots in one cut). By AI agents, Wed Nov 11 2026. No macro, syntax, notation, axiom, sorry.
-/
import Derived.Test.YtdpgomcdacmhkaaChecked
import GoSem.Claim
import GoSem.ClaimJoined
import GoSem.ClaimMapViews
import Derived.JoinedTies
import Derived.KernelRfl
namespace Go.Proofs.Ytdpgomcdacmhkaa
/- THE CELL 'sum', in the pinned program and in every row, IS THE sha256 OF THE DUMP (.gsa) THAT YtdpgomcdacmhkaaProg.lean LOADS. Nothing in Lean hashes anything: it is a label: what it is worth is what the hold of that sum in a sandbox is worth. -/
noncomputable def Try.pinned : Pinned := { name := "ytdpgomcdacmhkaa", sum := "1efdc25f653a29203807fc8d24b2c884cf4384d088cc85f1ed92cd82db910942", checked := Try.checked }
namespace Rows
def none {H : Type} : Left H := { results := [], args := [] }

/-- 'laws.FnPlnNew': WHATEVER THE INPUT: true; the input reads as it did. -/
def fnPlnNewSpec : ChangeSpec := { name := "fnPlnNew", fn := fun _ => fun
  | [d] => { results := [.lit (.bool true)], args := [d] }
  | _ => none }
def fnPlnNewRow : OpenClaim := { program := "ytdpgomcdacmhkaa", sum := "1efdc25f653a29203807fc8d24b2c884cf4384d088cc85f1ed92cd82db910942", func := "loop.example/harbinger/laws.FnPlnNew", spec := "fnPlnNew", recurses := true, apart := false }
def FnPlnNewSaid : Prop := fnPlnNewRow.holds Try.pinned (OpenSpec.ofChange fnPlnNewSpec)

/-- ITS FALSE NEIGHBOUR: 'it returns false'. Refute it at one input. -/
def fnPlnNewWrong : ChangeSpec := { name := "fnPlnNew", fn := fun _ => fun
  | [d] => { results := [.lit (.bool false)], args := [d] }
  | _ => none }
def FnPlnNewWrongFalsely : Prop := fnPlnNewRow.holds Try.pinned (OpenSpec.ofChange fnPlnNewWrong)

/-- 'laws.FnExactPlnNew': WHATEVER THE INPUT: true; the input reads as it did. -/
def fnExactPlnNewSpec : ChangeSpec := { name := "fnExactPlnNew", fn := fun _ => fun
  | [d] => { results := [.lit (.bool true)], args := [d] }
  | _ => none }
def fnExactPlnNewRow : OpenClaim := { program := "ytdpgomcdacmhkaa", sum := "1efdc25f653a29203807fc8d24b2c884cf4384d088cc85f1ed92cd82db910942", func := "loop.example/harbinger/laws.FnExactPlnNew", spec := "fnExactPlnNew", apart := false }
def FnExactPlnNewSaid : Prop := fnExactPlnNewRow.holds Try.pinned (OpenSpec.ofChange fnExactPlnNewSpec)

/-- ITS FALSE NEIGHBOUR: 'it returns false'. Refute it at one input. -/
def fnExactPlnNewWrong : ChangeSpec := { name := "fnExactPlnNew", fn := fun _ => fun
  | [d] => { results := [.lit (.bool false)], args := [d] }
  | _ => none }
def FnExactPlnNewWrongFalsely : Prop := fnExactPlnNewRow.holds Try.pinned (OpenSpec.ofChange fnExactPlnNewWrong)

/-- 'laws.FnExactPlnOk': WHATEVER THE INPUT: true; the input reads as it did. -/
def fnExactPlnOkSpec : ChangeSpec := { name := "fnExactPlnOk", fn := fun _ => fun
  | [d] => { results := [.lit (.bool true)], args := [d] }
  | _ => none }
def fnExactPlnOkRow : OpenClaim := { program := "ytdpgomcdacmhkaa", sum := "1efdc25f653a29203807fc8d24b2c884cf4384d088cc85f1ed92cd82db910942", func := "loop.example/harbinger/laws.FnExactPlnOk", spec := "fnExactPlnOk", apart := false }
def FnExactPlnOkSaid : Prop := fnExactPlnOkRow.holds Try.pinned (OpenSpec.ofChange fnExactPlnOkSpec)

/-- ITS FALSE NEIGHBOUR: 'it returns false'. Refute it at one input. -/
def fnExactPlnOkWrong : ChangeSpec := { name := "fnExactPlnOk", fn := fun _ => fun
  | [d] => { results := [.lit (.bool false)], args := [d] }
  | _ => none }
def FnExactPlnOkWrongFalsely : Prop := fnExactPlnOkRow.holds Try.pinned (OpenSpec.ofChange fnExactPlnOkWrong)

/-- 'laws.FnExactPlnLay': WHATEVER THE INPUT: true; the input reads as it did. -/
def fnExactPlnLaySpec : ChangeSpec := { name := "fnExactPlnLay", fn := fun _ => fun
  | [d1, d2, d3] => { results := [.lit (.bool true)], args := [d1, d2, d3] }
  | _ => none }
def fnExactPlnLayRow : OpenClaim := { program := "ytdpgomcdacmhkaa", sum := "1efdc25f653a29203807fc8d24b2c884cf4384d088cc85f1ed92cd82db910942", func := "loop.example/harbinger/laws.FnExactPlnLay", spec := "fnExactPlnLay", apart := false }
def FnExactPlnLaySaid : Prop := fnExactPlnLayRow.holds Try.pinned (OpenSpec.ofChange fnExactPlnLaySpec)

/-- ITS FALSE NEIGHBOUR: 'it returns false'. Refute it at one input. -/
def fnExactPlnLayWrong : ChangeSpec := { name := "fnExactPlnLay", fn := fun _ => fun
  | [d1, d2, d3] => { results := [.lit (.bool false)], args := [d1, d2, d3] }
  | _ => none }
def FnExactPlnLayWrongFalsely : Prop := fnExactPlnLayRow.holds Try.pinned (OpenSpec.ofChange fnExactPlnLayWrong)

/-- 'laws.FnExactPagSee': WHATEVER THE INPUT: true; the input reads as it did. -/
def fnExactPagSeeSpec : ChangeSpec := { name := "fnExactPagSee", fn := fun _ => fun
  | [d1, d2, d3] => { results := [.lit (.bool true)], args := [d1, d2, d3] }
  | _ => none }
def fnExactPagSeeRow : OpenClaim := { program := "ytdpgomcdacmhkaa", sum := "1efdc25f653a29203807fc8d24b2c884cf4384d088cc85f1ed92cd82db910942", func := "loop.example/harbinger/laws.FnExactPagSee", spec := "fnExactPagSee", unfollowed := true, recurses := true, apart := false }
def FnExactPagSeeSaid : Prop := fnExactPagSeeRow.holds Try.pinned (OpenSpec.ofChange fnExactPagSeeSpec)

/-- ITS FALSE NEIGHBOUR: 'it returns false'. Refute it at one input. -/
def fnExactPagSeeWrong : ChangeSpec := { name := "fnExactPagSee", fn := fun _ => fun
  | [d1, d2, d3] => { results := [.lit (.bool false)], args := [d1, d2, d3] }
  | _ => none }
def FnExactPagSeeWrongFalsely : Prop := fnExactPagSeeRow.holds Try.pinned (OpenSpec.ofChange fnExactPagSeeWrong)

/-- 'laws.FnExactInAll': WHATEVER THE INPUT: true; the input reads as it did. -/
def fnExactInAllSpec : ChangeSpec := { name := "fnExactInAll", fn := fun _ => fun
  | [] => { results := [.lit (.bool true)], args := [] }
  | _ => none }
def fnExactInAllRow : OpenClaim := { program := "ytdpgomcdacmhkaa", sum := "1efdc25f653a29203807fc8d24b2c884cf4384d088cc85f1ed92cd82db910942", func := "loop.example/harbinger/laws.FnExactInAll", spec := "fnExactInAll", apart := false }
def FnExactInAllSaid : Prop := fnExactInAllRow.holds Try.pinned (OpenSpec.ofChange fnExactInAllSpec)

/-- ITS FALSE NEIGHBOUR: 'it returns false'. Refute it at one input. -/
def fnExactInAllWrong : ChangeSpec := { name := "fnExactInAll", fn := fun _ => fun
  | [] => { results := [.lit (.bool false)], args := [] }
  | _ => none }
def FnExactInAllWrongFalsely : Prop := fnExactInAllRow.holds Try.pinned (OpenSpec.ofChange fnExactInAllWrong)

/-- 'laws.FnExactInOk': WHATEVER THE INPUT: true; the input reads as it did. -/
def fnExactInOkSpec : ChangeSpec := { name := "fnExactInOk", fn := fun _ => fun
  | [d] => { results := [.lit (.bool true)], args := [d] }
  | _ => none }
def fnExactInOkRow : OpenClaim := { program := "ytdpgomcdacmhkaa", sum := "1efdc25f653a29203807fc8d24b2c884cf4384d088cc85f1ed92cd82db910942", func := "loop.example/harbinger/laws.FnExactInOk", spec := "fnExactInOk", apart := false }
def FnExactInOkSaid : Prop := fnExactInOkRow.holds Try.pinned (OpenSpec.ofChange fnExactInOkSpec)

/-- ITS FALSE NEIGHBOUR: 'it returns false'. Refute it at one input. -/
def fnExactInOkWrong : ChangeSpec := { name := "fnExactInOk", fn := fun _ => fun
  | [d] => { results := [.lit (.bool false)], args := [d] }
  | _ => none }
def FnExactInOkWrongFalsely : Prop := fnExactInOkRow.holds Try.pinned (OpenSpec.ofChange fnExactInOkWrong)

/-- 'laws.FnInOk': WHATEVER THE INPUT: true; the input reads as it did. -/
def fnInOkSpec : ChangeSpec := { name := "fnInOk", fn := fun _ => fun
  | [d] => { results := [.lit (.bool true)], args := [d] }
  | _ => none }
def fnInOkRow : OpenClaim := { program := "ytdpgomcdacmhkaa", sum := "1efdc25f653a29203807fc8d24b2c884cf4384d088cc85f1ed92cd82db910942", func := "loop.example/harbinger/laws.FnInOk", spec := "fnInOk", apart := false }
def FnInOkSaid : Prop := fnInOkRow.holds Try.pinned (OpenSpec.ofChange fnInOkSpec)

/-- ITS FALSE NEIGHBOUR: 'it returns false'. Refute it at one input. -/
def fnInOkWrong : ChangeSpec := { name := "fnInOk", fn := fun _ => fun
  | [d] => { results := [.lit (.bool false)], args := [d] }
  | _ => none }
def FnInOkWrongFalsely : Prop := fnInOkRow.holds Try.pinned (OpenSpec.ofChange fnInOkWrong)

/- THE SECOND FORM. 'bulk': how many values and letters a reading holds, each counted each time it is reached (what is shared counts as often as it is met; a slice's spare places count too). A statement '..UptoSaid' is the law's where the arguments, and the package variables that the reading takes, are together of bulk at most 1048576: NARROWER than '..Said'. Prove '..Said' where nothing that the law and all that it calls make is longer than what came in: it says more and counts as full. Else prove '..UptoSaid'. A law counts once. -/
mutual
def uptoBulk {H : Type} : DataW H → Nat
  | .lit (.string bytes) => bytes.length + 1
  | .lit _ => 1
  | .nil => 1
  | .ptr d => uptoBulk d + 1
  | .slice elems spare => uptoBulkAll elems + uptoBulkAll spare + 1
  | .agg parts => uptoBulkAll parts + 1
  | .iface _ d => uptoBulk d + 1
  | .map entries => uptoBulkEntries entries + 1
  | .held _ => 1
def uptoBulkAll {H : Type} : List (DataW H) → Nat
  | [] => 0
  | d :: r => uptoBulk d + uptoBulkAll r
def uptoBulkEntries {H : Type} : List (Lit × DataW H) → Nat
  | [] => 0
  | x :: r => uptoBulkEntry x + uptoBulkEntries r
def uptoBulkEntry {H : Type} : Lit × DataW H → Nat
  | (.string bytes, d) => bytes.length + uptoBulk d + 1
  | (_, d) => uptoBulk d + 1
 end
def uptoSmall : (H : Type) → List (DataW H) → Bool := fun _ ds => decide (uptoBulkAll ds ≤ 1048576)
def OpenSpec.upto (s : _root_.Go.ChangeSpec) : _root_.Go.OpenSpec := { _root_.Go.OpenSpec.ofChange s with cond := some uptoSmall }

/-- 'laws.FnPlnNew', WHERE WHAT IT READS IS OF BULK AT MOST 1048576: true; the input reads as it did. -/
def fnPlnNewUptoRow : OpenClaim := { program := "ytdpgomcdacmhkaa", sum := "1efdc25f653a29203807fc8d24b2c884cf4384d088cc85f1ed92cd82db910942", func := "loop.example/harbinger/laws.FnPlnNew", spec := "fnPlnNew", recurses := true, apart := false, narrowed := true }
def FnPlnNewUptoSaid : Prop := fnPlnNewUptoRow.holds Try.pinned (OpenSpec.upto fnPlnNewSpec)

/-- 'laws.FnExactPlnNew', WHERE WHAT IT READS IS OF BULK AT MOST 1048576: true; the input reads as it did. -/
def fnExactPlnNewUptoRow : OpenClaim := { program := "ytdpgomcdacmhkaa", sum := "1efdc25f653a29203807fc8d24b2c884cf4384d088cc85f1ed92cd82db910942", func := "loop.example/harbinger/laws.FnExactPlnNew", spec := "fnExactPlnNew", apart := false, narrowed := true }
def FnExactPlnNewUptoSaid : Prop := fnExactPlnNewUptoRow.holds Try.pinned (OpenSpec.upto fnExactPlnNewSpec)

/-- 'laws.FnExactPlnOk', WHERE WHAT IT READS IS OF BULK AT MOST 1048576: true; the input reads as it did. -/
def fnExactPlnOkUptoRow : OpenClaim := { program := "ytdpgomcdacmhkaa", sum := "1efdc25f653a29203807fc8d24b2c884cf4384d088cc85f1ed92cd82db910942", func := "loop.example/harbinger/laws.FnExactPlnOk", spec := "fnExactPlnOk", apart := false, narrowed := true }
def FnExactPlnOkUptoSaid : Prop := fnExactPlnOkUptoRow.holds Try.pinned (OpenSpec.upto fnExactPlnOkSpec)

/-- 'laws.FnExactPlnLay', WHERE WHAT IT READS IS OF BULK AT MOST 1048576: true; the input reads as it did. -/
def fnExactPlnLayUptoRow : OpenClaim := { program := "ytdpgomcdacmhkaa", sum := "1efdc25f653a29203807fc8d24b2c884cf4384d088cc85f1ed92cd82db910942", func := "loop.example/harbinger/laws.FnExactPlnLay", spec := "fnExactPlnLay", apart := false, narrowed := true }
def FnExactPlnLayUptoSaid : Prop := fnExactPlnLayUptoRow.holds Try.pinned (OpenSpec.upto fnExactPlnLaySpec)

/-- 'laws.FnExactPagSee', WHERE WHAT IT READS IS OF BULK AT MOST 1048576: true; the input reads as it did. -/
def fnExactPagSeeUptoRow : OpenClaim := { program := "ytdpgomcdacmhkaa", sum := "1efdc25f653a29203807fc8d24b2c884cf4384d088cc85f1ed92cd82db910942", func := "loop.example/harbinger/laws.FnExactPagSee", spec := "fnExactPagSee", unfollowed := true, recurses := true, apart := false, narrowed := true }
def FnExactPagSeeUptoSaid : Prop := fnExactPagSeeUptoRow.holds Try.pinned (OpenSpec.upto fnExactPagSeeSpec)

/-- 'laws.FnExactInAll', WHERE WHAT IT READS IS OF BULK AT MOST 1048576: true; the input reads as it did. -/
def fnExactInAllUptoRow : OpenClaim := { program := "ytdpgomcdacmhkaa", sum := "1efdc25f653a29203807fc8d24b2c884cf4384d088cc85f1ed92cd82db910942", func := "loop.example/harbinger/laws.FnExactInAll", spec := "fnExactInAll", apart := false, narrowed := true }
def FnExactInAllUptoSaid : Prop := fnExactInAllUptoRow.holds Try.pinned (OpenSpec.upto fnExactInAllSpec)

/-- 'laws.FnExactInOk', WHERE WHAT IT READS IS OF BULK AT MOST 1048576: true; the input reads as it did. -/
def fnExactInOkUptoRow : OpenClaim := { program := "ytdpgomcdacmhkaa", sum := "1efdc25f653a29203807fc8d24b2c884cf4384d088cc85f1ed92cd82db910942", func := "loop.example/harbinger/laws.FnExactInOk", spec := "fnExactInOk", apart := false, narrowed := true }
def FnExactInOkUptoSaid : Prop := fnExactInOkUptoRow.holds Try.pinned (OpenSpec.upto fnExactInOkSpec)

/-- 'laws.FnInOk', WHERE WHAT IT READS IS OF BULK AT MOST 1048576: true; the input reads as it did. -/
def fnInOkUptoRow : OpenClaim := { program := "ytdpgomcdacmhkaa", sum := "1efdc25f653a29203807fc8d24b2c884cf4384d088cc85f1ed92cd82db910942", func := "loop.example/harbinger/laws.FnInOk", spec := "fnInOk", apart := false, narrowed := true }
def FnInOkUptoSaid : Prop := fnInOkUptoRow.holds Try.pinned (OpenSpec.upto fnInOkSpec)

end Rows
end Go.Proofs.Ytdpgomcdacmhkaa
