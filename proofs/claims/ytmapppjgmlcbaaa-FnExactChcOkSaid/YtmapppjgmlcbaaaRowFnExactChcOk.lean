/- The law FnExactChcOk: for every input the call returns true and each argument reads afterwards as it read before. There are no further conditions. -/
import Derived.Test.YtmapppjgmlcbaaaRows
import Derived.Test.YtmapppjgmlcbaaaQFnExactChcOkx4
import Derived.Test.YtmapppjgmlcbaaaPureFnExactChcOk
import Derived.WalkKit
import Derived.ProofKit
import Derived.OpenShut
import Derived.ShutString
import Derived.ChangeOld
import Derived.Below
import Derived.SizedLaws
import Derived.Test.YtmapppjgmlcbaaaOpen
namespace Go.Proofs.Ytmapppjgmlcbaaa.fnExactChcOk
open Go.ChangeShapes Go.WideShapes Go.ChangeAt Go.RowKit
open Go.ChangeMaps (open_string shut_string)
set_option linter.unusedVariables false
theorem own : ownKnob Try.prog.godebug = none := by kernel_rfl
theorem laidOut : laidOutB Try.prog = true := by kernel_rfl
/-- What an element of type 110 keeps, whatever its world. -/
def wf110 (x : QFnExactChcOk.S110) : Prop := (Lit.int .i64 x.f1).wf = true ∧ (x.f3.length ≤ maxLen ∧ ∀ n ∈ x.f3, (Lit.int .i64 n).wf = true)
def fields110 : Array Field := #[⟨"Used", 4, 0, false, "", "", 0⟩, ⟨"At", 3, 1, false, "", "", 8⟩, ⟨"Dirty", 4, 2, false, "", "", 16⟩, ⟨"Words", 23, 3, false, "", "", 24⟩]
theorem el110 {H : Type} {enc : TypeId × Value → H} {w : World} {base : Nat} {held : Bool} (a : Addr) (i N : Nat) (h : ∀ (j : Nat) (f : Field), fields110[j]? = some f → ∃ (v : Value) (y : DataW H × List MemPlace), w.cell? (a.add (i * 4 + j)) = some v ∧ DataW.trod enc Try.prog w base (fun _ => true) held N f.type [v] = some y) :
    ∃ (x : QFnExactChcOk.S110) (c : List Value), wf110 x ∧ c.length = 4 ∧ QFnExactChcOk.k110.K w x c ∧ ∀ j u, c[j]? = some u → w.cell? (a.add (i * 4 + j)) = some u := by
  obtain ⟨v0, y0, h0, t0⟩ := h 0 _ rfl
  obtain ⟨a0, e0, _⟩ := DataW.trod_bool Try.underlying4 t0
  obtain rfl : v0 = .bool a0 := by simpa using e0
  obtain ⟨v1, y1, h1, t1⟩ := h 1 _ rfl
  obtain ⟨a1, e1, _, w1⟩ := DataW.trod_int Try.underlying3 t1
  obtain rfl : v1 = .int .i64 a1 := by simpa using e1
  obtain ⟨v2, y2, h2, t2⟩ := h 2 _ rfl
  obtain ⟨a2, e2, _⟩ := DataW.trod_bool Try.underlying4 t2
  obtain rfl : v2 = .bool a2 := by simpa using e2
  obtain ⟨v3, y3, h3, t3⟩ := h 3 _ rfl
  obtain ⟨A3, c3, l3, rfl, R3, C3, M3, W3⟩ := Open.ints_field Try.underlying23 Try.underlying3 (by kernel_rfl) t3
  refine ⟨⟨a0, a1, a2, l3⟩, _, ⟨w1, ⟨M3, W3⟩⟩, rfl, QFnExactChcOk.k110_mk w ⟨a0, a1, a2, l3⟩ C3 R3, ?_⟩
  intro j u hj
  match j, hj with
  | 0, hj => obtain rfl := Option.some.inj hj; exact h0
  | 1, hj => obtain rfl := Option.some.inj hj; exact h1
  | 2, hj => obtain rfl := Option.some.inj hj; exact h2
  | 3, hj => obtain rfl := Option.some.inj hj; exact h3
  | j + 4, hj => exact absurd hj (by simp)
set_option maxRecDepth 100000 in
theorem lifted (os : Os) (started : os.Started) (H : Type) (enc : TypeId × Value → H) :
    ReturnsInHanded {} Try.checked os 8 .any (Rows.fnExactChcOkSpec.pre6 enc Try.prog Try.f8 Rows.fnExactChcOkRow.domain false) (Rows.fnExactChcOkSpec.post enc Try.prog Try.f8 false true false false) := by
  refine returnsInHanded_of_change_sized (C := Try.checked) own started (by kernel_rfl) Try.func8
    (ChangeSpec.witness6 (enc := enc) (C := Try.checked) false ⟨#[], #[.agg #[.slice none 0 0, .slice none 0 0]], []⟩ 8 (by kernel_rfl) (by kernel_rfl) (by kernel_rfl) (by kernel_rfl)) ?_
  intro W base args ds gs before hval0 hW hcnd hsz0 _
  have hval : ∀ (j : Nat) t v, Try.f8.params[j]? = some t → args[j]? = some v → Value.okWide Try.prog W .any base t v := hval0
  have hW' := hW
  obtain ⟨p, q, hA0, hV, rfl, hfz, hnd⟩ := hW
  have hA : DataW.TrodAll enc Try.prog W 0 (fun _ => true) true Try.f8.params.toList args.toList ds p := hA0
  rw [Try.params8] at hA hval
  obtain ⟨v0, vs0, d0, ds0, p0, q0, hargs, rfl, rfl, h0, r0⟩ := trodAll_cons hA
  obtain ⟨rfl, rfl, rfl⟩ := trodAll_nil r0
  obtain rfl : args = #[v0] := by cases args; simp_all
  obtain ⟨rfl, rfl⟩ := trodVars_none hV
  have k0 := h0
  have lt0 : ∀ x ∈ p0, x.block < W.heap.size := by obtain ⟨m, hm⟩ := k0; exact DataW.trod_lt m _ _ _ hm
  obtain ⟨c0_0, c0_1, y0_0, y0_1, n0, rfl, hd0, hp0, g0_0, g0_1⟩ := Go.Joins.open_agg2 Try.underlying54 (by kernel_rfl) (by kernel_rfl) (hval 0 54 v0 rfl rfl) h0
  obtain ⟨A0_0, n0_0, l0_0, rfl, R0_0, C0_0, M0_0, W0_0⟩ := Open.ints_field Try.underlying23 Try.underlying3 (by kernel_rfl) g0_0
  obtain ⟨A0_1, n0_1, l0_1, rfl, R0_1, C0_1, M0_1, W0_1⟩ := Open.rows_field (d := QFnExactChcOk.k110) (wf := wf110) (fs := fields110) Try.underlying52 Try.underlying110 (by kernel_rfl) (by kernel_rfl) rfl (el110) g0_1
  clear hA0 hval0 hsz0
  obtain ⟨kk, hk⟩ := Pure.FnExactChcOk l0_0 l0_1 M0_0 W0_0 M0_1 W0_1
  refine (QFnExactChcOk.laws_FnExactChcOk.callsT kk A0_0 n0_0 l0_0 A0_1 n0_1 l0_1 true W R0_0 C0_0 R0_1 C0_1 hk rfl).mono fun e W' ⟨he, bel⟩ => ?_
  subst he
  exact ⟨_, rfl, _, _, _, [], _, [], hW', trodAll_mk1 (shut_bool Try.underlying4 _), (trodAll_cons_mk (Below.trod laidOut (by kernel_rfl) (of_decide_eq_true (by kernel_rfl)) k0 bel lt0) trodAll_mk0), rfl, bel.frame _, fun h => by cases h⟩
theorem over : Rows.fnExactChcOkRow.holds Try.pinned (OpenSpec.ofChange Rows.fnExactChcOkSpec) :=
  OpenClaim.holds_of_wide 8 Try.f8 rfl rfl rfl rfl rfl rfl rfl ⟨rfl, rfl, rfl, rfl, rfl⟩ rfl rfl rfl rfl rfl (by kernel_rfl) Try.func8 (by kernel_rfl)
    (of_decide_eq_true (by kernel_rfl)) (by unfold Func.isWrapper; first | (rw [if_pos (by decide +kernel)]; kernel_rfl) | (rw [if_neg (by decide +kernel)]; exact ⟨rfl, rfl⟩))
    (fun os started H enc _ => lifted os started H enc)
theorem proved : Rows.FnExactChcOkSaid := over
#print axioms proved
end Go.Proofs.Ytmapppjgmlcbaaa.fnExactChcOk
namespace Go.Proofs.Ytmapppjgmlcbaaa
/-- The row, under a short name, for the claim. -/
theorem fnExactChcOk_holds : Rows.FnExactChcOkSaid := fnExactChcOk.proved
end Go.Proofs.Ytmapppjgmlcbaaa
