/- The law FnExactPlnLay: for every input the call returns true and each argument reads afterwards as it read before. There are no further conditions. -/
import Derived.Test.YtdpgomcdacmhkaaRows
import Derived.Test.YtdpgomcdacmhkaaQFnExactPlnLayx4
import Derived.Test.YtdpgomcdacmhkaaPureFnExactPlnLay
import Derived.WalkKit
import Derived.ProofKit
import Derived.OpenShut
import Derived.ShutString
import Derived.ChangeOld
import Derived.Below
import Derived.SizedLaws
import Derived.Test.YtdpgomcdacmhkaaOpen
namespace Go.Proofs.Ytdpgomcdacmhkaa.fnExactPlnLay
open Go.ChangeShapes Go.WideShapes Go.ChangeAt Go.RowKit
open Go.ChangeMaps (open_string shut_string)
set_option linter.unusedVariables false
theorem own : ownKnob Try.prog.godebug = none := by kernel_rfl
theorem laidOut : laidOutB Try.prog = true := by kernel_rfl
set_option maxRecDepth 100000 in
theorem lifted (os : Os) (started : os.Started) (H : Type) (enc : TypeId × Value → H) :
    ReturnsInHanded {} Try.checked os 6 .any (Rows.fnExactPlnLaySpec.pre6 enc Try.prog Try.f6 Rows.fnExactPlnLayRow.domain false) (Rows.fnExactPlnLaySpec.post enc Try.prog Try.f6 false true false false) := by
  refine returnsInHanded_of_change_sized (C := Try.checked) own started (by kernel_rfl) Try.func6
    (ChangeSpec.witness6 (enc := enc) (C := Try.checked) false ⟨#[], #[.agg #[.int .i64 0, .slice none 0 0, .slice none 0 0, .slice none 0 0], .int .i64 0, .int .i64 0], []⟩ 8 (by kernel_rfl) (by kernel_rfl) (by kernel_rfl) (by kernel_rfl)) ?_
  intro W base args ds gs before hval0 hW hcnd hsz0 _
  have hval : ∀ (j : Nat) t v, Try.f6.params[j]? = some t → args[j]? = some v → Value.okWide Try.prog W .any base t v := hval0
  have hW' := hW
  obtain ⟨p, q, hA0, hV, rfl, hfz, hnd⟩ := hW
  have hA : DataW.TrodAll enc Try.prog W 0 (fun _ => true) true Try.f6.params.toList args.toList ds p := hA0
  rw [Try.params6] at hA hval
  obtain ⟨v0, vs0, d0, ds0, p0, q0, hargs, rfl, rfl, h0, r0⟩ := trodAll_cons hA
  obtain ⟨v1, vs1, d1, ds1, p1, q1, rfl, rfl, rfl, h1, r1⟩ := trodAll_cons r0
  obtain ⟨v2, vs2, d2, ds2, p2, q2, rfl, rfl, rfl, h2, r2⟩ := trodAll_cons r1
  obtain ⟨rfl, rfl, rfl⟩ := trodAll_nil r2
  obtain rfl : args = #[v0, v1, v2] := by cases args; simp_all
  obtain ⟨rfl, rfl⟩ := trodVars_none hV
  have k0 := h0
  have lt0 : ∀ x ∈ p0, x.block < W.heap.size := by obtain ⟨m, hm⟩ := k0; exact DataW.trod_lt m _ _ _ hm
  have k1 := h1
  have lt1 : ∀ x ∈ p1, x.block < W.heap.size := by obtain ⟨m, hm⟩ := k1; exact DataW.trod_lt m _ _ _ hm
  have k2 := h2
  have lt2 : ∀ x ∈ p2, x.block < W.heap.size := by obtain ⟨m, hm⟩ := k2; exact DataW.trod_lt m _ _ _ hm
  obtain ⟨c0_0, c0_1, c0_2, c0_3, y0_0, y0_1, y0_2, y0_3, n0, rfl, hd0, hp0, g0_0, g0_1, g0_2, g0_3⟩ := Go.Joins.open_agg4 Try.underlying38 (by kernel_rfl) (by kernel_rfl) (hval 0 38 v0 rfl rfl) h0
  obtain ⟨a0_0, e0_0, y0_0e, w0_0⟩ := DataW.trod_int Try.underlying3 g0_0
  obtain rfl : c0_0 = .int .i64 a0_0 := by simpa using e0_0
  obtain ⟨A0_1, n0_1, l0_1, rfl, R0_1, C0_1, M0_1, W0_1⟩ := Open.ints_field Try.underlying23 Try.underlying3 (by kernel_rfl) g0_1
  obtain ⟨A0_2, n0_2, l0_2, rfl, R0_2, C0_2, M0_2, W0_2⟩ := Open.ints_field Try.underlying23 Try.underlying3 (by kernel_rfl) g0_2
  obtain ⟨A0_3, n0_3, l0_3, rfl, R0_3, C0_3, M0_3, W0_3⟩ := Open.ints_field Try.underlying23 Try.underlying3 (by kernel_rfl) g0_3
  obtain ⟨a1, rfl, _, _, w1⟩ := open_int Try.underlying3 (hval 1 3 v1 rfl rfl) h1
  obtain ⟨a2, rfl, _, _, w2⟩ := open_int Try.underlying3 (hval 2 3 v2 rfl rfl) h2
  clear hA0 hval0 hsz0
  obtain ⟨kk, hk⟩ := Pure.FnExactPlnLay a0_0 l0_1 l0_2 l0_3 a1 a2 w0_0 M0_1 W0_1 M0_2 W0_2 M0_3 W0_3 w1 w2
  refine (QFnExactPlnLay.laws_FnExactPlnLay.callsT kk a0_0 A0_1 n0_1 l0_1 A0_2 n0_2 l0_2 A0_3 n0_3 l0_3 a1 a2 true W R0_1 C0_1 R0_2 C0_2 R0_3 C0_3 hk rfl).mono fun e W' ⟨he, bel⟩ => ?_
  subst he
  exact ⟨_, rfl, _, _, _, [], _, [], hW', trodAll_mk1 (shut_bool Try.underlying4 _), (trodAll_cons_mk (Below.trod laidOut (by kernel_rfl) (of_decide_eq_true (by kernel_rfl)) k0 bel lt0) (trodAll_cons_mk (Below.trod laidOut (by kernel_rfl) (of_decide_eq_true (by kernel_rfl)) k1 bel lt1) (trodAll_cons_mk (Below.trod laidOut (by kernel_rfl) (of_decide_eq_true (by kernel_rfl)) k2 bel lt2) trodAll_mk0))), rfl, bel.frame _, fun h => by cases h⟩
theorem over : Rows.fnExactPlnLayRow.holds Try.pinned (OpenSpec.ofChange Rows.fnExactPlnLaySpec) :=
  OpenClaim.holds_of_wide 6 Try.f6 rfl rfl rfl rfl rfl rfl rfl ⟨rfl, rfl, rfl, rfl, rfl⟩ rfl rfl rfl rfl rfl (by kernel_rfl) Try.func6 (by kernel_rfl)
    (of_decide_eq_true (by kernel_rfl)) (by unfold Func.isWrapper; first | (rw [if_pos (by decide +kernel)]; kernel_rfl) | (rw [if_neg (by decide +kernel)]; exact ⟨rfl, rfl⟩))
    (fun os started H enc _ => lifted os started H enc)
theorem proved : Rows.FnExactPlnLaySaid := over
#print axioms proved
end Go.Proofs.Ytdpgomcdacmhkaa.fnExactPlnLay
namespace Go.Proofs.Ytdpgomcdacmhkaa
/-- The row, under a short name, for the claim. -/
theorem fnExactPlnLay_holds : Rows.FnExactPlnLaySaid := fnExactPlnLay.proved
end Go.Proofs.Ytdpgomcdacmhkaa
