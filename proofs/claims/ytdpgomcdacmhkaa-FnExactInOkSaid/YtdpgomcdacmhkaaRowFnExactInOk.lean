/- The law FnExactInOk: for every input the call returns true and each argument reads afterwards as it read before. There are no further conditions. -/
import Derived.Test.YtdpgomcdacmhkaaRows
import Derived.Test.YtdpgomcdacmhkaaPFnExactInOkx2
import Derived.Test.YtdpgomcdacmhkaaPureFnExactInOk
import Derived.WalkKit
import Derived.ProofKit
import Derived.OpenShut
import Derived.ShutString
import Derived.ChangeOld
import Derived.Below
import Derived.SizedLaws
import Derived.Test.YtdpgomcdacmhkaaOpen
namespace Go.Proofs.Ytdpgomcdacmhkaa.fnExactInOk
open Go.ChangeShapes Go.WideShapes Go.ChangeAt Go.RowKit
open Go.ChangeMaps (open_string shut_string)
set_option linter.unusedVariables false
theorem own : ownKnob Try.prog.godebug = none := by kernel_rfl
theorem laidOut : laidOutB Try.prog = true := by kernel_rfl
set_option maxRecDepth 100000 in
theorem lifted (os : Os) (started : os.Started) (H : Type) (enc : TypeId × Value → H) :
    ReturnsInHanded {} Try.checked os 9 .any (Rows.fnExactInOkSpec.pre6 enc Try.prog Try.f9 Rows.fnExactInOkRow.domain false) (Rows.fnExactInOkSpec.post enc Try.prog Try.f9 false true false false) := by
  refine returnsInHanded_of_change_sized (C := Try.checked) own started (by kernel_rfl) Try.func9
    (ChangeSpec.witness6 (enc := enc) (C := Try.checked) false ⟨#[], #[.agg #[.bool false, .bool false, .int .i64 0, .int .i64 0, .slice none 0 0]], []⟩ 8 (by kernel_rfl) (by kernel_rfl) (by kernel_rfl) (by kernel_rfl)) ?_
  intro W base args ds gs before hval0 hW hcnd hsz0 _
  have hval : ∀ (j : Nat) t v, Try.f9.params[j]? = some t → args[j]? = some v → Value.okWide Try.prog W .any base t v := hval0
  have hW' := hW
  obtain ⟨p, q, hA0, hV, rfl, hfz, hnd⟩ := hW
  have hA : DataW.TrodAll enc Try.prog W 0 (fun _ => true) true Try.f9.params.toList args.toList ds p := hA0
  rw [Try.params9] at hA hval
  obtain ⟨v0, vs0, d0, ds0, p0, q0, hargs, rfl, rfl, h0, r0⟩ := trodAll_cons hA
  obtain ⟨rfl, rfl, rfl⟩ := trodAll_nil r0
  obtain rfl : args = #[v0] := by cases args; simp_all
  obtain ⟨rfl, rfl⟩ := trodVars_none hV
  have k0 := h0
  have lt0 : ∀ x ∈ p0, x.block < W.heap.size := by obtain ⟨m, hm⟩ := k0; exact DataW.trod_lt m _ _ _ hm
  obtain ⟨c0_0, c0_1, c0_2, c0_3, c0_4, y0_0, y0_1, y0_2, y0_3, y0_4, n0, rfl, hd0, hp0, g0_0, g0_1, g0_2, g0_3, g0_4⟩ := Open.open_agg5 Try.underlying51 (by kernel_rfl) (by kernel_rfl) (hval 0 51 v0 rfl rfl) h0
  obtain ⟨a0_0, e0_0, y0_0e⟩ := DataW.trod_bool Try.underlying4 g0_0
  obtain rfl : c0_0 = .bool a0_0 := by simpa using e0_0
  obtain ⟨a0_1, e0_1, y0_1e⟩ := DataW.trod_bool Try.underlying4 g0_1
  obtain rfl : c0_1 = .bool a0_1 := by simpa using e0_1
  obtain ⟨a0_2, e0_2, y0_2e, w0_2⟩ := DataW.trod_int Try.underlying3 g0_2
  obtain rfl : c0_2 = .int .i64 a0_2 := by simpa using e0_2
  obtain ⟨a0_3, e0_3, y0_3e, w0_3⟩ := DataW.trod_int Try.underlying3 g0_3
  obtain rfl : c0_3 = .int .i64 a0_3 := by simpa using e0_3
  obtain ⟨A0_4, n0_4, l0_4, rfl, R0_4, C0_4, M0_4, W0_4⟩ := Open.ints_field Try.underlying23 Try.underlying3 (by kernel_rfl) g0_4
  clear hA0 hval0 hsz0
  obtain ⟨kk, hk⟩ := Pure.FnExactInOk a0_0 a0_1 a0_2 a0_3 l0_4 w0_2 w0_3 M0_4 W0_4
  refine (PFnExactInOk.laws_FnExactInOk.calls kk a0_0 a0_1 a0_2 a0_3 A0_4 n0_4 l0_4 true W R0_4 C0_4 hk).mono fun e W' ⟨he, bel⟩ => ?_
  subst he
  exact ⟨_, rfl, _, _, _, [], _, [], hW', trodAll_mk1 (shut_bool Try.underlying4 _), (trodAll_cons_mk (Below.trod laidOut (by kernel_rfl) (of_decide_eq_true (by kernel_rfl)) k0 bel lt0) trodAll_mk0), rfl, bel.frame _, fun h => by cases h⟩
theorem over : Rows.fnExactInOkRow.holds Try.pinned (OpenSpec.ofChange Rows.fnExactInOkSpec) :=
  OpenClaim.holds_of_wide 9 Try.f9 rfl rfl rfl rfl rfl rfl rfl ⟨rfl, rfl, rfl, rfl, rfl⟩ rfl rfl rfl rfl rfl (by kernel_rfl) Try.func9 (by kernel_rfl)
    (of_decide_eq_true (by kernel_rfl)) (by unfold Func.isWrapper; first | (rw [if_pos (by decide +kernel)]; kernel_rfl) | (rw [if_neg (by decide +kernel)]; exact ⟨rfl, rfl⟩))
    (fun os started H enc _ => lifted os started H enc)
theorem proved : Rows.FnExactInOkSaid := over
#print axioms proved
end Go.Proofs.Ytdpgomcdacmhkaa.fnExactInOk
namespace Go.Proofs.Ytdpgomcdacmhkaa
/-- The row, under a short name, for the claim. -/
theorem fnExactInOk_holds : Rows.FnExactInOkSaid := fnExactInOk.proved
end Go.Proofs.Ytdpgomcdacmhkaa
