/- Marking a renaming state, and holding it. -/
import Derived.Test.YtiemacjmipiakaaNmB
namespace Go.Proofs.Ytiemacjmipiakaa.Nm
open Go.RowKit Go.Proofs.Ytiemacjmipiakaa.Hw
set_option linter.unusedVariables false
set_option linter.unusedSimpArgs false
/-- What marking leaves in a state. -/
def markS (s : St) : St := ⟨mark41l 1 s.m.length, mark41l (1 + s.m.length) s.f.length, mark41l (1 + s.m.length + s.f.length) s.v.length, mark42l (1 + s.m.length + s.f.length + s.v.length) s.h.length⟩
theorem mark17 (B C : Nat) (V : Sv) (s : St) (w : World) (h : OwS B C w V s) (hC : C ≤ w.heap.size) (hl : s.m.length + s.f.length + s.v.length + s.h.length ≤ 1048576) :
    Calls Try.prog 17 #[V.agg, .int .i64 1] w fun e w' => e = .returned (.int .i64 (1 + s.m.length + s.f.length + s.v.length + s.h.length)) ∧ Hid (OwS B C w' V (markS s)) ∧ Hid (Fr (fun k => B ≤ k ∧ k < C) w w') := by
  have H := Lib.hid h
  obtain ⟨A, c, A2, c2, A3, c3, A4, c4, rfl⟩ := h.rd.form
  clear h
  have hh := H.out
  have mh := hh.m.types hh.h (by decide)
  have fh := hh.f.types hh.h (by decide)
  have vh := hh.v.types hh.h (by decide)
  have MH := Lib.hid (show Ap _ _ from mh)
  have FH := Lib.hid (show Ap _ _ from fh)
  have VH := Lib.hid (show Ap _ _ from vh)
  clear hh mh fh vh
  go_enter Try.func17, Try.ntmps17
  go_wp2_with fail
  obtain ⟨w0, hW, hb, k0, hz⟩ := bx1 w #[.slice A s.m.length c, .slice A2 s.f.length c2, .slice A3 s.v.length c3, .slice A4 s.h.length c4] 25
  rw [hW]; clear hW
  have HO := Lib.hid (H.out.below hb.out)
  have F0 := Lib.hid (Fr.of_below (S := fun k => B ≤ k ∧ k < C) hb.out)
  clear hb H
  ((with_reducible refine (mark41 _ s.m 1 _ HO.out.m (by omega) (by omega)).mono ?_); rintro e w1 ⟨rfl, o1, f1⟩)
  have om := Lib.hid o1; have F1 := Lib.hid (f1.mono (S' := fun k => B ≤ k ∧ k < C) (fun k hk => HO.out.rm k hk))
  have of_ := Lib.hid (HO.out.f.fr f1 (fun k hk hk' => HO.out.mf k hk' hk))
  have ov := Lib.hid (HO.out.v.fr f1 (fun k hk hk' => HO.out.mv k hk' hk))
  have oh := Lib.hid (HO.out.h.fr f1 (fun k hk hk' => MH.out k hk' hk))
  clear o1 f1
  replace k0 := Lib.hid (k0.out.fr F1.out (by omega))
  have e0 := k0.out.cell 1
  simp at e0
  go_wp2_with fail
  ((with_reducible refine (mark41 _ s.f (1 + s.m.length) _ of_.out (by omega) (by omega)).mono ?_); rintro e w2 ⟨rfl, o1, f1⟩)
  clear e0
  replace of_ := Lib.hid o1; have F2 := Lib.hid (f1.mono (S' := fun k => B ≤ k ∧ k < C) (fun k hk => HO.out.rf k hk))
  replace om := Lib.hid (om.out.fr f1 (fun k hk hk' => HO.out.mf k hk hk'))
  replace ov := Lib.hid (ov.out.fr f1 (fun k hk hk' => HO.out.fv k hk' hk))
  replace oh := Lib.hid (oh.out.fr f1 (fun k hk hk' => FH.out k hk' hk))
  clear o1 f1
  replace k0 := Lib.hid (k0.out.fr F2.out (by omega))
  have e0 := k0.out.cell 2
  simp at e0
  go_wp2_with fail
  ((with_reducible refine (mark41 _ s.v (1 + s.m.length + s.f.length) _ ov.out (by omega) (by omega)).mono ?_); rintro e w3 ⟨rfl, o1, f1⟩)
  clear e0
  replace ov := Lib.hid o1; have F3 := Lib.hid (f1.mono (S' := fun k => B ≤ k ∧ k < C) (fun k hk => HO.out.rv k hk))
  replace om := Lib.hid (om.out.fr f1 (fun k hk hk' => HO.out.mv k hk hk'))
  replace of_ := Lib.hid (of_.out.fr f1 (fun k hk hk' => HO.out.fv k hk hk'))
  replace oh := Lib.hid (oh.out.fr f1 (fun k hk hk' => VH.out k hk' hk))
  clear o1 f1
  replace k0 := Lib.hid (k0.out.fr F3.out (by omega))
  have e0 := k0.out.cell 3
  simp at e0
  go_wp2_with fail
  ((with_reducible refine (mark42 _ s.h (1 + s.m.length + s.f.length + s.v.length) _ oh.out (by omega) (by omega)).mono ?_); rintro e w4 ⟨rfl, o1, f1⟩)
  clear e0
  replace oh := Lib.hid o1; have F4 := Lib.hid (f1.mono (S' := fun k => B ≤ k ∧ k < C) (fun k hk => HO.out.rh k hk))
  replace om := Lib.hid (om.out.fr f1 (fun k hk hk' => MH.out k hk hk'))
  replace of_ := Lib.hid (of_.out.fr f1 (fun k hk hk' => FH.out k hk hk'))
  replace ov := Lib.hid (ov.out.fr f1 (fun k hk hk' => VH.out k hk hk'))
  clear o1 f1
  go_wp2_with fail
  go_ret
  exact ⟨rfl, ⟨om.out, of_.out, ov.out, oh.out, HO.out.rm, HO.out.rf, HO.out.rv, HO.out.rh, HO.out.mf, HO.out.mv, HO.out.fv⟩, (((F0.out.trans F1.out).trans F2.out).trans F3.out).trans F4.out⟩
theorem held18 (V : Sv) (s : St) (w : World) (h : RdS w V (markS s)) (hl : s.m.length + s.f.length + s.v.length + s.h.length ≤ 1048576) :
    Calls Try.prog 18 #[V.agg, .int .i64 1] w fun e w' => e = .returned (.int .i64 (1 + s.m.length + s.f.length + s.v.length + s.h.length)) ∧ Below w.heap.size w w' := by
  have H := Lib.hid h
  obtain ⟨A, c, A2, c2, A3, c3, A4, c4, rfl⟩ := h.form
  clear h
  have l1 : (markS s).m.length = s.m.length := mark41l_len _ _
  have l2 : (markS s).f.length = s.f.length := mark41l_len _ _
  have l3 : (markS s).v.length = s.v.length := mark41l_len _ _
  have l4 : (markS s).h.length = s.h.length := mark42l_len _ _
  rw [l1, l2, l3, l4] at H ⊢
  clear l1 l2 l3 l4
  go_enter Try.func18, Try.ntmps18
  go_wp2_with fail
  have hb := Lib.hid (bl_alloc (bl_refl w) (.cells #[.slice A s.m.length c, .slice A2 s.f.length c2, .slice A3 s.v.length c3, .slice A4 s.h.length c4] 25))
  ((with_reducible refine (held43 _ s.m.length 1 _ (H.out.m.below hb.out) (by omega) (by omega)).mono ?_); rintro e w' ⟨rfl, n, rfl⟩)
  go_wp2_with fail
  ((with_reducible refine (held43 _ s.f.length (1 + s.m.length) _ (H.out.f.below (by repeat (first | exact hb.out | refine bl_drewN ?_ _))) (by omega) (by omega)).mono ?_); rintro e w' ⟨rfl, n2, rfl⟩)
  go_wp2_with fail
  ((with_reducible refine (held43 _ s.v.length (1 + s.m.length + s.f.length) _ (H.out.v.below (by repeat (first | exact hb.out | refine bl_drewN ?_ _))) (by omega) (by omega)).mono ?_); rintro e w' ⟨rfl, n3, rfl⟩)
  go_wp2_with fail
  ((with_reducible refine (held44 _ s.h.length (1 + s.m.length + s.f.length + s.v.length) _ (H.out.h.below (by repeat (first | exact hb.out | refine bl_drewN ?_ _))) (by omega) (by omega)).mono ?_); rintro e w' ⟨rfl, n4, rfl⟩)
  go_wp2_with fail
  go_ret
  exact ⟨rfl, by repeat (first | exact hb.out | refine bl_drewN ?_ _)⟩
end Go.Proofs.Ytiemacjmipiakaa.Nm
