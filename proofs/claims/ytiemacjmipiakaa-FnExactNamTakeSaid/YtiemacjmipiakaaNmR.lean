/- slices.Clone. -/
import Derived.Test.YtiemacjmipiakaaNmQ
import Derived.Lib.SliceRun
namespace Go.Proofs.Ytiemacjmipiakaa.Nm
open Go.RowKit Go.Proofs.Ytiemacjmipiakaa.Hw
set_option linter.unusedVariables false
set_option linter.unusedSimpArgs false
set_option maxHeartbeats 4000000 in
/-- slices.Clone. -/
theorem clone75 (v : Value) (l : List Int) (w : World) (h : Rd (Value.int .i64) w v l) (hl : l.length ≤ 1048576) : Calls Try.prog 75 #[v] w (NewO (Value.int .i64) 3 w l) := by
  have H := Lib.hid h
  obtain ⟨A, c, rfl, hc, hm, hr⟩ := h
  have hnil : A = none → l = [] := fun e => by
    subst e
    by_cases h0 : 0 < l.length
    · obtain ⟨ad, he, _⟩ := hr h0
      cases he
    · exact List.length_eq_zero_iff.mp (by omega)
  have he := Go.Lib.run_eql_slice_nil (P := Try.prog) w 22 3 A l.length c 0 0 Try.underlying22
  clear hc hm hr
  go_enter Try.func75, Try.ntmps75
  cases A with
  | none =>
    obtain rfl := hnil rfl
    simp only [Option.isNone_none, List.length_nil] at he
    go_wp2
    refine bodyPost_ret (results_tmp rfl _ _ _) rfl ?_
    exact ⟨none, 0, rfl, Lib.hid (Ow.nil 3 w), Lib.hid (Rg.nil _ _), Lib.hid (bl_refl w)⟩
  | some A =>
    simp only [Option.isNone_some] at he
    have HE := Lib.hid (ow_empty (Value.int .i64) 3 w)
    have HB := Lib.hid (bl_alloc (bl_refl w) (.cells #[] 3))
    have H' := Lib.hid (H.out.below HB.out)
    go_wp2_with (at_builtin; (with_reducible refine wl_append (enc := (Value.int .i64)) _ rfl (.tmp 5) (.tmp 6) 22 3 rfl (.int .i64 0) 8 Try.underlying22 info3 rfl (by decide) (fun _ => rfl) (.slice (some ⟨w.heap.size, 0, none⟩) 0 0) (.slice (some A) l.length c) [] l rfl rfl ?_ ?_ ?_ ?_))
    · exact HE.out
    · exact H'.out
    · simp; omega
    intro A' c' w1 ho hf hat
    have HB' := Lib.hid (hf.out.below HB.out HB.out.size (fun q hq => by simp [obk] at hq))
    have hg : Hid (Rg w.heap.size w1.heap.size (.slice A' l.length c')) := Lib.hid (fun q hq => by
      have := ho.out.lt q hq
      rcases hat.out with h1 | h1 <;> rw [h1] at hq
      · simp [obk] at hq
      · injection hq with hq; have := HB.out.size; omega)
    clear hf hat HE H' HB he
    go_wp2
    exact bodyPost_ret (results_tmp rfl _ _ _) rfl ⟨A', c', rfl, ho, hg, HB'⟩
set_option maxHeartbeats 4000000 in
/-- slices.Clone. -/
theorem clone76 (v : Value) (l : List Bool) (w : World) (h : Rd Value.bool w v l) (hl : l.length ≤ 1048576) : Calls Try.prog 76 #[v] w (NewO Value.bool 4 w l) := by
  have H := Lib.hid h
  obtain ⟨A, c, rfl, hc, hm, hr⟩ := h
  have hnil : A = none → l = [] := fun e => by
    subst e
    by_cases h0 : 0 < l.length
    · obtain ⟨ad, he, _⟩ := hr h0
      cases he
    · exact List.length_eq_zero_iff.mp (by omega)
  have he := Go.Lib.run_eql_slice_nil (P := Try.prog) w 23 4 A l.length c 0 0 Try.underlying23
  clear hc hm hr
  go_enter Try.func76, Try.ntmps76
  cases A with
  | none =>
    obtain rfl := hnil rfl
    simp only [Option.isNone_none, List.length_nil] at he
    go_wp2
    refine bodyPost_ret (results_tmp rfl _ _ _) rfl ?_
    exact ⟨none, 0, rfl, Lib.hid (Ow.nil 4 w), Lib.hid (Rg.nil _ _), Lib.hid (bl_refl w)⟩
  | some A =>
    simp only [Option.isNone_some] at he
    have HE := Lib.hid (ow_empty Value.bool 4 w)
    have HB := Lib.hid (bl_alloc (bl_refl w) (.cells #[] 4))
    have H' := Lib.hid (H.out.below HB.out)
    go_wp2_with (at_builtin; (with_reducible refine wl_append (enc := Value.bool) _ rfl (.tmp 5) (.tmp 6) 23 4 rfl (.bool false) 1 Try.underlying23 info4 rfl (by decide) (fun _ => rfl) (.slice (some ⟨w.heap.size, 0, none⟩) 0 0) (.slice (some A) l.length c) [] l rfl rfl ?_ ?_ ?_ ?_))
    · exact HE.out
    · exact H'.out
    · simp; omega
    intro A' c' w1 ho hf hat
    have HB' := Lib.hid (hf.out.below HB.out HB.out.size (fun q hq => by simp [obk] at hq))
    have hg : Hid (Rg w.heap.size w1.heap.size (.slice A' l.length c')) := Lib.hid (fun q hq => by
      have := ho.out.lt q hq
      rcases hat.out with h1 | h1 <;> rw [h1] at hq
      · simp [obk] at hq
      · injection hq with hq; have := HB.out.size; omega)
    clear hf hat HE H' HB he
    go_wp2
    exact bodyPost_ret (results_tmp rfl _ _ _) rfl ⟨A', c', rfl, ho, hg, HB'⟩
end Go.Proofs.Ytiemacjmipiakaa.Nm
