/- Giving a place back, by the reference. -/
import Derived.Test.YtiemacjmipiakaaNmU
namespace Go.Proofs.Ytiemacjmipiakaa.Nm
open Go.RowKit Go.Proofs.Ytiemacjmipiakaa.Hw
set_option linter.unusedVariables false
set_option linter.unusedSimpArgs false
set_option maxHeartbeats 4000000 in
/-- A register's old place is given back, of a copy. -/
theorem back62 (B C : Nat) (V : Sv) (s : St) (d now old : Int) (w : World) (h : OwS B C w V s) (hC : C ≤ w.heap.size) (hm : s.m.length = 8) (hf : s.f.length ≤ 1048576) (h0 : 0 ≤ d) (h7 : d ≤ 7) :
    Calls Try.prog 62 #[V.agg, .int .i64 d, .int .i64 now, .int .i64 old] w fun e w' => ∃ V' : Sv, e = .returned V'.agg ∧ Hid (RdS w' V' ⟨s.m.set d.toNat old, s.f ++ [now], s.v, s.h⟩) ∧ Hid (Fr (fun k => B ≤ k ∧ k < C ∨ w.heap.size ≤ k) w w') := by
  have H := Lib.hid h
  obtain ⟨A, c, A2, c2, A3, c3, A4, c4, rfl⟩ := h.rd.form
  obtain ⟨g, cap, hg, _, hfm⟩ := h.m.form (by omega)
  simp only [Value.slice.injEq, true_and] at hg
  obtain ⟨rfl, rfl⟩ := hg
  have hgB := h.rm g (by simp [obk]; omega)
  obtain ⟨w0, hW, HB, k0, k1, hz⟩ := bx2 w #[.slice (some ⟨g, 0, none⟩) s.m.length c, .slice A2 s.f.length c2, .slice A3 s.v.length c3, .slice A4 s.h.length c4] 25 #[.slice none 0 0, .slice none 0 0, .slice none 0 0, .slice none 0 0] 25
  have HO := Lib.hid (h.below HB.out)
  clear hfm
  obtain ⟨g', cap', hg', _, hfm⟩ := HO.out.m.form (by omega)
  simp only [Value.slice.injEq, Option.some.injEq, Addr.mk.injEq, true_and, and_true] at hg'
  obtain ⟨rfl, rfl⟩ := hg'
  obtain ⟨hu, hfr, hset, hfr2⟩ := hfm d.toNat old
  obtain ⟨u, hu⟩ := hu (by omega)
  obtain ⟨w1, hW1⟩ : ∃ w1, w0.setCell ⟨g, d.toNat, none⟩ (.int .i64 old) = w1 := ⟨_, rfl⟩
  rw [hW1] at hset hfr2
  have hfr3 := hfr2.mono (S' := fun k => k = g) (fun k hk => by have := (obk_eq hk).1; exact this.symm)
  have om := Lib.hid hset
  have of_ := Lib.hid (HO.out.f.fr hfr2 (fun k hk hk' => HO.out.mf k hk' hk))
  have ov := Lib.hid (HO.out.v.fr hfr2 (fun k hk hk' => HO.out.mv k hk' hk))
  have oh := Lib.hid (HO.out.h.fr hfr2 (fun k hk hk' => HO.out.m.types HO.out.h (by decide) k hk' hk))
  have b0 := k0.out.cell 0; have b1 := k0.out.cell 1
  replace k0 := Lib.hid (k0.out.fr hfr3 (by omega))
  replace k1 := Lib.hid (k1.out.fr hfr3 (by omega))
  have hs1 := hfr3.size
  have p1 := k0.out.cell 1
  have hz0 := hz.out
  obtain ⟨w2, hW2, hb2, kn, hz2⟩ := bx1 w1 #[.int .i64 now] 3
  replace om := Lib.hid (om.out.below hb2.out)
  replace of_ := Lib.hid (of_.out.below hb2.out)
  replace ov := Lib.hid (ov.out.below hb2.out)
  replace oh := Lib.hid (oh.out.below hb2.out)
  replace k0 := Lib.hid (k0.out.below hb2.out)
  replace k1 := Lib.hid (k1.out.below hb2.out)
  have q1 := k0.out.cell 1
  have F2 : Hid (Fr (fun k => B ≤ k ∧ k < C ∨ w.heap.size ≤ k) w w2) := Lib.hid (((Fr.of_below HB.out).trans (hfr3.mono (fun k hk => by omega))).trans (Fr.of_below hb2.out))
  have hb0 : decide (d < (8 : Int)) = true := decide_eq_true (by omega)
  have hb1 : decide (d < 0) = false := decide_eq_false (by omega)
  simp at b0 b1 p1 q1
  have n1 : g ≠ w.heap.size := by omega
  have n2 : w.heap.size ≠ g := by omega
  have R1 := Lib.hid h.rm; have R2 := Lib.hid h.rf; have R3 := Lib.hid h.rv; have R4 := Lib.hid h.rh
  have P1 := Lib.hid h.mf; have P3 := Lib.hid h.fv; have P4 := Lib.hid (fun k (h1 : obk _ = some k) (h2 : obk _ = some k) => h.f.types h.h (by decide) k h1 h2)
  clear hset hfr2 hfr3 hfm HB hb2 h
  simp only [hm] at *
  go_enter Try.func62, Try.ntmps62
  go_wp2_with (at_builtin; (with_reducible refine wl_append (enc := Value.int .i64) w2 rfl (.tmp 15) (.tmp 17) 22 3 rfl (.int .i64 0) 8 Try.underlying22 info3 rfl (by decide) (fun _ => rfl) (.slice A2 s.f.length c2) (.slice (some ⟨w1.heap.size, 0, none⟩) 1 1) s.f [now] rfl rfl ?_ ?_ ?_ ?_))
  · exact of_.out
  · exact rd_blk kn.out
  · simp; omega
  · intro A' c' w3 hO hF hat
    have hz3 := hz2.out
    have F3 : Hid (Fr (fun k => B ≤ k ∧ k < C ∨ w.heap.size ≤ k) w w3) := Lib.hid (F2.out.trans (hF.out.mono (fun k hk => .inl (R2.out k hk))))
    replace om := Lib.hid (om.out.fr hF.out (fun k hk hk' => P1.out k hk hk'))
    replace ov := Lib.hid (ov.out.fr hF.out (fun k hk hk' => P3.out k hk' hk))
    replace oh := Lib.hid (oh.out.fr hF.out (fun k hk hk' => P4.out k hk' hk))
    replace k0 := Lib.hid (k0.out.fr hF.out (fun hk => by have := R2.out _ hk; omega))
    replace k1 := Lib.hid (k1.out.fr hF.out (fun hk => by have := R2.out _ hk; omega))
    have q : Hid (∀ k, obk (.slice A' (s.f.length + 1) c') = some k → k ≠ w.heap.size ∧ k ≠ w.heap.size + 1) := Lib.hid (fun k hk => by
      rcases hat.out with h | h <;> rw [h] at hk
      · have := R2.out k hk; omega
      · injection hk with hk; omega)
    obtain ⟨e0, e1, e2, e3⟩ := box4 k0.out
    have x0 := k0.out.frozen
    obtain ⟨g0, g1, g2, g3⟩ := box4 k1.out
    have y0 := k1.out.frozen
    clear hF hat b0 b1 p1 q1 hu hfr hW hW1 hW2
    go_wp2_with fail
    refine bodyPost_ret (v := .agg #[.slice (some ⟨g, 0, none⟩) 8 c, .slice A' (s.f.length + 1) c', .slice A3 s.v.length c3, .slice A4 s.h.length c4]) (by simp [results, Try.results62, go_sem, g0, g1, g2, g3]) rfl ?_
    have hFF : ∀ wf, Fr (fun k => k = w.heap.size ∨ k = w.heap.size + 1) w3 wf → ∃ V' : Sv, Ending.returned (.agg #[.slice (some ⟨g, 0, none⟩) 8 c, .slice A' (s.f.length + 1) c', .slice A3 s.v.length c3, .slice A4 s.h.length c4]) = .returned V'.agg ∧ Hid (RdS wf V' ⟨s.m.set d.toNat old, s.f ++ [now], s.v, s.h⟩) ∧ Hid (Fr (fun k => B ≤ k ∧ k < C ∨ w.heap.size ≤ k) w wf) := fun wf hf =>
      ⟨⟨.slice (some ⟨g, 0, none⟩) 8 c, .slice A' (s.f.length + 1) c', .slice A3 s.v.length c3, .slice A4 s.h.length c4⟩, rfl,
        ⟨(om.out.fr hf (fun k hk => by have := R1.out k hk; omega)).rd, by simpa using (hO.out.fr hf (fun k hk => by have := q.out k (by simpa using hk); omega)).rd, (ov.out.fr hf (fun k hk => by have := R3.out k hk; omega)).rd, (oh.out.fr hf (fun k hk => by have := R4.out k hk; omega)).rd⟩,
        F3.out.trans (hf.mono (fun k hk => by omega))⟩
    refine hFF _ ?_
    repeat (first | exact Fr.refl _ _ | refine Fr.trans ?_ (Fr.set (by first | exact .inl rfl | exact .inr rfl) _))
end Go.Proofs.Ytiemacjmipiakaa.Nm
