/- Taking a place, by the reference. -/
import Derived.Test.YtiemacjmipiakaaNmZ
import Derived.Test.YtiemacjmipiakaaNmY
namespace Go.Proofs.Ytiemacjmipiakaa.Nm
open Go.RowKit Go.Proofs.Ytiemacjmipiakaa.Hw
set_option linter.unusedVariables false
set_option linter.unusedSimpArgs false
set_option maxHeartbeats 4000000 in
theorem take66n (B g : Nat) (pl xs : List Int) (f m : Nat) (lv : List Int) (lh : List Bool) (vv hh : Value) (d : Int) (w : World) (h : Nb B g pl xs f m lv lh vv hh w) (hm : m = 0) :
    Calls Try.prog 66 #[.pointer (some ⟨g, 0, none⟩), .int .i64 d] w fun e w' => e = .returned (.tuple #[.agg #[.int .i64 0, .int .i64 0, .int .i64 0], .bool false]) ∧ Below w.heap.size w w' := by
  have H := Lib.hid h
  have hz0 : (nc pl xs f m vv hh).toArray[8 + 21]? = some (.int .i64 0) := by have := h.ring 21 _ (rc_m xs f m h.hx); rw [this, hm]; rfl
  have HZ := Lib.hid hz0
  clear h hz0
  go_enter Try.func66, Try.ntmps66
  go_wp2_with fail
  obtain ⟨w0, hW, HB, k0, hz⟩ := bx1 w #[.int .i64 0, .int .i64 0, .int .i64 0] 73
  rw [hW]; clear hW
  ((with_reducible refine (pop78no g 8 _ 68 w0 (H.out.below HB.out).k HZ.out).mono ?_); rintro e w' ⟨rfl, rfl⟩)
  have r0 := k0.out.cell 0; have r1 := k0.out.cell 1; have r2 := k0.out.cell 2; have rf := k0.out.frozen
  simp at r0 r1 r2
  go_wp2_with fail
  refine bodyPost_ret (v := .tuple #[.agg #[.int .i64 0, .int .i64 0, .int .i64 0], .bool false]) (by simp [results, Try.results66, go_sem, r0, r1, r2]) rfl ?_
  refine ⟨rfl, Fr.below (S := fun k => k = w.heap.size) HB.out ?_ HB.out.size (fun k hk => by omega)⟩
  repeat (first | exact Fr.refl _ _ | refine Fr.trans ?_ (Fr.set (by exact rfl) _))
set_option maxHeartbeats 8000000 in
/-- A register takes the first free place, of a copy, by the reference. -/
theorem take65 (B C : Nat) (V : Sv) (sm r sv : List Int) (x : Int) (sh : List Bool) (d : Int) (w : World) (h : OwS B C w V ⟨sm, x :: r, sv, sh⟩) (hC : C ≤ w.heap.size) (hm : sm.length = 8) (hh : sh.length = 20) (hr : r.length ≤ 1048576) (h0 : 0 ≤ d) (h7 : d ≤ 7) (hp0 : 0 ≤ x) (hp1 : x ≤ 19) :
    Calls Try.prog 65 #[V.agg, .int .i64 d] w fun e w' => ∃ V' : Sv, e = .returned (.tuple #[V'.agg, .int .i64 x, .int .i64 (sm.getD d.toNat 0)]) ∧ Hid (RdS w' V' ⟨sm.set d.toNat x, r, sv, sh.set x.toNat false⟩) ∧ Hid (Fr (fun k => B ≤ k ∧ k < C ∨ w.heap.size ≤ k) w w') := by
  have H := Lib.hid h
  obtain ⟨y, hy⟩ : ∃ y, sm.getD d.toNat 0 = y := ⟨_, rfl⟩
  rw [hy]
  obtain ⟨A, c, A2, c2, A3, c3, A4, c4, rfl⟩ := h.rd.form
  dsimp only at h H
  obtain ⟨gm, capm, hg, hcm, _⟩ := h.m.form (by dsimp only; omega)
  simp only [Value.slice.injEq, true_and] at hg
  obtain ⟨rfl, rfl⟩ := hg
  obtain ⟨gf, capf, hg, hcf, _⟩ := h.f.form (by simp)
  simp only [Value.slice.injEq, true_and] at hg
  obtain ⟨rfl, rfl⟩ := hg
  obtain ⟨gh, caph, hg, hch, _⟩ := h.h.form (by dsimp only; omega)
  simp only [Value.slice.injEq, true_and] at hg
  obtain ⟨rfl, rfl⟩ := hg
  simp only [List.length_cons] at h H hcf ⊢
  dsimp only at hcm hch
  have hgm := h.rm gm (by simp [obk]; omega)
  have hgf := h.rf gf (by simp [obk]; omega)
  have hgh := h.rh gh (by simp [obk]; omega)
  have obm : Hid (∀ k, obk (.slice (some ⟨gm, 0, none⟩) sm.length c) = some k → k = gm) := Lib.hid (fun k hk => by have := (obk_eq hk).1; exact this.symm)
  have obf : Hid (∀ k, obk (.slice (some ⟨gf, 0, none⟩) (r.length + 1) c2) = some k → k = gf) := Lib.hid (fun k hk => by have := (obk_eq hk).1; exact this.symm)
  have obh : Hid (∀ k, obk (.slice (some ⟨gh, 0, none⟩) sh.length c4) = some k → k = gh) := Lib.hid (fun k hk => by have := (obk_eq hk).1; exact this.symm)
  have nmh : gm ≠ gh := fun e => h.m.types h.h (by decide) gm (by simp [obk]; omega) (by rw [e]; simp [obk]; omega)
  have nhm : gh ≠ gm := fun e => nmh e.symm
  have nw1 : gm ≠ w.heap.size := by omega
  have nw2 : gh ≠ w.heap.size := by omega
  have R3 := Lib.hid h.rv
  have P2 := Lib.hid h.mv
  have P4 := Lib.hid (fun k (h1 : obk _ = some k) (h2 : obk _ = some k) => h.v.types h.h (by decide) k h1 h2)
  obtain ⟨w0, hW, HB, k0, k1, hz⟩ := bx2 w #[.slice (some ⟨gm, 0, none⟩) sm.length c, .slice (some ⟨gf, 0, none⟩) (r.length + 1) c2, .slice A3 sv.length c3, .slice (some ⟨gh, 0, none⟩) sh.length c4] 25 #[.slice none 0 0, .slice none 0 0, .slice none 0 0, .slice none 0 0] 25
  have HO := Lib.hid (h.below HB.out)
  have b0 := k0.out.cell 0; have b1 := k0.out.cell 1
  have cf0 : w0.cell? ⟨gf, 0, none⟩ = some (.int .i64 x) := by
    obtain ⟨ad, cc, e, hcell⟩ := Rd.at_ HO.out.f.rd 0 (by simp)
    simp only [Value.slice.injEq, Option.some.injEq, List.length_cons] at e
    rw [← e.1, add0] at hcell
    exact hcell
  have cm0 : w0.cell? ⟨gm, d.toNat, none⟩ = some (.int .i64 y) := by
    obtain ⟨ad, cc, e, hcell⟩ := Rd.at_ HO.out.m.rd d.toNat (by dsimp only; omega)
    simp only [Value.slice.injEq, Option.some.injEq] at e
    rw [← e.1, add0, getD_of sm d.toNat 0 (by omega), hy] at hcell
    exact hcell
  obtain ⟨w1, hW1, hb1, ke, hz1⟩ := bx1 w0 #[] 3
  have p1 := (k0.out.below hb1.out).cell 1
  have HE : Hid (Ow (Value.int .i64) 3 w1 (.slice (some ⟨w0.heap.size, 0, none⟩) 0 0) []) := Lib.hid (by rw [← hW1]; exact ow_empty _ _ _)
  have hcell : Hid (∀ (ac : Addr) (q : Nat), (c2 = 1 ∧ ac = ⟨gf, 0, none⟩ ∨ c2 ≠ 1 ∧ ac = ⟨gf, 1, none⟩) → Rd (Value.int .i64) w1 (.slice (some ac) r.length (c2 - 1)) r) := Lib.hid (fun ac q hac => by
    refine ⟨some ac, c2 - 1, rfl, by omega, by omega, fun hr0 => ⟨ac, rfl, fun j z hj => ?_⟩⟩
    rcases hac with ⟨e, _⟩ | ⟨_, rfl⟩
    · omega
    · obtain ⟨ad, cc, e, hc⟩ := Rd.at_ (HO.out.f.rd.below hb1.out) (j + 1) (by have := (List.getElem?_eq_some_iff.1 hj).1; simp; omega)
      simp only [Value.slice.injEq, Option.some.injEq, List.length_cons] at e
      rw [← e.1, add0, List.getElem_cons_succ] at hc
      have e2 : r[j]'((List.getElem?_eq_some_iff.1 hj).1) = z := (List.getElem?_eq_some_iff.1 hj).2
      rw [e2] at hc
      have e3 : (⟨gf, 1, none⟩ : Addr).add j = ⟨gf, j + 1, none⟩ := by
        unfold Addr.add
        simp [Nat.add_comm]
      rw [e3]
      exact hc)
  have bd0 : decide (d < (sm.length : Int)) = true := decide_eq_true (by omega)
  have bd1 : d < (sm.length : Int) := by omega
  have bx0 : x < (sh.length : Int) := by omega
  have bx1 : decide (x < (sh.length : Int)) = true := decide_eq_true bx0
  have HHm := Lib.hid hm; have HHh := Lib.hid hh
  simp at b0 b1 p1
  clear h hm hh hy
  by_cases hc1 : c2 = 1
  · subst hc1
    obtain rfl : r = [] := List.length_eq_zero_iff.1 (by omega)
    have HR := Lib.hid (hcell.out ⟨gf, 0, none⟩ 0 (.inl ⟨rfl, rfl⟩))
    clear hcell
    simp only [List.length_nil, Nat.zero_add, Nat.sub_self] at *
    go_enter Try.func65, Try.ntmps65
    go_wp2_with (at_builtin; (with_reducible refine wl_append (enc := Value.int .i64) w1 rfl (.tmp 18) (.tmp 21) 22 3 rfl (.int .i64 0) 8 Try.underlying22 info3 rfl (by decide) (fun _ => rfl) (.slice (some ⟨w0.heap.size, 0, none⟩) 0 0) (.slice (some ⟨gf, 0, none⟩) 0 0) [] [] rfl rfl ?_ ?_ ?_ ?_))
    · exact HE.out
    · exact HR.out
    · simp
    · intro A' c' w2 hO hF hat
      have hF2 := hF.out.mono (S' := fun _ => False) (fun k hk => by simp [obk] at hk)
      have kw := (k0.out.below hb1.out).fr hF2 id
      have qf := kw.frozen 1
      have q1 := kw.cell 1
      obtain ⟨w3, hW3, hf3, k3, hz3⟩ := st1 kw 1 (.slice A' 0 c')
      simp only [List.setIfInBounds_toArray, List.set_cons_succ, List.set_cons_zero] at k3
      have hz0 := hz.out
      have hob : Hid (∀ k, obk (.slice A' 0 c') = some k → w.heap.size + 2 ≤ k) := Lib.hid (fun k hk => by
        rcases hat.out with h | h <;> rw [h] at hk
        · simp [obk] at hk
        · injection hk with hk; have := hb1.out.size; omega)
      have om3 := ((HO.out.m.below hb1.out).fr hF2 (fun _ _ => id)).fr hf3.out (fun k hk hk' => by have := obm.out k hk; omega)
      have ov3 := ((HO.out.v.below hb1.out).fr hF2 (fun _ _ => id)).fr hf3.out (fun k hk hk' => by have := R3.out k hk; omega)
      have oh3 := ((HO.out.h.below hb1.out).fr hF2 (fun _ _ => id)).fr hf3.out (fun k hk hk' => by have := obh.out k hk; omega)
      have oA3 := Lib.hid (hO.out.fr hf3.out (fun k hk hk' => by have := hob.out k (by simpa using hk); omega))
      obtain ⟨gm', capm', hg', _, hfm⟩ := om3.form (by have := HHm.out; dsimp only; omega)
      simp only [Value.slice.injEq, Option.some.injEq, Addr.mk.injEq, true_and, and_true] at hg'
      obtain ⟨rfl, rfl⟩ := hg'
      obtain ⟨hu, fm, hsm, hfrm⟩ := hfm d.toNat x
      obtain ⟨u, hu⟩ := hu (by have := HHm.out; dsimp only; omega)
      obtain ⟨w4, hW4⟩ : ∃ w4, w3.setCell ⟨gm, d.toNat, none⟩ (.int .i64 x) = w4 := ⟨_, rfl⟩
      rw [hW4] at hsm hfrm
      have hfrm' := hfrm.mono (S' := fun k => k = gm) (fun k hk => obm.out k hk)
      have oh4 := oh3.fr hfrm' (fun k hk hk' => by have := obh.out k hk; omega)
      obtain ⟨gh', caph', hg', _, hfh⟩ := oh4.form (by have := HHh.out; dsimp only; omega)
      simp only [Value.slice.injEq, Option.some.injEq, Addr.mk.injEq, true_and, and_true] at hg'
      obtain ⟨rfl, rfl⟩ := hg'
      obtain ⟨hv, fh, hsh, hfrh⟩ := hfh x.toNat false
      obtain ⟨v, hv⟩ := hv (by have := HHh.out; dsimp only; omega)
      obtain ⟨w5, hW5⟩ : ∃ w5, w4.setCell ⟨gh, x.toNat, none⟩ (.bool false) = w5 := ⟨_, rfl⟩
      rw [hW5] at hsh hfrh
      have hfrh' := hfrh.mono (S' := fun k => k = gh) (fun k hk => obh.out k hk)
      have om5 := Lib.hid (hsm.fr hfrh' (fun k hk hk' => by have := obm.out k hk; omega))
      have oh5 := Lib.hid hsh
      have ov5 := Lib.hid ((ov3.fr hfrm (fun k hk hk' => P2.out k hk' hk)).fr hfrh (fun k hk hk' => P4.out k hk hk'))
      have oA5 := Lib.hid ((oA3.out.fr hfrm' (fun k hk hk' => by have := hob.out k (by simpa using hk); omega)).fr hfrh' (fun k hk hk' => by have := hob.out k (by simpa using hk); omega))
      have q3 := k3.out.cell 0
      have k4 := k3.out.fr hfrm' (by omega)
      have q4 := k4.cell 3
      have k5 := k4.fr hfrh' (by omega)
      have e0 := k5.cell 0; have e1 := k5.cell 1; have e2 := k5.cell 2; have e3 := k5.cell 3
      replace k1 := Lib.hid ((((((k1.out.below hb1.out).fr hF2 id).fr hf3.out (by omega)).fr hfrm' (by omega))).fr hfrh' (by omega))
      obtain ⟨g0, g1, g2, g3⟩ := box4 k1.out
      have y0 := k1.out.frozen
      have FF : Hid (Fr (fun k => B ≤ k ∧ k < C ∨ w.heap.size ≤ k) w w5) := Lib.hid ((((((Fr.of_below HB.out).trans (Fr.of_below hb1.out)).trans (hF2.mono (fun _ => False.elim))).trans (hf3.out.mono (fun k hk => by omega))).trans (hfrm'.mono (fun k hk => by omega))).trans (hfrh'.mono (fun k hk => by omega)))
      simp at q1 q3 q4 e0 e1 e2 e3
      clear hfm hfh hsm hsh hfrm hfrh hfrm' hfrh' om3 ov3 oh3 oh4 oA3 kw k3 k4 k5 hz0 hF2 hf3 hO hF hat HE HR
      go_wp2_with fail
      refine bodyPost_ret (v := .tuple #[.agg #[.slice (some ⟨gm, 0, none⟩) sm.length c, .slice A' 0 c', .slice A3 sv.length c3, .slice (some ⟨gh, 0, none⟩) sh.length c4], .int .i64 x, .int .i64 y]) (by simp [results, Try.results65, go_sem, g0, g1, g2, g3]) rfl ?_
      have hFF : ∀ wf, Fr (fun k => k = w.heap.size + 1) w5 wf → ∃ V' : Sv, Ending.returned (.tuple #[.agg #[.slice (some ⟨gm, 0, none⟩) sm.length c, .slice A' 0 c', .slice A3 sv.length c3, .slice (some ⟨gh, 0, none⟩) sh.length c4], .int .i64 x, .int .i64 y]) = .returned (.tuple #[V'.agg, .int .i64 x, .int .i64 y]) ∧ Hid (RdS wf V' ⟨sm.set d.toNat x, [], sv, sh.set x.toNat false⟩) ∧ Hid (Fr (fun k => B ≤ k ∧ k < C ∨ w.heap.size ≤ k) w wf) := fun wf hf =>
        ⟨⟨.slice (some ⟨gm, 0, none⟩) sm.length c, .slice A' 0 c', .slice A3 sv.length c3, .slice (some ⟨gh, 0, none⟩) sh.length c4⟩, rfl,
          ⟨(om5.out.fr hf (fun k hk => by have := obm.out k hk; omega)).rd, by simpa using (oA5.out.fr hf (fun k hk => by have := hob.out k (by simpa using hk); omega)).rd, (ov5.out.fr hf (fun k hk => by have := R3.out k hk; omega)).rd, (oh5.out.fr hf (fun k hk => by have := obh.out k hk; omega)).rd⟩,
          FF.out.trans (hf.mono (fun k hk => by omega))⟩
      refine hFF _ ?_
      repeat (first | exact Fr.refl _ _ | refine Fr.trans ?_ (Fr.set (by exact rfl) _))
  · have HR := Lib.hid (hcell.out ⟨gf, 1, none⟩ 0 (.inr ⟨hc1, rfl⟩))
    clear hcell

    go_enter Try.func65, Try.ntmps65
    go_wp2_with (at_builtin; (with_reducible refine wl_append (enc := Value.int .i64) w1 rfl (.tmp 18) (.tmp 21) 22 3 rfl (.int .i64 0) 8 Try.underlying22 info3 rfl (by decide) (fun _ => rfl) (.slice (some ⟨w0.heap.size, 0, none⟩) 0 0) (.slice (some ⟨gf, 1, none⟩) r.length (c2 - 1)) [] r rfl rfl ?_ ?_ ?_ ?_))
    · exact HE.out
    · exact HR.out
    · omega
    · intro A' c' w2 hO hF hat
      have hF2 := hF.out.mono (S' := fun _ => False) (fun k hk => by simp [obk] at hk)
      have kw := (k0.out.below hb1.out).fr hF2 id
      have qf := kw.frozen 1
      have q1 := kw.cell 1
      obtain ⟨w3, hW3, hf3, k3, hz3⟩ := st1 kw 1 (.slice A' r.length c')
      simp only [List.setIfInBounds_toArray, List.set_cons_succ, List.set_cons_zero] at k3
      have hz0 := hz.out
      have hob : Hid (∀ k, obk (.slice A' r.length c') = some k → w.heap.size + 2 ≤ k) := Lib.hid (fun k hk => by
        rcases hat.out with h | h <;> rw [h] at hk
        · simp [obk] at hk
        · injection hk with hk; have := hb1.out.size; omega)
      have om3 := ((HO.out.m.below hb1.out).fr hF2 (fun _ _ => id)).fr hf3.out (fun k hk hk' => by have := obm.out k hk; omega)
      have ov3 := ((HO.out.v.below hb1.out).fr hF2 (fun _ _ => id)).fr hf3.out (fun k hk hk' => by have := R3.out k hk; omega)
      have oh3 := ((HO.out.h.below hb1.out).fr hF2 (fun _ _ => id)).fr hf3.out (fun k hk hk' => by have := obh.out k hk; omega)
      have oA3 := Lib.hid (hO.out.fr hf3.out (fun k hk hk' => by have := hob.out k (by simpa using hk); omega))
      obtain ⟨gm', capm', hg', _, hfm⟩ := om3.form (by have := HHm.out; dsimp only; omega)
      simp only [Value.slice.injEq, Option.some.injEq, Addr.mk.injEq, true_and, and_true] at hg'
      obtain ⟨rfl, rfl⟩ := hg'
      obtain ⟨hu, fm, hsm, hfrm⟩ := hfm d.toNat x
      obtain ⟨u, hu⟩ := hu (by have := HHm.out; dsimp only; omega)
      obtain ⟨w4, hW4⟩ : ∃ w4, w3.setCell ⟨gm, d.toNat, none⟩ (.int .i64 x) = w4 := ⟨_, rfl⟩
      rw [hW4] at hsm hfrm
      have hfrm' := hfrm.mono (S' := fun k => k = gm) (fun k hk => obm.out k hk)
      have oh4 := oh3.fr hfrm' (fun k hk hk' => by have := obh.out k hk; omega)
      obtain ⟨gh', caph', hg', _, hfh⟩ := oh4.form (by have := HHh.out; dsimp only; omega)
      simp only [Value.slice.injEq, Option.some.injEq, Addr.mk.injEq, true_and, and_true] at hg'
      obtain ⟨rfl, rfl⟩ := hg'
      obtain ⟨hv, fh, hsh, hfrh⟩ := hfh x.toNat false
      obtain ⟨v, hv⟩ := hv (by have := HHh.out; dsimp only; omega)
      obtain ⟨w5, hW5⟩ : ∃ w5, w4.setCell ⟨gh, x.toNat, none⟩ (.bool false) = w5 := ⟨_, rfl⟩
      rw [hW5] at hsh hfrh
      have hfrh' := hfrh.mono (S' := fun k => k = gh) (fun k hk => obh.out k hk)
      have om5 := Lib.hid (hsm.fr hfrh' (fun k hk hk' => by have := obm.out k hk; omega))
      have oh5 := Lib.hid hsh
      have ov5 := Lib.hid ((ov3.fr hfrm (fun k hk hk' => P2.out k hk' hk)).fr hfrh (fun k hk hk' => P4.out k hk hk'))
      have oA5 := Lib.hid ((oA3.out.fr hfrm' (fun k hk hk' => by have := hob.out k (by simpa using hk); omega)).fr hfrh' (fun k hk hk' => by have := hob.out k (by simpa using hk); omega))
      have q3 := k3.out.cell 0
      have k4 := k3.out.fr hfrm' (by omega)
      have q4 := k4.cell 3
      have k5 := k4.fr hfrh' (by omega)
      have e0 := k5.cell 0; have e1 := k5.cell 1; have e2 := k5.cell 2; have e3 := k5.cell 3
      replace k1 := Lib.hid ((((((k1.out.below hb1.out).fr hF2 id).fr hf3.out (by omega)).fr hfrm' (by omega))).fr hfrh' (by omega))
      obtain ⟨g0, g1, g2, g3⟩ := box4 k1.out
      have y0 := k1.out.frozen
      have FF : Hid (Fr (fun k => B ≤ k ∧ k < C ∨ w.heap.size ≤ k) w w5) := Lib.hid ((((((Fr.of_below HB.out).trans (Fr.of_below hb1.out)).trans (hF2.mono (fun _ => False.elim))).trans (hf3.out.mono (fun k hk => by omega))).trans (hfrm'.mono (fun k hk => by omega))).trans (hfrh'.mono (fun k hk => by omega)))
      simp at q1 q3 q4 e0 e1 e2 e3
      clear hfm hfh hsm hsh hfrm hfrh hfrm' hfrh' om3 ov3 oh3 oh4 oA3 kw k3 k4 k5 hz0 hF2 hf3 hO hF hat HE HR
      go_wp2_with fail
      refine bodyPost_ret (v := .tuple #[.agg #[.slice (some ⟨gm, 0, none⟩) sm.length c, .slice A' r.length c', .slice A3 sv.length c3, .slice (some ⟨gh, 0, none⟩) sh.length c4], .int .i64 x, .int .i64 y]) (by simp [results, Try.results65, go_sem, g0, g1, g2, g3]) rfl ?_
      have hFF : ∀ wf, Fr (fun k => k = w.heap.size + 1) w5 wf → ∃ V' : Sv, Ending.returned (.tuple #[.agg #[.slice (some ⟨gm, 0, none⟩) sm.length c, .slice A' r.length c', .slice A3 sv.length c3, .slice (some ⟨gh, 0, none⟩) sh.length c4], .int .i64 x, .int .i64 y]) = .returned (.tuple #[V'.agg, .int .i64 x, .int .i64 y]) ∧ Hid (RdS wf V' ⟨sm.set d.toNat x, r, sv, sh.set x.toNat false⟩) ∧ Hid (Fr (fun k => B ≤ k ∧ k < C ∨ w.heap.size ≤ k) w wf) := fun wf hf =>
        ⟨⟨.slice (some ⟨gm, 0, none⟩) sm.length c, .slice A' r.length c', .slice A3 sv.length c3, .slice (some ⟨gh, 0, none⟩) sh.length c4⟩, rfl,
          ⟨(om5.out.fr hf (fun k hk => by have := obm.out k hk; omega)).rd, by simpa using (oA5.out.fr hf (fun k hk => by have := hob.out k (by simpa using hk); omega)).rd, (ov5.out.fr hf (fun k hk => by have := R3.out k hk; omega)).rd, (oh5.out.fr hf (fun k hk => by have := obh.out k hk; omega)).rd⟩,
          FF.out.trans (hf.mono (fun k hk => by omega))⟩
      refine hFF _ ?_
      repeat (first | exact Fr.refl _ _ | refine Fr.trans ?_ (Fr.set (by exact rfl) _))
end Go.Proofs.Ytiemacjmipiakaa.Nm
