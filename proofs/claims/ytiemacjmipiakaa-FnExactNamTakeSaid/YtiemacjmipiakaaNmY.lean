/- Giving a place back, by both. -/
import Derived.Test.YtiemacjmipiakaaNmV
import Derived.Test.YtiemacjmipiakaaNmX
import Derived.Test.YtiemacjmipiakaaNmJ
namespace Go.Proofs.Ytiemacjmipiakaa.Nm
open Go.RowKit Go.Proofs.Ytiemacjmipiakaa.Hw
set_option linter.unusedVariables false
set_option linter.unusedSimpArgs false
def BackC (s : St) (d now old : Int) : Prop := OkS s ∧ (1 ≤ d ∧ d ≤ 7) ∧ (0 ≤ old ∧ old ≤ 19) ∧ s.m.getD d.toNat 0 = now ∧ old ∉ s.m ∧ old ∉ s.f
set_option maxHeartbeats 8000000 in
theorem back27y (V : Sv) (s : St) (d now old : Int) (w : World) (h : RdS w V s) (hc : BackC s d now old) (hl : s.m.length + s.f.length + s.v.length + s.h.length ≤ 1048576) : Calls Try.prog 27 #[V.agg, .int .i64 d, .int .i64 now, .int .i64 old] w (NewS w ⟨s.m.set d.toNat old, s.f ++ [now], s.v, s.h⟩) := by
  have H := Lib.hid h
  obtain ⟨A, c, A2, c2, A3, c3, A4, c4, rfl⟩ := h.form
  have HL := Lib.hid hl
  clear hl
  obtain ⟨hok, hd, ho, he, hm, hf⟩ := hc
  have HK := Lib.hid hok; have HD := Lib.hid hd; have HO := Lib.hid ho; have HE := Lib.hid he; have HM := Lib.hid hm; have HF := Lib.hid hf
  clear h hok hd ho he hm hf
  obtain ⟨ad, cc, e0, x0⟩ := Rd.at_ H.out.m d.toNat (by have := HK.out.m; have := HD.out; omega)
  obtain ⟨rfl, rfl⟩ : A = some ad ∧ c = cc := by simpa using e0
  rw [getD_of s.m d.toNat 0 (by have := HK.out.m; have := HD.out; omega)] at x0
  have b1 : 0 ≤ d := by have := HD.out; omega
  have b2 : d < (s.m.length : Int) := by have := HD.out; have := HK.out.m; omega
  clear e0
  rw [HE.out] at x0
  go_enter Try.func27, Try.ntmps27
  go_wp2_with fail
  obtain ⟨w0, hW, HB, k0, k1, hz⟩ := bx2 w #[.slice (some ad) s.m.length c, .slice A2 s.f.length c2, .slice A3 s.v.length c3, .slice A4 s.h.length c4] 25 #[.slice none 0 0, .slice none 0 0, .slice none 0 0, .slice none 0 0] 25
  rw [hW]; clear hW
  ((with_reducible refine (ok20 ⟨_, _, _, _⟩ s _ (H.out.below HB.out) (by have := HL.out; omega) true (by simp [HK.out])).mono ?_); rintro e w1 ⟨rfl, hb⟩)
  replace HB := Lib.hid (bl_step HB.out hb)
  replace k0 := Lib.hid (k0.out.below hb)
  replace k1 := Lib.hid (k1.out.below hb)
  clear hb
  go_wp2_with fail
  ((with_reducible refine (in61 d 1 7 true (by simp; exact HD.out) _).mono ?_); rintro e w' ⟨rfl, rfl⟩)
  go_wp2_with fail
  ((with_reducible refine (phy54 old true (by simp; exact HO.out) _).mono ?_); rintro e w' ⟨rfl, rfl⟩)
  obtain ⟨e0, e1, e2, e3⟩ := box4 k0.out
  replace x0 := (HB.out.cell (World.block_lt_of_cell? w _ x0)).trans x0
  go_wp2_with fail
  ((with_reducible refine (has55 _ s.m old false (by simp [HM.out]) _ (H.out.m.below HB.out)).mono ?_); rintro e w' ⟨rfl, n, rfl⟩)
  go_wp2_with fail
  ((with_reducible refine (has55 _ s.f old false (by simp [HF.out]) _ (H.out.f.below (bl_drewN HB.out _))).mono ?_); rintro e w' ⟨rfl, n2, rfl⟩)
  replace HB := Lib.hid (bl_drewN (bl_drewN HB.out n) n2)
  replace k0 := Lib.hid ((k0.out.drewN n).drewN n2)
  replace k1 := Lib.hid ((k1.out.drewN n).drewN n2)
  generalize (w1.drewN n).drewN n2 = w2 at HB k0 k1 ⊢
  clear e0 e1 e2 e3 x0
  obtain ⟨e0, e1, e2, e3⟩ := box4 k0.out
  go_wp2_with fail
  clear e0 e1 e2 e3
  ((with_reducible refine (copy56 ⟨_, _, _, _⟩ s _ (H.out.below HB.out) HL.out).mono ?_); rintro e w3 ⟨X, rfl, ho, hb⟩)
  have hz2 := Lib.hid k1.out.lt
  replace HB := Lib.hid (bl_step HB.out hb.out)
  replace k1 := Lib.hid (k1.out.below hb.out)
  clear hb k0
  go_wp2_with fail
  ((with_reducible refine (back62 w2.heap.size w3.heap.size X s d now old _ ho.out (Nat.le_refl _) HK.out.m (by have := HK.out.fl; omega) b1 (by have := HD.out; omega)).mono ?_); rintro e w4 ⟨Y, rfl, hr, hf⟩)
  replace k1 := Lib.hid (k1.out.fr hf.out (fun hk => by have := hz2.out; have := k1.out.lt; omega))
  replace HB := Lib.hid (hf.out.below HB.out HB.out.size (fun k hk => by have := hz2.out; have := HB.out.size; omega))
  clear ho hf
  go_wp2_with fail
  ((with_reducible refine (copy56 Y ⟨s.m.set d.toNat old, s.f ++ [now], s.v, s.h⟩ _ hr.out (by have := HK.out.fl; have := HK.out.m; have := HK.out.v; have := HK.out.h; simp; omega)).mono ?_); rintro e w5 ⟨X, rfl, ho, hb⟩)
  obtain ⟨B, q, B2, q2, B3, q3, B4, q4, rfl⟩ := ho.out.rd.form
  have hlt := Lib.hid k1.out.lt
  replace HB := Lib.hid (bl_step HB.out hb.out)
  replace k1 := Lib.hid (k1.out.below hb.out)
  clear hb hr
  obtain ⟨g0, g1, g2, g3⟩ := box4 k1.out
  have y0 := k1.out.frozen
  go_wp2_with fail
  refine bodyPost_ret (v := .agg #[.slice B (s.m.set d.toNat old).length q, .slice B2 (s.f ++ [now]).length q2, .slice B3 s.v.length q3, .slice B4 s.h.length q4]) (by simp [results, Try.results27, go_sem, g0, g1, g2, g3]) rfl ?_
  have hlt' := hlt.out
  refine NewS.fin (n := w4.heap.size) ho.out HB.out (by omega) ?_
  repeat (first | exact Fr.refl _ _ | refine Fr.trans ?_ (Fr.set (by simp only []; omega) _))
set_option maxHeartbeats 8000000 in
theorem back27n (V : Sv) (s : St) (d now old : Int) (w : World) (h : RdS w V s) (hno : ¬ BackC s d now old) (hl : s.m.length + s.f.length + s.v.length + s.h.length ≤ 1048576) : Calls Try.prog 27 #[V.agg, .int .i64 d, .int .i64 now, .int .i64 old] w (NewS w ⟨[], [], [], []⟩) := by
  have H := Lib.hid h
  obtain ⟨A, c, A2, c2, A3, c3, A4, c4, rfl⟩ := h.form
  have HL := Lib.hid hl
  clear hl
  clear h
  by_cases hok : OkS s
  · have HK := Lib.hid hok
    by_cases hd : 1 ≤ d ∧ d ≤ 7
    · have HD := Lib.hid hd
      by_cases ho : 0 ≤ old ∧ old ≤ 19
      · have HO := Lib.hid ho
        by_cases he : s.m.getD d.toNat 0 = now
        · have HE := Lib.hid he
          by_cases hm : old ∈ s.m
          · have HM := Lib.hid hm
            clear hok hd ho he hm hno
            obtain ⟨ad, cc, e0, x0⟩ := Rd.at_ H.out.m d.toNat (by have := HK.out.m; have := HD.out; omega)
            obtain ⟨rfl, rfl⟩ : A = some ad ∧ c = cc := by simpa using e0
            rw [getD_of s.m d.toNat 0 (by have := HK.out.m; have := HD.out; omega)] at x0
            have b1 : 0 ≤ d := by have := HD.out; omega
            have b2 : d < (s.m.length : Int) := by have := HD.out; have := HK.out.m; omega
            clear e0
            rw [HE.out] at x0
            go_enter Try.func27, Try.ntmps27
            go_wp2_with fail
            obtain ⟨w0, hW, HB, k0, k1, hz⟩ := bx2 w #[.slice (some ad) s.m.length c, .slice A2 s.f.length c2, .slice A3 s.v.length c3, .slice A4 s.h.length c4] 25 #[.slice none 0 0, .slice none 0 0, .slice none 0 0, .slice none 0 0] 25
            rw [hW]; clear hW
            ((with_reducible refine (ok20 ⟨_, _, _, _⟩ s _ (H.out.below HB.out) (by have := HL.out; omega) true (by simp [HK.out])).mono ?_); rintro e w1 ⟨rfl, hb⟩)
            replace HB := Lib.hid (bl_step HB.out hb)
            replace k0 := Lib.hid (k0.out.below hb)
            replace k1 := Lib.hid (k1.out.below hb)
            clear hb
            go_wp2_with fail
            ((with_reducible refine (in61 d 1 7 true (by simp; exact HD.out) _).mono ?_); rintro e w' ⟨rfl, rfl⟩)
            go_wp2_with fail
            ((with_reducible refine (phy54 old true (by simp; exact HO.out) _).mono ?_); rintro e w' ⟨rfl, rfl⟩)
            obtain ⟨e0, e1, e2, e3⟩ := box4 k0.out
            replace x0 := (HB.out.cell (World.block_lt_of_cell? w _ x0)).trans x0
            go_wp2_with fail
            ((with_reducible refine (has55 _ s.m old true (by simp [HM.out]) _ (H.out.m.below HB.out)).mono ?_); rintro e w' ⟨rfl, n, rfl⟩)
            replace HB := Lib.hid (bl_drewN HB.out n)
            replace k0 := Lib.hid (k0.out.drewN n)
            replace k1 := Lib.hid (k1.out.drewN n)
            generalize w1.drewN n = w2 at HB k0 k1 ⊢
            clear e0 e1 e2 e3 x0
            obtain ⟨g0, g1, g2, g3⟩ := box4 k1.out
            have y0 := k1.out.frozen
            go_wp2_with fail
            refine bodyPost_ret (v := .agg #[.slice none 0 0, .slice none 0 0, .slice none 0 0, .slice none 0 0]) (by simp [results, Try.results27, go_sem, g0, g1, g2, g3]) rfl ?_
            refine NewS.zero (Fr.below (S := fun k => k = w.heap.size + 1) HB.out ?_ HB.out.size (fun k hk => by omega))
            repeat (first | exact Fr.refl _ _ | refine Fr.trans ?_ (Fr.set (by exact rfl) _))
          · have hf : old ∈ s.f := by
              by_cases hf : old ∈ s.f
              · exact hf
              · exact absurd ⟨hok, hd, ho, he, hm, hf⟩ hno
            have HM := Lib.hid hm
            have HF := Lib.hid hf
            clear hok hd ho he hm hf hno
            obtain ⟨ad, cc, e0, x0⟩ := Rd.at_ H.out.m d.toNat (by have := HK.out.m; have := HD.out; omega)
            obtain ⟨rfl, rfl⟩ : A = some ad ∧ c = cc := by simpa using e0
            rw [getD_of s.m d.toNat 0 (by have := HK.out.m; have := HD.out; omega)] at x0
            have b1 : 0 ≤ d := by have := HD.out; omega
            have b2 : d < (s.m.length : Int) := by have := HD.out; have := HK.out.m; omega
            clear e0
            rw [HE.out] at x0
            go_enter Try.func27, Try.ntmps27
            go_wp2_with fail
            obtain ⟨w0, hW, HB, k0, k1, hz⟩ := bx2 w #[.slice (some ad) s.m.length c, .slice A2 s.f.length c2, .slice A3 s.v.length c3, .slice A4 s.h.length c4] 25 #[.slice none 0 0, .slice none 0 0, .slice none 0 0, .slice none 0 0] 25
            rw [hW]; clear hW
            ((with_reducible refine (ok20 ⟨_, _, _, _⟩ s _ (H.out.below HB.out) (by have := HL.out; omega) true (by simp [HK.out])).mono ?_); rintro e w1 ⟨rfl, hb⟩)
            replace HB := Lib.hid (bl_step HB.out hb)
            replace k0 := Lib.hid (k0.out.below hb)
            replace k1 := Lib.hid (k1.out.below hb)
            clear hb
            go_wp2_with fail
            ((with_reducible refine (in61 d 1 7 true (by simp; exact HD.out) _).mono ?_); rintro e w' ⟨rfl, rfl⟩)
            go_wp2_with fail
            ((with_reducible refine (phy54 old true (by simp; exact HO.out) _).mono ?_); rintro e w' ⟨rfl, rfl⟩)
            obtain ⟨e0, e1, e2, e3⟩ := box4 k0.out
            replace x0 := (HB.out.cell (World.block_lt_of_cell? w _ x0)).trans x0
            go_wp2_with fail
            ((with_reducible refine (has55 _ s.m old false (by simp [HM.out]) _ (H.out.m.below HB.out)).mono ?_); rintro e w' ⟨rfl, n, rfl⟩)
            go_wp2_with fail
            ((with_reducible refine (has55 _ s.f old true (by simp [HF.out]) _ (H.out.f.below (bl_drewN HB.out _))).mono ?_); rintro e w' ⟨rfl, n2, rfl⟩)
            replace HB := Lib.hid (bl_drewN (bl_drewN HB.out n) n2)
            replace k0 := Lib.hid ((k0.out.drewN n).drewN n2)
            replace k1 := Lib.hid ((k1.out.drewN n).drewN n2)
            generalize (w1.drewN n).drewN n2 = w2 at HB k0 k1 ⊢
            clear e0 e1 e2 e3 x0
            obtain ⟨g0, g1, g2, g3⟩ := box4 k1.out
            have y0 := k1.out.frozen
            go_wp2_with fail
            refine bodyPost_ret (v := .agg #[.slice none 0 0, .slice none 0 0, .slice none 0 0, .slice none 0 0]) (by simp [results, Try.results27, go_sem, g0, g1, g2, g3]) rfl ?_
            refine NewS.zero (Fr.below (S := fun k => k = w.heap.size + 1) HB.out ?_ HB.out.size (fun k hk => by omega))
            repeat (first | exact Fr.refl _ _ | refine Fr.trans ?_ (Fr.set (by exact rfl) _))
        · have HE := Lib.hid he
          clear hok hd ho he hno
          obtain ⟨ad, cc, e0, x0⟩ := Rd.at_ H.out.m d.toNat (by have := HK.out.m; have := HD.out; omega)
          obtain ⟨rfl, rfl⟩ : A = some ad ∧ c = cc := by simpa using e0
          rw [getD_of s.m d.toNat 0 (by have := HK.out.m; have := HD.out; omega)] at x0
          have b1 : 0 ≤ d := by have := HD.out; omega
          have b2 : d < (s.m.length : Int) := by have := HD.out; have := HK.out.m; omega
          clear e0
          generalize s.m.getD d.toNat 0 = x at x0 HE
          have hne := HE.out
          go_enter Try.func27, Try.ntmps27
          go_wp2_with fail
          obtain ⟨w0, hW, HB, k0, k1, hz⟩ := bx2 w #[.slice (some ad) s.m.length c, .slice A2 s.f.length c2, .slice A3 s.v.length c3, .slice A4 s.h.length c4] 25 #[.slice none 0 0, .slice none 0 0, .slice none 0 0, .slice none 0 0] 25
          rw [hW]; clear hW
          ((with_reducible refine (ok20 ⟨_, _, _, _⟩ s _ (H.out.below HB.out) (by have := HL.out; omega) true (by simp [HK.out])).mono ?_); rintro e w1 ⟨rfl, hb⟩)
          replace HB := Lib.hid (bl_step HB.out hb)
          replace k0 := Lib.hid (k0.out.below hb)
          replace k1 := Lib.hid (k1.out.below hb)
          clear hb
          go_wp2_with fail
          ((with_reducible refine (in61 d 1 7 true (by simp; exact HD.out) _).mono ?_); rintro e w' ⟨rfl, rfl⟩)
          go_wp2_with fail
          ((with_reducible refine (phy54 old true (by simp; exact HO.out) _).mono ?_); rintro e w' ⟨rfl, rfl⟩)
          obtain ⟨e0, e1, e2, e3⟩ := box4 k0.out
          replace x0 := (HB.out.cell (World.block_lt_of_cell? w _ x0)).trans x0
          obtain ⟨g0, g1, g2, g3⟩ := box4 k1.out
          have y0 := k1.out.frozen
          go_wp2_with fail
          refine bodyPost_ret (v := .agg #[.slice none 0 0, .slice none 0 0, .slice none 0 0, .slice none 0 0]) (by simp [results, Try.results27, go_sem, g0, g1, g2, g3]) rfl ?_
          refine NewS.zero (Fr.below (S := fun k => k = w.heap.size + 1) HB.out ?_ HB.out.size (fun k hk => by omega))
          repeat (first | exact Fr.refl _ _ | refine Fr.trans ?_ (Fr.set (by exact rfl) _))
      · have HO := Lib.hid ho
        clear hok hd ho hno
        go_enter Try.func27, Try.ntmps27
        go_wp2_with fail
        obtain ⟨w0, hW, HB, k0, k1, hz⟩ := bx2 w #[.slice A s.m.length c, .slice A2 s.f.length c2, .slice A3 s.v.length c3, .slice A4 s.h.length c4] 25 #[.slice none 0 0, .slice none 0 0, .slice none 0 0, .slice none 0 0] 25
        rw [hW]; clear hW
        ((with_reducible refine (ok20 ⟨_, _, _, _⟩ s _ (H.out.below HB.out) (by have := HL.out; omega) true (by simp [HK.out])).mono ?_); rintro e w1 ⟨rfl, hb⟩)
        replace HB := Lib.hid (bl_step HB.out hb)
        replace k0 := Lib.hid (k0.out.below hb)
        replace k1 := Lib.hid (k1.out.below hb)
        clear hb
        go_wp2_with fail
        ((with_reducible refine (in61 d 1 7 true (by simp; exact HD.out) _).mono ?_); rintro e w' ⟨rfl, rfl⟩)
        go_wp2_with fail
        ((with_reducible refine (phy54 old false (by simp only [Bool.false_eq_true, false_iff]; exact HO.out) _).mono ?_); rintro e w' ⟨rfl, rfl⟩)
        obtain ⟨g0, g1, g2, g3⟩ := box4 k1.out
        have y0 := k1.out.frozen
        go_wp2_with fail
        refine bodyPost_ret (v := .agg #[.slice none 0 0, .slice none 0 0, .slice none 0 0, .slice none 0 0]) (by simp [results, Try.results27, go_sem, g0, g1, g2, g3]) rfl ?_
        refine NewS.zero (Fr.below (S := fun k => k = w.heap.size + 1) HB.out ?_ HB.out.size (fun k hk => by omega))
        repeat (first | exact Fr.refl _ _ | refine Fr.trans ?_ (Fr.set (by exact rfl) _))
    · have HD := Lib.hid hd
      clear hok hd hno
      go_enter Try.func27, Try.ntmps27
      go_wp2_with fail
      obtain ⟨w0, hW, HB, k0, k1, hz⟩ := bx2 w #[.slice A s.m.length c, .slice A2 s.f.length c2, .slice A3 s.v.length c3, .slice A4 s.h.length c4] 25 #[.slice none 0 0, .slice none 0 0, .slice none 0 0, .slice none 0 0] 25
      rw [hW]; clear hW
      ((with_reducible refine (ok20 ⟨_, _, _, _⟩ s _ (H.out.below HB.out) (by have := HL.out; omega) true (by simp [HK.out])).mono ?_); rintro e w1 ⟨rfl, hb⟩)
      replace HB := Lib.hid (bl_step HB.out hb)
      replace k0 := Lib.hid (k0.out.below hb)
      replace k1 := Lib.hid (k1.out.below hb)
      clear hb
      go_wp2_with fail
      ((with_reducible refine (in61 d 1 7 false (by simp only [Bool.false_eq_true, false_iff]; exact HD.out) _).mono ?_); rintro e w' ⟨rfl, rfl⟩)
      obtain ⟨g0, g1, g2, g3⟩ := box4 k1.out
      have y0 := k1.out.frozen
      go_wp2_with fail
      refine bodyPost_ret (v := .agg #[.slice none 0 0, .slice none 0 0, .slice none 0 0, .slice none 0 0]) (by simp [results, Try.results27, go_sem, g0, g1, g2, g3]) rfl ?_
      refine NewS.zero (Fr.below (S := fun k => k = w.heap.size + 1) HB.out ?_ HB.out.size (fun k hk => by omega))
      repeat (first | exact Fr.refl _ _ | refine Fr.trans ?_ (Fr.set (by exact rfl) _))
  · have HK := Lib.hid hok
    clear hok hno
    go_enter Try.func27, Try.ntmps27
    go_wp2_with fail
    obtain ⟨w0, hW, HB, k0, k1, hz⟩ := bx2 w #[.slice A s.m.length c, .slice A2 s.f.length c2, .slice A3 s.v.length c3, .slice A4 s.h.length c4] 25 #[.slice none 0 0, .slice none 0 0, .slice none 0 0, .slice none 0 0] 25
    rw [hW]; clear hW
    ((with_reducible refine (ok20 ⟨_, _, _, _⟩ s _ (H.out.below HB.out) (by have := HL.out; omega) false (by simp [HK.out])).mono ?_); rintro e w1 ⟨rfl, hb⟩)
    replace HB := Lib.hid (bl_step HB.out hb)
    replace k0 := Lib.hid (k0.out.below hb)
    replace k1 := Lib.hid (k1.out.below hb)
    clear hb
    obtain ⟨g0, g1, g2, g3⟩ := box4 k1.out
    have y0 := k1.out.frozen
    go_wp2_with fail
    refine bodyPost_ret (v := .agg #[.slice none 0 0, .slice none 0 0, .slice none 0 0, .slice none 0 0]) (by simp [results, Try.results27, go_sem, g0, g1, g2, g3]) rfl ?_
    refine NewS.zero (Fr.below (S := fun k => k = w.heap.size + 1) HB.out ?_ HB.out.size (fun k hk => by omega))
    repeat (first | exact Fr.refl _ _ | refine Fr.trans ?_ (Fr.set (by exact rfl) _))
set_option maxHeartbeats 8000000 in
theorem back28y (V : Sv) (s : St) (d now old : Int) (w : World) (h : RdS w V s) (hc : BackC s d now old) : Calls Try.prog 28 #[V.agg, .int .i64 d, .int .i64 now, .int .i64 old] w (NewS w ⟨s.m.set d.toNat old, s.f ++ [now], s.v, s.h⟩) := by
  have H := Lib.hid h
  obtain ⟨A, c, A2, c2, A3, c3, A4, c4, rfl⟩ := h.form
  obtain ⟨hok, hd, ho, he, hm, hf⟩ := hc
  have HK := Lib.hid hok; have HD := Lib.hid hd; have HO := Lib.hid ho; have HE := Lib.hid he; have HM := Lib.hid hm; have HF := Lib.hid hf
  have HN : Hid (0 ≤ now ∧ now ≤ 19) := Lib.hid (by
    rw [← he]
    have hlt : d.toNat < s.m.length := by have := hok.m; omega
    rw [← getD_of s.m d.toNat 0 hlt]
    exact hok.a.2 _ (List.mem_append_left _ (List.getElem_mem hlt)))
  clear h hok hd ho he hm hf
  obtain ⟨ad, cc, e0, x0⟩ := Rd.at_ H.out.m d.toNat (by have := HK.out.m; have := HD.out; omega)
  obtain ⟨rfl, rfl⟩ : A = some ad ∧ c = cc := by simpa using e0
  rw [getD_of s.m d.toNat 0 (by have := HK.out.m; have := HD.out; omega)] at x0
  have b1 : 0 ≤ d := by have := HD.out; omega
  have b2 : d < (s.m.length : Int) := by have := HD.out; have := HK.out.m; omega
  clear e0
  rw [HE.out] at x0
  go_enter Try.func28, Try.ntmps28
  go_wp2_with fail
  obtain ⟨w0, hW, HB, k0, k1, hz⟩ := bx2 w #[.slice (some ad) s.m.length c, .slice A2 s.f.length c2, .slice A3 s.v.length c3, .slice A4 s.h.length c4] 25 #[.slice none 0 0, .slice none 0 0, .slice none 0 0, .slice none 0 0] 25
  rw [hW]; clear hW
  ((with_reducible refine (ok22 ⟨_, _, _, _⟩ s _ (H.out.below HB.out) true (by simp [HK.out])).mono ?_); rintro e w1 ⟨rfl, hb⟩)
  replace HB := Lib.hid (bl_step HB.out hb)
  replace k0 := Lib.hid (k0.out.below hb)
  replace k1 := Lib.hid (k1.out.below hb)
  clear hb
  go_wp2_with fail
  ((with_reducible refine (reg63 d true (by simp; have := HD.out; omega) _).mono ?_); rintro e w' ⟨rfl, rfl⟩)
  go_wp2_with fail
  ((with_reducible refine (phy52 now true (by simp; have := HN.out; omega) _).mono ?_); rintro e w' ⟨rfl, rfl⟩)
  go_wp2_with fail
  ((with_reducible refine (phy52 old true (by simp; have := HO.out; omega) _).mono ?_); rintro e w' ⟨rfl, rfl⟩)
  obtain ⟨e0, e1, e2, e3⟩ := box4 k0.out
  replace x0 := (HB.out.cell (World.block_lt_of_cell? w _ x0)).trans x0
  go_wp2_with fail
  ((with_reducible refine (held57 ⟨_, _, _, _⟩ s old false (by simp [HM.out, HF.out]) _ (H.out.below HB.out)).mono ?_); rintro e w2 ⟨rfl, hb⟩)
  replace HB := Lib.hid (bl_step HB.out hb)
  replace k0 := Lib.hid (k0.out.below hb)
  replace k1 := Lib.hid (k1.out.below hb)
  clear hb e0 e1 e2 e3 x0
  obtain ⟨e0, e1, e2, e3⟩ := box4 k0.out
  go_wp2_with fail
  ((with_reducible refine (names58 ⟨_, _, _, _⟩ s _ (H.out.below HB.out) HK.out.m (by have := HK.out.fl; omega) (HK.out.ml (by have := HK.out.fl; omega))).mono ?_); rintro e w3 ⟨g, xs, vv, hh, rfl, hF, HN, hb⟩)
  have hg : Hid (w.heap.size + 2 ≤ g) := Lib.hid (by have := HN.out.hg; have := k1.out.lt; omega)
  have HP := Lib.hid (rl_fill _ _ (hF.push now (by have := HK.out.fl; omega)) (by have := HK.out.fl; simp; omega))
  replace HB := Lib.hid (bl_step HB.out hb.out)
  replace k1 := Lib.hid (k1.out.below hb.out)
  clear hb e0 e1 e2 e3 k0 hF
  go_wp2_with fail
  ((with_reducible refine (undo64 _ g s.m xs 0 s.f.length s.v s.h vv hh d now old _ HN.out (by omega) (by have := HK.out.fl; omega) b1 (by have := HD.out; omega) HN.out.k.lt).mono ?_); rintro e w4 ⟨rfl, HN2, hfr⟩)
  replace HB := Lib.hid (hfr.out.below HB.out HB.out.size (fun k hk => by have := hg.out; omega))
  replace k1 := Lib.hid (k1.out.fr hfr.out (by have := hg.out; omega))
  clear hfr HN
  have hX : List.length s.f + 1 = (s.f ++ [now]).length := by simp
  rw [← hX] at HP
  clear hX
  go_wp2_with fail
  ((with_reducible refine (state60 _ g (s.m.set d.toNat old) (xs.set ((0 + s.f.length) % 20) now) 0 (s.f.length + 1) s.v s.h vv hh _ HN2.out (by omega) (by have := HK.out.fl; omega) (by have := HK.out.v; have := HK.out.h; omega)).mono ?_); rintro e w5 ⟨X, rfl, ho, hb⟩)
  rw [HP.out] at ho
  obtain ⟨B, q, B2, q2, B3, q3, B4, q4, rfl⟩ := ho.out.rd.form
  have hlt := Lib.hid k1.out.lt
  replace HB := Lib.hid (bl_step HB.out hb.out)
  replace k1 := Lib.hid (k1.out.below hb.out)
  clear hb HN2 HP
  obtain ⟨g0, g1, g2, g3⟩ := box4 k1.out
  have y0 := k1.out.frozen
  dsimp only at ho
  go_wp2_with fail
  refine bodyPost_ret (v := .agg #[.slice B (s.m.set d.toNat old).length q, .slice B2 (s.f ++ [now]).length q2, .slice B3 s.v.length q3, .slice B4 s.h.length q4]) (by simp [results, Try.results28, go_sem, g0, g1, g2, g3]) rfl ?_
  have hlt' := hlt.out
  refine NewS.fin (n := w4.heap.size) ho.out HB.out (by omega) ?_
  repeat (first | exact Fr.refl _ _ | refine Fr.trans ?_ (Fr.set (by simp only []; omega) _))
set_option maxHeartbeats 8000000 in
theorem back28n (V : Sv) (s : St) (d now old : Int) (w : World) (h : RdS w V s) (hno : ¬ BackC s d now old) : Calls Try.prog 28 #[V.agg, .int .i64 d, .int .i64 now, .int .i64 old] w (NewS w ⟨[], [], [], []⟩) := by
  have H := Lib.hid h
  obtain ⟨A, c, A2, c2, A3, c3, A4, c4, rfl⟩ := h.form
  clear h
  by_cases hok : OkS s
  · have HK := Lib.hid hok
    by_cases hd : 1 ≤ d ∧ d ≤ 7
    · have HD := Lib.hid hd
      by_cases hn : 0 ≤ now ∧ now ≤ 19
      · have HN := Lib.hid hn
        by_cases ho : 0 ≤ old ∧ old ≤ 19
        · have HO := Lib.hid ho
          by_cases he : s.m.getD d.toNat 0 = now
          · have HE := Lib.hid he
            have hm : old ∈ s.m ∨ old ∈ s.f := by
              by_cases hm : old ∈ s.m
              · exact .inl hm
              · by_cases hf : old ∈ s.f
                · exact .inr hf
                · exact absurd ⟨hok, hd, ho, he, hm, hf⟩ hno
            have HM := Lib.hid hm
            clear hok hd ho hn he hm hno
            obtain ⟨ad, cc, e0, x0⟩ := Rd.at_ H.out.m d.toNat (by have := HK.out.m; have := HD.out; omega)
            obtain ⟨rfl, rfl⟩ : A = some ad ∧ c = cc := by simpa using e0
            rw [getD_of s.m d.toNat 0 (by have := HK.out.m; have := HD.out; omega)] at x0
            have b1 : 0 ≤ d := by have := HD.out; omega
            have b2 : d < (s.m.length : Int) := by have := HD.out; have := HK.out.m; omega
            clear e0
            rw [HE.out] at x0
            go_enter Try.func28, Try.ntmps28
            go_wp2_with fail
            obtain ⟨w0, hW, HB, k0, k1, hz⟩ := bx2 w #[.slice (some ad) s.m.length c, .slice A2 s.f.length c2, .slice A3 s.v.length c3, .slice A4 s.h.length c4] 25 #[.slice none 0 0, .slice none 0 0, .slice none 0 0, .slice none 0 0] 25
            rw [hW]; clear hW
            ((with_reducible refine (ok22 ⟨_, _, _, _⟩ s _ (H.out.below HB.out) true (by simp [HK.out])).mono ?_); rintro e w1 ⟨rfl, hb⟩)
            replace HB := Lib.hid (bl_step HB.out hb)
            replace k0 := Lib.hid (k0.out.below hb)
            replace k1 := Lib.hid (k1.out.below hb)
            clear hb
            go_wp2_with fail
            ((with_reducible refine (reg63 d true (by simp; have := HD.out; omega) _).mono ?_); rintro e w' ⟨rfl, rfl⟩)
            go_wp2_with fail
            ((with_reducible refine (phy52 now true (by simp; have := HN.out; omega) _).mono ?_); rintro e w' ⟨rfl, rfl⟩)
            go_wp2_with fail
            ((with_reducible refine (phy52 old true (by simp; have := HO.out; omega) _).mono ?_); rintro e w' ⟨rfl, rfl⟩)
            obtain ⟨e0, e1, e2, e3⟩ := box4 k0.out
            replace x0 := (HB.out.cell (World.block_lt_of_cell? w _ x0)).trans x0
            go_wp2_with fail
            ((with_reducible refine (held57 ⟨_, _, _, _⟩ s old true (by simp [HM.out]) _ (H.out.below HB.out)).mono ?_); rintro e w2 ⟨rfl, hb⟩)
            replace HB := Lib.hid (bl_step HB.out hb)
            replace k0 := Lib.hid (k0.out.below hb)
            replace k1 := Lib.hid (k1.out.below hb)
            clear hb e0 e1 e2 e3 x0
            obtain ⟨g0, g1, g2, g3⟩ := box4 k1.out
            have y0 := k1.out.frozen
            go_wp2_with fail
            refine bodyPost_ret (v := .agg #[.slice none 0 0, .slice none 0 0, .slice none 0 0, .slice none 0 0]) (by simp [results, Try.results28, go_sem, g0, g1, g2, g3]) rfl ?_
            refine NewS.zero (Fr.below (S := fun k => k = w.heap.size + 1) HB.out ?_ HB.out.size (fun k hk => by omega))
            repeat (first | exact Fr.refl _ _ | refine Fr.trans ?_ (Fr.set (by exact rfl) _))
          · have HE := Lib.hid he
            clear hok hd ho hn he hno
            obtain ⟨ad, cc, e0, x0⟩ := Rd.at_ H.out.m d.toNat (by have := HK.out.m; have := HD.out; omega)
            obtain ⟨rfl, rfl⟩ : A = some ad ∧ c = cc := by simpa using e0
            rw [getD_of s.m d.toNat 0 (by have := HK.out.m; have := HD.out; omega)] at x0
            have b1 : 0 ≤ d := by have := HD.out; omega
            have b2 : d < (s.m.length : Int) := by have := HD.out; have := HK.out.m; omega
            clear e0
            generalize s.m.getD d.toNat 0 = x at x0 HE
            have hne := HE.out
            go_enter Try.func28, Try.ntmps28
            go_wp2_with fail
            obtain ⟨w0, hW, HB, k0, k1, hz⟩ := bx2 w #[.slice (some ad) s.m.length c, .slice A2 s.f.length c2, .slice A3 s.v.length c3, .slice A4 s.h.length c4] 25 #[.slice none 0 0, .slice none 0 0, .slice none 0 0, .slice none 0 0] 25
            rw [hW]; clear hW
            ((with_reducible refine (ok22 ⟨_, _, _, _⟩ s _ (H.out.below HB.out) true (by simp [HK.out])).mono ?_); rintro e w1 ⟨rfl, hb⟩)
            replace HB := Lib.hid (bl_step HB.out hb)
            replace k0 := Lib.hid (k0.out.below hb)
            replace k1 := Lib.hid (k1.out.below hb)
            clear hb
            go_wp2_with fail
            ((with_reducible refine (reg63 d true (by simp; have := HD.out; omega) _).mono ?_); rintro e w' ⟨rfl, rfl⟩)
            go_wp2_with fail
            ((with_reducible refine (phy52 now true (by simp; have := HN.out; omega) _).mono ?_); rintro e w' ⟨rfl, rfl⟩)
            go_wp2_with fail
            ((with_reducible refine (phy52 old true (by simp; have := HO.out; omega) _).mono ?_); rintro e w' ⟨rfl, rfl⟩)
            obtain ⟨e0, e1, e2, e3⟩ := box4 k0.out
            replace x0 := (HB.out.cell (World.block_lt_of_cell? w _ x0)).trans x0
            obtain ⟨g0, g1, g2, g3⟩ := box4 k1.out
            have y0 := k1.out.frozen
            go_wp2_with fail
            refine bodyPost_ret (v := .agg #[.slice none 0 0, .slice none 0 0, .slice none 0 0, .slice none 0 0]) (by simp [results, Try.results28, go_sem, g0, g1, g2, g3]) rfl ?_
            refine NewS.zero (Fr.below (S := fun k => k = w.heap.size + 1) HB.out ?_ HB.out.size (fun k hk => by omega))
            repeat (first | exact Fr.refl _ _ | refine Fr.trans ?_ (Fr.set (by exact rfl) _))
        · have HO := Lib.hid ho
          clear hok hd ho hn hno
          go_enter Try.func28, Try.ntmps28
          go_wp2_with fail
          obtain ⟨w0, hW, HB, k0, k1, hz⟩ := bx2 w #[.slice A s.m.length c, .slice A2 s.f.length c2, .slice A3 s.v.length c3, .slice A4 s.h.length c4] 25 #[.slice none 0 0, .slice none 0 0, .slice none 0 0, .slice none 0 0] 25
          rw [hW]; clear hW
          ((with_reducible refine (ok22 ⟨_, _, _, _⟩ s _ (H.out.below HB.out) true (by simp [HK.out])).mono ?_); rintro e w1 ⟨rfl, hb⟩)
          replace HB := Lib.hid (bl_step HB.out hb)
          replace k0 := Lib.hid (k0.out.below hb)
          replace k1 := Lib.hid (k1.out.below hb)
          clear hb
          go_wp2_with fail
          ((with_reducible refine (reg63 d true (by simp; have := HD.out; omega) _).mono ?_); rintro e w' ⟨rfl, rfl⟩)
          go_wp2_with fail
          ((with_reducible refine (phy52 now true (by simp; have := HN.out; omega) _).mono ?_); rintro e w' ⟨rfl, rfl⟩)
          go_wp2_with fail
          ((with_reducible refine (phy52 old false (by simp only [Bool.false_eq_true, false_iff]; have := HO.out; omega) _).mono ?_); rintro e w' ⟨rfl, rfl⟩)
          obtain ⟨g0, g1, g2, g3⟩ := box4 k1.out
          have y0 := k1.out.frozen
          go_wp2_with fail
          refine bodyPost_ret (v := .agg #[.slice none 0 0, .slice none 0 0, .slice none 0 0, .slice none 0 0]) (by simp [results, Try.results28, go_sem, g0, g1, g2, g3]) rfl ?_
          refine NewS.zero (Fr.below (S := fun k => k = w.heap.size + 1) HB.out ?_ HB.out.size (fun k hk => by omega))
          repeat (first | exact Fr.refl _ _ | refine Fr.trans ?_ (Fr.set (by exact rfl) _))
      · have HN := Lib.hid hn
        clear hok hd hn hno
        go_enter Try.func28, Try.ntmps28
        go_wp2_with fail
        obtain ⟨w0, hW, HB, k0, k1, hz⟩ := bx2 w #[.slice A s.m.length c, .slice A2 s.f.length c2, .slice A3 s.v.length c3, .slice A4 s.h.length c4] 25 #[.slice none 0 0, .slice none 0 0, .slice none 0 0, .slice none 0 0] 25
        rw [hW]; clear hW
        ((with_reducible refine (ok22 ⟨_, _, _, _⟩ s _ (H.out.below HB.out) true (by simp [HK.out])).mono ?_); rintro e w1 ⟨rfl, hb⟩)
        replace HB := Lib.hid (bl_step HB.out hb)
        replace k0 := Lib.hid (k0.out.below hb)
        replace k1 := Lib.hid (k1.out.below hb)
        clear hb
        go_wp2_with fail
        ((with_reducible refine (reg63 d true (by simp; have := HD.out; omega) _).mono ?_); rintro e w' ⟨rfl, rfl⟩)
        go_wp2_with fail
        ((with_reducible refine (phy52 now false (by simp only [Bool.false_eq_true, false_iff]; have := HN.out; omega) _).mono ?_); rintro e w' ⟨rfl, rfl⟩)
        obtain ⟨g0, g1, g2, g3⟩ := box4 k1.out
        have y0 := k1.out.frozen
        go_wp2_with fail
        refine bodyPost_ret (v := .agg #[.slice none 0 0, .slice none 0 0, .slice none 0 0, .slice none 0 0]) (by simp [results, Try.results28, go_sem, g0, g1, g2, g3]) rfl ?_
        refine NewS.zero (Fr.below (S := fun k => k = w.heap.size + 1) HB.out ?_ HB.out.size (fun k hk => by omega))
        repeat (first | exact Fr.refl _ _ | refine Fr.trans ?_ (Fr.set (by exact rfl) _))
    · have HD := Lib.hid hd
      clear hok hd hno
      go_enter Try.func28, Try.ntmps28
      go_wp2_with fail
      obtain ⟨w0, hW, HB, k0, k1, hz⟩ := bx2 w #[.slice A s.m.length c, .slice A2 s.f.length c2, .slice A3 s.v.length c3, .slice A4 s.h.length c4] 25 #[.slice none 0 0, .slice none 0 0, .slice none 0 0, .slice none 0 0] 25
      rw [hW]; clear hW
      ((with_reducible refine (ok22 ⟨_, _, _, _⟩ s _ (H.out.below HB.out) true (by simp [HK.out])).mono ?_); rintro e w1 ⟨rfl, hb⟩)
      replace HB := Lib.hid (bl_step HB.out hb)
      replace k0 := Lib.hid (k0.out.below hb)
      replace k1 := Lib.hid (k1.out.below hb)
      clear hb
      go_wp2_with fail
      ((with_reducible refine (reg63 d false (by simp only [Bool.false_eq_true, false_iff]; have := HD.out; omega) _).mono ?_); rintro e w' ⟨rfl, rfl⟩)
      obtain ⟨g0, g1, g2, g3⟩ := box4 k1.out
      have y0 := k1.out.frozen
      go_wp2_with fail
      refine bodyPost_ret (v := .agg #[.slice none 0 0, .slice none 0 0, .slice none 0 0, .slice none 0 0]) (by simp [results, Try.results28, go_sem, g0, g1, g2, g3]) rfl ?_
      refine NewS.zero (Fr.below (S := fun k => k = w.heap.size + 1) HB.out ?_ HB.out.size (fun k hk => by omega))
      repeat (first | exact Fr.refl _ _ | refine Fr.trans ?_ (Fr.set (by exact rfl) _))
  · have HK := Lib.hid hok
    clear hok hno
    go_enter Try.func28, Try.ntmps28
    go_wp2_with fail
    obtain ⟨w0, hW, HB, k0, k1, hz⟩ := bx2 w #[.slice A s.m.length c, .slice A2 s.f.length c2, .slice A3 s.v.length c3, .slice A4 s.h.length c4] 25 #[.slice none 0 0, .slice none 0 0, .slice none 0 0, .slice none 0 0] 25
    rw [hW]; clear hW
    ((with_reducible refine (ok22 ⟨_, _, _, _⟩ s _ (H.out.below HB.out) false (by simp [HK.out])).mono ?_); rintro e w1 ⟨rfl, hb⟩)
    replace HB := Lib.hid (bl_step HB.out hb)
    replace k0 := Lib.hid (k0.out.below hb)
    replace k1 := Lib.hid (k1.out.below hb)
    clear hb
    obtain ⟨g0, g1, g2, g3⟩ := box4 k1.out
    have y0 := k1.out.frozen
    go_wp2_with fail
    refine bodyPost_ret (v := .agg #[.slice none 0 0, .slice none 0 0, .slice none 0 0, .slice none 0 0]) (by simp [results, Try.results28, go_sem, g0, g1, g2, g3]) rfl ?_
    refine NewS.zero (Fr.below (S := fun k => k = w.heap.size + 1) HB.out ?_ HB.out.size (fun k hk => by omega))
    repeat (first | exact Fr.refl _ _ | refine Fr.trans ?_ (Fr.set (by exact rfl) _))
end Go.Proofs.Ytiemacjmipiakaa.Nm
