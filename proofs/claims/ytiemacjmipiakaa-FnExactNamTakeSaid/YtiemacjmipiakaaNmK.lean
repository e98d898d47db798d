/- Giving places back, by the reference. -/
import Derived.Test.YtiemacjmipiakaaNmI
namespace Go.Proofs.Ytiemacjmipiakaa.Nm
open Go.RowKit Go.Proofs.Ytiemacjmipiakaa.Hw
set_option linter.unusedVariables false
set_option linter.unusedSimpArgs false
theorem rd_one (w : World) (p : Int) : Rd (Value.int .i64) (w.alloc (.cells #[.int .i64 p] 3)) (.slice (some ⟨w.heap.size, 0, none⟩) 1 1) [p] := by
  refine ⟨_, 1, rfl, Nat.le_refl _, by simp, fun _ => ⟨_, rfl, fun j x hj => ?_⟩⟩
  have hj0 : j = 0 := by
    rcases Nat.eq_zero_or_pos j with h | h
    · exact h
    · rw [List.getElem?_eq_none (by simp; omega)] at hj; cases hj
  subst hj0
  obtain rfl : p = x := by simpa using hj
  rw [add0]
  simp [(Bk.new w #[.int .i64 p] 3).cell 0]
/-- Nothing is returned. -/
theorem NewS.zero {w wf : World} (HB : Below w.heap.size w wf) : NewS w ⟨[], [], [], []⟩ (.returned (.agg #[.slice none 0 0, .slice none 0 0, .slice none 0 0, .slice none 0 0])) wf :=
  ⟨⟨.slice none 0 0, .slice none 0 0, .slice none 0 0, .slice none 0 0⟩, rfl, OwS.none _ _ _, HB⟩
theorem NewS.fin2 {w v wf : World} {V : Sv} {s : St} {S : Nat → Prop} (om : Ow (Value.int .i64) 3 v V.m s.m) (of_ : Ow (Value.int .i64) 3 v V.f s.f) (ov : Ow (Value.int .i64) 3 v V.v s.v) (oh : Ow Value.bool 4 v V.h s.h)
    (dm : ∀ k, obk V.m = some k → w.heap.size ≤ k ∧ ¬ S k) (df : ∀ k, obk V.f = some k → w.heap.size ≤ k ∧ ¬ S k) (dv : ∀ k, obk V.v = some k → w.heap.size ≤ k ∧ ¬ S k) (dh : ∀ k, obk V.h = some k → w.heap.size ≤ k ∧ ¬ S k)
    (mf : Ap V.m V.f) (mv : Ap V.m V.v) (fv : Ap V.f V.v) (hb : Below w.heap.size w v) (HF : Fr S v wf) (hS : ∀ k, S k → w.heap.size ≤ k) : NewS w s (.returned V.agg) wf :=
  ⟨V, rfl, ⟨om.fr HF (fun k hk => (dm k hk).2), of_.fr HF (fun k hk => (df k hk).2), ov.fr HF (fun k hk => (dv k hk).2), oh.fr HF (fun k hk => (dh k hk).2),
    fun k hk => ⟨(dm k hk).1, Nat.lt_of_lt_of_le (om.lt k hk) HF.size⟩, fun k hk => ⟨(df k hk).1, Nat.lt_of_lt_of_le (of_.lt k hk) HF.size⟩, fun k hk => ⟨(dv k hk).1, Nat.lt_of_lt_of_le (ov.lt k hk) HF.size⟩, fun k hk => ⟨(dh k hk).1, Nat.lt_of_lt_of_le (oh.lt k hk) HF.size⟩, mf, mv, fv⟩, HF.below hb hb.size hS⟩
theorem Rg.ge {B C : Nat} {v : Value} (h : Rg B C v) : ∀ k, obk v = some k → B ≤ k ∧ k < C := h
set_option maxHeartbeats 4000000 in
theorem free25y (V : Sv) (s : St) (p : Int) (w : World) (h : RdS w V s) (hok : OkS s) (h0 : 0 ≤ p) (h1 : p ≤ 19) (hm : p ∉ s.m) (hf : p ∉ s.f) (hl : s.m.length + s.f.length + s.v.length + s.h.length ≤ 1048576) :
    Calls Try.prog 25 #[V.agg, .int .i64 p] w (NewS w ⟨s.m, s.f ++ [p], s.v, s.h⟩) := by
  have H := Lib.hid h
  obtain ⟨A, c, A2, c2, A3, c3, A4, c4, rfl⟩ := h.form
  have HK := Lib.hid hok; have HM := Lib.hid hm; have HF := Lib.hid hf; have HL := Lib.hid hl
  clear h hok hm hf hl
  go_enter Try.func25, Try.ntmps25
  go_wp2_with fail
  obtain ⟨w0, hW, HB, k0, k1, hz⟩ := bx2 w #[.slice A s.m.length c, .slice A2 s.f.length c2, .slice A3 s.v.length c3, .slice A4 s.h.length c4] 25 #[.slice none 0 0, .slice none 0 0, .slice none 0 0, .slice none 0 0] 25
  rw [hW]; clear hW
  ((with_reducible refine (ok20 ⟨_, _, _, _⟩ s _ (H.out.below HB.out) (by have := HL.out; omega) true (by simp [HK.out])).mono ?_); rintro e w1 ⟨rfl, hb⟩)
  replace HB := Lib.hid (bl_step HB.out hb)
  replace k0 := Lib.hid (k0.out.below hb)
  replace k1 := Lib.hid (k1.out.below hb)
  have hz1 : Hid (w.heap.size + 2 ≤ w1.heap.size) := Lib.hid (by have := hz.out; have := hb.size; omega)
  clear hb
  go_wp2_with fail
  ((with_reducible refine (phy54 p true (by simp; omega) _).mono ?_); rintro e w' ⟨rfl, rfl⟩)
  obtain ⟨e0, e1, e2, e3⟩ := box4 k0.out
  go_wp2_with fail
  ((with_reducible refine (has55 _ s.m p false (by simp [HM.out]) _ (H.out.m.below HB.out)).mono ?_); rintro e w' ⟨rfl, n, rfl⟩)
  go_wp2_with fail
  ((with_reducible refine (has55 _ s.f p false (by simp [HF.out]) _ (H.out.f.below (bl_drewN HB.out _))).mono ?_); rintro e w' ⟨rfl, n2, rfl⟩)
  go_wp2_with fail
  have HB2 := Lib.hid (bl_drewN HB.out (n + n2))
  replace k0 := Lib.hid (k0.out.drewN (n + n2))
  replace k1 := Lib.hid (k1.out.drewN (n + n2))
  replace hz1 : Hid (w.heap.size + 2 ≤ (w1.drewN (n + n2)).heap.size) := hz1
  generalize w1.drewN (n + n2) = w2 at HB2 k0 k1 hz1 ⊢
  clear e0 e1 e2 e3 HB
  ((with_reducible refine (copy56 ⟨_, _, _, _⟩ s _ (H.out.below HB2.out) HL.out).mono ?_); rintro e w3 ⟨X, rfl, ho, hb⟩)
  obtain ⟨B, d, B2, d2, B3, d3, B4, d4, rfl⟩ := ho.out.rd.form
  replace HB2 := Lib.hid (bl_step HB2.out hb.out)
  replace k1 := Lib.hid (k1.out.below hb.out)
  have hsz := Lib.hid hb.out.size
  clear hb k0
  go_wp2_with (at_builtin; (with_reducible refine wl_append (enc := Value.int .i64) _ rfl (.tmp 30) (.tmp 32) 22 3 rfl (.int .i64 0) 8 Try.underlying22 info3 rfl (by decide) (fun _ => rfl) (.slice B2 s.f.length d2) (.slice (some ⟨w3.heap.size + 1, 0, none⟩) 1 1) s.f [p] rfl rfl ?_ ?_ ?_ ?_))
  · exact ho.out.f.below (bl_alloc (bl_alloc (bl_refl _) _) _)
  · simpa using rd_one (w3.alloc (.cells #[.slice B s.m.length d, .slice B2 s.f.length d2, .slice B3 s.v.length d3, .slice B4 s.h.length d4] 25)) p
  · have := HL.out; simp; omega
  · intro A' c' w4 hO hF hat
    have h2 := hsz.out
    have h3 := HB2.out.size
    have h4 := hz1.out
    have HX := Lib.hid ((Bk.new w3 #[.slice B s.m.length d, .slice B2 s.f.length d2, .slice B3 s.v.length d3, .slice B4 s.h.length d4] 25).alloc (.cells #[.int .i64 p] 3))
    have hB4 := Lib.hid (bl_alloc (bl_alloc (bl_refl w3) (.cells #[.slice B s.m.length d, .slice B2 s.f.length d2, .slice B3 s.v.length d3, .slice B4 s.h.length d4] 25)) (.cells #[.int .i64 p] 3))
    have hS4 : Hid (((w3.alloc (.cells #[.slice B s.m.length d, .slice B2 s.f.length d2, .slice B3 s.v.length d3, .slice B4 s.h.length d4] 25)).alloc (.cells #[.int .i64 p] 3)).heap.size = w3.heap.size + 2) := Lib.hid (by simp)
    generalize (w3.alloc (.cells #[.slice B s.m.length d, .slice B2 s.f.length d2, .slice B3 s.v.length d3, .slice B4 s.h.length d4] 25)).alloc (.cells #[.int .i64 p] 3) = W at HX hB4 hS4 hO hF hat ⊢
    have kx := Lib.hid (HX.out.fr hF.out (fun hk => by have := ho.out.rf _ hk; omega))
    replace k1 := Lib.hid ((k1.out.below hB4.out).fr hF.out (fun hk => by have := ho.out.rf _ hk; omega))
    have om := Lib.hid ((ho.out.m.below hB4.out).fr hF.out (fun k hk hk' => ho.out.mf k hk hk'))
    have ov := Lib.hid ((ho.out.v.below hB4.out).fr hF.out (fun k hk hk' => ho.out.fv k hk' hk))
    have oh := Lib.hid ((ho.out.h.below hB4.out).fr hF.out (fun k hk hk' => ho.out.f.types ho.out.h (by decide) k hk' hk))
    have HB := Lib.hid (hF.out.below (bl_step HB2.out hB4.out) (Nat.le_trans HB2.out.size hB4.out.size) (fun k hk => by have := ho.out.rf k hk; omega))
    obtain ⟨e0, e1, e2, e3⟩ := box4 kx.out
    have x0 := kx.out.frozen
    obtain ⟨g0, g1, g2, g3⟩ := box4 k1.out
    have y0 := k1.out.frozen
    have r1 := Lib.hid ho.out.rm; have r2 := Lib.hid ho.out.rf; have r3 := Lib.hid ho.out.rv; have r4 := Lib.hid ho.out.rh
    have p1 := Lib.hid ho.out.mf; have p2 := Lib.hid ho.out.mv; have p3 := Lib.hid ho.out.fv
    have p4 : Hid (Ap (.slice B s.m.length d) (.slice A' (s.f.length + 1) c')) := Lib.hid (fun k hk hk' => by
      rcases hat.out with h | h <;> rw [h] at hk'
      · exact p1.out k hk hk'
      · injection hk' with hk'; have := r1.out k hk; have := hS4.out; omega)
    have p5 : Hid (Ap (.slice A' (s.f.length + 1) c') (.slice B3 s.v.length d3)) := Lib.hid (fun k hk hk' => by
      rcases hat.out with h | h <;> rw [h] at hk
      · exact p3.out k hk hk'
      · injection hk with hk; have := r3.out k hk'; have := hS4.out; omega)
    have q1 : Hid (∀ k, obk (.slice A' (s.f.length + 1) c') = some k → w.heap.size ≤ k ∧ ¬ (k = w.heap.size + 1 ∨ k = w3.heap.size)) := Lib.hid (fun k hk => by
      rcases hat.out with h | h <;> rw [h] at hk
      · have := r2.out k hk; omega
      · injection hk with hk; have := hS4.out; omega)
    have n1 : w3.heap.size ≠ w.heap.size + 1 := by omega
    have n2 : w.heap.size + 1 ≠ w3.heap.size := by omega
    clear ho hF hat HX hB4 hS4 h2 h3 h4
    go_wp2_with fail
    refine bodyPost_ret (v := .agg #[.slice B s.m.length d, .slice A' (s.f.length + 1) c', .slice B3 s.v.length d3, .slice B4 s.h.length d4]) (by simp [results, Try.results25, go_sem, g0, g1, g2, g3, n1, n2]) rfl ?_
    have q0 := hz1.out; have q2 := hsz.out
    exact NewS.fin2 (S := fun k => k = w.heap.size + 1 ∨ k = w3.heap.size) (V := ⟨.slice B s.m.length d, .slice A' (s.f.length + 1) c', .slice B3 s.v.length d3, .slice B4 s.h.length d4⟩) (s := ⟨s.m, s.f ++ [p], s.v, s.h⟩) om.out (by simpa using hO.out) ov.out oh.out
      (fun k hk => by have := r1.out k hk; omega) q1.out (fun k hk => by have := r3.out k hk; omega) (fun k hk => by have := r4.out k hk; omega) p4.out p2.out p5.out HB.out
      (by repeat (first | exact Fr.refl _ _ | refine Fr.trans ?_ (Fr.set (by first | exact .inl rfl | exact .inr rfl) _))) (fun k hk => by omega)
set_option maxHeartbeats 4000000 in
theorem free25n (V : Sv) (s : St) (p : Int) (w : World) (h : RdS w V s) (hno : ¬ (OkS s ∧ (0 ≤ p ∧ p ≤ 19) ∧ p ∉ s.m ∧ p ∉ s.f)) (hl : s.m.length + s.f.length + s.v.length + s.h.length ≤ 1048576) :
    Calls Try.prog 25 #[V.agg, .int .i64 p] w (NewS w ⟨[], [], [], []⟩) := by
  have H := Lib.hid h
  obtain ⟨A, c, A2, c2, A3, c3, A4, c4, rfl⟩ := h.form
  have HL := Lib.hid hl
  by_cases hok : OkS s
  · have HK := Lib.hid hok
    by_cases hp : 0 ≤ p ∧ p ≤ 19
    · have HP := Lib.hid hp
      by_cases hm : p ∈ s.m
      · have HM := Lib.hid hm
        clear h hok hm hp hl hno
        go_enter Try.func25, Try.ntmps25
        go_wp2_with fail
        obtain ⟨w0, hW, HB, k0, k1, hz⟩ := bx2 w #[.slice A s.m.length c, .slice A2 s.f.length c2, .slice A3 s.v.length c3, .slice A4 s.h.length c4] 25 #[.slice none 0 0, .slice none 0 0, .slice none 0 0, .slice none 0 0] 25
        rw [hW]; clear hW
        ((with_reducible refine (ok20 ⟨_, _, _, _⟩ s _ (H.out.below HB.out) (by have := HL.out; omega) true (by simp [HK.out])).mono ?_); rintro e w1 ⟨rfl, hb⟩)
        replace HB := Lib.hid (bl_step HB.out hb)
        replace k0 := Lib.hid (k0.out.below hb)
        replace k1 := Lib.hid (k1.out.below hb)
        clear hb
        go_wp2_with fail
        ((with_reducible refine (phy54 p true (by simp; exact HP.out) _).mono ?_); rintro e w' ⟨rfl, rfl⟩)
        obtain ⟨e0, e1, e2, e3⟩ := box4 k0.out
        go_wp2_with fail
        ((with_reducible refine (has55 _ s.m p true (by simp [HM.out]) _ (H.out.m.below HB.out)).mono ?_); rintro e w' ⟨rfl, n, rfl⟩)
        replace HB := Lib.hid (bl_drewN HB.out n)
        replace k1 := Lib.hid (k1.out.drewN n)
        generalize w1.drewN n = w2 at HB k1 ⊢
        clear e0 e1 e2 e3
        obtain ⟨g0, g1, g2, g3⟩ := box4 k1.out
        have y0 := k1.out.frozen
        go_wp2_with fail
        refine bodyPost_ret (v := .agg #[.slice none 0 0, .slice none 0 0, .slice none 0 0, .slice none 0 0]) (by simp [results, Try.results25, go_sem, g0, g1, g2, g3]) rfl ?_
        refine NewS.zero (Fr.below (S := fun k => k = w.heap.size + 1) HB.out ?_ HB.out.size (fun k hk => by omega))
        repeat (first | exact Fr.refl _ _ | refine Fr.trans ?_ (Fr.set (by exact rfl) _))
      · have hf : p ∈ s.f := by
          by_cases hf : p ∈ s.f
          · exact hf
          · exact absurd ⟨hok, hp, hm, hf⟩ hno
        have HM := Lib.hid hm
        have HF := Lib.hid hf
        clear h hok hm hp hl hno hf
        go_enter Try.func25, Try.ntmps25
        go_wp2_with fail
        obtain ⟨w0, hW, HB, k0, k1, hz⟩ := bx2 w #[.slice A s.m.length c, .slice A2 s.f.length c2, .slice A3 s.v.length c3, .slice A4 s.h.length c4] 25 #[.slice none 0 0, .slice none 0 0, .slice none 0 0, .slice none 0 0] 25
        rw [hW]; clear hW
        ((with_reducible refine (ok20 ⟨_, _, _, _⟩ s _ (H.out.below HB.out) (by have := HL.out; omega) true (by simp [HK.out])).mono ?_); rintro e w1 ⟨rfl, hb⟩)
        replace HB := Lib.hid (bl_step HB.out hb)
        replace k0 := Lib.hid (k0.out.below hb)
        replace k1 := Lib.hid (k1.out.below hb)
        clear hb
        go_wp2_with fail
        ((with_reducible refine (phy54 p true (by simp; exact HP.out) _).mono ?_); rintro e w' ⟨rfl, rfl⟩)
        obtain ⟨e0, e1, e2, e3⟩ := box4 k0.out
        go_wp2_with fail
        ((with_reducible refine (has55 _ s.m p false (by simp [HM.out]) _ (H.out.m.below HB.out)).mono ?_); rintro e w' ⟨rfl, n, rfl⟩)
        go_wp2_with fail
        ((with_reducible refine (has55 _ s.f p true (by simp [HF.out]) _ (H.out.f.below (bl_drewN HB.out _))).mono ?_); rintro e w' ⟨rfl, n2, rfl⟩)
        replace HB := Lib.hid (bl_drewN (bl_drewN HB.out n) n2)
        replace k1 := Lib.hid ((k1.out.drewN n).drewN n2)
        generalize (w1.drewN n).drewN n2 = w2 at HB k1 ⊢
        clear e0 e1 e2 e3
        obtain ⟨g0, g1, g2, g3⟩ := box4 k1.out
        have y0 := k1.out.frozen
        go_wp2_with fail
        refine bodyPost_ret (v := .agg #[.slice none 0 0, .slice none 0 0, .slice none 0 0, .slice none 0 0]) (by simp [results, Try.results25, go_sem, g0, g1, g2, g3]) rfl ?_
        refine NewS.zero (Fr.below (S := fun k => k = w.heap.size + 1) HB.out ?_ HB.out.size (fun k hk => by omega))
        repeat (first | exact Fr.refl _ _ | refine Fr.trans ?_ (Fr.set (by exact rfl) _))
    · have HP := Lib.hid hp
      clear h hok hp hl hno
      go_enter Try.func25, Try.ntmps25
      go_wp2_with fail
      obtain ⟨w0, hW, HB, k0, k1, hz⟩ := bx2 w #[.slice A s.m.length c, .slice A2 s.f.length c2, .slice A3 s.v.length c3, .slice A4 s.h.length c4] 25 #[.slice none 0 0, .slice none 0 0, .slice none 0 0, .slice none 0 0] 25
      rw [hW]; clear hW
      ((with_reducible refine (ok20 ⟨_, _, _, _⟩ s _ (H.out.below HB.out) (by have := HL.out; omega) true (by simp [HK.out])).mono ?_); rintro e w1 ⟨rfl, hb⟩)
      replace HB := Lib.hid (bl_step HB.out hb)
      replace k0 := Lib.hid (k0.out.below hb)
      replace k1 := Lib.hid (k1.out.below hb)
      clear hb
      go_wp2_with fail
      ((with_reducible refine (phy54 p false (by simp only [Bool.false_eq_true, false_iff]; exact HP.out) _).mono ?_); rintro e w' ⟨rfl, rfl⟩)
      obtain ⟨g0, g1, g2, g3⟩ := box4 k1.out
      have y0 := k1.out.frozen
      go_wp2_with fail
      refine bodyPost_ret (v := .agg #[.slice none 0 0, .slice none 0 0, .slice none 0 0, .slice none 0 0]) (by simp [results, Try.results25, go_sem, g0, g1, g2, g3]) rfl ?_
      refine NewS.zero (Fr.below (S := fun k => k = w.heap.size + 1) HB.out ?_ HB.out.size (fun k hk => by omega))
      repeat (first | exact Fr.refl _ _ | refine Fr.trans ?_ (Fr.set (by exact rfl) _))
  · have HK := Lib.hid hok
    clear h hok hl hno
    go_enter Try.func25, Try.ntmps25
    go_wp2_with fail
    obtain ⟨w0, hW, HB, k0, k1, hz⟩ := bx2 w #[.slice A s.m.length c, .slice A2 s.f.length c2, .slice A3 s.v.length c3, .slice A4 s.h.length c4] 25 #[.slice none 0 0, .slice none 0 0, .slice none 0 0, .slice none 0 0] 25
    rw [hW]; clear hW
    ((with_reducible refine (ok20 ⟨_, _, _, _⟩ s _ (H.out.below HB.out) (by have := HL.out; omega) false (by simp [HK.out])).mono ?_); rintro e w1 ⟨rfl, hb⟩)
    replace HB := Lib.hid (bl_step HB.out hb)
    replace k0 := Lib.hid (k0.out.below hb)
    replace k1 := Lib.hid (k1.out.below hb)
    clear hb
    obtain ⟨g0, g1, g2, g3⟩ := box4 k1.out
    have y0 := k1.out.frozen
    go_wp2_with fail
    refine bodyPost_ret (v := .agg #[.slice none 0 0, .slice none 0 0, .slice none 0 0, .slice none 0 0]) (by simp [results, Try.results25, go_sem, g0, g1, g2, g3]) rfl ?_
    refine NewS.zero (Fr.below (S := fun k => k = w.heap.size + 1) HB.out ?_ HB.out.size (fun k hk => by omega))
    repeat (first | exact Fr.refl _ _ | refine Fr.trans ?_ (Fr.set (by exact rfl) _))
end Go.Proofs.Ytiemacjmipiakaa.Nm
