/- NamTake, by both. -/
import Derived.Test.YtiemacjmipiakaaNmZa
namespace Go.Proofs.Ytiemacjmipiakaa.Nm
open Go.RowKit Go.Proofs.Ytiemacjmipiakaa.Hw
set_option linter.unusedVariables false
set_option linter.unusedSimpArgs false
/-- A state, two numbers and a bool are returned. -/
def NewT (w : World) (s : St) (a b : Int) (k : Bool) (e : Ending) (w' : World) : Prop := ∃ V : Sv, e = .returned (.tuple #[V.agg, .int .i64 a, .int .i64 b, .bool k]) ∧ Hid (OwS w.heap.size w'.heap.size w' V s) ∧ Hid (Below w.heap.size w w')
theorem NewT.of {w wf : World} {V : Sv} {s : St} (a b : Int) (k : Bool) (h : NewS w s (.returned V.agg) wf) : NewT w s a b k (.returned (.tuple #[V.agg, .int .i64 a, .int .i64 b, .bool k])) wf := by
  obtain ⟨V', e, ho, hb⟩ := h
  have : V = V' := by
    obtain ⟨a, b, c, d⟩ := V
    obtain ⟨a', b', c', d'⟩ := V'
    simp at e
    obtain ⟨rfl, rfl, rfl, rfl⟩ := e
    rfl
  subst this
  exact ⟨V, rfl, ho, hb⟩
theorem OwS.all {B C B' : Nat} {w : World} {V : Sv} {s : St} (h : OwS B C w V s) (hB : B' ≤ B) : OwS B' w.heap.size w V s :=
  ⟨h.m, h.f, h.v, h.h, fun k hk => ⟨Nat.le_trans hB (h.rm k hk).1, h.m.lt k hk⟩, fun k hk => ⟨Nat.le_trans hB (h.rf k hk).1, h.f.lt k hk⟩, fun k hk => ⟨Nat.le_trans hB (h.rv k hk).1, h.v.lt k hk⟩, fun k hk => ⟨Nat.le_trans hB (h.rh k hk).1, h.h.lt k hk⟩, h.mf, h.mv, h.fv⟩
theorem Fill.at_ {l xs : List Int} (h : Fill l xs) (j : Nat) (hj : j < l.length) : xs.getD j 0 = l.getD j 0 := h.2 j hj
def V30 (g b9 b4 lo : Nat) (t : St) (p y : Int) (kk : Bool) : Nat → (Nat → Value) → World → Prop
  | 0, q, w' => (q 0) = .pointer (some ⟨g, 0, none⟩)
  | 1, q, w' => ∃ X : Sv, (q 1) = X.agg ∧ ∃ hi, OwS lo hi w' X t
  | 2, q, w' => (q 2) = .pointer (some ⟨b9, 1, none⟩)
  | 3, q, w' => (q 3) = .int .i64 p
  | 4, q, w' => (q 4) = .pointer (some ⟨b9, 2, none⟩)
  | 5, q, w' => (q 5) = .int .i64 y
  | 6, q, w' => (q 6) = .bool kk
  | 7, q, w' => ∃ X : Sv, q 1 = X.agg ∧ (∃ hi, OwS lo hi w' X t) ∧ Bk w' b4 #[X.m, X.f, X.v, X.h] 25
  | 8, q, w' => (q 8) = .int .i64 p
  | 9, q, w' => (q 9) = .int .i64 y
  | 10, q, w' => (q 10) = .bool kk
  | _, _, _ => True
set_option maxHeartbeats 8000000 in
theorem take29y (V : Sv) (s : St) (d : Int) (w : World) (h : RdS w V s) (x y : Int) (r : List Int) (hok : OkS s) (hd : 1 ≤ d ∧ d ≤ 7) (hf : s.f = x :: r) (hye : s.m.getD d.toNat 0 = y) (hl : s.m.length + s.f.length + s.v.length + s.h.length ≤ 1048576) : Calls Try.prog 29 #[V.agg, .int .i64 d] w (NewT w ⟨s.m.set d.toNat x, r, s.v, s.h.set x.toNat false⟩ x y true) := by
  have H := Lib.hid h
  obtain ⟨A, c, A2, c2, A3, c3, A4, c4, rfl⟩ := h.form
  have HL := Lib.hid hl
  clear hl
  have HK := Lib.hid hok; have HD := Lib.hid hd; have HF := Lib.hid hf
  have HX : Hid (0 ≤ x ∧ x ≤ 19) := Lib.hid (hok.a.2 x (List.mem_append_right _ (by rw [hf]; simp)))
  have HRL : Hid (r.length ≤ 11) := Lib.hid (by have := hok.fl; rw [hf] at this; simp at this; omega)
  have hy := Lib.hid hye
  clear h hok hd hf hye
  go_enter Try.func29, Try.ntmps29
  go_wp2_with fail
  obtain ⟨w0, hW, HB, k0, k1, hz⟩ := bx2 w #[.slice A s.m.length c, .slice A2 s.f.length c2, .slice A3 s.v.length c3, .slice A4 s.h.length c4] 25 #[.slice none 0 0, .slice none 0 0, .slice none 0 0, .slice none 0 0] 25
  rw [hW]; clear hW
  ((with_reducible refine (ok20 ⟨_, _, _, _⟩ s _ (H.out.below HB.out) (by have := HL.out; omega) true (by simp [HK.out])).mono ?_); rintro e w1 ⟨rfl, hb⟩)
  replace HB := Lib.hid (bl_step HB.out hb)
  replace k0 := Lib.hid (k0.out.below hb)
  replace k1 := Lib.hid (k1.out.below hb)
  clear hb
  go_wp2_with fail
  ((with_reducible refine (in61 d 1 7 true (by simp; exact HD.out) _).mono ?_); rintro e w' ⟨rfl, rfl⟩)
  have dz : ((s.f.length : Int) == 0) = false := beq_eq_false_iff_ne.mpr (by simp [HF.out]; omega)
  obtain ⟨e0, e1, e2, e3⟩ := box4 k0.out
  go_wp2_with fail
  clear e0 e1 e2 e3 dz
  ((with_reducible refine (copy56 ⟨_, _, _, _⟩ s _ (H.out.below HB.out) HL.out).mono ?_); rintro e w3 ⟨X, rfl, ho, hb⟩)
  have hlt := Lib.hid k1.out.lt
  replace HB := Lib.hid (bl_step HB.out hb.out)
  replace k1 := Lib.hid (k1.out.below hb.out)
  clear hb k0
  have ho' : Hid (OwS w1.heap.size w3.heap.size w3 X ⟨s.m, x :: r, s.v, s.h⟩) := Lib.hid (by have := ho.out; rw [← HF.out]; exact this)
  clear ho
  go_wp2_with fail
  ((with_reducible refine (take65 w1.heap.size w3.heap.size X s.m r s.v x s.h d _ ho'.out (Nat.le_refl _) HK.out.m HK.out.h (by have := HRL.out; omega) (by have := HD.out; omega) (by have := HD.out; omega) HX.out.1 HX.out.2).mono ?_); rintro e w4 ⟨Y, rfl, hr, hf⟩)
  rw [hy.out]
  obtain ⟨Y1, y1, Y2, y2, Y3, y3, Y4, y4, rfl⟩ := hr.out.form
  replace k1 := Lib.hid (k1.out.fr hf.out (fun hk => by have := hlt.out; have := k1.out.lt; omega))
  replace HB := Lib.hid (hf.out.below HB.out HB.out.size (fun k hk => by have := hlt.out; have := HB.out.size; omega))
  clear ho' hf
  go_wp2_with fail
  obtain ⟨w5, hW, hb, k9, hz5⟩ := bx1 w4 #[.slice Y1 (s.m.set d.toNat x).length y1, .slice Y2 r.length y2, .slice Y3 s.v.length y3, .slice Y4 (s.h.set x.toNat false).length y4] 25
  replace HB := Lib.hid (bl_step HB.out hb.out)
  replace k1 := Lib.hid (k1.out.below hb.out)
  have hr' := Lib.hid (hr.out.below hb.out)
  simp only [List.length_set] at hW hr'
  rw [hW]; clear hW
  ((with_reducible refine (copy56 ⟨_, _, _, _⟩ ⟨s.m.set d.toNat x, r, s.v, s.h.set x.toNat false⟩ _ hr'.out (by have := HRL.out; have := HK.out.m; have := HK.out.v; have := HK.out.h; simp; omega)).mono ?_); rintro e w6 ⟨X, rfl, ho, hb⟩)
  obtain ⟨B, q, B2, q2, B3, q3, B4, q4, rfl⟩ := ho.out.rd.form
  replace hlt := Lib.hid k1.out.lt
  replace HB := Lib.hid (bl_step HB.out hb.out)
  replace k1 := Lib.hid (k1.out.below hb.out)
  clear hb hr hr' k9
  dsimp only at ho
  simp only [List.length_set] at ho
  obtain ⟨g0, g1, g2, g3⟩ := box4 k1.out
  have y0 := k1.out.frozen
  go_wp2_with fail
  refine bodyPost_ret (v := .tuple #[.agg #[.slice B s.m.length q, .slice B2 r.length q2, .slice B3 s.v.length q3, .slice B4 s.h.length q4], .int .i64 x, .int .i64 y, .bool true]) (by simp [results, Try.results29, go_sem, g0, g1, g2, g3]) rfl ?_
  have hlt' := hlt.out
  refine NewT.of (V := ⟨.slice B s.m.length q, .slice B2 r.length q2, .slice B3 s.v.length q3, .slice B4 s.h.length q4⟩) _ _ _ (NewS.fin (n := w5.heap.size) ho.out HB.out (by omega) ?_)
  repeat (first | exact Fr.refl _ _ | refine Fr.trans ?_ (Fr.set (by simp only []; omega) _))
set_option maxHeartbeats 8000000 in
theorem take29e (V : Sv) (s : St) (d : Int) (w : World) (h : RdS w V s) (hok : OkS s) (hd : 1 ≤ d ∧ d ≤ 7) (hf : s.f = []) (hl : s.m.length + s.f.length + s.v.length + s.h.length ≤ 1048576) : Calls Try.prog 29 #[V.agg, .int .i64 d] w (NewT w s 0 0 false) := by
  have H := Lib.hid h
  obtain ⟨A, c, A2, c2, A3, c3, A4, c4, rfl⟩ := h.form
  have HL := Lib.hid hl
  clear hl
  have HK := Lib.hid hok; have HD := Lib.hid hd; have HF := Lib.hid hf
  clear h hok hd hf
  go_enter Try.func29, Try.ntmps29
  go_wp2_with fail
  obtain ⟨w0, hW, HB, k0, k1, hz⟩ := bx2 w #[.slice A s.m.length c, .slice A2 s.f.length c2, .slice A3 s.v.length c3, .slice A4 s.h.length c4] 25 #[.slice none 0 0, .slice none 0 0, .slice none 0 0, .slice none 0 0] 25
  rw [hW]; clear hW
  ((with_reducible refine (ok20 ⟨_, _, _, _⟩ s _ (H.out.below HB.out) (by have := HL.out; omega) true (by simp [HK.out])).mono ?_); rintro e w1 ⟨rfl, hb⟩)
  replace HB := Lib.hid (bl_step HB.out hb)
  replace k0 := Lib.hid (k0.out.below hb)
  replace k1 := Lib.hid (k1.out.below hb)
  clear hb
  go_wp2_with fail
  ((with_reducible refine (in61 d 1 7 true (by simp; exact HD.out) _).mono ?_); rintro e w' ⟨rfl, rfl⟩)
  have dz : ((s.f.length : Int) == 0) = true := by simp [HF.out]
  obtain ⟨e0, e1, e2, e3⟩ := box4 k0.out
  go_wp2_with fail
  clear e0 e1 e2 e3 dz
  ((with_reducible refine (copy56 ⟨_, _, _, _⟩ s _ (H.out.below HB.out) HL.out).mono ?_); rintro e w3 ⟨X, rfl, ho, hb⟩)
  have hlt := Lib.hid k1.out.lt
  replace HB := Lib.hid (bl_step HB.out hb.out)
  replace k1 := Lib.hid (k1.out.below hb.out)
  clear hb k0
  obtain ⟨B, q, B2, q2, B3, q3, B4, q4, rfl⟩ := ho.out.rd.form
  obtain ⟨g0, g1, g2, g3⟩ := box4 k1.out
  have y0 := k1.out.frozen
  go_wp2_with fail
  refine bodyPost_ret (v := .tuple #[.agg #[.slice B s.m.length q, .slice B2 s.f.length q2, .slice B3 s.v.length q3, .slice B4 s.h.length q4], .int .i64 0, .int .i64 0, .bool false]) (by simp [results, Try.results29, go_sem, g0, g1, g2, g3]) rfl ?_
  have hlt' := hlt.out
  refine NewT.of (V := ⟨.slice B s.m.length q, .slice B2 s.f.length q2, .slice B3 s.v.length q3, .slice B4 s.h.length q4⟩) _ _ _ (NewS.fin (n := w1.heap.size) ho.out HB.out (by omega) ?_)
  repeat (first | exact Fr.refl _ _ | refine Fr.trans ?_ (Fr.set (by simp only []; omega) _))
set_option maxHeartbeats 8000000 in
theorem take29n (V : Sv) (s : St) (d : Int) (w : World) (h : RdS w V s) (hno : ¬ (OkS s ∧ 1 ≤ d ∧ d ≤ 7)) (hl : s.m.length + s.f.length + s.v.length + s.h.length ≤ 1048576) : Calls Try.prog 29 #[V.agg, .int .i64 d] w (NewT w ⟨[], [], [], []⟩ 0 0 false) := by
  have H := Lib.hid h
  obtain ⟨A, c, A2, c2, A3, c3, A4, c4, rfl⟩ := h.form
  have HL := Lib.hid hl
  clear hl
  clear h
  by_cases hok : OkS s
  · have HK := Lib.hid hok
    have HD : Hid (¬ (1 ≤ d ∧ d ≤ 7)) := Lib.hid (fun h => hno ⟨hok, h⟩)
    clear hok hno
    go_enter Try.func29, Try.ntmps29
    go_wp2_with fail
    obtain ⟨w0, hW, HB, k0, k1, hz⟩ := bx2 w #[.slice A s.m.length c, .slice A2 s.f.length c2, .slice A3 s.v.length c3, .slice A4 s.h.length c4] 25 #[.slice none 0 0, .slice none 0 0, .slice none 0 0, .slice none 0 0] 25
    rw [hW]; clear hW
    ((with_reducible refine (ok20 ⟨_, _, _, _⟩ s _ (H.out.below HB.out) (by have := HL.out; omega) true (by simp [HK.out])).mono ?_); rintro e w1 ⟨rfl, hb⟩)
    replace HB := Lib.hid (bl_step HB.out hb)
    replace k0 := Lib.hid (k0.out.below hb)
    replace k1 := Lib.hid (k1.out.below hb)
    clear hb
    go_wp2_with fail
    ((with_reducible refine (in61 d 1 7 false (by simp only [Bool.false_eq_true, false_iff]; exact HD.out) _).mono ?_); rintro e w' ⟨rfl, rfl⟩)
    obtain ⟨g0, g1, g2, g3⟩ := box4 k1.out
    have y0 := k1.out.frozen
    go_wp2_with fail
    refine bodyPost_ret (v := .tuple #[.agg #[.slice none 0 0, .slice none 0 0, .slice none 0 0, .slice none 0 0], .int .i64 0, .int .i64 0, .bool false]) (by simp [results, Try.results29, go_sem, g0, g1, g2, g3]) rfl ?_
    refine NewT.of (V := ⟨.slice none 0 0, .slice none 0 0, .slice none 0 0, .slice none 0 0⟩) _ _ _ (NewS.zero (Fr.below (S := fun k => k = w.heap.size + 1) HB.out ?_ HB.out.size (fun k hk => by omega)))
    repeat (first | exact Fr.refl _ _ | refine Fr.trans ?_ (Fr.set (by exact rfl) _))
  · have HK := Lib.hid hok
    clear hok hno
    go_enter Try.func29, Try.ntmps29
    go_wp2_with fail
    obtain ⟨w0, hW, HB, k0, k1, hz⟩ := bx2 w #[.slice A s.m.length c, .slice A2 s.f.length c2, .slice A3 s.v.length c3, .slice A4 s.h.length c4] 25 #[.slice none 0 0, .slice none 0 0, .slice none 0 0, .slice none 0 0] 25
    rw [hW]; clear hW
    ((with_reducible refine (ok20 ⟨_, _, _, _⟩ s _ (H.out.below HB.out) (by have := HL.out; omega) false (by simp [HK.out])).mono ?_); rintro e w1 ⟨rfl, hb⟩)
    replace HB := Lib.hid (bl_step HB.out hb)
    replace k0 := Lib.hid (k0.out.below hb)
    replace k1 := Lib.hid (k1.out.below hb)
    clear hb
    obtain ⟨g0, g1, g2, g3⟩ := box4 k1.out
    have y0 := k1.out.frozen
    go_wp2_with fail
    refine bodyPost_ret (v := .tuple #[.agg #[.slice none 0 0, .slice none 0 0, .slice none 0 0, .slice none 0 0], .int .i64 0, .int .i64 0, .bool false]) (by simp [results, Try.results29, go_sem, g0, g1, g2, g3]) rfl ?_
    refine NewT.of (V := ⟨.slice none 0 0, .slice none 0 0, .slice none 0 0, .slice none 0 0⟩) _ _ _ (NewS.zero (Fr.below (S := fun k => k = w.heap.size + 1) HB.out ?_ HB.out.size (fun k hk => by omega)))
    repeat (first | exact Fr.refl _ _ | refine Fr.trans ?_ (Fr.set (by exact rfl) _))
set_option maxHeartbeats 8000000 in
theorem take30y (V : Sv) (s : St) (d : Int) (w : World) (h : RdS w V s) (x y : Int) (r : List Int) (hok : OkS s) (hd : 1 ≤ d ∧ d ≤ 7) (hf : s.f = x :: r) (hye : s.m.getD d.toNat 0 = y) : Calls Try.prog 30 #[V.agg, .int .i64 d] w (NewT w ⟨s.m.set d.toNat x, r, s.v, s.h.set x.toNat false⟩ x y true) := by
  have H := Lib.hid h
  obtain ⟨A, c, A2, c2, A3, c3, A4, c4, rfl⟩ := h.form
  have HK := Lib.hid hok; have HD := Lib.hid hd; have HF := Lib.hid hf
  have HX : Hid (0 ≤ x ∧ x ≤ 19) := Lib.hid (hok.a.2 x (List.mem_append_right _ (by rw [hf]; simp)))
  have HRL : Hid (r.length ≤ 11) := Lib.hid (by have := hok.fl; rw [hf] at this; simp at this; omega)
  have hy := Lib.hid hye
  clear h hok hd hf hye
  go_enter Try.func30, Try.ntmps30
  go_wp2_with fail
  obtain ⟨w0, hW, HB, k0, k1, hz⟩ := bx2 w #[.slice A s.m.length c, .slice A2 s.f.length c2, .slice A3 s.v.length c3, .slice A4 s.h.length c4] 25 #[.slice none 0 0, .slice none 0 0, .slice none 0 0, .slice none 0 0] 25
  rw [hW]; clear hW
  ((with_reducible refine (ok22 ⟨_, _, _, _⟩ s _ (H.out.below HB.out) true (by simp [HK.out])).mono ?_); rintro e w1 ⟨rfl, hb⟩)
  replace HB := Lib.hid (bl_step HB.out hb)
  replace k0 := Lib.hid (k0.out.below hb)
  replace k1 := Lib.hid (k1.out.below hb)
  clear hb
  go_wp2_with fail
  ((with_reducible refine (reg63 d true (by simp; have := HD.out; omega) _).mono ?_); rintro e w' ⟨rfl, rfl⟩)
  obtain ⟨e0, e1, e2, e3⟩ := box4 k0.out
  go_wp2_with fail
  ((with_reducible refine (names58 ⟨_, _, _, _⟩ s _ (H.out.below HB.out) HK.out.m (by have := HK.out.fl; omega) (HK.out.ml (by have := HK.out.fl; omega))).mono ?_); rintro e w3 ⟨g, xs, vv, hh, rfl, hF, HN, hb⟩)
  have hg : Hid (w.heap.size + 2 ≤ g) := Lib.hid (by have := HN.out.hg; have := k1.out.lt; omega)
  have hl1 := Lib.hid k1.out.lt
  have HP := Lib.hid hF
  replace HB := Lib.hid (bl_step HB.out hb.out)
  replace k1 := Lib.hid (k1.out.below hb.out)
  clear hb e0 e1 e2 e3 k0 hF
  go_wp2_with fail
  ((with_reducible refine (take66y _ g s.m xs 0 s.f.length s.v s.h vv hh d x _ HN.out (by omega) (by rw [HF.out]; simp) (by have := HK.out.fl; omega) (by have := HD.out; omega) (by have := HD.out; omega) (by have h2 := Fill.at_ HP.out 0 (by rw [HF.out]; simp); rw [h2, HF.out]; simp) HX.out.1 HX.out.2 HK.out.h).mono ?_); rintro e w4 ⟨rfl, HN2, hf⟩)
  rw [hy.out]
  replace k1 := Lib.hid (k1.out.fr hf.out (fun hk => by
    rcases hk with hk | hk
    · have := hg.out; omega
    · have := HN.out.h.2.2 _ hk; have := hl1.out; omega))
  replace HB := Lib.hid (hf.out.below HB.out HB.out.size (fun k hk => by
    rcases hk with hk | hk
    · have := hg.out; omega
    · have := HN.out.h.2.2 _ hk; have := hl1.out; omega))
  have HR : Hid (rl xs ((0 + 1) % 20) (s.f.length - 1) = r) := Lib.hid (by
    have h1 := rl_fill _ _ HP.out (by have := HK.out.fl; omega)
    have hl := HK.out.fl
    rw [HF.out] at h1 hl ⊢
    simp only [List.length_cons] at h1 hl ⊢
    have h2 : rl xs 0 (r.length + 1) = xs.getD (0 % 20) 0 :: rl xs 1 r.length := by
      simp only [rl, List.range_succ_eq_map, List.map_cons, List.map_map, Nat.zero_add]
      congr 1
      refine List.map_congr_left (fun j _ => ?_)
      simp [Nat.add_comm]
    rw [h2] at h1
    simpa using (List.cons.inj h1).2)
  clear HN hf
  have HN := HN2
  clear HN2
  go_wp2_with fail
  obtain ⟨w5, hW, hb, k9, hz5⟩ := bx1 w4 #[.int .i64 d, .int .i64 x, .int .i64 y] 73
  rw [hW]; clear hW
  replace HN := Lib.hid (HN.out.below hb.out)
  replace HB := Lib.hid (bl_step HB.out hb.out)
  have hl4 := Lib.hid k1.out.lt
  replace k1 := Lib.hid (k1.out.below hb.out)
  clear hb
  have hlo : Hid (w.heap.size + 1 < w5.heap.size) := Lib.hid k1.out.lt
  have hlo9 : Hid (w.heap.size + 1 < w4.heap.size) := hl4
  obtain ⟨b6, hb6⟩ : ∃ b, b = w5.heap.size := ⟨_, rfl⟩
  rw [← hb6] at hlo
  obtain ⟨t0, ht0⟩ : ∃ t0, t0 = (⟨s.m.set d.toNat x, r, s.v, s.h.set x.toNat false⟩ : St) := ⟨_, rfl⟩
  refine wp_flow mixed [[], [0], [], [2], [], [4], [], [1], [3], [5], [6]] (fun w' => Below w.heap.size w w' ∧ Nb w1.heap.size g (s.m.set d.toNat x) xs ((0 + 1) % 20) (s.f.length - 1) s.v (s.h.set x.toNat false) vv hh w' ∧ Bk w' w4.heap.size #[.int .i64 d, .int .i64 x, .int .i64 y] 73 ∧ (∃ a0 a1 a2 a3, Bk w' (w.heap.size + 1) #[a0, a1, a2, a3] 25) ∧ b6 ≤ w'.heap.size) (fun i w1 w2 => if i = 7 then Fr (fun k => k = w.heap.size + 1) w1 w2 else Below w1.heap.size w1 w2) (V30 g w4.heap.size (w.heap.size + 1) b6 t0 x y true) (by kernel_rfl) ⟨bl_drew HB.out, HN.out.below (bl_drew (bl_refl _)), k9.out, ⟨_, _, _, _, k1.out⟩, by rw [hb6]; exact Nat.le_refl _⟩ ?_ ?_ ?_
  · intro i j q v w1 w2 hij hni hv hT hvi
    match j, hv, hni, hij with
    | 0, hv, hni, hij => rw [V30, upd_ne q i v 0 (Ne.symm hij)]; exact hv
    | 1, hv, hni, hij => rw [V30, upd_ne q i v 1 (Ne.symm hij)]; obtain ⟨X, e, hi, ho⟩ := hv; exact ⟨X, e, hi, if h7 : i = 7 then (by rw [if_pos h7] at hT; exact ho.fr hT (fun k h1 _ h2 => by have := hlo.out; omega)) else (by rw [if_neg h7] at hT; exact ho.below hT)⟩
    | 2, hv, hni, hij => rw [V30, upd_ne q i v 2 (Ne.symm hij)]; exact hv
    | 3, hv, hni, hij => rw [V30, upd_ne q i v 3 (Ne.symm hij)]; exact hv
    | 4, hv, hni, hij => rw [V30, upd_ne q i v 4 (Ne.symm hij)]; exact hv
    | 5, hv, hni, hij => rw [V30, upd_ne q i v 5 (Ne.symm hij)]; exact hv
    | 6, hv, hni, hij => rw [V30, upd_ne q i v 6 (Ne.symm hij)]; exact hv
    | 7, hv, hni, hij => rw [V30, upd_need q i v 1 _ hni (by simp)]; obtain ⟨X, e, ⟨hi, ho⟩, hk⟩ := hv; rw [if_neg hij] at hT; exact ⟨X, e, ⟨hi, ho.below hT⟩, hk.below hT⟩
    | 8, hv, hni, hij => rw [V30, upd_ne q i v 8 (Ne.symm hij)]; exact hv
    | 9, hv, hni, hij => rw [V30, upd_ne q i v 9 (Ne.symm hij)]; exact hv
    | 10, hv, hni, hij => rw [V30, upd_ne q i v 10 (Ne.symm hij)]; exact hv
    | n + 11, _, _, _ => exact trivial
  · intro i o hi a w' hS hD hO hs
    match i, hi with
    | 0, hi =>
      obtain rfl := Option.some.inj hi
      have d0 : a.tmps.getD 8 undef = .pointer (some ⟨g, 0, none⟩) := hO 8 (by kernel_rfl)
      refine step_val rfl (.pointer (some ⟨g, 0, none⟩)) w' ?_ (by simp) hS (by simpa using bl_refl w') rfl
      simp only [execOp, Act.eval, d0]
      go_simp
    | 1, hi =>
      obtain rfl := Option.some.inj hi
      have d0 : a.tmps.getD 28 undef = .pointer (some ⟨g, 0, none⟩) := hD 0 (by simp)
      refine step_call rfl 60 #[.pointer (some ⟨g, 0, none⟩)] (by simp only [execOp, Act.eval, d0]; clear hD hO hs; go_simp) (by simp) _ (state60 _ g (s.m.set d.toNat x) xs ((0 + 1) % 20) (s.f.length - 1) s.v (s.h.set x.toNat false) vv hh w' hS.2.1 (by omega) (by have := HK.out.fl; omega) (by have := HK.out.v; have := HK.out.h; simp; omega)) ?_
      rintro e w2 ⟨X, rfl, ho, hb⟩
      refine ⟨_, rfl, ⟨bl_step hS.1 hb.out, hS.2.1.below hb.out, hS.2.2.1.below hb.out, by obtain ⟨a0, a1, a2, a3, h⟩ := hS.2.2.2.1; exact ⟨a0, a1, a2, a3, h.below hb.out⟩, Nat.le_trans hS.2.2.2.2 hb.out.size⟩, by simpa using hb.out, X, upd_self .., w2.heap.size, ?_⟩
      have := ho.out.mono hS.2.2.2.2 (Nat.le_refl _)
      rw [HR.out] at this
      rw [ht0]; exact this
    | 2, hi =>
      obtain rfl := Option.some.inj hi
      have d0 : a.tmps.getD 9 undef = .pointer (some ⟨w4.heap.size, 0, none⟩) := hO 9 (by kernel_rfl)
      refine step_val rfl (.pointer (some ⟨w4.heap.size, 1, none⟩)) w' ?_ (by simp) hS (by simpa using bl_refl w') rfl
      simp only [execOp, Act.eval, d0]
      go_simp
    | 3, hi =>
      obtain rfl := Option.some.inj hi
      have d0 : a.tmps.getD 30 undef = .pointer (some ⟨w4.heap.size, 1, none⟩) := hD 2 (by simp)
      have c0 := hS.2.2.1.cell 1
      simp at c0
      refine step_val rfl (.int .i64 x) w' ?_ (by simp) hS (by simpa using bl_refl w') rfl
      simp only [execOp, Act.eval, d0]
      go_simp
    | 4, hi =>
      obtain rfl := Option.some.inj hi
      have d0 : a.tmps.getD 9 undef = .pointer (some ⟨w4.heap.size, 0, none⟩) := hO 9 (by kernel_rfl)
      refine step_val rfl (.pointer (some ⟨w4.heap.size, 2, none⟩)) w' ?_ (by simp) hS (by simpa using bl_refl w') rfl
      simp only [execOp, Act.eval, d0]
      go_simp
    | 5, hi =>
      obtain rfl := Option.some.inj hi
      have d0 : a.tmps.getD 32 undef = .pointer (some ⟨w4.heap.size, 2, none⟩) := hD 4 (by simp)
      have c0 := hS.2.2.1.cell 2
      simp at c0
      refine step_val rfl (.int .i64 y) w' ?_ (by simp) hS (by simpa using bl_refl w') rfl
      simp only [execOp, Act.eval, d0]
      go_simp
    | 6, hi =>
      obtain rfl := Option.some.inj hi
      have d0 : a.tmps.getD 10 undef = .bool true := hO 10 (by kernel_rfl)
      refine step_val rfl (.bool true) w' ?_ (by simp) hS (by simpa using bl_refl w') rfl
      simp only [execOp, Act.eval, d0]
      go_simp
    | 7, hi =>
      obtain rfl := Option.some.inj hi
      obtain ⟨X, d0, hi', ho⟩ : ∃ X : Sv, a.tmps.getD 29 undef = X.agg ∧ ∃ hi, OwS b6 hi w' X t0 := hD 1 (by simp)
      have d4 : a.tmps.getD 4 undef = .pointer (some ⟨w.heap.size + 1, 0, none⟩) := hO 4 (by kernel_rfl)
      obtain ⟨h1, h2, h3, ⟨a0, a1, a2, a3, k1'⟩, h5⟩ := hS
      have hF4 := fr_four w' (w.heap.size + 1) X.m X.f X.v X.h
      have hK4 := bk_four k1' X.m X.f X.v X.h
      refine Hw.step_skip rfl ((((w'.setCell ⟨w.heap.size + 1, 0, none⟩ X.m).setCell ⟨w.heap.size + 1, 1, none⟩ X.f).setCell ⟨w.heap.size + 1, 2, none⟩ X.v).setCell ⟨w.heap.size + 1, 3, none⟩ X.h) ?_ ⟨hF4.below h1 h1.size (fun k hk => by omega), h2.fr hF4 (by have := hg.out; omega) (fun k hk => by have := h2.v.2.2 k hk; have := hl1.out; omega) (fun k hk => by have := h2.h.2.2 k hk; have := hl1.out; omega), h3.fr hF4 (by have := hlo9.out; omega), ⟨_, _, _, _, hK4⟩, Nat.le_trans h5 hF4.size⟩ (by simpa using hF4) ⟨X, by rw [upd_ne _ _ _ 1 (by decide)]; exact d0, ⟨_, ho.fr hF4 (fun k h1 _ h2 => by have := hlo.out; omega)⟩, hK4⟩
      obtain ⟨A1, q1, A2', q2, A3', q3, A4', q4, rfl⟩ := ho.rd.form
      have c0 := k1'.cell 0; have c1 := k1'.cell 1; have c2 := k1'.cell 2; have c3 := k1'.cell 3; have cf := k1'.frozen
      simp at c0 c1 c2 c3
      clear hF4 hK4 h1 h2 h3 h5 ho hD hO hs
      simp only [execOp, Act.eval, d0, d4]
      go_simp
    | 8, hi =>
      obtain rfl := Option.some.inj hi
      have d0 : a.tmps.getD 31 undef = .int .i64 x := hD 3 (by simp)
      refine step_val rfl (.int .i64 x) w' ?_ (by simp) hS (by simpa using bl_refl w') rfl
      simp only [execOp, Act.eval, d0]
      go_simp
    | 9, hi =>
      obtain rfl := Option.some.inj hi
      have d0 : a.tmps.getD 33 undef = .int .i64 y := hD 5 (by simp)
      refine step_val rfl (.int .i64 y) w' ?_ (by simp) hS (by simpa using bl_refl w') rfl
      simp only [execOp, Act.eval, d0]
      go_simp
    | 10, hi =>
      obtain rfl := Option.some.inj hi
      have d0 : a.tmps.getD 34 undef = .bool true := hD 6 (by simp)
      refine step_val rfl (.bool true) w' ?_ (by simp) hS (by simpa using bl_refl w') rfl
      simp only [execOp, Act.eval, d0]
      go_simp
    | n + 11, hi => simp at hi
  · intro a w' hS hD hO hs hd
    obtain ⟨X, _, ⟨hi, ho⟩, hk⟩ : ∃ X : Sv, a.tmps.getD 29 undef = X.agg ∧ (∃ hi, OwS b6 hi w' X t0) ∧ Bk w' (w.heap.size + 1) #[X.m, X.f, X.v, X.h] 25 := hD 7 (by simp)
    have d5 : a.tmps.getD 5 undef = .int .i64 x := hD 8 (by simp)
    have d6 : a.tmps.getD 6 undef = .int .i64 y := hD 9 (by simp)
    have d7 : a.tmps.getD 7 undef = .bool true := hD 10 (by simp)
    have d4 : a.tmps.getD 4 undef = .pointer (some ⟨w.heap.size + 1, 0, none⟩) := hO 4 (by kernel_rfl)
    obtain ⟨g0, g1, g2, g3⟩ := box4 hk
    have HB2 := Lib.hid hS.1
    have HO := Lib.hid ho
    obtain ⟨tm, df⟩ := a
    obtain ⟨x0, x1, x2, x3, x4, x5, x6, x7, x8, x9, x10, x11, x12, x13, x14, x15, x16, x17, x18, x19, x20, x21, x22, x23, x24, x25, x26, x27, x28, x29, x30, x31, x32, x33, x34, rfl⟩ := lit35 tm hs
    obtain rfl : x4 = .pointer (some ⟨w.heap.size + 1, 0, none⟩) := d4
    obtain rfl : x5 = .int .i64 x := d5
    obtain rfl : x6 = .int .i64 y := d6
    obtain rfl : x7 = .bool true := d7
    obtain rfl : df = [] := hd
    clear hS hD hO hs ho hk
    go_wp2
    refine bodyPost_ret (v := .tuple #[X.agg, .int .i64 x, .int .i64 y, .bool true]) (by simp [results, Try.results30, go_sem, g0, g1, g2, g3]) rfl ?_
    have hlo' := hlo.out
    subst ht0
    refine ⟨X, rfl, Lib.hid (HO.out.all (by omega)), HB2⟩
set_option maxHeartbeats 8000000 in
theorem take30e (V : Sv) (s : St) (d : Int) (w : World) (h : RdS w V s) (hok : OkS s) (hd : 1 ≤ d ∧ d ≤ 7) (hf : s.f = []) : Calls Try.prog 30 #[V.agg, .int .i64 d] w (NewT w s 0 0 false) := by
  have H := Lib.hid h
  obtain ⟨A, c, A2, c2, A3, c3, A4, c4, rfl⟩ := h.form
  have HK := Lib.hid hok; have HD := Lib.hid hd; have HF := Lib.hid hf
  clear h hok hd hf
  go_enter Try.func30, Try.ntmps30
  go_wp2_with fail
  obtain ⟨w0, hW, HB, k0, k1, hz⟩ := bx2 w #[.slice A s.m.length c, .slice A2 s.f.length c2, .slice A3 s.v.length c3, .slice A4 s.h.length c4] 25 #[.slice none 0 0, .slice none 0 0, .slice none 0 0, .slice none 0 0] 25
  rw [hW]; clear hW
  ((with_reducible refine (ok22 ⟨_, _, _, _⟩ s _ (H.out.below HB.out) true (by simp [HK.out])).mono ?_); rintro e w1 ⟨rfl, hb⟩)
  replace HB := Lib.hid (bl_step HB.out hb)
  replace k0 := Lib.hid (k0.out.below hb)
  replace k1 := Lib.hid (k1.out.below hb)
  clear hb
  go_wp2_with fail
  ((with_reducible refine (reg63 d true (by simp; have := HD.out; omega) _).mono ?_); rintro e w' ⟨rfl, rfl⟩)
  obtain ⟨e0, e1, e2, e3⟩ := box4 k0.out
  go_wp2_with fail
  ((with_reducible refine (names58 ⟨_, _, _, _⟩ s _ (H.out.below HB.out) HK.out.m (by have := HK.out.fl; omega) (HK.out.ml (by have := HK.out.fl; omega))).mono ?_); rintro e w3 ⟨g, xs, vv, hh, rfl, hF, HN, hb⟩)
  have hg : Hid (w.heap.size + 2 ≤ g) := Lib.hid (by have := HN.out.hg; have := k1.out.lt; omega)
  have hl1 := Lib.hid k1.out.lt
  have HP := Lib.hid hF
  replace HB := Lib.hid (bl_step HB.out hb.out)
  replace k1 := Lib.hid (k1.out.below hb.out)
  clear hb e0 e1 e2 e3 k0 hF
  go_wp2_with fail
  ((with_reducible refine (take66n _ g s.m xs 0 s.f.length s.v s.h vv hh d _ HN.out (by simp [HF.out])).mono ?_); rintro e w4 ⟨rfl, hb⟩)
  replace HN := Lib.hid (HN.out.below hb)
  replace HB := Lib.hid (bl_step HB.out hb)
  replace k1 := Lib.hid (k1.out.below hb)
  have HR : Hid (rl xs 0 s.f.length = s.f) := Lib.hid (rl_fill _ _ HP.out (by have := HK.out.fl; omega))
  clear hb
  go_wp2_with fail
  obtain ⟨w5, hW, hb, k9, hz5⟩ := bx1 w4 #[.int .i64 0, .int .i64 0, .int .i64 0] 73
  rw [hW]; clear hW
  replace HN := Lib.hid (HN.out.below hb.out)
  replace HB := Lib.hid (bl_step HB.out hb.out)
  have hl4 := Lib.hid k1.out.lt
  replace k1 := Lib.hid (k1.out.below hb.out)
  clear hb
  have hlo : Hid (w.heap.size + 1 < w5.heap.size) := Lib.hid k1.out.lt
  have hlo9 : Hid (w.heap.size + 1 < w4.heap.size) := hl4
  obtain ⟨b6, hb6⟩ : ∃ b, b = w5.heap.size := ⟨_, rfl⟩
  rw [← hb6] at hlo
  obtain ⟨t0, ht0⟩ : ∃ t0, t0 = s := ⟨_, rfl⟩
  refine wp_flow mixed [[], [0], [], [2], [], [4], [], [1], [3], [5], [6]] (fun w' => Below w.heap.size w w' ∧ Nb w1.heap.size g s.m xs 0 s.f.length s.v s.h vv hh w' ∧ Bk w' w4.heap.size #[.int .i64 0, .int .i64 0, .int .i64 0] 73 ∧ (∃ a0 a1 a2 a3, Bk w' (w.heap.size + 1) #[a0, a1, a2, a3] 25) ∧ b6 ≤ w'.heap.size) (fun i w1 w2 => if i = 7 then Fr (fun k => k = w.heap.size + 1) w1 w2 else Below w1.heap.size w1 w2) (V30 g w4.heap.size (w.heap.size + 1) b6 t0 0 0 false) (by kernel_rfl) ⟨bl_drew HB.out, HN.out.below (bl_drew (bl_refl _)), k9.out, ⟨_, _, _, _, k1.out⟩, by rw [hb6]; exact Nat.le_refl _⟩ ?_ ?_ ?_
  · intro i j q v w1 w2 hij hni hv hT hvi
    match j, hv, hni, hij with
    | 0, hv, hni, hij => rw [V30, upd_ne q i v 0 (Ne.symm hij)]; exact hv
    | 1, hv, hni, hij => rw [V30, upd_ne q i v 1 (Ne.symm hij)]; obtain ⟨X, e, hi, ho⟩ := hv; exact ⟨X, e, hi, if h7 : i = 7 then (by rw [if_pos h7] at hT; exact ho.fr hT (fun k h1 _ h2 => by have := hlo.out; omega)) else (by rw [if_neg h7] at hT; exact ho.below hT)⟩
    | 2, hv, hni, hij => rw [V30, upd_ne q i v 2 (Ne.symm hij)]; exact hv
    | 3, hv, hni, hij => rw [V30, upd_ne q i v 3 (Ne.symm hij)]; exact hv
    | 4, hv, hni, hij => rw [V30, upd_ne q i v 4 (Ne.symm hij)]; exact hv
    | 5, hv, hni, hij => rw [V30, upd_ne q i v 5 (Ne.symm hij)]; exact hv
    | 6, hv, hni, hij => rw [V30, upd_ne q i v 6 (Ne.symm hij)]; exact hv
    | 7, hv, hni, hij => rw [V30, upd_need q i v 1 _ hni (by simp)]; obtain ⟨X, e, ⟨hi, ho⟩, hk⟩ := hv; rw [if_neg hij] at hT; exact ⟨X, e, ⟨hi, ho.below hT⟩, hk.below hT⟩
    | 8, hv, hni, hij => rw [V30, upd_ne q i v 8 (Ne.symm hij)]; exact hv
    | 9, hv, hni, hij => rw [V30, upd_ne q i v 9 (Ne.symm hij)]; exact hv
    | 10, hv, hni, hij => rw [V30, upd_ne q i v 10 (Ne.symm hij)]; exact hv
    | n + 11, _, _, _ => exact trivial
  · intro i o hi a w' hS hD hO hs
    match i, hi with
    | 0, hi =>
      obtain rfl := Option.some.inj hi
      have d0 : a.tmps.getD 8 undef = .pointer (some ⟨g, 0, none⟩) := hO 8 (by kernel_rfl)
      refine step_val rfl (.pointer (some ⟨g, 0, none⟩)) w' ?_ (by simp) hS (by simpa using bl_refl w') rfl
      simp only [execOp, Act.eval, d0]
      go_simp
    | 1, hi =>
      obtain rfl := Option.some.inj hi
      have d0 : a.tmps.getD 28 undef = .pointer (some ⟨g, 0, none⟩) := hD 0 (by simp)
      refine step_call rfl 60 #[.pointer (some ⟨g, 0, none⟩)] (by simp only [execOp, Act.eval, d0]; clear hD hO hs; go_simp) (by simp) _ (state60 _ g s.m xs 0 s.f.length s.v s.h vv hh w' hS.2.1 (by omega) (by have := HK.out.fl; omega) (by have := HK.out.v; have := HK.out.h; simp; omega)) ?_
      rintro e w2 ⟨X, rfl, ho, hb⟩
      refine ⟨_, rfl, ⟨bl_step hS.1 hb.out, hS.2.1.below hb.out, hS.2.2.1.below hb.out, by obtain ⟨a0, a1, a2, a3, h⟩ := hS.2.2.2.1; exact ⟨a0, a1, a2, a3, h.below hb.out⟩, Nat.le_trans hS.2.2.2.2 hb.out.size⟩, by simpa using hb.out, X, upd_self .., w2.heap.size, ?_⟩
      have := ho.out.mono hS.2.2.2.2 (Nat.le_refl _)
      rw [HR.out] at this
      rw [ht0]; exact this
    | 2, hi =>
      obtain rfl := Option.some.inj hi
      have d0 : a.tmps.getD 9 undef = .pointer (some ⟨w4.heap.size, 0, none⟩) := hO 9 (by kernel_rfl)
      refine step_val rfl (.pointer (some ⟨w4.heap.size, 1, none⟩)) w' ?_ (by simp) hS (by simpa using bl_refl w') rfl
      simp only [execOp, Act.eval, d0]
      go_simp
    | 3, hi =>
      obtain rfl := Option.some.inj hi
      have d0 : a.tmps.getD 30 undef = .pointer (some ⟨w4.heap.size, 1, none⟩) := hD 2 (by simp)
      have c0 := hS.2.2.1.cell 1
      simp at c0
      refine step_val rfl (.int .i64 0) w' ?_ (by simp) hS (by simpa using bl_refl w') rfl
      simp only [execOp, Act.eval, d0]
      go_simp
    | 4, hi =>
      obtain rfl := Option.some.inj hi
      have d0 : a.tmps.getD 9 undef = .pointer (some ⟨w4.heap.size, 0, none⟩) := hO 9 (by kernel_rfl)
      refine step_val rfl (.pointer (some ⟨w4.heap.size, 2, none⟩)) w' ?_ (by simp) hS (by simpa using bl_refl w') rfl
      simp only [execOp, Act.eval, d0]
      go_simp
    | 5, hi =>
      obtain rfl := Option.some.inj hi
      have d0 : a.tmps.getD 32 undef = .pointer (some ⟨w4.heap.size, 2, none⟩) := hD 4 (by simp)
      have c0 := hS.2.2.1.cell 2
      simp at c0
      refine step_val rfl (.int .i64 0) w' ?_ (by simp) hS (by simpa using bl_refl w') rfl
      simp only [execOp, Act.eval, d0]
      go_simp
    | 6, hi =>
      obtain rfl := Option.some.inj hi
      have d0 : a.tmps.getD 10 undef = .bool false := hO 10 (by kernel_rfl)
      refine step_val rfl (.bool false) w' ?_ (by simp) hS (by simpa using bl_refl w') rfl
      simp only [execOp, Act.eval, d0]
      go_simp
    | 7, hi =>
      obtain rfl := Option.some.inj hi
      obtain ⟨X, d0, hi', ho⟩ : ∃ X : Sv, a.tmps.getD 29 undef = X.agg ∧ ∃ hi, OwS b6 hi w' X t0 := hD 1 (by simp)
      have d4 : a.tmps.getD 4 undef = .pointer (some ⟨w.heap.size + 1, 0, none⟩) := hO 4 (by kernel_rfl)
      obtain ⟨h1, h2, h3, ⟨a0, a1, a2, a3, k1'⟩, h5⟩ := hS
      have hF4 := fr_four w' (w.heap.size + 1) X.m X.f X.v X.h
      have hK4 := bk_four k1' X.m X.f X.v X.h
      refine Hw.step_skip rfl ((((w'.setCell ⟨w.heap.size + 1, 0, none⟩ X.m).setCell ⟨w.heap.size + 1, 1, none⟩ X.f).setCell ⟨w.heap.size + 1, 2, none⟩ X.v).setCell ⟨w.heap.size + 1, 3, none⟩ X.h) ?_ ⟨hF4.below h1 h1.size (fun k hk => by omega), h2.fr hF4 (by have := hg.out; omega) (fun k hk => by have := h2.v.2.2 k hk; have := hl1.out; omega) (fun k hk => by have := h2.h.2.2 k hk; have := hl1.out; omega), h3.fr hF4 (by have := hlo9.out; omega), ⟨_, _, _, _, hK4⟩, Nat.le_trans h5 hF4.size⟩ (by simpa using hF4) ⟨X, by rw [upd_ne _ _ _ 1 (by decide)]; exact d0, ⟨_, ho.fr hF4 (fun k h1 _ h2 => by have := hlo.out; omega)⟩, hK4⟩
      obtain ⟨A1, q1, A2', q2, A3', q3, A4', q4, rfl⟩ := ho.rd.form
      have c0 := k1'.cell 0; have c1 := k1'.cell 1; have c2 := k1'.cell 2; have c3 := k1'.cell 3; have cf := k1'.frozen
      simp at c0 c1 c2 c3
      clear hF4 hK4 h1 h2 h3 h5 ho hD hO hs
      simp only [execOp, Act.eval, d0, d4]
      go_simp
    | 8, hi =>
      obtain rfl := Option.some.inj hi
      have d0 : a.tmps.getD 31 undef = .int .i64 0 := hD 3 (by simp)
      refine step_val rfl (.int .i64 0) w' ?_ (by simp) hS (by simpa using bl_refl w') rfl
      simp only [execOp, Act.eval, d0]
      go_simp
    | 9, hi =>
      obtain rfl := Option.some.inj hi
      have d0 : a.tmps.getD 33 undef = .int .i64 0 := hD 5 (by simp)
      refine step_val rfl (.int .i64 0) w' ?_ (by simp) hS (by simpa using bl_refl w') rfl
      simp only [execOp, Act.eval, d0]
      go_simp
    | 10, hi =>
      obtain rfl := Option.some.inj hi
      have d0 : a.tmps.getD 34 undef = .bool false := hD 6 (by simp)
      refine step_val rfl (.bool false) w' ?_ (by simp) hS (by simpa using bl_refl w') rfl
      simp only [execOp, Act.eval, d0]
      go_simp
    | n + 11, hi => simp at hi
  · intro a w' hS hD hO hs hd
    obtain ⟨X, _, ⟨hi, ho⟩, hk⟩ : ∃ X : Sv, a.tmps.getD 29 undef = X.agg ∧ (∃ hi, OwS b6 hi w' X t0) ∧ Bk w' (w.heap.size + 1) #[X.m, X.f, X.v, X.h] 25 := hD 7 (by simp)
    have d5 : a.tmps.getD 5 undef = .int .i64 0 := hD 8 (by simp)
    have d6 : a.tmps.getD 6 undef = .int .i64 0 := hD 9 (by simp)
    have d7 : a.tmps.getD 7 undef = .bool false := hD 10 (by simp)
    have d4 : a.tmps.getD 4 undef = .pointer (some ⟨w.heap.size + 1, 0, none⟩) := hO 4 (by kernel_rfl)
    obtain ⟨g0, g1, g2, g3⟩ := box4 hk
    have HB2 := Lib.hid hS.1
    have HO := Lib.hid ho
    obtain ⟨tm, df⟩ := a
    obtain ⟨x0, x1, x2, x3, x4, x5, x6, x7, x8, x9, x10, x11, x12, x13, x14, x15, x16, x17, x18, x19, x20, x21, x22, x23, x24, x25, x26, x27, x28, x29, x30, x31, x32, x33, x34, rfl⟩ := lit35 tm hs
    obtain rfl : x4 = .pointer (some ⟨w.heap.size + 1, 0, none⟩) := d4
    obtain rfl : x5 = .int .i64 0 := d5
    obtain rfl : x6 = .int .i64 0 := d6
    obtain rfl : x7 = .bool false := d7
    obtain rfl : df = [] := hd
    clear hS hD hO hs ho hk
    go_wp2
    refine bodyPost_ret (v := .tuple #[X.agg, .int .i64 0, .int .i64 0, .bool false]) (by simp [results, Try.results30, go_sem, g0, g1, g2, g3]) rfl ?_
    have hlo' := hlo.out
    subst ht0
    refine ⟨X, rfl, Lib.hid (HO.out.all (by omega)), HB2⟩
set_option maxHeartbeats 8000000 in
theorem take30n (V : Sv) (s : St) (d : Int) (w : World) (h : RdS w V s) (hno : ¬ (OkS s ∧ 1 ≤ d ∧ d ≤ 7)) : Calls Try.prog 30 #[V.agg, .int .i64 d] w (NewT w ⟨[], [], [], []⟩ 0 0 false) := by
  have H := Lib.hid h
  obtain ⟨A, c, A2, c2, A3, c3, A4, c4, rfl⟩ := h.form
  clear h
  by_cases hok : OkS s
  · have HK := Lib.hid hok
    have HD : Hid (¬ (1 ≤ d ∧ d ≤ 7)) := Lib.hid (fun h => hno ⟨hok, h⟩)
    clear hok hno
    go_enter Try.func30, Try.ntmps30
    go_wp2_with fail
    obtain ⟨w0, hW, HB, k0, k1, hz⟩ := bx2 w #[.slice A s.m.length c, .slice A2 s.f.length c2, .slice A3 s.v.length c3, .slice A4 s.h.length c4] 25 #[.slice none 0 0, .slice none 0 0, .slice none 0 0, .slice none 0 0] 25
    rw [hW]; clear hW
    ((with_reducible refine (ok22 ⟨_, _, _, _⟩ s _ (H.out.below HB.out) true (by simp [HK.out])).mono ?_); rintro e w1 ⟨rfl, hb⟩)
    replace HB := Lib.hid (bl_step HB.out hb)
    replace k0 := Lib.hid (k0.out.below hb)
    replace k1 := Lib.hid (k1.out.below hb)
    clear hb
    go_wp2_with fail
    ((with_reducible refine (reg63 d false (by simp only [Bool.false_eq_true, false_iff]; have := HD.out; omega) _).mono ?_); rintro e w' ⟨rfl, rfl⟩)
    obtain ⟨g0, g1, g2, g3⟩ := box4 k1.out
    have y0 := k1.out.frozen
    go_wp2_with fail
    refine bodyPost_ret (v := .tuple #[.agg #[.slice none 0 0, .slice none 0 0, .slice none 0 0, .slice none 0 0], .int .i64 0, .int .i64 0, .bool false]) (by simp [results, Try.results30, go_sem, g0, g1, g2, g3]) rfl ?_
    refine NewT.of (V := ⟨.slice none 0 0, .slice none 0 0, .slice none 0 0, .slice none 0 0⟩) _ _ _ (NewS.zero (Fr.below (S := fun k => k = w.heap.size + 1) HB.out ?_ HB.out.size (fun k hk => by omega)))
    repeat (first | exact Fr.refl _ _ | refine Fr.trans ?_ (Fr.set (by exact rfl) _))
  · have HK := Lib.hid hok
    clear hok hno
    go_enter Try.func30, Try.ntmps30
    go_wp2_with fail
    obtain ⟨w0, hW, HB, k0, k1, hz⟩ := bx2 w #[.slice A s.m.length c, .slice A2 s.f.length c2, .slice A3 s.v.length c3, .slice A4 s.h.length c4] 25 #[.slice none 0 0, .slice none 0 0, .slice none 0 0, .slice none 0 0] 25
    rw [hW]; clear hW
    ((with_reducible refine (ok22 ⟨_, _, _, _⟩ s _ (H.out.below HB.out) false (by simp [HK.out])).mono ?_); rintro e w1 ⟨rfl, hb⟩)
    replace HB := Lib.hid (bl_step HB.out hb)
    replace k0 := Lib.hid (k0.out.below hb)
    replace k1 := Lib.hid (k1.out.below hb)
    clear hb
    obtain ⟨g0, g1, g2, g3⟩ := box4 k1.out
    have y0 := k1.out.frozen
    go_wp2_with fail
    refine bodyPost_ret (v := .tuple #[.agg #[.slice none 0 0, .slice none 0 0, .slice none 0 0, .slice none 0 0], .int .i64 0, .int .i64 0, .bool false]) (by simp [results, Try.results30, go_sem, g0, g1, g2, g3]) rfl ?_
    refine NewT.of (V := ⟨.slice none 0 0, .slice none 0 0, .slice none 0 0, .slice none 0 0⟩) _ _ _ (NewS.zero (Fr.below (S := fun k => k = w.heap.size + 1) HB.out ?_ HB.out.size (fun k hk => by omega)))
    repeat (first | exact Fr.refl _ _ | refine Fr.trans ?_ (Fr.set (by exact rfl) _))
end Go.Proofs.Ytiemacjmipiakaa.Nm
