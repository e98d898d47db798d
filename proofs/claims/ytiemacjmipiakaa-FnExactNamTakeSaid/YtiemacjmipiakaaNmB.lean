/- A renaming state as four lists, and the functions of the laws' side over it. -/
import Derived.Test.YtiemacjmipiakaaNmA
namespace Go.Proofs.Ytiemacjmipiakaa.Nm
open Go.RowKit Go.Proofs.Ytiemacjmipiakaa.Hw
set_option linter.unusedVariables false
set_option linter.unusedSimpArgs false
/-- A renaming state, as lists; its four values. -/
structure St where
  m : List Int
  f : List Int
  v : List Int
  h : List Bool
structure Sv where
  m : Value
  f : Value
  v : Value
  h : Value
abbrev Sv.agg (V : Sv) : Value := .agg #[V.m, V.f, V.v, V.h]
structure RdS (w : World) (V : Sv) (s : St) : Prop where
  m : Rd (Value.int .i64) w V.m s.m
  f : Rd (Value.int .i64) w V.f s.f
  v : Rd (Value.int .i64) w V.v s.v
  h : Rd Value.bool w V.h s.h
theorem RdS.below {w w' : World} {V : Sv} {s : St} (h : RdS w V s) (hb : Below w.heap.size w w') : RdS w' V s := ⟨h.m.below hb, h.f.below hb, h.v.below hb, h.h.below hb⟩
/-- Its values are slices. -/
theorem RdS.form {w : World} {V : Sv} {s : St} (h : RdS w V s) : ∃ A c A' c' A'' c'' A3 c3, V = ⟨.slice A s.m.length c, .slice A' s.f.length c', .slice A'' s.v.length c'', .slice A3 s.h.length c3⟩ := by
  obtain ⟨V1, V2, V3, V4⟩ := V
  obtain ⟨⟨A, c, e, _⟩, ⟨A', c', e', _⟩, ⟨A'', c'', e'', _⟩, ⟨A3, c3, e3, _⟩⟩ := h
  dsimp at e e' e'' e3
  subst e e' e'' e3
  exact ⟨A, c, A', c', A'', c'', A3, c3, rfl⟩
/-- A renaming state of the call's own, its blocks from B to below C, no two the same. -/
structure OwS (B C : Nat) (w : World) (V : Sv) (s : St) : Prop where
  m : Ow (Value.int .i64) 3 w V.m s.m
  f : Ow (Value.int .i64) 3 w V.f s.f
  v : Ow (Value.int .i64) 3 w V.v s.v
  h : Ow Value.bool 4 w V.h s.h
  rm : Rg B C V.m
  rf : Rg B C V.f
  rv : Rg B C V.v
  rh : Rg B C V.h
  mf : Ap V.m V.f
  mv : Ap V.m V.v
  fv : Ap V.f V.v
theorem OwS.rd {B C : Nat} {w : World} {V : Sv} {s : St} (h : OwS B C w V s) : RdS w V s := ⟨h.m.rd, h.f.rd, h.v.rd, h.h.rd⟩
theorem OwS.mono {B C B' C' : Nat} {w : World} {V : Sv} {s : St} (h : OwS B C w V s) (h1 : B' ≤ B) (h2 : C ≤ C') : OwS B' C' w V s := ⟨h.m, h.f, h.v, h.h, h.rm.mono h1 h2, h.rf.mono h1 h2, h.rv.mono h1 h2, h.rh.mono h1 h2, h.mf, h.mv, h.fv⟩
theorem OwS.fr {S : Nat → Prop} {B C : Nat} {w w' : World} {V : Sv} {s : St} (h : OwS B C w V s) (hf : Fr S w w') (hs : ∀ k, B ≤ k → k < C → ¬ S k) : OwS B C w' V s :=
  ⟨h.m.fr hf (fun k hk => hs k (h.rm k hk).1 (h.rm k hk).2), h.f.fr hf (fun k hk => hs k (h.rf k hk).1 (h.rf k hk).2), h.v.fr hf (fun k hk => hs k (h.rv k hk).1 (h.rv k hk).2), h.h.fr hf (fun k hk => hs k (h.rh k hk).1 (h.rh k hk).2), h.rm, h.rf, h.rv, h.rh, h.mf, h.mv, h.fv⟩
theorem OwS.below {B C : Nat} {w w' : World} {V : Sv} {s : St} (h : OwS B C w V s) (hb : Below w.heap.size w w') : OwS B C w' V s := h.fr (S := fun _ => False) (Fr.of_below hb) (fun _ _ _ => id)
theorem OwS.none (B C : Nat) (w : World) : OwS B C w ⟨.slice none 0 0, .slice none 0 0, .slice none 0 0, .slice none 0 0⟩ ⟨[], [], [], []⟩ := ⟨Ow.nil _ _, Ow.nil _ _, Ow.nil _ _, Ow.nil _ _, Rg.nil _ _, Rg.nil _ _, Rg.nil _ _, Rg.nil _ _, Ap.nil _, Ap.nil _, Ap.nil _⟩
/-- A new renaming state is returned. -/
def NewS (w : World) (s : St) (e : Ending) (w' : World) : Prop := ∃ V : Sv, e = .returned V.agg ∧ Hid (OwS w.heap.size w'.heap.size w' V s) ∧ Hid (Below w.heap.size w w')
theorem NewS.fin {w v wf : World} {V : Sv} {s : St} {n : Nat} (hO : OwS n v.heap.size v V s) (hb : Below w.heap.size w v) (hn : w.heap.size ≤ n) (HF : Fr (fun k => w.heap.size ≤ k ∧ k < n) v wf) : NewS w s (.returned V.agg) wf :=
  ⟨V, rfl, (hO.fr HF (fun k h1 _ h => by omega)).mono hn HF.size, HF.below hb hb.size (fun k h => h.1)⟩

/-- Two states that read alike are the same. -/
theorem eqS16 (V V' : Sv) (s : St) (w : World) (h : RdS w V s) (h' : RdS w V' s) :
    Calls Try.prog 16 #[V.agg, V'.agg] w fun e w' => e = .returned (.bool true) ∧ Below w.heap.size w w' := by
  have H := Lib.hid h
  have H' := Lib.hid h'
  obtain ⟨A, c, A2, c2, A3, c3, A4, c4, rfl⟩ := h.form
  obtain ⟨A', c', A2', c2', A3', c3', A4', c4', rfl⟩ := h'.form
  clear h h'
  go_enter Try.func16, Try.ntmps16
  go_wp2_with fail
  have hb := Lib.hid (bl_alloc (bl_alloc (bl_refl w) (.cells #[.slice A s.m.length c, .slice A2 s.f.length c2, .slice A3 s.v.length c3, .slice A4 s.h.length c4] 25)) (.cells #[.slice A' s.m.length c', .slice A2' s.f.length c2', .slice A3' s.v.length c3', .slice A4' s.h.length c4'] 25))
  ((with_reducible refine (eq39 _ _ s.m _ (H.out.m.below hb.out) (H'.out.m.below hb.out)).mono ?_); rintro e w' ⟨rfl, n, rfl⟩)
  go_wp2_with fail
  ((with_reducible refine (eq39 _ _ s.f _ (H.out.f.below (bl_drewN hb.out _)) (H'.out.f.below (bl_drewN hb.out _))).mono ?_); rintro e w' ⟨rfl, n2, rfl⟩)
  go_wp2_with fail
  ((with_reducible refine (eq39 _ _ s.v _ (H.out.v.below (by repeat (first | exact hb.out | refine bl_drewN ?_ _))) (H'.out.v.below (by repeat (first | exact hb.out | refine bl_drewN ?_ _)))).mono ?_); rintro e w' ⟨rfl, n3, rfl⟩)
  go_wp2_with fail
  ((with_reducible refine (eq40 _ _ s.h _ (H.out.h.below (by repeat (first | exact hb.out | refine bl_drewN ?_ _))) (H'.out.h.below (by repeat (first | exact hb.out | refine bl_drewN ?_ _)))).mono ?_); rintro e w' ⟨rfl, n4, rfl⟩)
  go_wp2_with fail
  go_ret
  exact ⟨rfl, by repeat (first | exact hb.out | refine bl_drewN ?_ _)⟩
/-- Two states that read alike are the same. -/
theorem eqS35 (V V' : Sv) (s : St) (w : World) (h : RdS w V s) (h' : RdS w V' s) :
    Calls Try.prog 35 #[V.agg, V'.agg] w fun e w' => e = .returned (.bool true) ∧ Below w.heap.size w w' := by
  have H := Lib.hid h
  have H' := Lib.hid h'
  obtain ⟨A, c, A2, c2, A3, c3, A4, c4, rfl⟩ := h.form
  obtain ⟨A', c', A2', c2', A3', c3', A4', c4', rfl⟩ := h'.form
  clear h h'
  go_enter Try.func35, Try.ntmps35
  go_wp2_with fail
  have hb := Lib.hid (bl_alloc (bl_alloc (bl_refl w) (.cells #[.slice A s.m.length c, .slice A2 s.f.length c2, .slice A3 s.v.length c3, .slice A4 s.h.length c4] 25)) (.cells #[.slice A' s.m.length c', .slice A2' s.f.length c2', .slice A3' s.v.length c3', .slice A4' s.h.length c4'] 25))
  ((with_reducible refine (eq31 _ _ s.m _ (H.out.m.below hb.out) (H'.out.m.below hb.out)).mono ?_); rintro e w' ⟨rfl, n, rfl⟩)
  go_wp2_with fail
  ((with_reducible refine (eq31 _ _ s.f _ (H.out.f.below (bl_drewN hb.out _)) (H'.out.f.below (bl_drewN hb.out _))).mono ?_); rintro e w' ⟨rfl, n2, rfl⟩)
  go_wp2_with fail
  ((with_reducible refine (eq31 _ _ s.v _ (H.out.v.below (by repeat (first | exact hb.out | refine bl_drewN ?_ _))) (H'.out.v.below (by repeat (first | exact hb.out | refine bl_drewN ?_ _)))).mono ?_); rintro e w' ⟨rfl, n3, rfl⟩)
  go_wp2_with fail
  ((with_reducible refine (eq71 _ _ s.h _ (H.out.h.below (by repeat (first | exact hb.out | refine bl_drewN ?_ _))) (H'.out.h.below (by repeat (first | exact hb.out | refine bl_drewN ?_ _)))).mono ?_); rintro e w' ⟨rfl, n4, rfl⟩)
  go_wp2_with fail
  go_ret
  exact ⟨rfl, by repeat (first | exact hb.out | refine bl_drewN ?_ _)⟩
/-- What a state's lists leave of the bound is below 0. -/
theorem sz19n (V : Sv) (s : St) (w : World) (h : RdS w V s) (hl : 1048576 < s.m.length + s.f.length + s.v.length + s.h.length) :
    Calls Try.prog 19 #[V.agg, .int .i64 1048576] w fun e w' => e = .returned (.int .i64 (-1)) ∧ Below w.heap.size w w' := by
  have H := Lib.hid h
  obtain ⟨A, c, A2, c2, A3, c3, A4, c4, rfl⟩ := h.form
  clear h
  have hb := Lib.hid (bl_alloc (bl_refl w) (.cells #[.slice A s.m.length c, .slice A2 s.f.length c2, .slice A3 s.v.length c3, .slice A4 s.h.length c4] 30))
  by_cases h1 : 1048576 - (s.m.length : Int) < 0
  · go_enter Try.func19, Try.ntmps19
    go_wp2_with fail
    ((with_reducible refine (sz45n _ s.m _ _ (H.out.m.below hb.out) (by omega) (by omega) (by omega)).mono ?_); rintro e w' ⟨rfl, rfl⟩)
    go_wp2_with fail
    go_ret
    exact ⟨rfl, hb.out⟩
  by_cases h2 : 1048576 - (s.m.length : Int) - s.f.length < 0
  · go_enter Try.func19, Try.ntmps19
    go_wp2_with fail
    ((with_reducible refine (sz45y _ s.m _ _ (H.out.m.below hb.out) (by omega) (by omega) (by omega)).mono ?_); rintro e w' ⟨rfl, rfl⟩)
    go_wp2_with fail
    ((with_reducible refine (sz45n _ s.f _ _ (H.out.f.below hb.out) (by omega) (by omega) (by omega)).mono ?_); rintro e w' ⟨rfl, rfl⟩)
    go_wp2_with fail
    go_ret
    exact ⟨rfl, hb.out⟩
  by_cases h3 : 1048576 - (s.m.length : Int) - s.f.length - s.v.length < 0
  · go_enter Try.func19, Try.ntmps19
    go_wp2_with fail
    ((with_reducible refine (sz45y _ s.m _ _ (H.out.m.below hb.out) (by omega) (by omega) (by omega)).mono ?_); rintro e w' ⟨rfl, rfl⟩)
    go_wp2_with fail
    ((with_reducible refine (sz45y _ s.f _ _ (H.out.f.below hb.out) (by omega) (by omega) (by omega)).mono ?_); rintro e w' ⟨rfl, rfl⟩)
    go_wp2_with fail
    ((with_reducible refine (sz45n _ s.v _ _ (H.out.v.below hb.out) (by omega) (by omega) (by omega)).mono ?_); rintro e w' ⟨rfl, rfl⟩)
    go_wp2_with fail
    go_ret
    exact ⟨rfl, hb.out⟩
  have h4 : 1048576 - (s.m.length : Int) - s.f.length - s.v.length - s.h.length < 0 := by omega
  go_enter Try.func19, Try.ntmps19
  go_wp2_with fail
  ((with_reducible refine (sz45y _ s.m _ _ (H.out.m.below hb.out) (by omega) (by omega) (by omega)).mono ?_); rintro e w' ⟨rfl, rfl⟩)
  go_wp2_with fail
  ((with_reducible refine (sz45y _ s.f _ _ (H.out.f.below hb.out) (by omega) (by omega) (by omega)).mono ?_); rintro e w' ⟨rfl, rfl⟩)
  go_wp2_with fail
  ((with_reducible refine (sz45y _ s.v _ _ (H.out.v.below hb.out) (by omega) (by omega) (by omega)).mono ?_); rintro e w' ⟨rfl, rfl⟩)
  go_wp2_with fail
  ((with_reducible refine (sz46n _ s.h _ _ (H.out.h.below hb.out) (by omega) (by omega) (by omega)).mono ?_); rintro e w' ⟨rfl, rfl⟩)
  go_wp2_with fail
  go_ret
  exact ⟨rfl, hb.out⟩
theorem sz19y (V : Sv) (s : St) (w : World) (h : RdS w V s) (hl : s.m.length + s.f.length + s.v.length + s.h.length ≤ 1048576) :
    Calls Try.prog 19 #[V.agg, .int .i64 1048576] w fun e w' => (∃ r : Int, e = .returned (.int .i64 r) ∧ 0 ≤ r) ∧ Below w.heap.size w w' := by
  have H := Lib.hid h
  obtain ⟨A, c, A2, c2, A3, c3, A4, c4, rfl⟩ := h.form
  clear h
  have hb := Lib.hid (bl_alloc (bl_refl w) (.cells #[.slice A s.m.length c, .slice A2 s.f.length c2, .slice A3 s.v.length c3, .slice A4 s.h.length c4] 30))
  have h1 : ¬ 1048576 - (s.m.length : Int) < 0 := by omega
  have h2 : ¬ 1048576 - (s.m.length : Int) - s.f.length < 0 := by omega
  have h3 : ¬ 1048576 - (s.m.length : Int) - s.f.length - s.v.length < 0 := by omega
  have h4 : ¬ 1048576 - (s.m.length : Int) - s.f.length - s.v.length - s.h.length < 0 := by omega
  go_enter Try.func19, Try.ntmps19
  go_wp2_with fail
  ((with_reducible refine (sz45y _ s.m _ _ (H.out.m.below hb.out) (by omega) (by omega) (by omega)).mono ?_); rintro e w' ⟨rfl, rfl⟩)
  go_wp2_with fail
  ((with_reducible refine (sz45y _ s.f _ _ (H.out.f.below hb.out) (by omega) (by omega) (by omega)).mono ?_); rintro e w' ⟨rfl, rfl⟩)
  go_wp2_with fail
  ((with_reducible refine (sz45y _ s.v _ _ (H.out.v.below hb.out) (by omega) (by omega) (by omega)).mono ?_); rintro e w' ⟨rfl, rfl⟩)
  go_wp2_with fail
  ((with_reducible refine (sz46y _ s.h _ _ (H.out.h.below hb.out) (by omega) (by omega) (by omega)).mono ?_); rintro e w' ⟨rfl, rfl⟩)
  go_wp2_with fail
  go_ret
  exact ⟨⟨_, rfl, by omega⟩, hb.out⟩
set_option maxHeartbeats 1000000 in
/-- The same state in new memory. -/
theorem to21 (V : Sv) (s : St) (w : World) (h : RdS w V s) (hl : s.m.length + s.f.length + s.v.length + s.h.length ≤ 1048576) :
    Calls Try.prog 21 #[V.agg] w (NewS w s) := by
  have H := Lib.hid h
  obtain ⟨A, c, A2, c2, A3, c3, A4, c4, rfl⟩ := h.form
  clear h
  go_enter Try.func21, Try.ntmps21
  go_wp2_with fail
  obtain ⟨w0, hW, hb, k0, k1, k2, hz⟩ := bx3 w #[.slice A s.m.length c, .slice A2 s.f.length c2, .slice A3 s.v.length c3, .slice A4 s.h.length c4] 30 #[.slice none 0 0, .slice none 0 0, .slice none 0 0, .slice none 0 0] 25 #[.slice none 0 0, .slice none 0 0, .slice none 0 0, .slice none 0 0] 25
  rw [hW]; clear hW
  ((with_reducible refine (to49 _ s.m _ (H.out.m.below hb.out) (by omega)).mono ?_); rintro e v1 ⟨B1, d1, rfl, ho1, hr1, hc⟩)
  have e0 := (k0.out.below hc.out).cell 1
  have e2 := (k2.out.below hc.out).cell 0
  have f2 := (k2.out.below hc.out).frozen 0
  simp at e0 e2
  have hs1 := Lib.hid hc.out.size
  go_wp2_with fail
  obtain ⟨w1, hW, hf, hk, hy⟩ := st1 (k2.out.below hc.out) 0 (.slice B1 s.m.length d1)
  rw [hW]; clear hW e0 e2 f2
  replace hb := Lib.hid (hf.out.below (bl_step hb.out hc.out) (Nat.le_trans hb.out.size hs1.out) (fun k hk => by subst hk; omega))
  replace k0 := Lib.hid ((k0.out.below hc.out).fr hf.out (by omega))
  replace k1 := Lib.hid ((k1.out.below hc.out).fr hf.out (by omega))
  replace k2 := hk
  simp only [List.setIfInBounds_toArray, List.set_cons_zero, List.set_cons_succ] at k2
  replace ho1 := Lib.hid (ho1.out.fr hf.out (hr1.out.ne (fun k h1 _ hk => by have := hz.out;  omega)))
  have hz1 := hy
  clear hk hf hc hy
  ((with_reducible refine (to49 _ s.f _ (H.out.f.below hb.out) (by omega)).mono ?_); rintro e v2 ⟨B2, d2, rfl, ho2, hr2, hc⟩)
  have e0 := (k0.out.below hc.out).cell 2
  have e2 := (k2.out.below hc.out).cell 1
  have f2 := (k2.out.below hc.out).frozen 1
  simp at e0 e2
  have hs2 := Lib.hid hc.out.size
  go_wp2_with fail
  obtain ⟨w2, hW, hf, hk, hy⟩ := st1 (k2.out.below hc.out) 1 (.slice B2 s.f.length d2)
  rw [hW]; clear hW e0 e2 f2
  replace hb := Lib.hid (hf.out.below (bl_step hb.out hc.out) (Nat.le_trans hb.out.size hs2.out) (fun k hk => by subst hk; omega))
  replace k0 := Lib.hid ((k0.out.below hc.out).fr hf.out (by omega))
  replace k1 := Lib.hid ((k1.out.below hc.out).fr hf.out (by omega))
  replace k2 := hk
  simp only [List.setIfInBounds_toArray, List.set_cons_zero, List.set_cons_succ] at k2
  replace ho1 := Lib.hid ((ho1.out.below hc.out).fr hf.out (hr1.out.ne (fun k h1 _ hk => by have := hz.out;  omega)))
  replace ho2 := Lib.hid (ho2.out.fr hf.out (hr2.out.ne (fun k h1 _ hk => by have := hz.out; have := hs1.out; have := hz1.out; omega)))
  have hz2 := hy
  clear hk hf hc hy
  ((with_reducible refine (to49 _ s.v _ (H.out.v.below hb.out) (by omega)).mono ?_); rintro e v3 ⟨B3, d3, rfl, ho3, hr3, hc⟩)
  have e0 := (k0.out.below hc.out).cell 3
  have e2 := (k2.out.below hc.out).cell 2
  have f2 := (k2.out.below hc.out).frozen 2
  simp at e0 e2
  have hs3 := Lib.hid hc.out.size
  go_wp2_with fail
  obtain ⟨w3, hW, hf, hk, hy⟩ := st1 (k2.out.below hc.out) 2 (.slice B3 s.v.length d3)
  rw [hW]; clear hW e0 e2 f2
  replace hb := Lib.hid (hf.out.below (bl_step hb.out hc.out) (Nat.le_trans hb.out.size hs3.out) (fun k hk => by subst hk; omega))
  replace k0 := Lib.hid ((k0.out.below hc.out).fr hf.out (by omega))
  replace k1 := Lib.hid ((k1.out.below hc.out).fr hf.out (by omega))
  replace k2 := hk
  simp only [List.setIfInBounds_toArray, List.set_cons_zero, List.set_cons_succ] at k2
  replace ho1 := Lib.hid ((ho1.out.below hc.out).fr hf.out (hr1.out.ne (fun k h1 _ hk => by have := hz.out;  omega)))
  replace ho2 := Lib.hid ((ho2.out.below hc.out).fr hf.out (hr2.out.ne (fun k h1 _ hk => by have := hz.out; have := hs1.out; have := hz1.out; omega)))
  replace ho3 := Lib.hid (ho3.out.fr hf.out (hr3.out.ne (fun k h1 _ hk => by have := hz.out; have := hs1.out; have := hz1.out; have := hs2.out; have := hz2.out; omega)))
  have hz3 := hy
  clear hk hf hc hy
  ((with_reducible refine (to50 _ s.h _ (H.out.h.below hb.out) (by omega)).mono ?_); rintro e v4 ⟨B4, d4, rfl, ho4, hr4, hc⟩)
  have e2 := (k2.out.below hc.out).cell 3
  have f2 := (k2.out.below hc.out).frozen 3
  simp at e2
  have hs4 := Lib.hid hc.out.size
  have e10 := (k1.out.below hc.out).cell 0
  have e11 := (k1.out.below hc.out).cell 1
  have e12 := (k1.out.below hc.out).cell 2
  have e13 := (k1.out.below hc.out).cell 3
  have g1 := (k1.out.below hc.out).frozen
  have e20 := (k2.out.below hc.out).cell 0
  have e21 := (k2.out.below hc.out).cell 1
  have e22 := (k2.out.below hc.out).cell 2
  simp at e10 e11 e12 e13 e20 e21 e22
  go_wp2_with fail
  have q1 := hs1.out; have q2 := hs2.out; have q3 := hs3.out; have q4 := hs4.out; have y0 := hz.out; have y1 := hz1.out; have y2 := hz2.out; have y3 := hz3.out
  have HO : Hid (OwS (w.heap.size + 3) v4.heap.size v4 ⟨.slice B1 s.m.length d1, .slice B2 s.f.length d2, .slice B3 s.v.length d3, .slice B4 s.h.length d4⟩ s) :=
    ⟨ho1.out.below hc.out, ho2.out.below hc.out, ho3.out.below hc.out, ho4.out, hr1.out.mono (by omega) (by omega), hr2.out.mono (by omega) (by omega), hr3.out.mono (by omega) (by omega), hr4.out.mono (by omega) (by omega),
      Ap.of hr1.out hr2.out (by omega), Ap.of hr1.out hr3.out (by omega), Ap.of hr2.out hr3.out (by omega)⟩
  have HB := Lib.hid (bl_step hb.out hc.out)
  clear q1 q2 q3 q4 y0 y1 y2 y3
  refine bodyPost_ret (v := .agg #[.slice B1 s.m.length d1, .slice B2 s.f.length d2, .slice B3 s.v.length d3, .slice B4 s.h.length d4]) (by simp [results, Try.results21, go_sem, e10, e11, e12, e13]) rfl ?_
  refine NewS.fin HO.out HB.out (by omega) ?_
  repeat (first | exact Fr.refl _ _ | refine Fr.trans ?_ (Fr.set (by simp only []; omega) _))
end Go.Proofs.Ytiemacjmipiakaa.Nm
