/- A place goes back. -/
import Derived.Test.YtiemacjmipiakaaNmT
import Derived.Test.YtiemacjmipiakaaNmK
namespace Go.Proofs.Ytiemacjmipiakaa.Nm
open Go.RowKit Go.Proofs.Ytiemacjmipiakaa.Hw
set_option linter.unusedVariables false
set_option linter.unusedSimpArgs false
theorem pig : ∀ (n : Nat) (l : List Int), l.Nodup → (∀ x ∈ l, 0 ≤ x ∧ x < n) → l.length ≤ n
  | 0, l, _, hr => by
    cases l with
    | nil => exact Nat.le_refl _
    | cons x l => have := hr x (by simp); omega
  | n + 1, l, hn, hr => by
    have h := pig n (l.erase (n : Int)) (hn.erase _) (fun x hx => by
      have h1 := hr x (List.mem_of_mem_erase hx)
      have h2 : x ≠ n := fun e => by subst e; exact (List.Nodup.mem_erase_iff hn).mp hx |>.1 rfl
      omega)
    by_cases hm : (n : Int) ∈ l
    · rw [List.length_erase_of_mem hm] at h; omega
    · rw [List.erase_of_not_mem hm] at h; omega
theorem OkS.fl {s : St} (h : OkS s) : s.f.length ≤ 12 := by
  have := pig 20 (s.m ++ s.f) h.a.1 (fun x hx => by have := h.a.2 x hx; omega)
  have := h.m
  simp at *
  omega
theorem OkS.ml {s : St} (h : OkS s) (hf : s.f.length ≤ 1048000) : s.m.length + s.f.length + s.v.length + s.h.length ≤ 1048576 := by
  have := h.m; have := h.v; have := h.h; omega
theorem rl_fill (l xs : List Int) (h : Fill l xs) (hl : l.length ≤ 20) : rl xs 0 l.length = l := by
  refine List.ext_getElem (by simp [rl]) fun j h1 h2 => ?_
  have h3 := h.2 j h2
  simp only [rl, List.getElem_map, List.getElem_range, Nat.zero_add]
  rw [Nat.mod_eq_of_lt (by omega), h3, List.getD_eq_getElem?_getD, List.getElem?_eq_getElem h2]
  rfl
theorem Fill.push {l xs : List Int} (h : Fill l xs) (p : Int) (hl : l.length < 20) : Fill (l ++ [p]) (xs.set ((0 + l.length) % 20) p) := by
  refine ⟨by simp [h.1], fun j hj => ?_⟩
  simp only [List.length_append, List.length_singleton] at hj
  rw [Nat.zero_add, Nat.mod_eq_of_lt hl, List.getD_eq_getElem?_getD, List.getD_eq_getElem?_getD]
  by_cases hjl : j = l.length
  · subst hjl
    rw [List.getElem?_set_self (by rw [h.1]; exact hl), List.getElem?_append_right (Nat.le_refl _)]
    simp
  · have h3 := h.2 j (by omega)
    rw [List.getD_eq_getElem?_getD, List.getD_eq_getElem?_getD] at h3
    rw [List.getElem?_set_ne (by omega), h3, List.getElem?_append_left (by omega)]
theorem set_mid {α : Type} (A B C : List α) (j : Nat) (u : α) (hA : A.length = 8) (hB : j < B.length) : (A ++ (B ++ C)).set (8 + j) u = A ++ (B.set j u ++ C) := by
  rw [List.set_append_right _ _ (by omega), hA, Nat.add_sub_cancel_left, List.set_append_left _ _ hB]
theorem nc_push (pl xs : List Int) (f m m' : Int) (vv hh : Value) (j : Nat) (p : Int) (hp : pl.length = 8) (hx : xs.length = 20) (hj : j < 20) :
    ((nc pl xs f m vv hh).set (8 + j) (.int .i64 p)).set (8 + 21) (.int .i64 m') = nc pl (xs.set j p) f m' vv hh := by
  unfold nc
  rw [set_mid _ _ _ _ _ (by simp [hp]) (by rw [rc_len _ _ _ hx]; omega), set_mid _ _ _ _ _ (by simp [hp]) (by rw [List.length_set, rc_len _ _ _ hx]; omega), rc_push _ _ _ _ _ _ hx hj]
theorem Nb.ring {B g : Nat} {pl xs : List Int} {f m : Nat} {lv : List Int} {lh : List Bool} {vv hh : Value} {w : World} (h : Nb B g pl xs f m lv lh vv hh w) (j : Nat) (u : Value) (hj : (rc xs f m)[j]? = some u) : (nc pl xs f m vv hh).toArray[8 + j]? = some u := by
  rw [List.getElem?_toArray, nc_ring _ _ _ _ _ _ h.hp j (List.getElem?_eq_some_iff.1 hj).1]
  exact hj
/-- A place goes back. -/
theorem npush (B g : Nat) (pl xs : List Int) (f m : Nat) (lv : List Int) (lh : List Bool) (vv hh : Value) (p : Int) (w : World) (h : Nb B g pl xs f m lv lh vv hh w) (hf : f < 20) (hm : m < 20) :
    Calls Try.prog 59 #[.pointer (some ⟨g, 8, none⟩), .int .i64 p] w fun e w' => e = .returned (.tuple #[]) ∧ Hid (Nb B g pl (xs.set ((f + m) % 20) p) f (m + 1) lv lh vv hh w') ∧ Hid (Fr (fun k => k = g) w w') := by
  refine (push59 g 8 _ 68 f m p w hf hm h.k (by rw [List.size_toArray, nc_len _ _ _ _ _ _ h.hp h.hx]; omega) (h.ring 20 _ (rc_f xs f m h.hx)) (h.ring 21 _ (rc_m xs f m h.hx))).mono ?_
  rintro e w' ⟨rfl, hk, hfr⟩
  refine ⟨rfl, Lib.hid (h.turn hfr.out ?_ h.hp (by simp [h.hx])), hfr⟩
  have := hk.out
  rw [List.setIfInBounds_toArray, List.setIfInBounds_toArray, nc_push _ _ _ _ _ _ _ _ _ h.hp h.hx (Nat.mod_lt _ (by omega))] at this
  exact this
set_option maxHeartbeats 4000000 in
theorem free26y (V : Sv) (s : St) (p : Int) (w : World) (h : RdS w V s) (hok : OkS s) (h0 : 0 ≤ p) (h1 : p ≤ 19) (hm : p ∉ s.m) (hf : p ∉ s.f) :
    Calls Try.prog 26 #[V.agg, .int .i64 p] w (NewS w ⟨s.m, s.f ++ [p], s.v, s.h⟩) := by
  have H := Lib.hid h
  obtain ⟨A, c, A2, c2, A3, c3, A4, c4, rfl⟩ := h.form
  have HK := Lib.hid hok; have HM := Lib.hid hm; have HF := Lib.hid hf
  clear h hok hm hf
  go_enter Try.func26, Try.ntmps26
  go_wp2_with fail
  obtain ⟨w0, hW, HB, k0, k1, hz⟩ := bx2 w #[.slice A s.m.length c, .slice A2 s.f.length c2, .slice A3 s.v.length c3, .slice A4 s.h.length c4] 25 #[.slice none 0 0, .slice none 0 0, .slice none 0 0, .slice none 0 0] 25
  rw [hW]; clear hW
  ((with_reducible refine (ok22 ⟨_, _, _, _⟩ s _ (H.out.below HB.out) true (by simp [HK.out])).mono ?_); rintro e w1 ⟨rfl, hb⟩)
  replace HB := Lib.hid (bl_step HB.out hb)
  replace k0 := Lib.hid (k0.out.below hb)
  replace k1 := Lib.hid (k1.out.below hb)
  clear hb
  go_wp2_with fail
  ((with_reducible refine (phy52 p true (by simp; omega) _).mono ?_); rintro e w' ⟨rfl, rfl⟩)
  obtain ⟨e0, e1, e2, e3⟩ := box4 k0.out
  go_wp2_with fail
  ((with_reducible refine (held57 ⟨_, _, _, _⟩ s p false (by simp [HM.out, HF.out]) _ (H.out.below HB.out)).mono ?_); rintro e w2 ⟨rfl, hb⟩)
  replace HB := Lib.hid (bl_step HB.out hb)
  replace k0 := Lib.hid (k0.out.below hb)
  replace k1 := Lib.hid (k1.out.below hb)
  clear hb e0 e1 e2 e3
  obtain ⟨e0, e1, e2, e3⟩ := box4 k0.out
  go_wp2_with fail
  ((with_reducible refine (names58 ⟨_, _, _, _⟩ s _ (H.out.below HB.out) HK.out.m (by have := HK.out.fl; omega) (HK.out.ml (by have := HK.out.fl; omega))).mono ?_); rintro e w3 ⟨g, xs, vv, hh, rfl, hF, HN, hb⟩)
  have hg : Hid (w.heap.size + 2 ≤ g) := Lib.hid (by have := HN.out.hg; have := k1.out.lt; omega)
  have HP := Lib.hid (rl_fill _ _ (hF.push p (by have := HK.out.fl; omega)) (by have := HK.out.fl; simp; omega))
  replace HB := Lib.hid (bl_step HB.out hb.out)
  replace k1 := Lib.hid (k1.out.below hb.out)
  clear hb e0 e1 e2 e3 k0 hF
  go_wp2_with fail
  ((with_reducible refine (npush _ g s.m xs 0 s.f.length s.v s.h vv hh p _ HN.out (by omega) (by have := HK.out.fl; omega)).mono ?_); rintro e w4 ⟨rfl, HN2, hfr⟩)
  replace HB := Lib.hid (hfr.out.below HB.out HB.out.size (fun k hk => by have := hg.out; omega))
  replace k1 := Lib.hid (k1.out.fr hfr.out (by have := hg.out; omega))
  clear hfr HN
  have hX : List.length s.f + 1 = (s.f ++ [p]).length := by simp
  rw [← hX] at HP
  clear hX
  go_wp2_with fail
  ((with_reducible refine (state60 _ g s.m (xs.set ((0 + s.f.length) % 20) p) 0 (s.f.length + 1) s.v s.h vv hh _ HN2.out (by omega) (by have := HK.out.fl; omega) (by have := HK.out.v; have := HK.out.h; omega)).mono ?_); rintro e w5 ⟨X, rfl, ho, hb⟩)
  rw [HP.out] at ho
  obtain ⟨B, d, B2, d2, B3, d3, B4, d4, rfl⟩ := ho.out.rd.form
  have hlt := Lib.hid k1.out.lt
  replace HB := Lib.hid (bl_step HB.out hb.out)
  replace k1 := Lib.hid (k1.out.below hb.out)
  clear hb HN2 HP
  obtain ⟨g0, g1, g2, g3⟩ := box4 k1.out
  have y0 := k1.out.frozen
  dsimp only at ho
  go_wp2_with fail
  refine bodyPost_ret (v := .agg #[.slice B s.m.length d, .slice B2 (s.f ++ [p]).length d2, .slice B3 s.v.length d3, .slice B4 s.h.length d4]) (by simp [results, Try.results26, go_sem, g0, g1, g2, g3]) rfl ?_
  have hlt' := hlt.out
  refine NewS.fin (n := w4.heap.size) ho.out HB.out (by omega) ?_
  repeat (first | exact Fr.refl _ _ | refine Fr.trans ?_ (Fr.set (by simp only []; omega) _))
set_option maxHeartbeats 4000000 in
theorem free26n (V : Sv) (s : St) (p : Int) (w : World) (h : RdS w V s) (hno : ¬ (OkS s ∧ (0 ≤ p ∧ p ≤ 19) ∧ p ∉ s.m ∧ p ∉ s.f)) :
    Calls Try.prog 26 #[V.agg, .int .i64 p] w (NewS w ⟨[], [], [], []⟩) := by
  have H := Lib.hid h
  obtain ⟨A, c, A2, c2, A3, c3, A4, c4, rfl⟩ := h.form
  by_cases hok : OkS s
  · have HK := Lib.hid hok
    by_cases hp : 0 ≤ p ∧ p ≤ 19
    · have HP := Lib.hid hp
      have hm : p ∈ s.m ∨ p ∈ s.f := by
        by_cases hm : p ∈ s.m
        · exact .inl hm
        · by_cases hf : p ∈ s.f
          · exact .inr hf
          · exact absurd ⟨hok, hp, hm, hf⟩ hno
      have HM := Lib.hid hm
      clear h hok hm hp hno
      go_enter Try.func26, Try.ntmps26
      go_wp2_with fail
      obtain ⟨w0, hW, HB, k0, k1, hz⟩ := bx2 w #[.slice A s.m.length c, .slice A2 s.f.length c2, .slice A3 s.v.length c3, .slice A4 s.h.length c4] 25 #[.slice none 0 0, .slice none 0 0, .slice none 0 0, .slice none 0 0] 25
      rw [hW]; clear hW
      ((with_reducible refine (ok22 ⟨_, _, _, _⟩ s _ (H.out.below HB.out) true (by simp [HK.out])).mono ?_); rintro e w1 ⟨rfl, hb⟩)
      replace HB := Lib.hid (bl_step HB.out hb)
      replace k0 := Lib.hid (k0.out.below hb)
      replace k1 := Lib.hid (k1.out.below hb)
      clear hb
      go_wp2_with fail
      ((with_reducible refine (phy52 p true (by simp; have := HP.out; omega) _).mono ?_); rintro e w' ⟨rfl, rfl⟩)
      obtain ⟨e0, e1, e2, e3⟩ := box4 k0.out
      go_wp2_with fail
      ((with_reducible refine (held57 ⟨_, _, _, _⟩ s p true (by simp [HM.out]) _ (H.out.below HB.out)).mono ?_); rintro e w2 ⟨rfl, hb⟩)
      replace HB := Lib.hid (bl_step HB.out hb)
      replace k1 := Lib.hid (k1.out.below hb)
      clear hb e0 e1 e2 e3
      obtain ⟨g0, g1, g2, g3⟩ := box4 k1.out
      have y0 := k1.out.frozen
      go_wp2_with fail
      refine bodyPost_ret (v := .agg #[.slice none 0 0, .slice none 0 0, .slice none 0 0, .slice none 0 0]) (by simp [results, Try.results26, go_sem, g0, g1, g2, g3]) rfl ?_
      refine NewS.zero (Fr.below (S := fun k => k = w.heap.size + 1) HB.out ?_ HB.out.size (fun k hk => by omega))
      repeat (first | exact Fr.refl _ _ | refine Fr.trans ?_ (Fr.set (by exact rfl) _))
    · have HP := Lib.hid hp
      clear h hok hp hno
      go_enter Try.func26, Try.ntmps26
      go_wp2_with fail
      obtain ⟨w0, hW, HB, k0, k1, hz⟩ := bx2 w #[.slice A s.m.length c, .slice A2 s.f.length c2, .slice A3 s.v.length c3, .slice A4 s.h.length c4] 25 #[.slice none 0 0, .slice none 0 0, .slice none 0 0, .slice none 0 0] 25
      rw [hW]; clear hW
      ((with_reducible refine (ok22 ⟨_, _, _, _⟩ s _ (H.out.below HB.out) true (by simp [HK.out])).mono ?_); rintro e w1 ⟨rfl, hb⟩)
      replace HB := Lib.hid (bl_step HB.out hb)
      replace k0 := Lib.hid (k0.out.below hb)
      replace k1 := Lib.hid (k1.out.below hb)
      clear hb
      go_wp2_with fail
      ((with_reducible refine (phy52 p false (by simp only [Bool.false_eq_true, false_iff]; have := HP.out; omega) _).mono ?_); rintro e w' ⟨rfl, rfl⟩)
      obtain ⟨g0, g1, g2, g3⟩ := box4 k1.out
      have y0 := k1.out.frozen
      go_wp2_with fail
      refine bodyPost_ret (v := .agg #[.slice none 0 0, .slice none 0 0, .slice none 0 0, .slice none 0 0]) (by simp [results, Try.results26, go_sem, g0, g1, g2, g3]) rfl ?_
      refine NewS.zero (Fr.below (S := fun k => k = w.heap.size + 1) HB.out ?_ HB.out.size (fun k hk => by omega))
      repeat (first | exact Fr.refl _ _ | refine Fr.trans ?_ (Fr.set (by exact rfl) _))
  · have HK := Lib.hid hok
    clear h hok hno
    go_enter Try.func26, Try.ntmps26
    go_wp2_with fail
    obtain ⟨w0, hW, HB, k0, k1, hz⟩ := bx2 w #[.slice A s.m.length c, .slice A2 s.f.length c2, .slice A3 s.v.length c3, .slice A4 s.h.length c4] 25 #[.slice none 0 0, .slice none 0 0, .slice none 0 0, .slice none 0 0] 25
    rw [hW]; clear hW
    ((with_reducible refine (ok22 ⟨_, _, _, _⟩ s _ (H.out.below HB.out) false (by simp [HK.out])).mono ?_); rintro e w1 ⟨rfl, hb⟩)
    replace HB := Lib.hid (bl_step HB.out hb)
    replace k0 := Lib.hid (k0.out.below hb)
    replace k1 := Lib.hid (k1.out.below hb)
    clear hb
    obtain ⟨g0, g1, g2, g3⟩ := box4 k1.out
    have y0 := k1.out.frozen
    go_wp2_with fail
    refine bodyPost_ret (v := .agg #[.slice none 0 0, .slice none 0 0, .slice none 0 0, .slice none 0 0]) (by simp [results, Try.results26, go_sem, g0, g1, g2, g3]) rfl ?_
    refine NewS.zero (Fr.below (S := fun k => k = w.heap.size + 1) HB.out ?_ HB.out.size (fun k hk => by omega))
    repeat (first | exact Fr.refl _ _ | refine Fr.trans ?_ (Fr.set (by exact rfl) _))
end Go.Proofs.Ytiemacjmipiakaa.Nm
