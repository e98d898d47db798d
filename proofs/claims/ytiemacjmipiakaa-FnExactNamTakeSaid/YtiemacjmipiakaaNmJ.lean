/- The word of a register. -/
import Derived.Test.YtiemacjmipiakaaNmI
namespace Go.Proofs.Ytiemacjmipiakaa.Nm
open Go.RowKit Go.Proofs.Ytiemacjmipiakaa.Hw
set_option linter.unusedVariables false
set_option linter.unusedSimpArgs false
/-- The place of a register. -/
def plc (s : St) (d : Int) : Nat := (s.m.getD d.toNat 0).toNat
theorem plc_ok (s : St) (h : OkS s) (d : Int) (h0 : 0 ≤ d) (h1 : d ≤ 7) : ∃ (k p : Nat), d = k ∧ k < 8 ∧ plc s d = p ∧ p < 20 ∧ s.m[k]? = some (p : Int) := by
  obtain ⟨k, rfl⟩ := Int.eq_ofNat_of_zero_le h0
  have hk : k < s.m.length := by rw [h.m]; omega
  have hb := h.a.2 _ (List.mem_append_left _ (List.getElem_mem hk))
  obtain ⟨p, hp⟩ := Int.eq_ofNat_of_zero_le hb.1
  refine ⟨k, p, rfl, by omega, ?_, by omega, by rw [List.getElem?_eq_getElem hk, hp]⟩
  simp [plc, List.getD_eq_getElem?_getD, List.getElem?_eq_getElem hk, hp]
theorem Rd.at_ {α : Type} {enc : α → Value} {w : World} {v : Value} {l : List α} (h : Rd enc w v l) (i : Nat) (hi : i < l.length) : ∃ ad c, v = .slice (some ad) l.length c ∧ w.cell? (ad.add i) = some (enc l[i]) := by
  obtain ⟨A, c, e, hc, hm, hr⟩ := h
  obtain ⟨ad, rfl, hx⟩ := hr (by omega)
  exact ⟨ad, c, e, hx i _ (List.getElem?_eq_getElem hi)⟩
theorem getD_of {α : Type} (l : List α) (i : Nat) (d : α) (h : i < l.length) : l[i] = l.getD i d := by rw [List.getD_eq_getElem?_getD, List.getElem?_eq_getElem h]; rfl
set_option maxHeartbeats 2000000 in
theorem get23y (V : Sv) (s : St) (d : Int) (w : World) (h : RdS w V s) (hok : OkS s) (h0 : 0 ≤ d) (h1 : d ≤ 7) (hf : s.f.length ≤ 1048576) :
    Calls Try.prog 23 #[V.agg, .int .i64 d] w fun e w' => e = .returned (.tuple #[.int .i64 (s.v.getD (plc s d) 0), .bool (s.h.getD (plc s d) false)]) ∧ Below w.heap.size w w' := by
  obtain ⟨k, p, rfl, hk, hp, hp20, hmk⟩ := plc_ok s hok d h0 h1
  rw [hp]
  have H := Lib.hid h
  have HK := Lib.hid hok
  obtain ⟨A, c, A2, c2, A3, c3, A4, c4, rfl⟩ := h.form
  have lm := hok.m; have lv := hok.v; have lh := hok.h
  obtain ⟨ad, cc, e0, x0⟩ := Rd.at_ H.out.m k (by omega)
  obtain ⟨ad2, cc2, e2, x2⟩ := Rd.at_ H.out.v p (by omega)
  obtain ⟨ad3, cc3, e3, x3⟩ := Rd.at_ H.out.h p (by omega)
  obtain ⟨rfl, rfl⟩ : A = some ad ∧ c = cc := by simpa using e0
  obtain ⟨rfl, rfl⟩ : A3 = some ad2 ∧ c3 = cc2 := by simpa using e2
  obtain ⟨rfl, rfl⟩ : A4 = some ad3 ∧ c4 = cc3 := by simpa using e3
  rw [show s.m[k]'(by omega) = (p : Int) from by rw [List.getElem?_eq_getElem (by omega)] at hmk; exact Option.some.inj hmk] at x0
  rw [getD_of s.v p 0 (by omega)] at x2
  rw [getD_of s.h p false (by omega)] at x3
  have qm : k < s.m.length := by omega
  have qv : p < s.v.length := by omega
  have qh : p < s.h.length := by omega
  have dm : decide ((k : Int) < (s.m.length : Int)) = true := decide_eq_true (by omega)
  have dv : decide ((p : Int) < (s.v.length : Int)) = true := decide_eq_true (by omega)
  have dh : decide ((p : Int) < (s.h.length : Int)) = true := decide_eq_true (by omega)
  generalize s.v.getD p 0 = r1 at x2 ⊢
  generalize s.h.getD p false = r2 at x3 ⊢
  clear h hok hmk lm lv lh e0 e2 e3 hp h0 h1
  go_enter Try.func23, Try.ntmps23
  go_wp2_with fail
  obtain ⟨w0, hW, HB, k0, hz⟩ := bx1 w #[.slice (some ad) s.m.length c, .slice A2 s.f.length c2, .slice (some ad2) s.v.length c3, .slice (some ad3) s.h.length c4] 25
  rw [hW]; clear hW
  ((with_reducible refine (ok20 ⟨_, _, _, _⟩ s _ (H.out.below HB.out) (by omega) true (by simp [HK.out])).mono ?_); rintro e w1 ⟨rfl, hb⟩)
  replace HB := Lib.hid (bl_step HB.out hb)
  replace k0 := Lib.hid (k0.out.below hb)
  clear hb
  go_wp2_with fail
  ((with_reducible refine (reg53 _ true (by simp; omega) _).mono ?_); rintro e w' ⟨rfl, rfl⟩)
  obtain ⟨b0, b1, b2, b3⟩ := box4 k0.out
  replace x0 := (HB.out.cell (World.block_lt_of_cell? w _ x0)).trans x0
  replace x2 := (HB.out.cell (World.block_lt_of_cell? w _ x2)).trans x2
  replace x3 := (HB.out.cell (World.block_lt_of_cell? w _ x3)).trans x3
  go_wp2_with fail
  go_quiet (fail)
  go_wp2_with fail
  go_ret2
  exact ⟨rfl, by repeat (first | exact HB.out | refine bl_drewN ?_ _)⟩
theorem get23n (V : Sv) (s : St) (d : Int) (w : World) (h : RdS w V s) (hno : ¬ (OkS s ∧ 0 ≤ d ∧ d ≤ 7)) (hf : s.f.length ≤ 1048576) :
    Calls Try.prog 23 #[V.agg, .int .i64 d] w fun e w' => e = .returned (.tuple #[.int .i64 0, .bool false]) ∧ Below w.heap.size w w' := by
  have H := Lib.hid h
  obtain ⟨A, c, A2, c2, A3, c3, A4, c4, rfl⟩ := h.form
  clear h
  by_cases hok : OkS s
  · have HK := Lib.hid hok
    have HD : Hid (¬ (0 ≤ d ∧ d ≤ 7)) := Lib.hid (fun h => hno ⟨hok, h⟩)
    clear hok hno
    go_enter Try.func23, Try.ntmps23
    go_wp2_with fail
    obtain ⟨w0, hW, HB, k0, hz⟩ := bx1 w #[.slice A s.m.length c, .slice A2 s.f.length c2, .slice A3 s.v.length c3, .slice A4 s.h.length c4] 25
    rw [hW]; clear hW
    ((with_reducible refine (ok20 ⟨_, _, _, _⟩ s _ (H.out.below HB.out) (by omega) true (by simp [HK.out])).mono ?_); rintro e w1 ⟨rfl, hb⟩)
    replace HB := Lib.hid (bl_step HB.out hb)
    clear hb
    go_wp2_with fail
    ((with_reducible refine (reg53 _ false (by simp only [Bool.false_eq_true, false_iff]; exact HD.out) _).mono ?_); rintro e w' ⟨rfl, rfl⟩)
    go_wp2_with fail
    go_ret2
    exact ⟨rfl, HB.out⟩
  · have HK := Lib.hid hok
    clear hok hno
    go_enter Try.func23, Try.ntmps23
    go_wp2_with fail
    obtain ⟨w0, hW, HB, k0, hz⟩ := bx1 w #[.slice A s.m.length c, .slice A2 s.f.length c2, .slice A3 s.v.length c3, .slice A4 s.h.length c4] 25
    rw [hW]; clear hW
    ((with_reducible refine (ok20 ⟨_, _, _, _⟩ s _ (H.out.below HB.out) (by omega) false (by simp [HK.out])).mono ?_); rintro e w1 ⟨rfl, hb⟩)
    replace HB := Lib.hid (bl_step HB.out hb)
    clear hb
    go_wp2_with fail
    go_ret2
    exact ⟨rfl, HB.out⟩
set_option maxHeartbeats 2000000 in
theorem get24y (V : Sv) (s : St) (d : Int) (w : World) (h : RdS w V s) (hok : OkS s) (h0 : 0 ≤ d) (h1 : d ≤ 7) :
    Calls Try.prog 24 #[V.agg, .int .i64 d] w fun e w' => e = .returned (.tuple #[.int .i64 (s.v.getD (plc s d) 0), .bool (s.h.getD (plc s d) false)]) ∧ Below w.heap.size w w' := by
  obtain ⟨k, p, rfl, hk, hp, hp20, hmk⟩ := plc_ok s hok d h0 h1
  rw [hp]
  have H := Lib.hid h
  have HK := Lib.hid hok
  obtain ⟨A, c, A2, c2, A3, c3, A4, c4, rfl⟩ := h.form
  have lm := hok.m; have lv := hok.v; have lh := hok.h
  obtain ⟨ad, cc, e0, x0⟩ := Rd.at_ H.out.m k (by omega)
  obtain ⟨ad2, cc2, e2, x2⟩ := Rd.at_ H.out.v p (by omega)
  obtain ⟨ad3, cc3, e3, x3⟩ := Rd.at_ H.out.h p (by omega)
  obtain ⟨rfl, rfl⟩ : A = some ad ∧ c = cc := by simpa using e0
  obtain ⟨rfl, rfl⟩ : A3 = some ad2 ∧ c3 = cc2 := by simpa using e2
  obtain ⟨rfl, rfl⟩ : A4 = some ad3 ∧ c4 = cc3 := by simpa using e3
  rw [show s.m[k]'(by omega) = (p : Int) from by rw [List.getElem?_eq_getElem (by omega)] at hmk; exact Option.some.inj hmk] at x0
  rw [getD_of s.v p 0 (by omega)] at x2
  rw [getD_of s.h p false (by omega)] at x3
  have qm : k < s.m.length := by omega
  have qv : p < s.v.length := by omega
  have qh : p < s.h.length := by omega
  have dm : decide ((k : Int) < (s.m.length : Int)) = true := decide_eq_true (by omega)
  have dv : decide ((p : Int) < (s.v.length : Int)) = true := decide_eq_true (by omega)
  have dh : decide ((p : Int) < (s.h.length : Int)) = true := decide_eq_true (by omega)
  generalize s.v.getD p 0 = r1 at x2 ⊢
  generalize s.h.getD p false = r2 at x3 ⊢
  clear h hok hmk lm lv lh e0 e2 e3 hp h0 h1
  go_enter Try.func24, Try.ntmps24
  go_wp2_with fail
  obtain ⟨w0, hW, HB, k0, hz⟩ := bx1 w #[.slice (some ad) s.m.length c, .slice A2 s.f.length c2, .slice (some ad2) s.v.length c3, .slice (some ad3) s.h.length c4] 25
  rw [hW]; clear hW
  ((with_reducible refine (ok22 ⟨_, _, _, _⟩ s _ (H.out.below HB.out) true (by simp [HK.out])).mono ?_); rintro e w1 ⟨rfl, hb⟩)
  replace HB := Lib.hid (bl_step HB.out hb)
  replace k0 := Lib.hid (k0.out.below hb)
  clear hb
  obtain ⟨b0, b1, b2, b3⟩ := box4 k0.out
  replace x0 := (HB.out.cell (World.block_lt_of_cell? w _ x0)).trans x0
  replace x2 := (HB.out.cell (World.block_lt_of_cell? w _ x2)).trans x2
  replace x3 := (HB.out.cell (World.block_lt_of_cell? w _ x3)).trans x3
  go_wp2_with fail
  go_quiet (fail)
  go_wp2_with fail
  go_ret2
  exact ⟨rfl, by repeat (first | exact HB.out | refine bl_drewN ?_ _)⟩
theorem get24n (V : Sv) (s : St) (d : Int) (w : World) (h : RdS w V s) (hno : ¬ (OkS s ∧ 0 ≤ d ∧ d ≤ 7)) :
    Calls Try.prog 24 #[V.agg, .int .i64 d] w fun e w' => e = .returned (.tuple #[.int .i64 0, .bool false]) ∧ Below w.heap.size w w' := by
  have H := Lib.hid h
  obtain ⟨A, c, A2, c2, A3, c3, A4, c4, rfl⟩ := h.form
  clear h
  by_cases hok : OkS s
  · have HK := Lib.hid hok
    have HD : Hid (¬ (0 ≤ d ∧ d ≤ 7)) := Lib.hid (fun h => hno ⟨hok, h⟩)
    clear hok hno
    by_cases hd : d < 0
    · go_enter Try.func24, Try.ntmps24
      go_wp2_with fail
      obtain ⟨w0, hW, HB, k0, hz⟩ := bx1 w #[.slice A s.m.length c, .slice A2 s.f.length c2, .slice A3 s.v.length c3, .slice A4 s.h.length c4] 25
      rw [hW]; clear hW
      ((with_reducible refine (ok22 ⟨_, _, _, _⟩ s _ (H.out.below HB.out) true (by simp [HK.out])).mono ?_); rintro e w1 ⟨rfl, hb⟩)
      replace HB := Lib.hid (bl_step HB.out hb)
      clear hb
      go_wp2_with fail
      go_ret2
      exact ⟨rfl, HB.out⟩
    · have hd2 : 8 ≤ d := by have := HD.out; omega
      have hd3 : ¬ d < 0 := hd
      go_enter Try.func24, Try.ntmps24
      go_wp2_with fail
      obtain ⟨w0, hW, HB, k0, hz⟩ := bx1 w #[.slice A s.m.length c, .slice A2 s.f.length c2, .slice A3 s.v.length c3, .slice A4 s.h.length c4] 25
      rw [hW]; clear hW
      ((with_reducible refine (ok22 ⟨_, _, _, _⟩ s _ (H.out.below HB.out) true (by simp [HK.out])).mono ?_); rintro e w1 ⟨rfl, hb⟩)
      replace HB := Lib.hid (bl_step HB.out hb)
      clear hb
      go_wp2_with fail
      go_ret2
      exact ⟨rfl, HB.out⟩
  · have HK := Lib.hid hok
    clear hok hno
    go_enter Try.func24, Try.ntmps24
    go_wp2_with fail
    obtain ⟨w0, hW, HB, k0, hz⟩ := bx1 w #[.slice A s.m.length c, .slice A2 s.f.length c2, .slice A3 s.v.length c3, .slice A4 s.h.length c4] 25
    rw [hW]; clear hW
    ((with_reducible refine (ok22 ⟨_, _, _, _⟩ s _ (H.out.below HB.out) false (by simp [HK.out])).mono ?_); rintro e w1 ⟨rfl, hb⟩)
    replace HB := Lib.hid (bl_step HB.out hb)
    clear hb
    go_wp2_with fail
    go_ret2
    exact ⟨rfl, HB.out⟩
end Go.Proofs.Ytiemacjmipiakaa.Nm
