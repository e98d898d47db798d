/- The law FnExactNamGet, walked. -/
import Derived.Test.YtiemacjmipiakaaNmJ
namespace Go.Proofs.Ytiemacjmipiakaa.Nm
open Go.RowKit Go.Proofs.Ytiemacjmipiakaa.Hw
set_option linter.unusedVariables false
set_option linter.unusedSimpArgs false
theorem get_both (s : St) (d : Int) (hf : s.f.length ≤ 1048576) : ∃ (r1 : Int) (r2 : Bool), Hid (∀ V w, RdS w V s → Calls Try.prog 23 #[V.agg, .int .i64 d] w fun e w' => e = .returned (.tuple #[.int .i64 r1, .bool r2]) ∧ Below w.heap.size w w') ∧
    Hid (∀ V w, RdS w V s → Calls Try.prog 24 #[V.agg, .int .i64 d] w fun e w' => e = .returned (.tuple #[.int .i64 r1, .bool r2]) ∧ Below w.heap.size w w') := by
  by_cases hc : OkS s ∧ 0 ≤ d ∧ d ≤ 7
  · exact ⟨_, _, fun V w h => get23y V s d w h hc.1 hc.2.1 hc.2.2 hf, fun V w h => get24y V s d w h hc.1 hc.2.1 hc.2.2⟩
  · exact ⟨_, _, fun V w h => get23n V s d w h hc hf, fun V w h => get24n V s d w h hc⟩
set_option maxHeartbeats 4000000 in
/-- The law FnExactNamGet's walk. -/
theorem law5 (V : Sv) (s : St) (q : Int) (w : World) (h : RdS w V s) : Calls Try.prog 5 #[V.agg, .int .i64 q] w fun e w' => e = .returned (.bool true) ∧ Below w.heap.size w w' := by
  have H := Lib.hid h
  obtain ⟨A, c, A2, c2, A3, c3, A4, c4, hV⟩ := h.form
  subst hV
  clear h
  by_cases hl : s.m.length + s.f.length + s.v.length + s.h.length ≤ 1048576
  · have HL := Lib.hid hl
    obtain ⟨r1, r2, G3, G4⟩ := get_both s q (by omega)
    clear hl
    go_enter Try.func5, Try.ntmps5
    go_wp2_with fail
    obtain ⟨w0, hW, HB, k0, hz⟩ := bx1 w #[.slice A s.m.length c, .slice A2 s.f.length c2, .slice A3 s.v.length c3, .slice A4 s.h.length c4] 30
    rw [hW]; clear hW
    ((with_reducible refine (sz19y ⟨_, _, _, _⟩ s _ (H.out.below HB.out) HL.out).mono ?_); rintro e w1 ⟨⟨r, rfl, hr⟩, hb⟩)
    replace HB := Lib.hid (bl_step HB.out hb)
    replace k0 := Lib.hid (k0.out.below hb)
    clear hb
    obtain ⟨e0, e1, e2, e3⟩ := box4 k0.out
    go_wp2_with fail
    clear e0 e1 e2 e3
    ((with_reducible refine (to21 ⟨_, _, _, _⟩ s _ (H.out.below HB.out) HL.out).mono ?_); rintro e w2 ⟨X, rfl, ho, hb⟩)
    replace HB := Lib.hid (bl_step HB.out hb.out)
    replace k0 := Lib.hid (k0.out.below hb.out)
    clear hb
    go_wp2_with fail
    ((with_reducible refine (G3.out X _ ho.out.rd).mono ?_); rintro e w3 ⟨rfl, hb⟩)
    replace HB := Lib.hid (bl_step HB.out hb)
    replace k0 := Lib.hid (k0.out.below hb)
    clear hb ho
    obtain ⟨e0, e1, e2, e3⟩ := box4 k0.out
    go_wp2_with fail
    clear e0 e1 e2 e3
    ((with_reducible refine (to21 ⟨_, _, _, _⟩ s _ (H.out.below HB.out) HL.out).mono ?_); rintro e w4 ⟨Y, rfl, ho, hb⟩)
    replace HB := Lib.hid (bl_step HB.out hb.out)
    replace k0 := Lib.hid (k0.out.below hb.out)
    clear hb
    obtain ⟨B, d, B2, d2, B3, d3, B4, d4, rfl⟩ := ho.out.rd.form
    go_wp2_with fail
    obtain ⟨w5, hW, hb, kx, hz5⟩ := bx1 w4 #[.slice B s.m.length d, .slice B2 s.f.length d2, .slice B3 s.v.length d3, .slice B4 s.h.length d4] 25
    rw [hW]; clear hW
    replace HB := Lib.hid (bl_step HB.out hb.out)
    replace k0 := Lib.hid (k0.out.below hb.out)
    have rx := Lib.hid (ho.out.rd.below hb.out)
    clear ho hb
    ((with_reducible refine (G4.out ⟨_, _, _, _⟩ _ rx.out).mono ?_); rintro e w6 ⟨rfl, hb⟩)
    replace HB := Lib.hid (bl_step HB.out hb)
    replace k0 := Lib.hid (k0.out.below hb)
    replace kx := Lib.hid (kx.out.below hb)
    replace rx := Lib.hid (rx.out.below hb)
    clear hb
    go_wp2_with fail
    have hS0 : Ex ⟨.slice A s.m.length c, .slice A2 s.f.length c2, .slice A3 s.v.length c3, .slice A4 s.h.length c4⟩ ⟨.slice B s.m.length d, .slice B2 s.f.length d2, .slice B3 s.v.length d3, .slice B4 s.h.length d4⟩ s w4.heap.size w (w6).drew := ⟨bl_drew HB.out, H.out, k0.out, kx.out, rx.out.below (bl_drew (bl_refl _))⟩
    generalize hVe : (⟨.slice A s.m.length c, .slice A2 s.f.length c2, .slice A3 s.v.length c3, .slice A4 s.h.length c4⟩ : Sv) = V at hS0
    generalize hXe : (⟨.slice B s.m.length d, .slice B2 s.f.length d2, .slice B3 s.v.length d3, .slice B4 s.h.length d4⟩ : Sv) = X at hS0
    refine wp_flow mixed [[],[],[1],[0,2],[3]] (Ex V X s w4.heap.size w) (fun _ w1 w2 => Below w1.heap.size w1 w2) (VEx V X s) (by kernel_rfl) hS0 (fun i j f v w1 w2 hij _ hv hT _ => VEx.keep i j f v w1 w2 hij hv hT) ?_ ?_
    · intro i o hi a w' hS hD hO hs
      match i, hi with
      | 0, hi =>
        obtain rfl := Option.some.inj hi
        have d1 : a.tmps.getD 8 undef = .pointer (some ⟨w4.heap.size, 0, none⟩) := hO 8 (by kernel_rfl)
        obtain ⟨c0, c1, c2, c3⟩ := box4 hS.kx
        refine step_val rfl X.agg w' ?_ (by simp) hS (bl_refl _) rfl
        simp only [execOp, Act.eval, d1]
        clear hD hO hs hS hS0
        subst hXe
        go_simp
      | 1, hi =>
        obtain rfl := Option.some.inj hi
        have d1 : a.tmps.getD 2 undef = .pointer (some ⟨w.heap.size, 0, none⟩) := hO 2 (by kernel_rfl)
        obtain ⟨c0, c1, c2, c3⟩ := box4 hS.k0
        refine step_val rfl V.agg w' ?_ (by simp) hS (bl_refl _) rfl
        simp only [execOp, Act.eval, d1]
        clear hD hO hs hS hS0
        subst hVe
        go_simp
      | 2, hi =>
        obtain rfl := Option.some.inj hi
        have d1 : a.tmps.getD 40 undef = V.agg := hD 1 (by simp)
        refine step_call rfl 21 #[V.agg] (by simp only [execOp, d1]; clear hD hO hs hS hS0; go_simp) (by simp) _ (to21 V s _ (hS.r0.below hS.bl) HL.out) ?_
        rintro e w1 ⟨Y, rfl, ho, hb⟩
        exact ⟨_, rfl, hS.next hb.out, hb.out, Y, rfl, ho.out.rd⟩
      | 3, hi =>
        obtain rfl := Option.some.inj hi
        have d0 : a.tmps.getD 39 undef = X.agg := hD 0 (by simp)
        obtain ⟨Y, d2, hY⟩ : ∃ Y : Sv, a.tmps.getD 41 undef = Y.agg ∧ RdS w' Y s := hD 2 (by simp)
        refine step_call rfl 16 #[X.agg, Y.agg] (by simp only [execOp]; clear hD hO hs hS hS0; go_simp) (by simp) _ (eqS16 X Y s _ hS.rx hY) ?_
        rintro e w1 ⟨rfl, hb⟩
        exact ⟨_, rfl, hS.next hb, hb, rfl⟩
      | 4, hi =>
        obtain rfl := Option.some.inj hi
        have d3 : a.tmps.getD 42 undef = .bool true := hD 3 (by simp)
        refine step_val rfl (.bool false) w' ?_ (by simp) hS (bl_refl _) rfl
        simp only [execOp, Act.eval, d3]
        clear hD hO hs hS hS0
        go_simp
      | n + 5, hi => exact absurd hi (by simp)
    · intro a w' hS hD hO hs hd
      have d4 : a.tmps.getD 43 undef = .bool false := hD 4 (by decide)
      obtain ⟨tm, df⟩ := a
      obtain ⟨x0, x1, x2, x3, x4, x5, x6, x7, x8, x9, x10, x11, x12, x13, x14, x15, x16, x17, x18, x19, x20, x21, x22, x23, x24, x25, x26, x27, x28, x29, x30, x31, x32, x33, x34, x35, x36, x37, x38, x39, x40, x41, x42, x43, rfl⟩ := lit44 tm hs
      obtain rfl : x43 = .bool false := d4
      obtain rfl : df = [] := hd
      have HB2 := Lib.hid hS.bl
      clear hS hD hO hs hS0
      go_wp2_with fail
      go_ret
      exact ⟨rfl, HB2.out⟩
  · have HL := Lib.hid hl
    clear hl
    go_enter Try.func5, Try.ntmps5
    go_wp2_with fail
    obtain ⟨w0, hW, HB, k0, hz⟩ := bx1 w #[.slice A s.m.length c, .slice A2 s.f.length c2, .slice A3 s.v.length c3, .slice A4 s.h.length c4] 30
    rw [hW]; clear hW
    ((with_reducible refine (sz19n ⟨_, _, _, _⟩ s _ (H.out.below HB.out) (by have := HL.out; omega)).mono ?_); rintro e w1 ⟨rfl, hb⟩)
    replace HB := Lib.hid (bl_step HB.out hb)
    clear hb
    go_wp2_with fail
    go_ret
    exact ⟨rfl, HB.out⟩
end Go.Proofs.Ytiemacjmipiakaa.Nm
