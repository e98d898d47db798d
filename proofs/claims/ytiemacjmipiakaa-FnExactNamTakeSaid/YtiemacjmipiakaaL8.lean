/- The law FnExactNamTake, walked. -/
import Derived.Test.YtiemacjmipiakaaNmZb
import Derived.Test.YtiemacjmipiakaaNmLit
import Derived.Test.YtiemacjmipiakaaNmC
namespace Go.Proofs.Ytiemacjmipiakaa.Nm
open Go.RowKit Go.Proofs.Ytiemacjmipiakaa.Hw
set_option linter.unusedVariables false
set_option linter.unusedSimpArgs false
/-- A state of a call's own in a box: its blocks from B to below C, the box at b. -/
structure Kp (B C b : Nat) (V : Sv) (s : St) (w : World) : Prop where
  o : OwS B C w V s
  k : Bk w b #[V.m, V.f, V.v, V.h] 25
  h1 : B ≤ C
  h2 : C ≤ b
theorem Kp.below {B C b : Nat} {V : Sv} {s : St} {w w' : World} (h : Kp B C b V s w) (hb : Below w.heap.size w w') : Kp B C b V s w' := ⟨h.o.below hb, h.k.below hb, h.h1, h.h2⟩
theorem Kp.fr {S : Nat → Prop} {B C b : Nat} {V : Sv} {s : St} {w w' : World} (h : Kp B C b V s w) (hf : Fr S w w') (hs : ∀ k, B ≤ k → k ≤ b → ¬ S k) : Kp B C b V s w' :=
  ⟨h.o.fr hf (fun k h1 h2 => hs k h1 (by have := h.h2; omega)), h.k.fr hf (hs b (Nat.le_trans h.h1 h.h2) (Nat.le_refl _)), h.h1, h.h2⟩
theorem Kp.mark {B C b : Nat} {V : Sv} {s s' : St} {w w' : World} (h : Kp B C b V s w) (ho : OwS B C w' V s') (hf : Fr (fun k => B ≤ k ∧ k < C) w w') : Kp B C b V s' w' :=
  ⟨ho, h.k.fr hf (fun hk => by have := h.h2; omega), h.h1, h.h2⟩
/-- Behind the boxes of the argument and of a state that the law made; and whatever was there ahead of the region. -/
structure Ex2 (V X : Sv) (s : St) (bx : Nat) (w wc w' : World) : Prop where
  bl : Below w.heap.size w w'
  r0 : RdS w V s
  k0 : Bk w' w.heap.size #[V.m, V.f, V.v, V.h] 30
  kx : Bk w' bx #[X.m, X.f, X.v, X.h] 25
  rx : RdS w' X s
  nx : Below wc.heap.size wc w'
theorem Ex2.next {V X : Sv} {s : St} {bx : Nat} {w wc w1 w2 : World} (h : Ex2 V X s bx w wc w1) (hb : Below w1.heap.size w1 w2) : Ex2 V X s bx w wc w2 := ⟨bl_step h.bl hb, h.r0, h.k0.below hb, h.kx.below hb, h.rx.below hb, bl_step h.nx hb⟩
theorem take_both (s : St) (d : Int) (hl : s.m.length + s.f.length + s.v.length + s.h.length ≤ 1048576) : ∃ (t : St) (ra rb : Int) (rk : Bool), Hid (t.m.length + t.f.length + t.v.length + t.h.length ≤ 1048576) ∧ Hid (∀ V w, RdS w V s → Calls Try.prog 29 #[V.agg, .int .i64 d] w (NewT w t ra rb rk)) ∧
    Hid (∀ V w, RdS w V s → Calls Try.prog 30 #[V.agg, .int .i64 d] w (NewT w t ra rb rk)) := by
  by_cases hc : OkS s ∧ 1 ≤ d ∧ d ≤ 7
  · obtain ⟨h1, h2⟩ := hc
    cases hf : s.f with
    | nil => exact ⟨_, _, _, _, Lib.hid hl, fun V w h => take29e V s d w h h1 h2 hf hl, fun V w h => take30e V s d w h h1 h2 hf⟩
    | cons x r =>
      exact ⟨_, _, _, _, Lib.hid (by have h3 := h1.fl; rw [hf] at h3; have := h1.m; have := h1.v; have := h1.h; simp at h3 ⊢; omega), fun V w h => take29y V s d w h x _ r h1 h2 hf rfl hl, fun V w h => take30y V s d w h x _ r h1 h2 hf rfl⟩
  · exact ⟨⟨[], [], [], []⟩, 0, 0, false, Lib.hid (by simp), fun V w h => take29n V s d w h hc hl, fun V w h => take30n V s d w h hc⟩
set_option maxHeartbeats 8000000 in
/-- The law's walk. -/
theorem law8 (V : Sv) (s : St) (dd : Int) (w : World) (h : RdS w V s) : Calls Try.prog 8 #[V.agg, .int .i64 dd] w fun e w' => e = .returned (.bool true) ∧ Below w.heap.size w w' := by
  have H := Lib.hid h
  obtain ⟨A, c, A2, c2, A3, c3, A4, c4, hV⟩ := h.form
  subst hV
  clear h
  by_cases hl : s.m.length + s.f.length + s.v.length + s.h.length ≤ 1048576
  · have HL := Lib.hid hl
    obtain ⟨t, ra, rb, rk, HT, G3, G4⟩ := take_both s dd (by omega)
    clear hl
    go_enter Try.func8, Try.ntmps8
    go_wp2_with fail
    obtain ⟨w0, hW, HB, k0, hz⟩ := bx1 w #[.slice A s.m.length c, .slice A2 s.f.length c2, .slice A3 s.v.length c3, .slice A4 s.h.length c4] 30
    rw [hW]; clear hW
    ((with_reducible refine (sz19y ⟨_, _, _, _⟩ s _ (H.out.below HB.out) HL.out).mono ?_); rintro e w1 ⟨⟨r, rfl, hr⟩, hb⟩)
    replace HB := Lib.hid (bl_step HB.out hb)
    replace k0 := Lib.hid (k0.out.below hb)
    clear hb
    obtain ⟨e0, e1, e2, e3⟩ := box4 (k0.out)
    go_wp2_with fail
    clear e0 e1 e2 e3
    ((with_reducible refine (to21 ⟨_, _, _, _⟩ s _ (H.out.below HB.out) HL.out).mono ?_); rintro e w2 ⟨X, rfl, ho, hb⟩)
    replace HB := Lib.hid (bl_step HB.out hb.out)
    replace k0 := Lib.hid (k0.out.below hb.out)
    have s2 := Lib.hid k0.out.lt
    clear hb
    go_wp2_with fail
    ((with_reducible refine (G3.out X _ ho.out.rd).mono ?_); rintro e w3 ⟨W0, rfl, hw, hb⟩)
    have z3 := Lib.hid hb.out.size
    replace HB := Lib.hid (bl_step HB.out hb.out)
    replace k0 := Lib.hid (k0.out.below hb.out)
    clear hb ho
    obtain ⟨M0, m0, M1, m1, M2, m2, M3, m3, rfl⟩ := hw.out.rd.form
    obtain ⟨e0, e1, e2, e3⟩ := box4 (k0.out)
    obtain ⟨f0, f1, f2, f3⟩ := box4 (k0.out.alloc (.cells #[.slice M0 t.m.length m0, .slice M1 t.f.length m1, .slice M2 t.v.length m2, .slice M3 t.h.length m3] 25))
    go_wp2_with fail
    clear e0 e1 e2 e3 f0 f1 f2 f3
    obtain ⟨w4, hW, hb, k6, z4⟩ := bx1 w3 #[.slice M0 t.m.length m0, .slice M1 t.f.length m1, .slice M2 t.v.length m2, .slice M3 t.h.length m3] 25
    rw [hW]; clear hW
    replace HB := Lib.hid (bl_step HB.out hb.out)
    replace k0 := Lib.hid (k0.out.below hb.out)
    have K6 : Hid (Kp w2.heap.size w3.heap.size w3.heap.size ⟨.slice M0 t.m.length m0, .slice M1 t.f.length m1, .slice M2 t.v.length m2, .slice M3 t.h.length m3⟩ t w4) := Lib.hid ⟨hw.out.below hb.out, k6.out, z3.out, Nat.le_refl _⟩
    clear hb k6 hw
    ((with_reducible refine (to21 ⟨_, _, _, _⟩ s _ (H.out.below HB.out) HL.out).mono ?_); rintro e w5 ⟨X, rfl, ho, hb⟩)
    have z5 := Lib.hid hb.out.size
    replace HB := Lib.hid (bl_step HB.out hb.out)
    replace k0 := Lib.hid (k0.out.below hb.out)
    replace K6 := Lib.hid (K6.out.below hb.out)
    clear hb
    obtain ⟨B, d, B2, d2, B3, d3, B4, d4, rfl⟩ := ho.out.rd.form
    go_wp2_with fail
    obtain ⟨w6, hW, hb, k7, z6⟩ := bx1 w5 #[.slice B s.m.length d, .slice B2 s.f.length d2, .slice B3 s.v.length d3, .slice B4 s.h.length d4] 25
    rw [hW]; clear hW
    replace HB := Lib.hid (bl_step HB.out hb.out)
    replace k0 := Lib.hid (k0.out.below hb.out)
    replace K6 := Lib.hid (K6.out.below hb.out)
    have K7 : Hid (Kp w4.heap.size w5.heap.size w5.heap.size ⟨.slice B s.m.length d, .slice B2 s.f.length d2, .slice B3 s.v.length d3, .slice B4 s.h.length d4⟩ s w6) := Lib.hid ⟨ho.out.below hb.out, k7.out, z5.out, Nat.le_refl _⟩
    clear hb k7 ho
    ((with_reducible refine (G4.out ⟨_, _, _, _⟩ _ K7.out.o.rd).mono ?_); rintro e w7 ⟨G0, rfl, hg, hb⟩)
    have z7 := Lib.hid hb.out.size
    replace HB := Lib.hid (bl_step HB.out hb.out)
    replace k0 := Lib.hid (k0.out.below hb.out)
    replace K6 := Lib.hid (K6.out.below hb.out)
    replace K7 := Lib.hid (K7.out.below hb.out)
    clear hb
    obtain ⟨N0, n0, N1, n1, N2, n2, N3, n3, rfl⟩ := hg.out.rd.form
    obtain ⟨f0, f1, f2, f3⟩ := box4 (K6.out.k.alloc (.cells #[.slice N0 t.m.length n0, .slice N1 t.f.length n1, .slice N2 t.v.length n2, .slice N3 t.h.length n3] 25))
    go_wp2_with fail
    clear f0 f1 f2 f3
    obtain ⟨w8, hW, hb, k8, z8⟩ := bx1 w7 #[.slice N0 t.m.length n0, .slice N1 t.f.length n1, .slice N2 t.v.length n2, .slice N3 t.h.length n3] 25
    rw [hW]; clear hW
    replace HB := Lib.hid (bl_step HB.out hb.out)
    replace k0 := Lib.hid (k0.out.below hb.out)
    replace K6 := Lib.hid (K6.out.below hb.out)
    replace K7 := Lib.hid (K7.out.below hb.out)
    have K8 : Hid (Kp w6.heap.size w7.heap.size w7.heap.size ⟨.slice N0 t.m.length n0, .slice N1 t.f.length n1, .slice N2 t.v.length n2, .slice N3 t.h.length n3⟩ t w8) := Lib.hid ⟨hg.out.below hb.out, k8.out, z7.out, Nat.le_refl _⟩
    clear hb k8 hg
    ((with_reducible refine (eqS16 ⟨_, _, _, _⟩ ⟨_, _, _, _⟩ t _ K8.out.o.rd K6.out.o.rd).mono ?_); rintro e w9 ⟨rfl, hb⟩)
    replace HB := Lib.hid (bl_step HB.out hb)
    replace k0 := Lib.hid (k0.out.below hb)
    replace K6 := Lib.hid (K6.out.below hb)
    replace K7 := Lib.hid (K7.out.below hb)
    replace K8 := Lib.hid (K8.out.below hb)
    clear hb
    go_wp2_with fail
    have kx := Lib.hid K7.out.k
    have rx := Lib.hid K7.out.o.rd
    have hS0 : Ex2 ⟨.slice A s.m.length c, .slice A2 s.f.length c2, .slice A3 s.v.length c3, .slice A4 s.h.length c4⟩ ⟨.slice B s.m.length d, .slice B2 s.f.length d2, .slice B3 s.v.length d3, .slice B4 s.h.length d4⟩ s w5.heap.size w w9 (w9).drew := ⟨bl_drew HB.out, H.out, k0.out, kx.out, rx.out.below (bl_drew (bl_refl _)), bl_drew (bl_refl _)⟩
    generalize hVe : (⟨.slice A s.m.length c, .slice A2 s.f.length c2, .slice A3 s.v.length c3, .slice A4 s.h.length c4⟩ : Sv) = V at hS0
    generalize hXe : (⟨.slice B s.m.length d, .slice B2 s.f.length d2, .slice B3 s.v.length d3, .slice B4 s.h.length d4⟩ : Sv) = X at hS0
    refine wp_flow mixed [[],[],[1],[0,2],[3]] (Ex2 V X s w5.heap.size w w9) (fun _ w1 w2 => Below w1.heap.size w1 w2) (VEx V X s) (by kernel_rfl) hS0 (fun i j f v w1 w2 hij _ hv hT _ => VEx.keep i j f v w1 w2 hij hv hT) ?_ ?_
    · intro i o hi a w' hS hD hO hs
      match i, hi with
      | 0, hi =>
        obtain rfl := Option.some.inj hi
        have d1 : a.tmps.getD 10 undef = .pointer (some ⟨w5.heap.size, 0, none⟩) := hO 10 (by kernel_rfl)
        obtain ⟨c0, c1, c2, c3⟩ := box4 hS.kx
        refine step_val rfl X.agg w' ?_ (by simp) hS (bl_refl _) rfl
        simp only [execOp, Act.eval, d1]
        clear hD hO hs hS hS0
        subst hXe
        go_simp
      | 1, hi =>
        obtain rfl := Option.some.inj hi
        have d1 : a.tmps.getD 2 undef = .pointer (some ⟨w.heap.size, 0, none⟩) := hO 2 (by kernel_rfl)
        obtain ⟨c0, c1, c2, c3⟩ := box4 hS.k0
        refine step_val rfl V.agg w' ?_ (by simp) hS (bl_refl _) rfl
        simp only [execOp, Act.eval, d1]
        clear hD hO hs hS hS0
        subst hVe
        go_simp
      | 2, hi =>
        obtain rfl := Option.some.inj hi
        have d1 : a.tmps.getD 66 undef = V.agg := hD 1 (by simp)
        refine step_call rfl 21 #[V.agg] (by simp only [execOp, d1]; clear hD hO hs hS hS0; go_simp) (by simp) _ (to21 V s _ (hS.r0.below hS.bl) HL.out) ?_
        rintro e w1 ⟨Y, rfl, ho, hb⟩
        exact ⟨_, rfl, hS.next hb.out, hb.out, Y, rfl, ho.out.rd⟩
      | 3, hi =>
        obtain rfl := Option.some.inj hi
        have d0 : a.tmps.getD 65 undef = X.agg := hD 0 (by simp)
        obtain ⟨Y, d2, hY⟩ : ∃ Y : Sv, a.tmps.getD 67 undef = Y.agg ∧ RdS w' Y s := hD 2 (by simp)
        refine step_call rfl 16 #[X.agg, Y.agg] (by simp only [execOp]; clear hD hO hs hS hS0; go_simp) (by simp) _ (eqS16 X Y s _ hS.rx hY) ?_
        rintro e w1 ⟨rfl, hb⟩
        exact ⟨_, rfl, hS.next hb, hb, rfl⟩
      | 4, hi =>
        obtain rfl := Option.some.inj hi
        have d3 : a.tmps.getD 68 undef = .bool true := hD 3 (by simp)
        refine step_val rfl (.bool false) w' ?_ (by simp) hS (bl_refl _) rfl
        simp only [execOp, Act.eval, d3]
        clear hD hO hs hS hS0
        go_simp
      | n + 5, hi => exact absurd hi (by simp)
    · intro a w' hS hD hO hs hd
      have d4 : a.tmps.getD 69 undef = .bool false := hD 4 (by decide)
      obtain ⟨tm, df⟩ := a
      obtain ⟨x0, x1, x2, x3, x4, x5, x6, x7, x8, x9, x10, x11, x12, x13, x14, x15, x16, x17, x18, x19, x20, x21, x22, x23, x24, x25, x26, x27, x28, x29, x30, x31, x32, x33, x34, x35, x36, x37, x38, x39, x40, x41, x42, x43, x44, x45, x46, x47, x48, x49, x50, x51, x52, x53, x54, x55, x56, x57, x58, x59, x60, x61, x62, x63, x64, x65, x66, x67, x68, x69, x70, x71, x72, x73, x74, x75, x76, x77, x78, x79, x80, x81, x82, x83, x84, x85, x86, x87, x88, x89, x90, x91, x92, x93, x94, x95, x96, x97, x98, x99, x100, x101, x102, x103, x104, x105, x106, x107, x108, x109, x110, x111, x112, x113, x114, x115, x116, x117, x118, x119, x120, x121, x122, x123, x124, x125, x126, x127, x128, x129, x130, x131, x132, x133, x134, x135, x136, x137, x138, x139, x140, x141, x142, rfl⟩ := lit143 tm hs
      obtain rfl : x69 = .bool false := d4
      obtain rfl : df = [] := hd
      have NX := Lib.hid hS.nx
      obtain rfl : x1 = .int .i64 dd := hO 1 (by kernel_rfl)
      obtain rfl : x2 = .pointer (some ⟨w.heap.size, 0, none⟩) := hO 2 (by kernel_rfl)
      obtain rfl : x6 = .pointer (some ⟨w3.heap.size, 0, none⟩) := hO 6 (by kernel_rfl)
      obtain rfl : x10 = .pointer (some ⟨w5.heap.size, 0, none⟩) := hO 10 (by kernel_rfl)
      obtain rfl : x11 = .pointer (some ⟨w7.heap.size, 0, none⟩) := hO 11 (by kernel_rfl)
      obtain rfl : x7 = .int .i64 ra := hO 7 (by kernel_rfl)
      obtain rfl : x8 = .int .i64 rb := hO 8 (by kernel_rfl)
      obtain rfl : x9 = .bool rk := hO 9 (by kernel_rfl)
      obtain rfl : x12 = .int .i64 ra := hO 12 (by kernel_rfl)
      obtain rfl : x13 = .int .i64 rb := hO 13 (by kernel_rfl)
      obtain rfl : x14 = .bool rk := hO 14 (by kernel_rfl)
      clear hS hD hO hs hS0 kx rx
      subst hXe
      clear hVe
      rename_i w10 _
      replace HB := Lib.hid (bl_step HB.out NX.out)
      replace k0 := Lib.hid (k0.out.below NX.out)
      replace K6 := Lib.hid (K6.out.below NX.out)
      replace K7 := Lib.hid (K7.out.below NX.out)
      replace K8 := Lib.hid (K8.out.below NX.out)
      clear NX
      obtain ⟨e0, e1, e2, e3⟩ := box4 (K7.out.k)
      go_wp2_with fail
      clear e0 e1 e2 e3
      ((with_reducible refine (mark17 w4.heap.size w5.heap.size ⟨_, _, _, _⟩ s _ K7.out.o (by have := K7.out.k.lt; omega) HL.out).mono ?_); rintro e w11 ⟨rfl, ho, hf⟩)
      replace K6 := Lib.hid (K6.out.fr hf.out (fun k h1 h2 h3 => by have := z4.out; omega))
      replace K8 := Lib.hid (K8.out.fr hf.out (fun k h1 h2 h3 => by have := z6.out; omega))
      replace k0 := Lib.hid (k0.out.fr hf.out (fun h3 => by have := s2.out; have := z3.out; have := z4.out; omega))
      replace HB := Lib.hid (hf.out.below HB.out HB.out.size (fun k h3 => by have := s2.out; have := z3.out; have := z4.out; omega))
      clear ho hf K7
      have hr1 : 0 ≤ (1 + s.m.length + s.f.length + s.v.length + s.h.length : Int) := by omega
      generalize (1 + s.m.length + s.f.length + s.v.length + s.h.length : Int) = r1 at hr1 ⊢
      have dr1 : decide (r1 < 0) = false := decide_eq_false (by omega)
      obtain ⟨e0, e1, e2, e3⟩ := box4 (K8.out.k)
      obtain ⟨f0, f1, f2, f3⟩ := box4 (K6.out.k)
      go_wp2_with fail
      clear e0 e1 e2 e3 f0 f1 f2 f3
      ((with_reducible refine (eqS16 ⟨_, _, _, _⟩ ⟨_, _, _, _⟩ t _ K8.out.o.rd K6.out.o.rd).mono ?_); rintro e w12 ⟨rfl, hb⟩)
      replace HB := Lib.hid (bl_step HB.out hb)
      replace k0 := Lib.hid (k0.out.below hb)
      replace K6 := Lib.hid (K6.out.below hb)
      replace K8 := Lib.hid (K8.out.below hb)
      clear hb hr1 dr1
      obtain ⟨e0, e1, e2, e3⟩ := box4 (K8.out.k)
      go_wp2_with fail
      clear e0 e1 e2 e3
      ((with_reducible refine (mark17 w6.heap.size w7.heap.size ⟨_, _, _, _⟩ t _ K8.out.o (by have := K8.out.k.lt; omega) HT.out).mono ?_); rintro e w13 ⟨rfl, ho, hf⟩)
      replace K6 := Lib.hid (K6.out.fr hf.out (fun k h1 h2 h3 => by have := z4.out; have := z5.out; have := z6.out; omega))
      replace K8 := Lib.hid (K8.out.mark ho.out hf.out)
      replace k0 := Lib.hid (k0.out.fr hf.out (fun h3 => by have := s2.out; have := z3.out; have := z4.out; have := z5.out; have := z6.out; omega))
      replace HB := Lib.hid (hf.out.below HB.out HB.out.size (fun k h3 => by have := s2.out; have := z3.out; have := z4.out; have := z5.out; have := z6.out; omega))
      clear ho hf
      have HE := fun (w' : World) (hrd : RdS w' _ _) => held18 ⟨.slice N0 t.m.length n0, .slice N1 t.f.length n1, .slice N2 t.v.length n2, .slice N3 t.h.length n3⟩ t w' hrd HT.out
      have hr2 : 0 ≤ (1 + t.m.length + t.f.length + t.v.length + t.h.length : Int) := by omega
      generalize (1 + t.m.length + t.f.length + t.v.length + t.h.length : Int) = r2 at hr2 HE ⊢
      have dr2 : decide (r2 < 0) = false := decide_eq_false (by omega)
      replace HE := Lib.hid HE
      obtain ⟨e0, e1, e2, e3⟩ := box4 (K8.out.k)
      go_wp2_with fail
      clear e0 e1 e2 e3
      ((with_reducible refine (HE.out _ K8.out.o.rd).mono ?_); rintro e w14 ⟨rfl, hb⟩)
      replace HB := Lib.hid (bl_step HB.out hb)
      replace k0 := Lib.hid (k0.out.below hb)
      replace K6 := Lib.hid (K6.out.below hb)
      replace K8 := Lib.hid (K8.out.below hb)
      clear hb
      obtain ⟨e0, e1, e2, e3⟩ := box4 (k0.out)
      go_wp2_with fail
      clear e0 e1 e2 e3
      ((with_reducible refine (to21 ⟨_, _, _, _⟩ s _ (H.out.below HB.out) HL.out).mono ?_); rintro e w15 ⟨Y, rfl, ho, hb⟩)
      replace HB := Lib.hid (bl_step HB.out hb.out)
      replace k0 := Lib.hid (k0.out.below hb.out)
      replace K6 := Lib.hid (K6.out.below hb.out)
      replace K8 := Lib.hid (K8.out.below hb.out)
      clear hb
      go_wp2_with fail
      ((with_reducible refine (G4.out Y _ ho.out.rd).mono ?_); rintro e w16 ⟨H0, rfl, hh, hb⟩)
      replace HB := Lib.hid (bl_step HB.out hb.out)
      replace k0 := Lib.hid (k0.out.below hb.out)
      replace K6 := Lib.hid (K6.out.below hb.out)
      replace K8 := Lib.hid (K8.out.below hb.out)
      clear hb ho
      obtain ⟨O0, o0, O1, o1, O2, o2, O3, o3, rfl⟩ := hh.out.rd.form
      obtain ⟨f0, f1, f2, f3⟩ := box4 (K6.out.k.alloc (.cells #[.slice O0 t.m.length o0, .slice O1 t.f.length o1, .slice O2 t.v.length o2, .slice O3 t.h.length o3] 25))
      go_wp2_with fail
      clear f0 f1 f2 f3
      obtain ⟨w17, hW, hb, k9, z9⟩ := bx1 w16 #[.slice O0 t.m.length o0, .slice O1 t.f.length o1, .slice O2 t.v.length o2, .slice O3 t.h.length o3] 25
      rw [hW]; clear hW
      replace HB := Lib.hid (bl_step HB.out hb.out)
      replace k0 := Lib.hid (k0.out.below hb.out)
      replace K6 := Lib.hid (K6.out.below hb.out)
      replace K8 := Lib.hid (K8.out.below hb.out)
      have rh := Lib.hid (hh.out.rd.below hb.out)
      clear hb hh
      ((with_reducible refine (eqS16 ⟨_, _, _, _⟩ ⟨_, _, _, _⟩ t _ rh.out K6.out.o.rd).mono ?_); rintro e w18 ⟨rfl, hb⟩)
      replace HB := Lib.hid (bl_step HB.out hb)
      replace K8 := Lib.hid (K8.out.below hb)
      clear hb rh k9
      obtain ⟨e0, e1, e2, e3⟩ := box4 (K8.out.k)
      go_wp2_with fail
      clear e0 e1 e2 e3
      ((with_reducible refine (HE.out _ K8.out.o.rd).mono ?_); rintro e w19 ⟨rfl, hb⟩)
      replace HB := Lib.hid (bl_step HB.out hb)
      clear hb
      go_wp2_with fail
      go_ret
      exact ⟨rfl, HB.out⟩
  · have HL := Lib.hid hl
    clear hl
    go_enter Try.func8, Try.ntmps8
    go_wp2_with fail
    obtain ⟨w0, hW, HB, k0, hz⟩ := bx1 w #[.slice A s.m.length c, .slice A2 s.f.length c2, .slice A3 s.v.length c3, .slice A4 s.h.length c4] 30
    rw [hW]; clear hW
    ((with_reducible refine (sz19n ⟨_, _, _, _⟩ s _ (H.out.below HB.out) (by have := HL.out; omega)).mono ?_); rintro e w1 ⟨rfl, hb⟩)
    replace HB := Lib.hid (bl_step HB.out hb)
    clear hb
    go_wp2_with fail
    go_ret
    exact ⟨rfl, HB.out⟩
end Go.Proofs.Ytiemacjmipiakaa.Nm
