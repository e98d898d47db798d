/- Whether places are ok, by the reference. -/
import Derived.Test.YtiemacjmipiakaaNmF
namespace Go.Proofs.Ytiemacjmipiakaa.Nm
open Go.RowKit Go.Proofs.Ytiemacjmipiakaa.Hw
set_option linter.unusedVariables false
set_option linter.unusedSimpArgs false
/-- Places that are ok. -/
structure OkS (s : St) : Prop where
  m : s.m.length = 8
  h : s.h.length = 20
  v : s.v.length = 20
  w : ∀ x ∈ s.v, 0 ≤ x ∧ x ≤ 65535
  a : Apart (s.m ++ s.f)
  m0 : s.m.getD 0 0 = 0
  v0 : s.v.getD 0 0 = 0
  h0 : s.h.getD 0 false = true
theorem Vo.app2 {α : Type} {enc : α → Value} {t : TypeId} {B : Nat} {w w1 : World} {v v1 : Value} {l : List α} {A : Option Addr} {c : Nat} (e : v1 = .slice A l.length c) (h : Ow enc t w1 v1 l) (hv : ∀ k, obk v = some k → B ≤ k) (hat : obk v1 = obk v ∨ obk v1 = some w.heap.size) (hB : B ≤ w.heap.size) : Vo enc t B w1 v1 l :=
  ⟨⟨A, c, e⟩, h, fun k hk => by
    rcases hat with h1 | h1 <;> rw [h1] at hk
    · exact hv k hk
    · injection hk with hk; omega⟩
/-- Behind a state's box: what was there is there. -/
structure One (V : Sv) (s : St) (w w' : World) : Prop where
  bl : Below w.heap.size w w'
  r0 : RdS w V s
  k0 : Bk w' w.heap.size #[V.m, V.f, V.v, V.h] 25
theorem One.rd {V : Sv} {s : St} {w w' : World} (h : One V s w w') : RdS w' V s := h.r0.below h.bl
theorem One.next {V : Sv} {s : St} {w w1 w2 : World} (h : One V s w w1) (hb : Below w1.heap.size w1 w2) : One V s w w2 := ⟨bl_step h.bl hb, h.r0, h.k0.below hb⟩
theorem One.fr {V : Sv} {s : St} {w w1 w2 : World} (h : One V s w w1) (hf : Fr (fun k => w.heap.size + 1 ≤ k) w1 w2) : One V s w w2 := ⟨hf.below h.bl h.bl.size (fun k hk => by omega), h.r0, h.k0.fr hf (by omega)⟩
def V20 (b : Nat) (V : Sv) (s : St) (bA z0 z1 z2 : Bool) : Nat → (Nat → Value) → World → Prop
  | 0, f, w' => Vo (Value.int .i64) 3 (b + 1) w' (f 0) [] ∧ obk (f 0) = none
  | 1, f, w' => f 1 = .pointer (some ⟨b, 0, none⟩)
  | 2, f, w' => f 2 = V.m
  | 3, f, w' => f 6 = undef → Vo (Value.int .i64) 3 (b + 1) w' (f 3) s.m
  | 4, f, w' => f 4 = .pointer (some ⟨b, 1, none⟩)
  | 5, f, w' => f 5 = V.f
  | 6, f, w' => Vo (Value.int .i64) 3 (b + 1) w' (f 6) (s.m ++ s.f)
  | 7, f, w' => f 7 = .bool bA
  | 8, f, w' => f 8 = .bool bA
  | 9, f, w' => bA = true → f 9 = .pointer (some ⟨b, 0, none⟩)
  | 10, f, w' => bA = true → f 10 = V.m
  | 11, f, w' => bA = true → ∃ ad, f 11 = .pointer (some ad) ∧ ad.block ≤ b ∧ w'.cell? ad = some (.int .i64 (s.m.getD 0 0))
  | 12, f, w' => bA = true → f 12 = .int .i64 (s.m.getD 0 0)
  | 13, f, w' => bA = true → f 13 = .bool z0
  | 14, f, w' => f 14 = .bool (bA && z0)
  | 15, f, w' => f 15 = .bool (bA && z0)
  | 16, f, w' => (bA && z0) = true → f 16 = .pointer (some ⟨b, 2, none⟩)
  | 17, f, w' => (bA && z0) = true → f 17 = V.v
  | 18, f, w' => (bA && z0) = true → ∃ ad, f 18 = .pointer (some ad) ∧ ad.block ≤ b ∧ w'.cell? ad = some (.int .i64 (s.v.getD 0 0))
  | 19, f, w' => (bA && z0) = true → f 19 = .int .i64 (s.v.getD 0 0)
  | 20, f, w' => (bA && z0) = true → f 20 = .bool z1
  | 21, f, w' => f 21 = .bool (bA && z0 && z1)
  | 22, f, w' => f 22 = .bool (bA && z0 && z1)
  | 23, f, w' => (bA && z0 && z1) = true → f 23 = .pointer (some ⟨b, 3, none⟩)
  | 24, f, w' => (bA && z0 && z1) = true → f 24 = V.h
  | 25, f, w' => (bA && z0 && z1) = true → ∃ ad, f 25 = .pointer (some ad) ∧ ad.block ≤ b ∧ w'.cell? ad = some (.bool (s.h.getD 0 false))
  | 26, f, w' => (bA && z0 && z1) = true → f 26 = .bool z2
  | 27, f, w' => f 27 = .bool (bA && z0 && z1 && z2)
  | 28, f, w' => f 28 = .bool (bA && z0 && z1 && z2)
  | _, _, _ => True
set_option maxHeartbeats 4000000 in
/-- The last test of the reference's NamOk. -/
theorem ok20r (V : Sv) (s : St) (w : World) (h : RdS w V s) (hm : s.m.length = 8) (hh : s.h.length = 20) (hv : s.v.length = 20) (hw : ∀ x ∈ s.v, 0 ≤ x ∧ x ≤ 65535) (hfl : s.f.length ≤ 1048576) (b : Bool) (hb : b = true ↔ OkS s) :
    Calls Try.prog 20 #[V.agg] w fun e w' => e = .returned (.bool b) ∧ Below w.heap.size w w' := by
  have HW := Lib.hid hw
  have H := Lib.hid h
  obtain ⟨A, c, A2, c2, A3, c3, A4, c4, hV⟩ := h.form
  subst hV
  clear h hw
  have HF := Lib.hid hfl
  obtain ⟨bA, hbA⟩ : ∃ bA : Bool, bA = true ↔ Apart (s.m ++ s.f) := by
    by_cases h : Apart (s.m ++ s.f)
    · exact ⟨true, by simp [h]⟩
    · exact ⟨false, by simp [h]⟩
  obtain ⟨z0, hz0⟩ : ∃ z0 : Bool, (s.m.getD 0 0 == 0) = z0 := ⟨_, rfl⟩
  obtain ⟨z1, hz1⟩ : ∃ z1 : Bool, (s.v.getD 0 0 == 0) = z1 := ⟨_, rfl⟩
  obtain ⟨z2, hz2⟩ : ∃ z2 : Bool, s.h.getD 0 false = z2 := ⟨_, rfl⟩
  have HE : Hid (b = (bA && z0 && z1 && z2)) := by
    show b = _
    rw [Bool.eq_iff_iff, hb]
    constructor
    · intro h
      have h1 := hbA.mpr h.a
      have h2 := h.m0; have h3 := h.v0; have h4 := h.h0
      rw [h2] at hz0; rw [h3] at hz1; rw [h4] at hz2
      subst hz0 hz1 hz2
      simp [h1]
    · intro h
      simp only [Bool.and_eq_true] at h
      obtain ⟨⟨⟨h1, h2⟩, h3⟩, h4⟩ := h
      subst h2 h3 h4
      exact ⟨hm, hh, hv, HW.out, hbA.mp h1, by simpa using hz0, by simpa using hz1, hz2⟩
  have HA := Lib.hid hbA; have Z0 := Lib.hid hz0; have Z1 := Lib.hid hz1; have Z2 := Lib.hid hz2
  have HV := Lib.hid hv
  have HM := Lib.hid hm
  have HH := Lib.hid hh
  clear hb hbA hz0 hz1 hz2 hfl
  have m1 : ((s.m.length : Int) != 8) = false := by rw [hm]; rfl
  have m2 : ((s.h.length : Int) != 20) = false := by rw [hh]; rfl
  clear hm hh hv
  go_enter Try.func20, Try.ntmps20
  go_wp2_with fail
  obtain ⟨w0, hW, hb, k0, hz⟩ := bx1 w #[.slice A s.m.length c, .slice A2 s.f.length c2, .slice A3 s.v.length c3, .slice A4 s.h.length c4] 25
  rw [hW]; clear hW
  ((with_reducible refine (words47 _ s.v 20 true (by simp only [true_iff]; exact ⟨HW.out, by have := HV.out; omega⟩) _ (H.out.v.below hb.out)).mono ?_); rintro e w' ⟨rfl, n, rfl⟩)
  go_wp2_with fail
  have hS0 : One ⟨.slice A s.m.length c, .slice A2 s.f.length c2, .slice A3 s.v.length c3, .slice A4 s.h.length c4⟩ s w (w0.drewN n).drew := ⟨bl_drew (bl_drewN hb.out n), H.out, k0.out⟩
  clear hb k0 hz
  generalize w0.drewN n = w1 at hS0 ⊢
  generalize hVe : (⟨.slice A s.m.length c, .slice A2 s.f.length c2, .slice A3 s.v.length c3, .slice A4 s.h.length c4⟩ : Sv) = V at hS0 H
  clear hVe
  have hF : ∀ k, (fun _ : Nat => False) k → k < w.heap.size + 1 := fun _ h => h.elim
  refine wp_flow mixed [[],[],[1],[0,2],[],[4],[3,5],[6],[7],[8],[8,9],[8,10],[8,11],[8,12],[8,13],[14],[15],[15,16],[15,17],[15,18],[15,19],[15,20],[21],[22],[22,23],[22,24],[22,25],[22,26],[27]] (One V s w) (fun i w1 w2 => if i = 6 then Fr (fun k => w.heap.size + 1 ≤ k) w1 w2 else Below w1.heap.size w1 w2) (V20 w.heap.size V s bA z0 z1 z2) (by kernel_rfl) hS0 ?_ ?_ ?_
  · intro i j f v w1 w2 hij hni hv hT hvi
    have hF1 : Fr (fun k => w.heap.size + 1 ≤ k) w1 w2 := by
      by_cases h6 : i = 6
      · rw [if_pos h6] at hT; exact hT
      · rw [if_neg h6] at hT; exact Fr.of_below hT
    match j, hv, hni, hij with
    | 0, hv, hni, hij => rw [V20, upd_ne f i v 0 (Ne.symm hij)]; exact ⟨⟨hv.1.1, hv.1.2.1.fr hF1 (fun k hk => by rw [hv.2] at hk; cases hk), hv.1.2.2⟩, hv.2⟩
    | 1, hv, hni, hij => rw [V20, upd_ne f i v 1 (Ne.symm hij)]; exact hv
    | 2, hv, hni, hij => rw [V20, upd_ne f i v 2 (Ne.symm hij)]; exact hv
    | 3, hv, hni, hij => 
      by_cases h6 : i = 6
      · subst h6
        intro h
        obtain ⟨⟨A', c', e⟩, _⟩ := hvi
        rw [h] at e
        cases e
      · rw [if_neg h6] at hT
        show upd f i v 6 = undef → Vo _ _ _ _ (upd f i v 3) _
        rw [upd_ne f i v 3 (Ne.symm hij), upd_ne f i v 6 (Ne.symm h6)]
        exact fun h => (hv h).fr (Fr.of_below hT) hF
    | 4, hv, hni, hij => rw [V20, upd_ne f i v 4 (Ne.symm hij)]; exact hv
    | 5, hv, hni, hij => rw [V20, upd_ne f i v 5 (Ne.symm hij)]; exact hv
    | 6, hv, hni, hij => 
      rw [if_neg (fun h => hij h)] at hT
      rw [V20, upd_ne f i v 6 (Ne.symm hij)]; exact hv.fr (Fr.of_below hT) hF
    | 7, hv, hni, hij => rw [V20, upd_ne f i v 7 (Ne.symm hij)]; exact hv
    | 8, hv, hni, hij => rw [V20, upd_ne f i v 8 (Ne.symm hij)]; exact hv
    | 9, hv, hni, hij => rw [V20, upd_ne f i v 9 (Ne.symm hij)]; exact hv
    | 10, hv, hni, hij => rw [V20, upd_ne f i v 10 (Ne.symm hij)]; exact hv
    | 11, hv, hni, hij => rw [V20, upd_ne f i v 11 (Ne.symm hij)]; exact fun h => by obtain ⟨ad, e1, e0, e2⟩ := hv h; exact ⟨ad, e1, e0, (hF1.cell (World.block_lt_of_cell? w1 _ e2) (by omega)).trans e2⟩
    | 12, hv, hni, hij => rw [V20, upd_ne f i v 12 (Ne.symm hij)]; exact hv
    | 13, hv, hni, hij => rw [V20, upd_ne f i v 13 (Ne.symm hij)]; exact hv
    | 14, hv, hni, hij => rw [V20, upd_ne f i v 14 (Ne.symm hij)]; exact hv
    | 15, hv, hni, hij => rw [V20, upd_ne f i v 15 (Ne.symm hij)]; exact hv
    | 16, hv, hni, hij => rw [V20, upd_ne f i v 16 (Ne.symm hij)]; exact hv
    | 17, hv, hni, hij => rw [V20, upd_ne f i v 17 (Ne.symm hij)]; exact hv
    | 18, hv, hni, hij => rw [V20, upd_ne f i v 18 (Ne.symm hij)]; exact fun h => by obtain ⟨ad, e1, e0, e2⟩ := hv h; exact ⟨ad, e1, e0, (hF1.cell (World.block_lt_of_cell? w1 _ e2) (by omega)).trans e2⟩
    | 19, hv, hni, hij => rw [V20, upd_ne f i v 19 (Ne.symm hij)]; exact hv
    | 20, hv, hni, hij => rw [V20, upd_ne f i v 20 (Ne.symm hij)]; exact hv
    | 21, hv, hni, hij => rw [V20, upd_ne f i v 21 (Ne.symm hij)]; exact hv
    | 22, hv, hni, hij => rw [V20, upd_ne f i v 22 (Ne.symm hij)]; exact hv
    | 23, hv, hni, hij => rw [V20, upd_ne f i v 23 (Ne.symm hij)]; exact hv
    | 24, hv, hni, hij => rw [V20, upd_ne f i v 24 (Ne.symm hij)]; exact hv
    | 25, hv, hni, hij => rw [V20, upd_ne f i v 25 (Ne.symm hij)]; exact fun h => by obtain ⟨ad, e1, e0, e2⟩ := hv h; exact ⟨ad, e1, e0, (hF1.cell (World.block_lt_of_cell? w1 _ e2) (by omega)).trans e2⟩
    | 26, hv, hni, hij => rw [V20, upd_ne f i v 26 (Ne.symm hij)]; exact hv
    | 27, hv, hni, hij => rw [V20, upd_ne f i v 27 (Ne.symm hij)]; exact hv
    | 28, hv, hni, hij => rw [V20, upd_ne f i v 28 (Ne.symm hij)]; exact hv
    | n + 29, _, _, _ => exact trivial
  · intro i o hi a w' hS hD hO hs
    have l1 := HM.out
    have l2 := HH.out
    have l3 := HV.out
    match i, hi with
    | 0, hi =>
      obtain rfl := Option.some.inj hi
      refine step_val rfl (.slice (some ⟨w'.heap.size, 0, none⟩) 0 0) (w'.alloc (.cells #[] 3)) (by simp [execOp, go_sem]) (by simp) (hS.next (bl_alloc (bl_refl _) _)) (bl_alloc (bl_refl _) _) ⟨⟨⟨_, _, rfl⟩, ow_empty (Value.int .i64) 3 w', fun k hk => by simp [upd, obk] at hk⟩, by simp [upd, obk]⟩
    | 1, hi =>
      obtain rfl := Option.some.inj hi
      have d1 : a.tmps.getD 1 undef = .pointer (some ⟨w.heap.size, 0, none⟩) := hO 1 (by kernel_rfl)
      refine step_val rfl (.pointer (some ⟨w.heap.size, 0, none⟩)) w' ?_ (by simp) hS (bl_refl _) rfl
      simp only [execOp, Act.eval, d1]
      go_simp
    | 4, hi =>
      obtain rfl := Option.some.inj hi
      have d1 : a.tmps.getD 1 undef = .pointer (some ⟨w.heap.size, 0, none⟩) := hO 1 (by kernel_rfl)
      refine step_val rfl (.pointer (some ⟨w.heap.size, 1, none⟩)) w' ?_ (by simp) hS (bl_refl _) rfl
      simp only [execOp, Act.eval, d1]
      go_simp
    | 2, hi =>
      obtain rfl := Option.some.inj hi
      have d1 : a.tmps.getD 20 undef = .pointer (some ⟨w.heap.size, 0, none⟩) := hD 1 (by simp)
      have c0 := hS.k0.cell 0
      simp at c0
      refine step_val rfl V.m w' ?_ (by simp) hS (bl_refl _) rfl
      simp only [execOp, Act.eval, d1]
      go_simp
    | 5, hi =>
      obtain rfl := Option.some.inj hi
      have d1 : a.tmps.getD 23 undef = .pointer (some ⟨w.heap.size, 1, none⟩) := hD 4 (by simp)
      have c0 := hS.k0.cell 1
      simp at c0
      refine step_val rfl V.f w' ?_ (by simp) hS (bl_refl _) rfl
      simp only [execOp, Act.eval, d1]
      go_simp
    | 3, hi =>
      obtain rfl := Option.some.inj hi
      have d0 : Vo (Value.int .i64) 3 (w.heap.size + 1) w' (a.tmps.getD 19 undef) [] ∧ obk (a.tmps.getD 19 undef) = none := hD 0 (by simp)
      have d2 : a.tmps.getD 21 undef = V.m := hD 2 (by simp)
      refine step_append (enc := Value.int .i64) rfl (.tmp 19) (.tmp 21) 22 3 rfl (.int .i64 0) 8 Try.underlying22 info3 rfl (by decide) (fun _ => rfl) _ _ [] s.m rfl d2 d0.1.2.1 hS.rd.m (by simp; omega) (by simp) ?_
      intro A' c' w1 ho hf hat
      have hb : Below w'.heap.size w' w1 := hf.below (bl_refl _) (Nat.le_refl _) (fun k hk => by have hk' := d0.2.symm.trans hk; cases hk')
      exact ⟨hS.next hb, hb, fun _ => Vo.app rfl ho d0.2 hat hS.k0.lt⟩
    | 6, hi =>
      obtain rfl := Option.some.inj hi
      have d0 : Vo (Value.int .i64) 3 (w.heap.size + 1) w' (a.tmps.getD 22 undef) s.m := hD 3 (by simp) (hO 25 (by kernel_rfl))
      have d2 : a.tmps.getD 24 undef = V.f := hD 5 (by simp)
      have hff := HF.out
      refine step_append (enc := Value.int .i64) rfl (.tmp 22) (.tmp 24) 22 3 rfl (.int .i64 0) 8 Try.underlying22 info3 rfl (by decide) (fun _ => rfl) _ _ s.m s.f rfl d2 d0.2.1 hS.rd.f (by omega) (by simp) ?_
      intro A' c' w1 ho hf hat
      have hf' : Fr (fun k => w.heap.size + 1 ≤ k) w' w1 := hf.mono (fun k hk => d0.2.2 k hk)
      have hlt := hS.k0.lt
      exact ⟨hS.fr hf', hf', Vo.app2 rfl ho d0.2.2 hat hlt⟩
    | 7, hi =>
      obtain rfl := Option.some.inj hi
      have d6 : Vo (Value.int .i64) 3 (w.heap.size + 1) w' (a.tmps.getD 25 undef) (s.m ++ s.f) := hD 6 (by simp)
      refine step_call rfl 48 #[a.tmps.getD 25 undef] (by simp only [execOp]; go_simp) (by simp) _ (apart48 _ _ bA HA.out _ d6.2.1.rd) ?_
      rintro e w1 ⟨rfl, n, rfl⟩
      exact ⟨_, rfl, hS.next (bl_drewN (bl_refl _) _), bl_drewN (bl_refl _) _, rfl⟩
    | 8, hi =>
      obtain rfl := Option.some.inj hi
      have d1 : a.tmps.getD 26 undef = .bool bA := hD 7 (by simp)
      refine step_val rfl (.bool bA) w' ?_ (by simp) hS (bl_refl _) rfl
      simp only [execOp, Act.eval, d1]
      go_simp
    | 9, hi =>
      obtain rfl := Option.some.inj hi
      have dg : a.tmps.getD 27 undef = .bool bA := hD 8 (by simp)
      by_cases hc : bA = true
      · rw [hc] at dg
        have d1 : a.tmps.getD 1 undef = .pointer (some ⟨w.heap.size, 0, none⟩) := hO 1 (by kernel_rfl)
        refine step_yes rfl (d := 27) rfl dg (.pointer (some ⟨w.heap.size, 0, none⟩)) w' ?_ (by simp) hS (bl_refl _) (fun _ => rfl)
        simp only [execOp, Act.eval, d1]
        go_simp
      · rw [Bool.eq_false_iff.mpr hc] at dg
        exact step_no rfl (d := 27) rfl dg (by decide) hS (bl_refl _) (fun h => absurd h hc)
    | 10, hi =>
      obtain rfl := Option.some.inj hi
      have dg : a.tmps.getD 27 undef = .bool bA := hD 8 (by simp)
      by_cases hc : bA = true
      · rw [hc] at dg
        have d1 : a.tmps.getD 28 undef = .pointer (some ⟨w.heap.size, 0, none⟩) := hD 9 (by simp) hc
        have c0 := hS.k0.cell 0
        simp at c0
        refine step_yes rfl (d := 27) rfl dg V.m w' ?_ (by simp) hS (bl_refl _) (fun _ => rfl)
        simp only [execOp, Act.eval, d1]
        go_simp
      · rw [Bool.eq_false_iff.mpr hc] at dg
        exact step_no rfl (d := 27) rfl dg (by decide) hS (bl_refl _) (fun h => absurd h hc)
    | 11, hi =>
      obtain rfl := Option.some.inj hi
      have dg : a.tmps.getD 27 undef = .bool bA := hD 8 (by simp)
      by_cases hc : bA = true
      · rw [hc] at dg
        have d1 : a.tmps.getD 29 undef = V.m := hD 10 (by simp) hc
        obtain ⟨ad, cc, he, hcell0⟩ := hS.r0.m.zero 0 (by omega)
        have hlt := World.block_lt_of_cell? w _ hcell0
        have hcell := (hS.bl.cell hlt).trans hcell0
        rw [he] at d1
        have hpos : 0 < s.m.length := by omega
        refine step_yes rfl (d := 27) rfl dg (.pointer (some ad)) w' ?_ (by simp) hS (bl_refl _) (fun _ => ⟨ad, rfl, by omega, hcell⟩)
        simp only [execOp, Act.eval, d1]
        clear l1 l2 l3 hlt hcell0 hcell
        go_simp
      · rw [Bool.eq_false_iff.mpr hc] at dg
        exact step_no rfl (d := 27) rfl dg (by decide) hS (bl_refl _) (fun h => absurd h hc)
    | 12, hi =>
      obtain rfl := Option.some.inj hi
      have dg : a.tmps.getD 27 undef = .bool bA := hD 8 (by simp)
      by_cases hc : bA = true
      · rw [hc] at dg
        obtain ⟨ad, d1, _, d2⟩ : ∃ ad, a.tmps.getD 30 undef = .pointer (some ad) ∧ ad.block ≤ w.heap.size ∧ w'.cell? ad = some (.int .i64 (s.m.getD 0 0)) := hD 11 (by simp) hc
        refine step_yes rfl (d := 27) rfl dg (.int .i64 (s.m.getD 0 0)) w' ?_ (by simp) hS (bl_refl _) (fun _ => rfl)
        simp only [execOp, Act.eval, d1]
        go_simp
      · rw [Bool.eq_false_iff.mpr hc] at dg
        exact step_no rfl (d := 27) rfl dg (by decide) hS (bl_refl _) (fun h => absurd h hc)
    | 13, hi =>
      obtain rfl := Option.some.inj hi
      have dg : a.tmps.getD 27 undef = .bool bA := hD 8 (by simp)
      by_cases hc : bA = true
      · rw [hc] at dg
        have d1 : a.tmps.getD 31 undef = .int .i64 (s.m.getD 0 0) := hD 12 (by simp) hc
        have hz := Z0.out
        generalize s.m.getD 0 0 = q at d1 hz
        refine step_yes rfl (d := 27) rfl dg (.bool z0) w' ?_ (by simp) hS (bl_refl _) (fun _ => rfl)
        simp only [execOp, Act.eval, d1]
        go_simp
      · rw [Bool.eq_false_iff.mpr hc] at dg
        exact step_no rfl (d := 27) rfl dg (by decide) hS (bl_refl _) (fun h => absurd h hc)
    | 14, hi =>
      obtain rfl := Option.some.inj hi
      have dg : a.tmps.getD 27 undef = .bool bA := hD 8 (by simp)
      have dz : bA = true → a.tmps.getD 32 undef = .bool z0 := hD 13 (by simp)
      refine step_val rfl (.bool (bA && z0)) w' ?_ (by simp) hS (bl_refl _) rfl
      by_cases hc : bA = true
      · rw [hc] at dg ⊢
        replace dz := dz hc
        simp only [execOp, Act.eval, dg, dz]
        go_simp
      · have hc' := Bool.eq_false_iff.mpr hc
        rw [hc'] at dg ⊢
        clear dz
        simp only [execOp, Act.eval, dg]
        go_simp
    | 15, hi =>
      obtain rfl := Option.some.inj hi
      have d1 : a.tmps.getD 33 undef = .bool (bA && z0) := hD 14 (by simp)
      refine step_val rfl (.bool (bA && z0)) w' ?_ (by simp) hS (bl_refl _) rfl
      simp only [execOp, Act.eval, d1]
      go_simp
    | 16, hi =>
      obtain rfl := Option.some.inj hi
      have dg : a.tmps.getD 34 undef = .bool (bA && z0) := hD 15 (by simp)
      by_cases hc : (bA && z0) = true
      · rw [hc] at dg
        have d1 : a.tmps.getD 1 undef = .pointer (some ⟨w.heap.size, 0, none⟩) := hO 1 (by kernel_rfl)
        refine step_yes rfl (d := 34) rfl dg (.pointer (some ⟨w.heap.size, 2, none⟩)) w' ?_ (by simp) hS (bl_refl _) (fun _ => rfl)
        simp only [execOp, Act.eval, d1]
        go_simp
      · rw [Bool.eq_false_iff.mpr hc] at dg
        exact step_no rfl (d := 34) rfl dg (by decide) hS (bl_refl _) (fun h => absurd h hc)
    | 17, hi =>
      obtain rfl := Option.some.inj hi
      have dg : a.tmps.getD 34 undef = .bool (bA && z0) := hD 15 (by simp)
      by_cases hc : (bA && z0) = true
      · rw [hc] at dg
        have d1 : a.tmps.getD 35 undef = .pointer (some ⟨w.heap.size, 2, none⟩) := hD 16 (by simp) hc
        have c0 := hS.k0.cell 2
        simp at c0
        refine step_yes rfl (d := 34) rfl dg V.v w' ?_ (by simp) hS (bl_refl _) (fun _ => rfl)
        simp only [execOp, Act.eval, d1]
        go_simp
      · rw [Bool.eq_false_iff.mpr hc] at dg
        exact step_no rfl (d := 34) rfl dg (by decide) hS (bl_refl _) (fun h => absurd h hc)
    | 18, hi =>
      obtain rfl := Option.some.inj hi
      have dg : a.tmps.getD 34 undef = .bool (bA && z0) := hD 15 (by simp)
      by_cases hc : (bA && z0) = true
      · rw [hc] at dg
        have d1 : a.tmps.getD 36 undef = V.v := hD 17 (by simp) hc
        obtain ⟨ad, cc, he, hcell0⟩ := hS.r0.v.zero 0 (by omega)
        have hlt := World.block_lt_of_cell? w _ hcell0
        have hcell := (hS.bl.cell hlt).trans hcell0
        rw [he] at d1
        have hpos : 0 < s.v.length := by omega
        refine step_yes rfl (d := 34) rfl dg (.pointer (some ad)) w' ?_ (by simp) hS (bl_refl _) (fun _ => ⟨ad, rfl, by omega, hcell⟩)
        simp only [execOp, Act.eval, d1]
        clear l1 l2 l3 hlt hcell0 hcell
        go_simp
      · rw [Bool.eq_false_iff.mpr hc] at dg
        exact step_no rfl (d := 34) rfl dg (by decide) hS (bl_refl _) (fun h => absurd h hc)
    | 19, hi =>
      obtain rfl := Option.some.inj hi
      have dg : a.tmps.getD 34 undef = .bool (bA && z0) := hD 15 (by simp)
      by_cases hc : (bA && z0) = true
      · rw [hc] at dg
        obtain ⟨ad, d1, _, d2⟩ : ∃ ad, a.tmps.getD 37 undef = .pointer (some ad) ∧ ad.block ≤ w.heap.size ∧ w'.cell? ad = some (.int .i64 (s.v.getD 0 0)) := hD 18 (by simp) hc
        refine step_yes rfl (d := 34) rfl dg (.int .i64 (s.v.getD 0 0)) w' ?_ (by simp) hS (bl_refl _) (fun _ => rfl)
        simp only [execOp, Act.eval, d1]
        go_simp
      · rw [Bool.eq_false_iff.mpr hc] at dg
        exact step_no rfl (d := 34) rfl dg (by decide) hS (bl_refl _) (fun h => absurd h hc)
    | 20, hi =>
      obtain rfl := Option.some.inj hi
      have dg : a.tmps.getD 34 undef = .bool (bA && z0) := hD 15 (by simp)
      by_cases hc : (bA && z0) = true
      · rw [hc] at dg
        have d1 : a.tmps.getD 38 undef = .int .i64 (s.v.getD 0 0) := hD 19 (by simp) hc
        have hz := Z1.out
        generalize s.v.getD 0 0 = q at d1 hz
        refine step_yes rfl (d := 34) rfl dg (.bool z1) w' ?_ (by simp) hS (bl_refl _) (fun _ => rfl)
        simp only [execOp, Act.eval, d1]
        go_simp
      · rw [Bool.eq_false_iff.mpr hc] at dg
        exact step_no rfl (d := 34) rfl dg (by decide) hS (bl_refl _) (fun h => absurd h hc)
    | 21, hi =>
      obtain rfl := Option.some.inj hi
      have dg : a.tmps.getD 34 undef = .bool (bA && z0) := hD 15 (by simp)
      have dz : (bA && z0) = true → a.tmps.getD 39 undef = .bool z1 := hD 20 (by simp)
      refine step_val rfl (.bool (bA && z0 && z1)) w' ?_ (by simp) hS (bl_refl _) rfl
      by_cases hc : (bA && z0) = true
      · rw [hc] at dg ⊢
        replace dz := dz hc
        simp only [execOp, Act.eval, dg, dz]
        go_simp
      · have hc' := Bool.eq_false_iff.mpr hc
        rw [hc'] at dg ⊢
        clear dz
        simp only [execOp, Act.eval, dg]
        go_simp
    | 22, hi =>
      obtain rfl := Option.some.inj hi
      have d1 : a.tmps.getD 40 undef = .bool (bA && z0 && z1) := hD 21 (by simp)
      refine step_val rfl (.bool (bA && z0 && z1)) w' ?_ (by simp) hS (bl_refl _) rfl
      simp only [execOp, Act.eval, d1]
      go_simp
    | 23, hi =>
      obtain rfl := Option.some.inj hi
      have dg : a.tmps.getD 41 undef = .bool (bA && z0 && z1) := hD 22 (by simp)
      by_cases hc : (bA && z0 && z1) = true
      · rw [hc] at dg
        have d1 : a.tmps.getD 1 undef = .pointer (some ⟨w.heap.size, 0, none⟩) := hO 1 (by kernel_rfl)
        refine step_yes rfl (d := 41) rfl dg (.pointer (some ⟨w.heap.size, 3, none⟩)) w' ?_ (by simp) hS (bl_refl _) (fun _ => rfl)
        simp only [execOp, Act.eval, d1]
        go_simp
      · rw [Bool.eq_false_iff.mpr hc] at dg
        exact step_no rfl (d := 41) rfl dg (by decide) hS (bl_refl _) (fun h => absurd h hc)
    | 24, hi =>
      obtain rfl := Option.some.inj hi
      have dg : a.tmps.getD 41 undef = .bool (bA && z0 && z1) := hD 22 (by simp)
      by_cases hc : (bA && z0 && z1) = true
      · rw [hc] at dg
        have d1 : a.tmps.getD 42 undef = .pointer (some ⟨w.heap.size, 3, none⟩) := hD 23 (by simp) hc
        have c0 := hS.k0.cell 3
        simp at c0
        refine step_yes rfl (d := 41) rfl dg V.h w' ?_ (by simp) hS (bl_refl _) (fun _ => rfl)
        simp only [execOp, Act.eval, d1]
        go_simp
      · rw [Bool.eq_false_iff.mpr hc] at dg
        exact step_no rfl (d := 41) rfl dg (by decide) hS (bl_refl _) (fun h => absurd h hc)
    | 25, hi =>
      obtain rfl := Option.some.inj hi
      have dg : a.tmps.getD 41 undef = .bool (bA && z0 && z1) := hD 22 (by simp)
      by_cases hc : (bA && z0 && z1) = true
      · rw [hc] at dg
        have d1 : a.tmps.getD 43 undef = V.h := hD 24 (by simp) hc
        obtain ⟨ad, cc, he, hcell0⟩ := hS.r0.h.zero false (by omega)
        have hlt := World.block_lt_of_cell? w _ hcell0
        have hcell := (hS.bl.cell hlt).trans hcell0
        rw [he] at d1
        have hpos : 0 < s.h.length := by omega
        refine step_yes rfl (d := 41) rfl dg (.pointer (some ad)) w' ?_ (by simp) hS (bl_refl _) (fun _ => ⟨ad, rfl, by omega, hcell⟩)
        simp only [execOp, Act.eval, d1]
        clear l1 l2 l3 hlt hcell0 hcell
        go_simp
      · rw [Bool.eq_false_iff.mpr hc] at dg
        exact step_no rfl (d := 41) rfl dg (by decide) hS (bl_refl _) (fun h => absurd h hc)
    | 26, hi =>
      obtain rfl := Option.some.inj hi
      have dg : a.tmps.getD 41 undef = .bool (bA && z0 && z1) := hD 22 (by simp)
      by_cases hc : (bA && z0 && z1) = true
      · rw [hc] at dg
        obtain ⟨ad, d1, _, d2⟩ : ∃ ad, a.tmps.getD 44 undef = .pointer (some ad) ∧ ad.block ≤ w.heap.size ∧ w'.cell? ad = some (.bool (s.h.getD 0 false)) := hD 25 (by simp) hc
        rw [Z2.out] at d2
        refine step_yes rfl (d := 41) rfl dg (.bool z2) w' ?_ (by simp) hS (bl_refl _) (fun _ => rfl)
        simp only [execOp, Act.eval, d1]
        go_simp
      · rw [Bool.eq_false_iff.mpr hc] at dg
        exact step_no rfl (d := 41) rfl dg (by decide) hS (bl_refl _) (fun h => absurd h hc)
    | 27, hi =>
      obtain rfl := Option.some.inj hi
      have dg : a.tmps.getD 41 undef = .bool (bA && z0 && z1) := hD 22 (by simp)
      have dz : (bA && z0 && z1) = true → a.tmps.getD 45 undef = .bool z2 := hD 26 (by simp)
      refine step_val rfl (.bool (bA && z0 && z1 && z2)) w' ?_ (by simp) hS (bl_refl _) rfl
      by_cases hc : (bA && z0 && z1) = true
      · rw [hc] at dg ⊢
        replace dz := dz hc
        simp only [execOp, Act.eval, dg, dz]
        go_simp
      · have hc' := Bool.eq_false_iff.mpr hc
        rw [hc'] at dg ⊢
        clear dz
        simp only [execOp, Act.eval, dg]
        go_simp
    | 28, hi =>
      obtain rfl := Option.some.inj hi
      have d1 : a.tmps.getD 46 undef = .bool (bA && z0 && z1 && z2) := hD 27 (by simp)
      refine step_val rfl (.bool (bA && z0 && z1 && z2)) w' ?_ (by simp) hS (bl_refl _) rfl
      simp only [execOp, Act.eval, d1]
      go_simp
    | n + 29, hi => exact absurd hi (by simp)
  · intro a w' hS hD hO hs hd
    have d28 : a.tmps.getD 2 undef = .bool (bA && z0 && z1 && z2) := hD 28 (by decide)
    obtain ⟨tm, df⟩ := a
    obtain ⟨x0, x1, x2, x3, x4, x5, x6, x7, x8, x9, x10, x11, x12, x13, x14, x15, x16, x17, x18, x19, x20, x21, x22, x23, x24, x25, x26, x27, x28, x29, x30, x31, x32, x33, x34, x35, x36, x37, x38, x39, x40, x41, x42, x43, x44, x45, x46, rfl⟩ := lit47 tm hs
    obtain rfl : x2 = .bool (bA && z0 && z1 && z2) := d28
    have HB := Lib.hid hS.bl
    clear hS hD hO hs
    rw [← HE.out]
    go_wp2
    go_ret
    exact ⟨rfl, HB.out⟩
/-- The reference's NamOk. -/
theorem ok20 (V : Sv) (s : St) (w : World) (h : RdS w V s) (hfl : s.f.length ≤ 1048576) (b : Bool) (hb : b = true ↔ OkS s) :
    Calls Try.prog 20 #[V.agg] w fun e w' => e = .returned (.bool b) ∧ Below w.heap.size w w' := by
  by_cases hm : s.m.length = 8
  · by_cases hh : s.h.length = 20
    · by_cases hv : (∀ x ∈ s.v, 0 ≤ x ∧ x ≤ 65535) ∧ (s.v.length : Int) = 20
      · exact ok20r V s w h hm hh (by omega) hv.1 hfl b hb
      · obtain rfl : b = false := Bool.eq_false_iff.mpr (fun h => hv ⟨(hb.mp h).w, by have := (hb.mp h).v; omega⟩)
        have H := Lib.hid h
        obtain ⟨A, c, A2, c2, A3, c3, A4, c4, rfl⟩ := h.form
        have HV := Lib.hid hv
        have m1 : ((s.m.length : Int) != 8) = false := by rw [hm]; rfl
        have m2 : ((s.h.length : Int) != 20) = false := by rw [hh]; rfl
        clear h hv hb hm hh
        go_enter Try.func20, Try.ntmps20
        go_wp2_with fail
        obtain ⟨w0, hW, hb, k0, hz⟩ := bx1 w #[.slice A s.m.length c, .slice A2 s.f.length c2, .slice A3 s.v.length c3, .slice A4 s.h.length c4] 25
        rw [hW]; clear hW
        ((with_reducible refine (words47 _ s.v 20 false (by simp only [Bool.false_eq_true, false_iff]; exact HV.out) _ (H.out.v.below hb.out)).mono ?_); rintro e w' ⟨rfl, n, rfl⟩)
        go_wp2_with fail
        go_ret
        exact ⟨rfl, bl_drewN hb.out _⟩
    · obtain rfl : b = false := Bool.eq_false_iff.mpr (fun h => hh (hb.mp h).h)
      obtain ⟨A, c, A2, c2, A3, c3, A4, c4, rfl⟩ := h.form
      have m1 : ((s.m.length : Int) != 8) = false := by rw [hm]; rfl
      have m2 : ((s.h.length : Int) != 20) = true := by rw [bne_iff_ne]; omega
      have HB := Lib.hid (bl_alloc (bl_refl w) (.cells #[.slice A s.m.length c, .slice A2 s.f.length c2, .slice A3 s.v.length c3, .slice A4 s.h.length c4] 25))
      clear h hb hm hh
      go_enter Try.func20, Try.ntmps20
      go_wp2_with fail
      go_ret
      exact ⟨rfl, HB.out⟩
  · obtain rfl : b = false := Bool.eq_false_iff.mpr (fun h => hm (hb.mp h).m)
    obtain ⟨A, c, A2, c2, A3, c3, A4, c4, rfl⟩ := h.form
    have m1 : ((s.m.length : Int) != 8) = true := by rw [bne_iff_ne]; omega
    have HB := Lib.hid (bl_alloc (bl_refl w) (.cells #[.slice A s.m.length c, .slice A2 s.f.length c2, .slice A3 s.v.length c3, .slice A4 s.h.length c4] 25))
    clear h hb hm
    go_enter Try.func20, Try.ntmps20
    go_wp2_with fail
    go_ret
    exact ⟨rfl, HB.out⟩
end Go.Proofs.Ytiemacjmipiakaa.Nm
