/- The same state in new memory, by the reference. -/
import Derived.Test.YtiemacjmipiakaaNmE
import Derived.Test.YtiemacjmipiakaaFl
namespace Go.Proofs.Ytiemacjmipiakaa.Nm
open Go.RowKit Go.Proofs.Ytiemacjmipiakaa.Hw
set_option linter.unusedVariables false
set_option linter.unusedSimpArgs false
theorem mixed : Try.prog.follows .mixedOrders = true := by kernel_rfl
/-- A slice of the call's own, from block B on. -/
def Vo {α : Type} (enc : α → Value) (t : TypeId) (B : Nat) (w : World) (v : Value) (l : List α) : Prop := (∃ A c, v = .slice A l.length c) ∧ Ow enc t w v l ∧ ∀ k, obk v = some k → B ≤ k
theorem Vo.fr {α : Type} {enc : α → Value} {t : TypeId} {B : Nat} {w w' : World} {v : Value} {l : List α} {S : Nat → Prop} (h : Vo enc t B w v l) (hf : Fr S w w') (hs : ∀ k, S k → k < B) : Vo enc t B w' v l :=
  ⟨h.1, h.2.1.fr hf (fun k hk hS => by have := hs k hS; have := h.2.2 k hk; omega), h.2.2⟩
/-- append to what has no room. -/
theorem Vo.app {α : Type} {enc : α → Value} {t : TypeId} {B : Nat} {w w1 : World} {v v1 : Value} {l : List α} {A : Option Addr} {c : Nat} (e : v1 = .slice A l.length c) (h : Ow enc t w1 v1 l) (hv : obk v = none) (hat : obk v1 = obk v ∨ obk v1 = some w.heap.size) (hB : B ≤ w.heap.size) : Vo enc t B w1 v1 l :=
  ⟨⟨A, c, e⟩, h, fun k hk => by rcases hat with h1 | h1 <;> rw [h1] at hk; · rw [hv] at hk; cases hk
                                · injection hk with hk; omega⟩
theorem Ap.app {v v1 u : Value} {w : World} (hv : obk v = none) (hat : obk v1 = obk v ∨ obk v1 = some w.heap.size) (hu : ∀ k, obk u = some k → k < w.heap.size) : Ap u v1 := fun k hk hk' => by
  rcases hat with h1 | h1 <;> rw [h1] at hk'
  · rw [hv] at hk'; cases hk'
  · injection hk' with hk'; have := hu k hk; omega
theorem ow_empty {α : Type} (enc : α → Value) (t : TypeId) (w : World) : Ow enc t (w.alloc (.cells #[] t)) (.slice (some ⟨w.heap.size, 0, none⟩) 0 0) ([] : List α) :=
  ⟨by simp, .inr ⟨w.heap.size, 0, #[], rfl, Nat.zero_le _, heap_alloc_new w _, Nat.le_refl _, by simp [maxLen], rfl, by simp⟩⟩
/-- Behind the box of a state and the cell of a result: what was there is there. -/
structure Two (b : Nat) (V : Sv) (s : St) (w w' : World) : Prop where
  bl : Below b w w'
  rd : RdS w' V s
  k0 : Bk w' b #[V.m, V.f, V.v, V.h] 25
  k1 : ∃ a0 a1 a2 a3, Bk w' (b + 1) #[a0, a1, a2, a3] 25
  sz : b + 2 ≤ w'.heap.size
theorem Two.next {b : Nat} {V : Sv} {s : St} {w w1 w2 : World} (h : Two b V s w w1) (hb : Below w1.heap.size w1 w2) : Two b V s w w2 := by
  obtain ⟨h1, h2, h3, ⟨a0, a1, a2, a3, h4⟩, h5⟩ := h
  exact ⟨h1.trans (hb.mono (by omega)), h2.below hb, h3.below hb, ⟨a0, a1, a2, a3, h4.below hb⟩, Nat.le_trans h5 hb.size⟩
theorem bk_four {w : World} {g : Nat} {a0 a1 a2 a3 : Value} {t : TypeId} (h : Bk w g #[a0, a1, a2, a3] t) (v0 v1 v2 v3 : Value) : Bk ((((w.setCell ⟨g, 0, none⟩ v0).setCell ⟨g, 1, none⟩ v1).setCell ⟨g, 2, none⟩ v2).setCell ⟨g, 3, none⟩ v3) g #[v0, v1, v2, v3] t := by
  simpa using (((h.set 0 v0).set 1 v1).set 2 v2).set 3 v3
theorem fr_four (w : World) (g : Nat) (v0 v1 v2 v3 : Value) : Fr (fun k => k = g) w ((((w.setCell ⟨g, 0, none⟩ v0).setCell ⟨g, 1, none⟩ v1).setCell ⟨g, 2, none⟩ v2).setCell ⟨g, 3, none⟩ v3) :=
  (((Fr.set (p := ⟨g, 0, none⟩) (S := fun k => k = g) rfl _).trans (Fr.set (p := ⟨g, 1, none⟩) (S := fun k => k = g) rfl _)).trans (Fr.set (p := ⟨g, 2, none⟩) (S := fun k => k = g) rfl _)).trans (Fr.set (p := ⟨g, 3, none⟩) (S := fun k => k = g) rfl _)
def V56 (b : Nat) (V : Sv) (s : St) : Nat → (Nat → Value) → World → Prop
  | 0, f, w' => Vo (Value.int .i64) 3 (b + 2) w' (f 0) [] ∧ obk (f 0) = none
  | 1, f, w' => f 1 = .pointer (some ⟨b, 0, none⟩)
  | 2, f, w' => f 2 = V.m
  | 3, f, w' => Vo (Value.int .i64) 3 (b + 2) w' (f 3) s.m
  | 4, f, w' => Vo (Value.int .i64) 3 (b + 2) w' (f 4) [] ∧ obk (f 4) = none
  | 5, f, w' => f 5 = .pointer (some ⟨b, 1, none⟩)
  | 6, f, w' => f 6 = V.f
  | 7, f, w' => Vo (Value.int .i64) 3 (b + 2) w' (f 7) s.f ∧ Ap (f 3) (f 7)
  | 8, f, w' => Vo (Value.int .i64) 3 (b + 2) w' (f 8) [] ∧ obk (f 8) = none
  | 9, f, w' => f 9 = .pointer (some ⟨b, 2, none⟩)
  | 10, f, w' => f 10 = V.v
  | 11, f, w' => Vo (Value.int .i64) 3 (b + 2) w' (f 11) s.v ∧ Ap (f 3) (f 11) ∧ Ap (f 7) (f 11)
  | 12, f, w' => Vo Value.bool 4 (b + 2) w' (f 12) [] ∧ obk (f 12) = none
  | 13, f, w' => f 13 = .pointer (some ⟨b, 3, none⟩)
  | 14, f, w' => f 14 = V.h
  | 15, f, w' => Vo Value.bool 4 (b + 2) w' (f 15) s.h
  | 16, f, w' => f 16 = .agg #[f 3, f 7, f 11, f 15]
  | _, _, _ => True
set_option maxHeartbeats 4000000 in
/-- The same state in new memory. -/
theorem copy56 (V : Sv) (s : St) (w : World) (h : RdS w V s) (hl : s.m.length + s.f.length + s.v.length + s.h.length ≤ 1048576) :
    Calls Try.prog 56 #[V.agg] w (NewS w s) := by
  have H := Lib.hid h
  obtain ⟨A, c, A2, c2, A3, c3, A4, c4, hV⟩ := h.form
  subst hV
  clear h
  go_enter Try.func56, Try.ntmps56
  go_wp2_with fail
  obtain ⟨w0, hW, hb, k0, k1, hz⟩ := bx2 w #[.slice A s.m.length c, .slice A2 s.f.length c2, .slice A3 s.v.length c3, .slice A4 s.h.length c4] 25 #[.slice none 0 0, .slice none 0 0, .slice none 0 0, .slice none 0 0] 25
  rw [hW]; clear hW
  have hz0 : w0.heap.size = w.heap.size + 2 := hz.out
  have hS0 : Two w.heap.size ⟨.slice A s.m.length c, .slice A2 s.f.length c2, .slice A3 s.v.length c3, .slice A4 s.h.length c4⟩ s w w0.drew := ⟨bl_drew hb.out, H.out.below (bl_drew hb.out), k0.out, ⟨_, _, _, _, k1.out⟩, by show _ ≤ w0.heap.size; omega⟩
  clear hb k0 k1 hz hz0
  generalize hVe : (⟨.slice A s.m.length c, .slice A2 s.f.length c2, .slice A3 s.v.length c3, .slice A4 s.h.length c4⟩ : Sv) = V at hS0 H
  clear hVe
  refine wp_flow_last mixed 17 (by kernel_rfl) [[],[],[1],[0,2],[],[],[5],[4,6,3],[],[],[9],[8,10,7,3],[],[],[13],[12,14],[3,7,11,15]] (Two w.heap.size V s w) (fun _ => Fr (fun k => k = w.heap.size + 1)) (V56 w.heap.size V s) (by kernel_rfl) hS0 ?_ ?_ ?_
  · intro i j f v w1 w2 hij hni hv hT _
    have hS : ∀ k, k = w.heap.size + 1 → k < w.heap.size + 2 := fun k hk => by omega
    match j, hv, hni, hij with
    | 0, hv, hni, hij => rw [V56, upd_ne f i v 0 (Ne.symm hij)]; exact ⟨hv.1.fr hT hS, hv.2⟩
    | 1, hv, hni, hij => rw [V56, upd_ne f i v 1 (Ne.symm hij)]; exact hv
    | 2, hv, hni, hij => rw [V56, upd_ne f i v 2 (Ne.symm hij)]; exact hv
    | 3, hv, hni, hij => rw [V56, upd_ne f i v 3 (Ne.symm hij)]; exact hv.fr hT hS
    | 4, hv, hni, hij => rw [V56, upd_ne f i v 4 (Ne.symm hij)]; exact ⟨hv.1.fr hT hS, hv.2⟩
    | 5, hv, hni, hij => rw [V56, upd_ne f i v 5 (Ne.symm hij)]; exact hv
    | 6, hv, hni, hij => rw [V56, upd_ne f i v 6 (Ne.symm hij)]; exact hv
    | 7, hv, hni, hij => rw [V56, upd_ne f i v 7 (Ne.symm hij), upd_need f i v 3 _ hni (by simp)]; exact ⟨hv.1.fr hT hS, hv.2⟩
    | 8, hv, hni, hij => rw [V56, upd_ne f i v 8 (Ne.symm hij)]; exact ⟨hv.1.fr hT hS, hv.2⟩
    | 9, hv, hni, hij => rw [V56, upd_ne f i v 9 (Ne.symm hij)]; exact hv
    | 10, hv, hni, hij => rw [V56, upd_ne f i v 10 (Ne.symm hij)]; exact hv
    | 11, hv, hni, hij => rw [V56, upd_ne f i v 11 (Ne.symm hij), upd_need f i v 3 _ hni (by simp), upd_need f i v 7 _ hni (by simp)]; exact ⟨hv.1.fr hT hS, hv.2⟩
    | 12, hv, hni, hij => rw [V56, upd_ne f i v 12 (Ne.symm hij)]; exact ⟨hv.1.fr hT hS, hv.2⟩
    | 13, hv, hni, hij => rw [V56, upd_ne f i v 13 (Ne.symm hij)]; exact hv
    | 14, hv, hni, hij => rw [V56, upd_ne f i v 14 (Ne.symm hij)]; exact hv
    | 15, hv, hni, hij => rw [V56, upd_ne f i v 15 (Ne.symm hij)]; exact hv.fr hT hS
    | 16, hv, hni, hij => rw [V56, upd_ne f i v 16 (Ne.symm hij), upd_need f i v 3 _ hni (by simp), upd_need f i v 7 _ hni (by simp), upd_need f i v 11 _ hni (by simp), upd_need f i v 15 _ hni (by simp)]; exact hv
    | n + 17, _, _, _ => exact trivial
  · intro i o him hi a w' hS hD hO hs
    match i, hi, him with
    | 0, hi, _ =>
      obtain rfl := Option.some.inj hi
      refine step_val rfl (.slice (some ⟨w'.heap.size, 0, none⟩) 0 0) (w'.alloc (.cells #[] 3)) (by simp [execOp, go_sem]) (by simp) (hS.next (bl_alloc (bl_refl _) _)) (Fr.of_below (bl_alloc (bl_refl _) _)) ⟨⟨⟨_, _, rfl⟩, ow_empty (Value.int .i64) 3 w', fun k hk => by simp [upd, obk] at hk⟩, by simp [upd, obk]⟩
    | 1, hi, _ =>
      obtain rfl := Option.some.inj hi
      have d1 : a.tmps.getD 1 undef = .pointer (some ⟨w.heap.size, 0, none⟩) := hO 1 (by kernel_rfl)
      refine step_val rfl (.pointer (some ⟨w.heap.size, 0, none⟩)) w' ?_ (by simp) hS (Fr.refl _ _) rfl
      simp only [execOp, Act.eval, d1]
      go_simp
    | 2, hi, _ =>
      obtain rfl := Option.some.inj hi
      have d1 : a.tmps.getD 4 undef = .pointer (some ⟨w.heap.size, 0, none⟩) := hD 1 (by simp)
      have c0 := hS.k0.cell 0
      simp at c0
      refine step_val rfl V.m w' ?_ (by simp) hS (Fr.refl _ _) rfl
      simp only [execOp, Act.eval, d1]
      go_simp
    | 3, hi, _ =>
      obtain rfl := Option.some.inj hi
      have d0 : Vo (Value.int .i64) 3 (w.heap.size + 2) w' (a.tmps.getD 3 undef) [] ∧ obk (a.tmps.getD 3 undef) = none := hD 0 (by simp)
      have d2 : a.tmps.getD 5 undef = V.m := hD 2 (by simp)
      refine step_append (enc := (Value.int .i64)) rfl (.tmp 3) (.tmp 5) 22 3 rfl (.int .i64 0) 8 Try.underlying22 info3 rfl (by decide) (fun _ => rfl) _ _ [] s.m rfl d2 d0.1.2.1 hS.rd.m (by simp; omega) (by simp) ?_
      intro A' c' w1 ho hf hat
      have hb : Below w'.heap.size w' w1 := hf.below (bl_refl _) (Nat.le_refl _) (fun k hk => by have hk' := d0.2.symm.trans hk; cases hk')
      refine ⟨hS.next hb, Fr.of_below hb, ?_⟩
      exact Vo.app rfl ho d0.2 hat hS.sz
    | 4, hi, _ =>
      obtain rfl := Option.some.inj hi
      refine step_val rfl (.slice (some ⟨w'.heap.size, 0, none⟩) 0 0) (w'.alloc (.cells #[] 3)) (by simp [execOp, go_sem]) (by simp) (hS.next (bl_alloc (bl_refl _) _)) (Fr.of_below (bl_alloc (bl_refl _) _)) ⟨⟨⟨_, _, rfl⟩, ow_empty (Value.int .i64) 3 w', fun k hk => by simp [upd, obk] at hk⟩, by simp [upd, obk]⟩
    | 5, hi, _ =>
      obtain rfl := Option.some.inj hi
      have d1 : a.tmps.getD 1 undef = .pointer (some ⟨w.heap.size, 0, none⟩) := hO 1 (by kernel_rfl)
      refine step_val rfl (.pointer (some ⟨w.heap.size, 1, none⟩)) w' ?_ (by simp) hS (Fr.refl _ _) rfl
      simp only [execOp, Act.eval, d1]
      go_simp
    | 6, hi, _ =>
      obtain rfl := Option.some.inj hi
      have d1 : a.tmps.getD 8 undef = .pointer (some ⟨w.heap.size, 1, none⟩) := hD 5 (by simp)
      have c0 := hS.k0.cell 1
      simp at c0
      refine step_val rfl V.f w' ?_ (by simp) hS (Fr.refl _ _) rfl
      simp only [execOp, Act.eval, d1]
      go_simp
    | 7, hi, _ =>
      obtain rfl := Option.some.inj hi
      have d0 : Vo (Value.int .i64) 3 (w.heap.size + 2) w' (a.tmps.getD 7 undef) [] ∧ obk (a.tmps.getD 7 undef) = none := hD 4 (by simp)
      have d2 : a.tmps.getD 9 undef = V.f := hD 6 (by simp)
      have d3 : Vo (Value.int .i64) 3 (w.heap.size + 2) w' (a.tmps.getD 6 undef) s.m := hD 3 (by simp)
      refine step_append (enc := (Value.int .i64)) rfl (.tmp 7) (.tmp 9) 22 3 rfl (.int .i64 0) 8 Try.underlying22 info3 rfl (by decide) (fun _ => rfl) _ _ [] s.f rfl d2 d0.1.2.1 hS.rd.f (by simp; omega) (by simp) ?_
      intro A' c' w1 ho hf hat
      have hb : Below w'.heap.size w' w1 := hf.below (bl_refl _) (Nat.le_refl _) (fun k hk => by have hk' := d0.2.symm.trans hk; cases hk')
      refine ⟨hS.next hb, Fr.of_below hb, ?_⟩
      exact ⟨Vo.app rfl ho d0.2 hat hS.sz, Ap.app d0.2 hat d3.2.1.lt⟩
    | 8, hi, _ =>
      obtain rfl := Option.some.inj hi
      refine step_val rfl (.slice (some ⟨w'.heap.size, 0, none⟩) 0 0) (w'.alloc (.cells #[] 3)) (by simp [execOp, go_sem]) (by simp) (hS.next (bl_alloc (bl_refl _) _)) (Fr.of_below (bl_alloc (bl_refl _) _)) ⟨⟨⟨_, _, rfl⟩, ow_empty (Value.int .i64) 3 w', fun k hk => by simp [upd, obk] at hk⟩, by simp [upd, obk]⟩
    | 9, hi, _ =>
      obtain rfl := Option.some.inj hi
      have d1 : a.tmps.getD 1 undef = .pointer (some ⟨w.heap.size, 0, none⟩) := hO 1 (by kernel_rfl)
      refine step_val rfl (.pointer (some ⟨w.heap.size, 2, none⟩)) w' ?_ (by simp) hS (Fr.refl _ _) rfl
      simp only [execOp, Act.eval, d1]
      go_simp
    | 10, hi, _ =>
      obtain rfl := Option.some.inj hi
      have d1 : a.tmps.getD 12 undef = .pointer (some ⟨w.heap.size, 2, none⟩) := hD 9 (by simp)
      have c0 := hS.k0.cell 2
      simp at c0
      refine step_val rfl V.v w' ?_ (by simp) hS (Fr.refl _ _) rfl
      simp only [execOp, Act.eval, d1]
      go_simp
    | 11, hi, _ =>
      obtain rfl := Option.some.inj hi
      have d0 : Vo (Value.int .i64) 3 (w.heap.size + 2) w' (a.tmps.getD 11 undef) [] ∧ obk (a.tmps.getD 11 undef) = none := hD 8 (by simp)
      have d2 : a.tmps.getD 13 undef = V.v := hD 10 (by simp)
      have d3 : Vo (Value.int .i64) 3 (w.heap.size + 2) w' (a.tmps.getD 6 undef) s.m := hD 3 (by simp)
      have d7 : Vo (Value.int .i64) 3 (w.heap.size + 2) w' (a.tmps.getD 10 undef) s.f ∧ _ := hD 7 (by simp)
      refine step_append (enc := (Value.int .i64)) rfl (.tmp 11) (.tmp 13) 22 3 rfl (.int .i64 0) 8 Try.underlying22 info3 rfl (by decide) (fun _ => rfl) _ _ [] s.v rfl d2 d0.1.2.1 hS.rd.v (by simp; omega) (by simp) ?_
      intro A' c' w1 ho hf hat
      have hb : Below w'.heap.size w' w1 := hf.below (bl_refl _) (Nat.le_refl _) (fun k hk => by have hk' := d0.2.symm.trans hk; cases hk')
      refine ⟨hS.next hb, Fr.of_below hb, ?_⟩
      exact ⟨Vo.app rfl ho d0.2 hat hS.sz, Ap.app d0.2 hat d3.2.1.lt, Ap.app d0.2 hat d7.1.2.1.lt⟩
    | 12, hi, _ =>
      obtain rfl := Option.some.inj hi
      refine step_val rfl (.slice (some ⟨w'.heap.size, 0, none⟩) 0 0) (w'.alloc (.cells #[] 4)) (by simp [execOp, go_sem]) (by simp) (hS.next (bl_alloc (bl_refl _) _)) (Fr.of_below (bl_alloc (bl_refl _) _)) ⟨⟨⟨_, _, rfl⟩, ow_empty Value.bool 4 w', fun k hk => by simp [upd, obk] at hk⟩, by simp [upd, obk]⟩
    | 13, hi, _ =>
      obtain rfl := Option.some.inj hi
      have d1 : a.tmps.getD 1 undef = .pointer (some ⟨w.heap.size, 0, none⟩) := hO 1 (by kernel_rfl)
      refine step_val rfl (.pointer (some ⟨w.heap.size, 3, none⟩)) w' ?_ (by simp) hS (Fr.refl _ _) rfl
      simp only [execOp, Act.eval, d1]
      go_simp
    | 14, hi, _ =>
      obtain rfl := Option.some.inj hi
      have d1 : a.tmps.getD 16 undef = .pointer (some ⟨w.heap.size, 3, none⟩) := hD 13 (by simp)
      have c0 := hS.k0.cell 3
      simp at c0
      refine step_val rfl V.h w' ?_ (by simp) hS (Fr.refl _ _) rfl
      simp only [execOp, Act.eval, d1]
      go_simp
    | 15, hi, _ =>
      obtain rfl := Option.some.inj hi
      have d0 : Vo Value.bool 4 (w.heap.size + 2) w' (a.tmps.getD 15 undef) [] ∧ obk (a.tmps.getD 15 undef) = none := hD 12 (by simp)
      have d2 : a.tmps.getD 17 undef = V.h := hD 14 (by simp)
      refine step_append (enc := Value.bool) rfl (.tmp 15) (.tmp 17) 23 4 rfl (.bool false) 1 Try.underlying23 info4 rfl (by decide) (fun _ => rfl) _ _ [] s.h rfl d2 d0.1.2.1 hS.rd.h (by simp; omega) (by simp) ?_
      intro A' c' w1 ho hf hat
      have hb : Below w'.heap.size w' w1 := hf.below (bl_refl _) (Nat.le_refl _) (fun k hk => by have hk' := d0.2.symm.trans hk; cases hk')
      refine ⟨hS.next hb, Fr.of_below hb, ?_⟩
      exact Vo.app rfl ho d0.2 hat hS.sz
    | 16, hi, _ =>
      obtain rfl := Option.some.inj hi
      have e3 : Vo (Value.int .i64) 3 (w.heap.size + 2) w' (a.tmps.getD 6 undef) s.m := hD 3 (by simp)
      have e7 : Vo (Value.int .i64) 3 (w.heap.size + 2) w' (a.tmps.getD 10 undef) s.f ∧ _ := hD 7 (by simp)
      have e11 : Vo (Value.int .i64) 3 (w.heap.size + 2) w' (a.tmps.getD 14 undef) s.v ∧ _ := hD 11 (by simp)
      have e15 : Vo Value.bool 4 (w.heap.size + 2) w' (a.tmps.getD 18 undef) s.h := hD 15 (by simp)
      obtain ⟨⟨A3, c3, h3⟩, _⟩ := e3
      obtain ⟨⟨⟨A7, c7, h7⟩, _⟩, _⟩ := e7
      obtain ⟨⟨⟨A11, c11, h11⟩, _⟩, _⟩ := e11
      obtain ⟨⟨A15, c15, h15⟩, _⟩ := e15
      have g3 : a.tmps[6]?.getD undef = _ := (Array.getD_eq_getD_getElem? ..).symm.trans h3
      have g7 : a.tmps[10]?.getD undef = _ := (Array.getD_eq_getD_getElem? ..).symm.trans h7
      have g11 : a.tmps[14]?.getD undef = _ := (Array.getD_eq_getD_getElem? ..).symm.trans h11
      have g15 : a.tmps[18]?.getD undef = _ := (Array.getD_eq_getD_getElem? ..).symm.trans h15
      refine step_val rfl (.agg #[.slice A3 s.m.length c3, .slice A7 s.f.length c7, .slice A11 s.v.length c11, .slice A15 s.h.length c15]) w' ?_ (by simp) hS (Fr.refl _ _) (by show _ = Value.agg #[a.tmps.getD 6 undef, a.tmps.getD 10 undef, a.tmps.getD 14 undef, a.tmps.getD 18 undef]; rw [h3, h7, h11, h15]; rfl)
      clear h3 h7 h11 h15 hD hO hs
      simp only [execOp]
      go_simp
    | n + 17, hi, h => exact absurd h (by omega)
  · intro a w' o hi hS hD hO hs hd
    obtain rfl := Option.some.inj hi
    have e3 : Vo (Value.int .i64) 3 (w.heap.size + 2) w' (a.tmps.getD 6 undef) s.m := hD 3 (by omega)
    have e7 : Vo (Value.int .i64) 3 (w.heap.size + 2) w' (a.tmps.getD 10 undef) s.f ∧ Ap (a.tmps.getD 6 undef) (a.tmps.getD 10 undef) := hD 7 (by omega)
    have e11 : Vo (Value.int .i64) 3 (w.heap.size + 2) w' (a.tmps.getD 14 undef) s.v ∧ Ap (a.tmps.getD 6 undef) (a.tmps.getD 14 undef) ∧ Ap (a.tmps.getD 10 undef) (a.tmps.getD 14 undef) := hD 11 (by omega)
    have e15 : Vo Value.bool 4 (w.heap.size + 2) w' (a.tmps.getD 18 undef) s.h := hD 15 (by omega)
    have d16 : a.tmps.getD 19 undef = .agg #[a.tmps.getD 6 undef, a.tmps.getD 10 undef, a.tmps.getD 14 undef, a.tmps.getD 18 undef] := hD 16 (by omega)
    have d2 : a.tmps.getD 2 undef = .pointer (some ⟨w.heap.size + 1, 0, none⟩) := hO 2 (by kernel_rfl)
    obtain ⟨⟨A3, c3, h3⟩, o3, b3⟩ := e3
    obtain ⟨⟨⟨A7, c7, h7⟩, o7, b7⟩, p7⟩ := e7
    obtain ⟨⟨⟨A11, c11, h11⟩, o11, b11⟩, p11, q11⟩ := e11
    obtain ⟨⟨A15, c15, h15⟩, o15, b15⟩ := e15
    rw [h3, h7, h11, h15] at d16
    rw [h3] at o3 b3 p7 p11
    rw [h7] at o7 b7 p7 q11
    rw [h11] at o11 b11 p11 q11
    rw [h15] at o15 b15
    obtain ⟨a0, a1, a2, a3, k1⟩ := hS.k1
    have g0 := k1.cell 0; have g1 := k1.cell 1; have g2 := k1.cell 2; have g3 := k1.cell 3; have gf := k1.frozen
    simp at g0 g1 g2 g3
    refine ⟨rfl, wpo_skip _ (by simp only [execOp, Act.eval, d16, d2]; go_simp; rfl) rfl ?_⟩
    have K1 := Lib.hid (bk_four k1 (.slice A3 s.m.length c3) (.slice A7 s.f.length c7) (.slice A11 s.v.length c11) (.slice A15 s.h.length c15))
    have F1 := Lib.hid (fr_four w' (w.heap.size + 1) (.slice A3 s.m.length c3) (.slice A7 s.f.length c7) (.slice A11 s.v.length c11) (.slice A15 s.h.length c15))
    generalize ((((w'.setCell ⟨w.heap.size + 1, 0, none⟩ (.slice A3 s.m.length c3)).setCell ⟨w.heap.size + 1, 1, none⟩ (.slice A7 s.f.length c7)).setCell ⟨w.heap.size + 1, 2, none⟩ (.slice A11 s.v.length c11)).setCell ⟨w.heap.size + 1, 3, none⟩ (.slice A15 s.h.length c15)) = wf at K1 F1 ⊢
    have HO : Hid (OwS (w.heap.size + 2) w'.heap.size w' ⟨.slice A3 s.m.length c3, .slice A7 s.f.length c7, .slice A11 s.v.length c11, .slice A15 s.h.length c15⟩ s) :=
      ⟨o3, o7, o11, o15, fun k hk => ⟨b3 k hk, o3.lt k hk⟩, fun k hk => ⟨b7 k hk, o7.lt k hk⟩, fun k hk => ⟨b11 k hk, o11.lt k hk⟩, fun k hk => ⟨b15 k hk, o15.lt k hk⟩, p7, p11, q11⟩
    have HB := Lib.hid hS.bl
    have e0 := K1.out.cell 0; have e1 := K1.out.cell 1; have e2 := K1.out.cell 2; have e3 := K1.out.cell 3
    simp at e0 e1 e2 e3
    obtain ⟨tm, df⟩ := a
    obtain ⟨x0, x1, x2, x3, x4, x5, x6, x7, x8, x9, x10, x11, x12, x13, x14, x15, x16, x17, x18, x19, rfl⟩ := lit20 tm hs
    obtain rfl : x2 = .pointer (some ⟨w.heap.size + 1, 0, none⟩) := d2
    clear d16 h3 h7 h11 h15 o3 o7 o11 o15 b3 b7 b11 b15 p7 p11 q11 hS hD hO hs g0 g1 g2 g3 gf k1
    go_wp2
    refine bodyPost_ret (v := .agg #[.slice A3 s.m.length c3, .slice A7 s.f.length c7, .slice A11 s.v.length c11, .slice A15 s.h.length c15]) (by simp [results, Try.results56, go_sem, e0, e1, e2, e3]) rfl ?_
    exact NewS.fin HO.out HB.out (by omega) (F1.out.mono (fun k hk => by omega))
end Go.Proofs.Ytiemacjmipiakaa.Nm
