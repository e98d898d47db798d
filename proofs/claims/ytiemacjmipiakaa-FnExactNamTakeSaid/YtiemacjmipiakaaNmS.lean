/- Names at work. -/
import Derived.Test.YtiemacjmipiakaaNmR
namespace Go.Proofs.Ytiemacjmipiakaa.Nm
open Go.RowKit Go.Proofs.Ytiemacjmipiakaa.Hw
set_option linter.unusedVariables false
set_option linter.unusedSimpArgs false
/-- A names block's cells. -/
def nc (pl xs : List Int) (f m : Int) (vv hh : Value) : List Value := pl.map (Value.int .i64) ++ (rc xs f m ++ [vv, hh])
/-- A names block of the call's own, its blocks from B on. -/
structure Nb (B g : Nat) (pl xs : List Int) (f m : Nat) (lv : List Int) (lh : List Bool) (vv hh : Value) (w : World) : Prop where
  hg : B ≤ g
  hp : pl.length = 8
  hx : xs.length = 20
  k : Bk w g (nc pl xs f m vv hh).toArray 68
  v : Vo (Value.int .i64) 3 B w vv lv
  h : Vo Value.bool 4 B w hh lh
  nv : obk vv ≠ some g
  nh : obk hh ≠ some g
theorem Vo.below {α : Type} {enc : α → Value} {t : TypeId} {B : Nat} {w w' : World} {v : Value} {l : List α} (h : Vo enc t B w v l) (hb : Below w.heap.size w w') : Vo enc t B w' v l := h.fr (S := fun _ => False) (Fr.of_below hb) (fun _ => False.elim)
theorem Vo.mono {α : Type} {enc : α → Value} {t : TypeId} {B B' : Nat} {w : World} {v : Value} {l : List α} (h : Vo enc t B w v l) (hb : B' ≤ B) : Vo enc t B' w v l := ⟨h.1, h.2.1, fun k hk => Nat.le_trans hb (h.2.2 k hk)⟩
theorem Vo.of_newO {α : Type} {enc : α → Value} {t : TypeId} {w w' : World} {l : List α} {A : Option Addr} {c : Nat} (ho : Ow enc t w' (.slice A l.length c) l) (hr : Rg w.heap.size w'.heap.size (.slice A l.length c)) : Vo enc t w.heap.size w' (.slice A l.length c) l := ⟨⟨_, _, rfl⟩, ho, fun k hk => (hr k hk).1⟩
theorem Nb.below {B g : Nat} {pl xs : List Int} {f m : Nat} {lv : List Int} {lh : List Bool} {vv hh : Value} {w w' : World} (h : Nb B g pl xs f m lv lh vv hh w) (hb : Below w.heap.size w w') : Nb B g pl xs f m lv lh vv hh w' :=
  ⟨h.hg, h.hp, h.hx, h.k.below hb, h.v.below hb, h.h.below hb, h.nv, h.nh⟩
theorem Nb.mono {B B' g : Nat} {pl xs : List Int} {f m : Nat} {lv : List Int} {lh : List Bool} {vv hh : Value} {w : World} (h : Nb B g pl xs f m lv lh vv hh w) (hb : B' ≤ B) : Nb B' g pl xs f m lv lh vv hh w :=
  ⟨Nat.le_trans hb h.hg, h.hp, h.hx, h.k, h.v.mono hb, h.h.mono hb, h.nv, h.nh⟩
/-- The block alone turned. -/
theorem Nb.turn {B g : Nat} {pl xs pl' xs' : List Int} {f m f' m' : Nat} {lv : List Int} {lh : List Bool} {vv hh : Value} {w w' : World} (h : Nb B g pl xs f m lv lh vv hh w) (hf : Fr (fun k => k = g) w w') (hk : Bk w' g (nc pl' xs' f' m' vv hh).toArray 68) (hp : pl'.length = 8) (hx : xs'.length = 20) : Nb B g pl' xs' f' m' lv lh vv hh w' :=
  ⟨h.hg, hp, hx, hk, ⟨h.v.1, h.v.2.1.fr hf (fun k hk hS => h.nv (hS ▸ hk)), h.v.2.2⟩, ⟨h.h.1, h.h.2.1.fr hf (fun k hk hS => h.nh (hS ▸ hk)), h.h.2.2⟩, h.nv, h.nh⟩
theorem wpo_val {P : Program} {o : Oper} {a : Act} {w : World} {K : Act → World → Prop} {Q : Exit → Act → World → Prop} (v : Value) (w' : World) (hr : (execOp a.eval o).run P w = .ok (.value v) w') (h : K (a.put o.dst v) w') : o.wp P a w K Q := by
  unfold Oper.wp
  rw [hr]
  exact h
theorem wpo_copy {P : Program} {o : Oper} {a : Act} {w : World} {K : Act → World → Prop} {Q : Exit → Act → World → Prop} (d s : Operand) (dT sT : TypeId) (ho : o.op = .call { callee := .builtin .copy, args := #[d, s], argTypes := #[dT, sT] })
    (vd vs : Value) (hd : a.eval d = vd) (hs : a.eval s = vs) (v : Value) (w' : World) (hr : (Builtin.copy_ #[dT, sT] o.type #[vd, vs]).run P w = .ok v w') (h : K (a.put o.dst v) w') : o.wp P a w K Q := by
  refine wpo_val v w' ?_ h
  unfold execOp
  simp only [ho, resolve, invoke, builtin, Sem.run_bind, Sem.run_pure, Result.andThen_ok, List.map_toArray, List.map_cons, List.map_nil, hd, hs, hr]
theorem list20 (xs : List Int) (h : xs.length = 20) : ∃ x0 x1 x2 x3 x4 x5 x6 x7 x8 x9 x10 x11 x12 x13 x14 x15 x16 x17 x18 x19, xs = [x0, x1, x2, x3, x4, x5, x6, x7, x8, x9, x10, x11, x12, x13, x14, x15, x16, x17, x18, x19] := by
  match xs, h with
  | [x0, x1, x2, x3, x4, x5, x6, x7, x8, x9, x10, x11, x12, x13, x14, x15, x16, x17, x18, x19], _ => exact ⟨x0, x1, x2, x3, x4, x5, x6, x7, x8, x9, x10, x11, x12, x13, x14, x15, x16, x17, x18, x19, rfl⟩
theorem nc_len (pl xs : List Int) (f m : Int) (vv hh : Value) (hp : pl.length = 8) (hx : xs.length = 20) : (nc pl xs f m vv hh).length = 32 := by simp [nc, rc, hp, hx]
theorem nc_place (pl xs : List Int) (f m : Int) (vv hh : Value) (j : Nat) (hj : j < pl.length) : (nc pl xs f m vv hh)[j]? = some (.int .i64 (pl.getD j 0)) := by
  unfold nc
  rw [List.getElem?_append_left (by simpa using hj), List.getElem?_map, List.getElem?_eq_getElem hj, List.getD_eq_getElem?_getD, List.getElem?_eq_getElem hj]
  rfl
theorem nc_ring (pl xs : List Int) (f m : Int) (vv hh : Value) (hp : pl.length = 8) (j : Nat) (hj : j < (rc xs f m).length) : (nc pl xs f m vv hh)[8 + j]? = (rc xs f m)[j]? := by
  unfold nc
  rw [List.getElem?_append_right (by simp [hp]), List.length_map, hp, Nat.add_sub_cancel_left, List.getElem?_append_left hj]
theorem nc_v (pl xs : List Int) (f m : Int) (vv hh : Value) (hp : pl.length = 8) (hx : xs.length = 20) : (nc pl xs f m vv hh)[30]? = some vv := by
  unfold nc
  rw [List.getElem?_append_right (by simp [hp]), List.length_map, hp, List.getElem?_append_right (by simp [rc, hx]), rc_len _ _ _ hx]
  rfl
theorem nc_h (pl xs : List Int) (f m : Int) (vv hh : Value) (hp : pl.length = 8) (hx : xs.length = 20) : (nc pl xs f m vv hh)[31]? = some hh := by
  unfold nc
  rw [List.getElem?_append_right (by simp [hp]), List.length_map, hp, List.getElem?_append_right (by simp [rc, hx]), rc_len _ _ _ hx]
  rfl
structure Nn (V : Sv) (s : St) (w w' : World) : Prop where
  bl : Below w.heap.size w w'
  rd : RdS w' V s
  k0 : Bk w' w.heap.size #[V.m, V.f, V.v, V.h] 25
theorem Nn.next {V : Sv} {s : St} {w w1 w2 : World} (h : Nn V s w w1) (hb : Below w1.heap.size w1 w2) : Nn V s w w2 := ⟨bl_step h.bl hb, h.rd.below hb, h.k0.below hb⟩
theorem Nn.sz {V : Sv} {s : St} {w w1 : World} (h : Nn V s w w1) : w.heap.size + 1 ≤ w1.heap.size := h.k0.lt
/-- The ring holds the free places. -/
def Fill (l : List Int) (xs : List Int) : Prop := xs.length = 20 ∧ ∀ j, j < l.length → xs.getD j 0 = l.getD j 0
def NewN (w : World) (s : St) (e : Ending) (w' : World) : Prop := ∃ g xs vv hh, e = .returned (.pointer (some ⟨g, 0, none⟩)) ∧ Fill s.f xs ∧ Hid (Nb w.heap.size g s.m xs 0 s.f.length s.v s.h vv hh w') ∧ Hid (Below w.heap.size w w')
def V58 (w : World) (V : Sv) (s : St) : Nat → (Nat → Value) → World → Prop
  | 0, q, w' => (q 0) = .pointer (some ⟨w.heap.size, 1, none⟩)
  | 1, q, w' => (q 1) = V.f
  | 2, q, w' => ∃ xs, (q 2) = .agg (rc xs 0 s.f.length).toArray ∧ Fill s.f xs
  | 3, q, w' => (q 3) = .pointer (some ⟨w.heap.size, 2, none⟩)
  | 4, q, w' => (q 4) = V.v
  | 5, q, w' => Vo (Value.int .i64) 3 (w.heap.size + 1) w' (q 5) s.v
  | 6, q, w' => (q 6) = .pointer (some ⟨w.heap.size, 3, none⟩)
  | 7, q, w' => (q 7) = V.h
  | 8, q, w' => Vo Value.bool 4 (w.heap.size + 1) w' (q 8) s.h
  | 9, q, w' => ∃ xs vv hh, (q 9) = .agg (nc (List.replicate 8 0) xs 0 s.f.length vv hh).toArray ∧ Fill s.f xs ∧ Vo (Value.int .i64) 3 (w.heap.size + 1) w' vv s.v ∧ Vo Value.bool 4 (w.heap.size + 1) w' hh s.h
  | 10, q, w' => ∃ g xs vv hh, (q 10) = .pointer (some ⟨g, 0, none⟩) ∧ w.heap.size < g ∧ Fill s.f xs ∧ Nb w.heap.size g (List.replicate 8 0) xs 0 s.f.length s.v s.h vv hh w'
  | 11, q, w' => ∃ g xs vv hh, (q 11) = .pointer (some ⟨g, 0, none⟩) ∧ w.heap.size < g ∧ Fill s.f xs ∧ Nb w.heap.size g (List.replicate 8 0) xs 0 s.f.length s.v s.h vv hh w'
  | _, _, _ => True
def V58b (b g : Nat) (V : Sv) : Nat → (Nat → Value) → World → Prop
  | 0, q, w' => (q 0) = .pointer (some ⟨g, 0, none⟩)
  | 1, q, w' => (q 1) = .pointer (some ⟨g, 0, none⟩)
  | 2, q, w' => (q 2) = .pointer (some ⟨g, 0, none⟩)
  | 3, q, w' => (q 3) = .slice (some ⟨g, 0, none⟩) 8 8
  | 4, q, w' => (q 4) = .pointer (some ⟨b, 0, none⟩)
  | 5, q, w' => (q 5) = V.m
  | 6, q, w' => True
  | _, _, _ => True
set_option maxHeartbeats 4000000 in
/-- A state at work. -/
theorem names58 (V : Sv) (s : St) (w : World) (h : RdS w V s) (hm : s.m.length = 8) (hf : s.f.length ≤ 20) (hl : s.m.length + s.f.length + s.v.length + s.h.length ≤ 1048576) :
    Calls Try.prog 58 #[V.agg] w (NewN w s) := by
  have H := Lib.hid h
  obtain ⟨A, c, A2, c2, A3, c3, A4, c4, hV⟩ := h.form
  subst hV
  have HM := Lib.hid hm
  clear h hm
  go_enter Try.func58, Try.ntmps58
  go_wp2_with fail
  obtain ⟨w0, hW, hb, k0, hz⟩ := bx1 w #[.slice A s.m.length c, .slice A2 s.f.length c2, .slice A3 s.v.length c3, .slice A4 s.h.length c4] 25
  rw [hW]; clear hW
  have hS0 : Nn ⟨.slice A s.m.length c, .slice A2 s.f.length c2, .slice A3 s.v.length c3, .slice A4 s.h.length c4⟩ s w w0.drew := ⟨bl_drew hb.out, H.out.below (bl_drew hb.out), k0.out⟩
  clear hb k0 hz
  generalize hVe : (⟨.slice A s.m.length c, .slice A2 s.f.length c2, .slice A3 s.v.length c3, .slice A4 s.h.length c4⟩ : Sv) = V at hS0 H
  refine wp_flow mixed [[], [0], [1], [], [3], [4], [], [6], [7], [2, 5, 8], [9], [10]] (Nn V s w) (fun _ w1 w2 => Below w1.heap.size w1 w2) (V58 w V s) (by kernel_rfl) hS0 ?_ ?_ ?_
  · intro i j q v w1 w2 hij hni hv hT hvi
    match j, hv, hni, hij with
    | 0, hv, hni, hij => rw [V58, upd_ne q i v 0 (Ne.symm hij)]; exact hv
    | 1, hv, hni, hij => rw [V58, upd_ne q i v 1 (Ne.symm hij)]; exact hv
    | 2, hv, hni, hij => rw [V58, upd_ne q i v 2 (Ne.symm hij)]; exact hv
    | 3, hv, hni, hij => rw [V58, upd_ne q i v 3 (Ne.symm hij)]; exact hv
    | 4, hv, hni, hij => rw [V58, upd_ne q i v 4 (Ne.symm hij)]; exact hv
    | 5, hv, hni, hij => rw [V58, upd_ne q i v 5 (Ne.symm hij)]; exact hv.below hT
    | 6, hv, hni, hij => rw [V58, upd_ne q i v 6 (Ne.symm hij)]; exact hv
    | 7, hv, hni, hij => rw [V58, upd_ne q i v 7 (Ne.symm hij)]; exact hv
    | 8, hv, hni, hij => rw [V58, upd_ne q i v 8 (Ne.symm hij)]; exact hv.below hT
    | 9, hv, hni, hij => rw [V58, upd_ne q i v 9 (Ne.symm hij)]; obtain ⟨xs, vv, hh, e, hF, h1, h2⟩ := hv; exact ⟨xs, vv, hh, e, hF, h1.below hT, h2.below hT⟩
    | 10, hv, hni, hij => rw [V58, upd_ne q i v 10 (Ne.symm hij)]; obtain ⟨g, xs, vv, hh, e, hg, hF, h1⟩ := hv; exact ⟨g, xs, vv, hh, e, hg, hF, h1.below hT⟩
    | 11, hv, hni, hij => rw [V58, upd_ne q i v 11 (Ne.symm hij)]; obtain ⟨g, xs, vv, hh, e, hg, hF, h1⟩ := hv; exact ⟨g, xs, vv, hh, e, hg, hF, h1.below hT⟩
    | n + 12, _, _, _ => exact trivial
  · intro i o hi a w' hS hD hO hs
    match i, hi with
    | 0, hi =>
      obtain rfl := Option.some.inj hi
      have d0 : a.tmps.getD 1 undef = .pointer (some ⟨w.heap.size, 0, none⟩) := hO 1 (by kernel_rfl)
      refine step_val rfl (.pointer (some ⟨w.heap.size, 1, none⟩)) w' ?_ (by simp) hS (Below.refl _ _) rfl
      simp only [execOp, Act.eval, d0]
      go_simp
    | 1, hi =>
      obtain rfl := Option.some.inj hi
      have d0 : a.tmps.getD 4 undef = .pointer (some ⟨w.heap.size, 1, none⟩) := hD 0 (by simp)
      have c0 := hS.k0.cell 1
      simp at c0
      refine step_val rfl (V.f) w' ?_ (by simp) hS (Below.refl _ _) rfl
      simp only [execOp, Act.eval, d0]
      go_simp
    | 2, hi =>
      obtain rfl := Option.some.inj hi
      have d0 : a.tmps.getD 5 undef = V.f := hD 1 (by simp)
      refine step_call rfl 74 #[V.f] (by simp only [execOp, Act.eval, d0]; go_simp) (by simp) _ (ring74 V.f s.f w' hS.rd.f hf) ?_
      rintro e w1 ⟨xs, rfl, hx, hg, hb⟩
      exact ⟨_, rfl, hS.next hb, hb, xs, by simp [upd], hx, hg⟩
    | 3, hi =>
      obtain rfl := Option.some.inj hi
      have d0 : a.tmps.getD 1 undef = .pointer (some ⟨w.heap.size, 0, none⟩) := hO 1 (by kernel_rfl)
      refine step_val rfl (.pointer (some ⟨w.heap.size, 2, none⟩)) w' ?_ (by simp) hS (Below.refl _ _) rfl
      simp only [execOp, Act.eval, d0]
      go_simp
    | 4, hi =>
      obtain rfl := Option.some.inj hi
      have d0 : a.tmps.getD 7 undef = .pointer (some ⟨w.heap.size, 2, none⟩) := hD 3 (by simp)
      have c0 := hS.k0.cell 2
      simp at c0
      refine step_val rfl (V.v) w' ?_ (by simp) hS (Below.refl _ _) rfl
      simp only [execOp, Act.eval, d0]
      go_simp
    | 5, hi =>
      obtain rfl := Option.some.inj hi
      have d0 : a.tmps.getD 8 undef = V.v := hD 4 (by simp)
      refine step_call rfl 75 #[V.v] (by simp only [execOp, Act.eval, d0]; go_simp) (by simp) _ (clone75 V.v s.v w' hS.rd.v (by omega)) ?_
      rintro e w1 ⟨A, c, rfl, ho, hr, hb⟩
      refine ⟨_, rfl, hS.next hb.out, hb.out, ?_⟩
      rw [V58, upd_self]
      exact (Vo.of_newO ho.out hr.out).mono hS.sz
    | 6, hi =>
      obtain rfl := Option.some.inj hi
      have d0 : a.tmps.getD 1 undef = .pointer (some ⟨w.heap.size, 0, none⟩) := hO 1 (by kernel_rfl)
      refine step_val rfl (.pointer (some ⟨w.heap.size, 3, none⟩)) w' ?_ (by simp) hS (Below.refl _ _) rfl
      simp only [execOp, Act.eval, d0]
      go_simp
    | 7, hi =>
      obtain rfl := Option.some.inj hi
      have d0 : a.tmps.getD 10 undef = .pointer (some ⟨w.heap.size, 3, none⟩) := hD 6 (by simp)
      have c0 := hS.k0.cell 3
      simp at c0
      refine step_val rfl (V.h) w' ?_ (by simp) hS (Below.refl _ _) rfl
      simp only [execOp, Act.eval, d0]
      go_simp
    | 8, hi =>
      obtain rfl := Option.some.inj hi
      have d0 : a.tmps.getD 11 undef = V.h := hD 7 (by simp)
      refine step_call rfl 76 #[V.h] (by simp only [execOp, Act.eval, d0]; go_simp) (by simp) _ (clone76 V.h s.h w' hS.rd.h (by omega)) ?_
      rintro e w1 ⟨A, c, rfl, ho, hr, hb⟩
      refine ⟨_, rfl, hS.next hb.out, hb.out, ?_⟩
      rw [V58, upd_self]
      exact (Vo.of_newO ho.out hr.out).mono hS.sz
    | 9, hi =>
      obtain rfl := Option.some.inj hi
      obtain ⟨xs, d0, hF⟩ : ∃ xs, a.tmps.getD 6 undef = .agg (rc xs 0 s.f.length).toArray ∧ Fill s.f xs := hD 2 (by simp)
      have d1 : Vo (Value.int .i64) 3 (w.heap.size + 1) w' (a.tmps.getD 9 undef) s.v := hD 5 (by simp)
      have d2 : Vo Value.bool 4 (w.heap.size + 1) w' (a.tmps.getD 12 undef) s.h := hD 8 (by simp)
      obtain ⟨A1, c1, e1⟩ := d1.1
      obtain ⟨A2, c2, e2⟩ := d2.1
      obtain ⟨x0, x1, x2, x3, x4, x5, x6, x7, x8, x9, x10, x11, x12, x13, x14, x15, x16, x17, x18, x19, hlit⟩ := list20 xs hF.1
      rw [e1] at d1
      rw [e2] at d2
      refine step_val rfl (.agg (nc (List.replicate 8 0) xs 0 s.f.length (.slice A1 s.v.length c1) (.slice A2 s.h.length c2)).toArray) w' ?_ (by simp) hS (Below.refl _ _) ?_
      · subst hlit
        simp only [Array.getD_eq_getD_getElem?] at d0 e1 e2
        clear hD hO hs d1 d2
        simp only [nc, rc, List.replicate, List.map_cons, List.map_nil, List.cons_append, List.nil_append] at d0 ⊢
        simp only [execOp]
        go_simp
      · rw [V58]
        exact ⟨xs, _, _, upd_self .., hF, d1, d2⟩
    | 10, hi =>
      obtain rfl := Option.some.inj hi
      obtain ⟨xs, vv, hh, d0, hF, h1, h2⟩ : ∃ xs vv hh, a.tmps.getD 13 undef = .agg (nc (List.replicate 8 0) xs 0 s.f.length vv hh).toArray ∧ Fill s.f xs ∧ Vo (Value.int .i64) 3 (w.heap.size + 1) w' vv s.v ∧ Vo Value.bool 4 (w.heap.size + 1) w' hh s.h := hD 9 (by simp)
      have hb := bl_alloc (bl_refl w') (.cells (nc (List.replicate 8 0) xs 0 s.f.length vv hh).toArray 68)
      refine step_val rfl (.pointer (some ⟨w'.heap.size, 0, none⟩)) (w'.alloc (.cells (nc (List.replicate 8 0) xs 0 s.f.length vv hh).toArray 68)) ?_ (by simp) (hS.next hb) hb ?_
      · simp only [execOp, Act.eval, d0]
        go_simp
      · rw [V58]
        refine ⟨w'.heap.size, xs, vv, hh, upd_self .., hS.sz, hF, ?_⟩
        exact ⟨by have := hS.sz; omega, by simp, hF.1, Bk.new _ _ _, (h1.below hb).mono (by omega), (h2.below hb).mono (by omega), fun hk => by have := h1.2.1.lt _ hk; omega, fun hk => by have := h2.2.1.lt _ hk; omega⟩
    | 11, hi =>
      obtain rfl := Option.some.inj hi
      obtain ⟨g, xs, vv, hh, d0, hg, hF, h1⟩ : ∃ g xs vv hh, a.tmps.getD 14 undef = .pointer (some ⟨g, 0, none⟩) ∧ w.heap.size < g ∧ Fill s.f xs ∧ Nb w.heap.size g (List.replicate 8 0) xs 0 s.f.length s.v s.h vv hh w' := hD 10 (by simp)
      refine step_val rfl (.pointer (some ⟨g, 0, none⟩)) w' ?_ (by simp) hS (Below.refl _ _) ⟨g, xs, vv, hh, upd_self .., hg, hF, h1⟩
      simp only [execOp, Act.eval, d0]
      go_simp
    | n + 12, hi => simp at hi
  · intro a w' hS hD hO hs hd
    obtain ⟨g, xs, vv, hh, d3, hg, hF, HN⟩ : ∃ g xs vv hh, a.tmps.getD 3 undef = .pointer (some ⟨g, 0, none⟩) ∧ w.heap.size < g ∧ Fill s.f xs ∧ Nb w.heap.size g (List.replicate 8 0) xs 0 s.f.length s.v s.h vv hh w' := hD 11 (by simp)
    have d1 : a.tmps.getD 1 undef = .pointer (some ⟨w.heap.size, 0, none⟩) := hO 1 (by kernel_rfl)
    have HN := Lib.hid HN
    have HS := Lib.hid hS
    obtain ⟨tm, df⟩ := a
    obtain ⟨x0, x1, x2, x3, x4, x5, x6, x7, x8, x9, x10, x11, x12, x13, x14, x15, x16, x17, x18, x19, x20, x21, x22, rfl⟩ := lit23 tm hs
    obtain rfl : x3 = .pointer (some ⟨g, 0, none⟩) := d3
    obtain rfl : x1 = .pointer (some ⟨w.heap.size, 0, none⟩) := d1
    obtain rfl : df = [] := hd
    clear hD hO hs hS hS0 H hVe
    go_wp2_with fail
    refine wp_flow_last mixed 6 (by kernel_rfl) [[], [0], [1], [2], [], [4], [3, 5]] (fun w2 => Nn V s w w2 ∧ Nb w.heap.size g (List.replicate 8 0) xs 0 s.f.length s.v s.h vv hh w2) (fun _ _ _ => True) (V58b w.heap.size g V) (by kernel_rfl) ⟨HS.out.next (bl_drew (bl_refl _)), HN.out.below (bl_drew (bl_refl _))⟩ ?_ ?_ ?_
    · intro i j q v w1 w2 hij hni hv hT hvi
      match j, hv, hni, hij with
      | 0, hv, hni, hij => rw [V58b, upd_ne q i v 0 (Ne.symm hij)]; exact hv
      | 1, hv, hni, hij => rw [V58b, upd_ne q i v 1 (Ne.symm hij)]; exact hv
      | 2, hv, hni, hij => rw [V58b, upd_ne q i v 2 (Ne.symm hij)]; exact hv
      | 3, hv, hni, hij => rw [V58b, upd_ne q i v 3 (Ne.symm hij)]; exact hv
      | 4, hv, hni, hij => rw [V58b, upd_ne q i v 4 (Ne.symm hij)]; exact hv
      | 5, hv, hni, hij => rw [V58b, upd_ne q i v 5 (Ne.symm hij)]; exact hv
      | 6, hv, hni, hij => rw [V58b]; exact hv
      | n + 7, _, _, _ => exact trivial
    · intro i o him hi a w' hS hD hO hs
      match i, hi, him with
      | 0, hi, _ =>
        obtain rfl := Option.some.inj hi
        have d0 : a.tmps.getD 3 undef = .pointer (some ⟨g, 0, none⟩) := hO 3 (by kernel_rfl)
        refine step_val rfl (.pointer (some ⟨g, 0, none⟩)) w' ?_ (by simp) hS (trivial) rfl
        simp only [execOp, Act.eval, d0]
        go_simp
      | 1, hi, _ =>
        obtain rfl := Option.some.inj hi
        have d0 : a.tmps.getD 15 undef = .pointer (some ⟨g, 0, none⟩) := hD 0 (by simp)
        refine step_val rfl (.pointer (some ⟨g, 0, none⟩)) w' ?_ (by simp) hS (trivial) rfl
        simp only [execOp, Act.eval, d0]
        go_simp
      | 2, hi, _ =>
        obtain rfl := Option.some.inj hi
        have d0 : a.tmps.getD 16 undef = .pointer (some ⟨g, 0, none⟩) := hD 1 (by simp)
        refine step_val rfl (.pointer (some ⟨g, 0, none⟩)) w' ?_ (by simp) hS (trivial) rfl
        simp only [execOp, Act.eval, d0]
        go_simp
      | 3, hi, _ =>
        obtain rfl := Option.some.inj hi
        have d0 : a.tmps.getD 17 undef = .pointer (some ⟨g, 0, none⟩) := hD 2 (by simp)
        refine step_val rfl (.slice (some ⟨g, 0, none⟩) 8 8) w' ?_ (by simp) hS (trivial) rfl
        simp only [execOp, Act.eval, d0]
        go_simp
      | 4, hi, _ =>
        obtain rfl := Option.some.inj hi
        have d0 : a.tmps.getD 1 undef = .pointer (some ⟨w.heap.size, 0, none⟩) := hO 1 (by kernel_rfl)
        refine step_val rfl (.pointer (some ⟨w.heap.size, 0, none⟩)) w' ?_ (by simp) hS (trivial) rfl
        simp only [execOp, Act.eval, d0]
        go_simp
      | 5, hi, _ =>
        obtain rfl := Option.some.inj hi
        have d0 : a.tmps.getD 19 undef = .pointer (some ⟨w.heap.size, 0, none⟩) := hD 4 (by simp)
        have c0 := hS.1.k0.cell 0
        simp at c0
        refine step_val rfl (V.m) w' ?_ (by simp) hS (trivial) rfl
        simp only [execOp, Act.eval, d0]
        go_simp
      | n + 6, hi, h => exact absurd h (by omega)
    · intro a w2 o hi hS hD hO hs hd
      obtain rfl := Option.some.inj hi
      have d18 : a.tmps.getD 18 undef = .slice (some ⟨g, 0, none⟩) 8 8 := hD 3 (by omega)
      have d20 : a.tmps.getD 20 undef = V.m := hD 5 (by omega)
      have d3 : a.tmps.getD 3 undef = .pointer (some ⟨g, 0, none⟩) := hO 3 (by kernel_rfl)
      obtain ⟨hS, HN2⟩ := hS
      obtain ⟨Am, cm, em, hcm, _, hr⟩ := hS.rd.m
      obtain ⟨ad, rfl, hcell⟩ := hr (by have := HM.out; omega)
      have hL := nc_len (List.replicate 8 0) xs 0 s.f.length vv hh HN2.hp HN2.hx
      have hcp := run_copy_row (P := Try.prog) w2 22 22 3 3 g 0 8 8 ad s.m.length cm (nc (List.replicate 8 0) xs 0 s.f.length vv hh).toArray 68 (s.m.map (Value.int .i64)) Try.underlying22 (by kernel_rfl) HN2.k (by simp [HM.out]) (fun j v hj => by
        rw [List.getElem?_map] at hj
        obtain ⟨x, hx, rfl⟩ := Option.map_eq_some_iff.1 hj
        exact hcell j x hx) (by rw [List.size_toArray, hL, List.length_map, HM.out]; omega) (fun v hv => by obtain ⟨x, _, rfl⟩ := List.mem_map.1 hv; rfl)
      have hnc : ((nc (List.replicate 8 0) xs 0 s.f.length vv hh).toArray.toList.take 0 ++ s.m.map (Value.int .i64) ++ (nc (List.replicate 8 0) xs 0 s.f.length vv hh).toArray.toList.drop (0 + (s.m.map (Value.int .i64)).length)).toArray = (nc s.m xs 0 s.f.length vv hh).toArray := by
        simp [nc, HM.out]
      rw [hnc] at hcp
      have hf := Fr.row HN2.k (by rw [List.size_toArray, nc_len _ _ _ _ _ _ HN2.hp HN2.hx]; omega) (S := fun k => k = g) rfl (nc s.m xs 0 s.f.length vv hh).toArray
      have hk : Bk (w2.setRow g (nc s.m xs 0 s.f.length vv hh).toArray) g (nc s.m xs 0 s.f.length vv hh).toArray 68 := setRow_heap w2 g _ _ _ _ HN2.k
      have HN3 := Lib.hid (HN2.turn hf hk HM.out HN2.hx)
      have HB := Lib.hid (hf.below hS.bl hS.bl.size (fun k hk => by omega))
      rw [em] at d20
      refine ⟨rfl, wpo_copy (.tmp 18) (.tmp 20) 22 22 rfl _ _ d18 d20 _ _ hcp ?_⟩
      generalize w2.setRow g (nc s.m xs 0 s.f.length vv hh).toArray = w3 at HN3 HB
      clear hcp hnc hf hk HN2 hS d18 d20
      obtain ⟨tm, df⟩ := a
      obtain ⟨x0, x1, x2, x3, x4, x5, x6, x7, x8, x9, x10, x11, x12, x13, x14, x15, x16, x17, x18, x19, x20, x21, x22, rfl⟩ := lit23 tm hs
      obtain rfl : x3 = .pointer (some ⟨g, 0, none⟩) := d3
      clear hD hO hs
      go_wp2
      exact bodyPost_ret (results_tmp rfl _ _ _) rfl ⟨g, xs, vv, hh, rfl, hF, HN3, HB⟩
end Go.Proofs.Ytiemacjmipiakaa.Nm
