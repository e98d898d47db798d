/- Giving a place back. -/
import Derived.Test.YtiemacjmipiakaaNmU
import Derived.Test.YtiemacjmipiakaaNmLit
namespace Go.Proofs.Ytiemacjmipiakaa.Nm
open Go.RowKit Go.Proofs.Ytiemacjmipiakaa.Hw
set_option linter.unusedVariables false
set_option linter.unusedSimpArgs false
theorem wpo_call {P : Program} {o : Oper} {a : Act} {w : World} {K : Act → World → Prop} {Q : Exit → Act → World → Prop} (f : FuncId) (args : Array Value) (hr : (execOp a.eval o).run P w = .ok (.enter f args) w) (R : Ending → World → Prop) (hc : Calls P f args w R)
    (h : ∀ e w', R e w' → ∃ v, e = .returned v ∧ K (a.put o.dst v) w') : o.wp P a w K Q := by
  unfold Oper.wp
  rw [hr]
  refine hc.mono (fun e w' hR => ?_)
  obtain ⟨v, rfl, h1⟩ := h e w' hR
  exact h1
theorem nc_setp (pl xs : List Int) (f m : Int) (vv hh : Value) (j : Nat) (x : Int) (hj : j < pl.length) : (nc pl xs f m vv hh).set j (.int .i64 x) = nc (pl.set j x) xs f m vv hh := by
  unfold nc
  rw [List.set_append_left _ _ (by simpa using hj), List.map_set]
/-- A register's place turned. -/
theorem Nb.place {B g : Nat} {pl xs : List Int} {f m : Nat} {lv : List Int} {lh : List Bool} {vv hh : Value} {w : World} (h : Nb B g pl xs f m lv lh vv hh w) (j : Nat) (x : Int) (hj : j < 8) :
    w.cell? ⟨g, j, none⟩ = some (.int .i64 (pl.getD j 0)) ∧ w.frozen? ⟨g, j, none⟩ = false ∧ Nb B g (pl.set j x) xs f m lv lh vv hh (w.setCell ⟨g, j, none⟩ (.int .i64 x)) ∧ Fr (fun k => k = g) w (w.setCell ⟨g, j, none⟩ (.int .i64 x)) := by
  have hlt : j < pl.length := by rw [h.hp]; exact hj
  have hf := Fr.set (S := fun k => k = g) (w := w) (p := ⟨g, j, none⟩) rfl (.int .i64 x)
  refine ⟨(h.k.cell j).trans (by rw [List.getElem?_toArray]; exact nc_place _ _ _ _ _ _ j hlt), h.k.frozen j, h.turn hf ?_ (by simp [h.hp]) h.hx, hf⟩
  have := h.k.set j (.int .i64 x)
  rw [List.setIfInBounds_toArray, nc_setp _ _ _ _ _ _ _ _ hlt] at this
  exact this
def V64 (g : Nat) (d old : Int) (w : World) : Nat → (Nat → Value) → World → Prop
  | 0, q, w' => (q 0) = .pointer (some ⟨g, 0, none⟩)
  | 1, q, w' => (q 1) = .pointer (some ⟨w.heap.size, 0, none⟩)
  | 2, q, w' => (q 2) = .int .i64 d
  | 3, q, w' => (q 3) = .pointer (some ⟨w.heap.size, 2, none⟩)
  | 4, q, w' => (q 4) = .int .i64 old
  | 5, q, w' => (q 5) = .pointer (some ⟨g, 0, none⟩)
  | 6, q, w' => (q 6) = .pointer (some ⟨g, 0, none⟩)
  | 7, q, w' => (q 7) = .pointer (some ⟨g, d.toNat, none⟩)
  | 8, q, w' => True
  | _, _, _ => True
def V64b (g : Nat) (now : Int) (w : World) : Nat → (Nat → Value) → World → Prop
  | 0, q, w' => (q 0) = .pointer (some ⟨g, 0, none⟩)
  | 1, q, w' => (q 1) = .pointer (some ⟨g, 0, none⟩)
  | 2, q, w' => (q 2) = .pointer (some ⟨g, 8, none⟩)
  | 3, q, w' => (q 3) = .pointer (some ⟨w.heap.size, 1, none⟩)
  | 4, q, w' => (q 4) = .int .i64 now
  | 5, q, w' => True
  | _, _, _ => True
set_option maxHeartbeats 4000000 in
/-- What was taken is given back. -/
theorem undo64 (B g : Nat) (pl xs : List Int) (f m : Nat) (lv : List Int) (lh : List Bool) (vv hh : Value) (d now old : Int) (w : World) (h : Nb B g pl xs f m lv lh vv hh w) (hf : f < 20) (hm : m < 20) (h0 : 0 ≤ d) (h7 : d ≤ 7) (hw : g < w.heap.size) :
    Calls Try.prog 64 #[.pointer (some ⟨g, 0, none⟩), .agg #[.int .i64 d, .int .i64 now, .int .i64 old]] w fun e w' => e = .returned (.tuple #[]) ∧ Hid (Nb B g (pl.set d.toNat old) (xs.set ((f + m) % 20) now) f (m + 1) lv lh vv hh w') ∧ Hid (Fr (fun k => k = g) w w') := by
  have H := Lib.hid h
  have hb0 : decide (d < (8 : Int)) = true := decide_eq_true (by omega)
  have hb1 : decide (d < 0) = false := decide_eq_false (by omega)
  clear h
  go_enter Try.func64, Try.ntmps64
  go_wp2_with fail
  obtain ⟨w0, hW, hb, k0, hz⟩ := bx1 w #[.int .i64 d, .int .i64 now, .int .i64 old] 73
  rw [hW]; clear hW
  have hS0 : Bk w0.drew w.heap.size #[.int .i64 d, .int .i64 now, .int .i64 old] 73 ∧ Nb B g pl xs f m lv lh vv hh w0.drew ∧ Fr (fun k => k = g) w w0.drew := ⟨k0.out, (H.out.below hb.out).below (bl_drew (bl_refl _)), Fr.of_below (bl_drew hb.out)⟩
  clear hb k0 hz
  refine wp_flow_last mixed 8 (by kernel_rfl) [[], [], [1], [], [3], [0], [5], [2, 6], [4, 7]] (fun w' => Bk w' w.heap.size #[.int .i64 d, .int .i64 now, .int .i64 old] 73 ∧ Nb B g pl xs f m lv lh vv hh w' ∧ Fr (fun k => k = g) w w') (fun _ _ _ => True) (V64 g d old w) (by kernel_rfl) hS0 ?_ ?_ ?_
  · intro i j q v w1 w2 hij hni hv hT hvi
    match j, hv, hni, hij with
    | 0, hv, hni, hij => rw [V64, upd_ne q i v 0 (Ne.symm hij)]; exact hv
    | 1, hv, hni, hij => rw [V64, upd_ne q i v 1 (Ne.symm hij)]; exact hv
    | 2, hv, hni, hij => rw [V64, upd_ne q i v 2 (Ne.symm hij)]; exact hv
    | 3, hv, hni, hij => rw [V64, upd_ne q i v 3 (Ne.symm hij)]; exact hv
    | 4, hv, hni, hij => rw [V64, upd_ne q i v 4 (Ne.symm hij)]; exact hv
    | 5, hv, hni, hij => rw [V64, upd_ne q i v 5 (Ne.symm hij)]; exact hv
    | 6, hv, hni, hij => rw [V64, upd_ne q i v 6 (Ne.symm hij)]; exact hv
    | 7, hv, hni, hij => rw [V64, upd_ne q i v 7 (Ne.symm hij)]; exact hv
    | 8, hv, hni, hij => rw [V64]; exact hv
    | n + 9, _, _, _ => exact trivial
  · intro i o him hi a w' hS hD hO hs
    match i, hi, him with
    | 0, hi, _ =>
      obtain rfl := Option.some.inj hi
      have d0 : a.tmps.getD 0 undef = .pointer (some ⟨g, 0, none⟩) := hO 0 (by kernel_rfl)
      refine step_val rfl (.pointer (some ⟨g, 0, none⟩)) w' ?_ (by simp) hS (trivial) rfl
      simp only [execOp, Act.eval, d0]
      go_simp
    | 1, hi, _ =>
      obtain rfl := Option.some.inj hi
      have d0 : a.tmps.getD 3 undef = .pointer (some ⟨w.heap.size, 0, none⟩) := hO 3 (by kernel_rfl)
      refine step_val rfl (.pointer (some ⟨w.heap.size, 0, none⟩)) w' ?_ (by simp) hS (trivial) rfl
      simp only [execOp, Act.eval, d0]
      go_simp
    | 2, hi, _ =>
      obtain rfl := Option.some.inj hi
      have d0 : a.tmps.getD 5 undef = .pointer (some ⟨w.heap.size, 0, none⟩) := hD 1 (by simp)
      have c0 := hS.1.cell 0
      simp at c0
      refine step_val rfl (.int .i64 d) w' ?_ (by simp) hS (trivial) rfl
      simp only [execOp, Act.eval, d0]
      go_simp
    | 3, hi, _ =>
      obtain rfl := Option.some.inj hi
      have d0 : a.tmps.getD 3 undef = .pointer (some ⟨w.heap.size, 0, none⟩) := hO 3 (by kernel_rfl)
      refine step_val rfl (.pointer (some ⟨w.heap.size, 2, none⟩)) w' ?_ (by simp) hS (trivial) rfl
      simp only [execOp, Act.eval, d0]
      go_simp
    | 4, hi, _ =>
      obtain rfl := Option.some.inj hi
      have d0 : a.tmps.getD 7 undef = .pointer (some ⟨w.heap.size, 2, none⟩) := hD 3 (by simp)
      have c0 := hS.1.cell 2
      simp at c0
      refine step_val rfl (.int .i64 old) w' ?_ (by simp) hS (trivial) rfl
      simp only [execOp, Act.eval, d0]
      go_simp
    | 5, hi, _ =>
      obtain rfl := Option.some.inj hi
      have d0 : a.tmps.getD 4 undef = .pointer (some ⟨g, 0, none⟩) := hD 0 (by simp)
      refine step_val rfl (.pointer (some ⟨g, 0, none⟩)) w' ?_ (by simp) hS (trivial) rfl
      simp only [execOp, Act.eval, d0]
      go_simp
    | 6, hi, _ =>
      obtain rfl := Option.some.inj hi
      have d0 : a.tmps.getD 9 undef = .pointer (some ⟨g, 0, none⟩) := hD 5 (by simp)
      refine step_val rfl (.pointer (some ⟨g, 0, none⟩)) w' ?_ (by simp) hS (trivial) rfl
      simp only [execOp, Act.eval, d0]
      go_simp
    | 7, hi, _ =>
      obtain rfl := Option.some.inj hi
      have d0 : a.tmps.getD 6 undef = .int .i64 d := hD 2 (by simp)
      have d1 : a.tmps.getD 10 undef = .pointer (some ⟨g, 0, none⟩) := hD 6 (by simp)
      have b2 : d < 8 := by omega
      refine step_val rfl (.pointer (some ⟨g, d.toNat, none⟩)) w' ?_ (by simp) hS (trivial) rfl
      simp only [execOp, Act.eval, d0, d1]
      go_simp
    | n + 8, hi, h => exact absurd h (by omega)
  · intro a w' o hi hS hD hO hs hd
    obtain rfl := Option.some.inj hi
    have d11 : a.tmps.getD 11 undef = .pointer (some ⟨g, d.toNat, none⟩) := hD 7 (by omega)
    have d8 : a.tmps.getD 8 undef = .int .i64 old := hD 4 (by omega)
    have d0 : a.tmps.getD 0 undef = .pointer (some ⟨g, 0, none⟩) := hO 0 (by kernel_rfl)
    have d3 : a.tmps.getD 3 undef = .pointer (some ⟨w.heap.size, 0, none⟩) := hO 3 (by kernel_rfl)
    obtain ⟨hk, hN, hF⟩ := hS
    obtain ⟨c1, c2, hN2, hF2⟩ := hN.place d.toNat old (by omega)
    have hk2 := Lib.hid (hk.fr hF2 (by omega))
    have HN := Lib.hid hN2
    have HF := Lib.hid (hF.trans hF2)
    refine ⟨rfl, wpo_skip (w'.setCell ⟨g, d.toNat, none⟩ (.int .i64 old)) ?_ rfl ?_⟩
    · clear hD hO hs hN hN2 hF2
      simp only [execOp, Act.eval, d11, d8]
      go_simp
    generalize w'.setCell ⟨g, d.toNat, none⟩ (.int .i64 old) = w1 at hk2 HN HF ⊢
    obtain ⟨tm, df⟩ := a
    obtain ⟨x0, x1, x2, x3, x4, x5, x6, x7, x8, x9, x10, x11, x12, x13, x14, x15, x16, x17, rfl⟩ := lit18 tm hs
    obtain rfl : x0 = .pointer (some ⟨g, 0, none⟩) := d0
    obtain rfl : x3 = .pointer (some ⟨w.heap.size, 0, none⟩) := d3
    obtain rfl : df = [] := hd
    clear hD hO hs hN hN2 hF2 hF hk d11 d8 c1 c2 hS0
    go_wp2_with fail
    refine wp_flow_last mixed 5 (by kernel_rfl) [[], [0], [1], [], [3], [2, 4]] (fun w' => Bk w' w.heap.size #[.int .i64 d, .int .i64 now, .int .i64 old] 73 ∧ Nb B g (pl.set d.toNat old) xs f m lv lh vv hh w' ∧ Fr (fun k => k = g) w w') (fun _ _ _ => True) (V64b g now w) (by kernel_rfl) ⟨hk2.out, HN.out.below (bl_drew (bl_refl _)), HF.out.trans (Fr.of_below (bl_drew (bl_refl _)))⟩ ?_ ?_ ?_
    · intro i j q v w1 w2 hij hni hv hT hvi
      match j, hv, hni, hij with
      | 0, hv, hni, hij => rw [V64b, upd_ne q i v 0 (Ne.symm hij)]; exact hv
      | 1, hv, hni, hij => rw [V64b, upd_ne q i v 1 (Ne.symm hij)]; exact hv
      | 2, hv, hni, hij => rw [V64b, upd_ne q i v 2 (Ne.symm hij)]; exact hv
      | 3, hv, hni, hij => rw [V64b, upd_ne q i v 3 (Ne.symm hij)]; exact hv
      | 4, hv, hni, hij => rw [V64b, upd_ne q i v 4 (Ne.symm hij)]; exact hv
      | 5, hv, hni, hij => rw [V64b]; exact hv
      | n + 6, _, _, _ => exact trivial
    · intro i o him hi a w' hS hD hO hs
      match i, hi, him with
      | 0, hi, _ =>
        obtain rfl := Option.some.inj hi
        have d0 : a.tmps.getD 0 undef = .pointer (some ⟨g, 0, none⟩) := hO 0 (by kernel_rfl)
        refine step_val rfl (.pointer (some ⟨g, 0, none⟩)) w' ?_ (by simp) hS (trivial) rfl
        simp only [execOp, Act.eval, d0]
        go_simp
      | 1, hi, _ =>
        obtain rfl := Option.some.inj hi
        have d0 : a.tmps.getD 12 undef = .pointer (some ⟨g, 0, none⟩) := hD 0 (by simp)
        refine step_val rfl (.pointer (some ⟨g, 0, none⟩)) w' ?_ (by simp) hS (trivial) rfl
        simp only [execOp, Act.eval, d0]
        go_simp
      | 2, hi, _ =>
        obtain rfl := Option.some.inj hi
        have d0 : a.tmps.getD 13 undef = .pointer (some ⟨g, 0, none⟩) := hD 1 (by simp)
        refine step_val rfl (.pointer (some ⟨g, 8, none⟩)) w' ?_ (by simp) hS (trivial) rfl
        simp only [execOp, Act.eval, d0]
        go_simp
      | 3, hi, _ =>
        obtain rfl := Option.some.inj hi
        have d0 : a.tmps.getD 3 undef = .pointer (some ⟨w.heap.size, 0, none⟩) := hO 3 (by kernel_rfl)
        refine step_val rfl (.pointer (some ⟨w.heap.size, 1, none⟩)) w' ?_ (by simp) hS (trivial) rfl
        simp only [execOp, Act.eval, d0]
        go_simp
      | 4, hi, _ =>
        obtain rfl := Option.some.inj hi
        have d0 : a.tmps.getD 15 undef = .pointer (some ⟨w.heap.size, 1, none⟩) := hD 3 (by simp)
        have c0 := hS.1.cell 1
        simp at c0
        refine step_val rfl (.int .i64 now) w' ?_ (by simp) hS (trivial) rfl
        simp only [execOp, Act.eval, d0]
        go_simp
      | n + 5, hi, h => exact absurd h (by omega)
    · intro a w2 o hi hS hD hO hs hd
      obtain rfl := Option.some.inj hi
      have d14 : a.tmps.getD 14 undef = .pointer (some ⟨g, 8, none⟩) := hD 2 (by omega)
      have d16 : a.tmps.getD 16 undef = .int .i64 now := hD 4 (by omega)
      obtain ⟨_, hN, hF⟩ := hS
      refine ⟨rfl, wpo_call 59 #[.pointer (some ⟨g, 8, none⟩), .int .i64 now] (by simp only [execOp, Act.eval, d14, d16]; clear hD hO hs; go_simp) _ (npush B g _ xs f m lv lh vv hh now w2 hN hf hm) ?_⟩
      rintro e w3 ⟨rfl, HN3, HF3⟩
      refine ⟨_, rfl, ?_⟩
      have HF4 := Lib.hid (hF.trans HF3.out)
      obtain ⟨tm, df⟩ := a
      obtain ⟨x0, x1, x2, x3, x4, x5, x6, x7, x8, x9, x10, x11, x12, x13, x14, x15, x16, x17, rfl⟩ := lit18 tm hs
      clear hD hO hs d14 d16 hN hF HF3
      go_wp2
      go_end0
      exact ⟨rfl, HN3, HF4⟩
end Go.Proofs.Ytiemacjmipiakaa.Nm
