/- A state at work, read out. -/
import Derived.Test.YtiemacjmipiakaaNmS
namespace Go.Proofs.Ytiemacjmipiakaa.Nm
open Go.RowKit Go.Proofs.Ytiemacjmipiakaa.Hw
set_option linter.unusedVariables false
set_option linter.unusedSimpArgs false
theorem Nb.rdp {B g : Nat} {pl xs : List Int} {f m : Nat} {lv : List Int} {lh : List Bool} {vv hh : Value} {w : World} (h : Nb B g pl xs f m lv lh vv hh w) : Rd (Value.int .i64) w (.slice (some ⟨g, 0, none⟩) 8 8) pl := by
  refine ⟨some ⟨g, 0, none⟩, 8, by rw [h.hp], by rw [h.hp]; exact Nat.le_refl _, by rw [h.hp]; decide, fun _ => ⟨_, rfl, fun j x hj => ?_⟩⟩
  have hlt : j < pl.length := (List.getElem?_eq_some_iff.1 hj).1
  rw [add0]
  refine (h.k.cell j).trans ?_
  rw [List.getElem?_toArray, nc_place _ _ _ _ _ _ j hlt, List.getD_eq_getElem?_getD, hj]
  rfl
/-- While a state at work is read out. -/
structure Sn (B g : Nat) (pl xs : List Int) (f m : Nat) (lv : List Int) (lh : List Bool) (vv hh : Value) (w w' : World) : Prop where
  bl : Below w.heap.size w w'
  nb : Nb B g pl xs f m lv lh vv hh w'
  k1 : ∃ a0 a1 a2 a3, Bk w' w.heap.size #[a0, a1, a2, a3] 25
theorem Sn.next {B g : Nat} {pl xs : List Int} {f m : Nat} {lv : List Int} {lh : List Bool} {vv hh : Value} {w w1 w2 : World} (h : Sn B g pl xs f m lv lh vv hh w w1) (hb : Below w1.heap.size w1 w2) : Sn B g pl xs f m lv lh vv hh w w2 := by
  obtain ⟨h1, h2, a0, a1, a2, a3, h4⟩ := h
  exact ⟨bl_step h1 hb, h2.below hb, a0, a1, a2, a3, h4.below hb⟩
theorem Sn.sz {B g : Nat} {pl xs : List Int} {f m : Nat} {lv : List Int} {lh : List Bool} {vv hh : Value} {w w1 : World} (h : Sn B g pl xs f m lv lh vv hh w w1) : w.heap.size + 1 ≤ w1.heap.size := by
  obtain ⟨_, _, a0, a1, a2, a3, h4⟩ := h
  exact h4.lt
def V60 (g : Nat) (pl xs : List Int) (f m : Nat) (lv : List Int) (lh : List Bool) (vv hh : Value) (w : World) : Nat → (Nat → Value) → World → Prop
  | 0, q, w' => (q 0) = .pointer (some ⟨g, 0, none⟩)
  | 1, q, w' => (q 1) = .pointer (some ⟨g, 0, none⟩)
  | 2, q, w' => (q 2) = .pointer (some ⟨g, 0, none⟩)
  | 3, q, w' => (q 3) = .slice (some ⟨g, 0, none⟩) 8 8
  | 4, q, w' => Vo (Value.int .i64) 3 (w.heap.size + 1) w' (q 4) pl
  | 5, q, w' => (q 5) = .pointer (some ⟨g, 0, none⟩)
  | 6, q, w' => (q 6) = .pointer (some ⟨g, 0, none⟩)
  | 7, q, w' => (q 7) = .pointer (some ⟨g, 8, none⟩)
  | 8, q, w' => Vo (Value.int .i64) 3 (w.heap.size + 1) w' (q 8) (rl xs f m) ∧ Ap (q 4) (q 8)
  | 9, q, w' => (q 9) = .pointer (some ⟨g, 0, none⟩)
  | 10, q, w' => (q 10) = .pointer (some ⟨g, 0, none⟩)
  | 11, q, w' => (q 11) = .pointer (some ⟨g, 30, none⟩)
  | 12, q, w' => (q 12) = vv
  | 13, q, w' => Vo (Value.int .i64) 3 (w.heap.size + 1) w' (q 13) lv ∧ Ap (q 4) (q 13) ∧ Ap (q 8) (q 13)
  | 14, q, w' => (q 14) = .pointer (some ⟨g, 0, none⟩)
  | 15, q, w' => (q 15) = .pointer (some ⟨g, 0, none⟩)
  | 16, q, w' => (q 16) = .pointer (some ⟨g, 31, none⟩)
  | 17, q, w' => (q 17) = hh
  | 18, q, w' => Vo Value.bool 4 (w.heap.size + 1) w' (q 18) lh
  | 19, q, w' => (q 19) = .agg #[q 4, q 8, q 13, q 18]
  | 20, q, w' => True
  | _, _, _ => True
set_option maxHeartbeats 4000000 in
/-- The state in new memory. -/
theorem state60 (B g : Nat) (pl xs : List Int) (f m : Nat) (lv : List Int) (lh : List Bool) (vv hh : Value) (w : World) (h : Nb B g pl xs f m lv lh vv hh w) (hf : f < 20) (hm : m ≤ 20) (hl : lv.length + lh.length ≤ 1048576) :
    Calls Try.prog 60 #[.pointer (some ⟨g, 0, none⟩)] w (NewS w ⟨pl, rl xs f m, lv, lh⟩) := by
  have HC : Hid (∀ j u, (rc xs f m)[j]? = some u → (nc pl xs f m vv hh).toArray[8 + j]? = some u) := Lib.hid (fun j u hj => by
    rw [List.getElem?_toArray, nc_ring _ _ _ _ _ _ h.hp j (List.getElem?_eq_some_iff.1 hj).1]
    exact hj)
  have H := Lib.hid h
  clear h
  go_enter Try.func60, Try.ntmps60
  go_wp2_with fail
  obtain ⟨w0, hW, hb, k0, hz⟩ := bx1 w #[.slice none 0 0, .slice none 0 0, .slice none 0 0, .slice none 0 0] 25
  rw [hW]; clear hW
  have hS0 : Sn B g pl xs f m lv lh vv hh w w0.drew := ⟨bl_drew hb.out, H.out.below (bl_drew hb.out), _, _, _, _, k0.out⟩
  clear hb k0 hz
  refine wp_flow_last mixed 20 (by kernel_rfl) [[], [0], [1], [2], [3], [], [5], [6], [7, 4], [], [9], [10], [11], [12, 4, 8], [], [14], [15], [16], [17], [4, 8, 13, 18], [19]] (Sn B g pl xs f m lv lh vv hh w) (fun _ w1 w2 => Below w1.heap.size w1 w2) (V60 g pl xs f m lv lh vv hh w) (by kernel_rfl) hS0 ?_ ?_ ?_
  · intro i j q v w1 w2 hij hni hv hT hvi
    match j, hv, hni, hij with
    | 0, hv, hni, hij => rw [V60, upd_ne q i v 0 (Ne.symm hij)]; exact hv
    | 1, hv, hni, hij => rw [V60, upd_ne q i v 1 (Ne.symm hij)]; exact hv
    | 2, hv, hni, hij => rw [V60, upd_ne q i v 2 (Ne.symm hij)]; exact hv
    | 3, hv, hni, hij => rw [V60, upd_ne q i v 3 (Ne.symm hij)]; exact hv
    | 4, hv, hni, hij => rw [V60, upd_ne q i v 4 (Ne.symm hij)]; exact hv.below hT
    | 5, hv, hni, hij => rw [V60, upd_ne q i v 5 (Ne.symm hij)]; exact hv
    | 6, hv, hni, hij => rw [V60, upd_ne q i v 6 (Ne.symm hij)]; exact hv
    | 7, hv, hni, hij => rw [V60, upd_ne q i v 7 (Ne.symm hij)]; exact hv
    | 8, hv, hni, hij => rw [V60, upd_ne q i v 8 (Ne.symm hij), upd_need q i v 4 _ hni (by simp)]; exact ⟨hv.1.below hT, hv.2⟩
    | 9, hv, hni, hij => rw [V60, upd_ne q i v 9 (Ne.symm hij)]; exact hv
    | 10, hv, hni, hij => rw [V60, upd_ne q i v 10 (Ne.symm hij)]; exact hv
    | 11, hv, hni, hij => rw [V60, upd_ne q i v 11 (Ne.symm hij)]; exact hv
    | 12, hv, hni, hij => rw [V60, upd_ne q i v 12 (Ne.symm hij)]; exact hv
    | 13, hv, hni, hij => rw [V60, upd_ne q i v 13 (Ne.symm hij), upd_need q i v 4 _ hni (by simp), upd_need q i v 8 _ hni (by simp)]; exact ⟨hv.1.below hT, hv.2⟩
    | 14, hv, hni, hij => rw [V60, upd_ne q i v 14 (Ne.symm hij)]; exact hv
    | 15, hv, hni, hij => rw [V60, upd_ne q i v 15 (Ne.symm hij)]; exact hv
    | 16, hv, hni, hij => rw [V60, upd_ne q i v 16 (Ne.symm hij)]; exact hv
    | 17, hv, hni, hij => rw [V60, upd_ne q i v 17 (Ne.symm hij)]; exact hv
    | 18, hv, hni, hij => rw [V60, upd_ne q i v 18 (Ne.symm hij)]; exact hv.below hT
    | 19, hv, hni, hij => rw [V60, upd_ne q i v 19 (Ne.symm hij), upd_need q i v 4 _ hni (by simp), upd_need q i v 8 _ hni (by simp), upd_need q i v 13 _ hni (by simp), upd_need q i v 18 _ hni (by simp)]; exact hv
    | 20, hv, hni, hij => rw [V60]; exact hv
    | n + 21, _, _, _ => exact trivial
  · intro i o him hi a w' hS hD hO hs
    match i, hi, him with
    | 0, hi, _ =>
      obtain rfl := Option.some.inj hi
      have d0 : a.tmps.getD 0 undef = .pointer (some ⟨g, 0, none⟩) := hO 0 (by kernel_rfl)
      refine step_val rfl (.pointer (some ⟨g, 0, none⟩)) w' ?_ (by simp) hS (Below.refl _ _) rfl
      simp only [execOp, Act.eval, d0]
      go_simp
    | 1, hi, _ =>
      obtain rfl := Option.some.inj hi
      have d0 : a.tmps.getD 3 undef = .pointer (some ⟨g, 0, none⟩) := hD 0 (by simp)
      refine step_val rfl (.pointer (some ⟨g, 0, none⟩)) w' ?_ (by simp) hS (Below.refl _ _) rfl
      simp only [execOp, Act.eval, d0]
      go_simp
    | 2, hi, _ =>
      obtain rfl := Option.some.inj hi
      have d0 : a.tmps.getD 4 undef = .pointer (some ⟨g, 0, none⟩) := hD 1 (by simp)
      refine step_val rfl (.pointer (some ⟨g, 0, none⟩)) w' ?_ (by simp) hS (Below.refl _ _) rfl
      simp only [execOp, Act.eval, d0]
      go_simp
    | 3, hi, _ =>
      obtain rfl := Option.some.inj hi
      have d0 : a.tmps.getD 5 undef = .pointer (some ⟨g, 0, none⟩) := hD 2 (by simp)
      refine step_val rfl (.slice (some ⟨g, 0, none⟩) 8 8) w' ?_ (by simp) hS (Below.refl _ _) rfl
      simp only [execOp, Act.eval, d0]
      go_simp
    | 4, hi, _ =>
      obtain rfl := Option.some.inj hi
      have d0 : a.tmps.getD 6 undef = .slice (some ⟨g, 0, none⟩) 8 8 := hD 3 (by simp)
      refine step_call rfl 75 #[.slice (some ⟨g, 0, none⟩) 8 8] (by simp only [execOp, Act.eval, d0]; go_simp) (by simp) _ (clone75 _ pl w' hS.nb.rdp (by rw [hS.nb.hp]; decide)) ?_
      rintro e w1 ⟨A, c, rfl, ho, hr, hb⟩
      refine ⟨_, rfl, hS.next hb.out, hb.out, ?_⟩
      have HV := (Vo.of_newO ho.out hr.out).mono hS.sz
      rw [V60, upd_self]
      exact HV
    | 5, hi, _ =>
      obtain rfl := Option.some.inj hi
      have d0 : a.tmps.getD 0 undef = .pointer (some ⟨g, 0, none⟩) := hO 0 (by kernel_rfl)
      refine step_val rfl (.pointer (some ⟨g, 0, none⟩)) w' ?_ (by simp) hS (Below.refl _ _) rfl
      simp only [execOp, Act.eval, d0]
      go_simp
    | 6, hi, _ =>
      obtain rfl := Option.some.inj hi
      have d0 : a.tmps.getD 8 undef = .pointer (some ⟨g, 0, none⟩) := hD 5 (by simp)
      refine step_val rfl (.pointer (some ⟨g, 0, none⟩)) w' ?_ (by simp) hS (Below.refl _ _) rfl
      simp only [execOp, Act.eval, d0]
      go_simp
    | 7, hi, _ =>
      obtain rfl := Option.some.inj hi
      have d0 : a.tmps.getD 9 undef = .pointer (some ⟨g, 0, none⟩) := hD 6 (by simp)
      refine step_val rfl (.pointer (some ⟨g, 8, none⟩)) w' ?_ (by simp) hS (Below.refl _ _) rfl
      simp only [execOp, Act.eval, d0]
      go_simp
    | 8, hi, _ =>
      obtain rfl := Option.some.inj hi
      have d0 : a.tmps.getD 10 undef = .pointer (some ⟨g, 8, none⟩) := hD 7 (by simp)
      have e4 : Vo (Value.int .i64) 3 (w.heap.size + 1) w' (a.tmps.getD 7 undef) pl := hD 4 (by simp)
      refine step_call rfl 77 #[.pointer (some ⟨g, 8, none⟩)] (by simp only [execOp, Act.eval, d0]; go_simp) (by simp) _ (list77 g 8 _ 68 xs f m w' hf hm hS.nb.k (HC.out 20 _ (rc_f xs f m hS.nb.hx)) (HC.out 21 _ (rc_m xs f m hS.nb.hx)) (fun j hj => HC.out j _ (rc_get xs f m hS.nb.hx j hj))) ?_
      rintro e w1 ⟨A, c, rfl, ho, hr, hb⟩
      refine ⟨_, rfl, hS.next hb.out, hb.out, ?_⟩
      have HV := (Vo.of_newO ho.out hr.out).mono hS.sz
      exact ⟨by rw [upd_self]; exact HV, by rw [upd_self, upd_ne _ _ _ 4 (by decide)]; exact fun k hk hk2 => by have := e4.2.1.lt k hk; have := (hr.out k hk2).1; omega⟩
    | 9, hi, _ =>
      obtain rfl := Option.some.inj hi
      have d0 : a.tmps.getD 0 undef = .pointer (some ⟨g, 0, none⟩) := hO 0 (by kernel_rfl)
      refine step_val rfl (.pointer (some ⟨g, 0, none⟩)) w' ?_ (by simp) hS (Below.refl _ _) rfl
      simp only [execOp, Act.eval, d0]
      go_simp
    | 10, hi, _ =>
      obtain rfl := Option.some.inj hi
      have d0 : a.tmps.getD 12 undef = .pointer (some ⟨g, 0, none⟩) := hD 9 (by simp)
      refine step_val rfl (.pointer (some ⟨g, 0, none⟩)) w' ?_ (by simp) hS (Below.refl _ _) rfl
      simp only [execOp, Act.eval, d0]
      go_simp
    | 11, hi, _ =>
      obtain rfl := Option.some.inj hi
      have d0 : a.tmps.getD 13 undef = .pointer (some ⟨g, 0, none⟩) := hD 10 (by simp)
      refine step_val rfl (.pointer (some ⟨g, 30, none⟩)) w' ?_ (by simp) hS (Below.refl _ _) rfl
      simp only [execOp, Act.eval, d0]
      go_simp
    | 12, hi, _ =>
      obtain rfl := Option.some.inj hi
      have d0 : a.tmps.getD 14 undef = .pointer (some ⟨g, 30, none⟩) := hD 11 (by simp)
      have c0 : w'.cell? ⟨g, 30, none⟩ = some vv := (hS.nb.k.cell 30).trans (by rw [List.getElem?_toArray]; exact nc_v _ _ _ _ _ _ hS.nb.hp hS.nb.hx)
      refine step_val rfl (vv) w' ?_ (by simp) hS (Below.refl _ _) rfl
      simp only [execOp, Act.eval, d0]
      go_simp
    | 13, hi, _ =>
      obtain rfl := Option.some.inj hi
      have d0 : a.tmps.getD 15 undef = vv := hD 12 (by simp)
      have e4 : Vo (Value.int .i64) 3 (w.heap.size + 1) w' (a.tmps.getD 7 undef) pl := hD 4 (by simp)
      have e8 : Vo (Value.int .i64) 3 (w.heap.size + 1) w' (a.tmps.getD 11 undef) (rl xs f m) ∧ _ := hD 8 (by simp)
      refine step_call rfl 75 #[vv] (by simp only [execOp, Act.eval, d0]; go_simp) (by simp) _ (clone75 _ lv w' hS.nb.v.2.1.rd (by omega)) ?_
      rintro e w1 ⟨A, c, rfl, ho, hr, hb⟩
      refine ⟨_, rfl, hS.next hb.out, hb.out, ?_⟩
      have HV := (Vo.of_newO ho.out hr.out).mono hS.sz
      exact ⟨by rw [upd_self]; exact HV, by rw [upd_self, upd_ne _ _ _ 4 (by decide)]; exact fun k hk hk2 => by have := e4.2.1.lt k hk; have := (hr.out k hk2).1; omega, by rw [upd_self, upd_ne _ _ _ 8 (by decide)]; exact fun k hk hk2 => by have := e8.1.2.1.lt k hk; have := (hr.out k hk2).1; omega⟩
    | 14, hi, _ =>
      obtain rfl := Option.some.inj hi
      have d0 : a.tmps.getD 0 undef = .pointer (some ⟨g, 0, none⟩) := hO 0 (by kernel_rfl)
      refine step_val rfl (.pointer (some ⟨g, 0, none⟩)) w' ?_ (by simp) hS (Below.refl _ _) rfl
      simp only [execOp, Act.eval, d0]
      go_simp
    | 15, hi, _ =>
      obtain rfl := Option.some.inj hi
      have d0 : a.tmps.getD 17 undef = .pointer (some ⟨g, 0, none⟩) := hD 14 (by simp)
      refine step_val rfl (.pointer (some ⟨g, 0, none⟩)) w' ?_ (by simp) hS (Below.refl _ _) rfl
      simp only [execOp, Act.eval, d0]
      go_simp
    | 16, hi, _ =>
      obtain rfl := Option.some.inj hi
      have d0 : a.tmps.getD 18 undef = .pointer (some ⟨g, 0, none⟩) := hD 15 (by simp)
      refine step_val rfl (.pointer (some ⟨g, 31, none⟩)) w' ?_ (by simp) hS (Below.refl _ _) rfl
      simp only [execOp, Act.eval, d0]
      go_simp
    | 17, hi, _ =>
      obtain rfl := Option.some.inj hi
      have d0 : a.tmps.getD 19 undef = .pointer (some ⟨g, 31, none⟩) := hD 16 (by simp)
      have c0 : w'.cell? ⟨g, 31, none⟩ = some hh := (hS.nb.k.cell 31).trans (by rw [List.getElem?_toArray]; exact nc_h _ _ _ _ _ _ hS.nb.hp hS.nb.hx)
      refine step_val rfl (hh) w' ?_ (by simp) hS (Below.refl _ _) rfl
      simp only [execOp, Act.eval, d0]
      go_simp
    | 18, hi, _ =>
      obtain rfl := Option.some.inj hi
      have d0 : a.tmps.getD 20 undef = hh := hD 17 (by simp)
      refine step_call rfl 76 #[hh] (by simp only [execOp, Act.eval, d0]; go_simp) (by simp) _ (clone76 _ lh w' hS.nb.h.2.1.rd (by omega)) ?_
      rintro e w1 ⟨A, c, rfl, ho, hr, hb⟩
      refine ⟨_, rfl, hS.next hb.out, hb.out, ?_⟩
      have HV := (Vo.of_newO ho.out hr.out).mono hS.sz
      rw [V60, upd_self]
      exact HV
    | 19, hi, _ =>
      obtain rfl := Option.some.inj hi
      have h4 : ∃ A c, a.tmps.getD 7 undef = .slice A pl.length c := (hD 4 (by simp) : Vo (Value.int .i64) 3 (w.heap.size + 1) w' (a.tmps.getD 7 undef) pl).1
      obtain ⟨A4, c4, h4⟩ := h4
      have h8 : ∃ A c, a.tmps.getD 11 undef = .slice A (rl xs f m).length c := (hD 8 (by simp) : Vo (Value.int .i64) 3 (w.heap.size + 1) w' (a.tmps.getD 11 undef) (rl xs f m) ∧ _).1.1
      obtain ⟨A8, c8, h8⟩ := h8
      have h13 : ∃ A c, a.tmps.getD 16 undef = .slice A lv.length c := (hD 13 (by simp) : Vo (Value.int .i64) 3 (w.heap.size + 1) w' (a.tmps.getD 16 undef) lv ∧ _).1.1
      obtain ⟨A13, c13, h13⟩ := h13
      have h18 : ∃ A c, a.tmps.getD 21 undef = .slice A lh.length c := (hD 18 (by simp) : Vo Value.bool 4 (w.heap.size + 1) w' (a.tmps.getD 21 undef) lh).1
      obtain ⟨A18, c18, h18⟩ := h18
      have g4 : a.tmps[7]?.getD undef = _ := (Array.getD_eq_getD_getElem? ..).symm.trans h4
      have g8 : a.tmps[11]?.getD undef = _ := (Array.getD_eq_getD_getElem? ..).symm.trans h8
      have g13 : a.tmps[16]?.getD undef = _ := (Array.getD_eq_getD_getElem? ..).symm.trans h13
      have g18 : a.tmps[21]?.getD undef = _ := (Array.getD_eq_getD_getElem? ..).symm.trans h18
      refine step_val rfl (.agg #[.slice A4 pl.length c4, .slice A8 (rl xs f m).length c8, .slice A13 lv.length c13, .slice A18 lh.length c18]) w' ?_ (by simp) hS (Below.refl _ _) (by show _ = Value.agg #[a.tmps.getD 7 undef, a.tmps.getD 11 undef, a.tmps.getD 16 undef, a.tmps.getD 21 undef]; rw [h4, h8, h13, h18]; rfl)
      clear h4 h8 h13 h18 hD hO hs
      simp only [execOp]
      go_simp
    | n + 20, hi, h => exact absurd h (by omega)
  · intro a w' o hi hS hD hO hs hd
    obtain rfl := Option.some.inj hi
    have e3 : Vo (Value.int .i64) 3 (w.heap.size + 1) w' (a.tmps.getD 7 undef) pl := hD 4 (by omega)
    have e7 : Vo (Value.int .i64) 3 (w.heap.size + 1) w' (a.tmps.getD 11 undef) (rl xs f m) ∧ Ap (a.tmps.getD 7 undef) (a.tmps.getD 11 undef) := hD 8 (by omega)
    have e11 : Vo (Value.int .i64) 3 (w.heap.size + 1) w' (a.tmps.getD 16 undef) lv ∧ Ap (a.tmps.getD 7 undef) (a.tmps.getD 16 undef) ∧ Ap (a.tmps.getD 11 undef) (a.tmps.getD 16 undef) := hD 13 (by omega)
    have e15 : Vo Value.bool 4 (w.heap.size + 1) w' (a.tmps.getD 21 undef) lh := hD 18 (by omega)
    have d16 : a.tmps.getD 22 undef = .agg #[a.tmps.getD 7 undef, a.tmps.getD 11 undef, a.tmps.getD 16 undef, a.tmps.getD 21 undef] := hD 19 (by omega)
    have d2 : a.tmps.getD 2 undef = .pointer (some ⟨w.heap.size, 0, none⟩) := hO 2 (by kernel_rfl)
    obtain ⟨⟨A3, c3, h3⟩, o3, b3⟩ := e3
    obtain ⟨⟨⟨A7, c7, h7⟩, o7, b7⟩, p7⟩ := e7
    obtain ⟨⟨⟨A11, c11, h11⟩, o11, b11⟩, p11, q11⟩ := e11
    obtain ⟨⟨A15, c15, h15⟩, o15, b15⟩ := e15
    rw [h3, h7, h11, h15] at d16
    rw [h3] at o3 b3 p7 p11
    rw [h7] at o7 b7 p7 q11
    rw [h11] at o11 b11 p11 q11
    rw [h15] at o15 b15
    obtain ⟨a0, a1, a2, a3, k1⟩ := hS.k1
    have g0 := k1.cell 0; have g1 := k1.cell 1; have g2 := k1.cell 2; have g3 := k1.cell 3; have gf := k1.frozen
    simp at g0 g1 g2 g3
    refine ⟨rfl, wpo_skip _ (by simp only [execOp, Act.eval, d16, d2]; go_simp; rfl) rfl ?_⟩
    have K1 := Lib.hid (bk_four k1 (.slice A3 pl.length c3) (.slice A7 (rl xs f m).length c7) (.slice A11 lv.length c11) (.slice A15 lh.length c15))
    have F1 := Lib.hid (fr_four w' w.heap.size (.slice A3 pl.length c3) (.slice A7 (rl xs f m).length c7) (.slice A11 lv.length c11) (.slice A15 lh.length c15))
    generalize ((((w'.setCell ⟨w.heap.size, 0, none⟩ (.slice A3 pl.length c3)).setCell ⟨w.heap.size, 1, none⟩ (.slice A7 (rl xs f m).length c7)).setCell ⟨w.heap.size, 2, none⟩ (.slice A11 lv.length c11)).setCell ⟨w.heap.size, 3, none⟩ (.slice A15 lh.length c15)) = wf at K1 F1 ⊢
    have HO : Hid (OwS (w.heap.size + 1) w'.heap.size w' ⟨.slice A3 pl.length c3, .slice A7 (rl xs f m).length c7, .slice A11 lv.length c11, .slice A15 lh.length c15⟩ ⟨pl, rl xs f m, lv, lh⟩) :=
      ⟨o3, o7, o11, o15, fun k hk => ⟨b3 k hk, o3.lt k hk⟩, fun k hk => ⟨b7 k hk, o7.lt k hk⟩, fun k hk => ⟨b11 k hk, o11.lt k hk⟩, fun k hk => ⟨b15 k hk, o15.lt k hk⟩, p7, p11, q11⟩
    have HB := Lib.hid hS.bl
    have e0 := K1.out.cell 0; have e1 := K1.out.cell 1; have e2 := K1.out.cell 2; have e3 := K1.out.cell 3
    simp at e0 e1 e2 e3
    obtain ⟨tm, df⟩ := a
    obtain ⟨x0, x1, x2, x3, x4, x5, x6, x7, x8, x9, x10, x11, x12, x13, x14, x15, x16, x17, x18, x19, x20, x21, x22, rfl⟩ := lit23 tm hs
    obtain rfl : x2 = .pointer (some ⟨w.heap.size, 0, none⟩) := d2
    clear d16 h3 h7 h11 h15 o3 o7 o11 o15 b3 b7 b11 b15 p7 p11 q11 hS hD hO hs g0 g1 g2 g3 gf k1
    go_wp2
    refine bodyPost_ret (v := .agg #[.slice A3 pl.length c3, .slice A7 (rl xs f m).length c7, .slice A11 lv.length c11, .slice A15 lh.length c15]) (by simp [results, Try.results60, go_sem, e0, e1, e2, e3]) rfl ?_
    exact NewS.fin HO.out HB.out (by omega) (F1.out.mono (fun k hk => by omega))
end Go.Proofs.Ytiemacjmipiakaa.Nm
