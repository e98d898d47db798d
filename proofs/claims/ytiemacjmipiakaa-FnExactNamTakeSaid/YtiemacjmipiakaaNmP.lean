/- The ring of free places, at work. -/
import Derived.Test.YtiemacjmipiakaaNmI
namespace Go.Proofs.Ytiemacjmipiakaa.Nm
open Go.RowKit Go.Proofs.Ytiemacjmipiakaa.Hw
set_option linter.unusedVariables false
set_option linter.unusedSimpArgs false
/-- A ring's cells. -/
def rc (xs : List Int) (f m : Int) : List Value := xs.map (Value.int .i64) ++ [.int .i64 f, .int .i64 m]
set_option maxHeartbeats 4000000 in
/-- push, where there is room. -/
theorem push59 (g off : Nat) (cs : Array Value) (t : TypeId) (f m : Nat) (p : Int) (w : World) (hf : f < 20) (hm : m < 20)
    (hb : Bk w g cs t) (hs : off + 22 ≤ cs.size) (h1 : cs[off + 20]? = some (.int .i64 f)) (h2 : cs[off + 21]? = some (.int .i64 m)) :
    Calls Try.prog 59 #[.pointer (some ⟨g, off, none⟩), .int .i64 p] w fun e w' => e = .returned (.tuple #[]) ∧
      Hid (Bk w' g ((cs.setIfInBounds (off + (f + m) % 20) (.int .i64 p)).setIfInBounds (off + 21) (.int .i64 ((m : Int) + 1))) t) ∧ Hid (Fr (fun k => k = g) w w') := by
  have c20 : w.cell? ⟨g, off + 20, none⟩ = some (.int .i64 f) := (hb.cell _).trans h1
  have c21 : w.cell? ⟨g, off + 21, none⟩ = some (.int .i64 m) := (hb.cell _).trans h2
  obtain ⟨u, hu⟩ : ∃ u, w.cell? ⟨g, off + (f + m) % 20, none⟩ = some u := ⟨_, (hb.cell _).trans (Array.getElem?_eq_getElem (by omega))⟩
  have f1 := hb.frozen (off + (f + m) % 20)
  have f2 := hb.frozen (off + 21)
  have K := Lib.hid (((hb.set (off + (f + m) % 20) (.int .i64 p)).set (off + 21) (.int .i64 ((m : Int) + 1))))
  have F := Lib.hid ((Fr.set (S := fun k => k = g) (w := w) (p := ⟨g, off + (f + m) % 20, none⟩) rfl (.int .i64 p)).trans (Fr.set (S := fun k => k = g) (p := ⟨g, off + 21, none⟩) rfl (.int .i64 ((m : Int) + 1))))
  clear hb h1 h2 hs
  go_enter Try.func59, Try.ntmps59
  go_wp2
  go_region
  all_goals go_wp2
  all_goals go_end0
  all_goals exact ⟨rfl, Bk.drewN K.out 1, F.out.trans (Fr.of_below (bl_drewN (bl_refl _) 1))⟩
/-- push, where there is none. -/
theorem push59full (g off : Nat) (cs : Array Value) (t : TypeId) (p : Int) (w : World) (hb : Bk w g cs t) (h2 : cs[off + 21]? = some (.int .i64 20)) :
    Calls Try.prog 59 #[.pointer (some ⟨g, off, none⟩), .int .i64 p] w fun e w' => e = .returned (.tuple #[]) ∧ w = w' := by
  have c21 : w.cell? ⟨g, off + 21, none⟩ = some (.int .i64 20) := (hb.cell _).trans h2
  clear hb h2
  go_enter Try.func59, Try.ntmps59
  go_wp2
  refine bodyPost_ret (results_none rfl _ _ _) rfl ?_
  exact ⟨rfl, rfl⟩
set_option maxHeartbeats 4000000 in
/-- pop, where there is one. -/
theorem pop78 (g off : Nat) (cs : Array Value) (t : TypeId) (f m : Nat) (x : Int) (w : World) (hf : f < 20) (hm : 0 < m) (hm2 : m ≤ 20)
    (hb : Bk w g cs t) (h1 : cs[off + 20]? = some (.int .i64 f)) (h2 : cs[off + 21]? = some (.int .i64 m)) (hx : cs[off + f]? = some (.int .i64 x)) :
    Calls Try.prog 78 #[.pointer (some ⟨g, off, none⟩)] w fun e w' => e = .returned (.tuple #[.int .i64 x, .bool true]) ∧
      Hid (Bk w' g ((cs.setIfInBounds (off + 20) (.int .i64 (((f : Int) + 1) % 20))).setIfInBounds (off + 21) (.int .i64 ((m : Int) - 1))) t) ∧ Hid (Fr (fun k => k = g) w w') := by
  have c20 : w.cell? ⟨g, off + 20, none⟩ = some (.int .i64 f) := (hb.cell _).trans h1
  have c21 : w.cell? ⟨g, off + 21, none⟩ = some (.int .i64 m) := (hb.cell _).trans h2
  have cx : w.cell? ⟨g, off + f, none⟩ = some (.int .i64 x) := (hb.cell _).trans hx
  have f1 := hb.frozen (off + 20)
  have f2 := hb.frozen (off + 21)
  have K := Lib.hid (((hb.set (off + 20) (.int .i64 (((f : Int) + 1) % 20))).set (off + 21) (.int .i64 ((m : Int) - 1))))
  have F := Lib.hid ((Fr.set (S := fun k => k = g) (w := w) (p := ⟨g, off + 20, none⟩) rfl (.int .i64 (((f : Int) + 1) % 20))).trans (Fr.set (S := fun k => k = g) (p := ⟨g, off + 21, none⟩) rfl (.int .i64 ((m : Int) - 1))))
  clear hb h1 h2 hx
  go_enter Try.func78, Try.ntmps78
  go_wp2
  go_quiet (fail)
  go_wp2
  go_ret2
  exact ⟨rfl, Bk.drewN K.out _, F.out.trans (Fr.of_below (bl_drewN (bl_refl _) _))⟩
/-- pop, where there is none. -/
theorem pop78no (g off : Nat) (cs : Array Value) (t : TypeId) (w : World) (hb : Bk w g cs t) (h2 : cs[off + 21]? = some (.int .i64 0)) :
    Calls Try.prog 78 #[.pointer (some ⟨g, off, none⟩)] w fun e w' => e = .returned (.tuple #[.int .i64 0, .bool false]) ∧ w = w' := by
  have c21 : w.cell? ⟨g, off + 21, none⟩ = some (.int .i64 0) := (hb.cell _).trans h2
  clear hb h2
  go_enter Try.func78, Try.ntmps78
  go_wp2
  go_ret2
  exact ⟨rfl, rfl⟩
/-- What a ring holds, in order. -/
def rl (xs : List Int) (f m : Nat) : List Int := (List.range m).map (fun i => xs.getD ((f + i) % 20) 0)
theorem rl_len (xs : List Int) (f m : Nat) : (rl xs f m).length = m := by simp [rl]
theorem rl_succ (xs : List Int) (f k : Nat) : rl xs f (k + 1) = rl xs f k ++ [xs.getD ((f + k) % 20) 0] := by simp [rl, List.range_succ]
structure Sl (g : Nat) (cs : Array Value) (t : TypeId) (w wr w' : World) : Prop where
  bl : Below w.heap.size w w'
  k : Bk w' g cs t
  sz : wr.heap.size ≤ w'.heap.size
theorem Sl.next {g : Nat} {cs : Array Value} {t : TypeId} {w wr w1 w2 : World} (h : Sl g cs t w wr w1) (hb : Below w1.heap.size w1 w2) : Sl g cs t w wr w2 := ⟨bl_step h.bl hb, h.k.below hb, Nat.le_trans h.sz hb.size⟩
def V77 (g off : Nat) (v : Value) (l : List Int) (x : Int) (f k : Nat) (n0 : Nat) : Nat → (Nat → Value) → World → Prop
  | 0, q, w' => q 0 = v
  | 1, q, w' => q 1 = .pointer (some ⟨g, off, none⟩)
  | 2, q, w' => q 2 = .pointer (some ⟨g, off, none⟩)
  | 3, q, w' => q 3 = .pointer (some ⟨g, off, none⟩)
  | 4, q, w' => q 4 = .pointer (some ⟨g, off + 20, none⟩)
  | 5, q, w' => q 5 = .int .i64 f
  | 6, q, w' => q 6 = .int .i64 k
  | 7, q, w' => q 7 = .int .i64 ((f : Int) + k)
  | 8, q, w' => q 8 = .int .i64 (((f : Int) + k) % 20)
  | 9, q, w' => q 9 = .pointer (some ⟨g, off, none⟩)
  | 10, q, w' => q 10 = .pointer (some ⟨g, off, none⟩)
  | 11, q, w' => q 11 = .pointer (some ⟨g, off + (f + k) % 20, none⟩)
  | 12, q, w' => q 12 = .int .i64 x
  | 13, q, w' => ∃ b, n0 ≤ b ∧ q 13 = .slice (some ⟨b, 0, none⟩) 1 1 ∧ Bk w' b #[.int .i64 x] 3
  | 14, q, w' => ∃ A c, q 14 = .slice A (l.length + 1) c ∧ Ow (Value.int .i64) 3 w' (.slice A (l.length + 1) c) (l ++ [x]) ∧ (obk (.slice A (l.length + 1) c) = obk v ∨ ∃ b, obk (.slice A (l.length + 1) c) = some b ∧ n0 ≤ b)
  | 15, q, w' => ∃ A c, q 15 = .slice A (l.length + 1) c ∧ Ow (Value.int .i64) 3 w' (.slice A (l.length + 1) c) (l ++ [x]) ∧ (obk (.slice A (l.length + 1) c) = obk v ∨ ∃ b, obk (.slice A (l.length + 1) c) = some b ∧ n0 ≤ b)
  | _, _, _ => True
theorem rd_blk {w : World} {b : Nat} {x : Int} (h : Bk w b #[.int .i64 x] 3) : Rd (Value.int .i64) w (.slice (some ⟨b, 0, none⟩) 1 1) [x] := by
  refine ⟨_, 1, rfl, Nat.le_refl _, by simp, fun _ => ⟨_, rfl, fun j y hj => ?_⟩⟩
  have hj0 : j = 0 := by
    rcases Nat.eq_zero_or_pos j with h | h
    · exact h
    · rw [List.getElem?_eq_none (by simp; omega)] at hj; cases hj
  subst hj0
  obtain rfl : x = y := by simpa using hj
  rw [add0]
  simp [h.cell 0]
theorem make_cap {P : Program} (t e : TypeId) (z : Value) (bytes : Nat) (ht : P.underlying t = some (.slice e)) (hinfo : (P.info? e).map (fun i => (i.zero, i.size, i.bytes)) = some (some z, 1, bytes)) (hz1 : z.cells = #[z]) (m : Nat) (hn : bytes * m ≤ 281474976710656) (hm : m ≤ 9223372036854775807) :
    ∀ W : World, (Instr.makeSlice t (.int .i64 0) (.int .i64 (m : Int))).run P W = .ok (.slice (some ⟨W.heap.size, 0, none⟩) 0 m) (W.alloc (.cells (madeCells #[z] m) e)) := by
  intro W
  obtain ⟨i, hi, hzz⟩ := Option.map_eq_some_iff.1 hinfo
  simp only [Prod.mk.injEq] at hzz
  obtain ⟨hz, hs, hb⟩ := hzz
  have hb' : (i.bytes : Int) * (m : Int) ≤ 281474976710656 := by
    have h : ((i.bytes * m : Nat) : Int) ≤ 281474976710656 := by rw [hb]; omega
    rwa [Int.natCast_mul] at h
  have hr := run_make (P := P) W t e i z ht hi hz .i64 .i64 0 m (by omega) (by omega) hb' (by omega)
  simp only [Int.toNat_natCast, hs, Nat.mul_one, hz1] at hr
  exact hr
theorem ow_cap {α : Type} (enc : α → Value) (d : α) (W : World) (e : TypeId) (m : Nat) (hm : m ≤ 9223372036854775807) : Ow enc e (W.alloc (.cells (madeCells #[enc d] m) e)) (.slice (some ⟨W.heap.size, 0, none⟩) 0 m) [] :=
  ⟨by simp, .inr ⟨W.heap.size, m, _, rfl, Nat.zero_le _, heap_alloc_new W _, Nat.zero_le _, by simpa [maxLen] using hm, by simp [size_madeCells], by simp⟩⟩
set_option maxHeartbeats 4000000 in
theorem list77 (g off : Nat) (cs : Array Value) (t : TypeId) (xs : List Int) (f m : Nat) (w : World) (hf : f < 20) (hm : m ≤ 20)
    (hb : Bk w g cs t) (h1 : cs[off + 20]? = some (.int .i64 f)) (h2 : cs[off + 21]? = some (.int .i64 m)) (hx : ∀ j, j < 20 → cs[off + j]? = some (.int .i64 (xs.getD j 0))) :
    Calls Try.prog 77 #[.pointer (some ⟨g, off, none⟩)] w (NewO (Value.int .i64) 3 w (rl xs f m)) := by
  have hgl := Lib.hid hb.lt
  have c20 : w.cell? ⟨g, off + 20, none⟩ = some (.int .i64 f) := (hb.cell _).trans h1
  have c21 : w.cell? ⟨g, off + 21, none⟩ = some (.int .i64 m) := (hb.cell _).trans h2
  have K := Lib.hid hb
  have H1 := Lib.hid h1
  have H2 := Lib.hid h2
  have HX := Lib.hid hx
  have hg2 := hgl.out
  have hmk := make_cap (P := Try.prog) 22 3 (.int .i64 0) 8 Try.underlying22 info3 rfl m (by omega) (by omega)
  clear hb h1 h2 hx
  go_enter Try.func77, Try.ntmps77
  go_wp2
  clear hmk
  have HO := Lib.hid (ow_cap (Value.int .i64) 0 w 3 m (by omega))
  have HB := Lib.hid (bl_alloc (bl_refl w) (.cells (madeCells #[.int .i64 0] m) 3))
  replace K := Lib.hid (K.out.below HB.out)
  have hsz : Hid ((w.alloc (.cells (madeCells #[.int .i64 0] m) 3)).heap.size = w.heap.size + 1) := Lib.hid (by simp)
  generalize w.alloc (.cells (madeCells #[.int .i64 0] m) 3) = w1 at HO HB K hsz ⊢
  clear c20 c21
  go_loopw [3, 14] (fun v i wr => ∃ (k : Nat) (A : Option Addr) (c : Nat), k ≤ m ∧ i = .int .i64 k ∧ v = .slice A k c ∧ Hid (Ow (Value.int .i64) 3 wr (.slice A k c) (rl xs f k)) ∧ Hid (Rg w.heap.size wr.heap.size (.slice A k c)) ∧ Hid (Bk wr g cs t) ∧ Hid (Below w.heap.size w wr)) (fun _ i _ => m - (intOf i).toNat)
  case atStart => exact ⟨0, _, _, Nat.zero_le _, rfl, rfl, HO, Lib.hid (fun q hq => by have := HO.out.lt q hq; have := (obk_eq hq).1; simp at this; omega), K, HB⟩
  case round =>
    clear HO HB K hsz
    obtain ⟨k, A, c, hk, rfl, rfl, HO, HR, K, HB⟩ := hrel
    by_cases hlt : k < m
    · go_wp2
      obtain ⟨wo, hwo⟩ : ∃ wo : World, wo = wr := ⟨_, rfl⟩
      have hS0 : Sl g cs t w wr wr.drew := ⟨bl_drew HB.out, K.out, Nat.le_refl _⟩
      refine wp_flow mixed [[], [], [], [2], [3], [4], [], [5, 6], [7], [1], [9], [8, 10], [11], [12], [0, 13], [14]] (fun w' => Sl g cs t w wr w' ∧ Ow (Value.int .i64) 3 w' (.slice A k c) (rl xs f k)) (fun i w1 w2 => if i = 14 then Fr (fun q => obk (.slice A k c) = some q) w1 w2 else Below w1.heap.size w1 w2) (V77 g off (.slice A k c) (rl xs f k) (xs.getD ((f + k) % 20) 0) f k wr.heap.size) (by kernel_rfl) ⟨hS0, HO.out.drewN 1⟩ ?_ ?_ ?_
      · intro i j q v w1 w2 hij hni hv hT hvi
        match j, hv, hni, hij with
        | 0, hv, hni, hij => rw [V77, upd_ne q i v 0 (Ne.symm hij)]; exact hv
        | 1, hv, hni, hij => rw [V77, upd_ne q i v 1 (Ne.symm hij)]; exact hv
        | 2, hv, hni, hij => rw [V77, upd_ne q i v 2 (Ne.symm hij)]; exact hv
        | 3, hv, hni, hij => rw [V77, upd_ne q i v 3 (Ne.symm hij)]; exact hv
        | 4, hv, hni, hij => rw [V77, upd_ne q i v 4 (Ne.symm hij)]; exact hv
        | 5, hv, hni, hij => rw [V77, upd_ne q i v 5 (Ne.symm hij)]; exact hv
        | 6, hv, hni, hij => rw [V77, upd_ne q i v 6 (Ne.symm hij)]; exact hv
        | 7, hv, hni, hij => rw [V77, upd_ne q i v 7 (Ne.symm hij)]; exact hv
        | 8, hv, hni, hij => rw [V77, upd_ne q i v 8 (Ne.symm hij)]; exact hv
        | 9, hv, hni, hij => rw [V77, upd_ne q i v 9 (Ne.symm hij)]; exact hv
        | 10, hv, hni, hij => rw [V77, upd_ne q i v 10 (Ne.symm hij)]; exact hv
        | 11, hv, hni, hij => rw [V77, upd_ne q i v 11 (Ne.symm hij)]; exact hv
        | 12, hv, hni, hij => rw [V77, upd_ne q i v 12 (Ne.symm hij)]; exact hv
        | 13, hv, hni, hij =>
          rw [V77, upd_ne q i v 13 (Ne.symm hij)]
          obtain ⟨b, hb, e, hbk⟩ := hv
          refine ⟨b, hb, e, ?_⟩
          by_cases h14 : i = 14
          · rw [if_pos h14] at hT
            exact hbk.fr hT (fun h => by have := (HR.out b h).2; omega)
          · rw [if_neg h14] at hT
            exact hbk.below hT
        | 14, hv, hni, hij =>
          rw [V77, upd_ne q i v 14 (Ne.symm hij)]
          rw [if_neg (fun h => hij h)] at hT
          obtain ⟨A', c', e, ho, h⟩ := hv
          exact ⟨A', c', e, ho.below hT, h⟩
        | 15, hv, hni, hij =>
          rw [V77, upd_ne q i v 15 (Ne.symm hij)]
          rw [if_neg (fun h => hni (by subst h; simp))] at hT
          obtain ⟨A', c', e, ho, h⟩ := hv
          exact ⟨A', c', e, ho.below hT, h⟩
        | n + 16, _, _, _ => exact trivial
      · intro i o hi a w' hSS hD hO hs
        obtain ⟨hS, hOw⟩ := hSS
        match i, hi with
        | 0, hi =>
          obtain rfl := Option.some.inj hi
          have d1 : a.tmps.getD 3 undef = .slice A k c := hO 3 (by kernel_rfl)
          refine step_val rfl (.slice A k c) w' ?_ (by simp) ⟨hS, hOw⟩ (Below.refl _ _) rfl
          simp only [execOp, Act.eval, d1]
          go_simp
        | 1, hi =>
          obtain rfl := Option.some.inj hi
          have d1 : a.tmps.getD 0 undef = .pointer (some ⟨g, off, none⟩) := hO 0 (by kernel_rfl)
          refine step_val rfl (.pointer (some ⟨g, off, none⟩)) w' ?_ (by simp) ⟨hS, hOw⟩ (Below.refl _ _) rfl
          simp only [execOp, Act.eval, d1]
          go_simp
        | 2, hi =>
          obtain rfl := Option.some.inj hi
          have d1 : a.tmps.getD 0 undef = .pointer (some ⟨g, off, none⟩) := hO 0 (by kernel_rfl)
          refine step_val rfl (.pointer (some ⟨g, off, none⟩)) w' ?_ (by simp) ⟨hS, hOw⟩ (Below.refl _ _) rfl
          simp only [execOp, Act.eval, d1]
          go_simp
        | 3, hi =>
          obtain rfl := Option.some.inj hi
          have d1 : a.tmps.getD 19 undef = .pointer (some ⟨g, off, none⟩) := hD 2 (by simp)
          refine step_val rfl (.pointer (some ⟨g, off, none⟩)) w' ?_ (by simp) ⟨hS, hOw⟩ (Below.refl _ _) rfl
          simp only [execOp, Act.eval, d1]
          go_simp
        | 4, hi =>
          obtain rfl := Option.some.inj hi
          have d1 : a.tmps.getD 20 undef = .pointer (some ⟨g, off, none⟩) := hD 3 (by simp)
          refine step_val rfl (.pointer (some ⟨g, off + 20, none⟩)) w' ?_ (by simp) ⟨hS, hOw⟩ (Below.refl _ _) rfl
          simp only [execOp, Act.eval, d1]
          go_simp
        | 5, hi =>
          obtain rfl := Option.some.inj hi
          have d1 : a.tmps.getD 21 undef = .pointer (some ⟨g, off + 20, none⟩) := hD 4 (by simp)
          have c0 := (hS.k.cell (off + 20)).trans H1.out
          refine step_val rfl (.int .i64 f) w' ?_ (by simp) ⟨hS, hOw⟩ (Below.refl _ _) rfl
          simp only [execOp, Act.eval, d1]
          go_simp
        | 6, hi =>
          obtain rfl := Option.some.inj hi
          have d1 : a.tmps.getD 4 undef = .int .i64 k := hO 4 (by kernel_rfl)
          refine step_val rfl (.int .i64 k) w' ?_ (by simp) ⟨hS, hOw⟩ (Below.refl _ _) rfl
          simp only [execOp, Act.eval, d1]
          go_simp
        | 7, hi =>
          obtain rfl := Option.some.inj hi
          have d1 : a.tmps.getD 22 undef = .int .i64 f := hD 5 (by simp)
          have d2 : a.tmps.getD 23 undef = .int .i64 k := hD 6 (by simp)
          refine step_val rfl (.int .i64 ((f : Int) + k)) w' ?_ (by simp) ⟨hS, hOw⟩ (Below.refl _ _) rfl
          have hw : IntKind.i64.wrap ((f : Int) + k) = f + k := IntWalk.i64_in _ (by omega)
          simp only [execOp, Act.eval, d1, d2]
          go_simp
        | 8, hi =>
          obtain rfl := Option.some.inj hi
          have d1 : a.tmps.getD 24 undef = .int .i64 ((f : Int) + k) := hD 7 (by simp)
          refine step_val rfl (.int .i64 (((f : Int) + k) % 20)) w' ?_ (by simp) ⟨hS, hOw⟩ (Below.refl _ _) rfl
          have ht : ((f : Int) + k).tmod 20 = ((f : Int) + k) % 20 := Int.tmod_eq_emod_of_nonneg (by omega)
          simp only [execOp, Act.eval, d1]
          go_simp
        | 9, hi =>
          obtain rfl := Option.some.inj hi
          have d1 : a.tmps.getD 18 undef = .pointer (some ⟨g, off, none⟩) := hD 1 (by simp)
          refine step_val rfl (.pointer (some ⟨g, off, none⟩)) w' ?_ (by simp) ⟨hS, hOw⟩ (Below.refl _ _) rfl
          simp only [execOp, Act.eval, d1]
          go_simp
        | 10, hi =>
          obtain rfl := Option.some.inj hi
          have d1 : a.tmps.getD 26 undef = .pointer (some ⟨g, off, none⟩) := hD 9 (by simp)
          refine step_val rfl (.pointer (some ⟨g, off, none⟩)) w' ?_ (by simp) ⟨hS, hOw⟩ (Below.refl _ _) rfl
          simp only [execOp, Act.eval, d1]
          go_simp
        | 11, hi =>
          obtain rfl := Option.some.inj hi
          have d1 : a.tmps.getD 25 undef = .int .i64 (((f : Int) + k) % 20) := hD 8 (by simp)
          have d2 : a.tmps.getD 27 undef = .pointer (some ⟨g, off, none⟩) := hD 10 (by simp)
          have b1 : 0 ≤ ((f : Int) + k) % 20 := by omega
          have b2 : ((f : Int) + k) % 20 < 20 := by omega
          have b3 : (((f : Int) + k) % 20).toNat = (f + k) % 20 := by omega
          refine step_val rfl (.pointer (some ⟨g, off + (f + k) % 20, none⟩)) w' ?_ (by simp) ⟨hS, hOw⟩ (Below.refl _ _) rfl
          simp only [execOp, Act.eval, d1, d2]
          go_simp
        | 12, hi =>
          obtain rfl := Option.some.inj hi
          have d1 : a.tmps.getD 28 undef = .pointer (some ⟨g, off + (f + k) % 20, none⟩) := hD 11 (by simp)
          have c0 := (hS.k.cell (off + (f + k) % 20)).trans (HX.out _ (Nat.mod_lt _ (by omega)))
          refine step_val rfl (.int .i64 (xs.getD ((f + k) % 20) 0)) w' ?_ (by simp) ⟨hS, hOw⟩ (Below.refl _ _) rfl
          simp only [execOp, Act.eval, d1]
          go_simp
        | 13, hi =>
          obtain rfl := Option.some.inj hi
          have d1 : a.tmps.getD 29 undef = .int .i64 (xs.getD ((f + k) % 20) 0) := hD 12 (by simp)
          generalize xs.getD ((f + k) % 20) 0 = x at d1 ⊢
          refine step_val rfl (.slice (some ⟨w'.heap.size, 0, none⟩) 1 1) (w'.alloc (.cells #[.int .i64 x] 3)) ?_ (by simp) ⟨hS.next (bl_alloc (bl_refl _) _), hOw.below (bl_alloc (bl_refl _) _)⟩ (bl_alloc (bl_refl _) _) ⟨_, hS.sz, rfl, Bk.new _ _ _⟩
          simp only [Array.getD_eq_getD_getElem?] at d1
          clear hD hO hs
          simp only [execOp]
          go_simp
        | 14, hi =>
          obtain rfl := Option.some.inj hi
          have d0 : a.tmps.getD 17 undef = .slice A k c := hD 0 (by simp)
          obtain ⟨b, hb, d2, hbk⟩ : ∃ b, wr.heap.size ≤ b ∧ a.tmps.getD 30 undef = .slice (some ⟨b, 0, none⟩) 1 1 ∧ Bk w' b #[.int .i64 (xs.getD ((f + k) % 20) 0)] 3 := hD 13 (by simp)
          have hr1 : Rd (Value.int .i64) w' (.slice (some ⟨b, 0, none⟩) 1 1) [xs.getD ((f + k) % 20) 0] := rd_blk hbk
          refine step_append2 (enc := Value.int .i64) rfl (.tmp 17) (.tmp 30) 22 3 rfl (.int .i64 0) 8 Try.underlying22 info3 rfl (by decide) (fun _ => rfl) _ _ (rl xs f k) [xs.getD ((f + k) % 20) 0] d0 d2 hOw hr1 (by simp [rl_len]; omega) (by simp) ?_
          intro A' c' w1 ho hf hat hold
          have hB1 : ∀ q, obk (.slice A k c) = some q → w.heap.size ≤ q := fun q hq => (HR.out q hq).1
          refine ⟨⟨⟨hf.below hS.bl hS.bl.size hB1, hS.k.fr hf (fun hq => by have := hB1 _ hq; omega), Nat.le_trans hS.sz hf.size⟩, hold⟩, hf, A', c', by simp [upd, rl_len], by simpa [rl_len] using ho, ?_⟩
          rcases hat with h | h
          · exact .inl (by simpa [rl_len] using h)
          · exact .inr ⟨_, by simpa [rl_len] using h, hS.sz⟩
        | 15, hi =>
          obtain rfl := Option.some.inj hi
          obtain ⟨A', c', d1, ho, hat⟩ : ∃ A' c', a.tmps.getD 31 undef = .slice A' ((rl xs f k).length + 1) c' ∧ Ow (Value.int .i64) 3 w' (.slice A' ((rl xs f k).length + 1) c') (rl xs f k ++ [xs.getD ((f + k) % 20) 0]) ∧ _ := hD 14 (by simp)
          refine step_val rfl (.slice A' ((rl xs f k).length + 1) c') w' ?_ (by simp) ⟨hS, hOw⟩ (Below.refl _ _) ⟨A', c', rfl, ho, hat⟩
          simp only [execOp, Act.eval, d1]
          clear hD hO hs ho hat
          go_simp
        | n + 16, hi => exact absurd hi (by simp)
      · intro a w' hSS hD hO hs hd
        obtain ⟨hS, hOw⟩ := hSS
        obtain ⟨A', c', d3, ho, hat⟩ : ∃ A' c', a.tmps.getD 3 undef = .slice A' ((rl xs f k).length + 1) c' ∧ Ow (Value.int .i64) 3 w' (.slice A' ((rl xs f k).length + 1) c') (rl xs f k ++ [xs.getD ((f + k) % 20) 0]) ∧ (obk (.slice A' ((rl xs f k).length + 1) c') = obk (.slice A k c) ∨ ∃ b, obk (.slice A' ((rl xs f k).length + 1) c') = some b ∧ wr.heap.size ≤ b) := hD 15 (by decide)
        rw [← rl_succ] at ho
        rw [rl_len] at d3 ho hat
        have d14 : a.tmps.getD 14 undef = .int .i64 k := hO 14 (by kernel_rfl)
        have d0 : a.tmps.getD 0 undef = .pointer (some ⟨g, off, none⟩) := hO 0 (by kernel_rfl)
        have d13 : a.tmps.getD 13 undef = .int .i64 m := hO 13 (by kernel_rfl)
        have HO' : Hid (Ow (Value.int .i64) 3 w' (.slice A' (k + 1) c') (rl xs f (k + 1))) := Lib.hid ho
        have HR' : Hid (Rg w.heap.size w'.heap.size (.slice A' (k + 1) c')) := Lib.hid (fun q hq => ⟨by
          rcases hat with h | ⟨b, h, hb⟩
          · exact (HR.out q (h ▸ hq)).1
          · rw [h] at hq; injection hq with hq; have := HB.out.size; omega, ho.lt q hq⟩)
        have K' := Lib.hid hS.k
        have HB' := Lib.hid hS.bl
        obtain ⟨tm, df⟩ := a
        obtain ⟨x0, x1, x2, x3, x4, x5, x6, x7, x8, x9, x10, x11, x12, x13, x14, x15, x16, x17, x18, x19, x20, x21, x22, x23, x24, x25, x26, x27, x28, x29, x30, x31, x32, x33, rfl⟩ := lit34 tm hs
        obtain rfl : x14 = .int .i64 k := d14
        obtain rfl : x0 = .pointer (some ⟨g, off, none⟩) := d0
        obtain rfl : x13 = .int .i64 m := d13
        obtain rfl : x3 = .slice A' (k + 1) c' := d3
        obtain rfl : df = [] := hd
        obtain rfl : x1 = _ := hO 1 (by kernel_rfl)
        obtain rfl : x2 = _ := hO 2 (by kernel_rfl)
        obtain rfl : x4 = _ := hO 4 (by kernel_rfl)
        obtain rfl : x5 = _ := hO 5 (by kernel_rfl)
        obtain rfl : x6 = _ := hO 6 (by kernel_rfl)
        obtain rfl : x7 = _ := hO 7 (by kernel_rfl)
        obtain rfl : x8 = _ := hO 8 (by kernel_rfl)
        obtain rfl : x9 = _ := hO 9 (by kernel_rfl)
        obtain rfl : x10 = _ := hO 10 (by kernel_rfl)
        obtain rfl : x11 = _ := hO 11 (by kernel_rfl)
        obtain rfl : x12 = _ := hO 12 (by kernel_rfl)
        obtain rfl : x15 = _ := hO 15 (by kernel_rfl)
        obtain rfl : x16 = _ := hO 16 (by kernel_rfl)
        obtain rfl : x32 = _ := hO 32 (by kernel_rfl)
        obtain rfl : x33 = _ := hO 33 (by kernel_rfl)
        clear hS hD hO hs ho hat hOw hS0 hwo
        go_wp2
        refine ⟨?_, by simp [intOf]; omega⟩
        (repeat apply Exists.intro)
        exact ⟨⟨k + 1, A', c', by omega, rfl, rfl, HO', HR', K', HB'⟩, rfl⟩
    · have hkm : k = m := by omega
      clear hlt
      subst hkm
      go_wp2
      go_ret
      refine ⟨A, c, by rw [rl_len]; rfl, ?_, ?_, HB⟩
      · rw [rl_len]; exact HO
      · rw [rl_len]; exact HR
end Go.Proofs.Ytiemacjmipiakaa.Nm
