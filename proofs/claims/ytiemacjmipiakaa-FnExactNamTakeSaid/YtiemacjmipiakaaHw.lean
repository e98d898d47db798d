/- Plain words on worlds for proofs by hand: a slice that reads as a list, a slice of the call's own, what a call leaves as it was. They hold of every program and every world; the conditions are those that each states. -/
import Derived.WalkKit
import Derived.KernelRfl
import Derived.Deep.QuietTactic
import Derived.BigQuiet
import Derived.Deep.RegionHeld3
import Derived.Deep.RegionLaw
import Derived.Deep.LoopGhost
import Derived.Deep.DeepCutAuto
import Derived.Deep.CutBlock
import Derived.Maps.AppendAt
import Derived.Deep.OwnRows
import Derived.Laws.CopyOwn
import Derived.Lib.Hide
import Derived.Lib.SliceRun
namespace Go.Proofs.Ytiemacjmipiakaa.Hw
open Go.RowKit
set_option linter.unusedVariables false
set_option linter.unusedSimpArgs false
/-- But for the blocks of S, what was there stays. -/
structure Fr (S : Nat → Prop) (w w' : World) : Prop where
  os : w'.os = w.os
  tape : w'.tape = w.tape
  output : w'.output = w.output
  size : w.heap.size ≤ w'.heap.size
  block : ∀ k, k < w.heap.size → ¬ S k → w'.heap[k]? = w.heap[k]?
  zero : ∀ (k t : Nat), w.heap[k]? = some (Obj.cells #[] t (0, 0)) → w'.heap[k]? = some (Obj.cells #[] t (0, 0))
theorem Fr.refl (S : Nat → Prop) (w : World) : Fr S w w := ⟨rfl, rfl, rfl, Nat.le_refl _, fun _ _ _ => rfl, fun _ _ h => h⟩
theorem Fr.of_below {S : Nat → Prop} {w w' : World} (h : Below w.heap.size w w') : Fr S w w' := ⟨h.os, h.tape, h.output, h.size, fun k hk _ => h.block k hk, fun k t hk => (h.block k (Array.getElem?_eq_some_iff.1 hk).1).trans hk⟩
theorem Fr.trans {S : Nat → Prop} {a b c : World} (h : Fr S a b) (k : Fr S b c) : Fr S a c :=
  ⟨k.os.trans h.os, k.tape.trans h.tape, k.output.trans h.output, Nat.le_trans h.size k.size, fun i hi hs => (k.block i (Nat.lt_of_lt_of_le hi h.size) hs).trans (h.block i hi hs), fun i t hi => k.zero i t (h.zero i t hi)⟩
theorem Fr.mono {S S' : Nat → Prop} {a b : World} (h : Fr S a b) (hs : ∀ k, S k → S' k) : Fr S' a b := ⟨h.os, h.tape, h.output, h.size, fun k hk hn => h.block k hk (fun x => hn (hs k x)), h.zero⟩
theorem Fr.below {S : Nat → Prop} {B : Nat} {w0 w w' : World} (hb : Below B w0 w) (h : Fr S w w') (hB : B ≤ w.heap.size) (hs : ∀ k, S k → B ≤ k) : Below B w0 w' :=
  hb.trans ⟨h.os, h.tape, h.output, h.size, fun k hk => h.block k (by omega) (fun x => by have := hs k x; omega)⟩
theorem Fr.cell {S : Nat → Prop} {w w' : World} (h : Fr S w w') {p : Addr} (hp : p.block < w.heap.size) (hs : ¬ S p.block) : w'.cell? p = w.cell? p := World.cell?_of_block (w := w) (h.block p.block hp hs)
theorem Fr.set {S : Nat → Prop} {w : World} {p : Addr} (hp : S p.block) (u : Value) : Fr S w (w.setCell p u) :=
  ⟨rfl, rfl, rfl, by simp [World.setCell], fun k _ hs => Below.heap_setCell w p u k (fun e => hs (e ▸ hp)), fun k t hk => by
    by_cases e : p.block = k
    · simp only [World.setCell, Array.getElem?_modify, e, if_true, hk, Option.map_some]
      split <;> rfl
    · rw [Below.heap_setCell w p u k (fun h => e h.symm)]; exact hk⟩
theorem Fr.row {S : Nat → Prop} {w : World} {g : Nat} {cur : Array Value} {t : TypeId} (hg : w.heap[g]? = some (.cells cur t (0, 0))) (h0 : 0 < cur.size) (hp : S g) (cs : Array Value) : Fr S w (w.setRow g cs) :=
  ⟨rfl, rfl, rfl, by simp [World.setRow], fun k _ hs => setRow_other w g k _ (fun e => hs (e ▸ hp)), fun k t hk => by
    refine (setRow_other w g k _ (fun e => ?_)).trans hk
    subst e
    rw [hg] at hk
    injection hk with hk
    injection hk with hk
    subst hk
    simp at h0⟩
/-- The block that a slice may write: none, if it has no room. -/
def obk : Value → Option Nat
  | .slice (some a) _ c => if c = 0 then none else some a.block
  | _ => none
theorem obk_eq {a : Addr} {n c k : Nat} (h : obk (.slice (some a) n c) = some k) : a.block = k ∧ 0 < c := by
  by_cases hc : c = 0
  · simp [obk, hc] at h
  · exact ⟨by simpa [obk, hc] using h, by omega⟩
theorem obk_own {v : Value} {k : Nat} (h : obk v = some k) : v.ownBlock = some k := by
  unfold obk at h
  split at h
  · split at h
    · cases h
    · exact h
  · cases h
theorem bl_refl (w : World) : Below w.heap.size w w := Below.refl _ _
theorem bl_drewN {B : Nat} {w W : World} (h : Below B w W) (n : Nat) : Below B w (W.drewN n) := ⟨h.os, h.tape, h.output, h.size, h.block⟩
theorem bl_drew {B : Nat} {w W : World} (h : Below B w W) : Below B w W.drew := ⟨h.os, h.tape, h.output, h.size, h.block⟩
theorem bl_alloc {w W : World} (h : Below w.heap.size w W) (o : Obj) : Below w.heap.size w (W.alloc o) := h.alloc h.size o
theorem bl_step {w W W' : World} (h : Below w.heap.size w W) (k : Below W.heap.size W W') : Below w.heap.size w W' := h.trans (k.mono h.size)
theorem bl_grown {w W W' : World} {row : Option Nat} (h : Below w.heap.size w W) (hg : W.grownBy W' row) (hr : ∀ k, row = some k → w.heap.size ≤ k) : Below w.heap.size w W' := h.grown hg h.size hr
theorem bl_set {w W : World} {p : Addr} (h : Below w.heap.size w W) (hp : w.heap.size ≤ p.block) (u : Value) : Below w.heap.size w (W.setCell p u) := h.setCell hp u

/-- Some orders have been drawn, no more. -/
def Dr (w w' : World) : Prop := ∃ n, w' = w.drewN n
theorem Dr.refl (w : World) : Dr w w := ⟨0, rfl⟩
theorem Dr.step {w w' : World} (h : Dr w w') (n : Nat) : Dr w (w'.drewN n) := by obtain ⟨m, rfl⟩ := h; exact ⟨m + n, World.drewN_drewN ..⟩
theorem Dr.trans {a b c : World} (h : Dr a b) (k : Dr b c) : Dr a c := by obtain ⟨n, rfl⟩ := k; exact h.step n
theorem Dr.cell {w w' : World} (h : Dr w w') (a : Addr) : w'.cell? a = w.cell? a := by obtain ⟨m, rfl⟩ := h; rfl
theorem Dr.below {w w' : World} (h : Dr w w') : Below w.heap.size w w' := by obtain ⟨m, rfl⟩ := h; exact bl_drewN (bl_refl w) m
/-- A block's cells. -/
def Bk (w : World) (g : Nat) (cs : Array Value) (t : TypeId) : Prop := w.heap[g]? = some (.cells cs t (0, 0))
theorem Bk.lt {w : World} {g : Nat} {cs : Array Value} {t : TypeId} (h : Bk w g cs t) : g < w.heap.size := (Array.getElem?_eq_some_iff.1 h).1
theorem Bk.cell {w : World} {g : Nat} {cs : Array Value} {t : TypeId} (h : Bk w g cs t) (i : Nat) : w.cell? ⟨g, i, none⟩ = cs[i]? := cell_of_row w g i cs t (0, 0) h
theorem Bk.frozen {w : World} {g : Nat} {cs : Array Value} {t : TypeId} (h : Bk w g cs t) (i : Nat) : w.frozen? ⟨g, i, none⟩ = false := by simp [World.frozen?, show w.heap[g]? = _ from h]
theorem Bk.below {w w' : World} {g : Nat} {cs : Array Value} {t : TypeId} (h : Bk w g cs t) (hb : Below w.heap.size w w') : Bk w' g cs t := (hb.block g h.lt).trans h
theorem Bk.fr {S : Nat → Prop} {w w' : World} {g : Nat} {cs : Array Value} {t : TypeId} (h : Bk w g cs t) (hf : Fr S w w') (hs : ¬ S g) : Bk w' g cs t := (hf.block g h.lt hs).trans h
theorem Bk.set {w : World} {g : Nat} {cs : Array Value} {t : TypeId} (h : Bk w g cs t) (i : Nat) (u : Value) : Bk (w.setCell ⟨g, i, none⟩ u) g (cs.setIfInBounds i u) t := by
  simp [Bk, World.setCell, Array.getElem?_modify, show w.heap[g]? = _ from h]
theorem Bk.far {w : World} {g : Nat} {cs : Array Value} {t : TypeId} (h : Bk w g cs t) {p : Addr} (hp : g ≠ p.block) (u : Value) : Bk (w.setCell p u) g cs t := (Below.heap_setCell w p u g hp).trans h
theorem Bk.new (w : World) (cs : Array Value) (t : TypeId) : Bk (w.alloc (.cells cs t)) w.heap.size cs t := heap_alloc_new w _
theorem Bk.alloc {w : World} {g : Nat} {cs : Array Value} {t : TypeId} (h : Bk w g cs t) (o : Obj) : Bk (w.alloc o) g cs t := (Below.heap_alloc w o g h.lt).trans h
theorem Bk.drewN {w : World} {g : Nat} {cs : Array Value} {t : TypeId} (h : Bk w g cs t) (n : Nat) : Bk (w.drewN n) g cs t := h

theorem add0 (g j : Nat) : (⟨g, 0, none⟩ : Addr).add j = ⟨g, j, none⟩ := by unfold Addr.add; split <;> simp_all

section
variable {α : Type} {enc : α → Value}
/-- A slice that reads as a list. -/
def Rd (enc : α → Value) (w : World) (v : Value) (l : List α) : Prop :=
  ∃ A c, v = .slice A l.length c ∧ l.length ≤ c ∧ l.length ≤ 9223372036854775807 ∧ (0 < l.length → ∃ ad, A = some ad ∧ ∀ j x, l[j]? = some x → w.cell? (ad.add j) = some (enc x))
theorem Rd.below {w w' : World} {v : Value} {l : List α} (h : Rd enc w v l) (hb : Below w.heap.size w w') : Rd enc w' v l := by
  obtain ⟨A, c, e, hc, hm, hr⟩ := h
  refine ⟨A, c, e, hc, hm, fun h0 => ?_⟩
  obtain ⟨ad, ha, hx⟩ := hr h0
  exact ⟨ad, ha, fun j x hj => (hb.cell (World.block_lt_of_cell? w _ (hx j x hj))).trans (hx j x hj)⟩
theorem Rd.below_of {B : Nat} {w0 w w' : World} {v : Value} {l : List α} (h : Rd enc w0 v l) (hb : Below w0.heap.size w0 w) : Rd enc w v l := h.below hb
theorem Rd.drewN {w : World} {v : Value} {l : List α} (h : Rd enc w v l) (n : Nat) : Rd enc (w.drewN n) v l := h
theorem Rd.dr {w w' : World} {v : Value} {l : List α} (h : Rd enc w v l) (hd : Dr w w') : Rd enc w' v l := h.below hd.below
theorem Rd.nil (w : World) : Rd enc w (.slice none 0 0) [] := ⟨none, 0, rfl, Nat.le_refl _, by simp, fun h => absurd h (by simp)⟩
theorem Rd.len {w : World} {v : Value} {l : List α} (h : Rd enc w v l) : l.length ≤ 9223372036854775807 := by obtain ⟨A, c, e, hc, hm, hr⟩ := h; exact hm

theorem Rd.take {w : World} {A : Option Addr} {c : Nat} {l : List α} (h : Rd enc w (.slice A l.length c) l) (k : Nat) (hk : k ≤ l.length) : Rd enc w (.slice A k c) (l.take k) := by
  obtain ⟨A', c', e, hc, hm, hr⟩ := h
  injection e with e1 _ e3
  subst e1 e3
  have hl : (l.take k).length = k := by rw [List.length_take]; omega
  refine ⟨A, c, by rw [hl], by rw [hl]; omega, by rw [hl]; omega, fun h0 => ?_⟩
  obtain ⟨ad, ha, hx⟩ := hr (by omega)
  refine ⟨ad, ha, fun j x hj => hx j x ?_⟩
  rw [List.getElem?_take] at hj
  split at hj
  · exact hj
  · cases hj
theorem Rd.zero {w : World} {v : Value} {l : List α} (h : Rd enc w v l) (d : α) (h0 : 0 < l.length) : ∃ ad c, v = .slice (some ad) l.length c ∧ w.cell? ad = some (enc (l.getD 0 d)) := by
  obtain ⟨A, c, e, hc, hm, hr⟩ := h
  obtain ⟨ad, rfl, hx⟩ := hr h0
  refine ⟨ad, c, e, ?_⟩
  have := hx 0 (l.getD 0 d) (by rw [List.getElem?_eq_getElem h0, List.getD_eq_getElem?_getD, List.getElem?_eq_getElem h0]; rfl)
  rwa [Addr.add_zero'] at this
/-- A slice of the call's own (element type t, one cell an element), in its own block. -/
def Ow (enc : α → Value) (t : TypeId) (w : World) (v : Value) (l : List α) : Prop := w.ownsRow 0 t 1 v l.length (l.map enc)
theorem Ow.nil (t : TypeId) (w : World) : Ow enc t w (.slice none 0 0) [] := ⟨by simp, .inl ⟨rfl, rfl⟩⟩
theorem Ow.rd {t : TypeId} {w : World} {v : Value} {l : List α} (h : Ow enc t w v l) : Rd enc w v l := by
  rcases h.2 with ⟨rfl, hn⟩ | ⟨g, cap, cur, rfl, _, hg, hle, hm, hs, ht⟩
  · obtain rfl : l = [] := List.eq_nil_of_length_eq_zero hn
    exact Rd.nil w
  · refine ⟨_, cap, rfl, hle, by simp only [maxLen] at hm; omega, fun _ => ⟨_, rfl, fun j x hj => ?_⟩⟩
    exact World.ownsRow.cells h (g := g) rfl j _ (by rw [List.getElem?_map, hj]; rfl)
theorem Ow.lt {t : TypeId} {w : World} {v : Value} {l : List α} (h : Ow enc t w v l) : ∀ k, obk v = some k → k < w.heap.size := fun k hk => (World.ownsRow.lt h k (obk_own hk)).2
theorem Ow.fr {S : Nat → Prop} {t : TypeId} {w w' : World} {v : Value} {l : List α} (h : Ow enc t w v l) (hf : Fr S w w') (hs : ∀ k, obk v = some k → ¬ S k) : Ow enc t w' v l := by
  refine ⟨h.1, ?_⟩
  rcases h.2 with hn | ⟨g, cap, cur, rfl, hb, hg, h1, h2, h3, h4⟩
  · exact .inl hn
  · refine .inr ⟨g, cap, cur, rfl, hb, ?_, h1, h2, h3, h4⟩
    by_cases hc : cap = 0
    · subst hc
      obtain rfl : cur = #[] := Array.eq_empty_of_size_eq_zero (by omega)
      exact hf.zero g t hg
    · exact (hf.block g (Array.getElem?_eq_some_iff.1 hg).1 (hs g (by simp [obk, hc]))).trans hg
theorem Ow.below {t : TypeId} {w w' : World} {v : Value} {l : List α} (h : Ow enc t w v l) (hb : Below w.heap.size w w') : Ow enc t w' v l := h.fr (S := fun _ => False) (Fr.of_below hb) (fun _ _ => id)
theorem Ow.drewN {t : TypeId} {w : World} {v : Value} {l : List α} (h : Ow enc t w v l) (n : Nat) : Ow enc t (w.drewN n) v l := h
theorem Ow.types {β : Type} {enc' : β → Value} {t t' : TypeId} {w : World} {v v' : Value} {l : List α} {l' : List β} (h : Ow enc t w v l) (h' : Ow enc' t' w v' l') (hne : t ≠ t') : ∀ k, obk v = some k → obk v' ≠ some k := by
  intro k hk0 hk0'
  have hk := obk_own hk0
  have hk' := obk_own hk0'
  rcases h.2 with ⟨rfl, _⟩ | ⟨g, cap, cur, rfl, _, hg, _⟩
  · simp [Value.ownBlock] at hk
  · rcases h'.2 with ⟨rfl, _⟩ | ⟨g', cap', cur', rfl, _, hg', _⟩
    · simp [Value.ownBlock] at hk'
    · obtain rfl : g = k := by simpa [Value.ownBlock] using hk
      obtain rfl : g' = g := by simpa [Value.ownBlock] using hk'
      rw [hg] at hg'
      injection hg' with hg'; injection hg' with _ ht
      exact hne ht
/-- What is written at place i of an owned slice. -/
theorem Ow.form {t : TypeId} {w : World} {v : Value} {l : List α} (h : Ow enc t w v l) (h0 : 0 < l.length) : ∃ g cap, v = .slice (some ⟨g, 0, none⟩) l.length cap ∧ l.length ≤ cap ∧ ∀ (i : Nat) (x : α), (i < l.length → ∃ u, w.cell? ⟨g, i, none⟩ = some u) ∧ w.frozen? ⟨g, i, none⟩ = false ∧ Ow enc t (w.setCell ⟨g, i, none⟩ (enc x)) v (l.set i x) ∧ Fr (fun k => obk v = some k) w (w.setCell ⟨g, i, none⟩ (enc x)) := by
  rcases h.2 with ⟨rfl, hn⟩ | ⟨g, cap, cur, rfl, _, hg, hle, hm, hs, ht⟩
  · omega
  · refine ⟨g, cap, rfl, hle, fun i x => ⟨fun hi => ?_, ?_, ?_, Fr.set (by simp [obk]; omega) _⟩⟩
    · exact ⟨enc (l[i]), by rw [World.ownsRow.cellAt h i (by omega)]; simp [List.getElem?_eq_getElem hi]⟩
    · exact World.ownsRow.frozenAt h i
    · have := (World.ownsRow.stored h i (enc x)).1
      simpa [Ow, List.map_set] using this
end
/-- Whose block lies from B to below C. -/
def Rg (B C : Nat) (v : Value) : Prop := ∀ k, obk v = some k → B ≤ k ∧ k < C
theorem Rg.mono {B C B' C' : Nat} {v : Value} (h : Rg B C v) (h1 : B' ≤ B) (h2 : C ≤ C') : Rg B' C' v := fun k hk => by have := h k hk; omega
theorem Rg.nil (B C : Nat) : Rg B C (.slice none 0 0) := fun k hk => by simp [obk] at hk
/-- Two slices that share no block. -/
def Ap (v v' : Value) : Prop := ∀ k, obk v = some k → obk v' ≠ some k
theorem Ap.symm {v v' : Value} (h : Ap v v') : Ap v' v := fun k hk hk' => h k hk' hk
theorem Ap.nil (v : Value) : Ap (.slice none 0 0) v := fun k hk => by simp [obk] at hk
theorem Ap.of {B C B' C' : Nat} {v v' : Value} (h : Rg B C v) (h' : Rg B' C' v') (hd : C ≤ B' ∨ C' ≤ B) : Ap v v' := fun k hk hk' => by have := h k hk; have := h' k hk'; omega
/-- Boxes: the world behind them under a name. -/
theorem bx1 (w : World) (c0 : Array Value) (t0 : TypeId) : ∃ W, w.alloc (.cells c0 t0) = W ∧ Hid (Below w.heap.size w W) ∧ Hid (Bk W w.heap.size c0 t0) ∧ Hid (W.heap.size = w.heap.size + 1) :=
  ⟨_, rfl, bl_alloc (bl_refl w) _, Bk.new _ _ _, by show _ = _; simp⟩
theorem bx2 (w : World) (c0 : Array Value) (t0 : TypeId) (c1 : Array Value) (t1 : TypeId) : ∃ W, (w.alloc (.cells c0 t0)).alloc (.cells c1 t1) = W ∧ Hid (Below w.heap.size w W) ∧ Hid (Bk W w.heap.size c0 t0) ∧ Hid (Bk W (w.heap.size + 1) c1 t1) ∧ Hid (W.heap.size = w.heap.size + 2) :=
  ⟨_, rfl, bl_alloc (bl_alloc (bl_refl w) _) _, (Bk.new _ _ _).alloc _, Lib.hid (by have := Bk.new (w.alloc (.cells c0 t0)) c1 t1; simpa using this), by show _ = _; simp⟩
theorem bx3 (w : World) (c0 : Array Value) (t0 : TypeId) (c1 : Array Value) (t1 : TypeId) (c2 : Array Value) (t2 : TypeId) : ∃ W, ((w.alloc (.cells c0 t0)).alloc (.cells c1 t1)).alloc (.cells c2 t2) = W ∧ Hid (Below w.heap.size w W) ∧ Hid (Bk W w.heap.size c0 t0) ∧ Hid (Bk W (w.heap.size + 1) c1 t1) ∧ Hid (Bk W (w.heap.size + 1 + 1) c2 t2) ∧ Hid (W.heap.size = w.heap.size + 3) :=
  ⟨_, rfl, bl_alloc (bl_alloc (bl_alloc (bl_refl w) _) _) _, ((Bk.new _ _ _).alloc _).alloc _, Lib.hid (by have := (Bk.new (w.alloc (.cells c0 t0)) c1 t1).alloc (.cells c2 t2); simpa using this), Lib.hid (by have := Bk.new ((w.alloc (.cells c0 t0)).alloc (.cells c1 t1)) c2 t2; simpa using this), by show _ = _; simp⟩
/-- A store into a block: the world behind it under a name. -/
theorem st1 {w : World} {g : Nat} {cs : Array Value} {t : TypeId} (h : Bk w g cs t) (i : Nat) (u : Value) : ∃ W, w.setCell ⟨g, i, none⟩ u = W ∧ Hid (Fr (fun k => k = g) w W) ∧ Hid (Bk W g (cs.setIfInBounds i u) t) ∧ Hid (W.heap.size = w.heap.size) :=
  ⟨_, rfl, Fr.set (S := fun k => k = g) rfl _, h.set i u, by show _ = _; simp [World.setCell]⟩
theorem Rg.ne {B C : Nat} {v : Value} {S : Nat → Prop} (h : Rg B C v) (hs : ∀ k, B ≤ k → k < C → ¬ S k) : ∀ k, obk v = some k → ¬ S k := fun k hk => hs k (h k hk).1 (h k hk).2
/-- A new slice of the call's own is returned. -/
def NewO {α : Type} (enc : α → Value) (t : TypeId) (w : World) (l : List α) (e : Ending) (w' : World) : Prop := ∃ A c, e = .returned (.slice A l.length c) ∧ Hid (Ow enc t w' (.slice A l.length c) l) ∧ Hid (Rg w.heap.size w'.heap.size (.slice A l.length c)) ∧ Hid (Below w.heap.size w w')
theorem make_run {P : Program} (t e : TypeId) (z : Value) (bytes : Nat) (ht : P.underlying t = some (.slice e)) (hinfo : (P.info? e).map (fun i => (i.zero, i.size, i.bytes)) = some (some z, 1, bytes)) (hz : z.cells = #[z]) (hb0 : 0 < bytes)
    (m : Nat) (hn : m * bytes ≤ 281474976710656) :
    ∀ W : World, (Instr.makeSlice t (.int .i64 (m : Int)) (.int .i64 (m : Int))).run P W = .ok (.slice (some ⟨W.heap.size, 0, none⟩) m m) (W.alloc (.cells (madeCells #[z] m) e)) := by
  intro W
  have hm : m ≤ 281474976710656 := Nat.le_trans (Nat.le_mul_of_pos_right _ hb0) hn
  exact run_make_row' t e z bytes ht hinfo hz .i64 .i64 m (by rw [Nat.mul_comm]; exact hn) (by omega) W
theorem ow_made {α : Type} (enc : α → Value) (d : α) (W : World) (e : TypeId) (m : Nat) (hm : m ≤ 9223372036854775807) :
    Ow enc e (W.alloc (.cells (madeCells #[enc d] m) e)) (.slice (some ⟨W.heap.size, 0, none⟩) m m) (List.replicate m d) := by
  have h := World.ownsRow_lit (base := 0) (e := e) (size := 1) W (madeCells #[enc d] m) m (by omega) (by simpa [maxLen] using hm) (by simp [size_madeCells])
  have hl : (madeCells #[enc d] m).toList = (List.replicate m d).map enc := by
    apply List.ext_getElem
    · simp [madeCells]
    · intro i h1 h2
      simp [madeCells, Nat.mod_one]
  simpa [Ow, hl] using h
theorem take_set_rep {α : Type} (l : List α) (d : α) (k : Nat) (h : k < l.length) : (l.take k ++ List.replicate (l.length - k) d).set k l[k] = l.take (k + 1) ++ List.replicate (l.length - (k + 1)) d := by
  rw [List.set_append_right _ _ (by simp [Nat.min_eq_left (Nat.le_of_lt h)]), List.take_succ_eq_append_getElem h, List.append_assoc]
  have e : l.length - k = (l.length - (k + 1)) + 1 := by omega
  rw [e, List.replicate_succ]
  simp [Nat.min_eq_left (Nat.le_of_lt h)]
section
variable {α : Type} {enc : α → Value} {P : Program}
/-- append(v, x...), v of the call's own, x any slice that reads as ys. -/
theorem ap_run (W : World) (t ty e : TypeId) (z : Value) (bytes : Nat) (ht : P.underlying t = some (.slice e)) (hinfo : (P.info? e).map (fun i => (i.zero, i.size, i.bytes)) = some (some z, 1, bytes)) (hz : z.cells.size = 1) (hb0 : 0 < bytes) (h1 : ∀ x : α, (enc x).oneCell' = true)
    (v x : Value) (xs ys : List α) (HO : Ow enc e W v xs) (HR : Rd enc W x ys) (hl : (xs.length + ys.length) * bytes ≤ 140737488355328) :
    ∃ A c w1, (Builtin.append_ #[t, t] ty #[v, x]).run P W = .ok (.slice A (xs ++ ys).length c) w1 ∧ Ow enc e w1 (.slice A (xs ++ ys).length c) (xs ++ ys) ∧ Fr (fun k => obk v = some k) W w1 ∧ (obk (.slice A (xs ++ ys).length c) = obk v ∨ obk (.slice A (xs ++ ys).length c) = some W.heap.size) ∧ Ow enc e w1 v xs := by
  obtain ⟨i0, hi, hzz⟩ := Option.map_eq_some_iff.1 hinfo
  simp only [Prod.mk.injEq] at hzz
  obtain ⟨hz0, hz1, hz2⟩ := hzz
  have hlen : xs.length + ys.length ≤ 140737488355328 := Nat.le_trans (Nat.le_mul_of_pos_right _ hb0) hl
  suffices hh : ∃ v1 w1, (Builtin.append_ #[t, t] ty #[v, x]).run P W = .ok v1 w1 ∧ Ow enc e w1 v1 (xs ++ ys) ∧ Fr (fun k => obk v = some k) W w1 ∧ (obk v1 = obk v ∨ obk v1 = some W.heap.size) ∧ Ow enc e w1 v xs by
    obtain ⟨v1, w1, hr, ho, hg, hat, hold⟩ := hh
    obtain ⟨A, c, rfl, _⟩ := ho.rd
    exact ⟨A, c, w1, hr, ho, hg, hat, hold⟩
  obtain ⟨A, c, rfl, hc, hm, hr⟩ := HR
  by_cases h0 : ys.length = 0
  · obtain rfl : ys = [] := List.eq_nil_of_length_eq_zero h0
    refine ⟨v, W, ?_, by simpa using HO, Fr.refl _ _, .inl rfl, HO⟩
    have hl0 : ∀ a : Addr, (loadCells a 0).run P W = .ok #[] W := fun a => by simpa using run_loadCells_list (P := P) W a [] (by simp)
    rcases HO.2 with ⟨rfl, hn⟩ | ⟨g, cap, cur, rfl, _, _, hnc, _⟩ <;> cases A
    all_goals simp [Builtin.append_, run_underlying ht, sizeOf, typeInfo, hi, Builtin.lenOf, Builtin.firstCells, storeCells, hl0, *]
  · obtain ⟨ad, rfl, hcell⟩ := hr (by omega)
    have hsz : i0.size = 1 := hz1
    have hnews : ∀ j u, (ys.map enc)[j]? = some u → W.cell? (ad.add j) = some u := by intro j u hu; rw [List.getElem?_map] at hu; obtain ⟨y, hy, rfl⟩ := Option.map_eq_some_iff.mp hu; exact hcell j y hy
    have hone : ∀ u ∈ ys.map enc, u.oneCell' = true := by intro u hu; simp only [List.mem_map] at hu; obtain ⟨q, _, rfl⟩ := hu; exact h1 q
    obtain ⟨v1, w1, hrn, h2, h3, _, h5⟩ := run_append_own_at (P := P) W 0 t ty e i0 z 1 bytes ht hi hz0 hz1 hz2 hz (by omega) v xs.length (xs.map enc) HO ad ys.length c (ys.map enc) (by simp) hnews hone (by simp only [maxLen]; omega) hl (by omega)
    have h2' : Ow enc e w1 v1 (xs ++ ys) := by simpa [Ow] using h2
    rcases HO.2 with ⟨rfl, hn⟩ | ⟨g, cap, cur, rfl, _, hg, hnc, hcm, hcs, htk⟩
    · -- out of nil: a new block
      have hf : Fr (fun k => obk (.slice none 0 0) = some k) W w1 := Fr.of_below ⟨h3.os, h3.tape, h3.output, h3.size, fun k hk => h3.block k hk (by simp [Value.ownBlock])⟩
      refine ⟨v1, w1, hrn, h2', hf, ?_, HO.fr hf (fun k hk => by simp [obk] at hk)⟩
      rcases h2'.2 with ⟨rfl, _⟩ | ⟨g', cap', cur', rfl, _⟩
      · exact .inl rfl
      · rcases h5 with h5 | h5
        · simp [Value.ownBlock] at h5
        · by_cases hc' : cap' = 0
          · exact .inl (by simp [obk, hc'])
          · exact .inr (by simpa [obk, hc', Value.ownBlock] using h5)
    · by_cases hroom : xs.length + ys.length ≤ cap
      · -- there is room
        have hr2 := run_append_room (P := P) W t ty e i0 ht hi g xs.length cap cur hg ad ys.length c (ys.map enc) (by simp [hsz]) hnews hone hroom (by simp [hsz]; omega)
        rw [hrn] at hr2
        injection hr2 with hv hw
        subst hv hw
        refine ⟨_, _, hrn, h2', Fr.row hg (by omega) (by simp [obk]; omega) _, .inl (by simp [obk]), HO.1, .inr ⟨g, cap, _, rfl, Nat.zero_le _, setRow_heap W g cur _ e _ hg, hnc, hcm, ?_, ?_⟩⟩
        · have hcl : cur.toList.length = cap := by simpa using hcs
          simp [hsz]
          omega
        · have hcl : cur.toList.length = cap := by simpa using hcs
          rw [← htk]
          simp [hsz, List.take_append, List.take_take, Nat.min_eq_left hnc, hcl]
      · -- it grows
        have hr2 := run_append_grow (P := P) W t ty e i0 z ht hi hz0 ⟨g, 0, none⟩ xs.length cap (xs.map enc) (by simp [hsz]) (World.ownsRow.cells HO (g := g) rfl) ad ys.length c (ys.map enc) (by simp [hsz]) hnews (by omega) (by omega) (growslice_fits (by omega) (by rw [hz2]; exact hl))
        rw [hrn] at hr2
        injection hr2 with hv hw
        subst hv hw
        have hb2 : Below W.heap.size W (W.drew.alloc (.cells ((xs.map enc).toArray ++ (ys.map enc).toArray ++ Builtin.zeroCells z.cells (grownCap W (xs.length + ys.length) cap e - (xs.length + ys.length))) e)) := ⟨rfl, rfl, rfl, by simp, fun k hk => by exact Below.heap_alloc W.drew _ k hk⟩
        refine ⟨_, _, hrn, h2', Fr.of_below hb2, .inr ?_, HO.below hb2⟩
        have := grownCap_ge W (xs.length + ys.length) cap e
        simp [obk]
        omega
/-- The same at an operation of a walk. -/
theorem wl_append {ops : Array Oper} {rest : List Oper} {o : Oper} {a : Act} {Q : Exit → Act → World → Prop} (W : World) (hgd : o.guard = none) (so xo : Operand) (t e : TypeId) (ho : o.op = .call { callee := .builtin .append, args := #[so, xo], argTypes := #[t, t] })
    (z : Value) (bytes : Nat) (ht : P.underlying t = some (.slice e)) (hinfo : (P.info? e).map (fun i => (i.zero, i.size, i.bytes)) = some (some z, 1, bytes)) (hz : z.cells.size = 1) (hb0 : 0 < bytes) (h1 : ∀ x : α, (enc x).oneCell' = true)
    (v x : Value) (xs ys : List α) (hs : a.eval so = v) (hx : a.eval xo = x) (HO : Ow enc e W v xs) (HR : Rd enc W x ys) (hl : (xs.length + ys.length) * bytes ≤ 140737488355328)
    (h : ∀ A c w1, Hid (Ow enc e w1 (.slice A (xs ++ ys).length c) (xs ++ ys)) → Hid (Fr (fun k => obk v = some k) W w1) → Hid (obk (.slice A (xs ++ ys).length c) = obk v ∨ obk (.slice A (xs ++ ys).length c) = some W.heap.size) → wpList P ops Q rest (a.put o.dst (.slice A (xs ++ ys).length c)) w1) :
    wpList P ops Q (o :: rest) a W := by
  obtain ⟨A, c, w1, hr, ho1, hg, hat, _⟩ := ap_run W t o.type e z bytes ht hinfo hz hb0 h1 v x xs ys HO HR hl
  refine wpList_plain hgd fun K hK => ?_
  unfold Oper.wp execOp
  simp only [ho, resolve, invoke, builtin, Sem.run_bind, Sem.run_pure, Result.andThen_ok, List.map_toArray, List.map_cons, List.map_nil, hs, hx, hr]
  exact hK _ _ (h A c w1 ho1 hg hat)
end
section
variable {P : Program} {ops : Array Oper} {rest : List Oper} {o : Oper} {a : Act} {Q : Exit → Act → World → Prop}
/-- A whole block read; written. -/
theorem wl_load_row {w : World} (hgd : o.guard = none) (ty : TypeId) (x : Operand) (ho : o.op = .load ty x) (g : Nat) (hx : a.eval x = .pointer (some ⟨g, 0, none⟩)) (t : TypeId) (cs : Array Value) (d : TypeDesc) (hg : Bk w g cs t)
    (hu : P.underlying ty = some d) (hd : (match d with | .struct _ | .array _ _ => true | _ => false) = true) (hi : (P.info? ty).map (·.size) = some cs.size) (h : wpList P ops Q rest (a.put o.dst (.agg cs)) w) : wpList P ops Q (o :: rest) a w :=
  wpList_load_row hgd ty x ho g hx t cs (0, 0) d hg hu hd hi h
theorem wl_store_row {w : World} (hgd : o.guard = none) (hdst : o.dst = none) (ty : TypeId) (x v : Operand) (ho : o.op = .store ty x v) (g : Nat) (hx : a.eval x = .pointer (some ⟨g, 0, none⟩)) (t : TypeId) (cs cs' : Array Value) (hv : a.eval v = .agg cs') (hg : Bk w g cs t)
    (hi : (P.info? ty).map (·.size) = some cs'.size) (hs : cs.size = cs'.size) (h1 : cs'.all (·.oneCell') = true) (h0 : 0 < cs.size)
    (h : ∀ w', Hid (Bk w' g cs' t) → Hid (Fr (fun k => k = g) w w') → wpList P ops Q rest a w') : wpList P ops Q (o :: rest) a w := by
  have hr := run_storeVar_row (P := P) w g t ty cs cs' hg hi hs h1
  refine wpList_plain hgd fun K hK => ?_
  unfold Oper.wp execOp
  simp only [ho, hx, hv, Instr.storeAt, Instr.sureAddr, Sem.run_bind, Sem.run_pure, Result.andThen_ok, hr]
  show K (a.put o.dst undef) _
  rw [hdst]
  exact hK _ _ (h _ (setRow_heap w g cs cs' t (0, 0) hg) (Fr.row (S := fun k => k = g) hg h0 rfl cs'))
end
end Go.Proofs.Ytiemacjmipiakaa.Hw
