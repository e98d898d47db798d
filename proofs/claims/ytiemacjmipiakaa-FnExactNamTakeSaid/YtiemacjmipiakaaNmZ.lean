/- Taking a place, by the program. -/
import Derived.Test.YtiemacjmipiakaaNmX
import Derived.Test.YtiemacjmipiakaaNmJ
namespace Go.Proofs.Ytiemacjmipiakaa.Nm
open Go.RowKit Go.Proofs.Ytiemacjmipiakaa.Hw
set_option linter.unusedVariables false
set_option linter.unusedSimpArgs false
theorem rc_pop (xs : List Int) (f m f' m' : Int) (h : xs.length = 20) : ((rc xs f m).set 20 (.int .i64 f')).set 21 (.int .i64 m') = rc xs f' m' := by
  unfold rc
  rw [List.set_append_right _ _ (by simp [h]), List.length_map, h, List.set_append_right _ _ (by simp [h]), List.length_map, h]
  rfl
theorem nc_pop (pl xs : List Int) (f m f' m' : Int) (vv hh : Value) (hp : pl.length = 8) (hx : xs.length = 20) :
    ((nc pl xs f m vv hh).set (8 + 20) (.int .i64 f')).set (8 + 21) (.int .i64 m') = nc pl xs f' m' vv hh := by
  unfold nc
  rw [set_mid _ _ _ _ _ (by simp [hp]) (by rw [rc_len _ _ _ hx]; omega), set_mid _ _ _ _ _ (by simp [hp]) (by rw [List.length_set, rc_len _ _ _ hx]; omega), rc_pop _ _ _ _ _ hx]
/-- The first free place is taken. -/
theorem npop (B g : Nat) (pl xs : List Int) (f m : Nat) (lv : List Int) (lh : List Bool) (vv hh : Value) (w : World) (h : Nb B g pl xs f m lv lh vv hh w) (hf : f < 20) (hm : 0 < m) (hm2 : m ≤ 20) :
    Calls Try.prog 78 #[.pointer (some ⟨g, 8, none⟩)] w fun e w' => e = .returned (.tuple #[.int .i64 (xs.getD f 0), .bool true]) ∧ Hid (Nb B g pl xs ((f + 1) % 20) (m - 1) lv lh vv hh w') ∧ Hid (Fr (fun k => k = g) w w') := by
  refine (pop78 g 8 _ 68 f m (xs.getD f 0) w hf hm hm2 h.k (h.ring 20 _ (rc_f xs f m h.hx)) (h.ring 21 _ (rc_m xs f m h.hx)) (h.ring f _ (rc_get xs f m h.hx f hf))).mono ?_
  rintro e w' ⟨rfl, hk, hfr⟩
  refine ⟨rfl, Lib.hid (h.turn hfr.out ?_ h.hp h.hx), hfr⟩
  have := hk.out
  rw [List.setIfInBounds_toArray, List.setIfInBounds_toArray, nc_pop _ _ _ _ _ _ _ _ h.hp h.hx] at this
  rw [show (((f + 1) % 20 : Nat) : Int) = ((f : Int) + 1) % 20 from by omega, show ((m - 1 : Nat) : Int) = (m : Int) - 1 from by omega]
  exact this
theorem Nb.fr {B g : Nat} {pl xs : List Int} {f m : Nat} {lv : List Int} {lh : List Bool} {vv hh : Value} {w w' : World} {S : Nat → Prop} (h : Nb B g pl xs f m lv lh vv hh w) (hf : Fr S w w') (h1 : ¬ S g) (h2 : ∀ k, obk vv = some k → ¬ S k) (h3 : ∀ k, obk hh = some k → ¬ S k) : Nb B g pl xs f m lv lh vv hh w' :=
  ⟨h.hg, h.hp, h.hx, h.k.fr hf h1, ⟨h.v.1, h.v.2.1.fr hf h2, h.v.2.2⟩, ⟨h.h.1, h.h.2.1.fr hf h3, h.h.2.2⟩, h.nv, h.nh⟩
theorem Fr.old {S : Nat → Prop} {w w' : World} (h : Fr (fun k => S k ∨ w.heap.size ≤ k) w w') : Fr S w w' :=
  ⟨h.os, h.tape, h.output, h.size, fun k hk hn => h.block k hk (fun x => x.elim hn (fun h => by omega)), h.zero⟩
set_option maxHeartbeats 4000000 in
/-- A register takes the first free place. -/
theorem take66y (B g : Nat) (pl xs : List Int) (f m : Nat) (lv : List Int) (lh : List Bool) (vv hh : Value) (d p : Int) (w : World) (h : Nb B g pl xs f m lv lh vv hh w) (hf : f < 20) (hm : 0 < m) (hm2 : m ≤ 20) (h0 : 0 ≤ d) (h7 : d ≤ 7) (hpe : xs.getD f 0 = p) (hp0 : 0 ≤ p) (hp1 : p ≤ 19) (hlh : lh.length = 20) :
    Calls Try.prog 66 #[.pointer (some ⟨g, 0, none⟩), .int .i64 d] w fun e w' => e = .returned (.tuple #[.agg #[.int .i64 d, .int .i64 p, .int .i64 (pl.getD d.toNat 0)], .bool true]) ∧ Hid (Nb B g (pl.set d.toNat p) xs ((f + 1) % 20) (m - 1) lv (lh.set p.toNat false) vv hh w') ∧ Hid (Fr (fun k => k = g ∨ obk hh = some k) w w') := by
  have H := Lib.hid h
  obtain ⟨y, hy⟩ : ∃ y, pl.getD d.toNat 0 = y := ⟨_, rfl⟩
  rw [hy]
  replace hy := Lib.hid hy
  have hgl := Lib.hid h.k.lt
  have hvl := Lib.hid h.v.2.1.lt
  have hhl := Lib.hid h.h.2.1.lt
  obtain ⟨gh, cap, rfl, hcap, _⟩ := h.h.2.1.form (by omega)
  have hgh := hhl.out gh (by simp [obk]; omega)
  have hgg := hgl.out
  have hob : Hid (∀ k, obk (.slice (some ⟨gh, 0, none⟩) lh.length cap) = some k ↔ k = gh) := Lib.hid (fun k => by simp [obk]; omega)
  have ngh : gh ≠ g := fun e => h.nh ((hob.out g).2 e.symm)
  have ngh' : g ≠ gh := fun e => ngh e.symm
  have hb0 : decide (d < (8 : Int)) = true := decide_eq_true (by omega)
  have b1 : d < 8 := by omega
  have b2 : p < (lh.length : Int) := by omega
  have b3 : decide (p < (lh.length : Int)) = true := decide_eq_true b2
  clear h
  go_enter Try.func66, Try.ntmps66
  go_wp2_with fail
  obtain ⟨w0, hW, HB, k0, hz⟩ := bx1 w #[.int .i64 0, .int .i64 0, .int .i64 0] 73
  rw [hW]; clear hW
  ((with_reducible refine (npop B g pl xs f m lv lh _ _ w0 (H.out.below HB.out) hf hm hm2).mono ?_); rintro e w1 ⟨rfl, HN, hfr⟩)
  rw [hpe]
  replace k0 := Lib.hid (k0.out.fr hfr.out (by omega))
  have hz0 := hz.out
  have hz1 := hfr.out.size
  have F1 : Hid (Fr (fun k => (k = g ∨ k = gh) ∨ w.heap.size ≤ k) w w1) := Lib.hid ((Fr.of_below HB.out).trans (hfr.out.mono (fun k hk => .inl (.inl hk))))
  obtain ⟨c1, _, _, _⟩ := HN.out.place d.toNat p (by omega)
  rw [hy.out] at c1
  obtain ⟨w2, hW2, hb2, k2, hz2⟩ := bx1 w1 #[.int .i64 d, .int .i64 p, .int .i64 y] 73
  have hz2' := hz2.out
  obtain ⟨c2, f2, HN2, hf2⟩ := (HN.out.below hb2.out).place d.toNat p (by omega)
  rw [hy.out] at c2
  obtain ⟨w3, hW3⟩ : ∃ w3, w2.setCell ⟨g, d.toNat, none⟩ (.int .i64 p) = w3 := ⟨_, rfl⟩
  rw [hW3] at HN2 hf2
  have c3 : w3.cell? ⟨g, 31, none⟩ = some (.slice (some ⟨gh, 0, none⟩) lh.length cap) := (HN2.k.cell 31).trans (by rw [List.getElem?_toArray]; exact nc_h _ _ _ _ _ _ HN2.hp HN2.hx)
  obtain ⟨gh', cap', hg', _, hfm⟩ := HN2.h.2.1.form (by omega)
  simp only [Value.slice.injEq, Option.some.injEq, Addr.mk.injEq, true_and, and_true] at hg'
  obtain ⟨rfl, rfl⟩ := hg'
  obtain ⟨hu, f3, hset, hf3⟩ := hfm p.toNat false
  obtain ⟨u, hu⟩ := hu (by omega)
  obtain ⟨w4, hW4⟩ : ∃ w4, w3.setCell ⟨gh, p.toNat, none⟩ (.bool false) = w4 := ⟨_, rfl⟩
  rw [hW4] at hset hf3
  have HN4 : Hid (Nb B g (pl.set d.toNat p) xs ((f + 1) % 20) (m - 1) lv (lh.set p.toNat false) vv (.slice (some ⟨gh, 0, none⟩) lh.length cap) w4) := Lib.hid
    ⟨HN2.hg, HN2.hp, HN2.hx, HN2.k.fr hf3 HN2.nh, ⟨HN2.v.1, HN2.v.2.1.fr hf3 (fun k hk hk' => HN2.v.2.1.types HN2.h.2.1 (by decide) k hk hk'), HN2.v.2.2⟩, ⟨⟨_, _, by rw [List.length_set]⟩, hset, HN2.h.2.2⟩, HN2.nv, HN2.nh⟩
  have hf3' := hf3.mono (S' := fun k => k = gh) (fun k hk => (hob.out k).1 hk)
  replace k0 := Lib.hid (((k0.out.below hb2.out).fr hf2 (by omega)).fr hf3' (by omega))
  replace k2 := Lib.hid ((k2.out.fr hf2 (by omega)).fr hf3' (by omega))
  have F4 : Hid (Fr (fun k => (k = g ∨ k = gh) ∨ w.heap.size ≤ k) w w4) := Lib.hid (((F1.out.trans (Fr.of_below hb2.out)).trans (hf2.mono (fun k hk => .inl (.inl hk)))).trans (hf3'.mono (fun k hk => .inl (.inr hk))))
  have r0 := k0.out.cell 0; have r1 := k0.out.cell 1; have r2 := k0.out.cell 2; have rf := k0.out.frozen
  have t0 := k2.out.cell 0; have t1 := k2.out.cell 1; have t2 := k2.out.cell 2
  simp at r0 r1 r2 t0 t1 t2
  have n1 : w1.heap.size ≠ w.heap.size := by omega
  have n2 : w.heap.size ≠ w1.heap.size := by omega
  clear hfm hset hf3 hf3' hf2 HN2 F1 HN hfr H
  go_wp2_with fail
  refine bodyPost_ret (v := .tuple #[.agg #[.int .i64 d, .int .i64 p, .int .i64 y], .bool true]) (by simp [results, Try.results66, go_sem, r0, r1, r2, n1, n2]) rfl ?_
  have hFF : ∀ wf, Fr (fun k => k = w.heap.size) w4 wf → Ending.returned (.tuple #[.agg #[.int .i64 d, .int .i64 p, .int .i64 y], .bool true]) = .returned (.tuple #[.agg #[.int .i64 d, .int .i64 p, .int .i64 y], .bool true]) ∧ Hid (Nb B g (pl.set d.toNat p) xs ((f + 1) % 20) (m - 1) lv (lh.set p.toNat false) vv (.slice (some ⟨gh, 0, none⟩) lh.length cap) wf) ∧ Hid (Fr (fun k => k = g ∨ obk (.slice (some ⟨gh, 0, none⟩) lh.length cap) = some k) w wf) := fun wf hf =>
    ⟨rfl, HN4.out.fr hf (by omega) (fun k hk => by have := hvl.out k hk; omega) (fun k hk => by have := hhl.out k hk; omega), Fr.old ((F4.out.trans (hf.mono (fun k hk => .inr (by omega)))).mono (fun k hk => hk.imp (fun h => h.imp id (fun e => (hob.out k).2 e)) id))⟩
  refine hFF _ ?_
  repeat (first | exact Fr.refl _ _ | refine Fr.trans ?_ (Fr.set (by exact rfl) _))
end Go.Proofs.Ytiemacjmipiakaa.Nm
