/- How arguments read: a slice of whole numbers or of bools as a list. Plain laws over any program; the conditions are those that each states. -/
import Derived.Test.YtiemacjmipiakaaHw
import Derived.Lib.SmallJoins
import Derived.ProofKit
import Derived.Deep.Slices
import Derived.Deep.Fields
import Derived.Deep.Grids
import Derived.ChangeSame
namespace Go.Proofs.Ytiemacjmipiakaa.Op
open Go.Joins Go.ChangeShapes Go.WideShapes Go.RowKit Go.Proofs.Ytiemacjmipiakaa.Hw
set_option linter.unusedVariables false
section
variable {H : Type} {enc : TypeId × Value → H} {P : Program} {w : World} {base : Nat} {held : Bool}
theorem rd_of {α : Type} {en : α → Value} {d : α} {a : Addr} {len cap : Nat} {B : Nat → α} (hl : len ≤ cap) (hm : cap ≤ maxLen) (hc : ∀ i, i < cap → w.cell? (a.add i) = some (en (B i))) : Rd en w (.slice (some a) len cap) ((List.range len).map B) := by
  have hlen : ((List.range len).map B).length = len := by simp
  refine ⟨some a, cap, by rw [hlen], by rw [hlen]; exact hl, by rw [hlen]; simp only [maxLen] at hm; omega, fun _ => ⟨a, rfl, fun j x hj => ?_⟩⟩
  rw [List.getElem?_map] at hj
  obtain ⟨q, hq, rfl⟩ := Option.map_eq_some_iff.mp hj
  have hjl : j < len := by
    rcases Nat.lt_or_ge j len with h | h
    · exact h
    · rw [List.getElem?_eq_none (by simpa using h)] at hq; cases hq
  rw [List.getElem?_range hjl] at hq
  obtain rfl := Option.some.inj hq
  exact hc _ (by omega)
/-- A field that is a slice of whole numbers. -/
theorem ints_rd {k : IntKind} {t e n : Nat} {v : Value} {y : DataW H × List MemPlace} (hu : P.underlying t = some (.slice e)) (he : P.underlying e = some (.int k)) (hc : P.cellsOf e = 1)
    (h : DataW.trod enc P w base (fun _ => true) held n t [v] = some y) : ∃ l : List Int, Rd (Value.int k) w v l ∧ ∀ x ∈ l, (Lit.int k x).wf = true := by
  rcases open_ints hu he hc h with ⟨hcs, _⟩ | ⟨x, l, c, zs, hcs, _, hl, hm, hz, _, hcell, hwz⟩
  · obtain rfl : v = .slice none 0 0 := by simpa using hcs
    exact ⟨[], Rd.nil w, fun x hx => by cases hx⟩
  · obtain rfl : v = .slice (some x) l c := by simpa using hcs
    have hz' : zs.length = c := by simpa using hz
    refine ⟨(List.range l).map (fun i => zs.getD i 0), rd_of (d := 0) hl hm (fun i hi => hcell i (by omega)), fun n hn => ?_⟩
    obtain ⟨i, hi, rfl⟩ := List.mem_map.mp hn
    have hi' : i < zs.length := by have := List.mem_range.mp hi; omega
    rw [List.getD_eq_getElem?_getD, List.getElem?_eq_getElem hi']
    exact hwz _ (List.getElem_mem hi')
/-- A field that is a slice of bools. -/
theorem bools_rd {t e n : Nat} {v : Value} {y : DataW H × List MemPlace} (hu : P.underlying t = some (.slice e)) (he : P.underlying e = some .bool) (hc : P.cellsOf e = 1)
    (h : DataW.trod enc P w base (fun _ => true) held n t [v] = some y) : ∃ l : List Bool, Rd Value.bool w v l := by
  rcases Go.Deep.open_bools hu he hc h with ⟨hcs, _⟩ | ⟨x, l, c, B, hcs, _, hl, hm, _, hcell⟩
  · obtain rfl : v = .slice none 0 0 := by simpa using hcs
    exact ⟨[], Rd.nil w⟩
  · obtain rfl : v = .slice (some x) l c := by simpa using hcs
    exact ⟨(List.range l).map B, rd_of (d := false) hl hm hcell⟩
end
end Go.Proofs.Ytiemacjmipiakaa.Op
