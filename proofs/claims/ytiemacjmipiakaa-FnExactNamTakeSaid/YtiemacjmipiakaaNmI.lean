/- The law FnExactNamOk, walked. -/
import Derived.Test.YtiemacjmipiakaaNmH
import Derived.Test.YtiemacjmipiakaaNmC
namespace Go.Proofs.Ytiemacjmipiakaa.Nm
open Go.RowKit Go.Proofs.Ytiemacjmipiakaa.Hw
set_option linter.unusedVariables false
set_option linter.unusedSimpArgs false
/-- A bool that says whether. -/
theorem bool_of (p : Prop) : ∃ b : Bool, b = true ↔ p := by
  by_cases h : p
  · exact ⟨true, by simp [h]⟩
  · exact ⟨false, by simp [h]⟩
/-- The four cells of a state's box. -/
theorem box4 {w : World} {g : Nat} {a0 a1 a2 a3 : Value} {t : TypeId} (h : Bk w g #[a0, a1, a2, a3] t) : w.cell? ⟨g, 0, none⟩ = some a0 ∧ w.cell? ⟨g, 1, none⟩ = some a1 ∧ w.cell? ⟨g, 2, none⟩ = some a2 ∧ w.cell? ⟨g, 3, none⟩ = some a3 :=
  ⟨by simpa using h.cell 0, by simpa using h.cell 1, by simpa using h.cell 2, by simpa using h.cell 3⟩
/-- Behind the boxes of the argument and of a state that the law made. -/
structure Ex (V X : Sv) (s : St) (bx : Nat) (w w' : World) : Prop where
  bl : Below w.heap.size w w'
  r0 : RdS w V s
  k0 : Bk w' w.heap.size #[V.m, V.f, V.v, V.h] 30
  kx : Bk w' bx #[X.m, X.f, X.v, X.h] 25
  rx : RdS w' X s
theorem Ex.next {V X : Sv} {s : St} {bx : Nat} {w w1 w2 : World} (h : Ex V X s bx w w1) (hb : Below w1.heap.size w1 w2) : Ex V X s bx w w2 := ⟨bl_step h.bl hb, h.r0, h.k0.below hb, h.kx.below hb, h.rx.below hb⟩
def VEx (V X : Sv) (s : St) : Nat → (Nat → Value) → World → Prop
  | 0, f, w' => f 0 = X.agg
  | 1, f, w' => f 1 = V.agg
  | 2, f, w' => ∃ Y : Sv, f 2 = Y.agg ∧ RdS w' Y s
  | 3, f, w' => f 3 = .bool true
  | 4, f, w' => f 4 = .bool false
  | _, _, _ => True
theorem VEx.keep {V X : Sv} {s : St} (i j : Nat) (f : Nat → Value) (v : Value) (w1 w2 : World) (hij : i ≠ j) (hv : VEx V X s j f w1) (hT : Below w1.heap.size w1 w2) : VEx V X s j (upd f i v) w2 := by
  match j, hv, hij with
  | 0, hv, hij => rw [VEx, upd_ne f i v 0 (Ne.symm hij)]; exact hv
  | 1, hv, hij => rw [VEx, upd_ne f i v 1 (Ne.symm hij)]; exact hv
  | 2, hv, hij => rw [VEx, upd_ne f i v 2 (Ne.symm hij)]; obtain ⟨Y, e, h⟩ := hv; exact ⟨Y, e, h.below hT⟩
  | 3, hv, hij => rw [VEx, upd_ne f i v 3 (Ne.symm hij)]; exact hv
  | 4, hv, hij => rw [VEx, upd_ne f i v 4 (Ne.symm hij)]; exact hv
  | n + 5, _, _ => exact trivial
end Go.Proofs.Ytiemacjmipiakaa.Nm
