/- The law FnExactWrdInt, as a plain statement over numbers and lists (no Go, no memory): ∀ (a0 : Int), (Lit.int .i64 a0).wf = true → laws_FnExactWrdInt.f a0 = some true
It holds for all such arguments; there are no further conditions. -/
import Derived.Test.YtekaogbnpncpaaaPFnExactWrdIntx1
import Derived.Test.YtekaogbnpncpaaaPlain
set_option linter.unusedVariables false
set_option linter.unusedSimpArgs false
namespace Go.Proofs.Ytekaogbnpncpaaa.Pure
open Go.RowKit Go.Proofs.Ytekaogbnpncpaaa.PFnExactWrdInt Go.Proofs.YtekaogbnpncpaaaW.PrintWords Go.Proofs.YtekaogbnpncpaaaW.PrintLast Go.Proofs.Ytekaogbnpncpaaa.Plain
theorem c_spec_l1In (a b c : Int) : spec_l1In.f a b c = some (decide (b ≤ a ∧ a ≤ c)) := by
  unfold spec_l1In.f
  by_cases h : b ≤ a
  · rw [if_pos (by omega)]; simp [h]
  · rw [if_neg (by omega)]; simp [h]
theorem c_spec_WrdOk (a : Int) : spec_WrdOk.f a = some (decide (0 ≤ a ∧ a < 65536)) := by
  unfold spec_WrdOk.f
  rw [c_spec_l1In]; simp only [Option.bind_some]
  congr 1
  exact decide_eq_decide.2 (by omega)
theorem c_spec_WrdInt (a : Int) : spec_WrdInt.f a = some (if 0 ≤ a ∧ a < 65536 then (a + 32768) % 65536 - 32768 else 0) := by
  unfold spec_WrdInt.f
  rw [c_spec_WrdOk]
  by_cases h : 0 ≤ a ∧ a < 65536
  · simp only [h, Option.bind_some, decide_true, and_self, if_true]
    split
    · rw [w64 (by omega) (by omega)]; congr 1; omega
    · congr 1; omega
  · simp only [h, Option.bind_some, decide_false, Bool.false_eq_true, if_false]
theorem c_impl_WrdOk (a : Int) : impl_WrdOk.f a = some (decide (0 ≤ a ∧ a < 65536)) := by
  unfold impl_WrdOk.f
  by_cases h : 0 ≤ a
  · rw [if_pos (by omega)]; simp [h]
  · rw [if_neg (by omega)]; simp [h]
theorem c_impl_signed {a : Int} (h0 : 0 ≤ a) (h1 : a < 65536) : impl_word_signed.f (IntKind.u16.wrap a) = some ((a + 32768) % 65536 - 32768) := by
  unfold impl_word_signed.f
  rw [u16w_id h0 h1, i16w, w64 (by omega) (by omega)]
theorem c_impl_WrdInt (a : Int) : impl_WrdInt.f a = some (if 0 ≤ a ∧ a < 65536 then (a + 32768) % 65536 - 32768 else 0) := by
  unfold impl_WrdInt.f
  rw [c_impl_WrdOk]
  by_cases h : 0 ≤ a ∧ a < 65536
  · simp only [h, Option.bind_some, decide_true, and_self, if_true, c_impl_signed h.1 h.2]
  · simp only [h, Option.bind_some, decide_false, Bool.false_eq_true, if_false]
theorem FnExactWrdInt : laws_FnExactWrdInt.Pure := by
  intro a _
  unfold laws_FnExactWrdInt.f
  rw [c_spec_WrdInt, c_impl_WrdInt]
  simp
end Go.Proofs.Ytekaogbnpncpaaa.Pure
