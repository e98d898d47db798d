/- The law FnExactMulDo, as a plain statement over numbers and lists (no Go, no memory): ∀ (a0 : Int) (a1 : Int), (Lit.int .i64 a0).wf = true → (Lit.int .i64 a1).wf = true → laws_FnExactMulDo.f a0 a1 = some true
It holds for all such arguments; there are no further conditions. -/
import Derived.Test.YtekaogbnpncpaaaPFnExactMulDox1
import Derived.Test.YtekaogbnpncpaaaPlain
set_option linter.unusedVariables false
set_option linter.unusedSimpArgs false
namespace Go.Proofs.Ytekaogbnpncpaaa.Pure
open Go.RowKit Go.Proofs.Ytekaogbnpncpaaa.PFnExactMulDo Go.Proofs.YtekaogbnpncpaaaW.PrintWords Go.Proofs.YtekaogbnpncpaaaW.PrintLast Go.Proofs.Ytekaogbnpncpaaa.Plain
theorem c_spec_l1In (a b c : Int) : spec_l1In.f a b c = some (decide (b ≤ a ∧ a ≤ c)) := by
  unfold spec_l1In.f
  by_cases h : b ≤ a
  · rw [if_pos (by omega)]; simp [h]
  · rw [if_neg (by omega)]; simp [h]
theorem c_spec_WrdOk (a : Int) : spec_WrdOk.f a = some (decide (0 ≤ a ∧ a < 65536)) := by
  unfold spec_WrdOk.f
  rw [c_spec_l1In]; simp only [Option.bind_some]
  congr 1
  exact decide_eq_decide.2 (by omega)
theorem c_spec_l1Wrap (a : Int) : spec_l1Wrap.f a = some (a % 65536) := by
  unfold spec_l1Wrap.f
  rw [(tmod_word a).2]
theorem mul_word {a b : Int} (h0 : 0 ≤ a) (h1 : a < 65536) (h2 : 0 ≤ b) (h3 : b < 65536) : 0 ≤ a * b ∧ a * b ≤ 4294836225 := by
  refine ⟨Int.mul_nonneg h0 h2, ?_⟩
  have := Int.mul_le_mul (show a ≤ 65535 by omega) (show b ≤ 65535 by omega) h2 (show (0 : Int) ≤ 65535 by omega)
  omega
theorem c_spec_MulDo (a b : Int) : spec_MulDo.f a b = some (if (0 ≤ a ∧ a < 65536) ∧ (0 ≤ b ∧ b < 65536) then a * b % 65536 else -1) := by
  unfold spec_MulDo.f
  rw [c_spec_WrdOk, c_spec_WrdOk]
  by_cases h : 0 ≤ a ∧ a < 65536
  · by_cases h' : 0 ≤ b ∧ b < 65536
    · have hm := mul_word h.1 h.2 h'.1 h'.2
      simp only [h, h', Option.bind_some, decide_true, and_self, if_true, c_spec_l1Wrap]
      rw [w64 (by omega) (by omega)]
    · simp only [h, h', Option.bind_some, decide_true, decide_false, and_false, and_self, if_true, if_false, Bool.false_eq_true]
  · simp only [h, Option.bind_some, decide_false, false_and, if_false, Bool.false_eq_true]
theorem c_impl_WrdOk (a : Int) : impl_WrdOk.f a = some (decide (0 ≤ a ∧ a < 65536)) := by
  unfold impl_WrdOk.f
  by_cases h : 0 ≤ a
  · rw [if_pos (by omega)]; simp [h]
  · rw [if_neg (by omega)]; simp [h]
theorem c_impl_MulDo (a b : Int) : impl_MulDo.f a b = some (if (0 ≤ a ∧ a < 65536) ∧ (0 ≤ b ∧ b < 65536) then a * b % 65536 else -1) := by
  unfold impl_MulDo.f
  rw [c_impl_WrdOk, c_impl_WrdOk]
  by_cases h : 0 ≤ a ∧ a < 65536
  · by_cases h' : 0 ≤ b ∧ b < 65536
    · simp only [h, h', Option.bind_some, decide_true, and_self, if_true, u16w_id h.1 h.2, u16w_id h'.1 h'.2]
      rw [u16w, w64 (by omega) (by omega)]
    · simp only [h, h', Option.bind_some, decide_true, decide_false, and_false, and_self, if_true, if_false, Bool.false_eq_true]
  · simp only [h, Option.bind_some, decide_false, false_and, if_false, Bool.false_eq_true]
theorem FnExactMulDo : laws_FnExactMulDo.Pure := by
  intro a b _ _
  unfold laws_FnExactMulDo.f
  rw [c_spec_MulDo, c_impl_MulDo]
  simp
end Go.Proofs.Ytekaogbnpncpaaa.Pure
