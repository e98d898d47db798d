/- The law FnExactWrdSign, as a plain statement over numbers and lists (no Go, no memory): ∀ (a0 : Int) (a1 : Int), (Lit.int .i64 a0).wf = true → (Lit.int .i64 a1).wf = true → ∃ k, laws_FnExactWrdSign.f k a0 a1 = some true
It holds for all such arguments; there are no further conditions. -/
import Derived.Test.YtekaogbnpncpaaaPFnExactWrdSignx1
import Derived.Test.YtekaogbnpncpaaaPlain
set_option linter.unusedVariables false
set_option linter.unusedSimpArgs false
namespace Go.Proofs.Ytekaogbnpncpaaa.Pure
open Go.RowKit Go.Proofs.Ytekaogbnpncpaaa.PFnExactWrdSign Go.Proofs.YtekaogbnpncpaaaW.PrintWords Go.Proofs.YtekaogbnpncpaaaW.PrintLast Go.Proofs.Ytekaogbnpncpaaa.Plain
theorem c_spec_l1In (a b c : Int) : spec_l1In.f a b c = some (decide (b ≤ a ∧ a ≤ c)) := by
  unfold spec_l1In.f
  by_cases h : b ≤ a
  · rw [if_pos (by omega)]; simp [h]
  · rw [if_neg (by omega)]; simp [h]
theorem c_spec_l1Wrap (a : Int) : spec_l1Wrap.f a = some (a % 65536) := by
  unfold spec_l1Wrap.f
  rw [(tmod_word a).2]
theorem c_spec_WrdSign {k : Nat} (hk : 0 < k) {n bits : Int} (hn : -9223372036854775808 ≤ n ∧ n ≤ 9223372036854775807) : spec_WrdSign.f k n bits = some (sgn n bits) := by
  obtain ⟨k, rfl⟩ : ∃ m, k = m + 1 := ⟨k - 1, by omega⟩
  unfold spec_WrdSign.f sgn
  rw [c_spec_l1In]; simp only [Option.bind_some]
  by_cases h : 1 ≤ bits ∧ bits ≤ 16
  · obtain ⟨p0, p1, p2⟩ := pow_half h.1 h.2
    rw [decide_eq_true h, if_pos rfl, if_pos (by omega), if_pos h, c_spec_l1In, shl_one (by omega) (by omega), p0]
    simp only [Option.bind_some]
    rw [w64 (n := 2 * 2 ^ (bits - 1).toNat - 1) (by omega) (by omega)]
    by_cases h2 : 0 ≤ n ∧ n ≤ 2 * 2 ^ (bits - 1).toNat - 1
    · rw [decide_eq_true h2, if_pos (by omega)]
      simp only [spec_WrdSign.j0, Bool.not_true, Bool.false_eq_true, if_false]
      rw [w64 (n := bits - 1) (by omega) (by omega), if_pos (by omega), shl_one (by omega) (by omega), shl_one (by omega) (by omega), p0]
      by_cases h4 : n < 2 ^ (bits - 1).toNat
      · rw [if_neg (by omega), if_pos h4]
      · rw [if_pos (by omega), if_neg h4, if_pos (by omega), c_spec_l1Wrap, w64 (n := n - 2 * 2 ^ (bits - 1).toNat) (by omega) (by omega)]
        rfl
    · rw [decide_eq_false h2, if_neg (by omega)]
      simp only [spec_WrdSign.j0, Bool.not_false, if_true]
  · rw [decide_eq_false h, if_neg (by decide), if_neg h]
    simp only [spec_WrdSign.j0, if_true]
theorem c_impl_wrapped (a : Int) : impl_wrapped.f a = some (a % 65536) := by
  unfold impl_wrapped.f
  rw [u16w, w64 (by omega) (by omega)]
theorem c_impl_WrdSign {k : Nat} (hk : 1 < k) {n bits : Int} (hn : -9223372036854775808 ≤ n ∧ n ≤ 9223372036854775807) : impl_WrdSign.f k n bits = some (sgn n bits) := by
  obtain ⟨k, rfl⟩ : ∃ m, k = m + 2 := ⟨k - 2, by omega⟩
  unfold impl_WrdSign.f sgn
  by_cases h : 1 ≤ bits ∧ bits ≤ 16
  · obtain ⟨p0, p1, p2⟩ := pow_half h.1 h.2
    rw [if_neg (by omega), decide_eq_false (by omega), if_pos h]
    simp only [impl_WrdSign.j0, Bool.false_eq_true, if_false]
    rw [u64w_id (by omega) (by omega), shl_one (by omega) (by omega), if_pos (by omega), p0]
    generalize (2 : Int) ^ (bits - 1).toNat = P at *
    by_cases h2 : n < 0
    · rw [if_pos h2, if_neg (by omega)]
      simp only [impl_WrdSign.j1, if_true]
    · rw [if_neg h2]
      by_cases h3 : n < 2 * P
      · rw [decide_eq_false (by omega), if_pos (by omega)]
        simp only [impl_WrdSign.j1, Bool.false_eq_true, if_false]
        rw [tdiv_pos (by omega), w64 (n := 2 * P / 2) (by omega) (by omega), c_impl_wrapped, w64 (n := n - 2 * P) (by omega) (by omega)]
        simp only [Option.bind_some]
        by_cases h4 : n < P
        · rw [if_pos (by omega), if_pos h4]
        · rw [if_neg (by omega), if_neg h4]
      · rw [decide_eq_true (by omega), if_neg (by omega)]
        simp only [impl_WrdSign.j1, if_true]
  · rw [if_neg h]
    by_cases h1 : bits < 1
    · rw [if_pos h1]
      simp only [impl_WrdSign.j0, if_true]
    · rw [if_neg h1, decide_eq_true (by omega)]
      simp only [impl_WrdSign.j0, if_true]
theorem FnExactWrdSign : laws_FnExactWrdSign.Pure := by
  intro n bits hn _
  refine ⟨2, ?_⟩
  unfold laws_FnExactWrdSign.f
  rw [c_spec_WrdSign (by omega) (wf_i64 hn), c_impl_WrdSign (by omega) (wf_i64 hn)]
  simp
end Go.Proofs.Ytekaogbnpncpaaa.Pure
