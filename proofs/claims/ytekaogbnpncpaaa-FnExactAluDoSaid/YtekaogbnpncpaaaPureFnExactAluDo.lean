/- The law FnExactAluDo, as a plain statement over numbers and lists (no Go, no memory): ∀ (a0 : Int) (a1 : Int) (a2 : Int), (Lit.int .i64 a0).wf = true → (Lit.int .i64 a1).wf = true → (Lit.int .i64 a2).wf = true → ∃ k, laws_FnExactAluDo.f k a0 a1 a2 = some true
It holds for all such arguments; there are no further conditions. -/
import Derived.Test.YtekaogbnpncpaaaPFnExactAluDox2
import Derived.Test.YtekaogbnpncpaaaPlain
set_option linter.unusedVariables false
set_option linter.unusedSimpArgs false
namespace Go.Proofs.Ytekaogbnpncpaaa.Pure
open Go.RowKit Go.Proofs.Ytekaogbnpncpaaa.PFnExactAluDo Go.Proofs.YtekaogbnpncpaaaW.PrintWords Go.Proofs.YtekaogbnpncpaaaW.PrintLast Go.Proofs.Ytekaogbnpncpaaa.Plain
theorem c_spec_l1In (a b c : Int) : spec_l1In.f a b c = some (decide (b ≤ a ∧ a ≤ c)) := by
  unfold spec_l1In.f
  by_cases h : b ≤ a
  · rw [if_pos (by omega)]; simp [h]
  · rw [if_neg (by omega)]; simp [h]
theorem c_spec_WrdOk (a : Int) : spec_WrdOk.f a = some (decide (0 ≤ a ∧ a < 65536)) := by
  unfold spec_WrdOk.f
  rw [c_spec_l1In]; simp only [Option.bind_some]
  congr 1
  exact decide_eq_decide.2 (by omega)
theorem c_spec_WrdInt (a : Int) : spec_WrdInt.f a = some (if 0 ≤ a ∧ a < 65536 then (a + 32768) % 65536 - 32768 else 0) := by
  unfold spec_WrdInt.f
  rw [c_spec_WrdOk]
  by_cases h : 0 ≤ a ∧ a < 65536
  · simp only [h, Option.bind_some, decide_true, and_self, if_true]
    split
    · rw [w64 (by omega) (by omega)]; congr 1; omega
    · congr 1; omega
  · simp only [h, Option.bind_some, decide_false, Bool.false_eq_true, if_false]
theorem c_spec_l1Wrap (a : Int) : spec_l1Wrap.f a = some (a % 65536) := by
  unfold spec_l1Wrap.f
  rw [(tmod_word a).2]
theorem c_spec_l1Bits {f a b : Int} (h : 0 ≤ a ∧ a < 65536) (h' : 0 ≤ b ∧ b < 65536) : spec_l1Bits.f f a b = some (if f = 2 then nand a b else if f = 3 then nor a b else nxor a b) := by
  unfold spec_l1Bits.f
  rw [and_i64 h.1 (by omega) h'.1 (by omega), or_i64 h.1 (by omega) h'.1 (by omega), xor_i64 h.1 (by omega) h'.1 (by omega)]
  repeat' (split; · rfl)
  rfl
theorem c_spec_AluDo {k : Nat} (hk : 1 < k) (f a b : Int) : spec_AluDo.f k f a b = some (if (0 ≤ a ∧ a < 65536) ∧ (0 ≤ b ∧ b < 65536) then alu f a b else -1) := by
  obtain ⟨k, rfl⟩ : ∃ m, k = m + 2 := ⟨k - 2, by omega⟩
  unfold spec_AluDo.f
  rw [c_spec_WrdOk, c_spec_WrdOk]
  by_cases h : 0 ≤ a ∧ a < 65536
  · by_cases h' : 0 ≤ b ∧ b < 65536
    · simp only [h, h', Option.bind_some, decide_true, and_self, if_true, Bool.not_true]
      have e : ∀ f c, spec_AluDo.j1 (k + 1) f a b f c = some (if c = true then (if f = 2 then nand a b else if f = 3 then nor a b else nxor a b) else if f = 5 then (if (a + 32768) % 65536 < (b + 32768) % 65536 then 1 else 0) else if f = 6 then a * 2 ^ (b % 16).toNat % 65536 else if f = 7 then a / 2 ^ (b % 16).toNat else -1) := by
        intro f c
        simp only [spec_AluDo.j1]
        rw [c_spec_l1Bits h h', c_spec_WrdInt, c_spec_WrdInt, tmod_pos h'.1, if_pos (show 0 ≤ b % 16 by omega), if_pos (show 0 ≤ b % 16 by omega), c_spec_l1Wrap, shl_i64 h.1 h.2 (by omega) (by omega), shr_i64 (by omega) (by omega)]
        simp only [h, h', Option.bind_some, and_self, if_true]
        cases c
        · simp only [Bool.false_eq_true, if_false]
          by_cases h5 : f = 5
          · subst h5
            simp only [if_true]
            by_cases hl : (a + 32768) % 65536 < (b + 32768) % 65536
            · rw [if_pos hl, if_pos (by omega)]
            · rw [if_neg hl, if_neg (by omega)]
          · rw [if_neg h5, if_neg h5]
            repeat' (split; · rfl)
            rfl
        · simp only [if_true]
      simp only [spec_AluDo.j0, e, c_spec_l1Wrap, Option.bind_some, Bool.false_eq_true, if_false]
      rw [w64 (n := a + b) (by omega) (by omega), w64 (n := a - b) (by omega) (by omega)]
      unfold alu
      by_cases h0 : f = 0
      · simp only [h0, if_true]
      by_cases h1 : f = 1
      · subst h1; rfl
      by_cases h2 : f = 2
      · subst h2; rfl
      by_cases h3 : f = 3
      · subst h3; rfl
      by_cases h4 : f = 4
      · subst h4; rfl
      have e4 : (f == 4) = false := by simpa using h4
      simp only [h0, h1, h2, h3, h4, e4, if_false, Bool.false_eq_true]
    · simp only [h, h', Option.bind_some, decide_true, decide_false, and_false, and_self, if_true, if_false, Bool.not_false]
      simp only [spec_AluDo.j0, if_true]
  · simp only [h, Option.bind_some, decide_false, false_and, if_false, Bool.false_eq_true]
    simp only [spec_AluDo.j0, if_true]
theorem c_impl_WrdOk (a : Int) : impl_WrdOk.f a = some (decide (0 ≤ a ∧ a < 65536)) := by
  unfold impl_WrdOk.f
  by_cases h : 0 ≤ a
  · rw [if_pos (by omega)]; simp [h]
  · rw [if_neg (by omega)]; simp [h]
theorem c_impl_signed {a : Int} (h0 : 0 ≤ a) (h1 : a < 65536) : impl_word_signed.f (IntKind.u16.wrap a) = some ((a + 32768) % 65536 - 32768) := by
  unfold impl_word_signed.f
  rw [u16w_id h0 h1, i16w, w64 (by omega) (by omega)]
theorem c_impl_less {a b : Int} (h0 : 0 ≤ a) (h1 : a < 65536) (h2 : 0 ≤ b) (h3 : b < 65536) :
    impl_word_less.f (IntKind.u16.wrap a) (IntKind.u16.wrap b) = some (if (a + 32768) % 65536 < (b + 32768) % 65536 then 1 else 0) := by
  unfold impl_word_less.f
  rw [c_impl_signed h0 h1, c_impl_signed h2 h3]; simp only [Option.bind_some]
  by_cases h : (a + 32768) % 65536 < (b + 32768) % 65536
  · rw [if_pos h, if_pos (by omega)]
  · rw [if_neg h, if_neg (by omega)]
theorem c_impl_left {a b : Int} (h0 : 0 ≤ a) (h1 : a < 65536) (h2 : 0 ≤ b) (h3 : b < 65536) :
    impl_word_left.f (IntKind.u16.wrap a) (IntKind.u16.wrap b) = some (a * 2 ^ (b % 16).toNat % 65536) := by
  unfold impl_word_left.f
  rw [u16w_id h0 h1, u16w_id h2 h3, tmod_pos h2, if_pos (by omega), shl_u16 (by omega) (by omega)]
theorem c_impl_right {a b : Int} (h0 : 0 ≤ a) (h1 : a < 65536) (h2 : 0 ≤ b) (h3 : b < 65536) :
    impl_word_right.f (IntKind.u16.wrap a) (IntKind.u16.wrap b) = some (a / 2 ^ (b % 16).toNat) := by
  unfold impl_word_right.f
  rw [u16w_id h0 h1, u16w_id h2 h3, tmod_pos h2, if_pos (by omega), shr_u16 (by omega) (by omega)]
theorem c_impl_AluDo {k : Nat} (hk : 0 < k) (f a b : Int) : impl_AluDo.f k f a b = some (if (0 ≤ a ∧ a < 65536) ∧ (0 ≤ b ∧ b < 65536) then alu f a b else -1) := by
  obtain ⟨k, rfl⟩ : ∃ m, k = m + 1 := ⟨k - 1, by omega⟩
  unfold impl_AluDo.f
  rw [c_impl_WrdOk, c_impl_WrdOk]
  by_cases h : 0 ≤ a ∧ a < 65536
  · by_cases h' : 0 ≤ b ∧ b < 65536
    · simp only [h, h', Option.bind_some, decide_true, and_self, if_true, Bool.not_true]
      simp only [impl_AluDo.j0]
      rw [c_impl_less h.1 h.2 h'.1 h'.2, c_impl_left h.1 h.2 h'.1 h'.2, c_impl_right h.1 h.2 h'.1 h'.2, u16w_id h.1 h.2, u16w_id h'.1 h'.2,
        and_u16 h.1 h.2 h'.1 h'.2, or_u16 h.1 h.2 h'.1 h'.2, xor_u16 h.1 h.2 h'.1 h'.2, u16w, u16w]
      simp only [Option.bind_some, Bool.false_eq_true, if_false]
      have h4 := nand_lt h.1 h.2 h'.1 h'.2
      have h5 := nor_lt h.1 h.2 h'.1 h'.2
      have h6 := nxor_lt h.1 h.2 h'.1 h'.2
      have h7 := div_pow_le (b % 16).toNat h.1
      unfold alu
      rw [w64 (n := (a + b) % 65536) (by omega) (by omega), w64 (n := (a - b) % 65536) (by omega) (by omega), w64 (n := nand a b) (by omega) (by omega), w64 (n := nor a b) (by omega) (by omega),
        w64 (n := nxor a b) (by omega) (by omega), w64 (n := if (a + 32768) % 65536 < (b + 32768) % 65536 then 1 else 0) (by split <;> omega) (by split <;> omega), w64 (n := a * 2 ^ (b % 16).toNat % 65536) (by omega) (by omega), w64 (n := a / 2 ^ (b % 16).toNat) (by omega) (by omega)]
      repeat' (split; · rfl)
      rfl
    · simp only [h, h', Option.bind_some, decide_true, decide_false, and_false, and_self, if_true, if_false, Bool.not_false]
      simp only [impl_AluDo.j0, if_true]
  · simp only [h, Option.bind_some, decide_false, false_and, if_false, Bool.false_eq_true]
    simp only [impl_AluDo.j0, if_true]
theorem FnExactAluDo : laws_FnExactAluDo.Pure := by
  intro f a b _ _ _
  refine ⟨2, ?_⟩
  unfold laws_FnExactAluDo.f
  rw [c_spec_AluDo (by omega), c_impl_AluDo (by omega)]
  simp
end Go.Proofs.Ytekaogbnpncpaaa.Pure
