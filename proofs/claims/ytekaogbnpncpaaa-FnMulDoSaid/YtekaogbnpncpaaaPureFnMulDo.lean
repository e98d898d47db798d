/- The law FnMulDo, as a plain statement over numbers and lists (no Go, no memory): ∀ (l0 : List Int) (l1 : List Int), l0.length ≤ maxLen → l0.length * 1 ≤ 140737488351232 → (∀ x ∈ l0, (Lit.int .u8 x).wf = true) → l1.length ≤ maxLen → l1.length * 1 ≤ 140737488351232 → (∀ x ∈ l1, (Lit.int .u8 x).wf = true) → ∃ k, laws_FnMulDo.f k l0 l1 = some true
It holds for all such arguments; there are no further conditions. -/
import Derived.Test.YtekaogbnpncpaaaTFnMulDo
import Derived.Test.YtekaogbnpncpaaaPlain
set_option linter.unusedVariables false
set_option linter.unusedSimpArgs false
namespace Go.Proofs.Ytekaogbnpncpaaa.Pure
open Go.RowKit Go.Proofs.Ytekaogbnpncpaaa.PFnMulDo Go.Proofs.YtekaogbnpncpaaaW.PrintWords Go.Proofs.YtekaogbnpncpaaaW.PrintLast Go.Proofs.Ytekaogbnpncpaaa.Plain
theorem c_spec_l1In (a b c : Int) : spec_l1In.f a b c = some (decide (b ≤ a ∧ a ≤ c)) := by
  unfold spec_l1In.f
  by_cases h : b ≤ a
  · rw [if_pos (by omega)]; simp [h]
  · rw [if_neg (by omega)]; simp [h]
theorem c_spec_WrdOk (a : Int) : spec_WrdOk.f a = some (decide (0 ≤ a ∧ a < 65536)) := by
  unfold spec_WrdOk.f
  rw [c_spec_l1In]; simp only [Option.bind_some]
  congr 1
  exact decide_eq_decide.2 (by omega)
theorem c_spec_l1Wrap (a : Int) : spec_l1Wrap.f a = some (a % 65536) := by
  unfold spec_l1Wrap.f
  rw [(tmod_word a).2]
theorem mul_word {a b : Int} (h0 : 0 ≤ a) (h1 : a < 65536) (h2 : 0 ≤ b) (h3 : b < 65536) : 0 ≤ a * b ∧ a * b ≤ 4294836225 := by
  refine ⟨Int.mul_nonneg h0 h2, ?_⟩
  have := Int.mul_le_mul (show a ≤ 65535 by omega) (show b ≤ 65535 by omega) h2 (show (0 : Int) ≤ 65535 by omega)
  omega
theorem c_spec_MulDo (a b : Int) : spec_MulDo.f a b = some (if (0 ≤ a ∧ a < 65536) ∧ (0 ≤ b ∧ b < 65536) then a * b % 65536 else -1) := by
  unfold spec_MulDo.f
  rw [c_spec_WrdOk, c_spec_WrdOk]
  by_cases h : 0 ≤ a ∧ a < 65536
  · by_cases h' : 0 ≤ b ∧ b < 65536
    · have hm := mul_word h.1 h.2 h'.1 h'.2
      simp only [h, h', Option.bind_some, decide_true, and_self, if_true, c_spec_l1Wrap]
      rw [w64 (by omega) (by omega)]
    · simp only [h, h', Option.bind_some, decide_true, decide_false, and_false, and_self, if_true, if_false, Bool.false_eq_true]
  · simp only [h, Option.bind_some, decide_false, false_and, if_false, Bool.false_eq_true]
theorem c_impl_WrdOk (a : Int) : impl_WrdOk.f a = some (decide (0 ≤ a ∧ a < 65536)) := by
  unfold impl_WrdOk.f
  by_cases h : 0 ≤ a
  · rw [if_pos (by omega)]; simp [h]
  · rw [if_neg (by omega)]; simp [h]
theorem c_impl_MulDo (a b : Int) : impl_MulDo.f a b = some (if (0 ≤ a ∧ a < 65536) ∧ (0 ≤ b ∧ b < 65536) then a * b % 65536 else -1) := by
  unfold impl_MulDo.f
  rw [c_impl_WrdOk, c_impl_WrdOk]
  by_cases h : 0 ≤ a ∧ a < 65536
  · by_cases h' : 0 ≤ b ∧ b < 65536
    · simp only [h, h', Option.bind_some, decide_true, and_self, if_true, u16w_id h.1 h.2, u16w_id h'.1 h'.2]
      rw [u16w, w64 (by omega) (by omega)]
    · simp only [h, h', Option.bind_some, decide_true, decide_false, and_false, and_self, if_true, if_false, Bool.false_eq_true]
  · simp only [h, Option.bind_some, decide_false, false_and, if_false, Bool.false_eq_true]
theorem c_haOk : laws_haOk.f = some true := by
  unfold laws_haOk.f
  rw [c_impl_WrdOk]; rfl
theorem c_impl_signed {a : Int} (h0 : 0 ≤ a) (h1 : a < 65536) : impl_word_signed.f (IntKind.u16.wrap a) = some ((a + 32768) % 65536 - 32768) := by
  unfold impl_word_signed.f
  rw [u16w_id h0 h1, i16w, w64 (by omega) (by omega)]
theorem c_impl_less {a b : Int} (h0 : 0 ≤ a) (h1 : a < 65536) (h2 : 0 ≤ b) (h3 : b < 65536) :
    impl_word_less.f (IntKind.u16.wrap a) (IntKind.u16.wrap b) = some (if (a + 32768) % 65536 < (b + 32768) % 65536 then 1 else 0) := by
  unfold impl_word_less.f
  rw [c_impl_signed h0 h1, c_impl_signed h2 h3]; simp only [Option.bind_some]
  by_cases h : (a + 32768) % 65536 < (b + 32768) % 65536
  · rw [if_pos h, if_pos (by omega)]
  · rw [if_neg h, if_neg (by omega)]
theorem c_impl_left {a b : Int} (h0 : 0 ≤ a) (h1 : a < 65536) (h2 : 0 ≤ b) (h3 : b < 65536) :
    impl_word_left.f (IntKind.u16.wrap a) (IntKind.u16.wrap b) = some (a * 2 ^ (b % 16).toNat % 65536) := by
  unfold impl_word_left.f
  rw [u16w_id h0 h1, u16w_id h2 h3, tmod_pos h2, if_pos (by omega), shl_u16 (by omega) (by omega)]
theorem c_impl_right {a b : Int} (h0 : 0 ≤ a) (h1 : a < 65536) (h2 : 0 ≤ b) (h3 : b < 65536) :
    impl_word_right.f (IntKind.u16.wrap a) (IntKind.u16.wrap b) = some (a / 2 ^ (b % 16).toNat) := by
  unfold impl_word_right.f
  rw [u16w_id h0 h1, u16w_id h2 h3, tmod_pos h2, if_pos (by omega), shr_u16 (by omega) (by omega)]
theorem c_impl_AluDo {k : Nat} (hk : 0 < k) (f a b : Int) : impl_AluDo.f k f a b = some (if (0 ≤ a ∧ a < 65536) ∧ (0 ≤ b ∧ b < 65536) then alu f a b else -1) := by
  obtain ⟨k, rfl⟩ : ∃ m, k = m + 1 := ⟨k - 1, by omega⟩
  unfold impl_AluDo.f
  rw [c_impl_WrdOk, c_impl_WrdOk]
  by_cases h : 0 ≤ a ∧ a < 65536
  · by_cases h' : 0 ≤ b ∧ b < 65536
    · simp only [h, h', Option.bind_some, decide_true, and_self, if_true, Bool.not_true]
      simp only [impl_AluDo.j0]
      rw [c_impl_less h.1 h.2 h'.1 h'.2, c_impl_left h.1 h.2 h'.1 h'.2, c_impl_right h.1 h.2 h'.1 h'.2, u16w_id h.1 h.2, u16w_id h'.1 h'.2,
        and_u16 h.1 h.2 h'.1 h'.2, or_u16 h.1 h.2 h'.1 h'.2, xor_u16 h.1 h.2 h'.1 h'.2, u16w, u16w]
      simp only [Option.bind_some, Bool.false_eq_true, if_false]
      have h4 := nand_lt h.1 h.2 h'.1 h'.2
      have h5 := nor_lt h.1 h.2 h'.1 h'.2
      have h6 := nxor_lt h.1 h.2 h'.1 h'.2
      have h7 := div_pow_le (b % 16).toNat h.1
      unfold alu
      rw [w64 (n := (a + b) % 65536) (by omega) (by omega), w64 (n := (a - b) % 65536) (by omega) (by omega), w64 (n := nand a b) (by omega) (by omega), w64 (n := nor a b) (by omega) (by omega),
        w64 (n := nxor a b) (by omega) (by omega), w64 (n := if (a + 32768) % 65536 < (b + 32768) % 65536 then 1 else 0) (by split <;> omega) (by split <;> omega), w64 (n := a * 2 ^ (b % 16).toNat % 65536) (by omega) (by omega), w64 (n := a / 2 ^ (b % 16).toNat) (by omega) (by omega)]
      repeat' (split; · rfl)
      rfl
    · simp only [h, h', Option.bind_some, decide_true, decide_false, and_false, and_self, if_true, if_false, Bool.not_false]
      simp only [impl_AluDo.j0, if_true]
  · simp only [h, Option.bind_some, decide_false, false_and, if_false, Bool.false_eq_true]
    simp only [impl_AluDo.j0, if_true]
theorem c_pick {b : List Int} (hb : ∀ x ∈ b, 0 ≤ x ∧ x ≤ 255) {p n : Int} (hp : 0 ≤ p) (hp1 : p ≤ 1000000) {k : Nat} (hk : 0 < k) :
    ∃ r, spec_l20Rd_pick.f k b p n = some (r, p + 1) ∧ 0 ≤ r ∧ (1 ≤ n → r < n) := by
  obtain ⟨k, rfl⟩ : ∃ m, k = m + 1 := ⟨k - 1, by omega⟩
  have e1 : wrap64 (p + 1) = p + 1 := w64 (by omega) (by omega)
  have e2 : wrap64 (p + 1 - 1) = p := by rw [show p + 1 - 1 = p by omega]; exact w64 (by omega) (by omega)
  have hr : ∀ i, 0 ≤ rd b i ∧ rd b i ≤ 255 := fun i => rd_all hb (by omega) i
  unfold spec_l20Rd_pick.f
  by_cases hn1 : n < 1
  · rw [if_pos hn1, e1]
    exact ⟨0, by simp only [spec_l20Rd_pick.j0, if_true], by omega, by omega⟩
  rw [if_neg hn1, e1]
  by_cases hl0 : b.length = 0
  · refine ⟨0, ?_, by omega, by omega⟩
    have : ((b.length : Int) == 0) = true := by simp [hl0]
    rw [this]
    simp only [spec_l20Rd_pick.j0, if_true]
  have hne : ((b.length : Int) == 0) = false := by simpa using hl0
  have hlp : 0 < (b.length : Int) := by omega
  rw [hne]
  simp only [spec_l20Rd_pick.j0, e2, Bool.false_eq_true, if_false]
  by_cases hk : p < (b.length : Int)
  · rw [if_pos hk, if_pos hp, if_neg (by omega)]
    have h1 := hr p
    rw [w64 (by omega) (by omega), tmod_pos h1.1]
    exact ⟨_, rfl, Int.emod_nonneg _ (by omega), fun _ => Int.emod_lt_of_pos _ (by omega)⟩
  · rw [if_neg hk, if_neg (by omega)]
    have w3 : wrap64 (p * 7) = p * 7 := w64 (by omega) (by omega)
    have w4 : wrap64 (p * 7 + 3) = p * 7 + 3 := w64 (by omega) (by omega)
    have m1 := Int.emod_nonneg p (show (b.length : Int) ≠ 0 by omega)
    have m2 := Int.emod_lt_of_pos p hlp
    have m3 := Int.emod_nonneg (p * 7 + 3) (show (b.length : Int) ≠ 0 by omega)
    have m4 := Int.emod_lt_of_pos (p * 7 + 3) hlp
    have d1 := Int.ediv_nonneg hp (show 0 ≤ (b.length : Int) by omega)
    have d2 := Int.ediv_le_self (b.length : Int) hp
    rw [w3, w4, tmod_pos hp, tmod_pos (show 0 ≤ p * 7 + 3 by omega), tdiv_pos hp, if_pos m1, if_pos m2, if_pos m3, if_pos m4, if_neg (by omega)]
    have v1 := hr (p % (b.length : Int))
    have v2 := hr ((p * 7 + 3) % (b.length : Int))
    generalize rd b (p % (b.length : Int)) = a1 at *
    generalize rd b ((p * 7 + 3) % (b.length : Int)) = a2 at *
    generalize p / (b.length : Int) = d at *
    rw [w64 (n := a1) (by omega) (by omega), w64 (n := a2) (by omega) (by omega), w64 (n := a1 * 131) (by omega) (by omega), w64 (n := a2 * 1117) (by omega) (by omega),
      w64 (n := a1 * 131 + a2 * 1117) (by omega) (by omega), w64 (n := p * 29) (by omega) (by omega), w64 (n := a1 * 131 + a2 * 1117 + p * 29) (by omega) (by omega), w64 (n := d) (by omega) (by omega),
      w64 (n := d * 53) (by omega) (by omega), w64 (n := a1 * 131 + a2 * 1117 + p * 29 + d * 53) (by omega) (by omega)]
    have hX : 0 ≤ a1 * 131 + a2 * 1117 + p * 29 + d * 53 ∧ a1 * 131 + a2 * 1117 + p * 29 + d * 53 ≤ 1000000000 := by omega
    generalize a1 * 131 + a2 * 1117 + p * 29 + d * 53 = X at *
    rw [tdiv_pos hX.1, w64 (n := X / 64) (by omega) (by omega), xor_i64 (by omega) (by omega) (by omega) (by omega)]
    have hx := nxor_lt63 (a := X) (b := X / 64) (by omega) (by omega) (by omega) (by omega)
    rw [tmod_pos hx.1]
    exact ⟨_, rfl, Int.emod_nonneg _ (by omega), fun _ => Int.emod_lt_of_pos _ (by omega)⟩
theorem c_odd {b : List Int} (hb : ∀ x ∈ b, 0 ≤ x ∧ x ≤ 255) {p n : Int} (hp : 0 ≤ p) (hp1 : p ≤ 1000000) {k : Nat} (hk : 0 < k) :
    ∃ r q, spec_l20Rd_odd.f k b p n = some (r, q) ∧ p ≤ q ∧ q ≤ p + 1 := by
  unfold spec_l20Rd_odd.f
  obtain ⟨r, e, _, _⟩ := c_pick hb (n := n) hp hp1 hk
  split
  · rw [e]; exact ⟨_, _, rfl, by simp only []; omega, by simp only []; omega⟩
  · exact ⟨_, _, rfl, by omega, by omega⟩
theorem c_word {b : List Int} (hb : ∀ x ∈ b, 0 ≤ x ∧ x ≤ 255) {p : Int} (n : Int) (hp : 0 ≤ p) (hp1 : p ≤ 900000) {k : Nat} (hk : 0 < k) :
    ∃ r q, spec_l20Word.f k b p n = some (r, q) ∧ (-9223372036854775808 ≤ r ∧ r ≤ 9223372036854775807) ∧ p ≤ q ∧ q ≤ p + 10 := by
  unfold spec_l20Word.f
  obtain ⟨o, p0, e0, l0, u0⟩ := c_odd hb (n := n) hp (by omega) hk
  rw [e0]; simp only [Option.bind_some]
  cases o
  · simp only [Bool.false_eq_true, if_false]
    obtain ⟨r1, e1, a1, b1⟩ := c_pick hb (p := p0) (n := 4) (by omega) (by omega) hk
    rw [e1]; simp only [Option.bind_some]
    obtain ⟨r2, e2, a2, b2⟩ := c_pick hb (p := p0 + 1) (n := 256) (by omega) (by omega) hk
    rw [e2]; simp only [Option.bind_some]
    obtain ⟨r3, e3, a3, b3⟩ := c_pick hb (p := p0 + 1 + 1) (n := 256) (by omega) (by omega) hk
    rw [e3]; simp only [Option.bind_some]
    obtain ⟨r4, e4, a4, b4⟩ := c_pick hb (p := p0 + 1 + 1 + 1) (n := 256) (by omega) (by omega) hk
    rw [e4]; simp only [Option.bind_some]
    obtain ⟨r5, e5, a5, b5⟩ := c_pick hb (p := p0 + 1 + 1 + 1 + 1) (n := 4) (by omega) (by omega) hk
    rw [e5]; simp only [Option.bind_some]
    obtain ⟨r6, e6, a6, b6⟩ := c_pick hb (p := p0 + 1 + 1 + 1 + 1 + 1) (n := 2) (by omega) (by omega) hk
    rw [e6]; simp only [Option.bind_some]
    obtain ⟨r7, e7, a7, b7⟩ := c_pick hb (p := p0 + 1 + 1 + 1 + 1 + 1 + 1) (n := 5) (by omega) (by omega) hk
    rw [e7]; simp only [Option.bind_some]
    rw [if_pos a7, if_pos (by simp only [List.length_cons, List.length_nil]; omega)]
    refine ⟨_, _, rfl, ?_, by omega, by omega⟩
    refine rd_all (P := fun x => -9223372036854775808 ≤ x ∧ x ≤ 9223372036854775807) ?_ (by omega) _
    simp only [List.mem_cons, List.not_mem_nil, or_false]
    rintro x (rfl | rfl | rfl | rfl | rfl)
    · omega
    · omega
    · exact ⟨w64_lo _, w64_hi _⟩
    · exact ⟨w64_lo _, w64_hi _⟩
    · exact ⟨w64_lo _, w64_hi _⟩
  · simp only [if_true]
    obtain ⟨r1, e1, a1, b1⟩ := c_pick hb (p := p0) (n := 4) (by omega) (by omega) hk
    rw [e1]; simp only [Option.bind_some]
    rw [if_pos a1, if_pos (by simp only [List.length_cons, List.length_nil]; omega)]
    refine ⟨_, _, rfl, ?_, by omega, by omega⟩
    refine rd_all (P := fun x => -9223372036854775808 ≤ x ∧ x ≤ 9223372036854775807) ?_ (by omega) _
    simp only [List.mem_cons, List.not_mem_nil, or_false]
    rintro x (rfl | rfl | rfl | rfl) <;> omega
theorem c_open (l : List Int) : spec_l20Open.f l = some (l.take 2000, 0) := by
  unfold spec_l20Open.f
  split
  · rw [if_pos (by omega)]
  · rw [List.take_of_length_le (by omega)]
theorem code_ok {l : List Int} (h : ∀ x ∈ l, (Lit.int .u8 x).wf = true) : ∀ x ∈ l.take 2000, 0 ≤ x ∧ x ≤ 255 :=
  fun x hx => wf_u8 (h x (List.mem_of_mem_take hx))
theorem c_DrawMulDo {l : List Int} (h : ∀ x ∈ l, (Lit.int .u8 x).wf = true) {k : Nat} (hk : 0 < k) :
    ∃ a b, spec_DrawMulDo.f k l = some (a, b) ∧ (-9223372036854775808 ≤ a ∧ a ≤ 9223372036854775807) ∧ (-9223372036854775808 ≤ b ∧ b ≤ 9223372036854775807) := by
  unfold spec_DrawMulDo.f
  rw [c_open]; simp only [Option.bind_some]
  obtain ⟨r, q, e, hr, hq, hq'⟩ := c_word (code_ok h) 9 (p := 0) (by omega) (by omega) hk
  rw [e]; simp only [Option.bind_some]
  obtain ⟨r', q', e', hr', _⟩ := c_word (code_ok h) 9 (p := q) (by omega) (by omega) hk
  rw [e']; exact ⟨_, _, rfl, hr, hr'⟩
theorem FnMulDo : laws_FnMulDo.Pure := by
  intro l m _ _ h _ _ h'
  refine ⟨5, ?_⟩
  have im : ∀ x y, 0 ≤ x ∧ x < 65536 → 0 ≤ y ∧ y < 65536 → impl_MulDo.f x y = some (x * y % 65536) := fun x y hx hy => by rw [c_impl_MulDo, if_pos ⟨hx, hy⟩]
  have ia : ∀ f x y, 0 ≤ x ∧ x < 65536 → 0 ≤ y ∧ y < 65536 → impl_AluDo.f 3 f x y = some (alu f x y) := fun f x y hx hy => by rw [c_impl_AluDo (by omega), if_pos ⟨hx, hy⟩]
  have hall : ∀ x : Bool, laws_FnMulDo.j0 5 l m x = some true := by
    intro x
    simp only [laws_FnMulDo.j0]
    cases x
    · simp only [Bool.false_eq_true, if_false]
      obtain ⟨a, b, e, _, _⟩ := c_DrawMulDo h (k := 4) (by omega)
      obtain ⟨c, d, e', _, _⟩ := c_DrawMulDo h' (k := 4) (by omega)
      rw [e, e']; simp only [Option.bind_some]
      rw [c_impl_MulDo a b, c_spec_MulDo a b, c_spec_WrdOk, c_spec_WrdOk, c_spec_WrdOk]; simp only [Option.bind_some, if_true]
      by_cases ha : 0 ≤ a ∧ a < 65536
      · rw [decide_eq_true ha, if_pos rfl]
        by_cases hb : 0 ≤ b ∧ b < 65536
        · rw [decide_eq_true hb, if_pos rfl, if_pos ⟨ha, hb⟩]
          by_cases hc : 0 ≤ c ∧ c < 65536
          · rw [decide_eq_true hc]
            simp only [laws_FnMulDo.j1, Bool.not_true, Bool.false_eq_true, if_false]
            have hab := mul_word ha.1 ha.2 hb.1 hb.2
            have hac := mul_word ha.1 ha.2 hc.1 hc.2
            have hP := two_pow_le ((l.length : Int) % 16).toNat (by omega)
            have hP2 : (2 : Int) ^ ((l.length : Int) % 16).toNat ≤ 32768 := by
              have h1 : 2 ^ ((l.length : Int) % 16).toNat ≤ 2 ^ 15 := Nat.pow_le_pow_right (by decide) (by omega)
              have e : ((2 ^ ((l.length : Int) % 16).toNat : Nat) : Int) = (2 : Int) ^ ((l.length : Int) % 16).toNat := by simp
              rw [← e]; omega
            rw [im a b ha hb, im a c ha hc, im b a hb ha, im a 1 ha (by omega), im a 0 ha (by omega), ia 0 b c hb hc]
            simp only [Option.bind_some, alu_0]
            rw [ia 0 _ _ (by omega) (by omega), im a _ ha (by omega), w64 (n := 2 ^ ((l.length : Int) % 16).toNat) (by omega) (by omega), im a (2 ^ ((l.length : Int) % 16).toNat) ha (by omega), ia 6 a _ ha (by omega)]
            simp only [Option.bind_some, alu_0, alu_6]
            rw [if_pos (by rw [Int.mul_comm]), if_pos (by omega), if_pos (by omega), if_pos ?_, show (l.length : Int) % 16 % 16 = (l.length : Int) % 16 by omega]
            · simp
            · have e1 : a * ((b + c) % 65536) % 65536 = (a * b + a * c) % 65536 := by
                rw [Int.mul_emod, Int.emod_emod_of_dvd _ (by decide), ← Int.mul_emod, Int.mul_add]
              rw [e1]; omega
          · rw [decide_eq_false hc]
            have hab := mul_word ha.1 ha.2 hb.1 hb.2
            simp only [laws_FnMulDo.j1, Bool.not_false, if_true]
            rw [c_spec_WrdOk, c_spec_WrdOk, c_haOk, decide_eq_true ha, decide_eq_true hb, decide_eq_true (show a * b % 65536 ≥ 0 by omega)]
            rfl
        · rw [decide_eq_false hb, if_neg (by decide), if_neg (by omega)]
          simp only [laws_FnMulDo.j1, if_true]
          rw [c_spec_WrdOk, c_spec_WrdOk, c_haOk, decide_eq_true ha, decide_eq_false hb]
          rfl
      · rw [decide_eq_false ha, if_neg (by decide), if_neg (by omega)]
        simp only [laws_FnMulDo.j1, if_true]
        rw [c_spec_WrdOk, c_haOk, decide_eq_false ha]
        rfl
    · rfl
  unfold laws_FnMulDo.f
  split
  · exact hall _
  · exact hall _
end Go.Proofs.Ytekaogbnpncpaaa.Pure
