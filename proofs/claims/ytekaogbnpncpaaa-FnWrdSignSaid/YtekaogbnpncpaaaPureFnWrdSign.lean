/- The law FnWrdSign, as a plain statement over numbers and lists (no Go, no memory): ∀ (l0 : List Int), l0.length ≤ maxLen → l0.length * 1 ≤ 140737488351232 → (∀ x ∈ l0, (Lit.int .u8 x).wf = true) → ∃ k, laws_FnWrdSign.f k l0 = some true
It holds for all such arguments; there are no further conditions. -/
import Derived.Test.YtekaogbnpncpaaaPFnWrdSignx2
import Derived.Test.YtekaogbnpncpaaaPlain
set_option linter.unusedVariables false
set_option linter.unusedSimpArgs false
namespace Go.Proofs.Ytekaogbnpncpaaa.Pure
open Go.RowKit Go.Proofs.Ytekaogbnpncpaaa.PFnWrdSign Go.Proofs.YtekaogbnpncpaaaW.PrintWords Go.Proofs.YtekaogbnpncpaaaW.PrintLast Go.Proofs.Ytekaogbnpncpaaa.Plain
theorem c_impl_WrdOk (a : Int) : impl_WrdOk.f a = some (decide (0 ≤ a ∧ a < 65536)) := by
  unfold impl_WrdOk.f
  by_cases h : 0 ≤ a
  · rw [if_pos (by omega)]; simp [h]
  · rw [if_neg (by omega)]; simp [h]
theorem c_impl_signed {a : Int} (h0 : 0 ≤ a) (h1 : a < 65536) : impl_word_signed.f (IntKind.u16.wrap a) = some ((a + 32768) % 65536 - 32768) := by
  unfold impl_word_signed.f
  rw [u16w_id h0 h1, i16w, w64 (by omega) (by omega)]
theorem c_impl_WrdInt (a : Int) : impl_WrdInt.f a = some (if 0 ≤ a ∧ a < 65536 then (a + 32768) % 65536 - 32768 else 0) := by
  unfold impl_WrdInt.f
  rw [c_impl_WrdOk]
  by_cases h : 0 ≤ a ∧ a < 65536
  · simp only [h, Option.bind_some, decide_true, and_self, if_true, c_impl_signed h.1 h.2]
  · simp only [h, Option.bind_some, decide_false, Bool.false_eq_true, if_false]
theorem c_spec_l1In (a b c : Int) : spec_l1In.f a b c = some (decide (b ≤ a ∧ a ≤ c)) := by
  unfold spec_l1In.f
  by_cases h : b ≤ a
  · rw [if_pos (by omega)]; simp [h]
  · rw [if_neg (by omega)]; simp [h]
theorem c_spec_l1Wrap (a : Int) : spec_l1Wrap.f a = some (a % 65536) := by
  unfold spec_l1Wrap.f
  rw [(tmod_word a).2]
theorem c_spec_WrdSign {k : Nat} (hk : 0 < k) {n bits : Int} (hn : -9223372036854775808 ≤ n ∧ n ≤ 9223372036854775807) : spec_WrdSign.f k n bits = some (sgn n bits) := by
  obtain ⟨k, rfl⟩ : ∃ m, k = m + 1 := ⟨k - 1, by omega⟩
  unfold spec_WrdSign.f sgn
  rw [c_spec_l1In]; simp only [Option.bind_some]
  by_cases h : 1 ≤ bits ∧ bits ≤ 16
  · obtain ⟨p0, p1, p2⟩ := pow_half h.1 h.2
    rw [decide_eq_true h, if_pos rfl, if_pos (by omega), if_pos h, c_spec_l1In, shl_one (by omega) (by omega), p0]
    simp only [Option.bind_some]
    rw [w64 (n := 2 * 2 ^ (bits - 1).toNat - 1) (by omega) (by omega)]
    by_cases h2 : 0 ≤ n ∧ n ≤ 2 * 2 ^ (bits - 1).toNat - 1
    · rw [decide_eq_true h2, if_pos (by omega)]
      simp only [spec_WrdSign.j0, Bool.not_true, Bool.false_eq_true, if_false]
      rw [w64 (n := bits - 1) (by omega) (by omega), if_pos (by omega), shl_one (by omega) (by omega), shl_one (by omega) (by omega), p0]
      by_cases h4 : n < 2 ^ (bits - 1).toNat
      · rw [if_neg (by omega), if_pos h4]
      · rw [if_pos (by omega), if_neg h4, if_pos (by omega), c_spec_l1Wrap, w64 (n := n - 2 * 2 ^ (bits - 1).toNat) (by omega) (by omega)]
        rfl
    · rw [decide_eq_false h2, if_neg (by omega)]
      simp only [spec_WrdSign.j0, Bool.not_false, if_true]
  · rw [decide_eq_false h, if_neg (by decide), if_neg h]
    simp only [spec_WrdSign.j0, if_true]
theorem c_impl_wrapped (a : Int) : impl_wrapped.f a = some (a % 65536) := by
  unfold impl_wrapped.f
  rw [u16w, w64 (by omega) (by omega)]
theorem c_impl_WrdSign {k : Nat} (hk : 1 < k) {n bits : Int} (hn : -9223372036854775808 ≤ n ∧ n ≤ 9223372036854775807) : impl_WrdSign.f k n bits = some (sgn n bits) := by
  obtain ⟨k, rfl⟩ : ∃ m, k = m + 2 := ⟨k - 2, by omega⟩
  unfold impl_WrdSign.f sgn
  by_cases h : 1 ≤ bits ∧ bits ≤ 16
  · obtain ⟨p0, p1, p2⟩ := pow_half h.1 h.2
    rw [if_neg (by omega), decide_eq_false (by omega), if_pos h]
    simp only [impl_WrdSign.j0, Bool.false_eq_true, if_false]
    rw [u64w_id (by omega) (by omega), shl_one (by omega) (by omega), if_pos (by omega), p0]
    generalize (2 : Int) ^ (bits - 1).toNat = P at *
    by_cases h2 : n < 0
    · rw [if_pos h2, if_neg (by omega)]
      simp only [impl_WrdSign.j1, if_true]
    · rw [if_neg h2]
      by_cases h3 : n < 2 * P
      · rw [decide_eq_false (by omega), if_pos (by omega)]
        simp only [impl_WrdSign.j1, Bool.false_eq_true, if_false]
        rw [tdiv_pos (by omega), w64 (n := 2 * P / 2) (by omega) (by omega), c_impl_wrapped, w64 (n := n - 2 * P) (by omega) (by omega)]
        simp only [Option.bind_some]
        by_cases h4 : n < P
        · rw [if_pos (by omega), if_pos h4]
        · rw [if_neg (by omega), if_neg h4]
      · rw [decide_eq_true (by omega), if_neg (by omega)]
        simp only [impl_WrdSign.j1, if_true]
  · rw [if_neg h]
    by_cases h1 : bits < 1
    · rw [if_pos h1]
      simp only [impl_WrdSign.j0, if_true]
    · rw [if_neg h1, decide_eq_true (by omega)]
      simp only [impl_WrdSign.j0, if_true]
theorem c_haOk : laws_haOk.f = some true := by
  unfold laws_haOk.f
  rw [c_impl_WrdOk]; rfl
theorem c_pick {b : List Int} (hb : ∀ x ∈ b, 0 ≤ x ∧ x ≤ 255) {p n : Int} (hp : 0 ≤ p) (hp1 : p ≤ 1000000) {k : Nat} (hk : 0 < k) :
    ∃ r, spec_l20Rd_pick.f k b p n = some (r, p + 1) ∧ 0 ≤ r ∧ (1 ≤ n → r < n) := by
  obtain ⟨k, rfl⟩ : ∃ m, k = m + 1 := ⟨k - 1, by omega⟩
  have e1 : wrap64 (p + 1) = p + 1 := w64 (by omega) (by omega)
  have e2 : wrap64 (p + 1 - 1) = p := by rw [show p + 1 - 1 = p by omega]; exact w64 (by omega) (by omega)
  have hr : ∀ i, 0 ≤ rd b i ∧ rd b i ≤ 255 := fun i => rd_all hb (by omega) i
  unfold spec_l20Rd_pick.f
  by_cases hn1 : n < 1
  · rw [if_pos hn1, e1]
    exact ⟨0, by simp only [spec_l20Rd_pick.j0, if_true], by omega, by omega⟩
  rw [if_neg hn1, e1]
  by_cases hl0 : b.length = 0
  · refine ⟨0, ?_, by omega, by omega⟩
    have : ((b.length : Int) == 0) = true := by simp [hl0]
    rw [this]
    simp only [spec_l20Rd_pick.j0, if_true]
  have hne : ((b.length : Int) == 0) = false := by simpa using hl0
  have hlp : 0 < (b.length : Int) := by omega
  rw [hne]
  simp only [spec_l20Rd_pick.j0, e2, Bool.false_eq_true, if_false]
  by_cases hk : p < (b.length : Int)
  · rw [if_pos hk, if_pos hp, if_neg (by omega)]
    have h1 := hr p
    rw [w64 (by omega) (by omega), tmod_pos h1.1]
    exact ⟨_, rfl, Int.emod_nonneg _ (by omega), fun _ => Int.emod_lt_of_pos _ (by omega)⟩
  · rw [if_neg hk, if_neg (by omega)]
    have w3 : wrap64 (p * 7) = p * 7 := w64 (by omega) (by omega)
    have w4 : wrap64 (p * 7 + 3) = p * 7 + 3 := w64 (by omega) (by omega)
    have m1 := Int.emod_nonneg p (show (b.length : Int) ≠ 0 by omega)
    have m2 := Int.emod_lt_of_pos p hlp
    have m3 := Int.emod_nonneg (p * 7 + 3) (show (b.length : Int) ≠ 0 by omega)
    have m4 := Int.emod_lt_of_pos (p * 7 + 3) hlp
    have d1 := Int.ediv_nonneg hp (show 0 ≤ (b.length : Int) by omega)
    have d2 := Int.ediv_le_self (b.length : Int) hp
    rw [w3, w4, tmod_pos hp, tmod_pos (show 0 ≤ p * 7 + 3 by omega), tdiv_pos hp, if_pos m1, if_pos m2, if_pos m3, if_pos m4, if_neg (by omega)]
    have v1 := hr (p % (b.length : Int))
    have v2 := hr ((p * 7 + 3) % (b.length : Int))
    generalize rd b (p % (b.length : Int)) = a1 at *
    generalize rd b ((p * 7 + 3) % (b.length : Int)) = a2 at *
    generalize p / (b.length : Int) = d at *
    rw [w64 (n := a1) (by omega) (by omega), w64 (n := a2) (by omega) (by omega), w64 (n := a1 * 131) (by omega) (by omega), w64 (n := a2 * 1117) (by omega) (by omega),
      w64 (n := a1 * 131 + a2 * 1117) (by omega) (by omega), w64 (n := p * 29) (by omega) (by omega), w64 (n := a1 * 131 + a2 * 1117 + p * 29) (by omega) (by omega), w64 (n := d) (by omega) (by omega),
      w64 (n := d * 53) (by omega) (by omega), w64 (n := a1 * 131 + a2 * 1117 + p * 29 + d * 53) (by omega) (by omega)]
    have hX : 0 ≤ a1 * 131 + a2 * 1117 + p * 29 + d * 53 ∧ a1 * 131 + a2 * 1117 + p * 29 + d * 53 ≤ 1000000000 := by omega
    generalize a1 * 131 + a2 * 1117 + p * 29 + d * 53 = X at *
    rw [tdiv_pos hX.1, w64 (n := X / 64) (by omega) (by omega), xor_i64 (by omega) (by omega) (by omega) (by omega)]
    have hx := nxor_lt63 (a := X) (b := X / 64) (by omega) (by omega) (by omega) (by omega)
    rw [tmod_pos hx.1]
    exact ⟨_, rfl, Int.emod_nonneg _ (by omega), fun _ => Int.emod_lt_of_pos _ (by omega)⟩
theorem c_odd {b : List Int} (hb : ∀ x ∈ b, 0 ≤ x ∧ x ≤ 255) {p n : Int} (hp : 0 ≤ p) (hp1 : p ≤ 1000000) {k : Nat} (hk : 0 < k) :
    ∃ r q, spec_l20Rd_odd.f k b p n = some (r, q) ∧ p ≤ q ∧ q ≤ p + 1 := by
  unfold spec_l20Rd_odd.f
  obtain ⟨r, e, _, _⟩ := c_pick hb (n := n) hp hp1 hk
  split
  · rw [e]; exact ⟨_, _, rfl, by simp only []; omega, by simp only []; omega⟩
  · exact ⟨_, _, rfl, by omega, by omega⟩
theorem c_word {b : List Int} (hb : ∀ x ∈ b, 0 ≤ x ∧ x ≤ 255) {p : Int} (n : Int) (hp : 0 ≤ p) (hp1 : p ≤ 900000) {k : Nat} (hk : 0 < k) :
    ∃ r q, spec_l20Word.f k b p n = some (r, q) ∧ (-9223372036854775808 ≤ r ∧ r ≤ 9223372036854775807) ∧ p ≤ q ∧ q ≤ p + 10 := by
  unfold spec_l20Word.f
  obtain ⟨o, p0, e0, l0, u0⟩ := c_odd hb (n := n) hp (by omega) hk
  rw [e0]; simp only [Option.bind_some]
  cases o
  · simp only [Bool.false_eq_true, if_false]
    obtain ⟨r1, e1, a1, b1⟩ := c_pick hb (p := p0) (n := 4) (by omega) (by omega) hk
    rw [e1]; simp only [Option.bind_some]
    obtain ⟨r2, e2, a2, b2⟩ := c_pick hb (p := p0 + 1) (n := 256) (by omega) (by omega) hk
    rw [e2]; simp only [Option.bind_some]
    obtain ⟨r3, e3, a3, b3⟩ := c_pick hb (p := p0 + 1 + 1) (n := 256) (by omega) (by omega) hk
    rw [e3]; simp only [Option.bind_some]
    obtain ⟨r4, e4, a4, b4⟩ := c_pick hb (p := p0 + 1 + 1 + 1) (n := 256) (by omega) (by omega) hk
    rw [e4]; simp only [Option.bind_some]
    obtain ⟨r5, e5, a5, b5⟩ := c_pick hb (p := p0 + 1 + 1 + 1 + 1) (n := 4) (by omega) (by omega) hk
    rw [e5]; simp only [Option.bind_some]
    obtain ⟨r6, e6, a6, b6⟩ := c_pick hb (p := p0 + 1 + 1 + 1 + 1 + 1) (n := 2) (by omega) (by omega) hk
    rw [e6]; simp only [Option.bind_some]
    obtain ⟨r7, e7, a7, b7⟩ := c_pick hb (p := p0 + 1 + 1 + 1 + 1 + 1 + 1) (n := 5) (by omega) (by omega) hk
    rw [e7]; simp only [Option.bind_some]
    rw [if_pos a7, if_pos (by simp only [List.length_cons, List.length_nil]; omega)]
    refine ⟨_, _, rfl, ?_, by omega, by omega⟩
    refine rd_all (P := fun x => -9223372036854775808 ≤ x ∧ x ≤ 9223372036854775807) ?_ (by omega) _
    simp only [List.mem_cons, List.not_mem_nil, or_false]
    rintro x (rfl | rfl | rfl | rfl | rfl)
    · omega
    · omega
    · exact ⟨w64_lo _, w64_hi _⟩
    · exact ⟨w64_lo _, w64_hi _⟩
    · exact ⟨w64_lo _, w64_hi _⟩
  · simp only [if_true]
    obtain ⟨r1, e1, a1, b1⟩ := c_pick hb (p := p0) (n := 4) (by omega) (by omega) hk
    rw [e1]; simp only [Option.bind_some]
    rw [if_pos a1, if_pos (by simp only [List.length_cons, List.length_nil]; omega)]
    refine ⟨_, _, rfl, ?_, by omega, by omega⟩
    refine rd_all (P := fun x => -9223372036854775808 ≤ x ∧ x ≤ 9223372036854775807) ?_ (by omega) _
    simp only [List.mem_cons, List.not_mem_nil, or_false]
    rintro x (rfl | rfl | rfl | rfl) <;> omega
theorem c_open (l : List Int) : spec_l20Open.f l = some (l.take 2000, 0) := by
  unfold spec_l20Open.f
  split
  · rw [if_pos (by omega)]
  · rw [List.take_of_length_le (by omega)]
theorem code_ok {l : List Int} (h : ∀ x ∈ l, (Lit.int .u8 x).wf = true) : ∀ x ∈ l.take 2000, 0 ≤ x ∧ x ≤ 255 :=
  fun x hx => wf_u8 (h x (List.mem_of_mem_take hx))
theorem c_DrawWrdSign {l : List Int} (h : ∀ x ∈ l, (Lit.int .u8 x).wf = true) {k : Nat} (hk : 0 < k) :
    ∃ a b, spec_DrawWrdSign.f k l = some (a, b) ∧ (-9223372036854775808 ≤ a ∧ a ≤ 9223372036854775807) := by
  unfold spec_DrawWrdSign.f
  rw [c_open]; simp only [Option.bind_some]
  obtain ⟨r1, e1, a1, b1⟩ := c_pick (code_ok h) (p := 0) (n := 16) (by omega) (by omega) hk
  rw [e1]; simp only [Option.bind_some]
  obtain ⟨r2, e2, a2, b2⟩ := c_pick (code_ok h) (p := 0 + 1) (n := 6) (by omega) (by omega) hk
  rw [e2]; simp only [Option.bind_some]
  have h3 : 0 ≤ rd [0, 0, 0, 0, 1, 2] r2 ∧ rd [0, 0, 0, 0, 1, 2] r2 ≤ 2 :=
    rd_all (P := fun x => 0 ≤ x ∧ x ≤ 2) (by simp) (by omega) _
  rw [if_pos a2, if_pos (by simp only [List.length_cons, List.length_nil]; omega), if_pos h3.1, if_pos (by simp only [List.length_cons, List.length_nil]; omega)]
  generalize rd [wrap64 (1 + r1), 0, 17] (rd [0, 0, 0, 0, 1, 2] r2) = bits
  have hm : 0 ≤ mn 8 (mx 1 bits) ∧ mn 8 (mx 1 bits) ≤ 8 := by unfold mn mx; split <;> split <;> omega
  obtain ⟨p1, p2⟩ := two_pow_le (mn 8 (mx 1 bits)).toNat (by omega)
  rw [w64 (n := 2 ^ (mn 8 (mx 1 bits)).toNat) (by omega) (by omega)]
  obtain ⟨r3, e3, a3, b3⟩ := c_pick (code_ok h) (p := 0 + 1 + 1) (n := 2 ^ (mn 8 (mx 1 bits)).toNat) (by omega) (by omega) hk
  rw [e3]; simp only [Option.bind_some]
  obtain ⟨r, q, e, hr, hq, hq'⟩ := c_word (code_ok h) 4 (p := 0 + 1 + 1 + 1) (by omega) (by omega) hk
  rw [e]; simp only [Option.bind_some]
  obtain ⟨r4, e4, a4, b4⟩ := c_pick (code_ok h) (p := q) (n := 2) (by omega) (by omega) hk
  rw [e4]; simp only [Option.bind_some]
  rw [if_pos a4, if_pos (by simp only [List.length_cons, List.length_nil]; omega)]
  refine ⟨_, _, rfl, ?_⟩
  have b3' := b3 (by omega)
  refine rd_all (P := fun x => -9223372036854775808 ≤ x ∧ x ≤ 9223372036854775807) ?_ (by omega) _
  simp only [List.mem_cons, List.not_mem_nil, or_false]
  rintro x (rfl | rfl)
  · omega
  · exact hr
theorem FnWrdSign : laws_FnWrdSign.Pure := by
  intro l _ _ h
  refine ⟨3, ?_⟩
  unfold laws_FnWrdSign.f
  split
  · rfl
  obtain ⟨n, bits, e, hn⟩ := c_DrawWrdSign h (k := 3) (by omega)
  rw [e]; simp only [Option.bind_some]
  rw [c_impl_WrdSign (by omega) hn, c_spec_WrdSign (by omega) hn]; simp only [Option.bind_some, if_true]
  by_cases h : 1 ≤ bits ∧ bits ≤ 16
  · obtain ⟨p0, p1, p2⟩ := pow_half h.1 h.2
    rw [if_neg (by omega), if_neg (by omega)]
    by_cases h2 : n < 0
    · rw [if_pos h2]
      have es : sgn n bits = -1 := by unfold sgn; rw [if_pos h, if_neg (by omega)]
      simp [laws_FnWrdSign.j0, es, c_haOk]
    rw [if_neg h2, if_pos (by omega), shl_one (by omega) (by omega)]
    by_cases h3 : n < 2 ^ bits.toNat
    · rw [decide_eq_false (by omega)]
      have e16 : sgn n 16 = n := by
        have q1 : (2 : Int) ^ (Int.toNat (16 - 1)) = 32768 := by decide
        have q2 : (2 : Int) ^ (Int.toNat 16) = 65536 := by decide
        unfold sgn
        rw [q1, q2, if_pos (by omega), if_pos (by omega)]
        split <;> omega
      simp only [laws_FnWrdSign.j0, Bool.false_eq_true, if_false]
      rw [w64 (n := bits - 1) (by omega) (by omega), if_pos (by omega), shl_one (by omega) (by omega), shl_one (by omega) (by omega), c_impl_WrdInt, c_impl_WrdSign (by omega) hn, e16, p0]
      have es : sgn n bits = if n < 2 ^ (bits - 1).toNat then n else (n - 2 * 2 ^ (bits - 1).toNat) % 65536 := by unfold sgn; rw [if_pos h, if_pos (by omega), p0]
      rw [es]
      rw [p0] at h3
      generalize (2 : Int) ^ (bits - 1).toNat = P at *
      rw [w64 (n := n - 2 * P) (by omega) (by omega)]
      simp only [Option.bind_some]
      by_cases h4 : n < P
      · rw [if_neg (show ¬ n ≥ P by omega), if_pos h4, if_pos (show 0 ≤ n ∧ n < 65536 by omega), if_pos (by omega)]
        simp
      · rw [if_pos (show n ≥ P by omega), if_neg h4, if_pos (show 0 ≤ bits by omega), if_pos (show 0 ≤ (n - 2 * P) % 65536 ∧ (n - 2 * P) % 65536 < 65536 by omega), if_pos (by omega)]
        simp
    · rw [decide_eq_true (by omega)]
      have es : sgn n bits = -1 := by unfold sgn; rw [if_pos h, if_neg (by omega)]
      simp [laws_FnWrdSign.j0, es, c_haOk]
  · have es : sgn n bits = -1 := by unfold sgn; rw [if_neg h]
    by_cases h1 : bits < 1
    · rw [if_pos h1]
      simp [laws_FnWrdSign.j0, es, c_haOk]
    · rw [if_neg h1, if_pos (by omega)]
      simp [laws_FnWrdSign.j0, es, c_haOk]
end Go.Proofs.Ytekaogbnpncpaaa.Pure
