/- The law FnWrdOk, as a plain statement over numbers and lists (no Go, no memory): ∀ (l0 : List Int), l0.length ≤ maxLen → l0.length * 1 ≤ 140737488351232 → (∀ x ∈ l0, (Lit.int .u8 x).wf = true) → ∃ k, laws_FnWrdOk.f k l0 = some true
It holds for all such arguments; there are no further conditions. -/
import Derived.Test.YtekaogbnpncpaaaTFnWrdOk
import Derived.Test.YtekaogbnpncpaaaPlain
set_option linter.unusedVariables false
set_option linter.unusedSimpArgs false
namespace Go.Proofs.Ytekaogbnpncpaaa.Pure
open Go.RowKit Go.Proofs.Ytekaogbnpncpaaa.PFnWrdOk Go.Proofs.YtekaogbnpncpaaaW.PrintWords Go.Proofs.YtekaogbnpncpaaaW.PrintLast Go.Proofs.Ytekaogbnpncpaaa.Plain
theorem c_spec_l1In (a b c : Int) : spec_l1In.f a b c = some (decide (b ≤ a ∧ a ≤ c)) := by
  unfold spec_l1In.f
  by_cases h : b ≤ a
  · rw [if_pos (by omega)]; simp [h]
  · rw [if_neg (by omega)]; simp [h]
theorem c_spec_WrdOk (a : Int) : spec_WrdOk.f a = some (decide (0 ≤ a ∧ a < 65536)) := by
  unfold spec_WrdOk.f
  rw [c_spec_l1In]; simp only [Option.bind_some]
  congr 1
  exact decide_eq_decide.2 (by omega)
theorem c_impl_WrdOk (a : Int) : impl_WrdOk.f a = some (decide (0 ≤ a ∧ a < 65536)) := by
  unfold impl_WrdOk.f
  by_cases h : 0 ≤ a
  · rw [if_pos (by omega)]; simp [h]
  · rw [if_neg (by omega)]; simp [h]
theorem c_pick {b : List Int} (hb : ∀ x ∈ b, 0 ≤ x ∧ x ≤ 255) {p n : Int} (hp : 0 ≤ p) (hp1 : p ≤ 1000000) {k : Nat} (hk : 0 < k) :
    ∃ r, spec_l20Rd_pick.f k b p n = some (r, p + 1) ∧ 0 ≤ r ∧ (1 ≤ n → r < n) := by
  obtain ⟨k, rfl⟩ : ∃ m, k = m + 1 := ⟨k - 1, by omega⟩
  have e1 : wrap64 (p + 1) = p + 1 := w64 (by omega) (by omega)
  have e2 : wrap64 (p + 1 - 1) = p := by rw [show p + 1 - 1 = p by omega]; exact w64 (by omega) (by omega)
  have hr : ∀ i, 0 ≤ rd b i ∧ rd b i ≤ 255 := fun i => rd_all hb (by omega) i
  unfold spec_l20Rd_pick.f
  by_cases hn1 : n < 1
  · rw [if_pos hn1, e1]
    exact ⟨0, by simp only [spec_l20Rd_pick.j0, if_true], by omega, by omega⟩
  rw [if_neg hn1, e1]
  by_cases hl0 : b.length = 0
  · refine ⟨0, ?_, by omega, by omega⟩
    have : ((b.length : Int) == 0) = true := by simp [hl0]
    rw [this]
    simp only [spec_l20Rd_pick.j0, if_true]
  have hne : ((b.length : Int) == 0) = false := by simpa using hl0
  have hlp : 0 < (b.length : Int) := by omega
  rw [hne]
  simp only [spec_l20Rd_pick.j0, e2, Bool.false_eq_true, if_false]
  by_cases hk : p < (b.length : Int)
  · rw [if_pos hk, if_pos hp, if_neg (by omega)]
    have h1 := hr p
    rw [w64 (by omega) (by omega), tmod_pos h1.1]
    exact ⟨_, rfl, Int.emod_nonneg _ (by omega), fun _ => Int.emod_lt_of_pos _ (by omega)⟩
  · rw [if_neg hk, if_neg (by omega)]
    have w3 : wrap64 (p * 7) = p * 7 := w64 (by omega) (by omega)
    have w4 : wrap64 (p * 7 + 3) = p * 7 + 3 := w64 (by omega) (by omega)
    have m1 := Int.emod_nonneg p (show (b.length : Int) ≠ 0 by omega)
    have m2 := Int.emod_lt_of_pos p hlp
    have m3 := Int.emod_nonneg (p * 7 + 3) (show (b.length : Int) ≠ 0 by omega)
    have m4 := Int.emod_lt_of_pos (p * 7 + 3) hlp
    have d1 := Int.ediv_nonneg hp (show 0 ≤ (b.length : Int) by omega)
    have d2 := Int.ediv_le_self (b.length : Int) hp
    rw [w3, w4, tmod_pos hp, tmod_pos (show 0 ≤ p * 7 + 3 by omega), tdiv_pos hp, if_pos m1, if_pos m2, if_pos m3, if_pos m4, if_neg (by omega)]
    have v1 := hr (p % (b.length : Int))
    have v2 := hr ((p * 7 + 3) % (b.length : Int))
    generalize rd b (p % (b.length : Int)) = a1 at *
    generalize rd b ((p * 7 + 3) % (b.length : Int)) = a2 at *
    generalize p / (b.length : Int) = d at *
    rw [w64 (n := a1) (by omega) (by omega), w64 (n := a2) (by omega) (by omega), w64 (n := a1 * 131) (by omega) (by omega), w64 (n := a2 * 1117) (by omega) (by omega),
      w64 (n := a1 * 131 + a2 * 1117) (by omega) (by omega), w64 (n := p * 29) (by omega) (by omega), w64 (n := a1 * 131 + a2 * 1117 + p * 29) (by omega) (by omega), w64 (n := d) (by omega) (by omega),
      w64 (n := d * 53) (by omega) (by omega), w64 (n := a1 * 131 + a2 * 1117 + p * 29 + d * 53) (by omega) (by omega)]
    have hX : 0 ≤ a1 * 131 + a2 * 1117 + p * 29 + d * 53 ∧ a1 * 131 + a2 * 1117 + p * 29 + d * 53 ≤ 1000000000 := by omega
    generalize a1 * 131 + a2 * 1117 + p * 29 + d * 53 = X at *
    rw [tdiv_pos hX.1, w64 (n := X / 64) (by omega) (by omega), xor_i64 (by omega) (by omega) (by omega) (by omega)]
    have hx := nxor_lt63 (a := X) (b := X / 64) (by omega) (by omega) (by omega) (by omega)
    rw [tmod_pos hx.1]
    exact ⟨_, rfl, Int.emod_nonneg _ (by omega), fun _ => Int.emod_lt_of_pos _ (by omega)⟩
theorem c_odd {b : List Int} (hb : ∀ x ∈ b, 0 ≤ x ∧ x ≤ 255) {p n : Int} (hp : 0 ≤ p) (hp1 : p ≤ 1000000) {k : Nat} (hk : 0 < k) :
    ∃ r q, spec_l20Rd_odd.f k b p n = some (r, q) ∧ p ≤ q ∧ q ≤ p + 1 := by
  unfold spec_l20Rd_odd.f
  obtain ⟨r, e, _, _⟩ := c_pick hb (n := n) hp hp1 hk
  split
  · rw [e]; exact ⟨_, _, rfl, by simp only []; omega, by simp only []; omega⟩
  · exact ⟨_, _, rfl, by omega, by omega⟩
theorem c_word {b : List Int} (hb : ∀ x ∈ b, 0 ≤ x ∧ x ≤ 255) {p : Int} (n : Int) (hp : 0 ≤ p) (hp1 : p ≤ 900000) {k : Nat} (hk : 0 < k) :
    ∃ r q, spec_l20Word.f k b p n = some (r, q) ∧ (-9223372036854775808 ≤ r ∧ r ≤ 9223372036854775807) ∧ p ≤ q ∧ q ≤ p + 10 := by
  unfold spec_l20Word.f
  obtain ⟨o, p0, e0, l0, u0⟩ := c_odd hb (n := n) hp (by omega) hk
  rw [e0]; simp only [Option.bind_some]
  cases o
  · simp only [Bool.false_eq_true, if_false]
    obtain ⟨r1, e1, a1, b1⟩ := c_pick hb (p := p0) (n := 4) (by omega) (by omega) hk
    rw [e1]; simp only [Option.bind_some]
    obtain ⟨r2, e2, a2, b2⟩ := c_pick hb (p := p0 + 1) (n := 256) (by omega) (by omega) hk
    rw [e2]; simp only [Option.bind_some]
    obtain ⟨r3, e3, a3, b3⟩ := c_pick hb (p := p0 + 1 + 1) (n := 256) (by omega) (by omega) hk
    rw [e3]; simp only [Option.bind_some]
    obtain ⟨r4, e4, a4, b4⟩ := c_pick hb (p := p0 + 1 + 1 + 1) (n := 256) (by omega) (by omega) hk
    rw [e4]; simp only [Option.bind_some]
    obtain ⟨r5, e5, a5, b5⟩ := c_pick hb (p := p0 + 1 + 1 + 1 + 1) (n := 4) (by omega) (by omega) hk
    rw [e5]; simp only [Option.bind_some]
    obtain ⟨r6, e6, a6, b6⟩ := c_pick hb (p := p0 + 1 + 1 + 1 + 1 + 1) (n := 2) (by omega) (by omega) hk
    rw [e6]; simp only [Option.bind_some]
    obtain ⟨r7, e7, a7, b7⟩ := c_pick hb (p := p0 + 1 + 1 + 1 + 1 + 1 + 1) (n := 5) (by omega) (by omega) hk
    rw [e7]; simp only [Option.bind_some]
    rw [if_pos a7, if_pos (by simp only [List.length_cons, List.length_nil]; omega)]
    refine ⟨_, _, rfl, ?_, by omega, by omega⟩
    refine rd_all (P := fun x => -9223372036854775808 ≤ x ∧ x ≤ 9223372036854775807) ?_ (by omega) _
    simp only [List.mem_cons, List.not_mem_nil, or_false]
    rintro x (rfl | rfl | rfl | rfl | rfl)
    · omega
    · omega
    · exact ⟨w64_lo _, w64_hi _⟩
    · exact ⟨w64_lo _, w64_hi _⟩
    · exact ⟨w64_lo _, w64_hi _⟩
  · simp only [if_true]
    obtain ⟨r1, e1, a1, b1⟩ := c_pick hb (p := p0) (n := 4) (by omega) (by omega) hk
    rw [e1]; simp only [Option.bind_some]
    rw [if_pos a1, if_pos (by simp only [List.length_cons, List.length_nil]; omega)]
    refine ⟨_, _, rfl, ?_, by omega, by omega⟩
    refine rd_all (P := fun x => -9223372036854775808 ≤ x ∧ x ≤ 9223372036854775807) ?_ (by omega) _
    simp only [List.mem_cons, List.not_mem_nil, or_false]
    rintro x (rfl | rfl | rfl | rfl) <;> omega
theorem c_open (l : List Int) : spec_l20Open.f l = some (l.take 2000, 0) := by
  unfold spec_l20Open.f
  split
  · rw [if_pos (by omega)]
  · rw [List.take_of_length_le (by omega)]
theorem code_ok {l : List Int} (h : ∀ x ∈ l, (Lit.int .u8 x).wf = true) : ∀ x ∈ l.take 2000, 0 ≤ x ∧ x ≤ 255 :=
  fun x hx => wf_u8 (h x (List.mem_of_mem_take hx))
theorem c_DrawWrdOk {l : List Int} (h : ∀ x ∈ l, (Lit.int .u8 x).wf = true) {k : Nat} (hk : 0 < k) :
    ∃ r, spec_DrawWrdOk.f k l = some r ∧ (-9223372036854775808 ≤ r ∧ r ≤ 9223372036854775807) := by
  unfold spec_DrawWrdOk.f
  rw [c_open]; simp only [Option.bind_some]
  obtain ⟨r, q, e, hr, _⟩ := c_word (code_ok h) 2 (p := 0) (by omega) (by omega) hk
  rw [e]; exact ⟨_, rfl, hr⟩
theorem FnWrdOk : laws_FnWrdOk.Pure := by
  intro l _ _ h
  refine ⟨1, ?_⟩
  unfold laws_FnWrdOk.f
  obtain ⟨n, e, hn⟩ := c_DrawWrdOk h (k := 1) (by omega)
  rw [e]
  simp only [Option.bind_some, c_spec_WrdOk, c_impl_WrdOk]
  split
  · rfl
  · by_cases h0 : 0 ≤ n <;> by_cases h1 : n < 65536 <;> simp [h0, h1]
end Go.Proofs.Ytekaogbnpncpaaa.Pure
