/- The law FnInOk, as a plain statement over numbers and lists (no Go, no memory): ∀ l : List Int, l.length ≤ maxLen → l.length * 1 ≤ 140737488351232 → (∀ x ∈ l, (Lit.int .u8 x).wf = true) → ∃ k, laws_FnInOk.f k l = some true
It holds for all such arguments; there are no further conditions. -/
import Derived.Test.YtdpgomcdacmhkaaQFnInOkx5
import Derived.Test.YtdpgomcdacmhkaaPlain
set_option linter.unusedVariables false
set_option linter.unusedSimpArgs false
namespace Go.Proofs.Ytdpgomcdacmhkaa.Pure
open Go.RowKit Go.Proofs.Ytdpgomcdacmhkaa.QFnInOk Go.Proofs.YtdpgomcdacmhkaaW.PrintWords Go.Proofs.YtdpgomcdacmhkaaW.PrintLast Go.Proofs.Ytdpgomcdacmhkaa.Plain
theorem c_spec_l1In (a b c : Int) : spec_l1In.f a b c = some (decide (b ≤ a ∧ a ≤ c)) := by
  unfold spec_l1In.f
  by_cases h : b ≤ a
  · rw [if_pos (by omega)]; simp [h]
  · rw [if_neg (by omega)]; simp [h]
theorem c_spec_WrdOk (a : Int) : spec_WrdOk.f a = some (decide (0 ≤ a ∧ a < 65536)) := by
  unfold spec_WrdOk.f
  rw [c_spec_l1In]; simp only [Option.bind_some]
  congr 1
  exact decide_eq_decide.2 (by omega)
theorem c_spec_InOk {k : Nat} {ring lay : Bool} {a n : Int} {l : List Int} (hk : 2 < k) : spec_InOk.f k ring lay a n l = some (decide (l.length ≤ 2) && (l.all (fun x => decide (0 ≤ x)) && if lay = true then decide (0 ≤ a ∧ a < 256) && decide (0 ≤ n ∧ n < 65536) else decide (a = 0) && decide (n = 0))) := by
  unfold spec_InOk.f
  have all_drop' : ∀ {l : List Int} {i : Int} (h0 : 0 ≤ i) (h1 : i < l.length), (l.drop i.toNat).all (fun x => decide (0 ≤ x)) = (decide (0 ≤ rd l i) && (l.drop (i + 1).toNat).all (fun x => decide (0 ≤ x))) := by
    intro l i h0 h1
    rw [List.drop_eq_getElem_cons (show i.toNat < l.length by omega), List.all_cons, rd_at h0 h1, show (i + 1).toNat = i.toNat + 1 by omega]
  by_cases hl : l.length ≤ 2
  · rw [if_neg (by omega), decide_eq_true hl, Bool.true_and]
    have key : ∀ (d k : Nat) (i : Int), 0 ≤ i → (l.length : Int) - i = d → d < k → spec_InOk.l0 k i ring lay a n l = some ((l.drop i.toNat).all (fun x => decide (0 ≤ x)) && if lay = true then decide (0 ≤ a ∧ a < 256) && decide (0 ≤ n ∧ n < 65536) else decide (a = 0) && decide (n = 0)) := by
      intro d
      induction d with
      | zero =>
        intro k i h0 h1 h2
        obtain ⟨k, rfl⟩ : ∃ m, k = m + 1 := ⟨k - 1, by omega⟩
        simp only [spec_InOk.l0]
        rw [if_neg (by omega), List.drop_of_length_le (by omega), List.all_nil, Bool.true_and]
        cases lay
        · simp only [Bool.false_eq_true, if_false]
          by_cases h : a = 0
          · rw [if_pos h, decide_eq_true h, Bool.true_and]; rfl
          · rw [if_neg h, decide_eq_false h]; rfl
        · simp only [if_true, c_spec_l1In, c_spec_WrdOk, Option.bind_some]
          by_cases h : 0 ≤ a ∧ a < 256
          · rw [decide_eq_true h, decide_eq_true (show 0 ≤ a ∧ a ≤ 255 by omega), if_pos rfl, Bool.true_and]
            cases decide (0 ≤ n ∧ n < 65536) <;> rfl
          · rw [decide_eq_false h, decide_eq_false (show ¬ (0 ≤ a ∧ a ≤ 255) by omega)]; rfl
      | succ d ih =>
        intro k i h0 h1 h2
        obtain ⟨k, rfl⟩ : ∃ m, k = m + 1 := ⟨k - 1, by omega⟩
        simp only [spec_InOk.l0]
        rw [if_pos (by omega), if_pos h0, w64 (by omega) (by omega), ih k (i + 1) (by omega) (by omega) (by omega), all_drop' h0 (by omega)]
        by_cases h : 0 ≤ rd l i
        · rw [if_neg (by omega), decide_eq_true h, Bool.true_and]
        · rw [if_pos (by omega), decide_eq_false h, Bool.false_and, Bool.false_and]
    have := key l.length k 0 (by omega) (by omega) (by omega)
    simpa using this
  · rw [if_pos (by omega), decide_eq_false hl]; rfl
theorem c_impl_WrdOk (a : Int) : impl_WrdOk.f a = some (decide (0 ≤ a ∧ a < 65536)) := by
  unfold impl_WrdOk.f
  by_cases h : 0 ≤ a
  · rw [if_pos (by omega)]; simp [h]
  · rw [if_neg (by omega)]; simp [h]
theorem c_impl_placeOk (a : Int) : impl_placeOk.f a = some (decide (0 ≤ a ∧ a < 256)) := by
  unfold impl_placeOk.f
  by_cases h : 0 ≤ a
  · rw [if_pos (by omega)]; simp [h]
  · rw [if_neg (by omega)]; simp [h]
/-- inputs are ok -/
def inOk (lay : Bool) (at_ n : Int) (picks : List Int) : Bool :=
  decide (picks.length ≤ 2) && (picks.all (fun x => decide (0 ≤ x)) && if lay = true then decide (0 ≤ at_ ∧ at_ < 256) && decide (0 ≤ n ∧ n < 65536) else decide (at_ = 0) && decide (n = 0))
theorem all_drop {l : List Int} {i : Int} (h0 : 0 ≤ i) (h1 : i < l.length) : (l.drop i.toNat).all (fun x => decide (0 ≤ x)) = (decide (0 ≤ rd l i) && (l.drop (i + 1).toNat).all (fun x => decide (0 ≤ x))) := by
  rw [List.drop_eq_getElem_cons (show i.toNat < l.length by omega), List.all_cons, rd_at h0 h1, show (i + 1).toNat = i.toNat + 1 by omega]
theorem c_impl_InOk {k : Nat} {ring lay : Bool} {a n : Int} {l : List Int} (hk : 2 < k) : impl_InOk.f k ring lay a n l = some (inOk lay a n l) := by
  unfold impl_InOk.f inOk
  by_cases hl : l.length ≤ 2
  · rw [if_neg (by omega), decide_eq_true hl, Bool.true_and]
    have key : ∀ (d k : Nat) (i : Int), 0 ≤ i → (l.length : Int) - i = d → d < k → impl_InOk.l0 k l (l.length : Int) i ring lay a n l = some ((l.drop i.toNat).all (fun x => decide (0 ≤ x)) && if lay = true then decide (0 ≤ a ∧ a < 256) && decide (0 ≤ n ∧ n < 65536) else decide (a = 0) && decide (n = 0)) := by
      intro d
      induction d with
      | zero =>
        intro k i h0 h1 h2
        obtain ⟨k, rfl⟩ : ∃ m, k = m + 1 := ⟨k - 1, by omega⟩
        simp only [impl_InOk.l0]
        rw [if_neg (by omega), List.drop_of_length_le (by omega), List.all_nil, Bool.true_and]
        cases lay
        · simp only [Bool.false_eq_true, if_false]
          by_cases h : a = 0
          · rw [if_pos h, decide_eq_true h, Bool.true_and]; rfl
          · rw [if_neg h, decide_eq_false h]; rfl
        · simp only [if_true, c_impl_placeOk, c_impl_WrdOk, Option.bind_some]
          cases h : decide (0 ≤ a ∧ a < 256)
          · rfl
          · rfl
      | succ d ih =>
        intro k i h0 h1 h2
        obtain ⟨k, rfl⟩ : ∃ m, k = m + 1 := ⟨k - 1, by omega⟩
        simp only [impl_InOk.l0]
        rw [if_pos (by omega), if_pos h0, if_pos (by omega), w64 (by omega) (by omega), ih k (i + 1) (by omega) (by omega) (by omega), all_drop h0 (by omega)]
        by_cases h : 0 ≤ rd l i
        · rw [if_neg (by omega), decide_eq_true h, Bool.true_and]
        · rw [if_pos (by omega), decide_eq_false h, Bool.false_and, Bool.false_and]
    have := key l.length k 0 (by omega) (by omega) (by omega)
    simpa using this
  · rw [if_pos (by omega), decide_eq_false hl]; rfl
theorem c_open (l : List Int) : spec_l20Open.f l = some (l.take 2000, 0) := by
  unfold spec_l20Open.f
  split
  · rw [if_pos (by omega)]
  · rw [List.take_of_length_le (by omega)]
theorem code_ok {l : List Int} (h : ∀ x ∈ l, (Lit.int .u8 x).wf = true) : ∀ x ∈ l.take 2000, 0 ≤ x ∧ x ≤ 255 :=
  fun x hx => wf_u8 (h x (List.mem_of_mem_take hx))
theorem c_pick {b : List Int} (hb : ∀ x ∈ b, 0 ≤ x ∧ x ≤ 255) {p n : Int} (hp : 0 ≤ p) (hp1 : p ≤ 1000000) {k : Nat} (hk : 0 < k) :
    ∃ r, spec_l20Rd_pick.f k b p n = some (r, p + 1) ∧ 0 ≤ r ∧ (1 ≤ n → r < n) := by
  obtain ⟨k, rfl⟩ : ∃ m, k = m + 1 := ⟨k - 1, by omega⟩
  have e1 : wrap64 (p + 1) = p + 1 := w64 (by omega) (by omega)
  have e2 : wrap64 (p + 1 - 1) = p := by rw [show p + 1 - 1 = p by omega]; exact w64 (by omega) (by omega)
  have hr : ∀ i, 0 ≤ rd b i ∧ rd b i ≤ 255 := fun i => rd_all hb (by omega) i
  unfold spec_l20Rd_pick.f
  by_cases hn1 : n < 1
  · rw [if_pos hn1, e1]
    exact ⟨0, by simp only [spec_l20Rd_pick.j0, if_true], by omega, by omega⟩
  rw [if_neg hn1, e1]
  by_cases hl0 : b.length = 0
  · refine ⟨0, ?_, by omega, by omega⟩
    have : ((b.length : Int) == 0) = true := by simp [hl0]
    rw [this]
    simp only [spec_l20Rd_pick.j0, if_true]
  have hne : ((b.length : Int) == 0) = false := by simpa using hl0
  have hlp : 0 < (b.length : Int) := by omega
  rw [hne]
  simp only [spec_l20Rd_pick.j0, e2, Bool.false_eq_true, if_false]
  by_cases hk : p < (b.length : Int)
  · rw [if_pos hk, if_pos hp, if_neg (by omega)]
    have h1 := hr p
    rw [w64 (by omega) (by omega), tmod_pos h1.1]
    exact ⟨_, rfl, Int.emod_nonneg _ (by omega), fun _ => Int.emod_lt_of_pos _ (by omega)⟩
  · rw [if_neg hk, if_neg (by omega)]
    have w3 : wrap64 (p * 7) = p * 7 := w64 (by omega) (by omega)
    have w4 : wrap64 (p * 7 + 3) = p * 7 + 3 := w64 (by omega) (by omega)
    have m1 := Int.emod_nonneg p (show (b.length : Int) ≠ 0 by omega)
    have m2 := Int.emod_lt_of_pos p hlp
    have m3 := Int.emod_nonneg (p * 7 + 3) (show (b.length : Int) ≠ 0 by omega)
    have m4 := Int.emod_lt_of_pos (p * 7 + 3) hlp
    have d1 := Int.ediv_nonneg hp (show 0 ≤ (b.length : Int) by omega)
    have d2 := Int.ediv_le_self (b.length : Int) hp
    rw [w3, w4, tmod_pos hp, tmod_pos (show 0 ≤ p * 7 + 3 by omega), tdiv_pos hp, if_pos m1, if_pos m2, if_pos m3, if_pos m4, if_neg (by omega)]
    have v1 := hr (p % (b.length : Int))
    have v2 := hr ((p * 7 + 3) % (b.length : Int))
    generalize rd b (p % (b.length : Int)) = a1 at *
    generalize rd b ((p * 7 + 3) % (b.length : Int)) = a2 at *
    generalize p / (b.length : Int) = d at *
    rw [w64 (n := a1) (by omega) (by omega), w64 (n := a2) (by omega) (by omega), w64 (n := a1 * 131) (by omega) (by omega), w64 (n := a2 * 1117) (by omega) (by omega),
      w64 (n := a1 * 131 + a2 * 1117) (by omega) (by omega), w64 (n := p * 29) (by omega) (by omega), w64 (n := a1 * 131 + a2 * 1117 + p * 29) (by omega) (by omega), w64 (n := d) (by omega) (by omega),
      w64 (n := d * 53) (by omega) (by omega), w64 (n := a1 * 131 + a2 * 1117 + p * 29 + d * 53) (by omega) (by omega)]
    have hX : 0 ≤ a1 * 131 + a2 * 1117 + p * 29 + d * 53 ∧ a1 * 131 + a2 * 1117 + p * 29 + d * 53 ≤ 1000000000 := by omega
    generalize a1 * 131 + a2 * 1117 + p * 29 + d * 53 = X at *
    rw [tdiv_pos hX.1, w64 (n := X / 64) (by omega) (by omega), xor_i64 (by omega) (by omega) (by omega) (by omega)]
    have hx := nxor_lt63 (a := X) (b := X / 64) (by omega) (by omega) (by omega) (by omega)
    rw [tmod_pos hx.1]
    exact ⟨_, rfl, Int.emod_nonneg _ (by omega), fun _ => Int.emod_lt_of_pos _ (by omega)⟩
theorem t_pick {α : Type} {b : List Int} (hb : ∀ x ∈ b, 0 ≤ x ∧ x ≤ 255) {p n : Int} {k : Nat} {F : Int × Int → Option α} {P : α → Prop} (hp : 0 ≤ p ∧ p ≤ 1000000) (hn : 1 ≤ n) (hk : 0 < k)
    (H : ∀ r, 0 ≤ r → r < n → Tot (F (r, p + 1)) P) : Tot ((spec_l20Rd_pick.f k b p n).bind F) P := by
  obtain ⟨r, e, h0, h1⟩ := c_pick hb (n := n) hp.1 hp.2 hk
  rw [e]; exact H r h0 (h1 hn)
theorem c_odd {b : List Int} (hb : ∀ x ∈ b, 0 ≤ x ∧ x ≤ 255) {p n : Int} (hp : 0 ≤ p) (hp1 : p ≤ 1000000) {k : Nat} (hk : 0 < k) :
    ∃ r q, spec_l20Rd_odd.f k b p n = some (r, q) ∧ p ≤ q ∧ q ≤ p + 1 := by
  unfold spec_l20Rd_odd.f
  obtain ⟨r, e, _, _⟩ := c_pick hb (n := n) hp hp1 hk
  split
  · rw [e]; exact ⟨_, _, rfl, by simp only []; omega, by simp only []; omega⟩
  · exact ⟨_, _, rfl, by omega, by omega⟩
theorem t_odd {α : Type} {b : List Int} (hb : ∀ x ∈ b, 0 ≤ x ∧ x ≤ 255) {p n : Int} {k : Nat} {F : Bool × Int → Option α} {P : α → Prop} (hp : 0 ≤ p ∧ p ≤ 1000000) (hk : 0 < k)
    (H : ∀ r q, p ≤ q → q ≤ p + 1 → Tot (F (r, q)) P) : Tot ((spec_l20Rd_odd.f k b p n).bind F) P := by
  obtain ⟨r, q, e, h0, h1⟩ := c_odd hb (n := n) hp.1 hp.2 hk
  rw [e]; exact H r q h0 h1
open Lean in
macro "totstep" hb:ident : tactic => `(tactic| first
  | (with_reducible refine Tot.bindSome ?_)
  | ((with_reducible refine t_pick $hb ?_ ?_ ?_ ?_); omega; omega; omega; intro r_ hr0_ hr1_; dsimp only)
  | ((with_reducible refine t_odd $hb ?_ ?_ ?_); omega; omega; intro r_ q_ hq0_ hq1_; dsimp only)
  | ((with_reducible refine Tot.some ?_); dsimp only; omega)
  | ((with_reducible refine Tot.ifPos ?_ ?_); (first | omega | (simp only [List.length_cons, List.length_nil]; omega)))
  | ((with_reducible refine Tot.ifNeg ?_ ?_); omega))
theorem c_spec_l2Has {k : Nat} (hk : 2 < k) (kind : Int) : spec_l2Has.f k kind = some (has kind) := by
  obtain ⟨k, rfl⟩ : ∃ m, k = m + 3 := ⟨k - 3, by omega⟩
  by_cases h0 : kind = 0
  · subst h0; rfl
  by_cases h1 : kind = 1
  · subst h1; rfl
  by_cases h2 : kind = 2
  · subst h2; rfl
  by_cases h3 : kind = 3
  · subst h3; rfl
  by_cases h4 : kind = 4
  · subst h4; rfl
  by_cases h5 : kind = 5
  · subst h5; rfl
  by_cases h6 : kind = 6
  · subst h6; rfl
  by_cases h7 : kind = 7
  · subst h7; rfl
  by_cases h8 : kind = 8
  · subst h8; rfl
  by_cases h9 : kind = 9
  · subst h9; rfl
  by_cases h10 : kind = 10
  · subst h10; rfl
  have e6 : (kind == 6) = false := beq_eq_false_iff_ne.2 h6
  have e8 : (kind == 8) = false := beq_eq_false_iff_ne.2 h8
  have e10 : (kind == 10) = false := beq_eq_false_iff_ne.2 h10
  simp only [spec_l2Has.f, spec_l2Has.j0, spec_l2Has.j1, spec_l2Has.j2, has, h0, h1, h2, h3, h4, h5, h6, h7, h8, h9, h10, e6, e8, e10, if_false, Bool.false_eq_true, false_or, or_self]
  repeat' (split; · rfl)
  rfl
theorem c_spec_l2Reg (a : Int) : spec_l2Reg.f a = some (decide (0 ≤ a ∧ a ≤ 7)) := by
  unfold spec_l2Reg.f
  rw [c_spec_l1In]; rfl
theorem c_spec_l2Num {k : Nat} (hk : 0 < k) {kind n bits : Int} (hb : bits = 0 ∨ bits = 6 ∨ bits = 9) : spec_l2Num.f k kind n bits = some (num kind n bits) := by
  obtain ⟨k, rfl⟩ : ∃ m, k = m + 1 := ⟨k - 1, by omega⟩
  unfold spec_l2Num.f num
  have s6 : shl .i64 1 6 = 64 := by decide +kernel
  have s5 : shl .i64 1 5 = 32 := by decide +kernel
  have s9 : shl .i64 1 9 = 512 := by decide +kernel
  have s8 : shl .i64 1 8 = 256 := by decide +kernel
  have p6 : (2 : Int) ^ (Int.toNat 6) = 64 := by decide
  have p5 : (2 : Int) ^ (Int.toNat (6 - 1)) = 32 := by decide
  have p9 : (2 : Int) ^ (Int.toNat 9) = 512 := by decide
  have p8 : (2 : Int) ^ (Int.toNat (9 - 1)) = 256 := by decide
  have hj : ∀ x : Bool, bits ≠ 0 → spec_l2Num.j0 (k + 1) n bits x = some (if x = true then decide (0 ≤ n ∧ n ≤ 2 ^ bits.toNat - 1) else decide (-(2 ^ (bits - 1).toNat) ≤ n ∧ n ≤ 2 ^ (bits - 1).toNat - 1)) := by
    intro x h0
    rcases hb with rfl | rfl | rfl
    · exact absurd rfl h0
    · have w5 : wrap64 (6 - 1) = 5 := by decide +kernel
      simp only [spec_l2Num.j0, w5, s6, s5, p6, p5, c_spec_l1In]
      have a1 : wrap64 (64 - 1) = 64 - 1 := by decide +kernel
      have a2 : wrap64 (32 - 1) = 32 - 1 := by decide +kernel
      have a3 : wrap64 (-32) = -32 := by decide +kernel
      rw [a1, a2, a3]
      cases x <;> rfl
    · have w8 : wrap64 (9 - 1) = 8 := by decide +kernel
      simp only [spec_l2Num.j0, w8, s9, s8, p9, p8, c_spec_l1In]
      have a1 : wrap64 (512 - 1) = 512 - 1 := by decide +kernel
      have a2 : wrap64 (256 - 1) = 256 - 1 := by decide +kernel
      have a3 : wrap64 (-256) = -256 := by decide +kernel
      rw [a1, a2, a3]
      cases x <;> rfl
  by_cases h0 : bits = 0
  · rw [if_pos h0, if_pos h0]
  · rw [if_neg h0, if_neg h0, hj _ h0, hj _ h0]
    by_cases h12 : kind = 12
    · rw [if_pos h12, if_pos rfl, if_pos (.inl h12)]
    · rw [if_neg h12]
      by_cases h2 : kind = 2
      · rw [if_pos (beq_iff_eq.2 h2), if_pos (Or.inr h2)]
      · rw [if_neg (by simpa using h2), if_neg (by omega)]
theorem c_spec_CodOk {k : Nat} (hk : 3 < k) (kind d a b f n : Int) : spec_CodOk.f k kind d a b f n = some (codOk kind d a b f n) := by
  obtain ⟨k, rfl⟩ : ∃ m, k = m + 4 := ⟨k - 4, by omega⟩
  have hj2 : ∀ (x3 x4 x5 : Bool) (x7 x8 : Int), (x7 = 0 ∨ x7 = 6 ∨ x7 = 9) → spec_CodOk.j2 (k + 2) x3 x4 x5 x7 x8 kind d a b f n =
      some ((decide (d = 0) || x3 && decide (0 ≤ d ∧ d ≤ 7)) && ((decide (a = 0) || x4 && decide (0 ≤ a ∧ a ≤ 7)) && ((decide (b = 0) || x5 && decide (0 ≤ b ∧ b ≤ 7)) && (decide (0 ≤ f ∧ f ≤ x8) && num kind n x7)))) := by
    intro x3 x4 x5 x7 x8 h7
    have hn : spec_l2Num.f (k + 1) kind n x7 = some (num kind n x7) := c_spec_l2Num (by omega) h7
    have e1 : (spec_l1In.f f 0 x8).bind (fun t => if t = true then (spec_l2Num.f (k + 1) kind n x7).bind fun u => some u else some false) = some (decide (0 ≤ f ∧ f ≤ x8) && num kind n x7) := by
      rw [c_spec_l1In, hn]; simp only [Option.bind_some]
      cases decide (0 ≤ f ∧ f ≤ x8) <;> rfl
    have e2 : (if b = 0 then (spec_l1In.f f 0 x8).bind (fun t => if t = true then (spec_l2Num.f (k + 1) kind n x7).bind fun u => some u else some false) else (if x5 = true then (spec_l2Reg.f b).bind (fun t => if t = true then (spec_l1In.f f 0 x8).bind (fun t => if t = true then (spec_l2Num.f (k + 1) kind n x7).bind fun u => some u else some false) else some false) else some false)) =
        some ((decide (b = 0) || x5 && decide (0 ≤ b ∧ b ≤ 7)) && (decide (0 ≤ f ∧ f ≤ x8) && num kind n x7)) := by
      rw [e1, c_spec_l2Reg]; simp only [Option.bind_some]
      by_cases hb : b = 0
      · rw [if_pos hb, decide_eq_true hb, Bool.true_or, Bool.true_and]
      · rw [if_neg hb, decide_eq_false hb, Bool.false_or]
        cases x5
        · rfl
        · rw [if_pos rfl, Bool.true_and]
          cases decide (0 ≤ b ∧ b ≤ 7) <;> rfl
    have e3 : (if a = 0 then (if b = 0 then (spec_l1In.f f 0 x8).bind (fun t => if t = true then (spec_l2Num.f (k + 1) kind n x7).bind fun u => some u else some false) else (if x5 = true then (spec_l2Reg.f b).bind (fun t => if t = true then (spec_l1In.f f 0 x8).bind (fun t => if t = true then (spec_l2Num.f (k + 1) kind n x7).bind fun u => some u else some false) else some false) else some false)) else (if x4 = true then (spec_l2Reg.f a).bind (fun t => if t = true then (if b = 0 then (spec_l1In.f f 0 x8).bind (fun t => if t = true then (spec_l2Num.f (k + 1) kind n x7).bind fun u => some u else some false) else (if x5 = true then (spec_l2Reg.f b).bind (fun t => if t = true then (spec_l1In.f f 0 x8).bind (fun t => if t = true then (spec_l2Num.f (k + 1) kind n x7).bind fun u => some u else some false) else some false) else some false)) else some false) else some false)) =
        some ((decide (a = 0) || x4 && decide (0 ≤ a ∧ a ≤ 7)) && ((decide (b = 0) || x5 && decide (0 ≤ b ∧ b ≤ 7)) && (decide (0 ≤ f ∧ f ≤ x8) && num kind n x7))) := by
      rw [e2, c_spec_l2Reg]; simp only [Option.bind_some]
      by_cases ha : a = 0
      · rw [if_pos ha, decide_eq_true ha, Bool.true_or, Bool.true_and]
      · rw [if_neg ha, decide_eq_false ha, Bool.false_or]
        cases x4
        · rfl
        · rw [if_pos rfl, Bool.true_and]
          cases decide (0 ≤ a ∧ a ≤ 7) <;> rfl
    simp only [spec_CodOk.j2]
    rw [e3, c_spec_l2Reg]; simp only [Option.bind_some]
    by_cases hd : d = 0
    · rw [if_pos hd, decide_eq_true hd, Bool.true_or, Bool.true_and]
    · rw [if_neg hd, decide_eq_false hd, Bool.false_or]
      cases x3
      · rfl
      · rw [if_pos rfl, Bool.true_and]
        cases decide (0 ≤ d ∧ d ≤ 7) <;> rfl
  have hj0 : ∀ (x3 x4 x5 : Bool) (x7 x8 : Int), (x7 = 0 ∨ x7 = 6 ∨ x7 = 9) → spec_CodOk.j0 (k + 4) x3 x4 x5 x7 x8 kind d a b f n =
      some ((decide (d = 0) || x3 && decide (0 ≤ d ∧ d ≤ 7)) && ((decide (a = 0) || x4 && decide (0 ≤ a ∧ a ≤ 7)) && ((decide (b = 0) || x5 && decide (0 ≤ b ∧ b ≤ 7)) && (decide (0 ≤ f ∧ f ≤ (if kind = 14 ∨ kind = 15 then 4 else x8)) && num kind n x7)))) := by
    intro x3 x4 x5 x7 x8 h7
    simp only [spec_CodOk.j0, spec_CodOk.j1]
    rw [hj2 _ _ _ _ _ h7, hj2 _ _ _ _ _ h7]
    by_cases h14 : kind = 14
    · rw [if_pos h14, if_pos trivial, if_pos (Or.inl h14)]
    · rw [if_neg h14]
      by_cases h15 : kind = 15
      · rw [if_pos (beq_iff_eq.2 h15), if_pos (Or.inr h15)]
      · rw [if_neg (by simpa using h15), if_neg (by omega)]
  unfold spec_CodOk.f codOk topF
  rw [c_spec_l1In, c_spec_l2Has (by omega)]; simp only [Option.bind_some]
  rw [hj0 _ _ _ _ _ (has_bits kind), hj0 _ _ _ _ _ (has_bits kind)]
  by_cases hkd : 0 ≤ kind ∧ kind ≤ 15
  · rw [decide_eq_true hkd, if_pos rfl, Bool.true_and]
    cases (has kind).2.2.2.1
    · simp only [Bool.false_eq_true, if_false]
    · simp only [if_true]
  · rw [decide_eq_false hkd]; rfl
/-- An instruction's word is told; of what is none, -1. -/
theorem c_spec_CodWord_some {k : Nat} (hk : 5 < k) (kind d a b f n : Int) : ∃ w, spec_CodWord.f k kind d a b f n = some w := by
  obtain ⟨k, rfl⟩ : ∃ m, k = m + 6 := ⟨k - 6, by omega⟩
  unfold spec_CodWord.f
  rw [c_spec_CodOk (by omega), c_spec_l2Has (by omega)]; simp only [Option.bind_some]
  cases hc : codOk kind d a b f n
  · exact ⟨_, rfl⟩
  · have hkd : 0 ≤ kind ∧ kind ≤ 15 := by
      unfold codOk at hc
      by_cases h : 0 ≤ kind ∧ kind ≤ 15
      · exact h
      · rw [decide_eq_false h, Bool.false_and] at hc; cases hc
    clear hc
    have s6 : shl .i64 1 6 = 64 := by decide +kernel
    have s9 : shl .i64 1 9 = 512 := by decide +kernel
    obtain ⟨i, rfl, hi⟩ : ∃ i : Nat, kind = (i : Int) ∧ i ≤ 15 := ⟨kind.toNat, (by omega), (by omega)⟩
    clear hkd
    have v0 : wrap64 0 = 0 := by decide +kernel
    have v1 : wrap64 1 = 1 := by decide +kernel
    have v2 : wrap64 2 = 2 := by decide +kernel
    have v3 : wrap64 3 = 3 := by decide +kernel
    have v4 : wrap64 4 = 4 := by decide +kernel
    have v6 : wrap64 6 = 6 := by decide +kernel
    have v9 : wrap64 9 = 9 := by decide +kernel
    have w1 : wrap64 (0 + 1) = 1 := by decide +kernel
    have w2 : wrap64 (1 + 1) = 2 := by decide +kernel
    have w3 : wrap64 (2 + 1) = 3 := by decide +kernel
    have w4 : wrap64 (3 + 1) = 4 := by decide +kernel
    have l1 : wrap64 (12 - 3) = 9 := by decide +kernel
    have l2 : wrap64 (9 - 3) = 6 := by decide +kernel
    have l3 : wrap64 (6 - 3) = 3 := by decide +kernel
    have l4 : wrap64 (3 - 3) = 0 := by decide +kernel
    have m1 : wrap64 (6 - 6) = 0 := by decide +kernel
    have m2 : wrap64 (9 - 9) = 0 := by decide +kernel
    have m3 : wrap64 (12 - 9) = 3 := by decide +kernel
    match i, hi with
    | 0, _ | 1, _ | 2, _ | 3, _ | 4, _ | 5, _ | 6, _ | 7, _ | 8, _ | 9, _ | 10, _ | 11, _ | 12, _ | 13, _ | 14, _ | 15, _ =>
      simp [spec_CodWord.l0, has, rdOf, v0, v1, v2, v3, v4, v6, v9, w1, w2, w3, w4, l1, l2, l3, l4, m1, m2, m3, s6, s9]
theorem t_Inst {α : Type} {b : List Int} (hb : ∀ x ∈ b, 0 ≤ x ∧ x ≤ 255) {p n : Int} {k : Nat} {F : Int × Int × Int × Int × Int × Int × Int → Option α} {P : α → Prop} (hp : 0 ≤ p ∧ p ≤ 900000) (hk : 10 < k)
    (H : ∀ kd d a bb f m q, p ≤ q → q ≤ p + 40 → Tot (F (kd, d, a, bb, f, m, q)) P) : Tot ((spec_l20Inst.f k b p n).bind F) P := by
  have j4 : ∀ (k : Nat) (x1 p a b' c d e f : Int), 1 < k → (0 ≤ p ∧ p ≤ 999000) → Tot (spec_l20Inst.j4 k x1 b p a b' c d e f) (fun t => p ≤ t.2.2.2.2.2.2 ∧ t.2.2.2.2.2.2 ≤ p + 3) := by
    intro k x1 p a b' c d e f hk hp
    obtain ⟨k, rfl⟩ : ∃ m, k = m + 2 := ⟨k - 2, by omega⟩
    simp only [spec_l20Inst.j4]
    refine t_odd hb (by omega) (by omega) ?_; intro r q hq0 hq1; dsimp only
    cases r
    · simp only [Bool.false_eq_true, if_false]
      exact Tot.some (by dsimp only; omega)
    · simp only [if_true]
      refine t_pick hb (by omega) (by omega) (by omega) ?_; intro r hr0 hr1; dsimp only
      refine Tot.ite (fun _ => ?_) (fun _ => Tot.ite (fun _ => ?_) (fun _ => Tot.ite (fun _ => ?_) (fun _ => Tot.ite (fun _ => ?_) (fun _ => ?_))))
      all_goals repeat' totstep hb
  have j3 : ∀ (k : Nat) (x1 x10 p a b' c d e f : Int), 2 < k → (0 ≤ p ∧ p ≤ 998000) → Tot (spec_l20Inst.j3 k x1 x10 b p a b' c d e f) (fun t => p ≤ t.2.2.2.2.2.2 ∧ t.2.2.2.2.2.2 ≤ p + 9) := by
    intro k x1 x10 p a b' c d e f hk hp
    obtain ⟨k, rfl⟩ : ∃ m, k = m + 3 := ⟨k - 3, by omega⟩
    simp only [spec_l20Inst.j3]
    refine Tot.ite (fun _ => ?_) (fun _ => ?_)
    · iterate 7 totstep hb
      refine Tot.ite (fun _ => ?_) (fun _ => Tot.ite (fun _ => ?_) (fun _ => ?_))
      · exact (j4 _ _ _ _ _ _ _ _ _ (by omega) (by omega)).mono (by intro t ht; omega)
      · exact (j4 _ _ _ _ _ _ _ _ _ (by omega) (by omega)).mono (by intro t ht; omega)
      · totstep hb
        refine Tot.ite (fun _ => ?_) (fun _ => ?_)
        · totstep hb
          exact (j4 _ _ _ _ _ _ _ _ _ (by omega) (by omega)).mono (by intro t ht; omega)
        · exact (j4 _ _ _ _ _ _ _ _ _ (by omega) (by omega)).mono (by intro t ht; omega)
    · exact (j4 _ _ _ _ _ _ _ _ _ (by omega) (by omega)).mono (by intro t ht; omega)
  have j2 : ∀ (k : Nat) (x1 : Int) (x9 : Bool) (x10 p a b' c d e f : Int), 3 < k → (0 ≤ p ∧ p ≤ 997000) → Tot (spec_l20Inst.j2 k x1 x9 x10 b p a b' c d e f) (fun t => p ≤ t.2.2.2.2.2.2 ∧ t.2.2.2.2.2.2 ≤ p + 12) := by
    intro k x1 x9 x10 p a b' c d e f hk hp
    obtain ⟨k, rfl⟩ : ∃ m, k = m + 4 := ⟨k - 4, by omega⟩
    simp only [spec_l20Inst.j2]
    refine Tot.ite (fun _ => ?_) (fun _ => ?_)
    · totstep hb
      refine Tot.ite (fun _ => ?_) (fun _ => Tot.ite (fun _ => ?_) (fun _ => ?_))
      · totstep hb
        exact (j3 _ _ _ _ _ _ _ _ _ _ (by omega) (by omega)).mono (by intro t ht; omega)
      · totstep hb
        exact (j3 _ _ _ _ _ _ _ _ _ _ (by omega) (by omega)).mono (by intro t ht; omega)
      · exact (j3 _ _ _ _ _ _ _ _ _ _ (by omega) (by omega)).mono (by intro t ht; omega)
    · exact (j3 _ _ _ _ _ _ _ _ _ _ (by omega) (by omega)).mono (by intro t ht; omega)
  have j1 : ∀ (k : Nat) (x1 : Int) (x8 x9 : Bool) (x10 p a b' c d e f : Int), 4 < k → (0 ≤ p ∧ p ≤ 996000) → Tot (spec_l20Inst.j1 k x1 x8 x9 x10 b p a b' c d e f) (fun t => p ≤ t.2.2.2.2.2.2 ∧ t.2.2.2.2.2.2 ≤ p + 16) := by
    intro k x1 x8 x9 x10 p a b' c d e f hk hp
    obtain ⟨k, rfl⟩ : ∃ m, k = m + 5 := ⟨k - 5, by omega⟩
    simp only [spec_l20Inst.j1]
    refine Tot.ite (fun _ => ?_) (fun _ => ?_)
    · iterate 6 totstep hb
      exact (j2 _ _ _ _ _ _ _ _ _ _ _ (by omega) (by omega)).mono (by intro t ht; omega)
    · exact (j2 _ _ _ _ _ _ _ _ _ _ _ (by omega) (by omega)).mono (by intro t ht; omega)
  have j0 : ∀ (k : Nat) (x1 : Int) (x7 x8 x9 : Bool) (x10 p a b' c d e f : Int), 5 < k → (0 ≤ p ∧ p ≤ 995000) → Tot (spec_l20Inst.j0 k x1 x7 x8 x9 x10 b p a b' c d e f) (fun t => p ≤ t.2.2.2.2.2.2 ∧ t.2.2.2.2.2.2 ≤ p + 20) := by
    intro k x1 x7 x8 x9 x10 p a b' c d e f hk hp
    obtain ⟨k, rfl⟩ : ∃ m, k = m + 6 := ⟨k - 6, by omega⟩
    simp only [spec_l20Inst.j0]
    refine Tot.ite (fun _ => ?_) (fun _ => ?_)
    · iterate 6 totstep hb
      exact (j1 _ _ _ _ _ _ _ _ _ _ _ _ (by omega) (by omega)).mono (by intro t ht; omega)
    · exact (j1 _ _ _ _ _ _ _ _ _ _ _ _ (by omega) (by omega)).mono (by intro t ht; omega)
  refine Tot.bind (Q := fun t => p ≤ t.2.2.2.2.2.2 ∧ t.2.2.2.2.2.2 ≤ p + 40) ?_ (by rintro ⟨kd, d, a, bb, f, m, q⟩ ⟨h1, h2⟩; exact H _ _ _ _ _ _ _ h1 h2)
  unfold spec_l20Inst.f
  iterate 6 totstep hb
  rw [c_spec_l2Has (by omega)]
  refine Tot.bindSome ?_
  refine Tot.ite (fun _ => ?_) (fun _ => ?_)
  · iterate 6 totstep hb
    exact (j0 _ _ _ _ _ _ _ _ _ _ _ _ _ (by omega) (by omega)).mono (by intro t ht; omega)
  · exact (j0 _ _ _ _ _ _ _ _ _ _ _ _ _ (by omega) (by omega)).mono (by intro t ht; omega)
theorem c_word {b : List Int} (hb : ∀ x ∈ b, 0 ≤ x ∧ x ≤ 255) {p : Int} (n : Int) (hp : 0 ≤ p) (hp1 : p ≤ 900000) {k : Nat} (hk : 0 < k) :
    ∃ r q, spec_l20Word.f k b p n = some (r, q) ∧ (-9223372036854775808 ≤ r ∧ r ≤ 9223372036854775807) ∧ p ≤ q ∧ q ≤ p + 10 := by
  unfold spec_l20Word.f
  obtain ⟨o, p0, e0, l0, u0⟩ := c_odd hb (n := n) hp (by omega) hk
  rw [e0]; simp only [Option.bind_some]
  cases o
  · simp only [Bool.false_eq_true, if_false]
    obtain ⟨r1, e1, a1, b1⟩ := c_pick hb (p := p0) (n := 4) (by omega) (by omega) hk
    rw [e1]; simp only [Option.bind_some]
    obtain ⟨r2, e2, a2, b2⟩ := c_pick hb (p := p0 + 1) (n := 256) (by omega) (by omega) hk
    rw [e2]; simp only [Option.bind_some]
    obtain ⟨r3, e3, a3, b3⟩ := c_pick hb (p := p0 + 1 + 1) (n := 256) (by omega) (by omega) hk
    rw [e3]; simp only [Option.bind_some]
    obtain ⟨r4, e4, a4, b4⟩ := c_pick hb (p := p0 + 1 + 1 + 1) (n := 256) (by omega) (by omega) hk
    rw [e4]; simp only [Option.bind_some]
    obtain ⟨r5, e5, a5, b5⟩ := c_pick hb (p := p0 + 1 + 1 + 1 + 1) (n := 4) (by omega) (by omega) hk
    rw [e5]; simp only [Option.bind_some]
    obtain ⟨r6, e6, a6, b6⟩ := c_pick hb (p := p0 + 1 + 1 + 1 + 1 + 1) (n := 2) (by omega) (by omega) hk
    rw [e6]; simp only [Option.bind_some]
    obtain ⟨r7, e7, a7, b7⟩ := c_pick hb (p := p0 + 1 + 1 + 1 + 1 + 1 + 1) (n := 5) (by omega) (by omega) hk
    rw [e7]; simp only [Option.bind_some]
    rw [if_pos a7, if_pos (by simp only [List.length_cons, List.length_nil]; omega)]
    refine ⟨_, _, rfl, ?_, by omega, by omega⟩
    refine rd_all (P := fun x => -9223372036854775808 ≤ x ∧ x ≤ 9223372036854775807) ?_ (by omega) _
    simp only [List.mem_cons, List.not_mem_nil, or_false]
    rintro x (rfl | rfl | rfl | rfl | rfl)
    · omega
    · omega
    · exact ⟨w64_lo _, w64_hi _⟩
    · exact ⟨w64_lo _, w64_hi _⟩
    · exact ⟨w64_lo _, w64_hi _⟩
  · simp only [if_true]
    obtain ⟨r1, e1, a1, b1⟩ := c_pick hb (p := p0) (n := 4) (by omega) (by omega) hk
    rw [e1]; simp only [Option.bind_some]
    rw [if_pos a1, if_pos (by simp only [List.length_cons, List.length_nil]; omega)]
    refine ⟨_, _, rfl, ?_, by omega, by omega⟩
    refine rd_all (P := fun x => -9223372036854775808 ≤ x ∧ x ≤ 9223372036854775807) ?_ (by omega) _
    simp only [List.mem_cons, List.not_mem_nil, or_false]
    rintro x (rfl | rfl | rfl | rfl) <;> omega
theorem t_In {b : List Int} (hb : ∀ x ∈ b, 0 ≤ x ∧ x ≤ 255) {p n : Int} {k : Nat} (hp : 0 ≤ p ∧ p ≤ 800000) (hk : 20 < k) : Tot (spec_l20In.f k b p n) (fun t => p ≤ t.2.2.2.2.2 ∧ t.2.2.2.2.2 ≤ p + 100) := by
  have j1 : ∀ (k : Nat) (x1 p : Int) (u v : Bool) (x y : Int) (l : List Int), 1 < k → (0 ≤ p ∧ p ≤ 999000) → Tot (spec_l20In.j1 k x1 b p u v x y l) (fun t => p ≤ t.2.2.2.2.2 ∧ t.2.2.2.2.2 ≤ p + 5) := by
    intro k x1 p u v x y l hk hp
    obtain ⟨k, rfl⟩ : ∃ m, k = m + 2 := ⟨k - 2, by omega⟩
    simp only [spec_l20In.j1]
    totstep hb
    refine Tot.ite (fun _ => ?_) (fun _ => ?_)
    · totstep hb
      refine Tot.ite (fun _ => ?_) (fun _ => Tot.ite (fun _ => ?_) (fun _ => Tot.ite (fun _ => ?_) (fun _ => ?_)))
      all_goals repeat' totstep hb
    · totstep hb
  have j0 : ∀ (k : Nat) (x1 p : Int) (u v : Bool) (x y : Int) (l : List Int), 15 < k → (0 ≤ p ∧ p ≤ 850000) → Tot (spec_l20In.j0 k x1 b p u v x y l) (fun t => p ≤ t.2.2.2.2.2 ∧ t.2.2.2.2.2 ≤ p + 90) := by
    intro k x1 p u v x y l hk hp
    obtain ⟨k, rfl⟩ : ∃ m, k = m + 16 := ⟨k - 16, by omega⟩
    simp only [spec_l20In.j0]
    totstep hb
    refine Tot.ite (fun _ => ?_) (fun _ => ?_)
    · iterate 7 totstep hb
      obtain ⟨r, q, e, _, hq0, hq1⟩ := c_word hb (p := p + 1 + 1 + 1 + 1 + 1) 0 (by omega) (by omega) (k := k + 15) (by omega)
      rw [e]; refine Tot.bindSome ?_; dsimp only
      refine t_Inst hb (by omega) (by omega) ?_
      intro kd d a bb f m q2 h0 h1; dsimp only
      obtain ⟨w, e⟩ := c_spec_CodWord_some (k := k + 15) (by omega) kd d a bb f m
      rw [e]; refine Tot.bindSome ?_
      iterate 5 totstep hb
      exact (j1 _ _ _ _ _ _ _ _ (by omega) (by omega)).mono (by intro t ht; omega)
    · exact (j1 _ _ _ _ _ _ _ _ (by omega) (by omega)).mono (by intro t ht; omega)
  unfold spec_l20In.f
  iterate 5 totstep hb
  refine Tot.ite (fun _ => ?_) (fun _ => ?_)
  · refine Tot.ifPos (by simp only [List.length_cons, List.length_nil]; omega) ?_
    exact (j0 _ _ _ _ _ _ _ _ (by omega) (by omega)).mono (by intro t ht; omega)
  · exact (j0 _ _ _ _ _ _ _ _ (by omega) (by omega)).mono (by intro t ht; omega)
theorem c_DrawInOk {l : List Int} (h : ∀ x ∈ l, (Lit.int .u8 x).wf = true) {k : Nat} (hk : 20 < k) : ∃ t, spec_DrawInOk.f k l = some t := by
  unfold spec_DrawInOk.f
  rw [c_open]; simp only [Option.bind_some]
  obtain ⟨t, e, _⟩ := t_In (code_ok h) (p := 0) (n := 2) (k := k) (by omega) hk
  rw [e]; exact ⟨_, rfl⟩
theorem FnInOk : ∀ l : List Int, l.length ≤ maxLen → l.length * 1 ≤ 140737488351232 → (∀ x ∈ l, (Lit.int .u8 x).wf = true) → ∃ k, laws_FnInOk.f k l = some true := by
  intro l _ _ h
  refine ⟨21, ?_⟩
  unfold laws_FnInOk.f
  obtain ⟨⟨a, b, c, d, e⟩, ed⟩ := c_DrawInOk h (k := 21) (by omega)
  split
  · rfl
  rw [ed]; simp only [Option.bind_some, impl_InAll.f]
  rw [c_impl_InOk (by omega), c_impl_InOk (by omega), c_spec_InOk (by omega)]; simp only [Option.bind_some]
  rw [if_neg (by simp [inOk]), if_pos (by decide), if_neg (by decide), if_neg (by decide)]
  simp only [laws_FnInOk.j0]
  rw [if_neg (by decide)]
  cases hv : inOk b c d e
  · rfl
  · rw [if_pos rfl, c_impl_InOk (by omega)]; simp only [Option.bind_some]
    rw [if_neg (by simp [inOk]), c_impl_InOk (by omega)]; simp only [Option.bind_some]
    unfold inOk at hv ⊢
    simp only [Bool.and_eq_true] at hv
    obtain ⟨h1, h2, h3⟩ := hv
    rw [h1, h2]
    cases b
    · simp only [Bool.false_eq_true, if_false, Bool.and_eq_true, decide_eq_true_eq] at h3
      obtain ⟨rfl, rfl⟩ := h3
      rfl
    · simp only [if_true, Bool.false_eq_true, if_false, Bool.true_and]
      by_cases hc : c = 0
      · subst hc
        by_cases hd : d = 0
        · subst hd; rfl
        · simp [hd]
      · simp [hc]
end Go.Proofs.Ytdpgomcdacmhkaa.Pure
