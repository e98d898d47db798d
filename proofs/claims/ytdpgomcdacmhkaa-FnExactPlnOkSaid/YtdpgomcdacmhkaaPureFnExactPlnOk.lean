/- The law FnExactPlnOk, as a plain statement over numbers and lists (no Go, no memory): ∀ (a : Int) (r c m : List Int), (Lit.int .i64 a).wf = true → r.length ≤ maxLen → (∀ x ∈ r, (Lit.int .i64 x).wf = true) → c.length ≤ maxLen → (∀ x ∈ c, (Lit.int .i64 x).wf = true) → m.length ≤ maxLen → (∀ x ∈ m, (Lit.int .i64 x).wf = true) → ∃ k, laws_FnExactPlnOk.f k a r c m = some true
It holds for all such arguments; there are no further conditions. -/
import Derived.Test.YtdpgomcdacmhkaaPFnExactPlnOkx3
import Derived.Test.YtdpgomcdacmhkaaPlain
set_option linter.unusedVariables false
set_option linter.unusedSimpArgs false
namespace Go.Proofs.Ytdpgomcdacmhkaa.Pure
open Go.RowKit Go.Proofs.Ytdpgomcdacmhkaa.PFnExactPlnOk Go.Proofs.YtdpgomcdacmhkaaW.PrintWords Go.Proofs.YtdpgomcdacmhkaaW.PrintLast Go.Proofs.Ytdpgomcdacmhkaa.Plain
theorem c_impl_WrdOk (a : Int) : impl_WrdOk.f a = some (decide (0 ≤ a ∧ a < 65536)) := by
  unfold impl_WrdOk.f
  by_cases h : 0 ≤ a
  · rw [if_pos (by omega)]; simp [h]
  · rw [if_neg (by omega)]; simp [h]
theorem c_impl_allWords {k : Nat} {l : List Int} (hk : l.length < k) (hl : l.length ≤ 4611686018427387904) : impl_allWords.f k l = some (wds l) := by
  unfold impl_allWords.f
  have key : ∀ (d k : Nat) (i : Int), 0 ≤ i → (l.length : Int) - i = d → d < k → impl_allWords.l0 k l (l.length : Int) i = some (wds (l.drop i.toNat)) := by
    intro d
    induction d with
    | zero =>
      intro k i h0 h1 h2
      obtain ⟨k, rfl⟩ : ∃ m, k = m + 1 := ⟨k - 1, by omega⟩
      simp only [impl_allWords.l0]
      rw [if_neg (by omega), List.drop_of_length_le (by omega)]; rfl
    | succ d ih =>
      intro k i h0 h1 h2
      obtain ⟨k, rfl⟩ : ∃ m, k = m + 1 := ⟨k - 1, by omega⟩
      simp only [impl_allWords.l0]
      rw [if_pos (by omega), if_pos h0, if_pos (by omega), c_impl_WrdOk, w64 (by omega) (by omega), ih k (i + 1) (by omega) (by omega) (by omega), wds_drop h0 (by omega)]
      simp only [Option.bind_some]
      by_cases h : 0 ≤ rd l i ∧ rd l i < 65536
      · rw [decide_eq_true h, if_pos rfl, Bool.true_and]
      · rw [decide_eq_false h, if_neg (by decide), Bool.false_and]
  have := key l.length k 0 (by omega) (by omega) hk
  simpa using this
theorem c_impl_ctlOk {k : Nat} {l : List Int} (hk : l.length < k) (hl : l.length ≤ 4611686018427387904) : impl_ctlOk.f k l = some (decide (l.length = 5) && (wds l && decide (rd l 3 < 4))) := by
  unfold impl_ctlOk.f
  by_cases h : l.length = 5
  · rw [if_pos (by omega), c_impl_allWords hk hl, decide_eq_true h]; simp only [Option.bind_some]
    cases hw : wds l
    · rfl
    · rw [if_pos rfl, if_pos (by omega)]; rfl
  · rw [if_neg (by omega), decide_eq_false h]; rfl
theorem c_impl_PlnOk {k : Nat} {pc : Int} {r c m : List Int} (hr : r.length < k) (hc : c.length < k) (hm : m.length < k) (hr' : r.length ≤ 4611686018427387904) (hc' : c.length ≤ 4611686018427387904) (hm' : m.length ≤ 4611686018427387904) :
    impl_PlnOk.f k pc r c m = some (plnOk pc r c m) := by
  unfold impl_PlnOk.f plnOk
  rw [c_impl_WrdOk]; simp only [Option.bind_some]
  by_cases h0 : 0 ≤ pc ∧ pc < 65536
  · rw [decide_eq_true h0, if_pos rfl, Bool.true_and]
    by_cases h1 : r.length = 8
    · rw [decide_eq_true h1, if_pos (by omega), Bool.true_and, c_impl_allWords hr hr']; simp only [Option.bind_some]
      cases h2 : wds r
      · rfl
      · rw [if_pos rfl, if_pos (by omega), Bool.true_and]
        by_cases h3 : rd r 0 = 0
        · rw [if_pos h3, decide_eq_true h3, Bool.true_and, c_impl_ctlOk hc hc']; simp only [Option.bind_some]
          cases h4 : decide (c.length = 5) && (wds c && decide (rd c 3 < 4))
          · rw [if_neg (by decide)]
            rw [← Bool.and_assoc, ← Bool.and_assoc, ← Bool.and_assoc, Bool.and_assoc (decide (c.length = 5)), h4]; rfl
          · rw [if_pos rfl]
            rw [← Bool.and_assoc, ← Bool.and_assoc, Bool.and_assoc (decide (c.length = 5)), h4, Bool.true_and]
            by_cases h5 : m.length = 256
            · rw [if_pos (by omega), decide_eq_true h5, c_impl_allWords hm hm', Bool.true_and]; rfl
            · rw [if_neg (by omega), decide_eq_false h5]; rfl
        · rw [if_neg h3, decide_eq_false h3]; rfl
    · rw [decide_eq_false h1, if_neg (by omega)]; rfl
  · rw [decide_eq_false h0]; rfl
theorem c_eqIntS {k : Nat} {a b : List Int} (hk : a.length < k) (ha : a.length ≤ 4611686018427387904) : laws_eqIntS.f k a b = some (decide (a = b)) := by
  unfold laws_eqIntS.f
  by_cases hl : a.length = b.length
  · rw [if_pos (by omega)]
    have key : ∀ (d k : Nat) (i : Int), 0 ≤ i → (a.length : Int) - i = d → d < k → laws_eqIntS.l0 k a b i = some (decide (a.drop i.toNat = b.drop i.toNat)) := by
      intro d
      induction d with
      | zero =>
        intro k i h0 h1 h2
        obtain ⟨k, rfl⟩ : ∃ m, k = m + 1 := ⟨k - 1, by omega⟩
        simp only [laws_eqIntS.l0]
        rw [if_neg (by omega), List.drop_of_length_le (by omega), List.drop_of_length_le (by omega)]; simp
      | succ d ih =>
        intro k i h0 h1 h2
        obtain ⟨k, rfl⟩ : ∃ m, k = m + 1 := ⟨k - 1, by omega⟩
        simp only [laws_eqIntS.l0]
        rw [if_pos (by omega), if_pos h0, if_pos (by omega), rd_at h0 (by omega), rd_at h0 (by omega), List.drop_eq_getElem_cons (show i.toNat < a.length by omega), List.drop_eq_getElem_cons (show i.toNat < b.length by omega)]
        by_cases he : a[i.toNat]'(by omega) = b[i.toNat]'(by omega)
        · rw [if_pos he, w64 (by omega) (by omega), ih k (i + 1) (by omega) (by omega) (by omega), show (i + 1).toNat = i.toNat + 1 by omega]
          congr 1
          exact decide_eq_decide.2 ⟨fun h => by rw [he, h], fun h => (List.cons.inj h).2⟩
        · rw [if_neg he]
          congr 1
          exact (decide_eq_false (fun h => he (List.cons.inj h).1)).symm
    have := key a.length k 0 (by omega) (by omega) hk
    simpa using this
  · rw [if_neg (by omega)]
    have : a ≠ b := fun h => hl (by rw [h])
    simp [this]
theorem c_eqPlnState_self {k : Nat} {a : Int} {r c m : List Int} (hr : r.length < k) (hc : c.length < k) (hm : m.length < k) (hr' : r.length ≤ 4611686018427387904) (hc' : c.length ≤ 4611686018427387904) (hm' : m.length ≤ 4611686018427387904) :
    laws_eqPlnState.f k a r c m a r c m = some true := by
  unfold laws_eqPlnState.f
  rw [if_pos rfl, c_eqIntS hr hr', c_eqIntS hc hc', c_eqIntS hm hm']
  simp
theorem c_szIntS {a : List Int} {m : Int} (h0 : 0 ≤ m) (h1 : m ≤ 1048576) (ha : a.length ≤ 9223372036854775807) : laws_szIntS.f a m = some (if m < a.length then -1 else m - a.length) := by
  unfold laws_szIntS.f
  rw [w64 (by omega) (by omega)]
  by_cases h : m < a.length
  · rw [if_pos (by omega), if_pos h]
  · rw [if_neg (by omega), if_neg h]
theorem c_szPlnState {a : Int} {r c m : List Int} (hr' : r.length ≤ 9223372036854775807) (hc' : c.length ≤ 9223372036854775807) (hm' : m.length ≤ 9223372036854775807) :
    laws_szPlnState.f a r c m 1048576 = some (-1) ∨ (∃ n, laws_szPlnState.f a r c m 1048576 = some n ∧ 0 ≤ n) ∧ r.length + c.length + m.length ≤ 1048576 := by
  unfold laws_szPlnState.f
  rw [c_szIntS (by omega) (by omega) hr']; simp only [Option.bind_some]
  by_cases h1 : (1048576 : Int) < r.length
  · rw [if_pos h1]; exact .inl rfl
  · rw [if_neg h1, if_neg (by omega), c_szIntS (by omega) (by omega) hc']; simp only [Option.bind_some]
    by_cases h2 : (1048576 - (r.length : Int)) < c.length
    · rw [if_pos h2]; exact .inl rfl
    · rw [if_neg h2, if_neg (by omega), c_szIntS (by omega) (by omega) hm']; simp only [Option.bind_some]
      by_cases h3 : (1048576 - (r.length : Int) - c.length) < m.length
      · rw [if_pos h3]; exact .inl rfl
      · rw [if_neg h3, if_neg (by omega)]; exact .inr ⟨⟨_, rfl, by omega⟩, by omega⟩
theorem c_spec_l1In (a b c : Int) : spec_l1In.f a b c = some (decide (b ≤ a ∧ a ≤ c)) := by
  unfold spec_l1In.f
  by_cases h : b ≤ a
  · rw [if_pos (by omega)]; simp [h]
  · rw [if_neg (by omega)]; simp [h]
theorem c_spec_WrdOk (a : Int) : spec_WrdOk.f a = some (decide (0 ≤ a ∧ a < 65536)) := by
  unfold spec_WrdOk.f
  rw [c_spec_l1In]; simp only [Option.bind_some]
  congr 1
  exact decide_eq_decide.2 (by omega)
theorem c_spec_l4Words {k : Nat} {l : List Int} {n : Int} (hk : l.length < k) (hl : l.length ≤ 4611686018427387904) : spec_l4Words.f k l n = some (wds l && ((l.length : Int) == n)) := by
  unfold spec_l4Words.f
  have key : ∀ (d k : Nat) (i : Int), 0 ≤ i → (l.length : Int) - i = d → d < k → spec_l4Words.l0 k l n i = some (wds (l.drop i.toNat) && ((l.length : Int) == n)) := by
    intro d
    induction d with
    | zero =>
      intro k i h0 h1 h2
      obtain ⟨k, rfl⟩ : ∃ m, k = m + 1 := ⟨k - 1, by omega⟩
      simp only [spec_l4Words.l0]
      rw [if_neg (by omega), List.drop_of_length_le (by omega)]; rfl
    | succ d ih =>
      intro k i h0 h1 h2
      obtain ⟨k, rfl⟩ : ∃ m, k = m + 1 := ⟨k - 1, by omega⟩
      simp only [spec_l4Words.l0]
      rw [if_pos (by omega), if_pos h0, c_spec_WrdOk, w64 (by omega) (by omega), ih k (i + 1) (by omega) (by omega) (by omega), wds_drop h0 (by omega)]
      simp only [Option.bind_some]
      by_cases h : 0 ≤ rd l i ∧ rd l i < 65536
      · rw [decide_eq_true h, if_pos rfl, Bool.true_and]
      · rw [decide_eq_false h, if_neg (by decide), Bool.false_and, Bool.false_and]
  have := key l.length k 0 (by omega) (by omega) hk
  simpa using this
theorem c_spec_PlnOk {k : Nat} {pc : Int} {r c m : List Int} (hr : r.length < k) (hc : c.length < k) (hm : m.length < k) (hr' : r.length ≤ 4611686018427387904) (hc' : c.length ≤ 4611686018427387904) (hm' : m.length ≤ 4611686018427387904) :
    spec_PlnOk.f k pc r c m = some (plnOk pc r c m) := by
  unfold spec_PlnOk.f plnOk
  have ei : ∀ (l : List Int) (n : Nat), ((l.length : Int) == (n : Int)) = decide (l.length = n) := by
    intro l n
    by_cases h : l.length = n
    · rw [decide_eq_true h, beq_iff_eq]; omega
    · rw [decide_eq_false h, beq_eq_false_iff_ne]; omega
  have e1 : ((r.length : Int) == 8) = decide (r.length = 8) := ei r 8
  have e2 : ((c.length : Int) == 5) = decide (c.length = 5) := ei c 5
  have e3 : ((m.length : Int) == 256) = decide (m.length = 256) := ei m 256
  rw [c_spec_WrdOk]; simp only [Option.bind_some]
  by_cases h0 : 0 ≤ pc ∧ pc < 65536
  · rw [decide_eq_true h0, if_pos rfl, Bool.true_and, c_spec_l4Words hr hr', e1]; simp only [Option.bind_some]
    by_cases h1 : r.length = 8
    · rw [decide_eq_true h1, Bool.and_true, Bool.true_and]
      cases h2 : wds r
      · rfl
      · rw [if_pos rfl, if_pos (by omega), Bool.true_and]
        by_cases h3 : rd r 0 = 0
        · rw [if_pos h3, decide_eq_true h3, Bool.true_and, c_spec_l4Words hc hc', e2]; simp only [Option.bind_some]
          by_cases h4 : c.length = 5
          · rw [decide_eq_true h4, Bool.and_true, Bool.true_and]
            cases h5 : wds c
            · rfl
            · rw [if_pos rfl, if_pos (by omega), Bool.true_and]
              by_cases h6 : rd c 3 < 4
              · rw [if_pos h6, decide_eq_true h6, Bool.true_and, c_spec_l4Words hm hm', e3, Bool.and_comm]; rfl
              · rw [if_neg h6, decide_eq_false h6]; rfl
          · rw [decide_eq_false h4, Bool.and_false, if_neg (by decide)]; rfl
        · rw [if_neg h3, decide_eq_false h3]; rfl
    · rw [decide_eq_false h1, Bool.and_false, if_neg (by decide)]; rfl
  · rw [decide_eq_false h0]; rfl
theorem c_toIntS {k : Nat} {a : List Int} (hk : a.length < k) (ha : a.length ≤ 35184372088832) : laws_toIntS.f k a = some a := by
  unfold laws_toIntS.f
  rw [if_pos (by omega), if_pos (by omega)]
  have key : ∀ (d k : Nat) (xs : List Int) (i : Int), 0 ≤ i → (a.length : Int) - i = d → d < k → xs.length = a.length → xs.take i.toNat = a.take i.toNat → laws_toIntS.l0 k a xs i = some a := by
    intro d
    induction d with
    | zero =>
      intro k xs i hi h1 h2 h3 h4
      obtain ⟨k, rfl⟩ : ∃ m, k = m + 1 := ⟨k - 1, by omega⟩
      simp only [laws_toIntS.l0]
      rw [if_neg (by omega)]
      rw [List.take_of_length_le (by omega), List.take_of_length_le (by omega)] at h4
      rw [h4]
    | succ d ih =>
      intro k xs i hi h1 h2 h3 h4
      obtain ⟨k, rfl⟩ : ∃ m, k = m + 1 := ⟨k - 1, by omega⟩
      simp only [laws_toIntS.l0]
      rw [if_pos (by omega), if_pos hi, if_pos (by omega), w64 (by omega) (by omega)]
      refine ih k _ (i + 1) (by omega) (by omega) (by omega) (by rw [List.length_set]; exact h3) ?_
      rw [show (i + 1).toNat = i.toNat + 1 by omega, List.take_succ_eq_append_getElem (by rw [List.length_set]; omega), List.take_succ_eq_append_getElem (show i.toNat < a.length by omega), List.take_set_of_le (by omega), h4, rd_at hi (by omega)]
      simp
  exact key a.length k _ 0 (by omega) (by omega) hk (by simp) (by simp)
theorem c_toPlnState {k : Nat} {a : Int} {r c m : List Int} (hr : r.length < k) (hc : c.length < k) (hm : m.length < k) (hr' : r.length ≤ 35184372088832) (hc' : c.length ≤ 35184372088832) (hm' : m.length ≤ 35184372088832) :
    laws_toPlnState.f k a r c m = some (a, r, c, m) := by
  unfold laws_toPlnState.f
  rw [c_toIntS hr hr', c_toIntS hc hc', c_toIntS hm hm']; rfl
theorem FnExactPlnOk : ∀ (a : Int) (r c m : List Int), (Lit.int .i64 a).wf = true → r.length ≤ maxLen → (∀ x ∈ r, (Lit.int .i64 x).wf = true) → c.length ≤ maxLen → (∀ x ∈ c, (Lit.int .i64 x).wf = true) → m.length ≤ maxLen → (∀ x ∈ m, (Lit.int .i64 x).wf = true) → ∃ k, laws_FnExactPlnOk.f k a r c m = some true := by
  intro a r c m _ hr _ hc _ hm _
  refine ⟨1048577, ?_⟩
  simp only [maxLen] at hr hc hm
  unfold laws_FnExactPlnOk.f
  rcases c_szPlnState (a := a) (r := r) (c := c) (m := m) (by omega) (by omega) (by omega) with e | ⟨⟨n, e, hn⟩, hs⟩
  · rw [e]; rfl
  · rw [e]; simp only [Option.bind_some]
    rw [if_neg (by omega), c_toPlnState (by omega) (by omega) (by omega) (by omega) (by omega) (by omega)]; simp only [Option.bind_some]
    rw [c_spec_PlnOk (by omega) (by omega) (by omega) (by omega) (by omega) (by omega), c_impl_PlnOk (by omega) (by omega) (by omega) (by omega) (by omega) (by omega)]; simp only [Option.bind_some]
    rw [if_neg (by simp), c_eqPlnState_self (by omega) (by omega) (by omega) (by omega) (by omega) (by omega)]; rfl
end Go.Proofs.Ytdpgomcdacmhkaa.Pure
