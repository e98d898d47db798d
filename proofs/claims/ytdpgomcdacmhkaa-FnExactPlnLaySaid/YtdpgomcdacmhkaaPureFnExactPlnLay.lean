/- The law FnExactPlnLay, as a plain statement over numbers and lists (no Go, no memory): ∀ (a : Int) (r c m : List Int) (p q : Int), (Lit.int .i64 a).wf = true → r.length ≤ maxLen → (∀ x ∈ r, (Lit.int .i64 x).wf = true) → c.length ≤ maxLen → (∀ x ∈ c, (Lit.int .i64 x).wf = true) → m.length ≤ maxLen → (∀ x ∈ m, (Lit.int .i64 x).wf = true) → (Lit.int .i64 p).wf = true → (Lit.int .i64 q).wf = true → ∃ k, laws_FnExactPlnLay.f k a r c m p q = some true
It holds for all such arguments; there are no further conditions. -/
import Derived.Test.YtdpgomcdacmhkaaQFnExactPlnLayx4
import Derived.Test.YtdpgomcdacmhkaaPlain
set_option linter.unusedVariables false
set_option linter.unusedSimpArgs false
namespace Go.Proofs.Ytdpgomcdacmhkaa.Pure
open Go.RowKit Go.Proofs.Ytdpgomcdacmhkaa.QFnExactPlnLay Go.Proofs.YtdpgomcdacmhkaaW.PrintWords Go.Proofs.YtdpgomcdacmhkaaW.PrintLast Go.Proofs.Ytdpgomcdacmhkaa.Plain
theorem c_eqIntS {k : Nat} {a b : List Int} (hk : a.length < k) (ha : a.length ≤ 4611686018427387904) : laws_eqIntS.f k a b = some (decide (a = b)) := by
  unfold laws_eqIntS.f
  by_cases hl : a.length = b.length
  · rw [if_pos (by omega)]
    have key : ∀ (d k : Nat) (i : Int), 0 ≤ i → (a.length : Int) - i = d → d < k → laws_eqIntS.l0 k a b i = some (decide (a.drop i.toNat = b.drop i.toNat)) := by
      intro d
      induction d with
      | zero =>
        intro k i h0 h1 h2
        obtain ⟨k, rfl⟩ : ∃ m, k = m + 1 := ⟨k - 1, by omega⟩
        simp only [laws_eqIntS.l0]
        rw [if_neg (by omega), List.drop_of_length_le (by omega), List.drop_of_length_le (by omega)]; simp
      | succ d ih =>
        intro k i h0 h1 h2
        obtain ⟨k, rfl⟩ : ∃ m, k = m + 1 := ⟨k - 1, by omega⟩
        simp only [laws_eqIntS.l0]
        rw [if_pos (by omega), if_pos h0, if_pos (by omega), rd_at h0 (by omega), rd_at h0 (by omega), List.drop_eq_getElem_cons (show i.toNat < a.length by omega), List.drop_eq_getElem_cons (show i.toNat < b.length by omega)]
        by_cases he : a[i.toNat]'(by omega) = b[i.toNat]'(by omega)
        · rw [if_pos he, w64 (by omega) (by omega), ih k (i + 1) (by omega) (by omega) (by omega), show (i + 1).toNat = i.toNat + 1 by omega]
          congr 1
          exact decide_eq_decide.2 ⟨fun h => by rw [he, h], fun h => (List.cons.inj h).2⟩
        · rw [if_neg he]
          congr 1
          exact (decide_eq_false (fun h => he (List.cons.inj h).1)).symm
    have := key a.length k 0 (by omega) (by omega) hk
    simpa using this
  · rw [if_neg (by omega)]
    have : a ≠ b := fun h => hl (by rw [h])
    simp [this]
theorem c_eqPlnState_self {k : Nat} {a : Int} {r c m : List Int} (hr : r.length < k) (hc : c.length < k) (hm : m.length < k) (hr' : r.length ≤ 4611686018427387904) (hc' : c.length ≤ 4611686018427387904) (hm' : m.length ≤ 4611686018427387904) :
    laws_eqPlnState.f k a r c m a r c m = some true := by
  unfold laws_eqPlnState.f
  rw [if_pos rfl, c_eqIntS hr hr', c_eqIntS hc hc', c_eqIntS hm hm']
  simp
theorem c_markIntS {k : Nat} {a : List Int} {m : Int} (hk : a.length < k) (h0 : 0 ≤ m) (ha : m + a.length ≤ 4611686018427387904) : laws_markIntS.f k a m = some (m + a.length, marks m a.length) := by
  unfold laws_markIntS.f
  have key : ∀ (d k : Nat) (xs : List Int) (i : Int), 0 ≤ i → (xs.length : Int) - i = d → d < k → m + xs.length ≤ 4611686018427387904 → xs.take i.toNat = marks m i.toNat → laws_markIntS.l0 k xs (m + i) i = some (m + xs.length, marks m xs.length) := by
    intro d
    induction d with
    | zero =>
      intro k xs i hi h1 h2 h3 h4
      obtain ⟨k, rfl⟩ : ∃ m, k = m + 1 := ⟨k - 1, by omega⟩
      simp only [laws_markIntS.l0]
      rw [if_neg (by omega)]
      rw [show i.toNat = xs.length by omega, List.take_length] at h4
      rw [← h4, show m + i = m + (xs.length : Int) by omega]
    | succ d ih =>
      intro k xs i hi h1 h2 h3 h4
      obtain ⟨k, rfl⟩ : ∃ m, k = m + 1 := ⟨k - 1, by omega⟩
      simp only [laws_markIntS.l0]
      rw [if_pos (by omega), if_pos hi, w64 (by omega) (by omega), w64 (by omega) (by omega), show m + i + 1 = m + (i + 1) by omega]
      have := ih k (xs.set i.toNat (m + i)) (i + 1) (by omega) (by rw [List.length_set]; omega) (by omega) (by rw [List.length_set]; omega)
        (by rw [show (i + 1).toNat = i.toNat + 1 by omega, List.take_succ_eq_append_getElem (by rw [List.length_set]; omega), List.take_set_of_le (by omega), h4, marks_succ]; simp; omega)
      rw [List.length_set] at this
      exact this
  have := key a.length k a 0 (by omega) (by omega) hk ha (by simp [marks])
  simpa using this
theorem c_markPlnState {k : Nat} {a : Int} {r c m : List Int} (hr : r.length < k) (hc : c.length < k) (hm : m.length < k) (hl : r.length + c.length + m.length ≤ 4611686018427387) :
    laws_markPlnState.f k a r c m 1 = some (1 + (r.length : Int) + c.length + m.length, marks 1 r.length, marks (1 + r.length) c.length, marks (1 + r.length + c.length) m.length) := by
  unfold laws_markPlnState.f
  rw [c_markIntS hr (by omega) (by omega)]; simp only [Option.bind_some]
  rw [c_markIntS hc (by omega) (by omega)]; simp only [Option.bind_some]
  rw [c_markIntS hm (by omega) (by omega)]; rfl
theorem c_heldIntS {k : Nat} {m : Int} {n : Nat} (hk : n < k) (h0 : 0 ≤ m) (ha : m + n ≤ 4611686018427387904) : laws_heldIntS.f k (marks m n) m = some (m + n) := by
  unfold laws_heldIntS.f
  have key : ∀ (d k : Nat) (i : Int), 0 ≤ i → (n : Int) - i = d → d < k → laws_heldIntS.l0 k (marks m n) (m + i) i = some (m + n) := by
    intro d
    induction d with
    | zero =>
      intro k i hi h1 h2
      obtain ⟨k, rfl⟩ : ∃ m, k = m + 1 := ⟨k - 1, by omega⟩
      simp only [laws_heldIntS.l0]
      rw [if_neg (by rw [marks_length]; omega), show m + i = m + (n : Int) by omega]
    | succ d ih =>
      intro k i hi h1 h2
      obtain ⟨k, rfl⟩ : ∃ m, k = m + 1 := ⟨k - 1, by omega⟩
      simp only [laws_heldIntS.l0]
      rw [if_pos (by rw [marks_length]; omega), if_pos hi, rd_marks hi (by omega), if_pos rfl, w64 (by omega) (by omega), w64 (by omega) (by omega), show m + i + 1 = m + (i + 1) by omega]
      exact ih k (i + 1) (by omega) (by omega) (by omega)
  have := key n k 0 (by omega) (by omega) hk
  simpa using this
theorem c_heldPlnState {k : Nat} {a : Int} {x y z : Nat} (hr : x < k) (hc : y < k) (hm : z < k) (hl : x + y + z ≤ 4611686018427387) :
    laws_heldPlnState.f k a (marks 1 x) (marks (1 + x) y) (marks (1 + x + y) z) 1 = some (1 + (x : Int) + y + z) := by
  unfold laws_heldPlnState.f
  rw [c_heldIntS hr (by omega) (by omega)]; simp only [Option.bind_some]
  rw [if_neg (by omega), c_heldIntS hc (by omega) (by omega)]; simp only [Option.bind_some]
  rw [if_neg (by omega), c_heldIntS hm (by omega) (by omega)]; simp only [Option.bind_some]
  rw [if_neg (by omega)]
theorem c_szIntS {a : List Int} {m : Int} (h0 : 0 ≤ m) (h1 : m ≤ 1048576) (ha : a.length ≤ 9223372036854775807) : laws_szIntS.f a m = some (if m < a.length then -1 else m - a.length) := by
  unfold laws_szIntS.f
  rw [w64 (by omega) (by omega)]
  by_cases h : m < a.length
  · rw [if_pos (by omega), if_pos h]
  · rw [if_neg (by omega), if_neg h]
theorem c_szPlnState {a : Int} {r c m : List Int} (hr' : r.length ≤ 9223372036854775807) (hc' : c.length ≤ 9223372036854775807) (hm' : m.length ≤ 9223372036854775807) :
    laws_szPlnState.f a r c m 1048576 = some (-1) ∨ (∃ n, laws_szPlnState.f a r c m 1048576 = some n ∧ 0 ≤ n) ∧ r.length + c.length + m.length ≤ 1048576 := by
  unfold laws_szPlnState.f
  rw [c_szIntS (by omega) (by omega) hr']; simp only [Option.bind_some]
  by_cases h1 : (1048576 : Int) < r.length
  · rw [if_pos h1]; exact .inl rfl
  · rw [if_neg h1, if_neg (by omega), c_szIntS (by omega) (by omega) hc']; simp only [Option.bind_some]
    by_cases h2 : (1048576 - (r.length : Int)) < c.length
    · rw [if_pos h2]; exact .inl rfl
    · rw [if_neg h2, if_neg (by omega), c_szIntS (by omega) (by omega) hm']; simp only [Option.bind_some]
      by_cases h3 : (1048576 - (r.length : Int) - c.length) < m.length
      · rw [if_pos h3]; exact .inl rfl
      · rw [if_neg h3, if_neg (by omega)]; exact .inr ⟨⟨_, rfl, by omega⟩, by omega⟩
theorem c_toIntS {k : Nat} {a : List Int} (hk : a.length < k) (ha : a.length ≤ 35184372088832) : laws_toIntS.f k a = some a := by
  unfold laws_toIntS.f
  rw [if_pos (by omega), if_pos (by omega)]
  have key : ∀ (d k : Nat) (xs : List Int) (i : Int), 0 ≤ i → (a.length : Int) - i = d → d < k → xs.length = a.length → xs.take i.toNat = a.take i.toNat → laws_toIntS.l0 k a xs i = some a := by
    intro d
    induction d with
    | zero =>
      intro k xs i hi h1 h2 h3 h4
      obtain ⟨k, rfl⟩ : ∃ m, k = m + 1 := ⟨k - 1, by omega⟩
      simp only [laws_toIntS.l0]
      rw [if_neg (by omega)]
      rw [List.take_of_length_le (by omega), List.take_of_length_le (by omega)] at h4
      rw [h4]
    | succ d ih =>
      intro k xs i hi h1 h2 h3 h4
      obtain ⟨k, rfl⟩ : ∃ m, k = m + 1 := ⟨k - 1, by omega⟩
      simp only [laws_toIntS.l0]
      rw [if_pos (by omega), if_pos hi, if_pos (by omega), w64 (by omega) (by omega)]
      refine ih k _ (i + 1) (by omega) (by omega) (by omega) (by rw [List.length_set]; exact h3) ?_
      rw [show (i + 1).toNat = i.toNat + 1 by omega, List.take_succ_eq_append_getElem (by rw [List.length_set]; omega), List.take_succ_eq_append_getElem (show i.toNat < a.length by omega), List.take_set_of_le (by omega), h4, rd_at hi (by omega)]
      simp
  exact key a.length k _ 0 (by omega) (by omega) hk (by simp) (by simp)
theorem c_toPlnState {k : Nat} {a : Int} {r c m : List Int} (hr : r.length < k) (hc : c.length < k) (hm : m.length < k) (hr' : r.length ≤ 35184372088832) (hc' : c.length ≤ 35184372088832) (hm' : m.length ≤ 35184372088832) :
    laws_toPlnState.f k a r c m = some (a, r, c, m) := by
  unfold laws_toPlnState.f
  rw [c_toIntS hr hr', c_toIntS hc hc', c_toIntS hm hm']; rfl
theorem c_spec_l1In (a b c : Int) : spec_l1In.f a b c = some (decide (b ≤ a ∧ a ≤ c)) := by
  unfold spec_l1In.f
  by_cases h : b ≤ a
  · rw [if_pos (by omega)]; simp [h]
  · rw [if_neg (by omega)]; simp [h]
theorem c_spec_WrdOk (a : Int) : spec_WrdOk.f a = some (decide (0 ≤ a ∧ a < 65536)) := by
  unfold spec_WrdOk.f
  rw [c_spec_l1In]; simp only [Option.bind_some]
  congr 1
  exact decide_eq_decide.2 (by omega)
theorem c_spec_l4Words {k : Nat} {l : List Int} {n : Int} (hk : l.length < k) (hl : l.length ≤ 4611686018427387904) : spec_l4Words.f k l n = some (wds l && ((l.length : Int) == n)) := by
  unfold spec_l4Words.f
  have key : ∀ (d k : Nat) (i : Int), 0 ≤ i → (l.length : Int) - i = d → d < k → spec_l4Words.l0 k l n i = some (wds (l.drop i.toNat) && ((l.length : Int) == n)) := by
    intro d
    induction d with
    | zero =>
      intro k i h0 h1 h2
      obtain ⟨k, rfl⟩ : ∃ m, k = m + 1 := ⟨k - 1, by omega⟩
      simp only [spec_l4Words.l0]
      rw [if_neg (by omega), List.drop_of_length_le (by omega)]; rfl
    | succ d ih =>
      intro k i h0 h1 h2
      obtain ⟨k, rfl⟩ : ∃ m, k = m + 1 := ⟨k - 1, by omega⟩
      simp only [spec_l4Words.l0]
      rw [if_pos (by omega), if_pos h0, c_spec_WrdOk, w64 (by omega) (by omega), ih k (i + 1) (by omega) (by omega) (by omega), wds_drop h0 (by omega)]
      simp only [Option.bind_some]
      by_cases h : 0 ≤ rd l i ∧ rd l i < 65536
      · rw [decide_eq_true h, if_pos rfl, Bool.true_and]
      · rw [decide_eq_false h, if_neg (by decide), Bool.false_and, Bool.false_and]
  have := key l.length k 0 (by omega) (by omega) hk
  simpa using this
theorem c_spec_PlnOk {k : Nat} {pc : Int} {r c m : List Int} (hr : r.length < k) (hc : c.length < k) (hm : m.length < k) (hr' : r.length ≤ 4611686018427387904) (hc' : c.length ≤ 4611686018427387904) (hm' : m.length ≤ 4611686018427387904) :
    spec_PlnOk.f k pc r c m = some (plnOk pc r c m) := by
  unfold spec_PlnOk.f plnOk
  have ei : ∀ (l : List Int) (n : Nat), ((l.length : Int) == (n : Int)) = decide (l.length = n) := by
    intro l n
    by_cases h : l.length = n
    · rw [decide_eq_true h, beq_iff_eq]; omega
    · rw [decide_eq_false h, beq_eq_false_iff_ne]; omega
  have e1 : ((r.length : Int) == 8) = decide (r.length = 8) := ei r 8
  have e2 : ((c.length : Int) == 5) = decide (c.length = 5) := ei c 5
  have e3 : ((m.length : Int) == 256) = decide (m.length = 256) := ei m 256
  rw [c_spec_WrdOk]; simp only [Option.bind_some]
  by_cases h0 : 0 ≤ pc ∧ pc < 65536
  · rw [decide_eq_true h0, if_pos rfl, Bool.true_and, c_spec_l4Words hr hr', e1]; simp only [Option.bind_some]
    by_cases h1 : r.length = 8
    · rw [decide_eq_true h1, Bool.and_true, Bool.true_and]
      cases h2 : wds r
      · rfl
      · rw [if_pos rfl, if_pos (by omega), Bool.true_and]
        by_cases h3 : rd r 0 = 0
        · rw [if_pos h3, decide_eq_true h3, Bool.true_and, c_spec_l4Words hc hc', e2]; simp only [Option.bind_some]
          by_cases h4 : c.length = 5
          · rw [decide_eq_true h4, Bool.and_true, Bool.true_and]
            cases h5 : wds c
            · rfl
            · rw [if_pos rfl, if_pos (by omega), Bool.true_and]
              by_cases h6 : rd c 3 < 4
              · rw [if_pos h6, decide_eq_true h6, Bool.true_and, c_spec_l4Words hm hm', e3, Bool.and_comm]; rfl
              · rw [if_neg h6, decide_eq_false h6]; rfl
          · rw [decide_eq_false h4, Bool.and_false, if_neg (by decide)]; rfl
        · rw [if_neg h3, decide_eq_false h3]; rfl
    · rw [decide_eq_false h1, Bool.and_false, if_neg (by decide)]; rfl
  · rw [decide_eq_false h0]; rfl
theorem c_spec_l4Copy {a : Int} {r c m : List Int} (hr : r.length < 17592186044416) (hc : c.length < 17592186044416) (hm : m.length < 17592186044416) : spec_l4Copy.f a r c m = some (a, r, c, m) := by
  unfold spec_l4Copy.f
  simp only [Option.bind_some, List.length_nil, List.nil_append, Nat.zero_add]
  rw [if_pos hr, if_pos hc, if_pos hm]
theorem c_spec_PlnLay {k : Nat} {pc : Int} {r c m : List Int} {at_ n : Int} (hr : r.length < k) (hc : c.length < k) (hm : m.length < k) (hr' : r.length ≤ 4611686018427387904) (hc' : c.length ≤ 4611686018427387904) (hm' : m.length ≤ 4611686018427387904) :
    spec_PlnLay.f k pc r c m at_ n = some (plnLay pc r c m at_ n) := by
  unfold spec_PlnLay.f plnLay
  rw [c_spec_PlnOk hr hc hm hr' hc' hm', c_spec_l1In, c_spec_WrdOk]; simp only [Option.bind_some]
  by_cases h : plnOk pc r c m = true
  · obtain ⟨l1, l2, l3⟩ := plnOk_len h
    rw [if_pos h, if_pos h]
    by_cases h1 : 0 ≤ at_ ∧ at_ < 256
    · rw [decide_eq_true (show 0 ≤ at_ ∧ at_ ≤ 255 by omega), if_pos rfl, if_pos h1]
      by_cases h2 : 0 ≤ n ∧ n < 65536
      · rw [decide_eq_true h2, if_pos rfl, if_pos h2, c_spec_l4Copy (by omega) (by omega) (by omega)]; simp only [Option.bind_some]
        rw [if_pos h1.1, if_pos (by omega)]
      · rw [decide_eq_false h2, if_neg (by decide), if_neg h2]
    · rw [decide_eq_false (show ¬ (0 ≤ at_ ∧ at_ ≤ 255) by omega), if_neg (by decide), if_neg h1]
  · rw [if_neg h, if_neg h]
theorem c_impl_WrdOk (a : Int) : impl_WrdOk.f a = some (decide (0 ≤ a ∧ a < 65536)) := by
  unfold impl_WrdOk.f
  by_cases h : 0 ≤ a
  · rw [if_pos (by omega)]; simp [h]
  · rw [if_neg (by omega)]; simp [h]
theorem c_impl_allWords {k : Nat} {l : List Int} (hk : l.length < k) (hl : l.length ≤ 4611686018427387904) : impl_allWords.f k l = some (wds l) := by
  unfold impl_allWords.f
  have key : ∀ (d k : Nat) (i : Int), 0 ≤ i → (l.length : Int) - i = d → d < k → impl_allWords.l0 k l (l.length : Int) i = some (wds (l.drop i.toNat)) := by
    intro d
    induction d with
    | zero =>
      intro k i h0 h1 h2
      obtain ⟨k, rfl⟩ : ∃ m, k = m + 1 := ⟨k - 1, by omega⟩
      simp only [impl_allWords.l0]
      rw [if_neg (by omega), List.drop_of_length_le (by omega)]; rfl
    | succ d ih =>
      intro k i h0 h1 h2
      obtain ⟨k, rfl⟩ : ∃ m, k = m + 1 := ⟨k - 1, by omega⟩
      simp only [impl_allWords.l0]
      rw [if_pos (by omega), if_pos h0, if_pos (by omega), c_impl_WrdOk, w64 (by omega) (by omega), ih k (i + 1) (by omega) (by omega) (by omega), wds_drop h0 (by omega)]
      simp only [Option.bind_some]
      by_cases h : 0 ≤ rd l i ∧ rd l i < 65536
      · rw [decide_eq_true h, if_pos rfl, Bool.true_and]
      · rw [decide_eq_false h, if_neg (by decide), Bool.false_and]
  have := key l.length k 0 (by omega) (by omega) hk
  simpa using this
theorem c_impl_ctlOk {k : Nat} {l : List Int} (hk : l.length < k) (hl : l.length ≤ 4611686018427387904) : impl_ctlOk.f k l = some (decide (l.length = 5) && (wds l && decide (rd l 3 < 4))) := by
  unfold impl_ctlOk.f
  by_cases h : l.length = 5
  · rw [if_pos (by omega), c_impl_allWords hk hl, decide_eq_true h]; simp only [Option.bind_some]
    cases hw : wds l
    · rfl
    · rw [if_pos rfl, if_pos (by omega)]; rfl
  · rw [if_neg (by omega), decide_eq_false h]; rfl
theorem c_impl_PlnOk {k : Nat} {pc : Int} {r c m : List Int} (hr : r.length < k) (hc : c.length < k) (hm : m.length < k) (hr' : r.length ≤ 4611686018427387904) (hc' : c.length ≤ 4611686018427387904) (hm' : m.length ≤ 4611686018427387904) :
    impl_PlnOk.f k pc r c m = some (plnOk pc r c m) := by
  unfold impl_PlnOk.f plnOk
  rw [c_impl_WrdOk]; simp only [Option.bind_some]
  by_cases h0 : 0 ≤ pc ∧ pc < 65536
  · rw [decide_eq_true h0, if_pos rfl, Bool.true_and]
    by_cases h1 : r.length = 8
    · rw [decide_eq_true h1, if_pos (by omega), Bool.true_and, c_impl_allWords hr hr']; simp only [Option.bind_some]
      cases h2 : wds r
      · rfl
      · rw [if_pos rfl, if_pos (by omega), Bool.true_and]
        by_cases h3 : rd r 0 = 0
        · rw [if_pos h3, decide_eq_true h3, Bool.true_and, c_impl_ctlOk hc hc']; simp only [Option.bind_some]
          cases h4 : decide (c.length = 5) && (wds c && decide (rd c 3 < 4))
          · rw [if_neg (by decide)]
            rw [← Bool.and_assoc, ← Bool.and_assoc, ← Bool.and_assoc, Bool.and_assoc (decide (c.length = 5)), h4]; rfl
          · rw [if_pos rfl]
            rw [← Bool.and_assoc, ← Bool.and_assoc, Bool.and_assoc (decide (c.length = 5)), h4, Bool.true_and]
            by_cases h5 : m.length = 256
            · rw [if_pos (by omega), decide_eq_true h5, c_impl_allWords hm hm', Bool.true_and]; rfl
            · rw [if_neg (by omega), decide_eq_false h5]; rfl
        · rw [if_neg h3, decide_eq_false h3]; rfl
    · rw [decide_eq_false h1, if_neg (by omega)]; rfl
  · rw [decide_eq_false h0]; rfl
theorem c_impl_placeOk (a : Int) : impl_placeOk.f a = some (decide (0 ≤ a ∧ a < 256)) := by
  unfold impl_placeOk.f
  by_cases h : 0 ≤ a
  · rw [if_pos (by omega)]; simp [h]
  · rw [if_neg (by omega)]; simp [h]
theorem c_Clone_int {l : List Int} (hl : l.length < 17592186044416) : slices_Clone_int_int.f l = some l := by
  unfold slices_Clone_int_int.f
  simp only [Option.bind_some, List.length_nil, List.nil_append, Nat.zero_add]
  rw [if_pos hl]
theorem c_copiedPlain {a : Int} {r c m : List Int} (hr : r.length < 17592186044416) (hc : c.length < 17592186044416) (hm : m.length < 17592186044416) : impl_copiedPlain.f a r c m = some (a, r, c, m) := by
  unfold impl_copiedPlain.f
  rw [c_Clone_int hr, c_Clone_int hc, c_Clone_int hm]; rfl
theorem c_impl_PlnLay {k : Nat} {pc : Int} {r c m : List Int} {at_ n : Int} (hr : r.length < k) (hc : c.length < k) (hm : m.length < k) (hr' : r.length ≤ 4611686018427387904) (hc' : c.length ≤ 4611686018427387904) (hm' : m.length ≤ 4611686018427387904) :
    impl_PlnLay.f k pc r c m at_ n = some (plnLay pc r c m at_ n) := by
  unfold impl_PlnLay.f plnLay
  rw [c_impl_PlnOk hr hc hm hr' hc' hm', c_impl_placeOk, c_impl_WrdOk]; simp only [Option.bind_some]
  by_cases h : plnOk pc r c m = true
  · obtain ⟨l1, l2, l3⟩ := plnOk_len h
    rw [if_pos h, if_pos h]
    by_cases h1 : 0 ≤ at_ ∧ at_ < 256
    · rw [decide_eq_true h1, if_pos rfl, if_pos h1]
      by_cases h2 : 0 ≤ n ∧ n < 65536
      · rw [decide_eq_true h2, if_pos rfl, if_pos h2, c_copiedPlain (by omega) (by omega) (by omega)]; simp only [Option.bind_some]
        rw [if_pos h1.1, if_pos (by omega)]
      · rw [decide_eq_false h2, if_neg (by decide), if_neg h2]
    · rw [decide_eq_false h1, if_neg (by decide), if_neg h1]
  · rw [if_neg h, if_neg h]
theorem FnExactPlnLay : ∀ (a : Int) (r c m : List Int) (p q : Int), (Lit.int .i64 a).wf = true → r.length ≤ maxLen → (∀ x ∈ r, (Lit.int .i64 x).wf = true) → c.length ≤ maxLen → (∀ x ∈ c, (Lit.int .i64 x).wf = true) → m.length ≤ maxLen → (∀ x ∈ m, (Lit.int .i64 x).wf = true) → (Lit.int .i64 p).wf = true → (Lit.int .i64 q).wf = true → ∃ k, laws_FnExactPlnLay.f k a r c m p q = some true := by
  intro a r c m p q _ hr _ hc _ hm _ _ _
  refine ⟨1048579, ?_⟩
  simp only [maxLen] at hr hc hm
  unfold laws_FnExactPlnLay.f
  rcases c_szPlnState (a := a) (r := r) (c := c) (m := m) (by omega) (by omega) (by omega) with e | ⟨⟨n, e, hn⟩, hs⟩
  · rw [e]; rfl
  · rw [e]; simp only [Option.bind_some]
    rw [if_neg (by omega), c_toPlnState (by omega) (by omega) (by omega) (by omega) (by omega) (by omega)]; simp only [Option.bind_some]
    rw [c_spec_PlnLay (by omega) (by omega) (by omega) (by omega) (by omega) (by omega), c_impl_PlnLay (by omega) (by omega) (by omega) (by omega) (by omega) (by omega)]; simp only [Option.bind_some]
    obtain ⟨g1, g2, g3⟩ : (plnLay a r c m p q).2.1.length ≤ 1048576 ∧ (plnLay a r c m p q).2.2.1.length ≤ 1048576 ∧ (plnLay a r c m p q).2.2.2.length ≤ 1048576 := by
      unfold plnLay
      repeat' split
      all_goals simp
      all_goals omega
    generalize hg : plnLay a r c m p q = g at *
    obtain ⟨g0, x, y, z⟩ := g
    simp only [] at g1 g2 g3 ⊢
    rw [c_eqPlnState_self (by omega) (by omega) (by omega) (by omega) (by omega) (by omega)]; simp only [Option.bind_some, if_true]
    rw [c_eqPlnState_self (by omega) (by omega) (by omega) (by omega) (by omega) (by omega)]; simp only [Option.bind_some, if_true]
    rw [c_markPlnState (by omega) (by omega) (by omega) (by omega)]; simp only [Option.bind_some]
    rw [if_neg (by omega)]
    simp only [laws_FnExactPlnLay.j0, Bool.not_true, Bool.false_eq_true, if_false]
    rw [c_markPlnState (by omega) (by omega) (by omega) (by omega)]; simp only [Option.bind_some]
    rw [c_heldPlnState (by omega) (by omega) (by omega) (by omega)]; simp only [Option.bind_some, if_true]
    rw [if_neg (by omega), c_toPlnState (by omega) (by omega) (by omega) (by omega) (by omega) (by omega)]; simp only [Option.bind_some]
    rw [c_impl_PlnLay (by omega) (by omega) (by omega) (by omega) (by omega) (by omega), hg]; simp only [Option.bind_some]
    rw [c_eqPlnState_self (by omega) (by omega) (by omega) (by omega) (by omega) (by omega)]; simp only [Option.bind_some, if_true]
    rw [if_neg (by omega)]
end Go.Proofs.Ytdpgomcdacmhkaa.Pure
