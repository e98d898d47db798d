/- The law FnExactGueOk, as a plain statement over numbers and lists (no Go, no memory): ∀ (a : List S99) (l : List Int), a.length ≤ maxLen → (∀ x ∈ a, (Lit.int .i64 x.f1).wf = true ∧ (Lit.int .i64 x.f2).wf = true ∧ (Lit.int .i64 x.f3).wf = true) → l.length ≤ maxLen → (∀ x ∈ l, (Lit.int .i64 x).wf = true) → ∃ k, laws_FnExactGueOk.f k a l = some true
It holds for all such arguments; there are no further conditions. -/
import Derived.Test.YtmapppjgmlcbaaaQFnExactGueOkx3
import Derived.Test.YtmapppjgmlcbaaaPlain
set_option linter.unusedVariables false
set_option linter.unusedSimpArgs false
namespace Go.Proofs.Ytmapppjgmlcbaaa.Pure
open Go.RowKit Go.Proofs.Ytmapppjgmlcbaaa.QFnExactGueOk Go.Proofs.YtmapppjgmlcbaaaW.PrintWords Go.Proofs.YtmapppjgmlcbaaaW.PrintLast Go.Proofs.Ytmapppjgmlcbaaa.Plain
theorem c_eqIntS {k : Nat} {a b : List Int} (hk : a.length < k) (ha : a.length ≤ 4611686018427387904) : laws_eqIntS.f k a b = some (decide (a = b)) := by
  unfold laws_eqIntS.f
  by_cases hl : a.length = b.length
  · rw [if_pos (by omega)]
    have key : ∀ (d k : Nat) (i : Int), 0 ≤ i → (a.length : Int) - i = d → d < k → laws_eqIntS.l0 k a b i = some (decide (a.drop i.toNat = b.drop i.toNat)) := by
      intro d
      induction d with
      | zero =>
        intro k i h0 h1 h2
        obtain ⟨k, rfl⟩ : ∃ m, k = m + 1 := ⟨k - 1, by omega⟩
        simp only [laws_eqIntS.l0]
        rw [if_neg (by omega), List.drop_of_length_le (by omega), List.drop_of_length_le (by omega)]; simp
      | succ d ih =>
        intro k i h0 h1 h2
        obtain ⟨k, rfl⟩ : ∃ m, k = m + 1 := ⟨k - 1, by omega⟩
        simp only [laws_eqIntS.l0]
        rw [if_pos (by omega), if_pos h0, if_pos (by omega), rd_at h0 (by omega), rd_at h0 (by omega), List.drop_eq_getElem_cons (show i.toNat < a.length by omega), List.drop_eq_getElem_cons (show i.toNat < b.length by omega)]
        by_cases he : a[i.toNat]'(by omega) = b[i.toNat]'(by omega)
        · rw [if_pos he, w64 (by omega) (by omega), ih k (i + 1) (by omega) (by omega) (by omega), show (i + 1).toNat = i.toNat + 1 by omega]
          congr 1
          exact decide_eq_decide.2 ⟨fun h => by rw [he, h], fun h => (List.cons.inj h).2⟩
        · rw [if_neg he]
          congr 1
          exact (decide_eq_false (fun h => he (List.cons.inj h).1)).symm
    have := key a.length k 0 (by omega) (by omega) hk
    simpa using this
  · rw [if_neg (by omega)]
    have : a ≠ b := fun h => hl (by rw [h])
    simp [this]
theorem rdT73 {a : List S73} {i : Int} (h0 : 0 ≤ i) (h1 : i < a.length) : rd_T73 a i = a[i.toNat]'(by omega) := by
  unfold rd_T73
  rw [List.getD_eq_getElem?_getD, List.getElem?_eq_getElem (by omega)]; rfl
/-- a slot of the guesser is ok at its place -/
def slotOk (x : S73) (i : Int) : Bool :=
  if x.f0 = true then decide (0 ≤ x.f1 ∧ x.f1 < 65536) && (decide (Int.tmod x.f1 8 = i) && (decide (0 ≤ x.f2 ∧ x.f2 < 65536) && decide (0 ≤ x.f3 ∧ x.f3 ≤ 3))) else decide (x.f1 = 0) && (decide (x.f2 = 0) && decide (x.f3 = 0))
def slotsOk : List S73 → Int → Bool
  | [], _ => true
  | x :: xs, i => slotOk x i && slotsOk xs (i + 1)
theorem slotsOk_drop {l : List S73} {i : Int} (h0 : 0 ≤ i) (h1 : i < l.length) : slotsOk (l.drop i.toNat) i = (slotOk (rd_T73 l i) i && slotsOk (l.drop (i + 1).toNat) (i + 1)) := by
  rw [List.drop_eq_getElem_cons (show i.toNat < l.length by omega), rdT73 h0 h1, show (i + 1).toNat = i.toNat + 1 by omega]; rfl
def gueOk (s : List S73) (c : List Int) : Bool := decide (s.length = 8) && (decide (c.length ≤ 4) && (wds c && slotsOk s 0))
theorem c_eqGueSlot_self (x : S73) : laws_eqGueSlot.f x.f0 x.f1 x.f2 x.f3 x.f0 x.f1 x.f2 x.f3 = some true := by
  unfold laws_eqGueSlot.f
  rw [if_neg (by simp), if_pos rfl, if_pos rfl, if_pos rfl]
theorem c_eqGueSlotS_self {k : Nat} {a : List S73} (hk : a.length < k) (ha : a.length ≤ 4611686018427387904) : laws_eqGueSlotS.f k a a = some true := by
  unfold laws_eqGueSlotS.f
  rw [if_pos rfl]
  have key : ∀ (d k : Nat) (i : Int), 0 ≤ i → (a.length : Int) - i = d → d < k → laws_eqGueSlotS.l0 k a a i = some true := by
    intro d
    induction d with
    | zero =>
      intro k i h0 h1 h2
      obtain ⟨k, rfl⟩ : ∃ m, k = m + 1 := ⟨k - 1, by omega⟩
      simp only [laws_eqGueSlotS.l0]
      rw [if_neg (by omega)]
    | succ d ih =>
      intro k i h0 h1 h2
      obtain ⟨k, rfl⟩ : ∃ m, k = m + 1 := ⟨k - 1, by omega⟩
      simp only [laws_eqGueSlotS.l0]
      rw [if_pos (by omega), if_pos h0, if_pos (by omega), c_eqGueSlot_self, w64 (by omega) (by omega)]
      simp only [Option.bind_some, if_true]
      exact ih k (i + 1) (by omega) (by omega) (by omega)
  exact key a.length k 0 (by omega) (by omega) hk
theorem c_eqGueState_self {k : Nat} {a : List S73} {l : List Int} (hk : a.length < k) (ha : a.length ≤ 4611686018427387904) (hk' : l.length < k) (ha' : l.length ≤ 4611686018427387904) : laws_eqGueState.f k a l a l = some true := by
  unfold laws_eqGueState.f
  rw [c_eqGueSlotS_self hk ha, c_eqIntS hk' ha']
  simp
theorem c_szIntS {a : List Int} {m : Int} (h0 : 0 ≤ m) (h1 : m ≤ 1048576) (ha : a.length ≤ 9223372036854775807) : laws_szIntS.f a m = some (if m < a.length then -1 else m - a.length) := by
  unfold laws_szIntS.f
  rw [w64 (by omega) (by omega)]
  by_cases h : m < a.length
  · rw [if_pos (by omega), if_pos h]
  · rw [if_neg (by omega), if_neg h]
theorem c_szGueState {a : List S99} {l : List Int} (ha : a.length ≤ 9223372036854775807) (hl : l.length ≤ 9223372036854775807) :
    laws_szGueState.f a l 1048576 = some (-1) ∨ (∃ n, laws_szGueState.f a l 1048576 = some n ∧ 0 ≤ n) ∧ a.length + l.length ≤ 1048576 := by
  have e : laws_szGueSlotS.f a 1048576 = some (if (1048576 : Int) < (a.length : Int) then (-1 : Int) else 1048576 - (a.length : Int)) := by
    unfold laws_szGueSlotS.f
    rw [w64 (by omega) (by omega)]
    by_cases h : (1048576 : Int) < a.length
    · rw [if_pos (by omega), if_pos h]
    · rw [if_neg (by omega), if_neg h]
  unfold laws_szGueState.f
  rw [e]; simp only [Option.bind_some]
  by_cases h1 : (1048576 : Int) < a.length
  · rw [if_pos h1]; exact .inl rfl
  · rw [if_neg h1, if_neg (by omega), c_szIntS (by omega) (by omega) hl]; simp only [Option.bind_some]
    by_cases h2 : (1048576 - (a.length : Int)) < l.length
    · rw [if_pos h2]; exact .inl rfl
    · rw [if_neg h2, if_neg (by omega)]; exact .inr ⟨⟨_, rfl, by omega⟩, by omega⟩
theorem c_spec_l1In (a b c : Int) : spec_l1In.f a b c = some (decide (b ≤ a ∧ a ≤ c)) := by
  unfold spec_l1In.f
  by_cases h : b ≤ a
  · rw [if_pos (by omega)]; simp [h]
  · rw [if_neg (by omega)]; simp [h]
theorem c_spec_WrdOk (a : Int) : spec_WrdOk.f a = some (decide (0 ≤ a ∧ a < 65536)) := by
  unfold spec_WrdOk.f
  rw [c_spec_l1In]; simp only [Option.bind_some]
  congr 1
  exact decide_eq_decide.2 (by omega)
theorem c_spec_l4Words {k : Nat} {l : List Int} {n : Int} (hk : l.length < k) (hl : l.length ≤ 4611686018427387904) : spec_l4Words.f k l n = some (wds l && ((l.length : Int) == n)) := by
  unfold spec_l4Words.f
  have key : ∀ (d k : Nat) (i : Int), 0 ≤ i → (l.length : Int) - i = d → d < k → spec_l4Words.l0 k l n i = some (wds (l.drop i.toNat) && ((l.length : Int) == n)) := by
    intro d
    induction d with
    | zero =>
      intro k i h0 h1 h2
      obtain ⟨k, rfl⟩ : ∃ m, k = m + 1 := ⟨k - 1, by omega⟩
      simp only [spec_l4Words.l0]
      rw [if_neg (by omega), List.drop_of_length_le (by omega)]; rfl
    | succ d ih =>
      intro k i h0 h1 h2
      obtain ⟨k, rfl⟩ : ∃ m, k = m + 1 := ⟨k - 1, by omega⟩
      simp only [spec_l4Words.l0]
      rw [if_pos (by omega), if_pos h0, c_spec_WrdOk, w64 (by omega) (by omega), ih k (i + 1) (by omega) (by omega) (by omega), wds_drop h0 (by omega)]
      simp only [Option.bind_some]
      by_cases h : 0 ≤ rd l i ∧ rd l i < 65536
      · rw [decide_eq_true h, if_pos rfl, Bool.true_and]
      · rw [decide_eq_false h, if_neg (by decide), Bool.false_and, Bool.false_and]
  have := key l.length k 0 (by omega) (by omega) hk
  simpa using this
theorem c_spec_GueOk {k : Nat} {s : List S73} {c : List Int} (hk : 10 < k) : spec_GueOk.f k s c = some (gueOk s c) := by
  obtain ⟨k, rfl⟩ : ∃ m, k = m + 11 := ⟨k - 11, by omega⟩
  unfold spec_GueOk.f gueOk
  by_cases hs : s.length = 8
  · rw [if_pos (by omega), decide_eq_true hs, Bool.true_and]
    by_cases hc : c.length ≤ 4
    · rw [if_neg (by omega), decide_eq_true hc, Bool.true_and, c_spec_l4Words (by omega) (by omega)]; simp only [Option.bind_some, spec_GueOk.j0]
      have e : ((c.length : Int) == (c.length : Int)) = true := by simp
      rw [e, Bool.and_true]
      cases hw : wds c
      · rfl
      · rw [if_neg (by decide), Bool.true_and]
        have key : ∀ (d k : Nat) (i : Int), 0 ≤ i → (s.length : Int) - i = d → d < k → spec_GueOk.l0 k i s c = some (slotsOk (s.drop i.toNat) i) := by
          intro d
          induction d with
          | zero =>
            intro k i h0 h1 h2
            obtain ⟨k, rfl⟩ : ∃ m, k = m + 1 := ⟨k - 1, by omega⟩
            simp only [spec_GueOk.l0]
            rw [if_neg (by omega), List.drop_of_length_le (by omega)]; rfl
          | succ d ih =>
            intro k i h0 h1 h2
            obtain ⟨k, rfl⟩ : ∃ m, k = m + 1 := ⟨k - 1, by omega⟩
            simp only [spec_GueOk.l0]
            rw [if_pos (by omega), if_pos h0, w64 (by omega) (by omega), ih k (i + 1) (by omega) (by omega) (by omega), slotsOk_drop h0 (by omega)]
            generalize rd_T73 s i = x
            generalize slotsOk (s.drop (i + 1).toNat) (i + 1) = t
            unfold slotOk
            simp only [c_spec_WrdOk, c_spec_l1In, Option.bind_some]
            cases x.f0
            · simp only [Bool.false_eq_true, if_false]
              by_cases h1 : x.f1 = 0
              · by_cases h2 : x.f2 = 0
                · by_cases h3 : x.f3 = 0
                  · simp [h1, h2, h3]
                  · simp [h1, h2, h3]
                · simp [h1, h2]
              · simp [h1]
            · simp only [if_true]
              cases decide (0 ≤ x.f1 ∧ x.f1 < 65536)
              · rfl
              · by_cases h : Int.tmod x.f1 8 = i
                · rw [if_pos rfl, if_pos h, decide_eq_true h]
                  cases decide (0 ≤ x.f2 ∧ x.f2 < 65536)
                  · rfl
                  · cases decide (0 ≤ x.f3 ∧ x.f3 ≤ 3) <;> rfl
                · rw [if_pos rfl, if_neg h, decide_eq_false h]; rfl
        exact key s.length (k + 10) 0 (by omega) (by omega) (by omega)
    · rw [if_pos (by omega), decide_eq_false hc]; rfl
  · rw [if_neg (by omega), decide_eq_false hs]; rfl
theorem c_toIntS {k : Nat} {a : List Int} (hk : a.length < k) (ha : a.length ≤ 35184372088832) : laws_toIntS.f k a = some a := by
  unfold laws_toIntS.f
  rw [if_pos (by omega), if_pos (by omega)]
  have key : ∀ (d k : Nat) (xs : List Int) (i : Int), 0 ≤ i → (a.length : Int) - i = d → d < k → xs.length = a.length → xs.take i.toNat = a.take i.toNat → laws_toIntS.l0 k a xs i = some a := by
    intro d
    induction d with
    | zero =>
      intro k xs i hi h1 h2 h3 h4
      obtain ⟨k, rfl⟩ : ∃ m, k = m + 1 := ⟨k - 1, by omega⟩
      simp only [laws_toIntS.l0]
      rw [if_neg (by omega)]
      rw [List.take_of_length_le (by omega), List.take_of_length_le (by omega)] at h4
      rw [h4]
    | succ d ih =>
      intro k xs i hi h1 h2 h3 h4
      obtain ⟨k, rfl⟩ : ∃ m, k = m + 1 := ⟨k - 1, by omega⟩
      simp only [laws_toIntS.l0]
      rw [if_pos (by omega), if_pos hi, if_pos (by omega), w64 (by omega) (by omega)]
      refine ih k _ (i + 1) (by omega) (by omega) (by omega) (by rw [List.length_set]; exact h3) ?_
      rw [show (i + 1).toNat = i.toNat + 1 by omega, List.take_succ_eq_append_getElem (by rw [List.length_set]; omega), List.take_succ_eq_append_getElem (show i.toNat < a.length by omega), List.take_set_of_le (by omega), h4, rd_at hi (by omega)]
      simp
  exact key a.length k _ 0 (by omega) (by omega) hk (by simp) (by simp)
def tGS (x : S99) : S73 := ⟨x.f0, x.f1, x.f2, x.f3⟩
theorem rdT99 {a : List S99} {i : Int} (h0 : 0 ≤ i) (h1 : i < a.length) : rd_T99 a i = a[i.toNat]'(by omega) := by
  unfold rd_T99
  rw [List.getD_eq_getElem?_getD, List.getElem?_eq_getElem (by omega)]; rfl
theorem c_toGueSlotS {k : Nat} {a : List S99} (hk : a.length < k) (ha : a.length ≤ 8796093022208) : laws_toGueSlotS.f k a = some (a.map tGS) := by
  unfold laws_toGueSlotS.f
  rw [if_pos (by omega), if_pos (by omega)]
  have key : ∀ (d k : Nat) (xs : List S73) (i : Int), 0 ≤ i → (a.length : Int) - i = d → d < k → xs.length = a.length → xs.take i.toNat = (a.map tGS).take i.toNat → laws_toGueSlotS.l0 k a xs i = some (a.map tGS) := by
    intro d
    induction d with
    | zero =>
      intro k xs i hi h1 h2 h3 h4
      obtain ⟨k, rfl⟩ : ∃ m, k = m + 1 := ⟨k - 1, by omega⟩
      simp only [laws_toGueSlotS.l0]
      rw [if_neg (by omega)]
      rw [List.take_of_length_le (by omega), List.take_of_length_le (by rw [List.length_map]; omega)] at h4
      rw [h4]
    | succ d ih =>
      intro k xs i hi h1 h2 h3 h4
      obtain ⟨k, rfl⟩ : ∃ m, k = m + 1 := ⟨k - 1, by omega⟩
      simp only [laws_toGueSlotS.l0, laws_toGueSlot.f, Option.bind_some]
      rw [if_pos (by omega), if_pos hi, if_pos (by omega), w64 (by omega) (by omega)]
      refine ih k _ (i + 1) (by omega) (by omega) (by omega) (by rw [List.length_set]; exact h3) ?_
      rw [show (i + 1).toNat = i.toNat + 1 by omega, List.take_succ_eq_append_getElem (by rw [List.length_set]; omega), List.take_succ_eq_append_getElem (show i.toNat < (a.map tGS).length by rw [List.length_map]; omega), List.take_set_of_le (by omega), h4, rdT99 hi (by omega)]
      simp [tGS]
  exact key a.length k _ 0 (by omega) (by omega) hk (by simp) (by simp)
theorem c_toGueState {k : Nat} {a : List S99} {l : List Int} (hk : a.length < k) (ha : a.length ≤ 8796093022208) (hk' : l.length < k) (ha' : l.length ≤ 35184372088832) : laws_toGueState.f k a l = some (a.map tGS, l) := by
  unfold laws_toGueState.f
  rw [c_toGueSlotS hk ha, c_toIntS hk' ha']; rfl
theorem c_impl_WrdOk (a : Int) : impl_WrdOk.f a = some (decide (0 ≤ a ∧ a < 65536)) := by
  unfold impl_WrdOk.f
  by_cases h : 0 ≤ a
  · rw [if_pos (by omega)]; simp [h]
  · rw [if_neg (by omega)]; simp [h]
theorem c_impl_allWords {k : Nat} {l : List Int} (hk : l.length < k) (hl : l.length ≤ 4611686018427387904) : impl_allWords.f k l = some (wds l) := by
  unfold impl_allWords.f
  have key : ∀ (d k : Nat) (i : Int), 0 ≤ i → (l.length : Int) - i = d → d < k → impl_allWords.l0 k l (l.length : Int) i = some (wds (l.drop i.toNat)) := by
    intro d
    induction d with
    | zero =>
      intro k i h0 h1 h2
      obtain ⟨k, rfl⟩ : ∃ m, k = m + 1 := ⟨k - 1, by omega⟩
      simp only [impl_allWords.l0]
      rw [if_neg (by omega), List.drop_of_length_le (by omega)]; rfl
    | succ d ih =>
      intro k i h0 h1 h2
      obtain ⟨k, rfl⟩ : ∃ m, k = m + 1 := ⟨k - 1, by omega⟩
      simp only [impl_allWords.l0]
      rw [if_pos (by omega), if_pos h0, if_pos (by omega), c_impl_WrdOk, w64 (by omega) (by omega), ih k (i + 1) (by omega) (by omega) (by omega), wds_drop h0 (by omega)]
      simp only [Option.bind_some]
      by_cases h : 0 ≤ rd l i ∧ rd l i < 65536
      · rw [decide_eq_true h, if_pos rfl, Bool.true_and]
      · rw [decide_eq_false h, if_neg (by decide), Bool.false_and]
  have := key l.length k 0 (by omega) (by omega) hk
  simpa using this
theorem c_impl_slotOk (x : S73) (i : Int) : impl_slotOk.f x.f0 x.f1 x.f2 x.f3 i = some (slotOk x i) := by
  unfold impl_slotOk.f slotOk
  cases x.f0
  · have e : ∀ n : Int, (n == 0) = decide (n = 0) := fun n => rfl
    rw [if_neg (by decide), if_neg (by decide), e, e, e]; rfl
  · rw [if_pos rfl, if_pos rfl, c_impl_WrdOk, c_impl_WrdOk]; simp only [Option.bind_some]
    cases decide (0 ≤ x.f1 ∧ x.f1 < 65536)
    · rfl
    · rw [if_pos rfl, Bool.true_and]
      by_cases h : Int.tmod x.f1 8 = i
      · rw [if_pos h, decide_eq_true h, Bool.true_and]
        cases decide (0 ≤ x.f2 ∧ x.f2 < 65536)
        · rfl
        · rw [if_pos rfl, Bool.true_and]
          by_cases h3 : 0 ≤ x.f3
          · rw [if_pos (by omega)]; simp [h3]
          · rw [if_neg (by omega)]; simp [h3]
      · rw [if_neg h, decide_eq_false h]; rfl
theorem c_impl_GueOk {k : Nat} {s : List S73} {c : List Int} (hk : 10 < k) : impl_GueOk.f k s c = some (gueOk s c) := by
  obtain ⟨k, rfl⟩ : ∃ m, k = m + 11 := ⟨k - 11, by omega⟩
  unfold impl_GueOk.f gueOk
  by_cases hs : s.length = 8
  · rw [if_pos (by omega), decide_eq_true hs, Bool.true_and]
    by_cases hc : c.length ≤ 4
    · rw [if_neg (by omega), decide_eq_true hc, Bool.true_and, c_impl_allWords (by omega) (by omega)]; simp only [Option.bind_some, impl_GueOk.j0]
      cases hw : wds c
      · rfl
      · rw [if_neg (by decide), Bool.true_and]
        have key : ∀ (d k : Nat) (i : Int), 0 ≤ i → (s.length : Int) - i = d → d < k → impl_GueOk.l0 k s (s.length : Int) i = some (slotsOk (s.drop i.toNat) i) := by
          intro d
          induction d with
          | zero =>
            intro k i h0 h1 h2
            obtain ⟨k, rfl⟩ : ∃ m, k = m + 1 := ⟨k - 1, by omega⟩
            simp only [impl_GueOk.l0]
            rw [if_neg (by omega), List.drop_of_length_le (by omega)]; rfl
          | succ d ih =>
            intro k i h0 h1 h2
            obtain ⟨k, rfl⟩ : ∃ m, k = m + 1 := ⟨k - 1, by omega⟩
            simp only [impl_GueOk.l0]
            rw [if_pos (by omega), if_pos h0, if_pos (by omega), w64 (by omega) (by omega), ih k (i + 1) (by omega) (by omega) (by omega), slotsOk_drop h0 (by omega), c_impl_slotOk]
            simp only [Option.bind_some]
            cases slotOk (rd_T73 s i) i <;> rfl
        exact key s.length (k + 10) 0 (by omega) (by omega) (by omega)
    · rw [if_pos (by omega), decide_eq_false hc]; rfl
  · rw [if_neg (by omega), decide_eq_false hs]; rfl
theorem FnExactGueOk : ∀ (a : List S99) (l : List Int), a.length ≤ maxLen → (∀ x ∈ a, (Lit.int .i64 x.f1).wf = true ∧ (Lit.int .i64 x.f2).wf = true ∧ (Lit.int .i64 x.f3).wf = true) → l.length ≤ maxLen → (∀ x ∈ l, (Lit.int .i64 x).wf = true) → ∃ k, laws_FnExactGueOk.f k a l = some true := by
  intro a l ha _ hl _
  refine ⟨1048577, ?_⟩
  simp only [maxLen] at ha hl
  unfold laws_FnExactGueOk.f
  rcases c_szGueState (a := a) (l := l) (by omega) (by omega) with e | ⟨⟨n, e, hn⟩, hs⟩
  · rw [e]; rfl
  · rw [e]; simp only [Option.bind_some]
    rw [if_neg (by omega), c_toGueState (by omega) (by omega) (by omega) (by omega)]; simp only [Option.bind_some]
    rw [c_spec_GueOk (by omega), c_impl_GueOk (by omega)]; simp only [Option.bind_some]
    rw [if_neg (by simp), c_eqGueState_self (by rw [List.length_map]; omega) (by rw [List.length_map]; omega) (by omega) (by omega)]; rfl
end Go.Proofs.Ytmapppjgmlcbaaa.Pure
