/- The law FnExactChcOk, as a plain statement over numbers and lists (no Go, no memory): ∀ (l : List Int) (a : List S110), l.length ≤ maxLen → (∀ x ∈ l, (Lit.int .i64 x).wf = true) → a.length ≤ maxLen → (∀ x ∈ a, (Lit.int .i64 x.f1).wf = true ∧ (x.f3.length ≤ maxLen ∧ ∀ n ∈ x.f3, (Lit.int .i64 n).wf = true)) → ∃ k, laws_FnExactChcOk.f k l a = some true
It holds for all such arguments; there are no further conditions. -/
import Derived.Test.YtmapppjgmlcbaaaQFnExactChcOkx4
import Derived.Test.YtmapppjgmlcbaaaPlain
set_option linter.unusedVariables false
set_option linter.unusedSimpArgs false
namespace Go.Proofs.Ytmapppjgmlcbaaa.Pure
open Go.RowKit Go.Proofs.Ytmapppjgmlcbaaa.QFnExactChcOk Go.Proofs.YtmapppjgmlcbaaaW.PrintWords Go.Proofs.YtmapppjgmlcbaaaW.PrintLast Go.Proofs.Ytmapppjgmlcbaaa.Plain
theorem c_eqIntS {k : Nat} {a b : List Int} (hk : a.length < k) (ha : a.length ≤ 4611686018427387904) : laws_eqIntS.f k a b = some (decide (a = b)) := by
  unfold laws_eqIntS.f
  by_cases hl : a.length = b.length
  · rw [if_pos (by omega)]
    have key : ∀ (d k : Nat) (i : Int), 0 ≤ i → (a.length : Int) - i = d → d < k → laws_eqIntS.l0 k a b i = some (decide (a.drop i.toNat = b.drop i.toNat)) := by
      intro d
      induction d with
      | zero =>
        intro k i h0 h1 h2
        obtain ⟨k, rfl⟩ : ∃ m, k = m + 1 := ⟨k - 1, by omega⟩
        simp only [laws_eqIntS.l0]
        rw [if_neg (by omega), List.drop_of_length_le (by omega), List.drop_of_length_le (by omega)]; simp
      | succ d ih =>
        intro k i h0 h1 h2
        obtain ⟨k, rfl⟩ : ∃ m, k = m + 1 := ⟨k - 1, by omega⟩
        simp only [laws_eqIntS.l0]
        rw [if_pos (by omega), if_pos h0, if_pos (by omega), rd_at h0 (by omega), rd_at h0 (by omega), List.drop_eq_getElem_cons (show i.toNat < a.length by omega), List.drop_eq_getElem_cons (show i.toNat < b.length by omega)]
        by_cases he : a[i.toNat]'(by omega) = b[i.toNat]'(by omega)
        · rw [if_pos he, w64 (by omega) (by omega), ih k (i + 1) (by omega) (by omega) (by omega), show (i + 1).toNat = i.toNat + 1 by omega]
          congr 1
          exact decide_eq_decide.2 ⟨fun h => by rw [he, h], fun h => (List.cons.inj h).2⟩
        · rw [if_neg he]
          congr 1
          exact (decide_eq_false (fun h => he (List.cons.inj h).1)).symm
    have := key a.length k 0 (by omega) (by omega) hk
    simpa using this
  · rw [if_neg (by omega)]
    have : a ≠ b := fun h => hl (by rw [h])
    simp [this]
theorem rdT63 {a : List S63} {i : Int} (h0 : 0 ≤ i) (h1 : i < a.length) : rd_T63 a i = a[i.toNat]'(by omega) := by
  unfold rd_T63
  rw [List.getD_eq_getElem?_getD, List.getElem?_eq_getElem (by omega)]; rfl
/-- a line of the cache is ok at its place, over this memory -/
def lineOk (m : List Int) (x : S63) (i : Int) : Bool :=
  if x.f0 = true then decide (0 ≤ x.f1 ∧ x.f1 < 256) && (decide (x.f1 % 4 = 0) && (decide (x.f1 / 4 % 4 = i) && (decide (x.f3.length = 4) && (wds x.f3 && (x.f2 || decide (x.f3 = (m.take (x.f1 + 4).toNat).drop x.f1.toNat))))))
  else decide (x.f1 = 0) && (!x.f2 && decide (x.f3.length = 0))
def linesOk (m : List Int) : List S63 → Int → Bool
  | [], _ => true
  | x :: xs, i => lineOk m x i && linesOk m xs (i + 1)
theorem linesOk_drop {m : List Int} {l : List S63} {i : Int} (h0 : 0 ≤ i) (h1 : i < l.length) : linesOk m (l.drop i.toNat) i = (lineOk m (rd_T63 l i) i && linesOk m (l.drop (i + 1).toNat) (i + 1)) := by
  rw [List.drop_eq_getElem_cons (show i.toNat < l.length by omega), rdT63 h0 h1, show (i + 1).toNat = i.toNat + 1 by omega]; rfl
def chcOk (m : List Int) (l : List S63) : Bool := decide (m.length = 256) && (wds m && (decide (l.length = 4) && linesOk m l 0))
theorem c_eqChcLine_self {k : Nat} (x : S63) (hk : x.f3.length < k) (ha : x.f3.length ≤ 4611686018427387904) : laws_eqChcLine.f k x.f0 x.f1 x.f2 x.f3 x.f0 x.f1 x.f2 x.f3 = some true := by
  unfold laws_eqChcLine.f
  rw [if_neg (by simp), if_pos rfl, if_neg (by simp), c_eqIntS hk ha]
  simp
theorem c_eqChcLineS_self {k : Nat} {a : List S63} {M : Nat} (hM : M ≤ 4611686018427387904) (hm : ∀ x ∈ a, x.f3.length ≤ M) (hk : a.length + M < k) (ha : a.length ≤ 4611686018427387904) : laws_eqChcLineS.f k a a = some true := by
  unfold laws_eqChcLineS.f
  rw [if_pos rfl]
  have key : ∀ (d k : Nat) (i : Int), 0 ≤ i → (a.length : Int) - i = d → d + M < k → laws_eqChcLineS.l0 k a a i = some true := by
    intro d
    induction d with
    | zero =>
      intro k i h0 h1 h2
      obtain ⟨k, rfl⟩ : ∃ m, k = m + 1 := ⟨k - 1, by omega⟩
      simp only [laws_eqChcLineS.l0]
      rw [if_neg (by omega)]
    | succ d ih =>
      intro k i h0 h1 h2
      obtain ⟨k, rfl⟩ : ∃ m, k = m + 1 := ⟨k - 1, by omega⟩
      simp only [laws_eqChcLineS.l0]
      have hx : (rd_T63 a i).f3.length ≤ M := by rw [rdT63 h0 (by omega)]; exact hm _ (List.getElem_mem _)
      rw [if_pos (by omega), if_pos h0, if_pos (by omega), c_eqChcLine_self _ (by omega) (by omega), w64 (by omega) (by omega)]
      simp only [Option.bind_some, if_true]
      exact ih k (i + 1) (by omega) (by omega) (by omega)
  exact key a.length k 0 (by omega) (by omega) hk
theorem c_eqChcState_self {k : Nat} {a : List S63} {l : List Int} {M : Nat} (hM : M ≤ 4611686018427387904) (hm : ∀ x ∈ a, x.f3.length ≤ M) (hk : a.length + M < k) (ha : a.length ≤ 4611686018427387904) (hk' : l.length < k) (ha' : l.length ≤ 4611686018427387904) : laws_eqChcState.f k l a l a = some true := by
  unfold laws_eqChcState.f
  rw [c_eqIntS hk' ha', c_eqChcLineS_self hM hm hk ha]
  simp
theorem c_szIntS {a : List Int} {m : Int} (h0 : 0 ≤ m) (h1 : m ≤ 1048576) (ha : a.length ≤ 9223372036854775807) : laws_szIntS.f a m = some (if m < a.length then -1 else m - a.length) := by
  unfold laws_szIntS.f
  rw [w64 (by omega) (by omega)]
  by_cases h : m < a.length
  · rw [if_pos (by omega), if_pos h]
  · rw [if_neg (by omega), if_neg h]
theorem rdT110 {a : List S110} {i : Int} (h0 : 0 ≤ i) (h1 : i < a.length) : rd_T110 a i = a[i.toNat]'(by omega) := by
  unfold rd_T110
  rw [List.getD_eq_getElem?_getD, List.getElem?_eq_getElem (by omega)]; rfl
theorem c_szChcLineS {k : Nat} {a : List S110} {m : Int} (h0 : 0 ≤ m) (h1 : m ≤ 1048576) (ha : a.length ≤ 9223372036854775807) (hx : ∀ x ∈ a, x.f3.length ≤ 9223372036854775807) (hk : 1048577 < k) :
    laws_szChcLineS.f k a m = some (-1) ∨ (∃ n, laws_szChcLineS.f k a m = some n ∧ 0 ≤ n ∧ n ≤ m) ∧ a.length ≤ m ∧ ∀ x ∈ a, (x.f3.length : Int) ≤ m := by
  unfold laws_szChcLineS.f
  rw [w64 (by omega) (by omega)]
  by_cases h : m < a.length
  · rw [if_pos (by omega)]; exact .inl rfl
  · rw [if_neg (by omega)]
    have key : ∀ (d k : Nat) (i m' : Int), 0 ≤ i → (a.length : Int) - i = d → d < k → 0 ≤ m' → m' ≤ 1048576 → laws_szChcLineS.l0 k a m' i = some (-1) ∨ (∃ n, laws_szChcLineS.l0 k a m' i = some n ∧ 0 ≤ n ∧ n ≤ m') ∧ ∀ x ∈ a.drop i.toNat, (x.f3.length : Int) ≤ m' := by
      intro d
      induction d with
      | zero =>
        intro k i m' h0 h1 h2 h3 h4
        obtain ⟨k, rfl⟩ : ∃ m, k = m + 1 := ⟨k - 1, by omega⟩
        simp only [laws_szChcLineS.l0]
        rw [if_neg (by omega), List.drop_of_length_le (by omega)]
        exact .inr ⟨⟨m', rfl, h3, by omega⟩, fun x hx => by cases hx⟩
      | succ d ih =>
        intro k i m' h0 h1 h2 h3 h4
        obtain ⟨k, rfl⟩ : ∃ m, k = m + 1 := ⟨k - 1, by omega⟩
        simp only [laws_szChcLineS.l0, laws_szChcLine.f]
        have hx' : (rd_T110 a i).f3.length ≤ 9223372036854775807 := by rw [rdT110 h0 (by omega)]; exact hx _ (List.getElem_mem _)
        rw [if_pos (by omega), if_pos h0, c_szIntS h3 h4 hx', w64 (n := i + 1) (by omega) (by omega)]
        simp only [Option.bind_some]
        by_cases hl : m' < ((rd_T110 a i).f3.length : Int)
        · rw [if_pos hl, if_pos (by omega)]; simp only [Option.bind_some]
          rw [if_pos (by omega)]; exact .inl rfl
        · rw [if_neg hl, if_neg (by omega)]; simp only [Option.bind_some]
          rw [if_neg (by omega)]
          rcases ih k (i + 1) (m' - ((rd_T110 a i).f3.length : Int)) (by omega) (by omega) (by omega) (by omega) (by omega) with e | ⟨⟨n, e, e0, e1⟩, hd⟩
          · exact .inl e
          · refine .inr ⟨⟨n, e, e0, by omega⟩, fun x hx => ?_⟩
            rw [List.drop_eq_getElem_cons (show i.toNat < a.length by omega)] at hx
            rcases List.mem_cons.1 hx with rfl | hx
            · rw [rdT110 h0 (by omega)] at hl; omega
            · have := hd x (by rw [show (i + 1).toNat = i.toNat + 1 by omega]; exact hx)
              omega
    rcases key a.length k 0 (m - a.length) (by omega) (by omega) (by omega) (by omega) (by omega) with e | ⟨⟨n, e, e0, e1⟩, hd⟩
    · exact .inl e
    · exact .inr ⟨⟨n, e, e0, by omega⟩, by omega, fun x hx => by have := hd x (by simpa using hx); omega⟩
theorem c_szChcState {k : Nat} {a : List S110} {l : List Int} (ha : a.length ≤ 9223372036854775807) (hl : l.length ≤ 9223372036854775807) (hx : ∀ x ∈ a, x.f3.length ≤ 9223372036854775807) (hk : 1048577 < k) :
    laws_szChcState.f k l a 1048576 = some (-1) ∨ (∃ n, laws_szChcState.f k l a 1048576 = some n ∧ 0 ≤ n) ∧ l.length ≤ 1048576 ∧ a.length ≤ 1048576 ∧ ∀ x ∈ a, x.f3.length ≤ 1048576 := by
  unfold laws_szChcState.f
  rw [c_szIntS (by omega) (by omega) hl]; simp only [Option.bind_some]
  by_cases h1 : (1048576 : Int) < l.length
  · rw [if_pos h1]; exact .inl rfl
  · rw [if_neg h1, if_neg (by omega)]
    rcases c_szChcLineS (k := k) (a := a) (m := 1048576 - (l.length : Int)) (by omega) (by omega) ha hx hk with e | ⟨⟨n, e, e0, e1⟩, e2, e3⟩
    · rw [e]; exact .inl rfl
    · rw [e]; simp only [Option.bind_some]; rw [if_neg (by omega)]
      exact .inr ⟨⟨n, rfl, e0⟩, by omega, by omega, fun x hx => by have := e3 x hx; omega⟩
theorem c_spec_l1In (a b c : Int) : spec_l1In.f a b c = some (decide (b ≤ a ∧ a ≤ c)) := by
  unfold spec_l1In.f
  by_cases h : b ≤ a
  · rw [if_pos (by omega)]; simp [h]
  · rw [if_neg (by omega)]; simp [h]
theorem c_spec_WrdOk (a : Int) : spec_WrdOk.f a = some (decide (0 ≤ a ∧ a < 65536)) := by
  unfold spec_WrdOk.f
  rw [c_spec_l1In]; simp only [Option.bind_some]
  congr 1
  exact decide_eq_decide.2 (by omega)
theorem c_spec_l4Words {k : Nat} {l : List Int} {n : Int} (hk : l.length < k) (hl : l.length ≤ 4611686018427387904) : spec_l4Words.f k l n = some (wds l && ((l.length : Int) == n)) := by
  unfold spec_l4Words.f
  have key : ∀ (d k : Nat) (i : Int), 0 ≤ i → (l.length : Int) - i = d → d < k → spec_l4Words.l0 k l n i = some (wds (l.drop i.toNat) && ((l.length : Int) == n)) := by
    intro d
    induction d with
    | zero =>
      intro k i h0 h1 h2
      obtain ⟨k, rfl⟩ : ∃ m, k = m + 1 := ⟨k - 1, by omega⟩
      simp only [spec_l4Words.l0]
      rw [if_neg (by omega), List.drop_of_length_le (by omega)]; rfl
    | succ d ih =>
      intro k i h0 h1 h2
      obtain ⟨k, rfl⟩ : ∃ m, k = m + 1 := ⟨k - 1, by omega⟩
      simp only [spec_l4Words.l0]
      rw [if_pos (by omega), if_pos h0, c_spec_WrdOk, w64 (by omega) (by omega), ih k (i + 1) (by omega) (by omega) (by omega), wds_drop h0 (by omega)]
      simp only [Option.bind_some]
      by_cases h : 0 ≤ rd l i ∧ rd l i < 65536
      · rw [decide_eq_true h, if_pos rfl, Bool.true_and]
      · rw [decide_eq_false h, if_neg (by decide), Bool.false_and, Bool.false_and]
  have := key l.length k 0 (by omega) (by omega) hk
  simpa using this
theorem c_spec_ChcOk {k : Nat} {m : List Int} {l : List S63} (hk : 20 < k) (hx : ∀ x ∈ l, x.f3.length ≤ 1048576) (hm : m.length ≤ 1048576) (hk' : 1048700 < k) : spec_ChcOk.f k m l = some (chcOk m l) := by
  obtain ⟨k, rfl⟩ : ∃ n, k = n + 1 := ⟨k - 1, by omega⟩
  unfold spec_ChcOk.f chcOk
  have ei : ((m.length : Int) == 256) = decide (m.length = 256) := by
    by_cases h : m.length = 256
    · rw [decide_eq_true h, beq_iff_eq]; omega
    · rw [decide_eq_false h, beq_eq_false_iff_ne]; omega
  rw [c_spec_l4Words (by omega) (by omega), ei, Bool.and_comm (wds m), ← Bool.and_assoc]; simp only [Option.bind_some]
  by_cases hm' : m.length = 256
  · rw [decide_eq_true hm', Bool.true_and]
    cases wds m
    · rfl
    · rw [if_pos rfl, Bool.true_and]
      simp only [spec_ChcOk.j0]
      by_cases hl : l.length = 4
      · rw [if_neg (by rw [hl]; decide), decide_eq_true hl, Bool.true_and]
        have l1 : ∀ (d : Nat) (k : Nat) (i j : Int) (y : S63), 0 ≤ j → 4 - j = (d : Int) → d + 5 < k → (y.f0 = true ∧ y.f1 % 4 = 0 ∧ 0 ≤ y.f1 ∧ y.f1 < 256 ∧ y.f3.length = 4) →
            ∃ k', k' + d + 1 ≥ k ∧ k' < k ∧ spec_ChcOk.l1 k i j m l y.f0 y.f1 y.f2 y.f3 = if (y.f2 || decide (y.f3.drop j.toNat = (m.take (y.f1 + 4).toNat).drop (y.f1 + j).toNat)) = true then spec_ChcOk.l0 k' (wrap64 (i + 1)) m l else some false := by
          intro d
          induction d with
          | zero =>
            intro k i j y h0 h1 h2 ⟨h3, h4, h5, h6, h7⟩
            obtain ⟨k, rfl⟩ : ∃ m, k = m + 1 := ⟨k - 1, by omega⟩
            simp only [spec_ChcOk.l1]
            refine ⟨k, by omega, by omega, ?_⟩
            rw [if_neg (by omega), List.drop_of_length_le (by omega), List.drop_of_length_le (by rw [List.length_take]; omega)]
            simp
          | succ d ih =>
            intro k i j y h0 h1 h2 ⟨h3, h4, h5, h6, h7⟩
            obtain ⟨k, rfl⟩ : ∃ m, k = m + 1 := ⟨k - 1, by omega⟩
            simp only [spec_ChcOk.l1]
            rw [if_pos (by omega), w64 (n := j + 1) (by omega) (by omega), w64 (n := y.f1 + j) (by omega) (by omega)]
            obtain ⟨k', g0, g1, g2⟩ := ih k i (j + 1) y (by omega) (by omega) (by omega) ⟨h3, h4, h5, h6, h7⟩
            refine ⟨k', by omega, by omega, ?_⟩
            rw [g2]
            by_cases h2 : y.f2 = true
            · rw [if_pos h2, h2]; simp
            · have h2' : y.f2 = false := by simpa using h2
              rw [if_neg h2, if_pos h0, if_pos (by omega), if_pos (by omega), if_pos (by omega), h2', Bool.false_or, Bool.false_or, rd_at h0 (by omega), rd_at (l := m) (by omega) (by omega)]
              have e1 : y.f3.drop j.toNat = y.f3[j.toNat]'(by omega) :: y.f3.drop (j + 1).toNat := by
                rw [List.drop_eq_getElem_cons (by omega), show (j + 1).toNat = j.toNat + 1 by omega]
              have e2 : (m.take (y.f1 + 4).toNat).drop (y.f1 + j).toNat = m[(y.f1 + j).toNat]'(by omega) :: (m.take (y.f1 + 4).toNat).drop (y.f1 + (j + 1)).toNat := by
                rw [List.drop_eq_getElem_cons (by rw [List.length_take]; omega), show (y.f1 + (j + 1)).toNat = (y.f1 + j).toNat + 1 by omega, List.getElem_take]
              rw [e1, e2]
              by_cases he : y.f3[j.toNat]'(by omega) = m[(y.f1 + j).toNat]'(by omega)
              · rw [if_pos he, he]
                simp only [List.cons.injEq, true_and]
              · rw [if_neg he, if_neg (by simp [he])]
        have key : ∀ (d k : Nat) (i : Int), 0 ≤ i → (l.length : Int) - i = d → d * 8 + 1048590 < k → spec_ChcOk.l0 k i m l = some (linesOk m (l.drop i.toNat) i) := by
          intro d
          induction d with
          | zero =>
            intro k i h0 h1 h2
            obtain ⟨k, rfl⟩ : ∃ m, k = m + 1 := ⟨k - 1, by omega⟩
            simp only [spec_ChcOk.l0]
            rw [if_neg (by omega), List.drop_of_length_le (by omega)]; rfl
          | succ d ih =>
            intro k i h0 h1 h2
            obtain ⟨k, rfl⟩ : ∃ m, k = m + 2 := ⟨k - 2, by omega⟩
            have hx' : (rd_T63 l i).f3.length ≤ 1048576 := by rw [rdT63 h0 (by omega)]; exact hx _ (List.getElem_mem _)
            rw [linesOk_drop h0 (by omega)]
            have hn : ∀ k', k ≤ k' + 6 → k' < k + 2 → spec_ChcOk.l0 k' (wrap64 (i + 1)) m l = some (linesOk m (l.drop (i + 1).toNat) (i + 1)) := by
              intro k' a b
              rw [w64 (by omega) (by omega)]
              exact ih k' (i + 1) (by omega) (by omega) (by omega)
            rw [spec_ChcOk.l0]
            simp only [spec_ChcOk.j2, spec_l7Slot.f, if_true]
            rw [if_pos (by omega), if_pos h0, hn (k + 1) (by omega) (by omega)]
            generalize hy : rd_T63 l i = y at *
            generalize linesOk m (l.drop (i + 1).toNat) (i + 1) = t at *
            unfold lineOk
            by_cases c0 : y.f0 = true
            · rw [if_pos c0, if_pos c0, c_spec_l1In]; simp only [Option.bind_some]
              by_cases c1 : 0 ≤ y.f1 ∧ y.f1 < 256
              · by_cases c2 : y.f1 % 4 = 0
                · rw [decide_eq_true (show 0 ≤ y.f1 ∧ y.f1 ≤ 252 by omega), if_pos rfl, tmod_pos c1.1, if_pos c2, tdiv_pos c1.1, w64 (by omega) (by omega), tmod_pos (by omega), decide_eq_true c1, decide_eq_true c2]
                  by_cases c3 : y.f1 / 4 % 4 = i
                  · rw [if_pos c3, decide_eq_true c3, c_spec_l4Words (by omega) (by omega)]; simp only [Option.bind_some, Bool.true_and]
                    have e4 : ((y.f3.length : Int) == 4) = decide (y.f3.length = 4) := by
                      by_cases h : y.f3.length = 4
                      · rw [decide_eq_true h, beq_iff_eq]; omega
                      · rw [decide_eq_false h, beq_eq_false_iff_ne]; omega
                    rw [e4]
                    by_cases c4 : y.f3.length = 4
                    · rw [decide_eq_true c4]
                      cases wds y.f3
                      · simp
                      · obtain ⟨k', g0, g1, g2⟩ := l1 4 k i 0 y (by omega) (by omega) (by omega) ⟨c0, c2, c1.1, c1.2, c4⟩
                        rw [if_neg (by decide), g2, hn k' (by omega) (by omega)]
                        simp only [Int.toNat_zero, List.drop_zero, Int.add_zero, Bool.true_and]
                        cases (y.f2 || decide (y.f3 = (m.take (y.f1 + 4).toNat).drop y.f1.toNat)) <;> simp
                    · rw [decide_eq_false c4]; simp
                  · rw [if_neg c3, decide_eq_false c3]; simp
                · rw [decide_eq_false c2, tmod_pos c1.1, if_neg c2]
                  by_cases c5 : 0 ≤ y.f1 ∧ y.f1 ≤ 252
                  · rw [decide_eq_true c5]; simp
                  · rw [decide_eq_false c5]; simp
              · rw [decide_eq_false c1, decide_eq_false (show ¬ (0 ≤ y.f1 ∧ y.f1 ≤ 252) by omega)]; simp
            · rw [if_neg c0, if_neg c0]
              by_cases c1 : y.f1 = 0
              · rw [if_pos c1, decide_eq_true c1, Bool.true_and]
                cases y.f2
                · rw [if_neg (by decide)]
                  by_cases c2 : y.f3.length = 0
                  · rw [if_pos (by omega), decide_eq_true c2]; rfl
                  · rw [if_neg (by omega), decide_eq_false c2]; rfl
                · rfl
              · rw [if_neg c1, decide_eq_false c1]; rfl
        have := key l.length (k) 0 (by omega) (by omega) (by omega)
        simpa using this
      · rw [if_pos (by rw [bne_iff_ne]; omega), decide_eq_false hl]; rfl
  · rw [decide_eq_false hm', Bool.false_and, if_neg (by decide)]; rfl
theorem c_toIntS {k : Nat} {a : List Int} (hk : a.length < k) (ha : a.length ≤ 35184372088832) : laws_toIntS.f k a = some a := by
  unfold laws_toIntS.f
  rw [if_pos (by omega), if_pos (by omega)]
  have key : ∀ (d k : Nat) (xs : List Int) (i : Int), 0 ≤ i → (a.length : Int) - i = d → d < k → xs.length = a.length → xs.take i.toNat = a.take i.toNat → laws_toIntS.l0 k a xs i = some a := by
    intro d
    induction d with
    | zero =>
      intro k xs i hi h1 h2 h3 h4
      obtain ⟨k, rfl⟩ : ∃ m, k = m + 1 := ⟨k - 1, by omega⟩
      simp only [laws_toIntS.l0]
      rw [if_neg (by omega)]
      rw [List.take_of_length_le (by omega), List.take_of_length_le (by omega)] at h4
      rw [h4]
    | succ d ih =>
      intro k xs i hi h1 h2 h3 h4
      obtain ⟨k, rfl⟩ : ∃ m, k = m + 1 := ⟨k - 1, by omega⟩
      simp only [laws_toIntS.l0]
      rw [if_pos (by omega), if_pos hi, if_pos (by omega), w64 (by omega) (by omega)]
      refine ih k _ (i + 1) (by omega) (by omega) (by omega) (by rw [List.length_set]; exact h3) ?_
      rw [show (i + 1).toNat = i.toNat + 1 by omega, List.take_succ_eq_append_getElem (by rw [List.length_set]; omega), List.take_succ_eq_append_getElem (show i.toNat < a.length by omega), List.take_set_of_le (by omega), h4, rd_at hi (by omega)]
      simp
  exact key a.length k _ 0 (by omega) (by omega) hk (by simp) (by simp)
def tCL (x : S110) : S63 := ⟨x.f0, x.f1, x.f2, x.f3⟩
theorem c_toChcLineS {k : Nat} {a : List S110} (hx : ∀ x ∈ a, x.f3.length ≤ 1048576) (hk : a.length + 1048577 < k) (ha : a.length ≤ 5864062014805) : laws_toChcLineS.f k a = some (a.map tCL) := by
  unfold laws_toChcLineS.f
  rw [if_pos (by omega), if_pos (by omega)]
  have key : ∀ (d k : Nat) (xs : List S63) (i : Int), 0 ≤ i → (a.length : Int) - i = d → d + 1048577 < k → xs.length = a.length → xs.take i.toNat = (a.map tCL).take i.toNat → laws_toChcLineS.l0 k a xs i = some (a.map tCL) := by
    intro d
    induction d with
    | zero =>
      intro k xs i hi h1 h2 h3 h4
      obtain ⟨k, rfl⟩ : ∃ m, k = m + 1 := ⟨k - 1, by omega⟩
      simp only [laws_toChcLineS.l0]
      rw [if_neg (by omega)]
      rw [List.take_of_length_le (by omega), List.take_of_length_le (by rw [List.length_map]; omega)] at h4
      rw [h4]
    | succ d ih =>
      intro k xs i hi h1 h2 h3 h4
      obtain ⟨k, rfl⟩ : ∃ m, k = m + 1 := ⟨k - 1, by omega⟩
      have hx' : (rd_T110 a i).f3.length ≤ 1048576 := by rw [rdT110 hi (by omega)]; exact hx _ (List.getElem_mem _)
      simp only [laws_toChcLineS.l0, laws_toChcLine.f]
      rw [if_pos (by omega), if_pos hi, c_toIntS (by omega) (by omega)]
      simp only [Option.bind_some]
      rw [if_pos (by omega), w64 (by omega) (by omega)]
      refine ih k _ (i + 1) (by omega) (by omega) (by omega) (by rw [List.length_set]; exact h3) ?_
      rw [show (i + 1).toNat = i.toNat + 1 by omega, List.take_succ_eq_append_getElem (by rw [List.length_set]; omega), List.take_succ_eq_append_getElem (show i.toNat < (a.map tCL).length by rw [List.length_map]; omega), List.take_set_of_le (by omega), h4, rdT110 hi (by omega)]
      simp [tCL]
  exact key a.length k _ 0 (by omega) (by omega) hk (by simp) (by simp)
theorem c_toChcState {k : Nat} {a : List S110} {l : List Int} (hx : ∀ x ∈ a, x.f3.length ≤ 1048576) (hk : a.length + 1048577 < k) (ha : a.length ≤ 5864062014805) (hk' : l.length < k) (ha' : l.length ≤ 35184372088832) : laws_toChcState.f k l a = some (l, a.map tCL) := by
  unfold laws_toChcState.f
  rw [c_toIntS hk' ha', c_toChcLineS hx hk ha]; rfl
theorem c_impl_WrdOk (a : Int) : impl_WrdOk.f a = some (decide (0 ≤ a ∧ a < 65536)) := by
  unfold impl_WrdOk.f
  by_cases h : 0 ≤ a
  · rw [if_pos (by omega)]; simp [h]
  · rw [if_neg (by omega)]; simp [h]
theorem c_impl_allWords {k : Nat} {l : List Int} (hk : l.length < k) (hl : l.length ≤ 4611686018427387904) : impl_allWords.f k l = some (wds l) := by
  unfold impl_allWords.f
  have key : ∀ (d k : Nat) (i : Int), 0 ≤ i → (l.length : Int) - i = d → d < k → impl_allWords.l0 k l (l.length : Int) i = some (wds (l.drop i.toNat)) := by
    intro d
    induction d with
    | zero =>
      intro k i h0 h1 h2
      obtain ⟨k, rfl⟩ : ∃ m, k = m + 1 := ⟨k - 1, by omega⟩
      simp only [impl_allWords.l0]
      rw [if_neg (by omega), List.drop_of_length_le (by omega)]; rfl
    | succ d ih =>
      intro k i h0 h1 h2
      obtain ⟨k, rfl⟩ : ∃ m, k = m + 1 := ⟨k - 1, by omega⟩
      simp only [impl_allWords.l0]
      rw [if_pos (by omega), if_pos h0, if_pos (by omega), c_impl_WrdOk, w64 (by omega) (by omega), ih k (i + 1) (by omega) (by omega) (by omega), wds_drop h0 (by omega)]
      simp only [Option.bind_some]
      by_cases h : 0 ≤ rd l i ∧ rd l i < 65536
      · rw [decide_eq_true h, if_pos rfl, Bool.true_and]
      · rw [decide_eq_false h, if_neg (by decide), Bool.false_and]
  have := key l.length k 0 (by omega) (by omega) hk
  simpa using this
theorem c_impl_memoryOk {k : Nat} {l : List Int} (hk : l.length < k) (hl : l.length ≤ 4611686018427387904) : impl_memoryOk.f k l = some (decide (l.length = 256) && wds l) := by
  unfold impl_memoryOk.f
  by_cases h : l.length = 256
  · rw [if_pos (by omega), c_impl_allWords hk hl, decide_eq_true h]; rfl
  · rw [if_neg (by omega), decide_eq_false h]; rfl
theorem c_impl_placeOk (a : Int) : impl_placeOk.f a = some (decide (0 ≤ a ∧ a < 256)) := by
  unfold impl_placeOk.f
  by_cases h : 0 ≤ a
  · rw [if_pos (by omega)]; simp [h]
  · rw [if_neg (by omega)]; simp [h]
theorem c_Equal {k : Nat} {a b : List Int} (hk : a.length < k) (ha : a.length ≤ 4611686018427387904) : slices_Equal_int_int.f k a b = some (decide (a = b)) := by
  unfold slices_Equal_int_int.f
  by_cases hl : a.length = b.length
  · rw [if_pos (by omega)]
    have key : ∀ (d k : Nat) (i : Int), 0 ≤ i → (a.length : Int) - i = d → d < k → slices_Equal_int_int.l0 k a b (a.length : Int) i = some (decide (a.drop i.toNat = b.drop i.toNat)) := by
      intro d
      induction d with
      | zero =>
        intro k i h0 h1 h2
        obtain ⟨k, rfl⟩ : ∃ m, k = m + 1 := ⟨k - 1, by omega⟩
        simp only [slices_Equal_int_int.l0]
        rw [if_neg (by omega), List.drop_of_length_le (by omega), List.drop_of_length_le (by omega)]; simp
      | succ d ih =>
        intro k i h0 h1 h2
        obtain ⟨k, rfl⟩ : ∃ m, k = m + 1 := ⟨k - 1, by omega⟩
        simp only [slices_Equal_int_int.l0]
        rw [if_pos (by omega), if_pos h0, if_pos (by omega), if_pos (by omega), rd_at h0 (by omega), rd_at h0 (by omega), List.drop_eq_getElem_cons (show i.toNat < a.length by omega), List.drop_eq_getElem_cons (show i.toNat < b.length by omega)]
        by_cases he : a[i.toNat]'(by omega) = b[i.toNat]'(by omega)
        · rw [if_pos he, w64 (by omega) (by omega), ih k (i + 1) (by omega) (by omega) (by omega), show (i + 1).toNat = i.toNat + 1 by omega]
          congr 1
          exact decide_eq_decide.2 ⟨fun h => by rw [he, h], fun h => (List.cons.inj h).2⟩
        · rw [if_neg he]
          congr 1
          exact (decide_eq_false (fun h => he (List.cons.inj h).1)).symm
    have := key a.length k 0 (by omega) (by omega) hk
    simpa using this
  · rw [if_neg (by omega)]
    have : a ≠ b := fun h => hl (by rw [h])
    simp [this]
theorem c_impl_lineOk {k : Nat} {m : List Int} (x : S63) (i : Int) (hm : m.length = 256) (hk : x.f3.length + 5 < k) (hx : x.f3.length ≤ 4611686018427387904) : impl_lineOk.f k x.f0 x.f1 x.f2 x.f3 i m = some (lineOk m x i) := by
  obtain ⟨k, rfl⟩ : ∃ m, k = m + 1 := ⟨k - 1, by omega⟩
  unfold impl_lineOk.f lineOk
  by_cases c0 : x.f0 = true
  · rw [if_pos c0, if_pos c0, c_impl_placeOk]; simp only [Option.bind_some, impl_lineOk.j0, if_true]
    by_cases c1 : 0 ≤ x.f1 ∧ x.f1 < 256
    · rw [decide_eq_true c1, if_pos rfl, tmod_pos c1.1]
      by_cases c2 : x.f1 % 4 = 0
      · rw [if_pos c2, decide_eq_true c2, tdiv_pos c1.1, w64 (by omega) (by omega), tmod_pos (by omega)]
        by_cases c3 : x.f1 / 4 % 4 = i
        · rw [if_neg (by simp [c3]), decide_eq_true c3]
          by_cases c4 : x.f3.length = 4
          · rw [if_pos (by omega), decide_eq_true c4, c_impl_allWords (by omega) (by omega)]; simp only [Option.bind_some, Bool.true_and]
            cases wds x.f3
            · rfl
            · rw [if_pos rfl, Bool.true_and]
              cases x.f2
              · rw [if_neg (by decide), if_pos c1.1, w64 (by omega) (by omega), if_pos (by omega), if_pos (by omega), c_Equal (by omega) (by omega)]; rfl
              · rfl
          · rw [if_neg (by omega), decide_eq_false c4]; rfl
        · rw [if_pos (by simp [c3]), decide_eq_false c3]; rfl
      · rw [if_neg c2, decide_eq_false c2]; rfl
    · rw [decide_eq_false c1, if_neg (by decide)]; rfl
  · rw [if_neg c0, if_neg c0]
    have c0' : x.f0 = false := by simpa using c0
    unfold impl_emptyLine.f
    rw [if_neg c0]
    have e4 : ((x.f3.length : Int) == 0) = decide (x.f3.length = 0) := by
      by_cases h : x.f3.length = 0
      · rw [decide_eq_true h, beq_iff_eq]; omega
      · rw [decide_eq_false h, beq_eq_false_iff_ne]; omega
    by_cases c1 : x.f1 = 0
    · rw [if_pos c1, decide_eq_true c1, e4]
      cases x.f2 <;> rfl
    · rw [if_neg c1, decide_eq_false c1]; rfl
theorem c_impl_ChcOk {k : Nat} {m : List Int} {l : List S63} (hx : ∀ x ∈ l, x.f3.length ≤ 1048576) (hm : m.length ≤ 1048576) (hk' : 1048600 < k) : impl_ChcOk.f k m l = some (chcOk m l) := by
  obtain ⟨k, rfl⟩ : ∃ n, k = n + 1 := ⟨k - 1, by omega⟩
  unfold impl_ChcOk.f chcOk
  rw [c_impl_memoryOk (by omega) (by omega), ← Bool.and_assoc]; simp only [Option.bind_some, impl_ChcOk.j0, if_true]
  by_cases hm' : m.length = 256
  · rw [decide_eq_true hm', Bool.true_and]
    cases wds m
    · rfl
    · rw [if_pos rfl, Bool.true_and]
      by_cases hl : l.length = 4
      · rw [if_neg (by rw [hl]; decide), decide_eq_true hl, Bool.true_and]
        have key : ∀ (d k : Nat) (i : Int), 0 ≤ i → (l.length : Int) - i = d → d + 1048590 < k → impl_ChcOk.l0 k l (l.length : Int) i m l = some (linesOk m (l.drop i.toNat) i) := by
          intro d
          induction d with
          | zero =>
            intro k i h0 h1 h2
            obtain ⟨k, rfl⟩ : ∃ m, k = m + 1 := ⟨k - 1, by omega⟩
            simp only [impl_ChcOk.l0]
            rw [if_neg (by omega), List.drop_of_length_le (by omega)]; rfl
          | succ d ih =>
            intro k i h0 h1 h2
            obtain ⟨k, rfl⟩ : ∃ m, k = m + 1 := ⟨k - 1, by omega⟩
            have hx' : (rd_T63 l i).f3.length ≤ 1048576 := by rw [rdT63 h0 (by omega)]; exact hx _ (List.getElem_mem _)
            simp only [impl_ChcOk.l0]
            rw [if_pos (by omega), if_pos h0, if_pos (by omega), w64 (by omega) (by omega), ih k (i + 1) (by omega) (by omega) (by omega), linesOk_drop h0 (by omega), c_impl_lineOk _ _ hm' (by omega) (by omega)]
            simp only [Option.bind_some]
            cases lineOk m (rd_T63 l i) i <;> rfl
        have := key l.length k 0 (by omega) (by omega) (by omega)
        simpa using this
      · rw [if_pos (by rw [bne_iff_ne]; omega), decide_eq_false hl]; rfl
  · rw [decide_eq_false hm', Bool.false_and, if_neg (by decide)]; rfl
theorem FnExactChcOk : ∀ (l : List Int) (a : List S110), l.length ≤ maxLen → (∀ x ∈ l, (Lit.int .i64 x).wf = true) → a.length ≤ maxLen → (∀ x ∈ a, (Lit.int .i64 x.f1).wf = true ∧ (x.f3.length ≤ maxLen ∧ ∀ n ∈ x.f3, (Lit.int .i64 n).wf = true)) → ∃ k, laws_FnExactChcOk.f k l a = some true := by
  intro l a hl _ ha hx
  refine ⟨3000000, ?_⟩
  simp only [maxLen] at ha hl hx
  unfold laws_FnExactChcOk.f
  rcases c_szChcState (k := 3000000) (a := a) (l := l) (by omega) (by omega) (fun x h => by have := (hx x h).2.1; omega) (by omega) with e | ⟨⟨n, e, hn⟩, s1, s2, s3⟩
  · rw [e]; rfl
  · rw [e]; simp only [Option.bind_some]
    have hx' : ∀ x ∈ a.map tCL, x.f3.length ≤ 1048576 := by
      intro x h
      obtain ⟨y, hy, rfl⟩ := List.mem_map.1 h
      exact s3 y hy
    rw [if_neg (by omega), c_toChcState s3 (by omega) (by omega) (by omega) (by omega)]; simp only [Option.bind_some]
    rw [c_spec_ChcOk (by omega) hx' s1 (by omega), c_impl_ChcOk hx' s1 (by omega)]; simp only [Option.bind_some]
    rw [if_neg (by simp), c_eqChcState_self (M := 1048576) (by omega) hx' (by rw [List.length_map]; omega) (by rw [List.length_map]; omega) (by omega) (by omega)]; rfl
end Go.Proofs.Ytmapppjgmlcbaaa.Pure
