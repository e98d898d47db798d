/- The law FnExactInOk, as a plain statement over numbers and lists (no Go, no memory): ∀ (a b : Bool) (x y : Int) (r : List Int), (Lit.int .i64 x).wf = true → (Lit.int .i64 y).wf = true → r.length ≤ maxLen → (∀ x ∈ r, (Lit.int .i64 x).wf = true) → ∃ k, laws_FnExactInOk.f k a b x y r = some true
It holds for all such arguments; there are no further conditions. -/
import Derived.Test.YtdpgomcdacmhkaaPFnExactInOkx2
import Derived.Test.YtdpgomcdacmhkaaPlain
set_option linter.unusedVariables false
set_option linter.unusedSimpArgs false
namespace Go.Proofs.Ytdpgomcdacmhkaa.Pure
open Go.RowKit Go.Proofs.Ytdpgomcdacmhkaa.PFnExactInOk Go.Proofs.YtdpgomcdacmhkaaW.PrintWords Go.Proofs.YtdpgomcdacmhkaaW.PrintLast Go.Proofs.Ytdpgomcdacmhkaa.Plain
theorem c_eqIntS {k : Nat} {a b : List Int} (hk : a.length < k) (ha : a.length ≤ 4611686018427387904) : laws_eqIntS.f k a b = some (decide (a = b)) := by
  unfold laws_eqIntS.f
  by_cases hl : a.length = b.length
  · rw [if_pos (by omega)]
    have key : ∀ (d k : Nat) (i : Int), 0 ≤ i → (a.length : Int) - i = d → d < k → laws_eqIntS.l0 k a b i = some (decide (a.drop i.toNat = b.drop i.toNat)) := by
      intro d
      induction d with
      | zero =>
        intro k i h0 h1 h2
        obtain ⟨k, rfl⟩ : ∃ m, k = m + 1 := ⟨k - 1, by omega⟩
        simp only [laws_eqIntS.l0]
        rw [if_neg (by omega), List.drop_of_length_le (by omega), List.drop_of_length_le (by omega)]; simp
      | succ d ih =>
        intro k i h0 h1 h2
        obtain ⟨k, rfl⟩ : ∃ m, k = m + 1 := ⟨k - 1, by omega⟩
        simp only [laws_eqIntS.l0]
        rw [if_pos (by omega), if_pos h0, if_pos (by omega), rd_at h0 (by omega), rd_at h0 (by omega), List.drop_eq_getElem_cons (show i.toNat < a.length by omega), List.drop_eq_getElem_cons (show i.toNat < b.length by omega)]
        by_cases he : a[i.toNat]'(by omega) = b[i.toNat]'(by omega)
        · rw [if_pos he, w64 (by omega) (by omega), ih k (i + 1) (by omega) (by omega) (by omega), show (i + 1).toNat = i.toNat + 1 by omega]
          congr 1
          exact decide_eq_decide.2 ⟨fun h => by rw [he, h], fun h => (List.cons.inj h).2⟩
        · rw [if_neg he]
          congr 1
          exact (decide_eq_false (fun h => he (List.cons.inj h).1)).symm
    have := key a.length k 0 (by omega) (by omega) hk
    simpa using this
  · rw [if_neg (by omega)]
    have : a ≠ b := fun h => hl (by rw [h])
    simp [this]
theorem c_eqCorIn_self {k : Nat} {a b : Bool} {x y : Int} {r : List Int} (hr : r.length < k) (hr' : r.length ≤ 4611686018427387904) :
    laws_eqCorIn.f k a b x y r a b x y r = some true := by
  unfold laws_eqCorIn.f
  rw [if_neg (by simp), if_neg (by simp), if_pos rfl, if_pos rfl, c_eqIntS hr hr']
  simp
theorem c_szIntS {a : List Int} {m : Int} (h0 : 0 ≤ m) (h1 : m ≤ 1048576) (ha : a.length ≤ 9223372036854775807) : laws_szIntS.f a m = some (if m < a.length then -1 else m - a.length) := by
  unfold laws_szIntS.f
  rw [w64 (by omega) (by omega)]
  by_cases h : m < a.length
  · rw [if_pos (by omega), if_pos h]
  · rw [if_neg (by omega), if_neg h]
theorem c_szCorIn {a b : Bool} {x y : Int} {r : List Int} (hr' : r.length ≤ 9223372036854775807) :
    laws_szCorIn.f a b x y r 1048576 = some (-1) ∨ (∃ n, laws_szCorIn.f a b x y r 1048576 = some n ∧ 0 ≤ n) ∧ r.length ≤ 1048576 := by
  unfold laws_szCorIn.f
  rw [c_szIntS (by omega) (by omega) hr']; simp only [Option.bind_some]
  by_cases h1 : (1048576 : Int) < r.length
  · rw [if_pos h1]; exact .inl rfl
  · rw [if_neg h1, if_neg (by omega)]; exact .inr ⟨⟨_, rfl, by omega⟩, by omega⟩
theorem c_spec_l1In (a b c : Int) : spec_l1In.f a b c = some (decide (b ≤ a ∧ a ≤ c)) := by
  unfold spec_l1In.f
  by_cases h : b ≤ a
  · rw [if_pos (by omega)]; simp [h]
  · rw [if_neg (by omega)]; simp [h]
theorem c_spec_WrdOk (a : Int) : spec_WrdOk.f a = some (decide (0 ≤ a ∧ a < 65536)) := by
  unfold spec_WrdOk.f
  rw [c_spec_l1In]; simp only [Option.bind_some]
  congr 1
  exact decide_eq_decide.2 (by omega)
theorem c_spec_InOk {k : Nat} {ring lay : Bool} {a n : Int} {l : List Int} (hk : 2 < k) : spec_InOk.f k ring lay a n l = some (decide (l.length ≤ 2) && (l.all (fun x => decide (0 ≤ x)) && if lay = true then decide (0 ≤ a ∧ a < 256) && decide (0 ≤ n ∧ n < 65536) else decide (a = 0) && decide (n = 0))) := by
  unfold spec_InOk.f
  have all_drop' : ∀ {l : List Int} {i : Int} (h0 : 0 ≤ i) (h1 : i < l.length), (l.drop i.toNat).all (fun x => decide (0 ≤ x)) = (decide (0 ≤ rd l i) && (l.drop (i + 1).toNat).all (fun x => decide (0 ≤ x))) := by
    intro l i h0 h1
    rw [List.drop_eq_getElem_cons (show i.toNat < l.length by omega), List.all_cons, rd_at h0 h1, show (i + 1).toNat = i.toNat + 1 by omega]
  by_cases hl : l.length ≤ 2
  · rw [if_neg (by omega), decide_eq_true hl, Bool.true_and]
    have key : ∀ (d k : Nat) (i : Int), 0 ≤ i → (l.length : Int) - i = d → d < k → spec_InOk.l0 k i ring lay a n l = some ((l.drop i.toNat).all (fun x => decide (0 ≤ x)) && if lay = true then decide (0 ≤ a ∧ a < 256) && decide (0 ≤ n ∧ n < 65536) else decide (a = 0) && decide (n = 0)) := by
      intro d
      induction d with
      | zero =>
        intro k i h0 h1 h2
        obtain ⟨k, rfl⟩ : ∃ m, k = m + 1 := ⟨k - 1, by omega⟩
        simp only [spec_InOk.l0]
        rw [if_neg (by omega), List.drop_of_length_le (by omega), List.all_nil, Bool.true_and]
        cases lay
        · simp only [Bool.false_eq_true, if_false]
          by_cases h : a = 0
          · rw [if_pos h, decide_eq_true h, Bool.true_and]; rfl
          · rw [if_neg h, decide_eq_false h]; rfl
        · simp only [if_true, c_spec_l1In, c_spec_WrdOk, Option.bind_some]
          by_cases h : 0 ≤ a ∧ a < 256
          · rw [decide_eq_true h, decide_eq_true (show 0 ≤ a ∧ a ≤ 255 by omega), if_pos rfl, Bool.true_and]
            cases decide (0 ≤ n ∧ n < 65536) <;> rfl
          · rw [decide_eq_false h, decide_eq_false (show ¬ (0 ≤ a ∧ a ≤ 255) by omega)]; rfl
      | succ d ih =>
        intro k i h0 h1 h2
        obtain ⟨k, rfl⟩ : ∃ m, k = m + 1 := ⟨k - 1, by omega⟩
        simp only [spec_InOk.l0]
        rw [if_pos (by omega), if_pos h0, w64 (by omega) (by omega), ih k (i + 1) (by omega) (by omega) (by omega), all_drop' h0 (by omega)]
        by_cases h : 0 ≤ rd l i
        · rw [if_neg (by omega), decide_eq_true h, Bool.true_and]
        · rw [if_pos (by omega), decide_eq_false h, Bool.false_and, Bool.false_and]
    have := key l.length k 0 (by omega) (by omega) (by omega)
    simpa using this
  · rw [if_pos (by omega), decide_eq_false hl]; rfl
theorem c_toIntS {k : Nat} {a : List Int} (hk : a.length < k) (ha : a.length ≤ 35184372088832) : laws_toIntS.f k a = some a := by
  unfold laws_toIntS.f
  rw [if_pos (by omega), if_pos (by omega)]
  have key : ∀ (d k : Nat) (xs : List Int) (i : Int), 0 ≤ i → (a.length : Int) - i = d → d < k → xs.length = a.length → xs.take i.toNat = a.take i.toNat → laws_toIntS.l0 k a xs i = some a := by
    intro d
    induction d with
    | zero =>
      intro k xs i hi h1 h2 h3 h4
      obtain ⟨k, rfl⟩ : ∃ m, k = m + 1 := ⟨k - 1, by omega⟩
      simp only [laws_toIntS.l0]
      rw [if_neg (by omega)]
      rw [List.take_of_length_le (by omega), List.take_of_length_le (by omega)] at h4
      rw [h4]
    | succ d ih =>
      intro k xs i hi h1 h2 h3 h4
      obtain ⟨k, rfl⟩ : ∃ m, k = m + 1 := ⟨k - 1, by omega⟩
      simp only [laws_toIntS.l0]
      rw [if_pos (by omega), if_pos hi, if_pos (by omega), w64 (by omega) (by omega)]
      refine ih k _ (i + 1) (by omega) (by omega) (by omega) (by rw [List.length_set]; exact h3) ?_
      rw [show (i + 1).toNat = i.toNat + 1 by omega, List.take_succ_eq_append_getElem (by rw [List.length_set]; omega), List.take_succ_eq_append_getElem (show i.toNat < a.length by omega), List.take_set_of_le (by omega), h4, rd_at hi (by omega)]
      simp
  exact key a.length k _ 0 (by omega) (by omega) hk (by simp) (by simp)
theorem c_toCorIn {k : Nat} {a b : Bool} {x y : Int} {r : List Int} (hr : r.length < k) (hr' : r.length ≤ 35184372088832) :
    laws_toCorIn.f k a b x y r = some (a, b, x, y, r) := by
  unfold laws_toCorIn.f
  rw [c_toIntS hr hr']; rfl
theorem c_impl_WrdOk (a : Int) : impl_WrdOk.f a = some (decide (0 ≤ a ∧ a < 65536)) := by
  unfold impl_WrdOk.f
  by_cases h : 0 ≤ a
  · rw [if_pos (by omega)]; simp [h]
  · rw [if_neg (by omega)]; simp [h]
theorem c_impl_placeOk (a : Int) : impl_placeOk.f a = some (decide (0 ≤ a ∧ a < 256)) := by
  unfold impl_placeOk.f
  by_cases h : 0 ≤ a
  · rw [if_pos (by omega)]; simp [h]
  · rw [if_neg (by omega)]; simp [h]
/-- inputs are ok -/
def inOk (lay : Bool) (at_ n : Int) (picks : List Int) : Bool :=
  decide (picks.length ≤ 2) && (picks.all (fun x => decide (0 ≤ x)) && if lay = true then decide (0 ≤ at_ ∧ at_ < 256) && decide (0 ≤ n ∧ n < 65536) else decide (at_ = 0) && decide (n = 0))
theorem all_drop {l : List Int} {i : Int} (h0 : 0 ≤ i) (h1 : i < l.length) : (l.drop i.toNat).all (fun x => decide (0 ≤ x)) = (decide (0 ≤ rd l i) && (l.drop (i + 1).toNat).all (fun x => decide (0 ≤ x))) := by
  rw [List.drop_eq_getElem_cons (show i.toNat < l.length by omega), List.all_cons, rd_at h0 h1, show (i + 1).toNat = i.toNat + 1 by omega]
theorem c_impl_InOk {k : Nat} {ring lay : Bool} {a n : Int} {l : List Int} (hk : 2 < k) : impl_InOk.f k ring lay a n l = some (inOk lay a n l) := by
  unfold impl_InOk.f inOk
  by_cases hl : l.length ≤ 2
  · rw [if_neg (by omega), decide_eq_true hl, Bool.true_and]
    have key : ∀ (d k : Nat) (i : Int), 0 ≤ i → (l.length : Int) - i = d → d < k → impl_InOk.l0 k l (l.length : Int) i ring lay a n l = some ((l.drop i.toNat).all (fun x => decide (0 ≤ x)) && if lay = true then decide (0 ≤ a ∧ a < 256) && decide (0 ≤ n ∧ n < 65536) else decide (a = 0) && decide (n = 0)) := by
      intro d
      induction d with
      | zero =>
        intro k i h0 h1 h2
        obtain ⟨k, rfl⟩ : ∃ m, k = m + 1 := ⟨k - 1, by omega⟩
        simp only [impl_InOk.l0]
        rw [if_neg (by omega), List.drop_of_length_le (by omega), List.all_nil, Bool.true_and]
        cases lay
        · simp only [Bool.false_eq_true, if_false]
          by_cases h : a = 0
          · rw [if_pos h, decide_eq_true h, Bool.true_and]; rfl
          · rw [if_neg h, decide_eq_false h]; rfl
        · simp only [if_true, c_impl_placeOk, c_impl_WrdOk, Option.bind_some]
          cases h : decide (0 ≤ a ∧ a < 256)
          · rfl
          · rfl
      | succ d ih =>
        intro k i h0 h1 h2
        obtain ⟨k, rfl⟩ : ∃ m, k = m + 1 := ⟨k - 1, by omega⟩
        simp only [impl_InOk.l0]
        rw [if_pos (by omega), if_pos h0, if_pos (by omega), w64 (by omega) (by omega), ih k (i + 1) (by omega) (by omega) (by omega), all_drop h0 (by omega)]
        by_cases h : 0 ≤ rd l i
        · rw [if_neg (by omega), decide_eq_true h, Bool.true_and]
        · rw [if_pos (by omega), decide_eq_false h, Bool.false_and, Bool.false_and]
    have := key l.length k 0 (by omega) (by omega) (by omega)
    simpa using this
  · rw [if_pos (by omega), decide_eq_false hl]; rfl
theorem FnExactInOk : ∀ (a b : Bool) (x y : Int) (r : List Int), (Lit.int .i64 x).wf = true → (Lit.int .i64 y).wf = true → r.length ≤ maxLen → (∀ x ∈ r, (Lit.int .i64 x).wf = true) → ∃ k, laws_FnExactInOk.f k a b x y r = some true := by
  intro a b x y r _ _ hr _
  refine ⟨1048577, ?_⟩
  simp only [maxLen] at hr
  unfold laws_FnExactInOk.f
  rcases c_szCorIn (a := a) (b := b) (x := x) (y := y) (r := r) (by omega) with e | ⟨⟨n, e, hn⟩, hs⟩
  · rw [e]; rfl
  · rw [e]; simp only [Option.bind_some]
    rw [if_neg (by omega), c_toCorIn (by omega) (by omega)]; simp only [Option.bind_some]
    rw [c_spec_InOk (by omega), c_impl_InOk (by omega)]; simp only [Option.bind_some]
    rw [if_neg (by simp [inOk]), c_eqCorIn_self (by omega) (by omega)]; rfl
end Go.Proofs.Ytdpgomcdacmhkaa.Pure
