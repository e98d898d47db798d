/- Small functions of the reference and of the program: whether numbers are words, places, among some. -/
import Derived.Test.YtiemacjmipiakaaNmA
namespace Go.Proofs.Ytiemacjmipiakaa.Nm
open Go.RowKit Go.Proofs.Ytiemacjmipiakaa.Hw
set_option linter.unusedVariables false
set_option linter.unusedSimpArgs false
theorem in61 (n lo hi : Int) (b : Bool) (hb : b = true ↔ lo ≤ n ∧ n ≤ hi) (w : World) : Calls Try.prog 61 #[.int .i64 n, .int .i64 lo, .int .i64 hi] w fun e w' => e = .returned (.bool b) ∧ w = w' := by
  by_cases h1 : lo ≤ n
  · by_cases h2 : n ≤ hi
    · obtain rfl : b = true := hb.mpr ⟨h1, h2⟩
      clear hb
      go_enter Try.func61, Try.ntmps61
      go_wp2
      go_ret
      exact ⟨rfl, rfl⟩
    · obtain rfl : b = false := Bool.eq_false_iff.mpr (fun h => h2 (hb.mp h).2)
      clear hb
      go_enter Try.func61, Try.ntmps61
      go_wp2
      go_ret
      exact ⟨rfl, rfl⟩
  · obtain rfl : b = false := Bool.eq_false_iff.mpr (fun h => h1 (hb.mp h).1)
    clear hb
    go_enter Try.func61, Try.ntmps61
    go_wp2
    go_ret
    exact ⟨rfl, rfl⟩
theorem word72 (n : Int) (b : Bool) (hb : b = true ↔ 0 ≤ n ∧ n ≤ 65535) (w : World) : Calls Try.prog 72 #[.int .i64 n] w fun e w' => e = .returned (.bool b) ∧ w = w' := by
  go_enter Try.func72, Try.ntmps72
  go_wp2_with fail
  ((with_reducible refine (in61 n 0 65535 b hb _).mono ?_); rintro e w' ⟨rfl, rfl⟩)
  go_wp2_with fail
  go_ret
  exact ⟨rfl, rfl⟩
theorem phy54 (n : Int) (b : Bool) (hb : b = true ↔ 0 ≤ n ∧ n ≤ 19) (w : World) : Calls Try.prog 54 #[.int .i64 n] w fun e w' => e = .returned (.bool b) ∧ w = w' := by
  go_enter Try.func54, Try.ntmps54
  go_wp2_with fail
  ((with_reducible refine (in61 n 0 19 b hb _).mono ?_); rintro e w' ⟨rfl, rfl⟩)
  go_wp2_with fail
  go_ret
  exact ⟨rfl, rfl⟩
theorem reg53 (n : Int) (b : Bool) (hb : b = true ↔ 0 ≤ n ∧ n ≤ 7) (w : World) : Calls Try.prog 53 #[.int .i64 n] w fun e w' => e = .returned (.bool b) ∧ w = w' := by
  go_enter Try.func53, Try.ntmps53
  go_wp2_with fail
  ((with_reducible refine (in61 n 0 7 b hb _).mono ?_); rintro e w' ⟨rfl, rfl⟩)
  go_wp2_with fail
  go_ret
  exact ⟨rfl, rfl⟩
theorem word67 (n : Int) (b : Bool) (hb : b = true ↔ 0 ≤ n ∧ n < 65536) (w : World) : Calls Try.prog 67 #[.int .i64 n] w fun e w' => e = .returned (.bool b) ∧ w = w' := by
  by_cases h1 : 0 ≤ n
  · by_cases h2 : n < 65536
    · obtain rfl : b = true := hb.mpr ⟨h1, h2⟩
      clear hb
      go_enter Try.func67, Try.ntmps67
      go_wp2
      go_ret
      exact ⟨rfl, rfl⟩
    · obtain rfl : b = false := Bool.eq_false_iff.mpr (fun h => h2 (hb.mp h).2)
      clear hb
      go_enter Try.func67, Try.ntmps67
      go_wp2
      go_ret
      exact ⟨rfl, rfl⟩
  · obtain rfl : b = false := Bool.eq_false_iff.mpr (fun h => h1 (hb.mp h).1)
    clear hb
    go_enter Try.func67, Try.ntmps67
    go_wp2
    go_ret
    exact ⟨rfl, rfl⟩
theorem phy52 (n : Int) (b : Bool) (hb : b = true ↔ 0 ≤ n ∧ n < 20) (w : World) : Calls Try.prog 52 #[.int .i64 n] w fun e w' => e = .returned (.bool b) ∧ w = w' := by
  by_cases h1 : 0 ≤ n
  · by_cases h2 : n < 20
    · obtain rfl : b = true := hb.mpr ⟨h1, h2⟩
      clear hb
      go_enter Try.func52, Try.ntmps52
      go_wp2
      go_ret
      exact ⟨rfl, rfl⟩
    · obtain rfl : b = false := Bool.eq_false_iff.mpr (fun h => h2 (hb.mp h).2)
      clear hb
      go_enter Try.func52, Try.ntmps52
      go_wp2
      go_ret
      exact ⟨rfl, rfl⟩
  · obtain rfl : b = false := Bool.eq_false_iff.mpr (fun h => h1 (hb.mp h).1)
    clear hb
    go_enter Try.func52, Try.ntmps52
    go_wp2
    go_ret
    exact ⟨rfl, rfl⟩
theorem reg63 (n : Int) (b : Bool) (hb : b = true ↔ 0 < n ∧ n < 8) (w : World) : Calls Try.prog 63 #[.int .i64 n] w fun e w' => e = .returned (.bool b) ∧ w = w' := by
  by_cases h1 : 0 < n
  · by_cases h2 : n < 8
    · obtain rfl : b = true := hb.mpr ⟨h1, h2⟩
      clear hb
      go_enter Try.func63, Try.ntmps63
      go_wp2
      go_ret
      exact ⟨rfl, rfl⟩
    · obtain rfl : b = false := Bool.eq_false_iff.mpr (fun h => h2 (hb.mp h).2)
      clear hb
      go_enter Try.func63, Try.ntmps63
      go_wp2
      go_ret
      exact ⟨rfl, rfl⟩
  · obtain rfl : b = false := Bool.eq_false_iff.mpr (fun h => h1 (hb.mp h).1)
    clear hb
    go_enter Try.func63, Try.ntmps63
    go_wp2
    go_ret
    exact ⟨rfl, rfl⟩
set_option maxHeartbeats 1000000 in
theorem words47 (v : Value) (l : List Int) (many : Int) (b : Bool) (hb : b = true ↔ (∀ x ∈ l, 0 ≤ x ∧ x ≤ 65535) ∧ (l.length : Int) = many) (w : World) (h : Rd (Value.int .i64) w v l) :
    Calls Try.prog 47 #[v, .int .i64 many] w fun e w' => e = .returned (.bool b) ∧ Dr w w' := by
  obtain ⟨A, c, rfl, hc, hm, hr⟩ := h
  have HR := Lib.hid hr; clear hr
  have HB := Lib.hid hb; clear hb
  go_enter Try.func47, Try.ntmps47
  go_wp2
  go_loopw [5] (fun i wr => ∃ k : Nat, k ≤ l.length ∧ i = .int .i64 k ∧ Hid (∀ j (hj : j < l.length), j < k → 0 ≤ l[j] ∧ l[j] ≤ 65535) ∧ Hid (Dr w wr)) (fun i _ => l.length - (intOf i).toNat)
  case atStart => exact ⟨0, Nat.zero_le _, rfl, Lib.hid (fun j _ h => absurd h (Nat.not_lt_zero _)), Dr.refl _⟩
  case round =>
    obtain ⟨k, hk, rfl, HA, HD⟩ := hrel
    by_cases hlt : k < l.length
    · obtain ⟨ad, rfl, hcell⟩ := HR.out (by omega)
      have e1 := (HD.out.cell _).trans (hcell k _ (List.getElem?_eq_getElem hlt))
      clear hcell
      by_cases hw : 0 ≤ l[k] ∧ l[k] ≤ 65535
      · have HA' : Hid (∀ j (hj : j < l.length), j < k + 1 → 0 ≤ l[j] ∧ l[j] ≤ 65535) := Lib.hid (fun j hj h => by
          rcases Nat.lt_succ_iff_lt_or_eq.mp h with h | rfl
          · exact HA.out j hj h
          · exact hw)
        have hw' := Lib.hid hw
        clear hw HR
        generalize l[k] = x at e1 hw'
        go_wp2_with fail
        ((with_reducible refine (word72 x true (by simp; exact hw'.out) _).mono ?_); rintro e w' ⟨rfl, rfl⟩)
        go_wp2_with fail
        go_roundw
        case rel => exact ⟨k + 1, by omega, by go_num, HA', HD⟩
        case measure => simp [intOf]; omega
      · have hw' := Lib.hid hw
        obtain rfl : b = false := Bool.eq_false_iff.mpr (fun h => hw ((HB.out.mp h).1 _ (List.getElem_mem hlt)))
        clear hw HR HB
        generalize l[k] = x at e1 hw'
        go_wp2_with fail
        ((with_reducible refine (word72 x false (by simp only [Bool.false_eq_true, false_iff]; exact hw'.out) _).mono ?_); rintro e w' ⟨rfl, rfl⟩)
        go_wp2_with fail
        go_ret
        exact ⟨rfl, HD.out⟩
    · have ha : ∀ x ∈ l, 0 ≤ x ∧ x ≤ 65535 := fun x hx => by
        obtain ⟨j, hj, rfl⟩ := List.mem_iff_getElem.mp hx
        exact HA.out j hj (by omega)
      by_cases hl : (l.length : Int) = many
      · obtain rfl : b = true := HB.out.mpr ⟨ha, hl⟩
        subst hl
        clear ha HB HR
        go_wp2
        go_ret
        exact ⟨rfl, HD.out⟩
      · obtain rfl : b = false := Bool.eq_false_iff.mpr (fun h => hl (HB.out.mp h).2)
        have hl' : ((l.length : Int) == many) = false := beq_eq_false_iff_ne.mpr hl
        clear ha HB HR hl
        go_wp2
        go_ret
        exact ⟨rfl, HD.out⟩
set_option maxHeartbeats 1000000 in
theorem words51 (v : Value) (l : List Int) (b : Bool) (hb : b = true ↔ (∀ x ∈ l, 0 ≤ x ∧ x ≤ 65535)) (w : World) (h : Rd (Value.int .i64) w v l) :
    Calls Try.prog 51 #[v] w fun e w' => e = .returned (.bool b) ∧ Dr w w' := by
  obtain ⟨A, c, rfl, hc, hm, hr⟩ := h
  have HR := Lib.hid hr; clear hr
  have HB := Lib.hid hb; clear hb
  go_enter Try.func51, Try.ntmps51
  go_wp2
  go_loopw [7] (fun i wr => ∃ k : Nat, k ≤ l.length ∧ i = .int .i64 k ∧ Hid (∀ j (hj : j < l.length), j < k → 0 ≤ l[j] ∧ l[j] ≤ 65535) ∧ Hid (Dr w wr)) (fun i _ => l.length - (intOf i).toNat)
  case atStart => exact ⟨0, Nat.zero_le _, rfl, Lib.hid (fun j _ h => absurd h (Nat.not_lt_zero _)), Dr.refl _⟩
  case round =>
    obtain ⟨k, hk, rfl, HA, HD⟩ := hrel
    by_cases hlt : k < l.length
    · obtain ⟨ad, rfl, hcell⟩ := HR.out (by omega)
      have e1 := (HD.out.cell _).trans (hcell k _ (List.getElem?_eq_getElem hlt))
      clear hcell
      by_cases hw : 0 ≤ l[k] ∧ l[k] ≤ 65535
      · have HA' : Hid (∀ j (hj : j < l.length), j < k + 1 → 0 ≤ l[j] ∧ l[j] ≤ 65535) := Lib.hid (fun j hj h => by
          rcases Nat.lt_succ_iff_lt_or_eq.mp h with h | rfl
          · exact HA.out j hj h
          · exact hw)
        have hw' := Lib.hid hw
        clear hw HR
        generalize l[k] = x at e1 hw'
        go_wp2_with fail
        ((with_reducible refine (word67 x true (by have := hw'.out; constructor <;> intro _ <;> first | rfl | omega | (rename_i q; first | cases q | omega)) _).mono ?_); rintro e w' ⟨rfl, rfl⟩)
        go_wp2_with fail
        go_roundw
        case rel => exact ⟨k + 1, by omega, by go_num, HA', HD⟩
        case measure => simp [intOf]; omega
      · have hw' := Lib.hid hw
        obtain rfl : b = false := Bool.eq_false_iff.mpr (fun h => hw (HB.out.mp h _ (List.getElem_mem hlt)))
        clear hw HR HB
        generalize l[k] = x at e1 hw'
        go_wp2_with fail
        ((with_reducible refine (word67 x false (by have := hw'.out; constructor <;> intro _ <;> first | rfl | omega | (rename_i q; first | cases q | omega)) _).mono ?_); rintro e w' ⟨rfl, rfl⟩)
        go_wp2_with fail
        go_ret
        exact ⟨rfl, HD.out⟩
    · have ha : ∀ x ∈ l, 0 ≤ x ∧ x ≤ 65535 := fun x hx => by
        obtain ⟨j, hj, rfl⟩ := List.mem_iff_getElem.mp hx
        exact HA.out j hj (by omega)
      obtain rfl : b = true := HB.out.mpr ha
      clear ha HB HR
      go_wp2
      go_ret
      exact ⟨rfl, HD.out⟩
set_option maxHeartbeats 1000000 in
theorem has55 (v : Value) (l : List Int) (n : Int) (b : Bool) (hb : b = true ↔ n ∈ l) (w : World) (h : Rd (Value.int .i64) w v l) :
    Calls Try.prog 55 #[v, .int .i64 n] w fun e w' => e = .returned (.bool b) ∧ Dr w w' := by
  obtain ⟨A, c, rfl, hc, hm, hr⟩ := h
  have HR := Lib.hid hr; clear hr
  have HB := Lib.hid hb; clear hb
  go_enter Try.func55, Try.ntmps55
  go_wp2
  go_loopw [5] (fun i wr => ∃ k : Nat, k ≤ l.length ∧ i = .int .i64 k ∧ Hid (∀ j (hj : j < l.length), j < k → l[j] ≠ n) ∧ Hid (Dr w wr)) (fun i _ => l.length - (intOf i).toNat)
  case atStart => exact ⟨0, Nat.zero_le _, rfl, Lib.hid (fun j _ h => absurd h (Nat.not_lt_zero _)), Dr.refl _⟩
  case round =>
    obtain ⟨k, hk, rfl, HA, HD⟩ := hrel
    by_cases hlt : k < l.length
    · obtain ⟨ad, rfl, hcell⟩ := HR.out (by omega)
      have e1 := (HD.out.cell _).trans (hcell k _ (List.getElem?_eq_getElem hlt))
      clear hcell
      by_cases hw : l[k] = n
      · obtain rfl : b = true := HB.out.mpr (hw ▸ List.getElem_mem hlt)
        have ht : ((l[k] : Int) == n) = true := beq_iff_eq.mpr hw
        clear hw HR HB
        generalize l[k] = x at e1 ht
        go_wp2
        go_ret
        exact ⟨rfl, HD.out⟩
      · have HA' : Hid (∀ j (hj : j < l.length), j < k + 1 → l[j] ≠ n) := Lib.hid (fun j hj h => by
          rcases Nat.lt_succ_iff_lt_or_eq.mp h with h | rfl
          · exact HA.out j hj h
          · exact hw)
        have ht : ((l[k] : Int) == n) = false := beq_eq_false_iff_ne.mpr hw
        clear hw HR
        generalize l[k] = x at e1 ht
        go_wp2
        go_roundw
        case rel => exact ⟨k + 1, by omega, by go_num, HA', HD⟩
        case measure => simp [intOf]; omega
    · obtain rfl : b = false := Bool.eq_false_iff.mpr (fun h => by
        obtain ⟨j, hj, rfl⟩ := List.mem_iff_getElem.mp (HB.out.mp h)
        exact HA.out j hj (by omega) rfl)
      clear HB HR
      go_wp2
      go_ret
      exact ⟨rfl, HD.out⟩
set_option maxHeartbeats 1000000 in
theorem has37 (v : Value) (l : List Int) (n : Int) (b : Bool) (hb : b = true ↔ n ∈ l) (w : World) (h : Rd (Value.int .i64) w v l) :
    Calls Try.prog 37 #[v, .int .i64 n] w fun e w' => e = .returned (.bool b) ∧ Dr w w' := by
  obtain ⟨A, c, rfl, hc, hm, hr⟩ := h
  have HR := Lib.hid hr; clear hr
  have HB := Lib.hid hb; clear hb
  go_enter Try.func37, Try.ntmps37
  go_wp2
  go_loopw [5] (fun i wr => ∃ k : Nat, k ≤ l.length ∧ i = .int .i64 k ∧ Hid (∀ j (hj : j < l.length), j < k → l[j] ≠ n) ∧ Hid (Dr w wr)) (fun i _ => l.length - (intOf i).toNat)
  case atStart => exact ⟨0, Nat.zero_le _, rfl, Lib.hid (fun j _ h => absurd h (Nat.not_lt_zero _)), Dr.refl _⟩
  case round =>
    obtain ⟨k, hk, rfl, HA, HD⟩ := hrel
    by_cases hlt : k < l.length
    · obtain ⟨ad, rfl, hcell⟩ := HR.out (by omega)
      have e1 := (HD.out.cell _).trans (hcell k _ (List.getElem?_eq_getElem hlt))
      clear hcell
      by_cases hw : l[k] = n
      · obtain rfl : b = true := HB.out.mpr (hw ▸ List.getElem_mem hlt)
        have ht : ((l[k] : Int) == n) = true := beq_iff_eq.mpr hw
        clear hw HR HB
        generalize l[k] = x at e1 ht
        go_wp2
        go_ret
        exact ⟨rfl, HD.out⟩
      · have HA' : Hid (∀ j (hj : j < l.length), j < k + 1 → l[j] ≠ n) := Lib.hid (fun j hj h => by
          rcases Nat.lt_succ_iff_lt_or_eq.mp h with h | rfl
          · exact HA.out j hj h
          · exact hw)
        have ht : ((l[k] : Int) == n) = false := beq_eq_false_iff_ne.mpr hw
        clear hw HR
        generalize l[k] = x at e1 ht
        go_wp2
        go_roundw
        case rel => exact ⟨k + 1, by omega, by go_num, HA', HD⟩
        case measure => simp [intOf]; omega
    · obtain rfl : b = false := Bool.eq_false_iff.mpr (fun h => by
        obtain ⟨j, hj, rfl⟩ := List.mem_iff_getElem.mp (HB.out.mp h)
        exact HA.out j hj (by omega) rfl)
      clear HB HR
      go_wp2
      go_ret
      exact ⟨rfl, HD.out⟩
end Go.Proofs.Ytiemacjmipiakaa.Nm
