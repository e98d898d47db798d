/- Whether a place is held, and whether places are apart. -/
import Derived.Test.YtiemacjmipiakaaNmD
import Derived.Test.YtiemacjmipiakaaNmB
namespace Go.Proofs.Ytiemacjmipiakaa.Nm
open Go.RowKit Go.Proofs.Ytiemacjmipiakaa.Hw
set_option linter.unusedVariables false
set_option linter.unusedSimpArgs false
/-- A place is returned. -/
def SomeIx (w : World) (e : Ending) (w' : World) : Prop := ∃ k : Nat, e = .returned (.int .i64 k) ∧ (k : Int) ≤ 9223372036854775807 ∧ Dr w w'
set_option maxHeartbeats 1000000 in
theorem ix82y (v : Value) (l : List Int) (n : Int) (hn : n ∈ l) (w : World) (h : Rd (Value.int .i64) w v l) :
    Calls Try.prog 82 #[v, .int .i64 n] w (SomeIx w) := by
  obtain ⟨A, c, rfl, hc, hm, hr⟩ := h
  have HR := Lib.hid hr; clear hr
  have HN := Lib.hid hn; clear hn
  go_enter Try.func82, Try.ntmps82
  go_wp2
  go_loopw [8] (fun i wr => ∃ k : Nat, k ≤ l.length ∧ i = .int .i64 k ∧ Hid (∀ j (hj : j < l.length), j < k → l[j] ≠ n) ∧ Hid (Dr w wr)) (fun i _ => l.length - (intOf i).toNat)
  case atStart => exact ⟨0, Nat.zero_le _, rfl, Lib.hid (fun j _ h => absurd h (Nat.not_lt_zero _)), Dr.refl _⟩
  case round =>
    obtain ⟨k, hk, rfl, HA, HD⟩ := hrel
    by_cases hlt : k < l.length
    · obtain ⟨ad, rfl, hcell⟩ := HR.out (by omega)
      have e1 := (HD.out.cell _).trans (hcell k _ (List.getElem?_eq_getElem hlt))
      clear hcell
      by_cases hw : l[k] = n
      · have ht : ((n : Int) == l[k]) = true := beq_iff_eq.mpr hw.symm
        clear hw HR
        generalize l[k] = x at e1 ht
        go_wp2
        go_ret
        exact ⟨k, rfl, by omega, HD.out⟩
      · have HA' : Hid (∀ j (hj : j < l.length), j < k + 1 → l[j] ≠ n) := Lib.hid (fun j hj h => by
          rcases Nat.lt_succ_iff_lt_or_eq.mp h with h | rfl
          · exact HA.out j hj h
          · exact hw)
        have ht : ((n : Int) == l[k]) = false := beq_eq_false_iff_ne.mpr (fun h => hw h.symm)
        clear hw HR
        generalize l[k] = x at e1 ht
        go_wp2
        go_roundw
        case rel => exact ⟨k + 1, by omega, by go_num, HA', HD⟩
        case measure => simp [intOf]; omega
    · exfalso
      obtain ⟨j, hj, hx⟩ := List.mem_iff_getElem.mp HN.out
      exact HA.out j hj (by omega) hx
set_option maxHeartbeats 1000000 in
theorem ix82n (v : Value) (l : List Int) (n : Int) (hn : ¬ n ∈ l) (w : World) (h : Rd (Value.int .i64) w v l) :
    Calls Try.prog 82 #[v, .int .i64 n] w fun e w' => e = .returned (.int .i64 (-1)) ∧ Dr w w' := by
  obtain ⟨A, c, rfl, hc, hm, hr⟩ := h
  have HR := Lib.hid hr; clear hr
  have HN := Lib.hid hn; clear hn
  go_enter Try.func82, Try.ntmps82
  go_wp2
  go_loopw [8] (fun i wr => ∃ k : Nat, k ≤ l.length ∧ i = .int .i64 k ∧ Hid (∀ j (hj : j < l.length), j < k → l[j] ≠ n) ∧ Hid (Dr w wr)) (fun i _ => l.length - (intOf i).toNat)
  case atStart => exact ⟨0, Nat.zero_le _, rfl, Lib.hid (fun j _ h => absurd h (Nat.not_lt_zero _)), Dr.refl _⟩
  case round =>
    obtain ⟨k, hk, rfl, HA, HD⟩ := hrel
    by_cases hlt : k < l.length
    · obtain ⟨ad, rfl, hcell⟩ := HR.out (by omega)
      have e1 := (HD.out.cell _).trans (hcell k _ (List.getElem?_eq_getElem hlt))
      clear hcell
      by_cases hw : l[k] = n
      · exact absurd (hw ▸ List.getElem_mem hlt) HN.out
      · have HA' : Hid (∀ j (hj : j < l.length), j < k + 1 → l[j] ≠ n) := Lib.hid (fun j hj h => by
          rcases Nat.lt_succ_iff_lt_or_eq.mp h with h | rfl
          · exact HA.out j hj h
          · exact hw)
        have ht : ((n : Int) == l[k]) = false := beq_eq_false_iff_ne.mpr (fun h => hw h.symm)
        clear hw HR
        generalize l[k] = x at e1 ht
        go_wp2
        go_roundw
        case rel => exact ⟨k + 1, by omega, by go_num, HA', HD⟩
        case measure => simp [intOf]; omega
    · clear HR
      go_wp2
      go_ret
      exact ⟨rfl, HD.out⟩
theorem has73 (v : Value) (l : List Int) (n : Int) (b : Bool) (hb : b = true ↔ n ∈ l) (w : World) (h : Rd (Value.int .i64) w v l) :
    Calls Try.prog 73 #[v, .int .i64 n] w fun e w' => e = .returned (.bool b) ∧ Dr w w' := by
  have H := Lib.hid h
  obtain ⟨A, c, rfl, _, _, _⟩ := h
  by_cases hn : n ∈ l
  · obtain rfl : b = true := hb.mpr hn
    have HN := Lib.hid hn
    clear hb hn
    go_enter Try.func73, Try.ntmps73
    go_wp2_with fail
    ((with_reducible refine (ix82y _ l n HN.out _ H.out).mono ?_); rintro e w' ⟨k, rfl, hk, hd⟩)
    have HD := Lib.hid hd
    clear hd
    go_wp2_with fail
    go_ret
    exact ⟨by simp, HD.out⟩
  · obtain rfl : b = false := Bool.eq_false_iff.mpr (fun h => hn (hb.mp h))
    have HN := Lib.hid hn
    clear hb hn
    go_enter Try.func73, Try.ntmps73
    go_wp2_with fail
    ((with_reducible refine (ix82n _ l n HN.out _ H.out).mono ?_); rintro e w' ⟨rfl, hd⟩)
    have HD := Lib.hid hd
    clear hd
    go_wp2_with fail
    go_ret
    exact ⟨rfl, HD.out⟩
theorem held57 (V : Sv) (s : St) (p : Int) (b : Bool) (hb : b = true ↔ p ∈ s.m ∨ p ∈ s.f) (w : World) (h : RdS w V s) :
    Calls Try.prog 57 #[V.agg, .int .i64 p] w fun e w' => e = .returned (.bool b) ∧ Below w.heap.size w w' := by
  have H := Lib.hid h
  obtain ⟨A, c, A2, c2, A3, c3, A4, c4, rfl⟩ := h.form
  clear h
  have HB := Lib.hid hb; clear hb
  by_cases hn : p ∈ s.m
  · obtain rfl : b = true := HB.out.mpr (.inl hn)
    have HN := Lib.hid hn
    clear hn
    go_enter Try.func57, Try.ntmps57
    go_wp2_with fail
    have hb := Lib.hid (bl_alloc (bl_refl w) (.cells #[.slice A s.m.length c, .slice A2 s.f.length c2, .slice A3 s.v.length c3, .slice A4 s.h.length c4] 25))
    ((with_reducible refine (has73 _ s.m p true (by simp [HN.out]) _ (H.out.m.below hb.out)).mono ?_); rintro e w' ⟨rfl, n, rfl⟩)
    go_wp2_with fail
    go_ret
    exact ⟨rfl, bl_drewN hb.out _⟩
  · have HN := Lib.hid hn
    have HB' : Hid (b = true ↔ p ∈ s.f) := Lib.hid (HB.out.trans (or_iff_right hn))
    clear hn HB
    go_enter Try.func57, Try.ntmps57
    go_wp2_with fail
    have hb := Lib.hid (bl_alloc (bl_refl w) (.cells #[.slice A s.m.length c, .slice A2 s.f.length c2, .slice A3 s.v.length c3, .slice A4 s.h.length c4] 25))
    ((with_reducible refine (has73 _ s.m p false (by simp [HN.out]) _ (H.out.m.below hb.out)).mono ?_); rintro e w' ⟨rfl, n, rfl⟩)
    go_wp2_with fail
    ((with_reducible refine (has73 _ s.f p b HB'.out _ (H.out.f.below (bl_drewN hb.out _))).mono ?_); rintro e w' ⟨rfl, n2, rfl⟩)
    go_wp2_with fail
    go_ret
    exact ⟨rfl, by repeat (first | exact hb.out | refine bl_drewN ?_ _)⟩
/-- Places, each once. -/
def Apart (l : List Int) : Prop := l.Nodup ∧ ∀ x ∈ l, 0 ≤ x ∧ x ≤ 19
theorem apart_take_succ (l : List Int) (k : Nat) (hk : k < l.length) : Apart (l.take (k + 1)) ↔ Apart (l.take k) ∧ (0 ≤ l[k] ∧ l[k] ≤ 19) ∧ ¬ l[k] ∈ l.take k := by
  rw [List.take_succ_eq_append_getElem hk]
  constructor
  · rintro ⟨h1, h2⟩
    rw [List.nodup_append] at h1
    refine ⟨⟨h1.1, fun x hx => h2 x (List.mem_append_left _ hx)⟩, h2 _ (List.mem_append_right _ (List.mem_singleton.mpr rfl)), fun h => h1.2.2 _ h _ (List.mem_singleton.mpr rfl) rfl⟩
  · rintro ⟨⟨h1, h2⟩, h3, h4⟩
    refine ⟨List.nodup_append.mpr ⟨h1, by simp, fun a ha b hb e => h4 (by rw [List.mem_singleton] at hb; subst hb; subst e; exact ha)⟩, fun x hx => ?_⟩
    rcases List.mem_append.mp hx with hx | hx
    · exact h2 x hx
    · rw [List.mem_singleton] at hx; subst hx; exact h3
theorem apart_take (l : List Int) (k : Nat) (h : Apart l) : Apart (l.take k) := ⟨h.1.sublist (List.take_sublist k l), fun x hx => h.2 x (List.mem_of_mem_take hx)⟩
set_option maxHeartbeats 1000000 in
theorem apart48 (v : Value) (l : List Int) (b : Bool) (hb : b = true ↔ Apart l) (w : World) (h : Rd (Value.int .i64) w v l) :
    Calls Try.prog 48 #[v] w fun e w' => e = .returned (.bool b) ∧ Dr w w' := by
  have H := Lib.hid h
  obtain ⟨A, c, rfl, hc, hm, hr⟩ := h
  have HR := Lib.hid hr; clear hr
  have HB := Lib.hid hb; clear hb
  go_enter Try.func48, Try.ntmps48
  go_wp2
  go_loopw [3] (fun i wr => ∃ k : Nat, k ≤ l.length ∧ i = .int .i64 k ∧ Hid (Apart (l.take k)) ∧ Hid (Dr w wr)) (fun i _ => l.length - (intOf i).toNat)
  case atStart => exact ⟨0, Nat.zero_le _, rfl, Lib.hid ⟨by simp, by simp⟩, Dr.refl _⟩
  case round =>
    obtain ⟨k, hk, rfl, HA, HD⟩ := hrel
    by_cases hlt : k < l.length
    · obtain ⟨ad, rfl, hcell⟩ := HR.out (by omega)
      have e1 := (HD.out.cell _).trans (hcell k _ (List.getElem?_eq_getElem hlt))
      have HT := Lib.hid ((H.out.take k hk).dr HD.out)
      have HS := Lib.hid (apart_take_succ l k hlt)
      clear hcell HR
      by_cases hp : 0 ≤ l[k] ∧ l[k] ≤ 19
      · by_cases hq : l[k] ∈ l.take k
        · obtain rfl : b = false := Bool.eq_false_iff.mpr (fun h => (HS.out.mp (apart_take l (k + 1) (HB.out.mp h))).2.2 hq)
          have HP := Lib.hid hp
          have HQ := Lib.hid hq
          clear hp hq HB HS HA
          generalize l[k] = x at e1 HP HQ
          go_wp2
          go_quiet ((first | (go_at_call 54; exact Calls.quiet_of ((phy54 x true (by simp; exact HP.out) _).mono fun e w' ⟨he, hw⟩ => ⟨he, 0, hw.symm⟩)) | (go_at_call 55; exact Calls.quiet_of (has55 _ (l.take k) x true (by simp; exact HQ.out) _ (HT.out.drewN _)))))
          go_wp2
          go_ret
          exact ⟨rfl, HD.out.step _⟩
        · have HA' : Hid (Apart (l.take (k + 1))) := Lib.hid (HS.out.mpr ⟨HA.out, hp, hq⟩)
          have HP := Lib.hid hp
          have HQ := Lib.hid hq
          clear hp hq HS HA
          generalize l[k] = x at e1 HP HQ
          go_wp2
          go_quiet ((first | (go_at_call 54; exact Calls.quiet_of ((phy54 x true (by simp; exact HP.out) _).mono fun e w' ⟨he, hw⟩ => ⟨he, 0, hw.symm⟩)) | (go_at_call 55; exact Calls.quiet_of (has55 _ (l.take k) x false (by simp; exact HQ.out) _ (HT.out.drewN _)))))
          go_wp2
          go_roundw
          case rel => exact ⟨k + 1, by omega, by go_num, HA', HD.out.step _⟩
          case measure => simp [intOf]; omega
      · obtain rfl : b = false := Bool.eq_false_iff.mpr (fun h => hp (HS.out.mp (apart_take l (k + 1) (HB.out.mp h))).2.1)
        have HP := Lib.hid hp
        clear hp HB HS HA
        generalize l[k] = x at e1 HP
        go_wp2
        go_quiet ((first | (go_at_call 54; exact Calls.quiet_of ((phy54 x false (by simp only [Bool.false_eq_true, false_iff]; exact HP.out) _).mono fun e w' ⟨he, hw⟩ => ⟨he, 0, hw.symm⟩))))
        go_wp2
        go_ret
        exact ⟨rfl, HD.out.step _⟩
    · obtain rfl : b = true := HB.out.mpr (by have := HA.out; rwa [List.take_of_length_le (by omega)] at this)
      clear HB HR
      go_wp2
      go_ret
      exact ⟨rfl, HD.out⟩
end Go.Proofs.Ytiemacjmipiakaa.Nm
