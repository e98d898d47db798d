/- Whether places are ok, by the program. -/
import Derived.Test.YtiemacjmipiakaaNmG
namespace Go.Proofs.Ytiemacjmipiakaa.Nm
open Go.RowKit Go.Proofs.Ytiemacjmipiakaa.Hw
set_option linter.unusedVariables false
set_option linter.unusedSimpArgs false
/-- Which places have been seen. -/
def seenOf (l : List Int) : List Value := (List.range 20).map (fun (j : Nat) => Value.bool (decide ((j : Int) ∈ l)))
theorem seenOf_len (l : List Int) : (seenOf l).length = 20 := by simp [seenOf]
theorem seenOf_get (l : List Int) (j : Nat) (h : j < 20) : (seenOf l)[j]? = some (.bool (decide ((j : Int) ∈ l))) := by
  simp [seenOf, List.getElem?_map, List.getElem?_range h]
theorem seenOf_set (l : List Int) (j : Nat) (h : j < 20) : (seenOf l).set j (.bool true) = seenOf (l ++ [(j : Int)]) := by
  apply List.ext_getElem?
  intro i
  by_cases hi : i < 20
  · rw [List.getElem?_set, seenOf_get _ i hi]
    by_cases hij : j = i
    · subst hij; rw [if_pos rfl, seenOf_get _ j hi]; simp [seenOf_len, h]
    · rw [if_neg hij, seenOf_get _ i hi]
      have : ¬ ((i : Int) = j) := by omega
      simp [this]
  · rw [List.getElem?_eq_none (by simp [seenOf_len]; omega), List.getElem?_eq_none (by simp [seenOf_len]; omega)]
theorem seenOf_nil : (seenOf []).toArray = #[.bool false, .bool false, .bool false, .bool false, .bool false, .bool false, .bool false, .bool false, .bool false, .bool false, .bool false, .bool false, .bool false, .bool false, .bool false, .bool false, .bool false, .bool false, .bool false, .bool false] := by
  simp [seenOf, List.range, List.range.loop]
theorem apart_snoc (l : List Int) (x : Int) : Apart (l ++ [x]) ↔ Apart l ∧ (0 ≤ x ∧ x ≤ 19) ∧ ¬ x ∈ l := by
  have := apart_take_succ (l ++ [x]) l.length (by simp)
  rw [List.take_of_length_le (by simp)] at this
  simpa using this
theorem apart_prefix (l r : List Int) (h : Apart (l ++ r)) : Apart l := by
  have := apart_take (l ++ r) l.length h
  simpa using this
theorem flat_take (m f : List Int) (k : Nat) (h : k < 2) : (([m, f].take (k + 1)).flatten) = ([m, f].take k).flatten ++ [m, f][k] := by
  match k, h with
  | 0, _ => simp
  | 1, _ => simp
set_option maxHeartbeats 4000000 in
theorem ok22r (V : Sv) (s : St) (w : World) (h : RdS w V s) (hm : s.m.length = 8) (hh : s.h.length = 20) (hv : s.v.length = 20) (hw : ∀ x ∈ s.v, 0 ≤ x ∧ x ≤ 65535) (b : Bool) (hb : b = true ↔ OkS s) :
    Calls Try.prog 22 #[V.agg] w fun e w' => e = .returned (.bool b) ∧ Below w.heap.size w w' := by
  have H := Lib.hid h
  obtain ⟨A, c, A2, c2, A3, c3, A4, c4, hV⟩ := h.form
  subst hV
  have HW := Lib.hid hw
  have HM := Lib.hid hm
  have HH := Lib.hid hh
  have HV := Lib.hid hv
  have HB := Lib.hid hb
  have m1 : ((s.m.length : Int) != 8) = false := by rw [hm]; rfl
  have m2 : ((s.h.length : Int) != 20) = false := by rw [hh]; rfl
  have m3 : ((s.v.length : Int) != 20) = false := by rw [hv]; rfl
  clear h hm hh hv hw hb
  go_enter Try.func22, Try.ntmps22
  go_wp2_with fail
  obtain ⟨w0, hW, hb, k0, hz⟩ := bx1 w #[.slice A s.m.length c, .slice A2 s.f.length c2, .slice A3 s.v.length c3, .slice A4 s.h.length c4] 25
  rw [hW]; clear hW
  ((with_reducible refine (words51 _ s.v true (by simp only [true_iff]; exact HW.out) _ (H.out.v.below hb.out)).mono ?_); rintro e w' ⟨rfl, n, rfl⟩)
  have hb' := Lib.hid (bl_drewN hb.out n)
  replace k0 := Lib.hid (k0.out.drewN n)
  have hz' : Hid ((w0.drewN n).heap.size = w.heap.size + 1) := hz
  generalize w0.drewN n = w1 at hb' k0 hz' ⊢
  clear hb hz
  have e0 := k0.out.cell 0
  have e1 := k0.out.cell 1
  simp at e0 e1
  have hlt : w.heap.size < w1.heap.size := by have := hz'.out; omega
  go_wp2_with fail
  obtain ⟨w2, hW, hb2, k1, k2, hz2⟩ := bx2 w1 #[.bool false, .bool false, .bool false, .bool false, .bool false, .bool false, .bool false, .bool false, .bool false, .bool false, .bool false, .bool false, .bool false, .bool false, .bool false, .bool false, .bool false, .bool false, .bool false, .bool false] 57 #[.slice A s.m.length c, .slice A2 s.f.length c2] 22
  rw [hW]; clear hW
  rw [← seenOf_nil] at k1
  have hb3 := Lib.hid (bl_step hb'.out hb2.out)
  replace k0 := Lib.hid (k0.out.below hb2.out)
  have hg : Hid (w1.heap.size = w.heap.size + 1) := hz'
  clear hb2 hb' e0 e1 m1 m2 m3 hz' hlt
  generalize w1.heap.size = g at k1 k2 hz2 hg ⊢
  go_loopw [36] (fun i wr => ∃ k : Nat, k ≤ 2 ∧ i = .int .i64 k ∧ Hid (Apart (([s.m, s.f].take k).flatten)) ∧ Hid (Bk wr g (seenOf (([s.m, s.f].take k).flatten)).toArray 57) ∧ Hid (Fr (fun q => q = g) w2 wr)) (fun i _ => 2 - (intOf i).toNat)
  case atStart => exact ⟨0, by omega, rfl, Lib.hid ⟨by simp, by simp⟩, by simpa using k1, Fr.refl _ _⟩
  case round =>
    obtain ⟨k, hk, rfl, HA, HK, HF⟩ := hrel
    by_cases hlt : k < 2
    · obtain ⟨A', c', L, hL, hcell, hrd⟩ : ∃ A' c' L, L = [s.m, s.f][k] ∧ wr.cell? ⟨g + 1, k, none⟩ = some (.slice A' L.length c') ∧ Hid (Rd (Value.int .i64) w (.slice A' L.length c') L) := by
        have kk := k2.out.fr HF.out (by omega)
        match k, hlt with
        | 0, _ => exact ⟨A, c, s.m, rfl, by simpa using kk.cell 0, H.out.m⟩
        | 1, _ => exact ⟨A2, c2, s.f, rfl, by simpa using kk.cell 1, H.out.f⟩
      have HL := Lib.hid hL
      have hfl := Lib.hid (flat_take s.m s.f k hlt)
      have hll := hrd.out.len
      clear hL
      obtain ⟨P, hP⟩ : ∃ P, ([s.m, s.f].take k).flatten = P := ⟨_, rfl⟩
      rw [hP] at HA HK
      have HP := Lib.hid hP
      clear hP
      obtain ⟨wo, rfl⟩ : ∃ wo : World, wo = wr := ⟨_, rfl⟩
      have hlt2 : decide ((k : Int) < 2) = true := decide_eq_true (by omega)
      go_wp2
      go_loopw [42] (fun i wq => ∃ j : Nat, j ≤ L.length ∧ i = .int .i64 j ∧ Hid (Apart (P ++ L.take j)) ∧ Hid (Bk wq g (seenOf (P ++ L.take j)).toArray 57) ∧ Hid (Fr (fun q => q = g) w2 wq)) (fun i _ => L.length - (intOf i).toNat)
      case atStart => exact ⟨0, Nat.zero_le _, rfl, by simpa using HA, by simpa using HK, HF⟩
      case round =>
        clear HA HK HF hcell
        obtain ⟨j, hj, rfl, HA, HK, HF⟩ := hrel
        have HBl := Lib.hid (HF.out.below hb3.out hb3.out.size (fun q hq => by have := hg.out; omega))
        by_cases hjl : j < L.length
        · obtain ⟨A'', c'', e, _, _, hr⟩ := hrd.out
          obtain ⟨ad, ha, hx⟩ := hr (by omega)
          injection e with e1 _ e3
          subst e1 e3
          subst ha
          have hx1 := hx j _ (List.getElem?_eq_getElem hjl)
          have c1 := (HBl.out.cell (World.block_lt_of_cell? w _ hx1)).trans hx1
          have HS := Lib.hid (List.take_succ_eq_append_getElem hjl)
          have HT := Lib.hid (apart_snoc (P ++ L.take j) L[j])
          rw [List.append_assoc, ← HS.out] at HT
          have hbad : Hid (¬ Apart (P ++ L.take (j + 1)) → b = false) := Lib.hid (fun hn => Bool.eq_false_iff.mpr (fun hb => hn (by
            have h1 := (HB.out.mp hb).a
            have h2 : s.m ++ s.f = [s.m, s.f].flatten := by simp
            rw [h2, ← List.take_append_drop (k + 1) [s.m, s.f], List.flatten_append, hfl.out, HP.out, ← HL.out] at h1
            have h3 := apart_prefix _ _ h1
            rw [← List.take_append_drop (j + 1) L, ← List.append_assoc] at h3
            exact apart_prefix _ _ h3)))
          clear hx hr hx1 hrd
          by_cases hp : 0 ≤ L[j] ∧ L[j] ≤ 19
          · obtain ⟨n, hn⟩ := Int.eq_ofNat_of_zero_le hp.1
            have hn20 : n < 20 := by omega
            have c2' : wr.cell? ⟨g, n, none⟩ = some (.bool (decide ((n : Int) ∈ P ++ L.take j))) := (HK.out.cell n).trans (by rw [List.getElem?_toArray]; exact seenOf_get (P ++ L.take j) n hn20)
            have f2 := HK.out.frozen n
            rw [hn] at c1 HT
            have HN := Lib.hid hn
            have HP2 := Lib.hid hp
            clear hn hp
            by_cases hin : (n : Int) ∈ P ++ L.take j
            · obtain rfl : b = false := hbad.out (fun h => (HT.out.mp h).2.2 hin)
              rw [decide_eq_true hin] at c2'
              clear hin HT hbad HB HA HK HS
              go_wp2_with fail
              ((with_reducible refine (phy52 (n : Int) true (by simp; omega) _).mono ?_); rintro e w' ⟨rfl, rfl⟩)
              go_wp2_with fail
              go_ret
              exact ⟨rfl, HBl.out⟩
            · have HA' : Hid (Apart (P ++ L.take (j + 1))) := Lib.hid (HT.out.mpr ⟨HA.out, by rw [← HN.out]; exact HP2.out, hin⟩)
              have HK' := Lib.hid (HK.out.set n (.bool true))
              rw [List.setIfInBounds_toArray, seenOf_set _ n hn20, List.append_assoc, ← HN.out, ← HS.out] at HK'
              have HF' := Lib.hid (HF.out.trans (Fr.set (S := fun q => q = g) (p := ⟨g, n, none⟩) rfl (.bool true)))
              rw [decide_eq_false hin] at c2'
              clear hin HT hbad HB HA HK HS HF
              go_wp2_with fail
              ((with_reducible refine (phy52 (n : Int) true (by simp; omega) _).mono ?_); rintro e w' ⟨rfl, rfl⟩)
              go_wp2_with fail
              go_roundw
              case rel => exact ⟨j + 1, by omega, by go_num, HA', HK', HF'⟩
              case measure => simp [intOf]; omega
          · obtain rfl : b = false := hbad.out (fun h => hp (HT.out.mp h).2.1)
            have HP2 := Lib.hid hp
            clear hp HT hbad HB HA HK HS
            generalize L[j] = x at c1 HP2
            go_wp2_with fail
            ((with_reducible refine (phy52 x false (by simp only [Bool.false_eq_true, false_iff]; have := HP2.out; omega) _).mono ?_); rintro e w' ⟨rfl, rfl⟩)
            go_wp2_with fail
            go_ret
            exact ⟨rfl, HBl.out⟩
        · have HA' : Hid (Apart (([s.m, s.f].take (k + 1)).flatten)) := Lib.hid (by have := HA.out; rw [List.take_of_length_le (by omega)] at this; rw [hfl.out, HP.out, ← HL.out]; exact this)
          have HK' : Hid (Bk wr g (seenOf (([s.m, s.f].take (k + 1)).flatten)).toArray 57) := Lib.hid (by have := HK.out; rw [List.take_of_length_le (by omega)] at this; rw [hfl.out, HP.out, ← HL.out]; exact this)
          clear HA HK
          go_wp2
          go_roundw
          case rel => exact ⟨k + 1, by omega, by go_num, HA', HK', HF⟩
          case measure => simp [intOf]; omega
    · obtain rfl : k = 2 := by omega
      have HAp : Hid (Apart (s.m ++ s.f)) := Lib.hid (by have := HA.out; simpa using this)
      have HBl := Lib.hid (HF.out.below hb3.out hb3.out.size (fun q hq => by have := hg.out; omega))
      replace k0 := Lib.hid (k0.out.fr HF.out (by have := hg.out; omega))
      have e0 := k0.out.cell 0
      have e2 := k0.out.cell 2
      have e3 := k0.out.cell 3
      simp at e0 e2 e3
      clear HA HK
      have hm := HM.out; have hv := HV.out; have hh := HH.out
      obtain ⟨ad0, cc0, h0, x0⟩ := H.out.m.zero 0 (by omega)
      obtain ⟨ad2, cc2, h2, x2⟩ := H.out.v.zero 0 (by omega)
      obtain ⟨ad3, cc3, h3, x3⟩ := H.out.h.zero false (by omega)
      obtain ⟨rfl, rfl⟩ : A = some ad0 ∧ c = cc0 := by simpa using h0
      obtain ⟨rfl, rfl⟩ : A3 = some ad2 ∧ c3 = cc2 := by simpa using h2
      obtain ⟨rfl, rfl⟩ : A4 = some ad3 ∧ c4 = cc3 := by simpa using h3
      replace x0 := (HBl.out.cell (World.block_lt_of_cell? w _ x0)).trans x0
      replace x2 := (HBl.out.cell (World.block_lt_of_cell? w _ x2)).trans x2
      replace x3 := (HBl.out.cell (World.block_lt_of_cell? w _ x3)).trans x3
      have p0 : decide (0 < s.m.length) = true := decide_eq_true (by omega)
      have p2 : decide (0 < s.v.length) = true := decide_eq_true (by omega)
      have p3 : decide (0 < s.h.length) = true := decide_eq_true (by omega)
      obtain ⟨z0, hz0⟩ : ∃ z0 : Bool, (s.m.getD 0 0 == 0) = z0 := ⟨_, rfl⟩
      obtain ⟨z1, hz1⟩ : ∃ z1 : Bool, (s.v.getD 0 0 == 0) = z1 := ⟨_, rfl⟩
      obtain ⟨z2, hz2⟩ : ∃ z2 : Bool, s.h.getD 0 false = z2 := ⟨_, rfl⟩
      have HE : Hid (b = (z0 && z1 && z2)) := by
        show b = _
        rw [Bool.eq_iff_iff, HB.out]
        constructor
        · intro h
          have h2 := h.m0; have h3 := h.v0; have h4 := h.h0
          rw [h2] at hz0; rw [h3] at hz1; rw [h4] at hz2
          subst hz0 hz1 hz2
          simp
        · intro h
          simp only [Bool.and_eq_true] at h
          obtain ⟨⟨h2, h3⟩, h4⟩ := h
          subst h2 h3 h4
          exact ⟨hm, hh, hv, HW.out, HAp.out, by simpa using hz0, by simpa using hz1, hz2⟩
      have q0 : 0 < s.m.length := by omega
      have q2 : 0 < s.v.length := by omega
      have q3 : 0 < s.h.length := by omega
      rw [hz2] at x3
      clear hm hv hh h0 h2 h3 HB HM HV HH hz2
      generalize s.m.getD 0 0 = y0 at x0 hz0
      generalize s.v.getD 0 0 = y1 at x2 hz1
      cases z0 <;> cases z1 <;> cases z2
      all_goals
        simp only [Bool.and_true, Bool.and_false, Bool.true_and, Bool.false_and] at HE
        obtain rfl := HE.out
        go_wp2
        go_ret
        exact ⟨rfl, HBl.out⟩
/-- The program's NamOk. -/
theorem ok22 (V : Sv) (s : St) (w : World) (h : RdS w V s) (b : Bool) (hb : b = true ↔ OkS s) :
    Calls Try.prog 22 #[V.agg] w fun e w' => e = .returned (.bool b) ∧ Below w.heap.size w w' := by
  by_cases hm : s.m.length = 8
  · by_cases hv : s.v.length = 20
    · by_cases hh : s.h.length = 20
      · by_cases hw : ∀ x ∈ s.v, 0 ≤ x ∧ x ≤ 65535
        · exact ok22r V s w h hm hh hv hw b hb
        · obtain rfl : b = false := Bool.eq_false_iff.mpr (fun h => hw (hb.mp h).w)
          have H := Lib.hid h
          obtain ⟨A, c, A2, c2, A3, c3, A4, c4, rfl⟩ := h.form
          have HV := Lib.hid hw
          have m1 : ((s.m.length : Int) != 8) = false := by rw [hm]; rfl
          have m2 : ((s.h.length : Int) != 20) = false := by rw [hh]; rfl
          have m3 : ((s.v.length : Int) != 20) = false := by rw [hv]; rfl
          clear h hv hb hm hh hw
          go_enter Try.func22, Try.ntmps22
          go_wp2_with fail
          obtain ⟨w0, hW, hb, k0, hz⟩ := bx1 w #[.slice A s.m.length c, .slice A2 s.f.length c2, .slice A3 s.v.length c3, .slice A4 s.h.length c4] 25
          rw [hW]; clear hW
          ((with_reducible refine (words51 _ s.v false (by simp only [Bool.false_eq_true, false_iff]; exact HV.out) _ (H.out.v.below hb.out)).mono ?_); rintro e w' ⟨rfl, n, rfl⟩)
          go_wp2_with fail
          go_ret
          exact ⟨rfl, bl_drewN hb.out _⟩
      · obtain rfl : b = false := Bool.eq_false_iff.mpr (fun h => hh (hb.mp h).h)
        obtain ⟨A, c, A2, c2, A3, c3, A4, c4, rfl⟩ := h.form
        have m1 : ((s.m.length : Int) != 8) = false := by rw [hm]; rfl
        have m3 : ((s.v.length : Int) != 20) = false := by rw [hv]; rfl
        have m2 : ((s.h.length : Int) != 20) = true := by rw [bne_iff_ne]; omega
        clear hm hv hh
        have HB := Lib.hid (bl_alloc (bl_refl w) (.cells #[.slice A s.m.length c, .slice A2 s.f.length c2, .slice A3 s.v.length c3, .slice A4 s.h.length c4] 25))
        clear h hb
        go_enter Try.func22, Try.ntmps22
        go_wp2_with fail
        go_ret
        exact ⟨rfl, HB.out⟩
    · obtain rfl : b = false := Bool.eq_false_iff.mpr (fun h => hv (hb.mp h).v)
      obtain ⟨A, c, A2, c2, A3, c3, A4, c4, rfl⟩ := h.form
      have m1 : ((s.m.length : Int) != 8) = false := by rw [hm]; rfl
      have m3 : ((s.v.length : Int) != 20) = true := by rw [bne_iff_ne]; omega
      clear hm hv
      have HB := Lib.hid (bl_alloc (bl_refl w) (.cells #[.slice A s.m.length c, .slice A2 s.f.length c2, .slice A3 s.v.length c3, .slice A4 s.h.length c4] 25))
      clear h hb
      go_enter Try.func22, Try.ntmps22
      go_wp2_with fail
      go_ret
      exact ⟨rfl, HB.out⟩
  · obtain rfl : b = false := Bool.eq_false_iff.mpr (fun h => hm (hb.mp h).m)
    obtain ⟨A, c, A2, c2, A3, c3, A4, c4, rfl⟩ := h.form
    have m1 : ((s.m.length : Int) != 8) = true := by rw [bne_iff_ne]; omega
    clear hm
    have HB := Lib.hid (bl_alloc (bl_refl w) (.cells #[.slice A s.m.length c, .slice A2 s.f.length c2, .slice A3 s.v.length c3, .slice A4 s.h.length c4] 25))
    clear h hb
    go_enter Try.func22, Try.ntmps22
    go_wp2_with fail
    go_ret
    exact ⟨rfl, HB.out⟩
end Go.Proofs.Ytiemacjmipiakaa.Nm
