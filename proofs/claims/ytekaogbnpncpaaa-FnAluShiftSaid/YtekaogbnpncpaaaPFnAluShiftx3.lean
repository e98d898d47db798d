-- PRINTED BY print.sh 35421559b90ae4d0a3588c463048766b98c2df88dd9212a6774a882060cdf62d: not written by this session
import Derived.Test.YtekaogbnpncpaaaPFnAluShiftx0
import Derived.Test.YtekaogbnpncpaaaPFnAluShiftx1
import Derived.Test.YtekaogbnpncpaaaPFnAluShiftx2
namespace Go.Proofs.Ytekaogbnpncpaaa.PFnAluShift
open Go.RowKit Go.Proofs.YtekaogbnpncpaaaW.PrintWords Go.Proofs.YtekaogbnpncpaaaW.PrintLast Go.Proofs.YtekaogbnpncpaaaW.PrintMore
attribute [local go_sem] max2_int min2_int max_two min_two max_three min_three max_four min_four   -- for this text's walks alone
set_option linter.unusedVariables false
set_option linter.unusedSimpArgs false

/-! ### spec_DrawAluDo: function 34 -/
def spec_DrawAluDo.f (k : Nat) (l0 : List Int) : Option (Int × Int × Int) := (spec_l20Open.f l0).bind fun bt153 => ((spec_l20Rd_pick.f k bt153.1 bt153.2 8).bind fun bt156 => ((some (([bt156.1, 8, (-1)] : List Int) : List Int)).bind fun y158 => ((some (([0, 0, 0, 0, 0, 0, 1, 2] : List Int) : List Int)).bind fun y161 => ((spec_l20Rd_pick.f k bt153.1 bt156.2 8).bind fun bt164 => (if 0 ≤ bt164.1 then (if bt164.1 < (y161.length : Int) then (if 0 ≤ (rd y161 bt164.1) then (if (rd y161 bt164.1) < (y158.length : Int) then ((spec_l20Word.f k bt153.1 bt164.2 12).bind fun bt168 => ((spec_l20Word.f k bt153.1 bt168.2 12).bind fun bt170 => (some (rd y158 (rd y161 bt164.1), bt168.1, bt170.1)))) else (none)) else (none)) else (none)) else (none))))))
theorem spec_DrawAluDo.mono : ∀ a0 k, LeO (spec_DrawAluDo.f k a0) (spec_DrawAluDo.f (k + 1) a0) := by
  intro a0 k
  unfold spec_DrawAluDo.f
  repeat' first
      | (with_reducible exact spec_l20Rd_pick.mono _ _ _ _)
      | (with_reducible exact spec_l20Word.mono _ _ _ _)
      | (with_reducible exact LeO.refl _)
      | (with_reducible exact LeO.none _)
      | (with_reducible refine LeO.ite ?_ ?_)
      | (with_reducible refine LeO.bind ?_ (fun _ => ?_))
      | exact spec_l20Rd_pick.mono _ _ _ _
      | exact spec_l20Word.mono _ _ _ _
      | exact LeO.none _
      | refine LeO.ite ?_ ?_
      | refine LeO.bind ?_ (fun _ => ?_)
def spec_DrawAluDo.T2 : Bool × List (List Nat × List Nat) := (true, [([], []), ([0], [0]), ([1], [1]), ([], []), ([], []), ([4, 1], [4]), ([3, 5], [3, 5]), ([6], [6]), ([2, 7], [2, 7]), ([8], [8]), ([], []), ([10, 5], [10]), ([], []), ([12, 11], [12]), ([9, 13, 0, 1, 2, 3, 4, 5, 6, 7, 8, 9], [9]), ([11, 14, 0, 1, 2, 3, 4, 5, 6, 7, 8, 9, 10, 11, 14], [11]), ([13, 15, 0, 1, 2, 3, 4, 5, 6, 7, 8, 9, 10, 11, 12, 13, 14, 15], [13])])
def spec_DrawAluDo.B2 : List Nat := [0, 1, 3, 0, 0, 19, 59, 123, 255, 511, 0, 1075, 0, 7219, 16383, 32767, 65535]
theorem spec_DrawAluDo.tab2 : rtab .any (opsOf Try.f34 2) = spec_DrawAluDo.T2 := by kernel_rfl
theorem spec_DrawAluDo.bits2 : waitsOk spec_DrawAluDo.T2.2 spec_DrawAluDo.B2 = true := by kernel_rfl
set_option maxHeartbeats 8000000 in
set_option maxRecDepth 100000 in
theorem spec_DrawAluDo.calls (k : Nat) (A0 : Option Addr) (c0 : Nat) (l0 : List Int) (r1 : Int) (r2 : Int) (r3 : Int) (w : World) (hr0 : Kd.C (Kd.int .u8) w A0 l0.length l0) (hc0 : l0.length ≤ c0) (h : spec_DrawAluDo.f k l0 = some (r1, r2, r3)) :
    Calls Try.prog 34 #[.slice A0 l0.length c0] w fun e w' => e = .returned (.tuple #[.int .i64 r1, .int .i64 r2, .int .i64 r3]) ∧ Below w.heap.size w w' := by
  have HR0 := Aside0.mk hr0
  have HC0 := Aside0.mk hc0
  clear hr0 hc0
  have HB := Aside0.mk (Below.refl w.heap.size w)
  have H : ((spec_l20Open.f l0).bind fun bt153 => ((spec_l20Rd_pick.f k bt153.1 bt153.2 8).bind fun bt156 => ((some (([bt156.1, 8, (-1)] : List Int) : List Int)).bind fun y158 => ((some (([0, 0, 0, 0, 0, 0, 1, 2] : List Int) : List Int)).bind fun y161 => ((spec_l20Rd_pick.f k bt153.1 bt156.2 8).bind fun bt164 => (if 0 ≤ bt164.1 then (if bt164.1 < (y161.length : Int) then (if 0 ≤ (rd y161 bt164.1) then (if (rd y161 bt164.1) < (y158.length : Int) then ((spec_l20Word.f k bt153.1 bt164.2 12).bind fun bt168 => ((spec_l20Word.f k bt153.1 bt168.2 12).bind fun bt170 => (some (rd y158 (rd y161 bt164.1), bt168.1, bt170.1)))) else (none)) else (none)) else (none)) else (none))))))) = some (r1, r2, r3) := h
  clear h
  replace H := Option.bind_eq_some_iff.mp H
  obtain ⟨⟨t153, t154⟩, A20, H⟩ := H
  replace H : ((spec_l20Rd_pick.f k t153 t154 8).bind fun bt156 => ((some (([bt156.1, 8, (-1)] : List Int) : List Int)).bind fun y158 => ((some (([0, 0, 0, 0, 0, 0, 1, 2] : List Int) : List Int)).bind fun y161 => ((spec_l20Rd_pick.f k t153 bt156.2 8).bind fun bt164 => (if 0 ≤ bt164.1 then (if bt164.1 < (y161.length : Int) then (if 0 ≤ (rd y161 bt164.1) then (if (rd y161 bt164.1) < (y158.length : Int) then ((spec_l20Word.f k t153 bt164.2 12).bind fun bt168 => ((spec_l20Word.f k t153 bt168.2 12).bind fun bt170 => (some (rd y158 (rd y161 bt164.1), bt168.1, bt170.1)))) else (none)) else (none)) else (none)) else (none)))))) = some (r1, r2, r3) := H
  have A2 := Aside0.mk A20
  clear A20
  replace H := Option.bind_eq_some_iff.mp H
  obtain ⟨⟨t156, t157⟩, A30, H⟩ := H
  replace H : ((some (([t156, 8, (-1)] : List Int) : List Int)).bind fun y158 => ((some (([0, 0, 0, 0, 0, 0, 1, 2] : List Int) : List Int)).bind fun y161 => ((spec_l20Rd_pick.f k t153 t157 8).bind fun bt164 => (if 0 ≤ bt164.1 then (if bt164.1 < (y161.length : Int) then (if 0 ≤ (rd y161 bt164.1) then (if (rd y161 bt164.1) < (y158.length : Int) then ((spec_l20Word.f k t153 bt164.2 12).bind fun bt168 => ((spec_l20Word.f k t153 bt168.2 12).bind fun bt170 => (some (rd y158 (rd y161 bt164.1), bt168.1, bt170.1)))) else (none)) else (none)) else (none)) else (none))))) = some (r1, r2, r3) := H
  have A3 := Aside0.mk A30
  clear A30
  obtain ⟨y158, hy158⟩ : ∃ y_ : List Int, y_ = (([t156, 8, (-1)] : List Int)) := ⟨_, rfl⟩
  replace H : ((some (([0, 0, 0, 0, 0, 0, 1, 2] : List Int) : List Int)).bind fun y161 => ((spec_l20Rd_pick.f k t153 t157 8).bind fun bt164 => (if 0 ≤ bt164.1 then (if bt164.1 < (y161.length : Int) then (if 0 ≤ (rd y161 bt164.1) then (if (rd y161 bt164.1) < (y158.length : Int) then ((spec_l20Word.f k t153 bt164.2 12).bind fun bt168 => ((spec_l20Word.f k t153 bt168.2 12).bind fun bt170 => (some (rd y158 (rd y161 bt164.1), bt168.1, bt170.1)))) else (none)) else (none)) else (none)) else (none)))) = some (r1, r2, r3) := by first | (rw [hy158]; with_reducible exact H) | (have H2_ := (Option.bind_some _ _).symm.trans H; rw [hy158]; with_reducible exact H2_) | (have H2_ := (Option.bind_some _ _).symm.trans H; with_reducible exact H2_) | with_reducible exact H | (rw [hy158]; exact H) | exact H
  have Ny158 := Aside0.mk hy158
  clear hy158
  obtain ⟨y161, hy161⟩ : ∃ y_ : List Int, y_ = (([0, 0, 0, 0, 0, 0, 1, 2] : List Int)) := ⟨_, rfl⟩
  replace H : ((spec_l20Rd_pick.f k t153 t157 8).bind fun bt164 => (if 0 ≤ bt164.1 then (if bt164.1 < (y161.length : Int) then (if 0 ≤ (rd y161 bt164.1) then (if (rd y161 bt164.1) < (y158.length : Int) then ((spec_l20Word.f k t153 bt164.2 12).bind fun bt168 => ((spec_l20Word.f k t153 bt168.2 12).bind fun bt170 => (some (rd y158 (rd y161 bt164.1), bt168.1, bt170.1)))) else (none)) else (none)) else (none)) else (none))) = some (r1, r2, r3) := by first | (rw [hy161]; with_reducible exact H) | (have H2_ := (Option.bind_some _ _).symm.trans H; rw [hy161]; with_reducible exact H2_) | (have H2_ := (Option.bind_some _ _).symm.trans H; with_reducible exact H2_) | with_reducible exact H | (rw [hy161]; exact H) | exact H
  have Ny161 := Aside0.mk hy161
  clear hy161
  replace H := Option.bind_eq_some_iff.mp H
  obtain ⟨⟨t164, t165⟩, A40, H⟩ := H
  replace H : (if 0 ≤ t164 then (if t164 < (y161.length : Int) then (if 0 ≤ (rd y161 t164) then (if (rd y161 t164) < (y158.length : Int) then ((spec_l20Word.f k t153 t165 12).bind fun bt168 => ((spec_l20Word.f k t153 bt168.2 12).bind fun bt170 => (some (rd y158 (rd y161 t164), bt168.1, bt170.1)))) else (none)) else (none)) else (none)) else (none)) = some (r1, r2, r3) := H
  have A4 := Aside0.mk A40
  clear A40
  by_cases c5 : 0 ≤ t164
  · rw [if_pos c5] at H
    have c5b0 : decide (0 ≤ t164) = true := decide_eq_true c5
    clear c5
    by_cases c6 : t164 < (y161.length : Int)
    · rw [if_pos c6] at H
      have c6b0 : decide (t164 < (y161.length : Int)) = true := decide_eq_true c6
      clear c6
      by_cases c7 : 0 ≤ (rd y161 t164)
      · rw [if_pos c7] at H
        have c7b0 : decide (0 ≤ (rd y161 t164)) = true := decide_eq_true c7
        clear c7
        by_cases c8 : (rd y161 t164) < (y158.length : Int)
        · rw [if_pos c8] at H
          have c8b0 : decide ((rd y161 t164) < (y158.length : Int)) = true := decide_eq_true c8
          clear c8
          replace H := Option.bind_eq_some_iff.mp H
          obtain ⟨⟨t168, t169⟩, A90, H⟩ := H
          replace H : ((spec_l20Word.f k t153 t169 12).bind fun bt170 => (some (rd y158 (rd y161 t164), t168, bt170.1))) = some (r1, r2, r3) := H
          have A9 := Aside0.mk A90
          clear A90
          replace H := Option.bind_eq_some_iff.mp H
          obtain ⟨⟨t170, t171⟩, A100, H⟩ := H
          replace H : (some (rd y158 (rd y161 t164), t168, t170)) = some (r1, r2, r3) := H
          have A10 := Aside0.mk A100
          clear A100
          simp only [Option.some.injEq, Prod.mk.injEq] at H
          obtain ⟨rfl, rfl, rfl⟩ := H
          go_enter Try.func34, Try.ntmps34
          try go_wp2_with (first | ((with_reducible refine gate_callee (f := 40) rfl ?_); refine goesL_ (some 7) rfl rfl Try.func40 (by kernel_rfl) rfl #[.slice A0 l0.length c0] rfl (by (try simp only [List.map_toArray, List.map_cons, List.map_nil]); first | done | rfl | (simp only [List.length_drop, List.length_take]; rfl)) ?_; (with_reducible refine (spec_l20Open.calls _ _ l0 t153 t154 w _ ?side1 ?side2 ?side3 A2.out).mono ?_); (case side1 => repeat (first | (with_reducible first | exact HB.out | apply below_alloc | apply pw_below_drewN | apply below_drew1) | exact HB.out)); (case side2 => exact HR0.out); (case side3 => exact HC0.out); rintro e w11 ⟨g155, rfl, hi, hb, hb2⟩; refine ⟨_, rfl, ?_⟩; have n0_ := Aside0.mk (hb); have n1_ := Aside0.mk (hi); clear HB; have HB := n0_; have HI155 := n1_; clear n0_ n1_; (try clear hb); (try clear hb2); (try clear hk); (try clear hi)))
          have pi166 : (0 ≤ (t164 : Int)) = True := eq_true (of_decide_eq_true (by first | (with_reducible assumption) | assumption))
          have qi166 : (t164 < (y161.length : Int)) = True := eq_true (of_decide_eq_true (by first | (with_reducible assumption) | assumption))
          have pi167 : (0 ≤ ((rd y161 t164) : Int)) = True := eq_true (of_decide_eq_true (by first | (with_reducible assumption) | assumption))
          have qi167 : ((rd y161 t164) < (y158.length : Int)) = True := eq_true (of_decide_eq_true (by first | (with_reducible assumption) | assumption))
          have n0_ := Aside0.mk (IsS48.drew HI155.out)
          have n1_ := Aside0.mk (below_drew1 HB.out)
          clear HI155
          clear HB
          have HI155 := n0_
          have HB := n1_
          clear n0_ n1_
          refine start_ (n := 17) (S := fun w' => True) (ds := []) #[false, false, false, false, false, false, false, false, false, false, false, false, false, false, false, false, false] (by kernel_rfl) rfl rfl trivial (fun hHeld => ?_); refine with_tabW spec_DrawAluDo.tab2 spec_DrawAluDo.bits2 (fun HT_ HW_ => ?_)
          generalize w11.drew = w12 at HI155 HB hHeld ⊢
          refine pure_ (i := 0) (N := some 8) (v := ?_) (a' := ?_) #[true, false, false, false, false, false, false, false, false, false, false, false, false, false, false, false, false] rfl rfl (any_of HT_.out (by kernel_rfl)) (fun _ _ _ h => h) (Or.inl ⟨by rfl, ?_⟩) ?_ ?_
          rotate_left
          · intro w'
            go_simp
            with_reducible rfl
          rotate_left
          · simp only [Act.put, List.setIfInBounds_toArray, List.set_cons_zero, List.set_cons_succ, i64_w, i32_w]
            rfl
          refine pure_ (i := 4) (N := some 12) (v := ?_) (a' := ?_) #[true, false, false, false, true, false, false, false, false, false, false, false, false, false, false, false, false] rfl rfl (any_of HT_.out (by kernel_rfl)) (fun _ _ _ h => h) (Or.inl ⟨by rfl, ?_⟩) ?_ ?_
          rotate_left
          · intro w'
            go_simp
            with_reducible rfl
          rotate_left
          · simp only [Act.put, List.setIfInBounds_toArray, List.set_cons_zero, List.set_cons_succ, i64_w, i32_w]
            rfl
          refine pure_ (i := 10) (N := some 18) (v := ?_) (a' := ?_) #[true, false, false, false, true, false, false, false, false, false, true, false, false, false, false, false, false] rfl rfl (any_of HT_.out (by kernel_rfl)) (fun _ _ _ h => h) (Or.inl ⟨by rfl, ?_⟩) ?_ ?_
          rotate_left
          · intro w'
            go_simp
            with_reducible rfl
          rotate_left
          · simp only [Act.put, List.setIfInBounds_toArray, List.set_cons_zero, List.set_cons_succ, i64_w, i32_w]
            rfl
          refine pure_ (i := 12) (N := some 20) (v := ?_) (a' := ?_) #[true, false, false, false, true, false, false, false, false, false, true, false, true, false, false, false, false] rfl rfl (any_of HT_.out (by kernel_rfl)) (fun _ _ _ h => h) (Or.inl ⟨by rfl, ?_⟩) ?_ ?_
          rotate_left
          · intro w'
            go_simp
            with_reducible rfl
          rotate_left
          · simp only [Act.put, List.setIfInBounds_toArray, List.set_cons_zero, List.set_cons_succ, i64_w, i32_w]
            rfl
          refine inv_at [1, 2, 3, 5, 6, 7, 8, 9, 11, 13, 14, 15, 16] (fun a0_ b a w' => ∃ (v159 : Value) (adz_v159 : Addr) (v162 : Value) (adz_v162 : Addr) (m6_ : Value) (m8_ : Value), a = putSel a0_ b [(1, 9, .int .i64 t156), (2, 10, v159), (3, 11, v162), (5, 13, .int .i64 t164), (6, 14, m6_), (7, 15, .int .i64 (rd y161 t164)), (8, 16, m8_), (9, 17, .int .i64 (rd y158 (rd y161 t164))), (11, 19, .int .i64 t168), (13, 21, .int .i64 t170), (14, 2, .int .i64 (rd y158 (rd y161 t164))), (15, 3, .int .i64 t168), (16, 4, .int .i64 t170)] ∧ (b 1 = false → IsS48 w w' g155 t153 t154) ∧ (Below w.heap.size w w') ∧ (b 1 = true → b 5 = false → IsS48 w w' g155 t153 t157) ∧ (b 2 = true → Kd.R (Kd.int .i64) 3 w' w.heap.size (fun _ => True) v159 y158) ∧ (b 2 = true → ∃ c_, (v159 : Value) = .slice (some adz_v159) y158.length c_) ∧ (b 3 = true → Kd.R (Kd.int .i64) 3 w' w.heap.size (fun _ => True) v162 y161) ∧ (b 3 = true → ∃ c_, (v162 : Value) = .slice (some adz_v162) y161.length c_) ∧ (b 5 = true → b 11 = false → IsS48 w w' g155 t153 t165) ∧ (b 11 = true → b 13 = false → IsS48 w w' g155 t153 t169) ∧ (b 13 = true → IsS48 w w' g155 t153 t171) ∧ (b 6 = true → (m6_ : Value) = .pointer (some (adz_v162.add (t164).toNat))) ∧ (b 8 = true → (m8_ : Value) = .pointer (some (adz_v159.add ((rd y161 t164)).toNat)))) HT_.out HW_.out (by kernel_rfl) (by kernel_rfl) ?_ ?_ ?_
          · exact ⟨.bool false, ⟨0, 0, none⟩, .bool false, ⟨0, 0, none⟩, .bool false, .bool false, by simp only [putSel, Bool.false_eq_true, if_false], fun _ => HI155.out, HB.out, fun h_ => absurd h_ (by decide), fun h_ => absurd h_ (by decide), fun h_ => absurd h_ (by decide), fun h_ => absurd h_ (by decide), fun h_ => absurd h_ (by decide), fun h_ => absurd h_ (by decide), fun h_ => absurd h_ (by decide), fun h_ => absurd h_ (by decide), fun h_ => absurd h_ (by decide), fun h_ => absurd h_ (by decide)⟩
          · skip
            clear HB HI155
            refine steps_cons ?_ ?_
            · rintro b a w' ⟨v159, adz_v159, v162, adz_v162, m6_, m8_, ha, Q_HI155, Q_HB, Q_HI155_e1, Q_HO160, Q_HA_HO160, Q_HO163, Q_HA_HO163, Q_HI155_e5, Q_HI155_e11, Q_HI155_e13, Q_X6_, Q_X8_⟩ hb_ hon hoff
              refine ⟨_, rfl, fun K hK => ?_⟩
              have e8 : a.tmps[8]? = some (.pointer (some ⟨g155, 0, none⟩)) := by rw [ha]; exact (putSel_off rfl).trans rfl
              replace ha := Aside0.mk ha
              have HI155 := Aside0.mk (Q_HI155 hb_)
              have HB := Aside0.mk Q_HB
              refine goes_ Try.func41 (by kernel_rfl) rfl #[.pointer (some ⟨g155, 0, none⟩), .int .i64 8] (by rfl) rfl rfl (by first | (simp only [List.map_toArray, List.map_cons, List.map_nil, Act.eval, Array.getD_eq_getD_getElem?, Option.getD_some, e8]; done) | (simp only [List.map_toArray, List.map_cons, List.map_nil, Act.eval, Array.getD_eq_getD_getElem?, Option.getD_some, e8]; rfl)) ?_
              with_reducible refine (spec_l20Rd_pick.calls k g155 t153 t154 8 t156 t157 w _ ?side1 ?side2 A3.out).mono ?_
              (case side1 => repeat (first | (with_reducible first | exact HI155.out | apply IsS48.alloc | apply IsS48.drewN | apply IsS48.drew | apply IsS48.set_1) | exact HI155.out))
              (case side2 => repeat (first | (with_reducible first | exact HB.out | apply below_alloc | apply pw_below_drewN | apply below_drew1 | refine below_set ?_ (IsS48.ge HI155.out)) | exact HB.out))
              rintro e w13 ⟨rfl, hi, hb, hk⟩
              refine ⟨_, rfl, ?_⟩
              have n0_ := Aside0.mk (hb)
              have n1_ := Aside0.mk (hi)
              have z_HO163 := fun (h0_ : b 3 = true) => (show Kd.R (Kd.int .i64) 3 w13 w.heap.size (fun _ => True) v162 y161 from by first | exact (Kd.R_mono (Kd.R_keep (IsS48.apart (show IsS48 w _ g155 t153 t154 from by repeat (first | (with_reducible first | exact HI155.out | apply IsS48.alloc | apply IsS48.drewN | apply IsS48.drew | apply IsS48.set_1) | exact HI155.out)) (by (with_reducible repeat (first | apply Kd.R_alloc | apply Kd.R_drewN | apply Kd.R_drew)); exact (Q_HO163 h0_)) (by decide)) hk (fun _ h => h.2)) (fun _ h => h.1)) | exact Kd.R_mono (Kd.R_mono (Kd.R_keep (IsS48.apart (show IsS48 w _ g155 t153 t154 from by repeat (first | (with_reducible first | exact HI155.out | apply IsS48.alloc | apply IsS48.drewN | apply IsS48.drew | apply IsS48.set_1) | exact HI155.out)) (by (with_reducible repeat (first | apply Kd.R_alloc | apply Kd.R_drewN | apply Kd.R_drew)); exact (Q_HO163 h0_)) (by decide)) hk (fun _ h => h.2)) (fun _ h => h.1)) (fun _ h_ => by first | trivial | exact h_ | exact h_.1))
              clear HB
              clear HI155
              have HB := n0_
              have HI155 := n1_
              clear n0_ n1_
              (try clear hb)
              (try clear hb2)
              (try clear hk)
              (try clear hi)
              refine hK.out _ _ ⟨v159, adz_v159, v162, adz_v162, m6_, m8_, (by rw [ha.out]; exact putSel_upk 0 hb_ rfl rfl rfl), fun h0_ => absurd ((up_self b 1).symm.trans h0_) (by decide), (by repeat (first | (with_reducible first | exact HB.out | apply below_alloc | apply pw_below_drewN | apply below_drew1 | refine below_set ?_ (IsS48.ge HI155.out)) | exact HB.out)), fun _ _ => (by repeat (first | (with_reducible first | exact HI155.out | apply IsS48.alloc | apply IsS48.drewN | apply IsS48.drew | apply IsS48.set_1) | exact HI155.out)), fun h0_ => absurd ((hoff 2 (by kernel_rfl)).symm.trans h0_) (by decide), fun h0_ => absurd ((hoff 2 (by kernel_rfl)).symm.trans h0_) (by decide), z_HO163, Q_HA_HO163, fun h0_ _ => absurd ((hoff 5 (by kernel_rfl)).symm.trans h0_) (by decide), fun h0_ _ => absurd ((hoff 11 (by kernel_rfl)).symm.trans h0_) (by decide), fun h0_ => absurd ((hoff 13 (by kernel_rfl)).symm.trans h0_) (by decide), fun h0_ => absurd ((hoff 6 (by kernel_rfl)).symm.trans h0_) (by decide), fun h0_ => absurd ((hoff 8 (by kernel_rfl)).symm.trans h0_) (by decide)⟩
            refine steps_cons ?_ ?_
            · rintro b a w' ⟨v159, adz_v159, v162, adz_v162, m6_, m8_, ha, Q_HI155, Q_HB, Q_HI155_e1, Q_HO160, Q_HA_HO160, Q_HO163, Q_HA_HO163, Q_HI155_e5, Q_HI155_e11, Q_HI155_e13, Q_X6_, Q_X8_⟩ hb_ hon hoff
              refine ⟨_, rfl, fun K hK => ?_⟩
              have e9 : a.tmps[9]? = some (.int .i64 t156) := by rw [ha]; exact putSel_on (e := (1, 9, .int .i64 t156)) 0 rfl rfl (hon 1 (by kernel_rfl)) rfl
              replace ha := Aside0.mk ha
              have HB := Aside0.mk Q_HB
              refine Kd.R_lit_step (Kd.int .i64) _ 3 ?hg (N := 10) ?hd (xs := ([t156, 8, (-1)] : List Int)) (inner := [.int .i64 t156, .int .i64 8, .int .i64 (-1)]) (ok := fun _ => True) (okp := fun _ => True) ?hr ?hp (fun _ hk => hk) trivial (Below.refl _ _) (Nat.le_refl _) (by simp) ?_; (case hd => rfl); (case hg => rfl); (case hr => first | (go_simp; done) | (go_simp; rfl)); (case hp => exact (Reps.one (show Kd.M (Kd.int .i64) _ _ _ t156 [.int .i64 t156] from rfl) (Reps.one (show Kd.M (Kd.int .i64) _ _ _ 8 [.int .i64 8] from rfl) (Reps.one (show Kd.M (Kd.int .i64) _ _ _ (-1) [.int .i64 (-1)] from rfl) (Reps.none _ _)))))
              intro v159 w15 ho16 hb hg_ hnew_
              clear hg_ hnew_
              (first | rw [← Ny158.out] at ho16 | (simp only [Int.reduceToNat] at ho16; rw [← Ny158.out] at ho16))
              have n0_ := Aside0.mk (Kd.R_lower ho16 (below_size (by repeat (first | (with_reducible first | exact HB.out | apply below_alloc | apply pw_below_drewN | apply below_drew1) | exact HB.out))))
              have n2_ := Aside0.mk (below_step (by repeat (first | (with_reducible first | exact HB.out | apply below_alloc | apply pw_below_drewN | apply below_drew1) | exact HB.out)) hb)
              have z_HI155_e1 := fun (h0_ : b 1 = true) (h1_ : b 5 = false) => (show IsS48 w w15 g155 t153 t157 from by first | exact (IsS48.below (by repeat (first | (with_reducible first | exact (Q_HI155_e1 h0_ h1_) | apply IsS48.alloc | apply IsS48.drewN | apply IsS48.drew | apply IsS48.set_1) | exact (Q_HI155_e1 h0_ h1_))) hb))
              have z_HO163 := fun (h0_ : b 3 = true) => (show Kd.R (Kd.int .i64) 3 w15 w.heap.size (fun _ => True) v162 y161 from by first | exact (Kd.R_elder' (by (with_reducible repeat (first | apply Kd.R_alloc | apply Kd.R_drewN | apply Kd.R_drew)); exact (Q_HO163 h0_)) (Kd.R_base ho16) hb) | exact Kd.R_mono (Kd.R_elder' (by (with_reducible repeat (first | apply Kd.R_alloc | apply Kd.R_drewN | apply Kd.R_drew)); exact (Q_HO163 h0_)) (Kd.R_base ho16) hb) (fun _ h_ => by first | trivial | exact h_ | exact h_.1))
              have z_HI155_e5 := fun (h0_ : b 5 = true) (h1_ : b 11 = false) => (show IsS48 w w15 g155 t153 t165 from by first | exact (IsS48.below (by repeat (first | (with_reducible first | exact (Q_HI155_e5 h0_ h1_) | apply IsS48.alloc | apply IsS48.drewN | apply IsS48.drew | apply IsS48.set_1) | exact (Q_HI155_e5 h0_ h1_))) hb))
              have z_HI155_e11 := fun (h0_ : b 11 = true) (h1_ : b 13 = false) => (show IsS48 w w15 g155 t153 t169 from by first | exact (IsS48.below (by repeat (first | (with_reducible first | exact (Q_HI155_e11 h0_ h1_) | apply IsS48.alloc | apply IsS48.drewN | apply IsS48.drew | apply IsS48.set_1) | exact (Q_HI155_e11 h0_ h1_))) hb))
              have z_HI155_e13 := fun (h0_ : b 13 = true) => (show IsS48 w w15 g155 t153 t171 from by first | exact (IsS48.below (by repeat (first | (with_reducible first | exact (Q_HI155_e13 h0_) | apply IsS48.alloc | apply IsS48.drewN | apply IsS48.drew | apply IsS48.set_1) | exact (Q_HI155_e13 h0_))) hb))
              clear HB
              have HO160 := n0_
              have HB := n2_
              clear n0_ n2_
              clear hb ho16
              obtain ⟨Ao17, co17, eo17⟩ := Kd.R_slice HO160.out
              subst eo17
              obtain ⟨ado17, fo17, _⟩ := Kd.at_int (Kd.R_reads' HO160.out).2.2 0 (by decide) (by rw [Ny158.out]; simp)
              cases fo17
              refine hK.out _ _ ⟨.slice (some ado17) y158.length co17, ado17, v162, adz_v162, m6_, m8_, (by rw [ha.out]; exact putSel_upk 1 hb_ rfl rfl rfl), fun h0_ => absurd ((hon 1 (by kernel_rfl)).symm.trans h0_) (by decide), (by repeat (first | (with_reducible first | exact HB.out | apply below_alloc | apply pw_below_drewN | apply below_drew1) | exact HB.out)), z_HI155_e1, fun _ => (by (with_reducible repeat (first | apply Kd.R_alloc | apply Kd.R_drewN | apply Kd.R_drew)); exact HO160.out), fun _ => ⟨_, rfl⟩, z_HO163, Q_HA_HO163, z_HI155_e5, z_HI155_e11, z_HI155_e13, Q_X6_, fun h0_ => absurd ((hoff 8 (by kernel_rfl)).symm.trans h0_) (by decide)⟩
            refine steps_cons ?_ ?_
            · rintro b a w' ⟨v159, adz_v159, v162, adz_v162, m6_, m8_, ha, Q_HI155, Q_HB, Q_HI155_e1, Q_HO160, Q_HA_HO160, Q_HO163, Q_HA_HO163, Q_HI155_e5, Q_HI155_e11, Q_HI155_e13, Q_X6_, Q_X8_⟩ hb_ hon hoff
              refine ⟨_, rfl, fun K hK => ?_⟩
              replace ha := Aside0.mk ha
              have HB := Aside0.mk Q_HB
              refine Kd.R_lit_step (Kd.int .i64) _ 3 ?hg (N := 11) ?hd (xs := ([0, 0, 0, 0, 0, 0, 1, 2] : List Int)) (inner := [.int .i64 0, .int .i64 0, .int .i64 0, .int .i64 0, .int .i64 0, .int .i64 0, .int .i64 1, .int .i64 2]) (ok := fun _ => True) (okp := fun _ => True) ?hr ?hp (fun _ hk => hk) trivial (Below.refl _ _) (Nat.le_refl _) (by simp) ?_; (case hd => rfl); (case hg => rfl); (case hr => first | (go_simp; done) | (go_simp; rfl)); (case hp => exact (Reps.one (show Kd.M (Kd.int .i64) _ _ _ 0 [.int .i64 0] from rfl) (Reps.one (show Kd.M (Kd.int .i64) _ _ _ 0 [.int .i64 0] from rfl) (Reps.one (show Kd.M (Kd.int .i64) _ _ _ 0 [.int .i64 0] from rfl) (Reps.one (show Kd.M (Kd.int .i64) _ _ _ 0 [.int .i64 0] from rfl) (Reps.one (show Kd.M (Kd.int .i64) _ _ _ 0 [.int .i64 0] from rfl) (Reps.one (show Kd.M (Kd.int .i64) _ _ _ 0 [.int .i64 0] from rfl) (Reps.one (show Kd.M (Kd.int .i64) _ _ _ 1 [.int .i64 1] from rfl) (Reps.one (show Kd.M (Kd.int .i64) _ _ _ 2 [.int .i64 2] from rfl) (Reps.none _ _))))))))))
              intro v162 w13 ho14 hb hg_ hnew_
              clear hg_ hnew_
              (first | rw [← Ny161.out] at ho14 | (simp only [Int.reduceToNat] at ho14; rw [← Ny161.out] at ho14))
              have n0_ := Aside0.mk (Kd.R_lower ho14 (below_size (by repeat (first | (with_reducible first | exact HB.out | apply below_alloc | apply pw_below_drewN | apply below_drew1) | exact HB.out))))
              have n2_ := Aside0.mk (below_step (by repeat (first | (with_reducible first | exact HB.out | apply below_alloc | apply pw_below_drewN | apply below_drew1) | exact HB.out)) hb)
              have z_HI155 := fun (h0_ : b 1 = false) => (show IsS48 w w13 g155 t153 t154 from by first | exact (IsS48.below (by repeat (first | (with_reducible first | exact (Q_HI155 h0_) | apply IsS48.alloc | apply IsS48.drewN | apply IsS48.drew | apply IsS48.set_1) | exact (Q_HI155 h0_))) hb))
              have z_HI155_e1 := fun (h0_ : b 1 = true) (h1_ : b 5 = false) => (show IsS48 w w13 g155 t153 t157 from by first | exact (IsS48.below (by repeat (first | (with_reducible first | exact (Q_HI155_e1 h0_ h1_) | apply IsS48.alloc | apply IsS48.drewN | apply IsS48.drew | apply IsS48.set_1) | exact (Q_HI155_e1 h0_ h1_))) hb))
              have z_HO160 := fun (h0_ : b 2 = true) => (show Kd.R (Kd.int .i64) 3 w13 w.heap.size (fun _ => True) v159 y158 from by first | exact (Kd.R_elder' (by (with_reducible repeat (first | apply Kd.R_alloc | apply Kd.R_drewN | apply Kd.R_drew)); exact (Q_HO160 h0_)) (Kd.R_base ho14) hb) | exact Kd.R_mono (Kd.R_elder' (by (with_reducible repeat (first | apply Kd.R_alloc | apply Kd.R_drewN | apply Kd.R_drew)); exact (Q_HO160 h0_)) (Kd.R_base ho14) hb) (fun _ h_ => by first | trivial | exact h_ | exact h_.1))
              have z_HI155_e5 := fun (h0_ : b 5 = true) (h1_ : b 11 = false) => (show IsS48 w w13 g155 t153 t165 from by first | exact (IsS48.below (by repeat (first | (with_reducible first | exact (Q_HI155_e5 h0_ h1_) | apply IsS48.alloc | apply IsS48.drewN | apply IsS48.drew | apply IsS48.set_1) | exact (Q_HI155_e5 h0_ h1_))) hb))
              have z_HI155_e11 := fun (h0_ : b 11 = true) (h1_ : b 13 = false) => (show IsS48 w w13 g155 t153 t169 from by first | exact (IsS48.below (by repeat (first | (with_reducible first | exact (Q_HI155_e11 h0_ h1_) | apply IsS48.alloc | apply IsS48.drewN | apply IsS48.drew | apply IsS48.set_1) | exact (Q_HI155_e11 h0_ h1_))) hb))
              have z_HI155_e13 := fun (h0_ : b 13 = true) => (show IsS48 w w13 g155 t153 t171 from by first | exact (IsS48.below (by repeat (first | (with_reducible first | exact (Q_HI155_e13 h0_) | apply IsS48.alloc | apply IsS48.drewN | apply IsS48.drew | apply IsS48.set_1) | exact (Q_HI155_e13 h0_))) hb))
              clear HB
              have HO163 := n0_
              have HB := n2_
              clear n0_ n2_
              clear hb ho14
              obtain ⟨Ao15, co15, eo15⟩ := Kd.R_slice HO163.out
              subst eo15
              obtain ⟨ado15, fo15, _⟩ := Kd.at_int (Kd.R_reads' HO163.out).2.2 0 (by decide) (by rw [Ny161.out]; simp)
              cases fo15
              refine hK.out _ _ ⟨v159, adz_v159, .slice (some ado15) y161.length co15, ado15, m6_, m8_, (by rw [ha.out]; exact putSel_upk 2 hb_ rfl rfl rfl), z_HI155, (by repeat (first | (with_reducible first | exact HB.out | apply below_alloc | apply pw_below_drewN | apply below_drew1) | exact HB.out)), z_HI155_e1, z_HO160, Q_HA_HO160, fun _ => (by (with_reducible repeat (first | apply Kd.R_alloc | apply Kd.R_drewN | apply Kd.R_drew)); exact HO163.out), fun _ => ⟨_, rfl⟩, z_HI155_e5, z_HI155_e11, z_HI155_e13, fun h0_ => absurd ((hoff 6 (by kernel_rfl)).symm.trans h0_) (by decide), fun h0_ => absurd ((hoff 8 (by kernel_rfl)).symm.trans h0_) (by decide)⟩
            refine steps_cons ?_ ?_
            · rintro b a w' ⟨v159, adz_v159, v162, adz_v162, m6_, m8_, ha, Q_HI155, Q_HB, Q_HI155_e1, Q_HO160, Q_HA_HO160, Q_HO163, Q_HA_HO163, Q_HI155_e5, Q_HI155_e11, Q_HI155_e13, Q_X6_, Q_X8_⟩ hb_ hon hoff
              refine ⟨_, rfl, fun K hK => ?_⟩
              have e12 : a.tmps[12]? = some (.pointer (some ⟨g155, 0, none⟩)) := by rw [ha]; exact (putSel_off rfl).trans rfl
              replace ha := Aside0.mk ha
              have HB := Aside0.mk Q_HB
              have HI155 := Aside0.mk (Q_HI155_e1 (hon 1 (by kernel_rfl)) hb_)
              refine goes_ Try.func41 (by kernel_rfl) rfl #[.pointer (some ⟨g155, 0, none⟩), .int .i64 8] (by rfl) rfl rfl (by first | (simp only [List.map_toArray, List.map_cons, List.map_nil, Act.eval, Array.getD_eq_getD_getElem?, Option.getD_some, e12]; done) | (simp only [List.map_toArray, List.map_cons, List.map_nil, Act.eval, Array.getD_eq_getD_getElem?, Option.getD_some, e12]; rfl)) ?_
              with_reducible refine (spec_l20Rd_pick.calls k g155 t153 t157 8 t164 t165 w _ ?side1 ?side2 A4.out).mono ?_
              (case side1 => repeat (first | (with_reducible first | exact HI155.out | apply IsS48.alloc | apply IsS48.drewN | apply IsS48.drew | apply IsS48.set_1) | exact HI155.out))
              (case side2 => repeat (first | (with_reducible first | exact HB.out | apply below_alloc | apply pw_below_drewN | apply below_drew1 | refine below_set ?_ (IsS48.ge HI155.out)) | exact HB.out))
              rintro e w15 ⟨rfl, hi, hb, hk⟩
              refine ⟨_, rfl, ?_⟩
              have n0_ := Aside0.mk (hb)
              have n1_ := Aside0.mk (hi)
              have z_HO160 := fun (h0_ : b 2 = true) => (show Kd.R (Kd.int .i64) 3 w15 w.heap.size (fun _ => True) v159 y158 from by first | exact (Kd.R_mono (Kd.R_keep (IsS48.apart (show IsS48 w _ g155 t153 t157 from by repeat (first | (with_reducible first | exact HI155.out | apply IsS48.alloc | apply IsS48.drewN | apply IsS48.drew | apply IsS48.set_1) | exact HI155.out)) (by (with_reducible repeat (first | apply Kd.R_alloc | apply Kd.R_drewN | apply Kd.R_drew)); exact (Q_HO160 h0_)) (by decide)) hk (fun _ h => h.2)) (fun _ h => h.1)) | exact Kd.R_mono (Kd.R_mono (Kd.R_keep (IsS48.apart (show IsS48 w _ g155 t153 t157 from by repeat (first | (with_reducible first | exact HI155.out | apply IsS48.alloc | apply IsS48.drewN | apply IsS48.drew | apply IsS48.set_1) | exact HI155.out)) (by (with_reducible repeat (first | apply Kd.R_alloc | apply Kd.R_drewN | apply Kd.R_drew)); exact (Q_HO160 h0_)) (by decide)) hk (fun _ h => h.2)) (fun _ h => h.1)) (fun _ h_ => by first | trivial | exact h_ | exact h_.1))
              have z_HO163 := fun (h0_ : b 3 = true) => (show Kd.R (Kd.int .i64) 3 w15 w.heap.size (fun _ => True) v162 y161 from by first | exact (Kd.R_mono (Kd.R_keep (IsS48.apart (show IsS48 w _ g155 t153 t157 from by repeat (first | (with_reducible first | exact HI155.out | apply IsS48.alloc | apply IsS48.drewN | apply IsS48.drew | apply IsS48.set_1) | exact HI155.out)) (by (with_reducible repeat (first | apply Kd.R_alloc | apply Kd.R_drewN | apply Kd.R_drew)); exact (Q_HO163 h0_)) (by decide)) hk (fun _ h => h.2)) (fun _ h => h.1)) | exact Kd.R_mono (Kd.R_mono (Kd.R_keep (IsS48.apart (show IsS48 w _ g155 t153 t157 from by repeat (first | (with_reducible first | exact HI155.out | apply IsS48.alloc | apply IsS48.drewN | apply IsS48.drew | apply IsS48.set_1) | exact HI155.out)) (by (with_reducible repeat (first | apply Kd.R_alloc | apply Kd.R_drewN | apply Kd.R_drew)); exact (Q_HO163 h0_)) (by decide)) hk (fun _ h => h.2)) (fun _ h => h.1)) (fun _ h_ => by first | trivial | exact h_ | exact h_.1))
              clear HB
              clear HI155
              have HB := n0_
              have HI155 := n1_
              clear n0_ n1_
              (try clear hb)
              (try clear hb2)
              (try clear hk)
              (try clear hi)
              refine hK.out _ _ ⟨v159, adz_v159, v162, adz_v162, m6_, m8_, (by rw [ha.out]; exact putSel_upk 3 hb_ rfl rfl rfl), fun h0_ => absurd ((hon 1 (by kernel_rfl)).symm.trans h0_) (by decide), (by repeat (first | (with_reducible first | exact HB.out | apply below_alloc | apply pw_below_drewN | apply below_drew1 | refine below_set ?_ (IsS48.ge HI155.out)) | exact HB.out)), fun _ h1_ => absurd ((up_self b 5).symm.trans h1_) (by decide), z_HO160, Q_HA_HO160, z_HO163, Q_HA_HO163, fun _ _ => (by repeat (first | (with_reducible first | exact HI155.out | apply IsS48.alloc | apply IsS48.drewN | apply IsS48.drew | apply IsS48.set_1) | exact HI155.out)), fun h0_ _ => absurd ((hoff 11 (by kernel_rfl)).symm.trans h0_) (by decide), fun h0_ => absurd ((hoff 13 (by kernel_rfl)).symm.trans h0_) (by decide), fun h0_ => absurd ((hoff 6 (by kernel_rfl)).symm.trans h0_) (by decide), fun h0_ => absurd ((hoff 8 (by kernel_rfl)).symm.trans h0_) (by decide)⟩
            refine steps_cons ?_ ?_
            · rintro b a w' ⟨v159, adz_v159, v162, adz_v162, m6_, m8_, ha, Q_HI155, Q_HB, Q_HI155_e1, Q_HO160, Q_HA_HO160, Q_HO163, Q_HA_HO163, Q_HI155_e5, Q_HI155_e11, Q_HI155_e13, Q_X6_, Q_X8_⟩ hb_ hon hoff
              refine ⟨_, rfl, fun K hK => ?_⟩
              have e11 : a.tmps[11]? = some (v162) := by rw [ha]; exact putSel_on (e := (3, 11, v162)) 2 rfl rfl (hon 3 (by kernel_rfl)) rfl
              have e13 : a.tmps[13]? = some (.int .i64 t164) := by rw [ha]; exact putSel_on (e := (5, 13, .int .i64 t164)) 3 rfl rfl (hon 5 (by kernel_rfl)) rfl
              replace ha := Aside0.mk ha
              have HB := Aside0.mk Q_HB
              have HO163 := Aside0.mk (Q_HO163 (hon 3 (by kernel_rfl)))
              have HA_HO163 := Aside0.mk (Q_HA_HO163 (hon 3 (by kernel_rfl)))
              obtain ⟨c_, hv_⟩ := HA_HO163.out
              rw [hv_] at e11
              refine value_ (w1 := w') (v := .pointer (some (adz_v162.add (t164).toNat))) (by rfl) rfl ?_ ?_
              · go_simp
                (try simp only [i64_w])
                try rfl
              refine hK.out _ _ ⟨v159, adz_v159, v162, adz_v162, (.pointer (some (adz_v162.add (t164).toNat))), m8_, (by rw [ha.out]; exact putSel_upk 4 hb_ rfl rfl rfl), fun h0_ => absurd ((hon 1 (by kernel_rfl)).symm.trans h0_) (by decide), Q_HB, fun _ h1_ => absurd ((hon 5 (by kernel_rfl)).symm.trans h1_) (by decide), Q_HO160, Q_HA_HO160, Q_HO163, Q_HA_HO163, Q_HI155_e5, Q_HI155_e11, Q_HI155_e13, fun _ => rfl, fun h0_ => absurd ((hoff 8 (by kernel_rfl)).symm.trans h0_) (by decide)⟩
            refine steps_cons ?_ ?_
            · rintro b a w' ⟨v159, adz_v159, v162, adz_v162, m6_, m8_, ha, Q_HI155, Q_HB, Q_HI155_e1, Q_HO160, Q_HA_HO160, Q_HO163, Q_HA_HO163, Q_HI155_e5, Q_HI155_e11, Q_HI155_e13, Q_X6_, Q_X8_⟩ hb_ hon hoff
              refine ⟨_, rfl, fun K hK => ?_⟩
              have e14 : a.tmps[14]? = some (m6_) := by rw [ha]; exact putSel_on (e := (6, 14, m6_)) 4 rfl rfl (hon 6 (by kernel_rfl)) rfl
              rw [Q_X6_ (hon 6 (by kernel_rfl))] at e14
              replace ha := Aside0.mk ha
              have HB := Aside0.mk Q_HB
              have HO163 := Aside0.mk (Q_HO163 (hon 3 (by kernel_rfl)))
              have HA_HO163 := Aside0.mk (Q_HA_HO163 (hon 3 (by kernel_rfl)))
              obtain ⟨c_, hv_⟩ := HA_HO163.out
              have hF_ := HO163.out
              rw [hv_] at hF_
              obtain ⟨ad_, ea_, hx_⟩ := Kd.at_int (Kd.R_reads' hF_).2.2 t164 (of_eq_true pi166) (of_eq_true qi166)
              cases ea_
              refine value_ (w1 := w') (v := .int .i64 (rd y161 t164)) (by rfl) rfl ?_ ?_
              · go_simp
                (try simp only [i64_w])
                try rfl
              refine hK.out _ _ ⟨v159, adz_v159, v162, adz_v162, m6_, m8_, (by rw [ha.out]; exact putSel_upk 5 hb_ rfl rfl rfl), fun h0_ => absurd ((hon 1 (by kernel_rfl)).symm.trans h0_) (by decide), Q_HB, fun _ h1_ => absurd ((hon 5 (by kernel_rfl)).symm.trans h1_) (by decide), Q_HO160, Q_HA_HO160, Q_HO163, Q_HA_HO163, Q_HI155_e5, Q_HI155_e11, Q_HI155_e13, Q_X6_, fun h0_ => absurd ((hoff 8 (by kernel_rfl)).symm.trans h0_) (by decide)⟩
            refine steps_cons ?_ ?_
            · rintro b a w' ⟨v159, adz_v159, v162, adz_v162, m6_, m8_, ha, Q_HI155, Q_HB, Q_HI155_e1, Q_HO160, Q_HA_HO160, Q_HO163, Q_HA_HO163, Q_HI155_e5, Q_HI155_e11, Q_HI155_e13, Q_X6_, Q_X8_⟩ hb_ hon hoff
              refine ⟨_, rfl, fun K hK => ?_⟩
              have e10 : a.tmps[10]? = some (v159) := by rw [ha]; exact putSel_on (e := (2, 10, v159)) 1 rfl rfl (hon 2 (by kernel_rfl)) rfl
              have e15 : a.tmps[15]? = some (.int .i64 (rd y161 t164)) := by rw [ha]; exact putSel_on (e := (7, 15, .int .i64 (rd y161 t164))) 5 rfl rfl (hon 7 (by kernel_rfl)) rfl
              replace ha := Aside0.mk ha
              have HB := Aside0.mk Q_HB
              have HO160 := Aside0.mk (Q_HO160 (hon 2 (by kernel_rfl)))
              have HA_HO160 := Aside0.mk (Q_HA_HO160 (hon 2 (by kernel_rfl)))
              have HO163 := Aside0.mk (Q_HO163 (hon 3 (by kernel_rfl)))
              have HA_HO163 := Aside0.mk (Q_HA_HO163 (hon 3 (by kernel_rfl)))
              obtain ⟨c_, hv_⟩ := HA_HO160.out
              rw [hv_] at e10
              refine value_ (w1 := w') (v := .pointer (some (adz_v159.add ((rd y161 t164)).toNat))) (by rfl) rfl ?_ ?_
              · go_simp
                (try simp only [i64_w])
                try rfl
              refine hK.out _ _ ⟨v159, adz_v159, v162, adz_v162, m6_, (.pointer (some (adz_v159.add ((rd y161 t164)).toNat))), (by rw [ha.out]; exact putSel_upk 6 hb_ rfl rfl rfl), fun h0_ => absurd ((hon 1 (by kernel_rfl)).symm.trans h0_) (by decide), Q_HB, fun _ h1_ => absurd ((hon 5 (by kernel_rfl)).symm.trans h1_) (by decide), Q_HO160, Q_HA_HO160, Q_HO163, Q_HA_HO163, Q_HI155_e5, Q_HI155_e11, Q_HI155_e13, Q_X6_, fun _ => rfl⟩
            refine steps_cons ?_ ?_
            · rintro b a w' ⟨v159, adz_v159, v162, adz_v162, m6_, m8_, ha, Q_HI155, Q_HB, Q_HI155_e1, Q_HO160, Q_HA_HO160, Q_HO163, Q_HA_HO163, Q_HI155_e5, Q_HI155_e11, Q_HI155_e13, Q_X6_, Q_X8_⟩ hb_ hon hoff
              refine ⟨_, rfl, fun K hK => ?_⟩
              have e16 : a.tmps[16]? = some (m8_) := by rw [ha]; exact putSel_on (e := (8, 16, m8_)) 6 rfl rfl (hon 8 (by kernel_rfl)) rfl
              rw [Q_X8_ (hon 8 (by kernel_rfl))] at e16
              replace ha := Aside0.mk ha
              have HB := Aside0.mk Q_HB
              have HO160 := Aside0.mk (Q_HO160 (hon 2 (by kernel_rfl)))
              have HA_HO160 := Aside0.mk (Q_HA_HO160 (hon 2 (by kernel_rfl)))
              have HO163 := Aside0.mk (Q_HO163 (hon 3 (by kernel_rfl)))
              have HA_HO163 := Aside0.mk (Q_HA_HO163 (hon 3 (by kernel_rfl)))
              obtain ⟨c_, hv_⟩ := HA_HO160.out
              have hF_ := HO160.out
              rw [hv_] at hF_
              obtain ⟨ad_, ea_, hx_⟩ := Kd.at_int (Kd.R_reads' hF_).2.2 (rd y161 t164) (of_eq_true pi167) (of_eq_true qi167)
              cases ea_
              refine value_ (w1 := w') (v := .int .i64 (rd y158 (rd y161 t164))) (by rfl) rfl ?_ ?_
              · go_simp
                (try simp only [i64_w])
                try rfl
              refine hK.out _ _ ⟨v159, adz_v159, v162, adz_v162, m6_, m8_, (by rw [ha.out]; exact putSel_upk 7 hb_ rfl rfl rfl), fun h0_ => absurd ((hon 1 (by kernel_rfl)).symm.trans h0_) (by decide), Q_HB, fun _ h1_ => absurd ((hon 5 (by kernel_rfl)).symm.trans h1_) (by decide), Q_HO160, Q_HA_HO160, Q_HO163, Q_HA_HO163, Q_HI155_e5, Q_HI155_e11, Q_HI155_e13, Q_X6_, Q_X8_⟩
            refine steps_cons ?_ ?_
            · rintro b a w' ⟨v159, adz_v159, v162, adz_v162, m6_, m8_, ha, Q_HI155, Q_HB, Q_HI155_e1, Q_HO160, Q_HA_HO160, Q_HO163, Q_HA_HO163, Q_HI155_e5, Q_HI155_e11, Q_HI155_e13, Q_X6_, Q_X8_⟩ hb_ hon hoff
              refine ⟨_, rfl, fun K hK => ?_⟩
              have e18 : a.tmps[18]? = some (.pointer (some ⟨g155, 0, none⟩)) := by rw [ha]; exact (putSel_off rfl).trans rfl
              replace ha := Aside0.mk ha
              have HB := Aside0.mk Q_HB
              have HI155 := Aside0.mk (Q_HI155_e5 (hon 5 (by kernel_rfl)) hb_)
              refine goes_ Try.func39 (by kernel_rfl) rfl #[.pointer (some ⟨g155, 0, none⟩), .int .i64 12] (by rfl) rfl rfl (by first | (simp only [List.map_toArray, List.map_cons, List.map_nil, Act.eval, Array.getD_eq_getD_getElem?, Option.getD_some, e18]; done) | (simp only [List.map_toArray, List.map_cons, List.map_nil, Act.eval, Array.getD_eq_getD_getElem?, Option.getD_some, e18]; rfl)) ?_
              with_reducible refine (spec_l20Word.calls k g155 t153 t165 12 t168 t169 w _ ?side1 ?side2 A9.out).mono ?_
              (case side1 => repeat (first | (with_reducible first | exact HI155.out | apply IsS48.alloc | apply IsS48.drewN | apply IsS48.drew | apply IsS48.set_1) | exact HI155.out))
              (case side2 => repeat (first | (with_reducible first | exact HB.out | apply below_alloc | apply pw_below_drewN | apply below_drew1 | refine below_set ?_ (IsS48.ge HI155.out)) | exact HB.out))
              rintro e w16 ⟨rfl, hi, hb, hk⟩
              refine ⟨_, rfl, ?_⟩
              have n0_ := Aside0.mk (hb)
              have n1_ := Aside0.mk (hi)
              have z_HO160 := fun (h0_ : b 2 = true) => (show Kd.R (Kd.int .i64) 3 w16 w.heap.size (fun _ => True) v159 y158 from by first | exact (Kd.R_mono (Kd.R_keep (IsS48.apart (show IsS48 w _ g155 t153 t165 from by repeat (first | (with_reducible first | exact HI155.out | apply IsS48.alloc | apply IsS48.drewN | apply IsS48.drew | apply IsS48.set_1) | exact HI155.out)) (by (with_reducible repeat (first | apply Kd.R_alloc | apply Kd.R_drewN | apply Kd.R_drew)); exact (Q_HO160 h0_)) (by decide)) hk (fun _ h => h.2)) (fun _ h => h.1)) | exact Kd.R_mono (Kd.R_mono (Kd.R_keep (IsS48.apart (show IsS48 w _ g155 t153 t165 from by repeat (first | (with_reducible first | exact HI155.out | apply IsS48.alloc | apply IsS48.drewN | apply IsS48.drew | apply IsS48.set_1) | exact HI155.out)) (by (with_reducible repeat (first | apply Kd.R_alloc | apply Kd.R_drewN | apply Kd.R_drew)); exact (Q_HO160 h0_)) (by decide)) hk (fun _ h => h.2)) (fun _ h => h.1)) (fun _ h_ => by first | trivial | exact h_ | exact h_.1))
              have z_HO163 := fun (h0_ : b 3 = true) => (show Kd.R (Kd.int .i64) 3 w16 w.heap.size (fun _ => True) v162 y161 from by first | exact (Kd.R_mono (Kd.R_keep (IsS48.apart (show IsS48 w _ g155 t153 t165 from by repeat (first | (with_reducible first | exact HI155.out | apply IsS48.alloc | apply IsS48.drewN | apply IsS48.drew | apply IsS48.set_1) | exact HI155.out)) (by (with_reducible repeat (first | apply Kd.R_alloc | apply Kd.R_drewN | apply Kd.R_drew)); exact (Q_HO163 h0_)) (by decide)) hk (fun _ h => h.2)) (fun _ h => h.1)) | exact Kd.R_mono (Kd.R_mono (Kd.R_keep (IsS48.apart (show IsS48 w _ g155 t153 t165 from by repeat (first | (with_reducible first | exact HI155.out | apply IsS48.alloc | apply IsS48.drewN | apply IsS48.drew | apply IsS48.set_1) | exact HI155.out)) (by (with_reducible repeat (first | apply Kd.R_alloc | apply Kd.R_drewN | apply Kd.R_drew)); exact (Q_HO163 h0_)) (by decide)) hk (fun _ h => h.2)) (fun _ h => h.1)) (fun _ h_ => by first | trivial | exact h_ | exact h_.1))
              clear HB
              clear HI155
              have HB := n0_
              have HI155 := n1_
              clear n0_ n1_
              (try clear hb)
              (try clear hb2)
              (try clear hk)
              (try clear hi)
              refine hK.out _ _ ⟨v159, adz_v159, v162, adz_v162, m6_, m8_, (by rw [ha.out]; exact putSel_upk 8 hb_ rfl rfl rfl), fun h0_ => absurd ((hon 1 (by kernel_rfl)).symm.trans h0_) (by decide), (by repeat (first | (with_reducible first | exact HB.out | apply below_alloc | apply pw_below_drewN | apply below_drew1 | refine below_set ?_ (IsS48.ge HI155.out)) | exact HB.out)), fun _ h1_ => absurd ((hon 5 (by kernel_rfl)).symm.trans h1_) (by decide), z_HO160, Q_HA_HO160, z_HO163, Q_HA_HO163, fun _ h1_ => absurd ((up_self b 11).symm.trans h1_) (by decide), fun _ _ => (by repeat (first | (with_reducible first | exact HI155.out | apply IsS48.alloc | apply IsS48.drewN | apply IsS48.drew | apply IsS48.set_1) | exact HI155.out)), fun h0_ => absurd ((hoff 13 (by kernel_rfl)).symm.trans h0_) (by decide), Q_X6_, Q_X8_⟩
            refine steps_cons ?_ ?_
            · rintro b a w' ⟨v159, adz_v159, v162, adz_v162, m6_, m8_, ha, Q_HI155, Q_HB, Q_HI155_e1, Q_HO160, Q_HA_HO160, Q_HO163, Q_HA_HO163, Q_HI155_e5, Q_HI155_e11, Q_HI155_e13, Q_X6_, Q_X8_⟩ hb_ hon hoff
              refine ⟨_, rfl, fun K hK => ?_⟩
              have e20 : a.tmps[20]? = some (.pointer (some ⟨g155, 0, none⟩)) := by rw [ha]; exact (putSel_off rfl).trans rfl
              replace ha := Aside0.mk ha
              have HB := Aside0.mk Q_HB
              have HI155 := Aside0.mk (Q_HI155_e11 (hon 11 (by kernel_rfl)) hb_)
              refine goes_ Try.func39 (by kernel_rfl) rfl #[.pointer (some ⟨g155, 0, none⟩), .int .i64 12] (by rfl) rfl rfl (by first | (simp only [List.map_toArray, List.map_cons, List.map_nil, Act.eval, Array.getD_eq_getD_getElem?, Option.getD_some, e20]; done) | (simp only [List.map_toArray, List.map_cons, List.map_nil, Act.eval, Array.getD_eq_getD_getElem?, Option.getD_some, e20]; rfl)) ?_
              with_reducible refine (spec_l20Word.calls k g155 t153 t169 12 t170 t171 w _ ?side1 ?side2 A10.out).mono ?_
              (case side1 => repeat (first | (with_reducible first | exact HI155.out | apply IsS48.alloc | apply IsS48.drewN | apply IsS48.drew | apply IsS48.set_1) | exact HI155.out))
              (case side2 => repeat (first | (with_reducible first | exact HB.out | apply below_alloc | apply pw_below_drewN | apply below_drew1 | refine below_set ?_ (IsS48.ge HI155.out)) | exact HB.out))
              rintro e w17 ⟨rfl, hi, hb, hk⟩
              refine ⟨_, rfl, ?_⟩
              have n0_ := Aside0.mk (hb)
              have n1_ := Aside0.mk (hi)
              have z_HO160 := fun (h0_ : b 2 = true) => (show Kd.R (Kd.int .i64) 3 w17 w.heap.size (fun _ => True) v159 y158 from by first | exact (Kd.R_mono (Kd.R_keep (IsS48.apart (show IsS48 w _ g155 t153 t169 from by repeat (first | (with_reducible first | exact HI155.out | apply IsS48.alloc | apply IsS48.drewN | apply IsS48.drew | apply IsS48.set_1) | exact HI155.out)) (by (with_reducible repeat (first | apply Kd.R_alloc | apply Kd.R_drewN | apply Kd.R_drew)); exact (Q_HO160 h0_)) (by decide)) hk (fun _ h => h.2)) (fun _ h => h.1)) | exact Kd.R_mono (Kd.R_mono (Kd.R_keep (IsS48.apart (show IsS48 w _ g155 t153 t169 from by repeat (first | (with_reducible first | exact HI155.out | apply IsS48.alloc | apply IsS48.drewN | apply IsS48.drew | apply IsS48.set_1) | exact HI155.out)) (by (with_reducible repeat (first | apply Kd.R_alloc | apply Kd.R_drewN | apply Kd.R_drew)); exact (Q_HO160 h0_)) (by decide)) hk (fun _ h => h.2)) (fun _ h => h.1)) (fun _ h_ => by first | trivial | exact h_ | exact h_.1))
              have z_HO163 := fun (h0_ : b 3 = true) => (show Kd.R (Kd.int .i64) 3 w17 w.heap.size (fun _ => True) v162 y161 from by first | exact (Kd.R_mono (Kd.R_keep (IsS48.apart (show IsS48 w _ g155 t153 t169 from by repeat (first | (with_reducible first | exact HI155.out | apply IsS48.alloc | apply IsS48.drewN | apply IsS48.drew | apply IsS48.set_1) | exact HI155.out)) (by (with_reducible repeat (first | apply Kd.R_alloc | apply Kd.R_drewN | apply Kd.R_drew)); exact (Q_HO163 h0_)) (by decide)) hk (fun _ h => h.2)) (fun _ h => h.1)) | exact Kd.R_mono (Kd.R_mono (Kd.R_keep (IsS48.apart (show IsS48 w _ g155 t153 t169 from by repeat (first | (with_reducible first | exact HI155.out | apply IsS48.alloc | apply IsS48.drewN | apply IsS48.drew | apply IsS48.set_1) | exact HI155.out)) (by (with_reducible repeat (first | apply Kd.R_alloc | apply Kd.R_drewN | apply Kd.R_drew)); exact (Q_HO163 h0_)) (by decide)) hk (fun _ h => h.2)) (fun _ h => h.1)) (fun _ h_ => by first | trivial | exact h_ | exact h_.1))
              clear HB
              clear HI155
              have HB := n0_
              have HI155 := n1_
              clear n0_ n1_
              (try clear hb)
              (try clear hb2)
              (try clear hk)
              (try clear hi)
              refine hK.out _ _ ⟨v159, adz_v159, v162, adz_v162, m6_, m8_, (by rw [ha.out]; exact putSel_upk 9 hb_ rfl rfl rfl), fun h0_ => absurd ((hon 1 (by kernel_rfl)).symm.trans h0_) (by decide), (by repeat (first | (with_reducible first | exact HB.out | apply below_alloc | apply pw_below_drewN | apply below_drew1 | refine below_set ?_ (IsS48.ge HI155.out)) | exact HB.out)), fun _ h1_ => absurd ((hon 5 (by kernel_rfl)).symm.trans h1_) (by decide), z_HO160, Q_HA_HO160, z_HO163, Q_HA_HO163, fun _ h1_ => absurd ((hon 11 (by kernel_rfl)).symm.trans h1_) (by decide), fun _ h1_ => absurd ((up_self b 13).symm.trans h1_) (by decide), fun _ => (by repeat (first | (with_reducible first | exact HI155.out | apply IsS48.alloc | apply IsS48.drewN | apply IsS48.drew | apply IsS48.set_1) | exact HI155.out)), Q_X6_, Q_X8_⟩
            refine steps_cons ?_ ?_
            · rintro b a w' ⟨v159, adz_v159, v162, adz_v162, m6_, m8_, ha, Q_HI155, Q_HB, Q_HI155_e1, Q_HO160, Q_HA_HO160, Q_HO163, Q_HA_HO163, Q_HI155_e5, Q_HI155_e11, Q_HI155_e13, Q_X6_, Q_X8_⟩ hb_ hon hoff
              refine ⟨_, rfl, fun K hK => ?_⟩
              have e17 : a.tmps[17]? = some (.int .i64 (rd y158 (rd y161 t164))) := by rw [ha]; exact putSel_on (e := (9, 17, .int .i64 (rd y158 (rd y161 t164)))) 7 rfl rfl (hon 9 (by kernel_rfl)) rfl
              replace ha := Aside0.mk ha
              have HB := Aside0.mk Q_HB
              have HO160 := Aside0.mk (Q_HO160 (hon 2 (by kernel_rfl)))
              have HA_HO160 := Aside0.mk (Q_HA_HO160 (hon 2 (by kernel_rfl)))
              have HO163 := Aside0.mk (Q_HO163 (hon 3 (by kernel_rfl)))
              have HA_HO163 := Aside0.mk (Q_HA_HO163 (hon 3 (by kernel_rfl)))
              have HI155 := Aside0.mk (Q_HI155_e13 (hon 13 (by kernel_rfl)))
              refine value_ (w1 := w') (v := .int .i64 (rd y158 (rd y161 t164))) (by rfl) rfl ?_ ?_
              · go_simp
                (try simp only [i64_w])
                try rfl
              refine hK.out _ _ ⟨v159, adz_v159, v162, adz_v162, m6_, m8_, (by rw [ha.out]; exact putSel_upk 10 hb_ rfl rfl rfl), fun h0_ => absurd ((hon 1 (by kernel_rfl)).symm.trans h0_) (by decide), Q_HB, fun _ h1_ => absurd ((hon 5 (by kernel_rfl)).symm.trans h1_) (by decide), Q_HO160, Q_HA_HO160, Q_HO163, Q_HA_HO163, fun _ h1_ => absurd ((hon 11 (by kernel_rfl)).symm.trans h1_) (by decide), fun _ h1_ => absurd ((hon 13 (by kernel_rfl)).symm.trans h1_) (by decide), Q_HI155_e13, Q_X6_, Q_X8_⟩
            refine steps_cons ?_ ?_
            · rintro b a w' ⟨v159, adz_v159, v162, adz_v162, m6_, m8_, ha, Q_HI155, Q_HB, Q_HI155_e1, Q_HO160, Q_HA_HO160, Q_HO163, Q_HA_HO163, Q_HI155_e5, Q_HI155_e11, Q_HI155_e13, Q_X6_, Q_X8_⟩ hb_ hon hoff
              refine ⟨_, rfl, fun K hK => ?_⟩
              have e19 : a.tmps[19]? = some (.int .i64 t168) := by rw [ha]; exact putSel_on (e := (11, 19, .int .i64 t168)) 8 rfl rfl (hon 11 (by kernel_rfl)) rfl
              replace ha := Aside0.mk ha
              have HB := Aside0.mk Q_HB
              have HO160 := Aside0.mk (Q_HO160 (hon 2 (by kernel_rfl)))
              have HA_HO160 := Aside0.mk (Q_HA_HO160 (hon 2 (by kernel_rfl)))
              have HO163 := Aside0.mk (Q_HO163 (hon 3 (by kernel_rfl)))
              have HA_HO163 := Aside0.mk (Q_HA_HO163 (hon 3 (by kernel_rfl)))
              have HI155 := Aside0.mk (Q_HI155_e13 (hon 13 (by kernel_rfl)))
              refine value_ (w1 := w') (v := .int .i64 t168) (by rfl) rfl ?_ ?_
              · go_simp
                (try simp only [i64_w])
                try rfl
              refine hK.out _ _ ⟨v159, adz_v159, v162, adz_v162, m6_, m8_, (by rw [ha.out]; exact putSel_upk 11 hb_ rfl rfl rfl), fun h0_ => absurd ((hon 1 (by kernel_rfl)).symm.trans h0_) (by decide), Q_HB, fun _ h1_ => absurd ((hon 5 (by kernel_rfl)).symm.trans h1_) (by decide), Q_HO160, Q_HA_HO160, Q_HO163, Q_HA_HO163, fun _ h1_ => absurd ((hon 11 (by kernel_rfl)).symm.trans h1_) (by decide), fun _ h1_ => absurd ((hon 13 (by kernel_rfl)).symm.trans h1_) (by decide), Q_HI155_e13, Q_X6_, Q_X8_⟩
            refine steps_cons ?_ ?_
            · rintro b a w' ⟨v159, adz_v159, v162, adz_v162, m6_, m8_, ha, Q_HI155, Q_HB, Q_HI155_e1, Q_HO160, Q_HA_HO160, Q_HO163, Q_HA_HO163, Q_HI155_e5, Q_HI155_e11, Q_HI155_e13, Q_X6_, Q_X8_⟩ hb_ hon hoff
              refine ⟨_, rfl, fun K hK => ?_⟩
              have e21 : a.tmps[21]? = some (.int .i64 t170) := by rw [ha]; exact putSel_on (e := (13, 21, .int .i64 t170)) 9 rfl rfl (hon 13 (by kernel_rfl)) rfl
              replace ha := Aside0.mk ha
              have HB := Aside0.mk Q_HB
              have HO160 := Aside0.mk (Q_HO160 (hon 2 (by kernel_rfl)))
              have HA_HO160 := Aside0.mk (Q_HA_HO160 (hon 2 (by kernel_rfl)))
              have HO163 := Aside0.mk (Q_HO163 (hon 3 (by kernel_rfl)))
              have HA_HO163 := Aside0.mk (Q_HA_HO163 (hon 3 (by kernel_rfl)))
              have HI155 := Aside0.mk (Q_HI155_e13 (hon 13 (by kernel_rfl)))
              refine value_ (w1 := w') (v := .int .i64 t170) (by rfl) rfl ?_ ?_
              · go_simp
                (try simp only [i64_w])
                try rfl
              refine hK.out _ _ ⟨v159, adz_v159, v162, adz_v162, m6_, m8_, (by rw [ha.out]; exact putSel_upk 12 hb_ rfl rfl rfl), fun h0_ => absurd ((hon 1 (by kernel_rfl)).symm.trans h0_) (by decide), Q_HB, fun _ h1_ => absurd ((hon 5 (by kernel_rfl)).symm.trans h1_) (by decide), Q_HO160, Q_HA_HO160, Q_HO163, Q_HA_HO163, fun _ h1_ => absurd ((hon 11 (by kernel_rfl)).symm.trans h1_) (by decide), fun _ h1_ => absurd ((hon 13 (by kernel_rfl)).symm.trans h1_) (by decide), Q_HI155_e13, Q_X6_, Q_X8_⟩
            exact steps_nil
          rintro b a w23 hall ⟨v159, adz_v159, v162, adz_v162, m6_, m8_, ha, Q_HI155, Q_HB, Q_HI155_e1, Q_HO160, Q_HA_HO160, Q_HO163, Q_HA_HO163, Q_HI155_e5, Q_HI155_e11, Q_HI155_e13, Q_X6_, Q_X8_⟩
          clear HB HI155
          have hb1_ := hall 1 (by kernel_rfl)
          have hb2_ := hall 2 (by kernel_rfl)
          have hb3_ := hall 3 (by kernel_rfl)
          have hb5_ := hall 5 (by kernel_rfl)
          have hb6_ := hall 6 (by kernel_rfl)
          have hb7_ := hall 7 (by kernel_rfl)
          have hb8_ := hall 8 (by kernel_rfl)
          have hb9_ := hall 9 (by kernel_rfl)
          have hb11_ := hall 11 (by kernel_rfl)
          have hb13_ := hall 13 (by kernel_rfl)
          have hb14_ := hall 14 (by kernel_rfl)
          have hb15_ := hall 15 (by kernel_rfl)
          have hb16_ := hall 16 (by kernel_rfl)
          subst ha
          obtain rfl := Q_X6_ hb6_
          obtain rfl := Q_X8_ hb8_
          simp only [putSel, hb1_, hb2_, hb3_, hb5_, hb6_, hb7_, hb8_, hb9_, hb11_, hb13_, hb14_, hb15_, hb16_, if_true, Act.put, List.setIfInBounds_toArray, List.set_cons_zero, List.set_cons_succ]
          clear Q_HI155
          have HB := Aside0.mk Q_HB
          clear Q_HB
          clear Q_HI155_e1
          have HO160 := Aside0.mk (Q_HO160 hb2_)
          clear Q_HO160
          have HA_HO160 := Aside0.mk (Q_HA_HO160 hb2_)
          clear Q_HA_HO160
          have HO163 := Aside0.mk (Q_HO163 hb3_)
          clear Q_HO163
          have HA_HO163 := Aside0.mk (Q_HA_HO163 hb3_)
          clear Q_HA_HO163
          clear Q_HI155_e5
          clear Q_HI155_e11
          have HI155 := Aside0.mk (Q_HI155_e13 hb13_)
          clear Q_HI155_e13
          clear hall hb1_ hb2_ hb3_ hb5_ hb6_ hb7_ hb8_ hb9_ hb11_ hb13_ hb14_ hb15_ hb16_
          obtain ⟨co24, eo24⟩ := HA_HO160.out
          clear HA_HO160
          subst eo24
          obtain ⟨co25, eo25⟩ := HA_HO163.out
          clear HA_HO163
          subst eo25
          try go_wp2
          go_ret3
          exact ⟨by first | rfl | (simp [errW_none, errW_some] <;> rfl) | (simp [*, errW_none, errW_some] <;> rfl), by repeat (first | (with_reducible first | exact HB.out | apply below_alloc | apply pw_below_drewN | apply below_drew1 | refine below_set ?_ (IsS48.ge HI155.out)) | exact HB.out)⟩
        · rw [if_neg c8] at H
          exact absurd H (by simp)
      · rw [if_neg c7] at H
        exact absurd H (by simp)
    · rw [if_neg c6] at H
      exact absurd H (by simp)
  · rw [if_neg c5] at H
    exact absurd H (by simp)

/-! ### laws_FnAluShift: function 15 -/
mutual
def laws_FnAluShift.j0 : Nat → Int → Int → Bool → Option (Bool)
  | 0, _, _, _ => none
  | k + 1, x4, x5, x35 => if x35 = true then ((laws_haOk.f).bind fun t179 => (some t179)) else (laws_FnAluShift.l0 k x4 x5 (Int.tmod x5 16) x4 x4 0)
def laws_FnAluShift.l0 : Nat → Int → Int → Int → Int → Int → Int → Option (Bool)
  | 0, _, _, _, _, _, _ => none
  | k + 1, x4, x5, x6, x7, x8, x9 => if x9 < x6 then ((impl_AluDo.f k 0 x7 x7).bind fun t180 => (laws_FnAluShift.l0 k x4 x5 x6 t180 (wrap64 (Int.tdiv x8 2)) (wrap64 (x9 + 1)))) else ((impl_AluDo.f k 6 x4 x5).bind fun t181 => (if t181 = x7 then ((impl_AluDo.f k 7 x4 x5).bind fun t182 => (if t182 = x8 then ((impl_AluDo.f k 6 x4 x6).bind fun t183 => (if t183 = x7 then ((impl_AluDo.f k 7 x4 x6).bind fun t184 => (if t184 = x8 then (if 0 ≤ x6 then (if (shl .i64 x4 x6) ≥ 65536 then (some true) else ((impl_AluDo.f k 7 x7 x6).bind fun t185 => (some (t185 == x4)))) else (none)) else (some false))) else (some false))) else (some false))) else (some false)))
end
def laws_FnAluShift.f (k : Nat) (l0 : List Int) : Option (Bool) := if (l0.length : Int) > 1048576 then (some true) else ((spec_DrawAluDo.f k l0).bind fun bt172 => ((impl_AluDo.f k bt172.1 bt172.2.1 bt172.2.2).bind fun t175 => ((spec_AluDo.f k bt172.1 bt172.2.1 bt172.2.2).bind fun t176 => (if t175 = t176 then ((spec_WrdOk.f bt172.2.1).bind fun t177 => (if t177 = true then ((spec_WrdOk.f bt172.2.2).bind fun t178 => (laws_FnAluShift.j0 k bt172.2.1 bt172.2.2 (!t178))) else (laws_FnAluShift.j0 k bt172.2.1 bt172.2.2 true))) else (some false)))))
theorem laws_FnAluShift.mono_l : ∀ k, (∀ y0 y1 y2, LeO (laws_FnAluShift.j0 k y0 y1 y2) (laws_FnAluShift.j0 (k + 1) y0 y1 y2)) ∧ (∀ y0 y1 y2 y3 y4 y5, LeO (laws_FnAluShift.l0 k y0 y1 y2 y3 y4 y5) (laws_FnAluShift.l0 (k + 1) y0 y1 y2 y3 y4 y5))
  | 0 => ⟨fun _ _ _ r h => by simp [laws_FnAluShift.j0] at h, fun _ _ _ _ _ _ r h => by simp [laws_FnAluShift.l0] at h⟩
  | k + 1 => by
    obtain ⟨ih0, ih1⟩ := laws_FnAluShift.mono_l k
    refine ⟨?_, ?_⟩
    · intro y0 y1 y2
      unfold laws_FnAluShift.j0
      repeat' first
      | (with_reducible exact ih0 _ _ _)
      | (with_reducible exact ih1 _ _ _ _ _ _)
      | (with_reducible exact impl_AluDo.mono _ _ _ _)
      | (with_reducible exact spec_AluDo.mono _ _ _ _)
      | (with_reducible exact spec_DrawAluDo.mono _ _)
      | (with_reducible exact LeO.refl _)
      | (with_reducible exact LeO.none _)
      | (with_reducible refine LeO.ite ?_ ?_)
      | (with_reducible refine LeO.bind ?_ (fun _ => ?_))
      | exact ih0 _ _ _
      | exact ih1 _ _ _ _ _ _
      | exact impl_AluDo.mono _ _ _ _
      | exact spec_AluDo.mono _ _ _ _
      | exact spec_DrawAluDo.mono _ _
      | exact LeO.none _
      | refine LeO.ite ?_ ?_
      | refine LeO.bind ?_ (fun _ => ?_)
    · intro y0 y1 y2 y3 y4 y5
      unfold laws_FnAluShift.l0
      repeat' first
      | (with_reducible exact ih0 _ _ _)
      | (with_reducible exact ih1 _ _ _ _ _ _)
      | (with_reducible exact impl_AluDo.mono _ _ _ _)
      | (with_reducible exact spec_AluDo.mono _ _ _ _)
      | (with_reducible exact spec_DrawAluDo.mono _ _)
      | (with_reducible exact LeO.refl _)
      | (with_reducible exact LeO.none _)
      | (with_reducible refine LeO.ite ?_ ?_)
      | (with_reducible refine LeO.bind ?_ (fun _ => ?_))
      | exact ih0 _ _ _
      | exact ih1 _ _ _ _ _ _
      | exact impl_AluDo.mono _ _ _ _
      | exact spec_AluDo.mono _ _ _ _
      | exact spec_DrawAluDo.mono _ _
      | exact LeO.none _
      | refine LeO.ite ?_ ?_
      | refine LeO.bind ?_ (fun _ => ?_)
theorem laws_FnAluShift.mono : ∀ a0 k, LeO (laws_FnAluShift.f k a0) (laws_FnAluShift.f (k + 1) a0) := by
  intro a0 k
  obtain ⟨ih0, ih1⟩ := laws_FnAluShift.mono_l k
  unfold laws_FnAluShift.f
  repeat' first
      | (with_reducible exact ih0 _ _ _)
      | (with_reducible exact ih1 _ _ _ _ _ _)
      | (with_reducible exact impl_AluDo.mono _ _ _ _)
      | (with_reducible exact spec_AluDo.mono _ _ _ _)
      | (with_reducible exact spec_DrawAluDo.mono _ _)
      | (with_reducible exact LeO.refl _)
      | (with_reducible exact LeO.none _)
      | (with_reducible refine LeO.ite ?_ ?_)
      | (with_reducible refine LeO.bind ?_ (fun _ => ?_))
      | exact ih0 _ _ _
      | exact ih1 _ _ _ _ _ _
      | exact impl_AluDo.mono _ _ _ _
      | exact spec_AluDo.mono _ _ _ _
      | exact spec_DrawAluDo.mono _ _
      | exact LeO.none _
      | refine LeO.ite ?_ ?_
      | refine LeO.bind ?_ (fun _ => ?_)
set_option maxHeartbeats 8000000 in
set_option maxRecDepth 100000 in
theorem laws_FnAluShift.calls (k : Nat) (A0 : Option Addr) (c0 : Nat) (l0 : List Int) (r : Bool) (w : World) (hr0 : Kd.C (Kd.int .u8) w A0 l0.length l0) (hc0 : l0.length ≤ c0) (h : laws_FnAluShift.f k l0 = some r) :
    Calls Try.prog 15 #[.slice A0 l0.length c0] w fun e w' => e = .returned (.bool r) ∧ Below w.heap.size w w' := by
  have HR0 := Aside0.mk hr0
  have HC0 := Aside0.mk hc0
  clear hr0 hc0
  have HB := Aside0.mk (Below.refl w.heap.size w)
  have H : (if (l0.length : Int) > 1048576 then (some true) else ((spec_DrawAluDo.f k l0).bind fun bt172 => ((impl_AluDo.f k bt172.1 bt172.2.1 bt172.2.2).bind fun t175 => ((spec_AluDo.f k bt172.1 bt172.2.1 bt172.2.2).bind fun t176 => (if t175 = t176 then ((spec_WrdOk.f bt172.2.1).bind fun t177 => (if t177 = true then ((spec_WrdOk.f bt172.2.2).bind fun t178 => (laws_FnAluShift.j0 k bt172.2.1 bt172.2.2 (!t178))) else (laws_FnAluShift.j0 k bt172.2.1 bt172.2.2 true))) else (some false)))))) = some r := h
  clear h
  by_cases c2 : (l0.length : Int) > 1048576
  · rw [if_pos c2] at H
    have c2b0 : decide (1048576 < (l0.length : Int)) = true := decide_eq_true c2
    have c2b1 : decide (1048576 < l0.length) = true := decide_eq_true (by omega)
    clear c2
    obtain rfl := Option.some.inj H
    go_enter Try.func15, Try.ntmps15
    go_wp2
    go_ret
    exact ⟨by first | rfl | (simp [errW_none, errW_some] <;> rfl) | (simp [*, errW_none, errW_some] <;> rfl), by repeat (first | (with_reducible first | exact HB.out | apply below_alloc | apply pw_below_drewN | apply below_drew1) | exact HB.out)⟩
  · rw [if_neg c2] at H
    have c2b0 : decide (1048576 < (l0.length : Int)) = false := decide_eq_false c2
    have c2b1 : decide (1048576 < l0.length) = false := decide_eq_false (by omega)
    clear c2
    replace H := Option.bind_eq_some_iff.mp H
    obtain ⟨⟨t172, t173, t174⟩, A30, H⟩ := H
    replace H : ((impl_AluDo.f k t172 t173 t174).bind fun t175 => ((spec_AluDo.f k t172 t173 t174).bind fun t176 => (if t175 = t176 then ((spec_WrdOk.f t173).bind fun t177 => (if t177 = true then ((spec_WrdOk.f t174).bind fun t178 => (laws_FnAluShift.j0 k t173 t174 (!t178))) else (laws_FnAluShift.j0 k t173 t174 true))) else (some false)))) = some r := H
    have A3 := Aside0.mk A30
    clear A30
    replace H := Option.bind_eq_some_iff.mp H
    obtain ⟨t175, A40, H⟩ := H
    replace H : ((spec_AluDo.f k t172 t173 t174).bind fun t176 => (if t175 = t176 then ((spec_WrdOk.f t173).bind fun t177 => (if t177 = true then ((spec_WrdOk.f t174).bind fun t178 => (laws_FnAluShift.j0 k t173 t174 (!t178))) else (laws_FnAluShift.j0 k t173 t174 true))) else (some false))) = some r := H
    have A4 := Aside0.mk A40
    clear A40
    replace H := Option.bind_eq_some_iff.mp H
    obtain ⟨t176, A50, H⟩ := H
    replace H : (if t175 = t176 then ((spec_WrdOk.f t173).bind fun t177 => (if t177 = true then ((spec_WrdOk.f t174).bind fun t178 => (laws_FnAluShift.j0 k t173 t174 (!t178))) else (laws_FnAluShift.j0 k t173 t174 true))) else (some false)) = some r := H
    have A5 := Aside0.mk A50
    clear A50
    by_cases c6 : t175 = t176
    · rw [if_pos c6] at H
      have c6b0 : (t175 == t176) = true := beq_iff_eq.mpr c6
      have c6b1 : (t175 != t176) = false := bne_eq_false_iff_eq.mpr c6
      clear c6
      have HC7 := Aside0.mk H
      clear H
      go_enter Try.func15, Try.ntmps15
      go_upto_region 6 with (first | ((with_reducible refine gate_callee (f := 34) rfl ?_); refine goesL_ (some 15) rfl rfl Try.func34 (by kernel_rfl) rfl #[.slice A0 l0.length c0] rfl (by (try simp only [List.map_toArray, List.map_cons, List.map_nil]); first | done | rfl | (simp only [List.length_drop, List.length_take]; rfl)) ?_; (with_reducible refine (spec_DrawAluDo.calls k _ _ l0 t172 t173 t174 _ ?side1 ?side2 A3.out).mono ?_); (case side1 => repeat (first | exact HR0.out | (with_reducible refine Kd.C_alloc ?_ _) | (with_reducible refine Kd.C_drewN ?_ _) | (with_reducible refine Kd.C_drew ?_))); (case side2 => exact HC0.out); rintro e w8 ⟨rfl, hb⟩; refine ⟨_, rfl, ?_⟩; have n0_ := Aside0.mk (below_step (by repeat (first | (with_reducible first | exact HB.out | apply below_alloc | apply pw_below_drewN | apply below_drew1) | exact HB.out)) hb); clear HB; have HB := n0_; clear n0_; (try clear hb); (try clear hb2); (try clear hk); (try clear hi)) | ((with_reducible refine gate_callee (f := 32) rfl ?_); refine goesL_ (some 22) rfl rfl Try.func32 (by kernel_rfl) rfl #[.int .i64 t172, .int .i64 t173, .int .i64 t174] rfl (by (try simp only [List.map_toArray, List.map_cons, List.map_nil]); first | done | rfl | (simp only [List.length_drop, List.length_take]; rfl)) ?_; (with_reducible refine (impl_AluDo.calls k t172 t173 t174 t175 _ A4.out).mono ?_); rintro e w' ⟨rfl, ⟨nd, rfl⟩⟩; refine ⟨_, rfl, ?_⟩) | ((with_reducible refine gate_callee (f := 31) rfl ?_); refine goesL_ (some 26) rfl rfl Try.func31 (by kernel_rfl) rfl #[.int .i64 t172, .int .i64 t173, .int .i64 t174] rfl (by (try simp only [List.map_toArray, List.map_cons, List.map_nil]); first | done | rfl | (simp only [List.length_drop, List.length_take]; rfl)) ?_; (with_reducible refine (spec_AluDo.calls k t172 t173 t174 t176 _ A5.out).mono ?_); rintro e w' ⟨rfl, ⟨nd, rfl⟩⟩; refine ⟨_, rfl, ?_⟩))
      (try simp only [Act.put, List.setIfInBounds_toArray, List.set_cons_zero, List.set_cons_succ])
      go_cut [35] (fun v35 wc => ∃ (kq : Nat) (x35_6 : Bool), v35 = .bool x35_6 ∧ Aside0 (laws_FnAluShift.j0 kq t173 t174 x35_6 = some r) ∧ Aside0 (kq ≤ k) ∧ Aside0 (Below w.heap.size w wc))
      case first =>
        have H := HC7.out
        clear HC7
        replace H := Option.bind_eq_some_iff.mp H
        obtain ⟨t177, A90, H⟩ := H
        replace H : (if t177 = true then ((spec_WrdOk.f t174).bind fun t178 => (laws_FnAluShift.j0 k t173 t174 (!t178))) else (laws_FnAluShift.j0 k t173 t174 true)) = some r := H
        have A9 := Aside0.mk A90
        clear A90
        by_cases c10 : t177 = true
        · subst c10
          have H1 : ((spec_WrdOk.f t174).bind fun t178 => (laws_FnAluShift.j0 k t173 t174 (!t178))) = some r := by rw [if_pos rfl] at H; exact H
          clear H
          have H := H1
          clear H1
          replace H := Option.bind_eq_some_iff.mp H
          obtain ⟨t178, A110, H⟩ := H
          replace H : (laws_FnAluShift.j0 k t173 t174 (!t178)) = some r := H
          have A11 := Aside0.mk A110
          clear A110
          have H' := Aside0.mk H
          clear H
          go_wp2_with (first | ((with_reducible refine gate_callee (f := 18) rfl ?_); refine goesL_ (some 29) rfl rfl Try.func18 (by kernel_rfl) rfl #[.int .i64 t173] rfl (by (try simp only [List.map_toArray, List.map_cons, List.map_nil]); first | done | rfl | (simp only [List.length_drop, List.length_take]; rfl)) ?_; (with_reducible refine (spec_WrdOk.calls t173 true _ A9.out).mono ?_); rintro e w' ⟨rfl, ⟨nd, rfl⟩⟩; refine ⟨_, rfl, ?_⟩) | (go_at_call 18; (with_reducible refine (spec_WrdOk.calls t174 t178 _ A11.out).mono ?_); rintro e w' ⟨rfl, ⟨nd, rfl⟩⟩))
          go_meet
          case rel => exact ⟨_, (!t178), (by first | rfl | (simp; done) | (simp [*]; done)), H', ⟨by first | omega | exact Nat.le_refl _⟩, ⟨by repeat (first | (with_reducible first | exact HB.out | apply below_alloc | apply pw_below_drewN | apply below_drew1) | exact HB.out)⟩⟩
        · replace c10 := Bool.eq_false_iff.mpr c10
          subst c10
          have H1 : (laws_FnAluShift.j0 k t173 t174 true) = some r := by rw [if_neg (show ¬ (false = true) by decide)] at H; exact H
          clear H
          have H := H1
          clear H1
          have H' := Aside0.mk H
          clear H
          go_wp2_with (first | ((with_reducible refine gate_callee (f := 18) rfl ?_); refine goesL_ (some 29) rfl rfl Try.func18 (by kernel_rfl) rfl #[.int .i64 t173] rfl (by (try simp only [List.map_toArray, List.map_cons, List.map_nil]); first | done | rfl | (simp only [List.length_drop, List.length_take]; rfl)) ?_; (with_reducible refine (spec_WrdOk.calls t173 false _ A9.out).mono ?_); rintro e w' ⟨rfl, ⟨nd, rfl⟩⟩; refine ⟨_, rfl, ?_⟩))
          go_meet
          case rel => exact ⟨_, (true), (by first | rfl | (simp; done) | (simp [*]; done)), H', ⟨by first | omega | exact Nat.le_refl _⟩, ⟨by repeat (first | (with_reducible first | exact HB.out | apply below_alloc | apply pw_below_drewN | apply below_drew1) | exact HB.out)⟩⟩
      case rest =>
        clear HC7
        try clear c1
        try clear c2
        try clear c2b0
        try clear c2b1
        try clear p2
        try clear c3
        try clear c6
        try clear c6b0
        try clear c6b1
        try clear c10
        obtain ⟨kq, x35_6, rfl, HA, HJ6, HB⟩ := hcut
        cases kq with
        | zero => exact absurd HA.out (by simp [laws_FnAluShift.j0])
        | succ kj6 =>
          have H := HA.out
          clear HA
          simp only [laws_FnAluShift.j0] at H
          by_cases c12 : x35_6 = true
          · subst c12
            have H1 : ((laws_haOk.f).bind fun t179 => (some t179)) = some r := by rw [if_pos rfl] at H; exact H
            clear H
            have H := H1
            clear H1
            replace H := Option.bind_eq_some_iff.mp H
            obtain ⟨t179, A130, H⟩ := H
            replace H : (some t179) = some r := H
            have A13 := Aside0.mk A130
            clear A130
            obtain rfl := Option.some.inj H
            go_wp2_with (first | ((with_reducible refine gate_callee (f := 28) rfl ?_); refine goesL_ (some 36) rfl rfl Try.func28 (by kernel_rfl) rfl #[] rfl (by (try simp only [List.map_toArray, List.map_cons, List.map_nil]); first | done | rfl | (simp only [List.length_drop, List.length_take]; rfl)) ?_; (with_reducible refine (laws_haOk.calls  t179 _ A13.out).mono ?_); rintro e w' ⟨rfl, ⟨nd, rfl⟩⟩; refine ⟨_, rfl, ?_⟩))
            go_ret
            exact ⟨by first | rfl | (simp [errW_none, errW_some] <;> rfl) | (simp [*, errW_none, errW_some] <;> rfl), by repeat (first | (with_reducible first | exact HB.out | apply below_alloc | apply pw_below_drewN | apply below_drew1) | exact HB.out)⟩
          · replace c12 := Bool.eq_false_iff.mpr c12
            subst c12
            have H1 : (laws_FnAluShift.l0 kj6 t173 t174 (Int.tmod t174 16) t173 t173 0) = some r := by rw [if_neg (show ¬ (false = true) by decide)] at H; exact H
            clear H
            have H := H1
            clear H1
            have H' := Aside0.mk H
            clear H
            go_wp2
            go_loopg [7, 8, 9] kj6 (fun kq v7 v8 v9 w' => ∃ (x7_2 : Int) (x8_2 : Int) (x9_2 : Int), v7 = .int .i64 x7_2 ∧ v8 = .int .i64 x8_2 ∧ v9 = .int .i64 x9_2 ∧ Aside0 (laws_FnAluShift.l0 kq t173 t174 (Int.tmod t174 16) x7_2 x8_2 x9_2 = some r) ∧ Aside0 (kq ≤ kj6) ∧ Aside0 (Below w.heap.size w w'))
            case atStart => exact ⟨(t173), (t173), (0), (by first | rfl | (simp; done) | (simp [*]; done)), (by first | rfl | (simp; done) | (simp [*]; done)), (by first | rfl | (simp; done) | (simp [*]; done)), H', ⟨Nat.le_refl _⟩, ⟨by repeat (first | (with_reducible first | exact HB.out | apply below_alloc | apply pw_below_drewN | apply below_drew1) | exact HB.out)⟩⟩
            case round =>
              clear H'
              try clear c1
              try clear c2
              try clear c2b0
              try clear c2b1
              try clear p2
              try clear c3
              try clear c6
              try clear c6b0
              try clear c6b1
              try clear c10
              try clear c12
              try clear p2
              obtain ⟨x7_2, x8_2, x9_2, rfl, rfl, rfl, HA, HK2, HB⟩ := hrel
              cases gk with
              | zero => exact absurd HA.out (by simp [laws_FnAluShift.l0])
              | succ k2 =>
                have H := HA.out
                clear HA
                simp only [laws_FnAluShift.l0] at H
                by_cases c14 : x9_2 < (Int.tmod t174 16)
                · rw [if_pos c14] at H
                  have c14b0 : decide (x9_2 < (Int.tmod t174 16)) = true := decide_eq_true c14
                  clear c14
                  replace H := Option.bind_eq_some_iff.mp H
                  obtain ⟨t180, A150, H⟩ := H
                  replace H : (laws_FnAluShift.l0 k2 t173 t174 (Int.tmod t174 16) t180 (wrap64 (Int.tdiv x8_2 2)) (wrap64 (x9_2 + 1))) = some r := H
                  have A15 := Aside0.mk A150
                  clear A150
                  have H' := Aside0.mk H
                  clear H
                  go_wp2_with (first | ((with_reducible refine gate_callee (f := 32) rfl ?_); refine goesL_ (some 48) rfl rfl Try.func32 (by kernel_rfl) rfl #[.int .i64 0, .int .i64 x7_2, .int .i64 x7_2] rfl (by (try simp only [List.map_toArray, List.map_cons, List.map_nil]); first | done | rfl | (simp only [List.length_drop, List.length_take]; rfl)) ?_; (with_reducible refine (impl_AluDo.calls k2 0 x7_2 x7_2 t180 _ A15.out).mono ?_); rintro e w' ⟨rfl, ⟨nd, rfl⟩⟩; refine ⟨_, rfl, ?_⟩))
                  go_roundg k2
                  case measure => have := HJ6.out; have := HK2.out; omega
                  case rel => exact ⟨(t180), (wrap64 (Int.tdiv x8_2 2)), (wrap64 (x9_2 + 1)), (by first | rfl | (simp; done) | (simp [*]; done)), (by first | rfl | (simp; done) | (simp [*]; done)), (by first | rfl | (simp; done) | (simp [*]; done)), H', ⟨by have := HJ6.out; have := HK2.out; omega⟩, ⟨by repeat (first | (with_reducible first | exact HB.out | apply below_alloc | apply pw_below_drewN | apply below_drew1) | exact HB.out)⟩⟩
                · rw [if_neg c14] at H
                  have c14b0 : decide (x9_2 < (Int.tmod t174 16)) = false := decide_eq_false c14
                  clear c14
                  replace H := Option.bind_eq_some_iff.mp H
                  obtain ⟨t181, A160, H⟩ := H
                  replace H : (if t181 = x7_2 then ((impl_AluDo.f k2 7 t173 t174).bind fun t182 => (if t182 = x8_2 then ((impl_AluDo.f k2 6 t173 (Int.tmod t174 16)).bind fun t183 => (if t183 = x7_2 then ((impl_AluDo.f k2 7 t173 (Int.tmod t174 16)).bind fun t184 => (if t184 = x8_2 then (if 0 ≤ (Int.tmod t174 16) then (if (shl .i64 t173 (Int.tmod t174 16)) ≥ 65536 then (some true) else ((impl_AluDo.f k2 7 x7_2 (Int.tmod t174 16)).bind fun t185 => (some (t185 == t173)))) else (none)) else (some false))) else (some false))) else (some false))) else (some false)) = some r := H
                  have A16 := Aside0.mk A160
                  clear A160
                  by_cases c17 : t181 = x7_2
                  · rw [if_pos c17] at H
                    have c17b0 : (t181 == x7_2) = true := beq_iff_eq.mpr c17
                    have c17b1 : (t181 != x7_2) = false := bne_eq_false_iff_eq.mpr c17
                    clear c17
                    replace H := Option.bind_eq_some_iff.mp H
                    obtain ⟨t182, A180, H⟩ := H
                    replace H : (if t182 = x8_2 then ((impl_AluDo.f k2 6 t173 (Int.tmod t174 16)).bind fun t183 => (if t183 = x7_2 then ((impl_AluDo.f k2 7 t173 (Int.tmod t174 16)).bind fun t184 => (if t184 = x8_2 then (if 0 ≤ (Int.tmod t174 16) then (if (shl .i64 t173 (Int.tmod t174 16)) ≥ 65536 then (some true) else ((impl_AluDo.f k2 7 x7_2 (Int.tmod t174 16)).bind fun t185 => (some (t185 == t173)))) else (none)) else (some false))) else (some false))) else (some false)) = some r := H
                    have A18 := Aside0.mk A180
                    clear A180
                    by_cases c19 : t182 = x8_2
                    · rw [if_pos c19] at H
                      have c19b0 : (t182 == x8_2) = true := beq_iff_eq.mpr c19
                      have c19b1 : (t182 != x8_2) = false := bne_eq_false_iff_eq.mpr c19
                      clear c19
                      replace H := Option.bind_eq_some_iff.mp H
                      obtain ⟨t183, A200, H⟩ := H
                      replace H : (if t183 = x7_2 then ((impl_AluDo.f k2 7 t173 (Int.tmod t174 16)).bind fun t184 => (if t184 = x8_2 then (if 0 ≤ (Int.tmod t174 16) then (if (shl .i64 t173 (Int.tmod t174 16)) ≥ 65536 then (some true) else ((impl_AluDo.f k2 7 x7_2 (Int.tmod t174 16)).bind fun t185 => (some (t185 == t173)))) else (none)) else (some false))) else (some false)) = some r := H
                      have A20 := Aside0.mk A200
                      clear A200
                      by_cases c21 : t183 = x7_2
                      · rw [if_pos c21] at H
                        have c21b0 : (t183 == x7_2) = true := beq_iff_eq.mpr c21
                        have c21b1 : (t183 != x7_2) = false := bne_eq_false_iff_eq.mpr c21
                        clear c21
                        replace H := Option.bind_eq_some_iff.mp H
                        obtain ⟨t184, A220, H⟩ := H
                        replace H : (if t184 = x8_2 then (if 0 ≤ (Int.tmod t174 16) then (if (shl .i64 t173 (Int.tmod t174 16)) ≥ 65536 then (some true) else ((impl_AluDo.f k2 7 x7_2 (Int.tmod t174 16)).bind fun t185 => (some (t185 == t173)))) else (none)) else (some false)) = some r := H
                        have A22 := Aside0.mk A220
                        clear A220
                        by_cases c23 : t184 = x8_2
                        · rw [if_pos c23] at H
                          have c23b0 : (t184 == x8_2) = true := beq_iff_eq.mpr c23
                          have c23b1 : (t184 != x8_2) = false := bne_eq_false_iff_eq.mpr c23
                          clear c23
                          obtain ⟨ji24, hji24⟩ : ∃ j_ : Int, (Int.tmod t174 16) = j_ := ⟨_, rfl⟩
                          replace H : (if 0 ≤ (ji24) then (if (shl .i64 t173 (ji24)) ≥ 65536 then (some true) else ((impl_AluDo.f k2 7 x7_2 (ji24)).bind fun t185 => (some (t185 == t173)))) else (none)) = some r := by first | (rw [hji24] at H; exact H) | (simp only [hji24] at H ⊢; exact H)
                          (try rw [hji24] at c14b0)
                          (try rw [hji24] at A16)
                          (try rw [hji24] at A18)
                          (try rw [hji24] at A20)
                          (try rw [hji24] at A22)
                          by_cases c25 : 0 ≤ (ji24)
                          · rw [if_pos c25] at H
                            have c25b0 := eq_true c25
                            have c25b1 : decide (0 ≤ (ji24)) = true := decide_eq_true c25
                            clear c25
                            obtain ⟨ji26, hji26⟩ : ∃ j_ : Int, (shl .i64 t173 (ji24)) = j_ := ⟨_, rfl⟩
                            replace H : (if (ji26) ≥ 65536 then (some true) else ((impl_AluDo.f k2 7 x7_2 (ji24)).bind fun t185 => (some (t185 == t173)))) = some r := by first | (rw [hji26] at H; exact H) | (simp only [hji26] at H ⊢; exact H)
                            (try rw [hji26] at A16)
                            (try rw [hji26] at A18)
                            (try rw [hji26] at A20)
                            (try rw [hji26] at A22)
                            have hji26_ : (IntKind.i64.wrap (t173 * 2 ^ min (ji24).toNat 64)) = ji26 := hji26
                            have hji26z : (ji24) ≤ 64 → (IntKind.i64.wrap (t173 * 2 ^ (ji24).toNat)) = ji26 := shl_small hji26
                            have hji26y : (wrap64 (t173 * 2 ^ min (ji24).toNat 64)) = ji26 := (i64_w _).symm.trans hji26_
                            have hji26x : (ji24) ≤ 64 → (wrap64 (t173 * 2 ^ (ji24).toNat)) = ji26 := fun h_ => (i64_w _).symm.trans (hji26z h_)
                            by_cases c27 : (ji26) ≥ 65536
                            · rw [if_pos c27] at H
                              have c27b0 : decide (65536 ≤ (ji26)) = true := decide_eq_true c27
                              clear c27
                              obtain rfl := Option.some.inj H
                              go_wp2_with (first | ((with_reducible refine gate_callee (f := 32) rfl ?_); refine goesL_ (some 53) rfl rfl Try.func32 (by kernel_rfl) rfl #[.int .i64 6, .int .i64 t173, .int .i64 t174] rfl (by (try simp only [List.map_toArray, List.map_cons, List.map_nil]); first | done | rfl | (simp only [List.length_drop, List.length_take]; rfl)) ?_; (with_reducible refine (impl_AluDo.calls k2 6 t173 t174 t181 _ A16.out).mono ?_); rintro e w' ⟨rfl, ⟨nd, rfl⟩⟩; refine ⟨_, rfl, ?_⟩) | (go_at_call 32; (with_reducible refine (impl_AluDo.calls k2 7 t173 t174 t182 _ A18.out).mono ?_); rintro e w' ⟨rfl, ⟨nd, rfl⟩⟩) | (go_at_call 32; (with_reducible refine (impl_AluDo.calls k2 6 t173 (ji24) t183 _ A20.out).mono ?_); rintro e w' ⟨rfl, ⟨nd, rfl⟩⟩) | (go_at_call 32; (with_reducible refine (impl_AluDo.calls k2 7 t173 (ji24) t184 _ A22.out).mono ?_); rintro e w' ⟨rfl, ⟨nd, rfl⟩⟩))
                              go_ret
                              exact ⟨by first | rfl | (simp [errW_none, errW_some] <;> rfl) | (simp only [← hji24, ← hji26]; first | rfl | (simp [errW_none, errW_some] <;> rfl)) | (simp [*, errW_none, errW_some] <;> rfl), by repeat (first | (with_reducible first | exact HB.out | apply below_alloc | apply pw_below_drewN | apply below_drew1) | exact HB.out)⟩
                            · rw [if_neg c27] at H
                              have c27b0 : decide (65536 ≤ (ji26)) = false := decide_eq_false c27
                              clear c27
                              replace H := Option.bind_eq_some_iff.mp H
                              obtain ⟨t185, A280, H⟩ := H
                              replace H : (some (t185 == t173)) = some r := H
                              have A28 := Aside0.mk A280
                              clear A280
                              obtain rfl := Option.some.inj H
                              go_wp2_with (first | ((with_reducible refine gate_callee (f := 32) rfl ?_); refine goesL_ (some 53) rfl rfl Try.func32 (by kernel_rfl) rfl #[.int .i64 6, .int .i64 t173, .int .i64 t174] rfl (by (try simp only [List.map_toArray, List.map_cons, List.map_nil]); first | done | rfl | (simp only [List.length_drop, List.length_take]; rfl)) ?_; (with_reducible refine (impl_AluDo.calls k2 6 t173 t174 t181 _ A16.out).mono ?_); rintro e w' ⟨rfl, ⟨nd, rfl⟩⟩; refine ⟨_, rfl, ?_⟩) | (go_at_call 32; (with_reducible refine (impl_AluDo.calls k2 7 t173 t174 t182 _ A18.out).mono ?_); rintro e w' ⟨rfl, ⟨nd, rfl⟩⟩) | (go_at_call 32; (with_reducible refine (impl_AluDo.calls k2 6 t173 (ji24) t183 _ A20.out).mono ?_); rintro e w' ⟨rfl, ⟨nd, rfl⟩⟩) | (go_at_call 32; (with_reducible refine (impl_AluDo.calls k2 7 t173 (ji24) t184 _ A22.out).mono ?_); rintro e w' ⟨rfl, ⟨nd, rfl⟩⟩) | (go_at_call 32; (with_reducible refine (impl_AluDo.calls k2 7 x7_2 (ji24) t185 _ A28.out).mono ?_); rintro e w' ⟨rfl, ⟨nd, rfl⟩⟩))
                              go_ret
                              exact ⟨by first | rfl | (simp [errW_none, errW_some] <;> rfl) | (simp only [← hji24, ← hji26]; first | rfl | (simp [errW_none, errW_some] <;> rfl)) | (simp [*, errW_none, errW_some] <;> rfl), by repeat (first | (with_reducible first | exact HB.out | apply below_alloc | apply pw_below_drewN | apply below_drew1) | exact HB.out)⟩
                          · rw [if_neg c25] at H
                            exact absurd H (by simp)
                        · rw [if_neg c23] at H
                          have c23b0 : (t184 == x8_2) = false := beq_eq_false_iff_ne.mpr c23
                          have c23b1 : (t184 != x8_2) = true := bne_iff_ne.mpr c23
                          obtain rfl := Option.some.inj H
                          go_wp2_with (first | ((with_reducible refine gate_callee (f := 32) rfl ?_); refine goesL_ (some 53) rfl rfl Try.func32 (by kernel_rfl) rfl #[.int .i64 6, .int .i64 t173, .int .i64 t174] rfl (by (try simp only [List.map_toArray, List.map_cons, List.map_nil]); first | done | rfl | (simp only [List.length_drop, List.length_take]; rfl)) ?_; (with_reducible refine (impl_AluDo.calls k2 6 t173 t174 t181 _ A16.out).mono ?_); rintro e w' ⟨rfl, ⟨nd, rfl⟩⟩; refine ⟨_, rfl, ?_⟩) | (go_at_call 32; (with_reducible refine (impl_AluDo.calls k2 7 t173 t174 t182 _ A18.out).mono ?_); rintro e w' ⟨rfl, ⟨nd, rfl⟩⟩) | (go_at_call 32; (with_reducible refine (impl_AluDo.calls k2 6 t173 (Int.tmod t174 16) t183 _ A20.out).mono ?_); rintro e w' ⟨rfl, ⟨nd, rfl⟩⟩) | (go_at_call 32; (with_reducible refine (impl_AluDo.calls k2 7 t173 (Int.tmod t174 16) t184 _ A22.out).mono ?_); rintro e w' ⟨rfl, ⟨nd, rfl⟩⟩))
                          go_ret
                          exact ⟨by first | rfl | (simp [errW_none, errW_some] <;> rfl) | (simp [*, errW_none, errW_some] <;> rfl), by repeat (first | (with_reducible first | exact HB.out | apply below_alloc | apply pw_below_drewN | apply below_drew1) | exact HB.out)⟩
                      · rw [if_neg c21] at H
                        have c21b0 : (t183 == x7_2) = false := beq_eq_false_iff_ne.mpr c21
                        have c21b1 : (t183 != x7_2) = true := bne_iff_ne.mpr c21
                        obtain rfl := Option.some.inj H
                        go_wp2_with (first | ((with_reducible refine gate_callee (f := 32) rfl ?_); refine goesL_ (some 53) rfl rfl Try.func32 (by kernel_rfl) rfl #[.int .i64 6, .int .i64 t173, .int .i64 t174] rfl (by (try simp only [List.map_toArray, List.map_cons, List.map_nil]); first | done | rfl | (simp only [List.length_drop, List.length_take]; rfl)) ?_; (with_reducible refine (impl_AluDo.calls k2 6 t173 t174 t181 _ A16.out).mono ?_); rintro e w' ⟨rfl, ⟨nd, rfl⟩⟩; refine ⟨_, rfl, ?_⟩) | (go_at_call 32; (with_reducible refine (impl_AluDo.calls k2 7 t173 t174 t182 _ A18.out).mono ?_); rintro e w' ⟨rfl, ⟨nd, rfl⟩⟩) | (go_at_call 32; (with_reducible refine (impl_AluDo.calls k2 6 t173 (Int.tmod t174 16) t183 _ A20.out).mono ?_); rintro e w' ⟨rfl, ⟨nd, rfl⟩⟩))
                        go_ret
                        exact ⟨by first | rfl | (simp [errW_none, errW_some] <;> rfl) | (simp [*, errW_none, errW_some] <;> rfl), by repeat (first | (with_reducible first | exact HB.out | apply below_alloc | apply pw_below_drewN | apply below_drew1) | exact HB.out)⟩
                    · rw [if_neg c19] at H
                      have c19b0 : (t182 == x8_2) = false := beq_eq_false_iff_ne.mpr c19
                      have c19b1 : (t182 != x8_2) = true := bne_iff_ne.mpr c19
                      obtain rfl := Option.some.inj H
                      go_wp2_with (first | ((with_reducible refine gate_callee (f := 32) rfl ?_); refine goesL_ (some 53) rfl rfl Try.func32 (by kernel_rfl) rfl #[.int .i64 6, .int .i64 t173, .int .i64 t174] rfl (by (try simp only [List.map_toArray, List.map_cons, List.map_nil]); first | done | rfl | (simp only [List.length_drop, List.length_take]; rfl)) ?_; (with_reducible refine (impl_AluDo.calls k2 6 t173 t174 t181 _ A16.out).mono ?_); rintro e w' ⟨rfl, ⟨nd, rfl⟩⟩; refine ⟨_, rfl, ?_⟩) | (go_at_call 32; (with_reducible refine (impl_AluDo.calls k2 7 t173 t174 t182 _ A18.out).mono ?_); rintro e w' ⟨rfl, ⟨nd, rfl⟩⟩))
                      go_ret
                      exact ⟨by first | rfl | (simp [errW_none, errW_some] <;> rfl) | (simp [*, errW_none, errW_some] <;> rfl), by repeat (first | (with_reducible first | exact HB.out | apply below_alloc | apply pw_below_drewN | apply below_drew1) | exact HB.out)⟩
                  · rw [if_neg c17] at H
                    have c17b0 : (t181 == x7_2) = false := beq_eq_false_iff_ne.mpr c17
                    have c17b1 : (t181 != x7_2) = true := bne_iff_ne.mpr c17
                    obtain rfl := Option.some.inj H
                    go_wp2_with (first | ((with_reducible refine gate_callee (f := 32) rfl ?_); refine goesL_ (some 53) rfl rfl Try.func32 (by kernel_rfl) rfl #[.int .i64 6, .int .i64 t173, .int .i64 t174] rfl (by (try simp only [List.map_toArray, List.map_cons, List.map_nil]); first | done | rfl | (simp only [List.length_drop, List.length_take]; rfl)) ?_; (with_reducible refine (impl_AluDo.calls k2 6 t173 t174 t181 _ A16.out).mono ?_); rintro e w' ⟨rfl, ⟨nd, rfl⟩⟩; refine ⟨_, rfl, ?_⟩))
                    go_ret
                    exact ⟨by first | rfl | (simp [errW_none, errW_some] <;> rfl) | (simp [*, errW_none, errW_some] <;> rfl), by repeat (first | (with_reducible first | exact HB.out | apply below_alloc | apply pw_below_drewN | apply below_drew1) | exact HB.out)⟩
    · rw [if_neg c6] at H
      have c6b0 : (t175 == t176) = false := beq_eq_false_iff_ne.mpr c6
      have c6b1 : (t175 != t176) = true := bne_iff_ne.mpr c6
      obtain rfl := Option.some.inj H
      go_enter Try.func15, Try.ntmps15
      go_wp2_with (first | ((with_reducible refine gate_callee (f := 34) rfl ?_); refine goesL_ (some 15) rfl rfl Try.func34 (by kernel_rfl) rfl #[.slice A0 l0.length c0] rfl (by (try simp only [List.map_toArray, List.map_cons, List.map_nil]); first | done | rfl | (simp only [List.length_drop, List.length_take]; rfl)) ?_; (with_reducible refine (spec_DrawAluDo.calls k _ _ l0 t172 t173 t174 _ ?side1 ?side2 A3.out).mono ?_); (case side1 => repeat (first | exact HR0.out | (with_reducible refine Kd.C_alloc ?_ _) | (with_reducible refine Kd.C_drewN ?_ _) | (with_reducible refine Kd.C_drew ?_))); (case side2 => exact HC0.out); rintro e w29 ⟨rfl, hb⟩; refine ⟨_, rfl, ?_⟩; have n0_ := Aside0.mk (below_step (by repeat (first | (with_reducible first | exact HB.out | apply below_alloc | apply pw_below_drewN | apply below_drew1) | exact HB.out)) hb); clear HB; have HB := n0_; clear n0_; (try clear hb); (try clear hb2); (try clear hk); (try clear hi)) | ((with_reducible refine gate_callee (f := 32) rfl ?_); refine goesL_ (some 22) rfl rfl Try.func32 (by kernel_rfl) rfl #[.int .i64 t172, .int .i64 t173, .int .i64 t174] rfl (by (try simp only [List.map_toArray, List.map_cons, List.map_nil]); first | done | rfl | (simp only [List.length_drop, List.length_take]; rfl)) ?_; (with_reducible refine (impl_AluDo.calls k t172 t173 t174 t175 _ A4.out).mono ?_); rintro e w' ⟨rfl, ⟨nd, rfl⟩⟩; refine ⟨_, rfl, ?_⟩) | ((with_reducible refine gate_callee (f := 31) rfl ?_); refine goesL_ (some 26) rfl rfl Try.func31 (by kernel_rfl) rfl #[.int .i64 t172, .int .i64 t173, .int .i64 t174] rfl (by (try simp only [List.map_toArray, List.map_cons, List.map_nil]); first | done | rfl | (simp only [List.length_drop, List.length_take]; rfl)) ?_; (with_reducible refine (spec_AluDo.calls k t172 t173 t174 t176 _ A5.out).mono ?_); rintro e w' ⟨rfl, ⟨nd, rfl⟩⟩; refine ⟨_, rfl, ?_⟩))
      go_ret
      exact ⟨by first | rfl | (simp [errW_none, errW_some] <;> rfl) | (simp [*, errW_none, errW_some] <;> rfl), by repeat (first | (with_reducible first | exact HB.out | apply below_alloc | apply pw_below_drewN | apply below_drew1) | exact HB.out)⟩

/-- THE ONE PURE STATEMENT of laws_FnAluShift: yours. -/
def laws_FnAluShift.Pure : Prop := ∀ (l0 : List Int), l0.length ≤ maxLen → l0.length * 1 ≤ 140737488351232 → (∀ x ∈ l0, (Lit.int .u8 x).wf = true) → ∃ k, laws_FnAluShift.f k l0 = some true
theorem laws_FnAluShift.walk (P : laws_FnAluShift.Pure) (a0 : Option Addr) (len0 cap0 : Nat) (z0 : List Int) (w : World) (w0 : (a0 = none ∧ len0 = 0 ∧ cap0 = 0 ∧ z0 = []) ∨ ∃ x, a0 = some x ∧ len0 ≤ cap0 ∧ cap0 ≤ maxLen ∧ z0.length = cap0 ∧ (∀ i, i < z0.length → w.cell? (x.add i) = some (.int .u8 (z0.getD i 0))) ∧ ∀ n ∈ z0, (Lit.int .u8 n).wf = true) (y0 : len0 * 1 ≤ 140737488351232) :
    Calls Try.prog 15 #[.slice a0 len0 cap0] w fun e w' => e = .returned (.bool true) ∧ Below w.heap.size w w' := by
  obtain ⟨l0, rfl, hr0, hm0, hw0, hc0⟩ := ReadsInt.ofRowC w0
  obtain ⟨k, h⟩ := P l0 hm0 y0 hw0
  refine (laws_FnAluShift.calls k _ _ l0 true w (Kd.C_of_reads (d := (0 : Int)) (h1 := fun _ => rfl) hr0) hc0 h).mono ?_
  rintro e w' ⟨rfl, hd⟩
  exact ⟨rfl, hd⟩

end Go.Proofs.Ytekaogbnpncpaaa.PFnAluShift
