-- PRINTED BY print.sh 35421559b90ae4d0a3588c463048766b98c2df88dd9212a6774a882060cdf62d: not written by this session
import Derived.Test.YtekaogbnpncpaaaPFnAluLtx0
import Derived.Test.YtekaogbnpncpaaaPFnAluLtx1
import Derived.Test.YtekaogbnpncpaaaPFnAluLtx2
namespace Go.Proofs.Ytekaogbnpncpaaa.PFnAluLt
open Go.RowKit Go.Proofs.YtekaogbnpncpaaaW.PrintWords Go.Proofs.YtekaogbnpncpaaaW.PrintLast Go.Proofs.YtekaogbnpncpaaaW.PrintMore
attribute [local go_sem] max2_int min2_int max_two min_two max_three min_three max_four min_four   -- for this text's walks alone
set_option linter.unusedVariables false
set_option linter.unusedSimpArgs false

/-! ### spec_DrawAluDo: function 34 -/
def spec_DrawAluDo.f (k : Nat) (l0 : List Int) : Option (Int × Int × Int) := (spec_l20Open.f l0).bind fun bt155 => ((spec_l20Rd_pick.f k bt155.1 bt155.2 8).bind fun bt158 => ((some (([bt158.1, 8, (-1)] : List Int) : List Int)).bind fun y160 => ((some (([0, 0, 0, 0, 0, 0, 1, 2] : List Int) : List Int)).bind fun y163 => ((spec_l20Rd_pick.f k bt155.1 bt158.2 8).bind fun bt166 => (if 0 ≤ bt166.1 then (if bt166.1 < (y163.length : Int) then (if 0 ≤ (rd y163 bt166.1) then (if (rd y163 bt166.1) < (y160.length : Int) then ((spec_l20Word.f k bt155.1 bt166.2 12).bind fun bt170 => ((spec_l20Word.f k bt155.1 bt170.2 12).bind fun bt172 => (some (rd y160 (rd y163 bt166.1), bt170.1, bt172.1)))) else (none)) else (none)) else (none)) else (none))))))
theorem spec_DrawAluDo.mono : ∀ a0 k, LeO (spec_DrawAluDo.f k a0) (spec_DrawAluDo.f (k + 1) a0) := by
  intro a0 k
  unfold spec_DrawAluDo.f
  repeat' first
      | (with_reducible exact spec_l20Rd_pick.mono _ _ _ _)
      | (with_reducible exact spec_l20Word.mono _ _ _ _)
      | (with_reducible exact LeO.refl _)
      | (with_reducible exact LeO.none _)
      | (with_reducible refine LeO.ite ?_ ?_)
      | (with_reducible refine LeO.bind ?_ (fun _ => ?_))
      | exact spec_l20Rd_pick.mono _ _ _ _
      | exact spec_l20Word.mono _ _ _ _
      | exact LeO.none _
      | refine LeO.ite ?_ ?_
      | refine LeO.bind ?_ (fun _ => ?_)
def spec_DrawAluDo.T2 : Bool × List (List Nat × List Nat) := (true, [([], []), ([0], [0]), ([1], [1]), ([], []), ([], []), ([4, 1], [4]), ([3, 5], [3, 5]), ([6], [6]), ([2, 7], [2, 7]), ([8], [8]), ([], []), ([10, 5], [10]), ([], []), ([12, 11], [12]), ([9, 13, 0, 1, 2, 3, 4, 5, 6, 7, 8, 9], [9]), ([11, 14, 0, 1, 2, 3, 4, 5, 6, 7, 8, 9, 10, 11, 14], [11]), ([13, 15, 0, 1, 2, 3, 4, 5, 6, 7, 8, 9, 10, 11, 12, 13, 14, 15], [13])])
def spec_DrawAluDo.B2 : List Nat := [0, 1, 3, 0, 0, 19, 59, 123, 255, 511, 0, 1075, 0, 7219, 16383, 32767, 65535]
theorem spec_DrawAluDo.tab2 : rtab .any (opsOf Try.f34 2) = spec_DrawAluDo.T2 := by kernel_rfl
theorem spec_DrawAluDo.bits2 : waitsOk spec_DrawAluDo.T2.2 spec_DrawAluDo.B2 = true := by kernel_rfl
set_option maxHeartbeats 8000000 in
set_option maxRecDepth 100000 in
theorem spec_DrawAluDo.calls (k : Nat) (A0 : Option Addr) (c0 : Nat) (l0 : List Int) (r1 : Int) (r2 : Int) (r3 : Int) (w : World) (hr0 : Kd.C (Kd.int .u8) w A0 l0.length l0) (hc0 : l0.length ≤ c0) (h : spec_DrawAluDo.f k l0 = some (r1, r2, r3)) :
    Calls Try.prog 34 #[.slice A0 l0.length c0] w fun e w' => e = .returned (.tuple #[.int .i64 r1, .int .i64 r2, .int .i64 r3]) ∧ Below w.heap.size w w' := by
  have HR0 := Aside0.mk hr0
  have HC0 := Aside0.mk hc0
  clear hr0 hc0
  have HB := Aside0.mk (Below.refl w.heap.size w)
  have H : ((spec_l20Open.f l0).bind fun bt155 => ((spec_l20Rd_pick.f k bt155.1 bt155.2 8).bind fun bt158 => ((some (([bt158.1, 8, (-1)] : List Int) : List Int)).bind fun y160 => ((some (([0, 0, 0, 0, 0, 0, 1, 2] : List Int) : List Int)).bind fun y163 => ((spec_l20Rd_pick.f k bt155.1 bt158.2 8).bind fun bt166 => (if 0 ≤ bt166.1 then (if bt166.1 < (y163.length : Int) then (if 0 ≤ (rd y163 bt166.1) then (if (rd y163 bt166.1) < (y160.length : Int) then ((spec_l20Word.f k bt155.1 bt166.2 12).bind fun bt170 => ((spec_l20Word.f k bt155.1 bt170.2 12).bind fun bt172 => (some (rd y160 (rd y163 bt166.1), bt170.1, bt172.1)))) else (none)) else (none)) else (none)) else (none))))))) = some (r1, r2, r3) := h
  clear h
  replace H := Option.bind_eq_some_iff.mp H
  obtain ⟨⟨t155, t156⟩, A20, H⟩ := H
  replace H : ((spec_l20Rd_pick.f k t155 t156 8).bind fun bt158 => ((some (([bt158.1, 8, (-1)] : List Int) : List Int)).bind fun y160 => ((some (([0, 0, 0, 0, 0, 0, 1, 2] : List Int) : List Int)).bind fun y163 => ((spec_l20Rd_pick.f k t155 bt158.2 8).bind fun bt166 => (if 0 ≤ bt166.1 then (if bt166.1 < (y163.length : Int) then (if 0 ≤ (rd y163 bt166.1) then (if (rd y163 bt166.1) < (y160.length : Int) then ((spec_l20Word.f k t155 bt166.2 12).bind fun bt170 => ((spec_l20Word.f k t155 bt170.2 12).bind fun bt172 => (some (rd y160 (rd y163 bt166.1), bt170.1, bt172.1)))) else (none)) else (none)) else (none)) else (none)))))) = some (r1, r2, r3) := H
  have A2 := Aside0.mk A20
  clear A20
  replace H := Option.bind_eq_some_iff.mp H
  obtain ⟨⟨t158, t159⟩, A30, H⟩ := H
  replace H : ((some (([t158, 8, (-1)] : List Int) : List Int)).bind fun y160 => ((some (([0, 0, 0, 0, 0, 0, 1, 2] : List Int) : List Int)).bind fun y163 => ((spec_l20Rd_pick.f k t155 t159 8).bind fun bt166 => (if 0 ≤ bt166.1 then (if bt166.1 < (y163.length : Int) then (if 0 ≤ (rd y163 bt166.1) then (if (rd y163 bt166.1) < (y160.length : Int) then ((spec_l20Word.f k t155 bt166.2 12).bind fun bt170 => ((spec_l20Word.f k t155 bt170.2 12).bind fun bt172 => (some (rd y160 (rd y163 bt166.1), bt170.1, bt172.1)))) else (none)) else (none)) else (none)) else (none))))) = some (r1, r2, r3) := H
  have A3 := Aside0.mk A30
  clear A30
  obtain ⟨y160, hy160⟩ : ∃ y_ : List Int, y_ = (([t158, 8, (-1)] : List Int)) := ⟨_, rfl⟩
  replace H : ((some (([0, 0, 0, 0, 0, 0, 1, 2] : List Int) : List Int)).bind fun y163 => ((spec_l20Rd_pick.f k t155 t159 8).bind fun bt166 => (if 0 ≤ bt166.1 then (if bt166.1 < (y163.length : Int) then (if 0 ≤ (rd y163 bt166.1) then (if (rd y163 bt166.1) < (y160.length : Int) then ((spec_l20Word.f k t155 bt166.2 12).bind fun bt170 => ((spec_l20Word.f k t155 bt170.2 12).bind fun bt172 => (some (rd y160 (rd y163 bt166.1), bt170.1, bt172.1)))) else (none)) else (none)) else (none)) else (none)))) = some (r1, r2, r3) := by first | (rw [hy160]; with_reducible exact H) | (have H2_ := (Option.bind_some _ _).symm.trans H; rw [hy160]; with_reducible exact H2_) | (have H2_ := (Option.bind_some _ _).symm.trans H; with_reducible exact H2_) | with_reducible exact H | (rw [hy160]; exact H) | exact H
  have Ny160 := Aside0.mk hy160
  clear hy160
  obtain ⟨y163, hy163⟩ : ∃ y_ : List Int, y_ = (([0, 0, 0, 0, 0, 0, 1, 2] : List Int)) := ⟨_, rfl⟩
  replace H : ((spec_l20Rd_pick.f k t155 t159 8).bind fun bt166 => (if 0 ≤ bt166.1 then (if bt166.1 < (y163.length : Int) then (if 0 ≤ (rd y163 bt166.1) then (if (rd y163 bt166.1) < (y160.length : Int) then ((spec_l20Word.f k t155 bt166.2 12).bind fun bt170 => ((spec_l20Word.f k t155 bt170.2 12).bind fun bt172 => (some (rd y160 (rd y163 bt166.1), bt170.1, bt172.1)))) else (none)) else (none)) else (none)) else (none))) = some (r1, r2, r3) := by first | (rw [hy163]; with_reducible exact H) | (have H2_ := (Option.bind_some _ _).symm.trans H; rw [hy163]; with_reducible exact H2_) | (have H2_ := (Option.bind_some _ _).symm.trans H; with_reducible exact H2_) | with_reducible exact H | (rw [hy163]; exact H) | exact H
  have Ny163 := Aside0.mk hy163
  clear hy163
  replace H := Option.bind_eq_some_iff.mp H
  obtain ⟨⟨t166, t167⟩, A40, H⟩ := H
  replace H : (if 0 ≤ t166 then (if t166 < (y163.length : Int) then (if 0 ≤ (rd y163 t166) then (if (rd y163 t166) < (y160.length : Int) then ((spec_l20Word.f k t155 t167 12).bind fun bt170 => ((spec_l20Word.f k t155 bt170.2 12).bind fun bt172 => (some (rd y160 (rd y163 t166), bt170.1, bt172.1)))) else (none)) else (none)) else (none)) else (none)) = some (r1, r2, r3) := H
  have A4 := Aside0.mk A40
  clear A40
  by_cases c5 : 0 ≤ t166
  · rw [if_pos c5] at H
    have c5b0 : decide (0 ≤ t166) = true := decide_eq_true c5
    clear c5
    by_cases c6 : t166 < (y163.length : Int)
    · rw [if_pos c6] at H
      have c6b0 : decide (t166 < (y163.length : Int)) = true := decide_eq_true c6
      clear c6
      by_cases c7 : 0 ≤ (rd y163 t166)
      · rw [if_pos c7] at H
        have c7b0 : decide (0 ≤ (rd y163 t166)) = true := decide_eq_true c7
        clear c7
        by_cases c8 : (rd y163 t166) < (y160.length : Int)
        · rw [if_pos c8] at H
          have c8b0 : decide ((rd y163 t166) < (y160.length : Int)) = true := decide_eq_true c8
          clear c8
          replace H := Option.bind_eq_some_iff.mp H
          obtain ⟨⟨t170, t171⟩, A90, H⟩ := H
          replace H : ((spec_l20Word.f k t155 t171 12).bind fun bt172 => (some (rd y160 (rd y163 t166), t170, bt172.1))) = some (r1, r2, r3) := H
          have A9 := Aside0.mk A90
          clear A90
          replace H := Option.bind_eq_some_iff.mp H
          obtain ⟨⟨t172, t173⟩, A100, H⟩ := H
          replace H : (some (rd y160 (rd y163 t166), t170, t172)) = some (r1, r2, r3) := H
          have A10 := Aside0.mk A100
          clear A100
          simp only [Option.some.injEq, Prod.mk.injEq] at H
          obtain ⟨rfl, rfl, rfl⟩ := H
          go_enter Try.func34, Try.ntmps34
          try go_wp2_with (first | ((with_reducible refine gate_callee (f := 40) rfl ?_); refine goesL_ (some 7) rfl rfl Try.func40 (by kernel_rfl) rfl #[.slice A0 l0.length c0] rfl (by (try simp only [List.map_toArray, List.map_cons, List.map_nil]); first | done | rfl | (simp only [List.length_drop, List.length_take]; rfl)) ?_; (with_reducible refine (spec_l20Open.calls _ _ l0 t155 t156 w _ ?side1 ?side2 ?side3 A2.out).mono ?_); (case side1 => repeat (first | (with_reducible first | exact HB.out | apply below_alloc | apply pw_below_drewN | apply below_drew1) | exact HB.out)); (case side2 => exact HR0.out); (case side3 => exact HC0.out); rintro e w11 ⟨g157, rfl, hi, hb, hb2⟩; refine ⟨_, rfl, ?_⟩; have n0_ := Aside0.mk (hb); have n1_ := Aside0.mk (hi); clear HB; have HB := n0_; have HI157 := n1_; clear n0_ n1_; (try clear hb); (try clear hb2); (try clear hk); (try clear hi)))
          have pi168 : (0 ≤ (t166 : Int)) = True := eq_true (of_decide_eq_true (by first | (with_reducible assumption) | assumption))
          have qi168 : (t166 < (y163.length : Int)) = True := eq_true (of_decide_eq_true (by first | (with_reducible assumption) | assumption))
          have pi169 : (0 ≤ ((rd y163 t166) : Int)) = True := eq_true (of_decide_eq_true (by first | (with_reducible assumption) | assumption))
          have qi169 : ((rd y163 t166) < (y160.length : Int)) = True := eq_true (of_decide_eq_true (by first | (with_reducible assumption) | assumption))
          have n0_ := Aside0.mk (IsS48.drew HI157.out)
          have n1_ := Aside0.mk (below_drew1 HB.out)
          clear HI157
          clear HB
          have HI157 := n0_
          have HB := n1_
          clear n0_ n1_
          refine start_ (n := 17) (S := fun w' => True) (ds := []) #[false, false, false, false, false, false, false, false, false, false, false, false, false, false, false, false, false] (by kernel_rfl) rfl rfl trivial (fun hHeld => ?_); refine with_tabW spec_DrawAluDo.tab2 spec_DrawAluDo.bits2 (fun HT_ HW_ => ?_)
          generalize w11.drew = w12 at HI157 HB hHeld ⊢
          refine pure_ (i := 0) (N := some 8) (v := ?_) (a' := ?_) #[true, false, false, false, false, false, false, false, false, false, false, false, false, false, false, false, false] rfl rfl (any_of HT_.out (by kernel_rfl)) (fun _ _ _ h => h) (Or.inl ⟨by rfl, ?_⟩) ?_ ?_
          rotate_left
          · intro w'
            go_simp
            with_reducible rfl
          rotate_left
          · simp only [Act.put, List.setIfInBounds_toArray, List.set_cons_zero, List.set_cons_succ, i64_w, i32_w]
            rfl
          refine pure_ (i := 4) (N := some 12) (v := ?_) (a' := ?_) #[true, false, false, false, true, false, false, false, false, false, false, false, false, false, false, false, false] rfl rfl (any_of HT_.out (by kernel_rfl)) (fun _ _ _ h => h) (Or.inl ⟨by rfl, ?_⟩) ?_ ?_
          rotate_left
          · intro w'
            go_simp
            with_reducible rfl
          rotate_left
          · simp only [Act.put, List.setIfInBounds_toArray, List.set_cons_zero, List.set_cons_succ, i64_w, i32_w]
            rfl
          refine pure_ (i := 10) (N := some 18) (v := ?_) (a' := ?_) #[true, false, false, false, true, false, false, false, false, false, true, false, false, false, false, false, false] rfl rfl (any_of HT_.out (by kernel_rfl)) (fun _ _ _ h => h) (Or.inl ⟨by rfl, ?_⟩) ?_ ?_
          rotate_left
          · intro w'
            go_simp
            with_reducible rfl
          rotate_left
          · simp only [Act.put, List.setIfInBounds_toArray, List.set_cons_zero, List.set_cons_succ, i64_w, i32_w]
            rfl
          refine pure_ (i := 12) (N := some 20) (v := ?_) (a' := ?_) #[true, false, false, false, true, false, false, false, false, false, true, false, true, false, false, false, false] rfl rfl (any_of HT_.out (by kernel_rfl)) (fun _ _ _ h => h) (Or.inl ⟨by rfl, ?_⟩) ?_ ?_
          rotate_left
          · intro w'
            go_simp
            with_reducible rfl
          rotate_left
          · simp only [Act.put, List.setIfInBounds_toArray, List.set_cons_zero, List.set_cons_succ, i64_w, i32_w]
            rfl
          refine inv_at [1, 2, 3, 5, 6, 7, 8, 9, 11, 13, 14, 15, 16] (fun a0_ b a w' => ∃ (v161 : Value) (adz_v161 : Addr) (v164 : Value) (adz_v164 : Addr) (m6_ : Value) (m8_ : Value), a = putSel a0_ b [(1, 9, .int .i64 t158), (2, 10, v161), (3, 11, v164), (5, 13, .int .i64 t166), (6, 14, m6_), (7, 15, .int .i64 (rd y163 t166)), (8, 16, m8_), (9, 17, .int .i64 (rd y160 (rd y163 t166))), (11, 19, .int .i64 t170), (13, 21, .int .i64 t172), (14, 2, .int .i64 (rd y160 (rd y163 t166))), (15, 3, .int .i64 t170), (16, 4, .int .i64 t172)] ∧ (b 1 = false → IsS48 w w' g157 t155 t156) ∧ (Below w.heap.size w w') ∧ (b 1 = true → b 5 = false → IsS48 w w' g157 t155 t159) ∧ (b 2 = true → Kd.R (Kd.int .i64) 3 w' w.heap.size (fun _ => True) v161 y160) ∧ (b 2 = true → ∃ c_, (v161 : Value) = .slice (some adz_v161) y160.length c_) ∧ (b 3 = true → Kd.R (Kd.int .i64) 3 w' w.heap.size (fun _ => True) v164 y163) ∧ (b 3 = true → ∃ c_, (v164 : Value) = .slice (some adz_v164) y163.length c_) ∧ (b 5 = true → b 11 = false → IsS48 w w' g157 t155 t167) ∧ (b 11 = true → b 13 = false → IsS48 w w' g157 t155 t171) ∧ (b 13 = true → IsS48 w w' g157 t155 t173) ∧ (b 6 = true → (m6_ : Value) = .pointer (some (adz_v164.add (t166).toNat))) ∧ (b 8 = true → (m8_ : Value) = .pointer (some (adz_v161.add ((rd y163 t166)).toNat)))) HT_.out HW_.out (by kernel_rfl) (by kernel_rfl) ?_ ?_ ?_
          · exact ⟨.bool false, ⟨0, 0, none⟩, .bool false, ⟨0, 0, none⟩, .bool false, .bool false, by simp only [putSel, Bool.false_eq_true, if_false], fun _ => HI157.out, HB.out, fun h_ => absurd h_ (by decide), fun h_ => absurd h_ (by decide), fun h_ => absurd h_ (by decide), fun h_ => absurd h_ (by decide), fun h_ => absurd h_ (by decide), fun h_ => absurd h_ (by decide), fun h_ => absurd h_ (by decide), fun h_ => absurd h_ (by decide), fun h_ => absurd h_ (by decide), fun h_ => absurd h_ (by decide)⟩
          · skip
            clear HB HI157
            refine steps_cons ?_ ?_
            · rintro b a w' ⟨v161, adz_v161, v164, adz_v164, m6_, m8_, ha, Q_HI157, Q_HB, Q_HI157_e1, Q_HO162, Q_HA_HO162, Q_HO165, Q_HA_HO165, Q_HI157_e5, Q_HI157_e11, Q_HI157_e13, Q_X6_, Q_X8_⟩ hb_ hon hoff
              refine ⟨_, rfl, fun K hK => ?_⟩
              have e8 : a.tmps[8]? = some (.pointer (some ⟨g157, 0, none⟩)) := by rw [ha]; exact (putSel_off rfl).trans rfl
              replace ha := Aside0.mk ha
              have HI157 := Aside0.mk (Q_HI157 hb_)
              have HB := Aside0.mk Q_HB
              refine goes_ Try.func41 (by kernel_rfl) rfl #[.pointer (some ⟨g157, 0, none⟩), .int .i64 8] (by rfl) rfl rfl (by first | (simp only [List.map_toArray, List.map_cons, List.map_nil, Act.eval, Array.getD_eq_getD_getElem?, Option.getD_some, e8]; done) | (simp only [List.map_toArray, List.map_cons, List.map_nil, Act.eval, Array.getD_eq_getD_getElem?, Option.getD_some, e8]; rfl)) ?_
              with_reducible refine (spec_l20Rd_pick.calls k g157 t155 t156 8 t158 t159 w _ ?side1 ?side2 A3.out).mono ?_
              (case side1 => repeat (first | (with_reducible first | exact HI157.out | apply IsS48.alloc | apply IsS48.drewN | apply IsS48.drew | apply IsS48.set_1) | exact HI157.out))
              (case side2 => repeat (first | (with_reducible first | exact HB.out | apply below_alloc | apply pw_below_drewN | apply below_drew1 | refine below_set ?_ (IsS48.ge HI157.out)) | exact HB.out))
              rintro e w13 ⟨rfl, hi, hb, hk⟩
              refine ⟨_, rfl, ?_⟩
              have n0_ := Aside0.mk (hb)
              have n1_ := Aside0.mk (hi)
              have z_HO165 := fun (h0_ : b 3 = true) => (show Kd.R (Kd.int .i64) 3 w13 w.heap.size (fun _ => True) v164 y163 from by first | exact (Kd.R_mono (Kd.R_keep (IsS48.apart (show IsS48 w _ g157 t155 t156 from by repeat (first | (with_reducible first | exact HI157.out | apply IsS48.alloc | apply IsS48.drewN | apply IsS48.drew | apply IsS48.set_1) | exact HI157.out)) (by (with_reducible repeat (first | apply Kd.R_alloc | apply Kd.R_drewN | apply Kd.R_drew)); exact (Q_HO165 h0_)) (by decide)) hk (fun _ h => h.2)) (fun _ h => h.1)) | exact Kd.R_mono (Kd.R_mono (Kd.R_keep (IsS48.apart (show IsS48 w _ g157 t155 t156 from by repeat (first | (with_reducible first | exact HI157.out | apply IsS48.alloc | apply IsS48.drewN | apply IsS48.drew | apply IsS48.set_1) | exact HI157.out)) (by (with_reducible repeat (first | apply Kd.R_alloc | apply Kd.R_drewN | apply Kd.R_drew)); exact (Q_HO165 h0_)) (by decide)) hk (fun _ h => h.2)) (fun _ h => h.1)) (fun _ h_ => by first | trivial | exact h_ | exact h_.1))
              clear HB
              clear HI157
              have HB := n0_
              have HI157 := n1_
              clear n0_ n1_
              (try clear hb)
              (try clear hb2)
              (try clear hk)
              (try clear hi)
              refine hK.out _ _ ⟨v161, adz_v161, v164, adz_v164, m6_, m8_, (by rw [ha.out]; exact putSel_upk 0 hb_ rfl rfl rfl), fun h0_ => absurd ((up_self b 1).symm.trans h0_) (by decide), (by repeat (first | (with_reducible first | exact HB.out | apply below_alloc | apply pw_below_drewN | apply below_drew1 | refine below_set ?_ (IsS48.ge HI157.out)) | exact HB.out)), fun _ _ => (by repeat (first | (with_reducible first | exact HI157.out | apply IsS48.alloc | apply IsS48.drewN | apply IsS48.drew | apply IsS48.set_1) | exact HI157.out)), fun h0_ => absurd ((hoff 2 (by kernel_rfl)).symm.trans h0_) (by decide), fun h0_ => absurd ((hoff 2 (by kernel_rfl)).symm.trans h0_) (by decide), z_HO165, Q_HA_HO165, fun h0_ _ => absurd ((hoff 5 (by kernel_rfl)).symm.trans h0_) (by decide), fun h0_ _ => absurd ((hoff 11 (by kernel_rfl)).symm.trans h0_) (by decide), fun h0_ => absurd ((hoff 13 (by kernel_rfl)).symm.trans h0_) (by decide), fun h0_ => absurd ((hoff 6 (by kernel_rfl)).symm.trans h0_) (by decide), fun h0_ => absurd ((hoff 8 (by kernel_rfl)).symm.trans h0_) (by decide)⟩
            refine steps_cons ?_ ?_
            · rintro b a w' ⟨v161, adz_v161, v164, adz_v164, m6_, m8_, ha, Q_HI157, Q_HB, Q_HI157_e1, Q_HO162, Q_HA_HO162, Q_HO165, Q_HA_HO165, Q_HI157_e5, Q_HI157_e11, Q_HI157_e13, Q_X6_, Q_X8_⟩ hb_ hon hoff
              refine ⟨_, rfl, fun K hK => ?_⟩
              have e9 : a.tmps[9]? = some (.int .i64 t158) := by rw [ha]; exact putSel_on (e := (1, 9, .int .i64 t158)) 0 rfl rfl (hon 1 (by kernel_rfl)) rfl
              replace ha := Aside0.mk ha
              have HB := Aside0.mk Q_HB
              refine Kd.R_lit_step (Kd.int .i64) _ 3 ?hg (N := 10) ?hd (xs := ([t158, 8, (-1)] : List Int)) (inner := [.int .i64 t158, .int .i64 8, .int .i64 (-1)]) (ok := fun _ => True) (okp := fun _ => True) ?hr ?hp (fun _ hk => hk) trivial (Below.refl _ _) (Nat.le_refl _) (by simp) ?_; (case hd => rfl); (case hg => rfl); (case hr => first | (go_simp; done) | (go_simp; rfl)); (case hp => exact (Reps.one (show Kd.M (Kd.int .i64) _ _ _ t158 [.int .i64 t158] from rfl) (Reps.one (show Kd.M (Kd.int .i64) _ _ _ 8 [.int .i64 8] from rfl) (Reps.one (show Kd.M (Kd.int .i64) _ _ _ (-1) [.int .i64 (-1)] from rfl) (Reps.none _ _)))))
              intro v161 w15 ho16 hb hg_ hnew_
              clear hg_ hnew_
              (first | rw [← Ny160.out] at ho16 | (simp only [Int.reduceToNat] at ho16; rw [← Ny160.out] at ho16))
              have n0_ := Aside0.mk (Kd.R_lower ho16 (below_size (by repeat (first | (with_reducible first | exact HB.out | apply below_alloc | apply pw_below_drewN | apply below_drew1) | exact HB.out))))
              have n2_ := Aside0.mk (below_step (by repeat (first | (with_reducible first | exact HB.out | apply below_alloc | apply pw_below_drewN | apply below_drew1) | exact HB.out)) hb)
              have z_HI157_e1 := fun (h0_ : b 1 = true) (h1_ : b 5 = false) => (show IsS48 w w15 g157 t155 t159 from by first | exact (IsS48.below (by repeat (first | (with_reducible first | exact (Q_HI157_e1 h0_ h1_) | apply IsS48.alloc | apply IsS48.drewN | apply IsS48.drew | apply IsS48.set_1) | exact (Q_HI157_e1 h0_ h1_))) hb))
              have z_HO165 := fun (h0_ : b 3 = true) => (show Kd.R (Kd.int .i64) 3 w15 w.heap.size (fun _ => True) v164 y163 from by first | exact (Kd.R_elder' (by (with_reducible repeat (first | apply Kd.R_alloc | apply Kd.R_drewN | apply Kd.R_drew)); exact (Q_HO165 h0_)) (Kd.R_base ho16) hb) | exact Kd.R_mono (Kd.R_elder' (by (with_reducible repeat (first | apply Kd.R_alloc | apply Kd.R_drewN | apply Kd.R_drew)); exact (Q_HO165 h0_)) (Kd.R_base ho16) hb) (fun _ h_ => by first | trivial | exact h_ | exact h_.1))
              have z_HI157_e5 := fun (h0_ : b 5 = true) (h1_ : b 11 = false) => (show IsS48 w w15 g157 t155 t167 from by first | exact (IsS48.below (by repeat (first | (with_reducible first | exact (Q_HI157_e5 h0_ h1_) | apply IsS48.alloc | apply IsS48.drewN | apply IsS48.drew | apply IsS48.set_1) | exact (Q_HI157_e5 h0_ h1_))) hb))
              have z_HI157_e11 := fun (h0_ : b 11 = true) (h1_ : b 13 = false) => (show IsS48 w w15 g157 t155 t171 from by first | exact (IsS48.below (by repeat (first | (with_reducible first | exact (Q_HI157_e11 h0_ h1_) | apply IsS48.alloc | apply IsS48.drewN | apply IsS48.drew | apply IsS48.set_1) | exact (Q_HI157_e11 h0_ h1_))) hb))
              have z_HI157_e13 := fun (h0_ : b 13 = true) => (show IsS48 w w15 g157 t155 t173 from by first | exact (IsS48.below (by repeat (first | (with_reducible first | exact (Q_HI157_e13 h0_) | apply IsS48.alloc | apply IsS48.drewN | apply IsS48.drew | apply IsS48.set_1) | exact (Q_HI157_e13 h0_))) hb))
              clear HB
              have HO162 := n0_
              have HB := n2_
              clear n0_ n2_
              clear hb ho16
              obtain ⟨Ao17, co17, eo17⟩ := Kd.R_slice HO162.out
              subst eo17
              obtain ⟨ado17, fo17, _⟩ := Kd.at_int (Kd.R_reads' HO162.out).2.2 0 (by decide) (by rw [Ny160.out]; simp)
              cases fo17
              refine hK.out _ _ ⟨.slice (some ado17) y160.length co17, ado17, v164, adz_v164, m6_, m8_, (by rw [ha.out]; exact putSel_upk 1 hb_ rfl rfl rfl), fun h0_ => absurd ((hon 1 (by kernel_rfl)).symm.trans h0_) (by decide), (by repeat (first | (with_reducible first | exact HB.out | apply below_alloc | apply pw_below_drewN | apply below_drew1) | exact HB.out)), z_HI157_e1, fun _ => (by (with_reducible repeat (first | apply Kd.R_alloc | apply Kd.R_drewN | apply Kd.R_drew)); exact HO162.out), fun _ => ⟨_, rfl⟩, z_HO165, Q_HA_HO165, z_HI157_e5, z_HI157_e11, z_HI157_e13, Q_X6_, fun h0_ => absurd ((hoff 8 (by kernel_rfl)).symm.trans h0_) (by decide)⟩
            refine steps_cons ?_ ?_
            · rintro b a w' ⟨v161, adz_v161, v164, adz_v164, m6_, m8_, ha, Q_HI157, Q_HB, Q_HI157_e1, Q_HO162, Q_HA_HO162, Q_HO165, Q_HA_HO165, Q_HI157_e5, Q_HI157_e11, Q_HI157_e13, Q_X6_, Q_X8_⟩ hb_ hon hoff
              refine ⟨_, rfl, fun K hK => ?_⟩
              replace ha := Aside0.mk ha
              have HB := Aside0.mk Q_HB
              refine Kd.R_lit_step (Kd.int .i64) _ 3 ?hg (N := 11) ?hd (xs := ([0, 0, 0, 0, 0, 0, 1, 2] : List Int)) (inner := [.int .i64 0, .int .i64 0, .int .i64 0, .int .i64 0, .int .i64 0, .int .i64 0, .int .i64 1, .int .i64 2]) (ok := fun _ => True) (okp := fun _ => True) ?hr ?hp (fun _ hk => hk) trivial (Below.refl _ _) (Nat.le_refl _) (by simp) ?_; (case hd => rfl); (case hg => rfl); (case hr => first | (go_simp; done) | (go_simp; rfl)); (case hp => exact (Reps.one (show Kd.M (Kd.int .i64) _ _ _ 0 [.int .i64 0] from rfl) (Reps.one (show Kd.M (Kd.int .i64) _ _ _ 0 [.int .i64 0] from rfl) (Reps.one (show Kd.M (Kd.int .i64) _ _ _ 0 [.int .i64 0] from rfl) (Reps.one (show Kd.M (Kd.int .i64) _ _ _ 0 [.int .i64 0] from rfl) (Reps.one (show Kd.M (Kd.int .i64) _ _ _ 0 [.int .i64 0] from rfl) (Reps.one (show Kd.M (Kd.int .i64) _ _ _ 0 [.int .i64 0] from rfl) (Reps.one (show Kd.M (Kd.int .i64) _ _ _ 1 [.int .i64 1] from rfl) (Reps.one (show Kd.M (Kd.int .i64) _ _ _ 2 [.int .i64 2] from rfl) (Reps.none _ _))))))))))
              intro v164 w13 ho14 hb hg_ hnew_
              clear hg_ hnew_
              (first | rw [← Ny163.out] at ho14 | (simp only [Int.reduceToNat] at ho14; rw [← Ny163.out] at ho14))
              have n0_ := Aside0.mk (Kd.R_lower ho14 (below_size (by repeat (first | (with_reducible first | exact HB.out | apply below_alloc | apply pw_below_drewN | apply below_drew1) | exact HB.out))))
              have n2_ := Aside0.mk (below_step (by repeat (first | (with_reducible first | exact HB.out | apply below_alloc | apply pw_below_drewN | apply below_drew1) | exact HB.out)) hb)
              have z_HI157 := fun (h0_ : b 1 = false) => (show IsS48 w w13 g157 t155 t156 from by first | exact (IsS48.below (by repeat (first | (with_reducible first | exact (Q_HI157 h0_) | apply IsS48.alloc | apply IsS48.drewN | apply IsS48.drew | apply IsS48.set_1) | exact (Q_HI157 h0_))) hb))
              have z_HI157_e1 := fun (h0_ : b 1 = true) (h1_ : b 5 = false) => (show IsS48 w w13 g157 t155 t159 from by first | exact (IsS48.below (by repeat (first | (with_reducible first | exact (Q_HI157_e1 h0_ h1_) | apply IsS48.alloc | apply IsS48.drewN | apply IsS48.drew | apply IsS48.set_1) | exact (Q_HI157_e1 h0_ h1_))) hb))
              have z_HO162 := fun (h0_ : b 2 = true) => (show Kd.R (Kd.int .i64) 3 w13 w.heap.size (fun _ => True) v161 y160 from by first | exact (Kd.R_elder' (by (with_reducible repeat (first | apply Kd.R_alloc | apply Kd.R_drewN | apply Kd.R_drew)); exact (Q_HO162 h0_)) (Kd.R_base ho14) hb) | exact Kd.R_mono (Kd.R_elder' (by (with_reducible repeat (first | apply Kd.R_alloc | apply Kd.R_drewN | apply Kd.R_drew)); exact (Q_HO162 h0_)) (Kd.R_base ho14) hb) (fun _ h_ => by first | trivial | exact h_ | exact h_.1))
              have z_HI157_e5 := fun (h0_ : b 5 = true) (h1_ : b 11 = false) => (show IsS48 w w13 g157 t155 t167 from by first | exact (IsS48.below (by repeat (first | (with_reducible first | exact (Q_HI157_e5 h0_ h1_) | apply IsS48.alloc | apply IsS48.drewN | apply IsS48.drew | apply IsS48.set_1) | exact (Q_HI157_e5 h0_ h1_))) hb))
              have z_HI157_e11 := fun (h0_ : b 11 = true) (h1_ : b 13 = false) => (show IsS48 w w13 g157 t155 t171 from by first | exact (IsS48.below (by repeat (first | (with_reducible first | exact (Q_HI157_e11 h0_ h1_) | apply IsS48.alloc | apply IsS48.drewN | apply IsS48.drew | apply IsS48.set_1) | exact (Q_HI157_e11 h0_ h1_))) hb))
              have z_HI157_e13 := fun (h0_ : b 13 = true) => (show IsS48 w w13 g157 t155 t173 from by first | exact (IsS48.below (by repeat (first | (with_reducible first | exact (Q_HI157_e13 h0_) | apply IsS48.alloc | apply IsS48.drewN | apply IsS48.drew | apply IsS48.set_1) | exact (Q_HI157_e13 h0_))) hb))
              clear HB
              have HO165 := n0_
              have HB := n2_
              clear n0_ n2_
              clear hb ho14
              obtain ⟨Ao15, co15, eo15⟩ := Kd.R_slice HO165.out
              subst eo15
              obtain ⟨ado15, fo15, _⟩ := Kd.at_int (Kd.R_reads' HO165.out).2.2 0 (by decide) (by rw [Ny163.out]; simp)
              cases fo15
              refine hK.out _ _ ⟨v161, adz_v161, .slice (some ado15) y163.length co15, ado15, m6_, m8_, (by rw [ha.out]; exact putSel_upk 2 hb_ rfl rfl rfl), z_HI157, (by repeat (first | (with_reducible first | exact HB.out | apply below_alloc | apply pw_below_drewN | apply below_drew1) | exact HB.out)), z_HI157_e1, z_HO162, Q_HA_HO162, fun _ => (by (with_reducible repeat (first | apply Kd.R_alloc | apply Kd.R_drewN | apply Kd.R_drew)); exact HO165.out), fun _ => ⟨_, rfl⟩, z_HI157_e5, z_HI157_e11, z_HI157_e13, fun h0_ => absurd ((hoff 6 (by kernel_rfl)).symm.trans h0_) (by decide), fun h0_ => absurd ((hoff 8 (by kernel_rfl)).symm.trans h0_) (by decide)⟩
            refine steps_cons ?_ ?_
            · rintro b a w' ⟨v161, adz_v161, v164, adz_v164, m6_, m8_, ha, Q_HI157, Q_HB, Q_HI157_e1, Q_HO162, Q_HA_HO162, Q_HO165, Q_HA_HO165, Q_HI157_e5, Q_HI157_e11, Q_HI157_e13, Q_X6_, Q_X8_⟩ hb_ hon hoff
              refine ⟨_, rfl, fun K hK => ?_⟩
              have e12 : a.tmps[12]? = some (.pointer (some ⟨g157, 0, none⟩)) := by rw [ha]; exact (putSel_off rfl).trans rfl
              replace ha := Aside0.mk ha
              have HB := Aside0.mk Q_HB
              have HI157 := Aside0.mk (Q_HI157_e1 (hon 1 (by kernel_rfl)) hb_)
              refine goes_ Try.func41 (by kernel_rfl) rfl #[.pointer (some ⟨g157, 0, none⟩), .int .i64 8] (by rfl) rfl rfl (by first | (simp only [List.map_toArray, List.map_cons, List.map_nil, Act.eval, Array.getD_eq_getD_getElem?, Option.getD_some, e12]; done) | (simp only [List.map_toArray, List.map_cons, List.map_nil, Act.eval, Array.getD_eq_getD_getElem?, Option.getD_some, e12]; rfl)) ?_
              with_reducible refine (spec_l20Rd_pick.calls k g157 t155 t159 8 t166 t167 w _ ?side1 ?side2 A4.out).mono ?_
              (case side1 => repeat (first | (with_reducible first | exact HI157.out | apply IsS48.alloc | apply IsS48.drewN | apply IsS48.drew | apply IsS48.set_1) | exact HI157.out))
              (case side2 => repeat (first | (with_reducible first | exact HB.out | apply below_alloc | apply pw_below_drewN | apply below_drew1 | refine below_set ?_ (IsS48.ge HI157.out)) | exact HB.out))
              rintro e w15 ⟨rfl, hi, hb, hk⟩
              refine ⟨_, rfl, ?_⟩
              have n0_ := Aside0.mk (hb)
              have n1_ := Aside0.mk (hi)
              have z_HO162 := fun (h0_ : b 2 = true) => (show Kd.R (Kd.int .i64) 3 w15 w.heap.size (fun _ => True) v161 y160 from by first | exact (Kd.R_mono (Kd.R_keep (IsS48.apart (show IsS48 w _ g157 t155 t159 from by repeat (first | (with_reducible first | exact HI157.out | apply IsS48.alloc | apply IsS48.drewN | apply IsS48.drew | apply IsS48.set_1) | exact HI157.out)) (by (with_reducible repeat (first | apply Kd.R_alloc | apply Kd.R_drewN | apply Kd.R_drew)); exact (Q_HO162 h0_)) (by decide)) hk (fun _ h => h.2)) (fun _ h => h.1)) | exact Kd.R_mono (Kd.R_mono (Kd.R_keep (IsS48.apart (show IsS48 w _ g157 t155 t159 from by repeat (first | (with_reducible first | exact HI157.out | apply IsS48.alloc | apply IsS48.drewN | apply IsS48.drew | apply IsS48.set_1) | exact HI157.out)) (by (with_reducible repeat (first | apply Kd.R_alloc | apply Kd.R_drewN | apply Kd.R_drew)); exact (Q_HO162 h0_)) (by decide)) hk (fun _ h => h.2)) (fun _ h => h.1)) (fun _ h_ => by first | trivial | exact h_ | exact h_.1))
              have z_HO165 := fun (h0_ : b 3 = true) => (show Kd.R (Kd.int .i64) 3 w15 w.heap.size (fun _ => True) v164 y163 from by first | exact (Kd.R_mono (Kd.R_keep (IsS48.apart (show IsS48 w _ g157 t155 t159 from by repeat (first | (with_reducible first | exact HI157.out | apply IsS48.alloc | apply IsS48.drewN | apply IsS48.drew | apply IsS48.set_1) | exact HI157.out)) (by (with_reducible repeat (first | apply Kd.R_alloc | apply Kd.R_drewN | apply Kd.R_drew)); exact (Q_HO165 h0_)) (by decide)) hk (fun _ h => h.2)) (fun _ h => h.1)) | exact Kd.R_mono (Kd.R_mono (Kd.R_keep (IsS48.apart (show IsS48 w _ g157 t155 t159 from by repeat (first | (with_reducible first | exact HI157.out | apply IsS48.alloc | apply IsS48.drewN | apply IsS48.drew | apply IsS48.set_1) | exact HI157.out)) (by (with_reducible repeat (first | apply Kd.R_alloc | apply Kd.R_drewN | apply Kd.R_drew)); exact (Q_HO165 h0_)) (by decide)) hk (fun _ h => h.2)) (fun _ h => h.1)) (fun _ h_ => by first | trivial | exact h_ | exact h_.1))
              clear HB
              clear HI157
              have HB := n0_
              have HI157 := n1_
              clear n0_ n1_
              (try clear hb)
              (try clear hb2)
              (try clear hk)
              (try clear hi)
              refine hK.out _ _ ⟨v161, adz_v161, v164, adz_v164, m6_, m8_, (by rw [ha.out]; exact putSel_upk 3 hb_ rfl rfl rfl), fun h0_ => absurd ((hon 1 (by kernel_rfl)).symm.trans h0_) (by decide), (by repeat (first | (with_reducible first | exact HB.out | apply below_alloc | apply pw_below_drewN | apply below_drew1 | refine below_set ?_ (IsS48.ge HI157.out)) | exact HB.out)), fun _ h1_ => absurd ((up_self b 5).symm.trans h1_) (by decide), z_HO162, Q_HA_HO162, z_HO165, Q_HA_HO165, fun _ _ => (by repeat (first | (with_reducible first | exact HI157.out | apply IsS48.alloc | apply IsS48.drewN | apply IsS48.drew | apply IsS48.set_1) | exact HI157.out)), fun h0_ _ => absurd ((hoff 11 (by kernel_rfl)).symm.trans h0_) (by decide), fun h0_ => absurd ((hoff 13 (by kernel_rfl)).symm.trans h0_) (by decide), fun h0_ => absurd ((hoff 6 (by kernel_rfl)).symm.trans h0_) (by decide), fun h0_ => absurd ((hoff 8 (by kernel_rfl)).symm.trans h0_) (by decide)⟩
            refine steps_cons ?_ ?_
            · rintro b a w' ⟨v161, adz_v161, v164, adz_v164, m6_, m8_, ha, Q_HI157, Q_HB, Q_HI157_e1, Q_HO162, Q_HA_HO162, Q_HO165, Q_HA_HO165, Q_HI157_e5, Q_HI157_e11, Q_HI157_e13, Q_X6_, Q_X8_⟩ hb_ hon hoff
              refine ⟨_, rfl, fun K hK => ?_⟩
              have e11 : a.tmps[11]? = some (v164) := by rw [ha]; exact putSel_on (e := (3, 11, v164)) 2 rfl rfl (hon 3 (by kernel_rfl)) rfl
              have e13 : a.tmps[13]? = some (.int .i64 t166) := by rw [ha]; exact putSel_on (e := (5, 13, .int .i64 t166)) 3 rfl rfl (hon 5 (by kernel_rfl)) rfl
              replace ha := Aside0.mk ha
              have HB := Aside0.mk Q_HB
              have HO165 := Aside0.mk (Q_HO165 (hon 3 (by kernel_rfl)))
              have HA_HO165 := Aside0.mk (Q_HA_HO165 (hon 3 (by kernel_rfl)))
              obtain ⟨c_, hv_⟩ := HA_HO165.out
              rw [hv_] at e11
              refine value_ (w1 := w') (v := .pointer (some (adz_v164.add (t166).toNat))) (by rfl) rfl ?_ ?_
              · go_simp
                (try simp only [i64_w])
                try rfl
              refine hK.out _ _ ⟨v161, adz_v161, v164, adz_v164, (.pointer (some (adz_v164.add (t166).toNat))), m8_, (by rw [ha.out]; exact putSel_upk 4 hb_ rfl rfl rfl), fun h0_ => absurd ((hon 1 (by kernel_rfl)).symm.trans h0_) (by decide), Q_HB, fun _ h1_ => absurd ((hon 5 (by kernel_rfl)).symm.trans h1_) (by decide), Q_HO162, Q_HA_HO162, Q_HO165, Q_HA_HO165, Q_HI157_e5, Q_HI157_e11, Q_HI157_e13, fun _ => rfl, fun h0_ => absurd ((hoff 8 (by kernel_rfl)).symm.trans h0_) (by decide)⟩
            refine steps_cons ?_ ?_
            · rintro b a w' ⟨v161, adz_v161, v164, adz_v164, m6_, m8_, ha, Q_HI157, Q_HB, Q_HI157_e1, Q_HO162, Q_HA_HO162, Q_HO165, Q_HA_HO165, Q_HI157_e5, Q_HI157_e11, Q_HI157_e13, Q_X6_, Q_X8_⟩ hb_ hon hoff
              refine ⟨_, rfl, fun K hK => ?_⟩
              have e14 : a.tmps[14]? = some (m6_) := by rw [ha]; exact putSel_on (e := (6, 14, m6_)) 4 rfl rfl (hon 6 (by kernel_rfl)) rfl
              rw [Q_X6_ (hon 6 (by kernel_rfl))] at e14
              replace ha := Aside0.mk ha
              have HB := Aside0.mk Q_HB
              have HO165 := Aside0.mk (Q_HO165 (hon 3 (by kernel_rfl)))
              have HA_HO165 := Aside0.mk (Q_HA_HO165 (hon 3 (by kernel_rfl)))
              obtain ⟨c_, hv_⟩ := HA_HO165.out
              have hF_ := HO165.out
              rw [hv_] at hF_
              obtain ⟨ad_, ea_, hx_⟩ := Kd.at_int (Kd.R_reads' hF_).2.2 t166 (of_eq_true pi168) (of_eq_true qi168)
              cases ea_
              refine value_ (w1 := w') (v := .int .i64 (rd y163 t166)) (by rfl) rfl ?_ ?_
              · go_simp
                (try simp only [i64_w])
                try rfl
              refine hK.out _ _ ⟨v161, adz_v161, v164, adz_v164, m6_, m8_, (by rw [ha.out]; exact putSel_upk 5 hb_ rfl rfl rfl), fun h0_ => absurd ((hon 1 (by kernel_rfl)).symm.trans h0_) (by decide), Q_HB, fun _ h1_ => absurd ((hon 5 (by kernel_rfl)).symm.trans h1_) (by decide), Q_HO162, Q_HA_HO162, Q_HO165, Q_HA_HO165, Q_HI157_e5, Q_HI157_e11, Q_HI157_e13, Q_X6_, fun h0_ => absurd ((hoff 8 (by kernel_rfl)).symm.trans h0_) (by decide)⟩
            refine steps_cons ?_ ?_
            · rintro b a w' ⟨v161, adz_v161, v164, adz_v164, m6_, m8_, ha, Q_HI157, Q_HB, Q_HI157_e1, Q_HO162, Q_HA_HO162, Q_HO165, Q_HA_HO165, Q_HI157_e5, Q_HI157_e11, Q_HI157_e13, Q_X6_, Q_X8_⟩ hb_ hon hoff
              refine ⟨_, rfl, fun K hK => ?_⟩
              have e10 : a.tmps[10]? = some (v161) := by rw [ha]; exact putSel_on (e := (2, 10, v161)) 1 rfl rfl (hon 2 (by kernel_rfl)) rfl
              have e15 : a.tmps[15]? = some (.int .i64 (rd y163 t166)) := by rw [ha]; exact putSel_on (e := (7, 15, .int .i64 (rd y163 t166))) 5 rfl rfl (hon 7 (by kernel_rfl)) rfl
              replace ha := Aside0.mk ha
              have HB := Aside0.mk Q_HB
              have HO162 := Aside0.mk (Q_HO162 (hon 2 (by kernel_rfl)))
              have HA_HO162 := Aside0.mk (Q_HA_HO162 (hon 2 (by kernel_rfl)))
              have HO165 := Aside0.mk (Q_HO165 (hon 3 (by kernel_rfl)))
              have HA_HO165 := Aside0.mk (Q_HA_HO165 (hon 3 (by kernel_rfl)))
              obtain ⟨c_, hv_⟩ := HA_HO162.out
              rw [hv_] at e10
              refine value_ (w1 := w') (v := .pointer (some (adz_v161.add ((rd y163 t166)).toNat))) (by rfl) rfl ?_ ?_
              · go_simp
                (try simp only [i64_w])
                try rfl
              refine hK.out _ _ ⟨v161, adz_v161, v164, adz_v164, m6_, (.pointer (some (adz_v161.add ((rd y163 t166)).toNat))), (by rw [ha.out]; exact putSel_upk 6 hb_ rfl rfl rfl), fun h0_ => absurd ((hon 1 (by kernel_rfl)).symm.trans h0_) (by decide), Q_HB, fun _ h1_ => absurd ((hon 5 (by kernel_rfl)).symm.trans h1_) (by decide), Q_HO162, Q_HA_HO162, Q_HO165, Q_HA_HO165, Q_HI157_e5, Q_HI157_e11, Q_HI157_e13, Q_X6_, fun _ => rfl⟩
            refine steps_cons ?_ ?_
            · rintro b a w' ⟨v161, adz_v161, v164, adz_v164, m6_, m8_, ha, Q_HI157, Q_HB, Q_HI157_e1, Q_HO162, Q_HA_HO162, Q_HO165, Q_HA_HO165, Q_HI157_e5, Q_HI157_e11, Q_HI157_e13, Q_X6_, Q_X8_⟩ hb_ hon hoff
              refine ⟨_, rfl, fun K hK => ?_⟩
              have e16 : a.tmps[16]? = some (m8_) := by rw [ha]; exact putSel_on (e := (8, 16, m8_)) 6 rfl rfl (hon 8 (by kernel_rfl)) rfl
              rw [Q_X8_ (hon 8 (by kernel_rfl))] at e16
              replace ha := Aside0.mk ha
              have HB := Aside0.mk Q_HB
              have HO162 := Aside0.mk (Q_HO162 (hon 2 (by kernel_rfl)))
              have HA_HO162 := Aside0.mk (Q_HA_HO162 (hon 2 (by kernel_rfl)))
              have HO165 := Aside0.mk (Q_HO165 (hon 3 (by kernel_rfl)))
              have HA_HO165 := Aside0.mk (Q_HA_HO165 (hon 3 (by kernel_rfl)))
              obtain ⟨c_, hv_⟩ := HA_HO162.out
              have hF_ := HO162.out
              rw [hv_] at hF_
              obtain ⟨ad_, ea_, hx_⟩ := Kd.at_int (Kd.R_reads' hF_).2.2 (rd y163 t166) (of_eq_true pi169) (of_eq_true qi169)
              cases ea_
              refine value_ (w1 := w') (v := .int .i64 (rd y160 (rd y163 t166))) (by rfl) rfl ?_ ?_
              · go_simp
                (try simp only [i64_w])
                try rfl
              refine hK.out _ _ ⟨v161, adz_v161, v164, adz_v164, m6_, m8_, (by rw [ha.out]; exact putSel_upk 7 hb_ rfl rfl rfl), fun h0_ => absurd ((hon 1 (by kernel_rfl)).symm.trans h0_) (by decide), Q_HB, fun _ h1_ => absurd ((hon 5 (by kernel_rfl)).symm.trans h1_) (by decide), Q_HO162, Q_HA_HO162, Q_HO165, Q_HA_HO165, Q_HI157_e5, Q_HI157_e11, Q_HI157_e13, Q_X6_, Q_X8_⟩
            refine steps_cons ?_ ?_
            · rintro b a w' ⟨v161, adz_v161, v164, adz_v164, m6_, m8_, ha, Q_HI157, Q_HB, Q_HI157_e1, Q_HO162, Q_HA_HO162, Q_HO165, Q_HA_HO165, Q_HI157_e5, Q_HI157_e11, Q_HI157_e13, Q_X6_, Q_X8_⟩ hb_ hon hoff
              refine ⟨_, rfl, fun K hK => ?_⟩
              have e18 : a.tmps[18]? = some (.pointer (some ⟨g157, 0, none⟩)) := by rw [ha]; exact (putSel_off rfl).trans rfl
              replace ha := Aside0.mk ha
              have HB := Aside0.mk Q_HB
              have HI157 := Aside0.mk (Q_HI157_e5 (hon 5 (by kernel_rfl)) hb_)
              refine goes_ Try.func39 (by kernel_rfl) rfl #[.pointer (some ⟨g157, 0, none⟩), .int .i64 12] (by rfl) rfl rfl (by first | (simp only [List.map_toArray, List.map_cons, List.map_nil, Act.eval, Array.getD_eq_getD_getElem?, Option.getD_some, e18]; done) | (simp only [List.map_toArray, List.map_cons, List.map_nil, Act.eval, Array.getD_eq_getD_getElem?, Option.getD_some, e18]; rfl)) ?_
              with_reducible refine (spec_l20Word.calls k g157 t155 t167 12 t170 t171 w _ ?side1 ?side2 A9.out).mono ?_
              (case side1 => repeat (first | (with_reducible first | exact HI157.out | apply IsS48.alloc | apply IsS48.drewN | apply IsS48.drew | apply IsS48.set_1) | exact HI157.out))
              (case side2 => repeat (first | (with_reducible first | exact HB.out | apply below_alloc | apply pw_below_drewN | apply below_drew1 | refine below_set ?_ (IsS48.ge HI157.out)) | exact HB.out))
              rintro e w16 ⟨rfl, hi, hb, hk⟩
              refine ⟨_, rfl, ?_⟩
              have n0_ := Aside0.mk (hb)
              have n1_ := Aside0.mk (hi)
              have z_HO162 := fun (h0_ : b 2 = true) => (show Kd.R (Kd.int .i64) 3 w16 w.heap.size (fun _ => True) v161 y160 from by first | exact (Kd.R_mono (Kd.R_keep (IsS48.apart (show IsS48 w _ g157 t155 t167 from by repeat (first | (with_reducible first | exact HI157.out | apply IsS48.alloc | apply IsS48.drewN | apply IsS48.drew | apply IsS48.set_1) | exact HI157.out)) (by (with_reducible repeat (first | apply Kd.R_alloc | apply Kd.R_drewN | apply Kd.R_drew)); exact (Q_HO162 h0_)) (by decide)) hk (fun _ h => h.2)) (fun _ h => h.1)) | exact Kd.R_mono (Kd.R_mono (Kd.R_keep (IsS48.apart (show IsS48 w _ g157 t155 t167 from by repeat (first | (with_reducible first | exact HI157.out | apply IsS48.alloc | apply IsS48.drewN | apply IsS48.drew | apply IsS48.set_1) | exact HI157.out)) (by (with_reducible repeat (first | apply Kd.R_alloc | apply Kd.R_drewN | apply Kd.R_drew)); exact (Q_HO162 h0_)) (by decide)) hk (fun _ h => h.2)) (fun _ h => h.1)) (fun _ h_ => by first | trivial | exact h_ | exact h_.1))
              have z_HO165 := fun (h0_ : b 3 = true) => (show Kd.R (Kd.int .i64) 3 w16 w.heap.size (fun _ => True) v164 y163 from by first | exact (Kd.R_mono (Kd.R_keep (IsS48.apart (show IsS48 w _ g157 t155 t167 from by repeat (first | (with_reducible first | exact HI157.out | apply IsS48.alloc | apply IsS48.drewN | apply IsS48.drew | apply IsS48.set_1) | exact HI157.out)) (by (with_reducible repeat (first | apply Kd.R_alloc | apply Kd.R_drewN | apply Kd.R_drew)); exact (Q_HO165 h0_)) (by decide)) hk (fun _ h => h.2)) (fun _ h => h.1)) | exact Kd.R_mono (Kd.R_mono (Kd.R_keep (IsS48.apart (show IsS48 w _ g157 t155 t167 from by repeat (first | (with_reducible first | exact HI157.out | apply IsS48.alloc | apply IsS48.drewN | apply IsS48.drew | apply IsS48.set_1) | exact HI157.out)) (by (with_reducible repeat (first | apply Kd.R_alloc | apply Kd.R_drewN | apply Kd.R_drew)); exact (Q_HO165 h0_)) (by decide)) hk (fun _ h => h.2)) (fun _ h => h.1)) (fun _ h_ => by first | trivial | exact h_ | exact h_.1))
              clear HB
              clear HI157
              have HB := n0_
              have HI157 := n1_
              clear n0_ n1_
              (try clear hb)
              (try clear hb2)
              (try clear hk)
              (try clear hi)
              refine hK.out _ _ ⟨v161, adz_v161, v164, adz_v164, m6_, m8_, (by rw [ha.out]; exact putSel_upk 8 hb_ rfl rfl rfl), fun h0_ => absurd ((hon 1 (by kernel_rfl)).symm.trans h0_) (by decide), (by repeat (first | (with_reducible first | exact HB.out | apply below_alloc | apply pw_below_drewN | apply below_drew1 | refine below_set ?_ (IsS48.ge HI157.out)) | exact HB.out)), fun _ h1_ => absurd ((hon 5 (by kernel_rfl)).symm.trans h1_) (by decide), z_HO162, Q_HA_HO162, z_HO165, Q_HA_HO165, fun _ h1_ => absurd ((up_self b 11).symm.trans h1_) (by decide), fun _ _ => (by repeat (first | (with_reducible first | exact HI157.out | apply IsS48.alloc | apply IsS48.drewN | apply IsS48.drew | apply IsS48.set_1) | exact HI157.out)), fun h0_ => absurd ((hoff 13 (by kernel_rfl)).symm.trans h0_) (by decide), Q_X6_, Q_X8_⟩
            refine steps_cons ?_ ?_
            · rintro b a w' ⟨v161, adz_v161, v164, adz_v164, m6_, m8_, ha, Q_HI157, Q_HB, Q_HI157_e1, Q_HO162, Q_HA_HO162, Q_HO165, Q_HA_HO165, Q_HI157_e5, Q_HI157_e11, Q_HI157_e13, Q_X6_, Q_X8_⟩ hb_ hon hoff
              refine ⟨_, rfl, fun K hK => ?_⟩
              have e20 : a.tmps[20]? = some (.pointer (some ⟨g157, 0, none⟩)) := by rw [ha]; exact (putSel_off rfl).trans rfl
              replace ha := Aside0.mk ha
              have HB := Aside0.mk Q_HB
              have HI157 := Aside0.mk (Q_HI157_e11 (hon 11 (by kernel_rfl)) hb_)
              refine goes_ Try.func39 (by kernel_rfl) rfl #[.pointer (some ⟨g157, 0, none⟩), .int .i64 12] (by rfl) rfl rfl (by first | (simp only [List.map_toArray, List.map_cons, List.map_nil, Act.eval, Array.getD_eq_getD_getElem?, Option.getD_some, e20]; done) | (simp only [List.map_toArray, List.map_cons, List.map_nil, Act.eval, Array.getD_eq_getD_getElem?, Option.getD_some, e20]; rfl)) ?_
              with_reducible refine (spec_l20Word.calls k g157 t155 t171 12 t172 t173 w _ ?side1 ?side2 A10.out).mono ?_
              (case side1 => repeat (first | (with_reducible first | exact HI157.out | apply IsS48.alloc | apply IsS48.drewN | apply IsS48.drew | apply IsS48.set_1) | exact HI157.out))
              (case side2 => repeat (first | (with_reducible first | exact HB.out | apply below_alloc | apply pw_below_drewN | apply below_drew1 | refine below_set ?_ (IsS48.ge HI157.out)) | exact HB.out))
              rintro e w17 ⟨rfl, hi, hb, hk⟩
              refine ⟨_, rfl, ?_⟩
              have n0_ := Aside0.mk (hb)
              have n1_ := Aside0.mk (hi)
              have z_HO162 := fun (h0_ : b 2 = true) => (show Kd.R (Kd.int .i64) 3 w17 w.heap.size (fun _ => True) v161 y160 from by first | exact (Kd.R_mono (Kd.R_keep (IsS48.apart (show IsS48 w _ g157 t155 t171 from by repeat (first | (with_reducible first | exact HI157.out | apply IsS48.alloc | apply IsS48.drewN | apply IsS48.drew | apply IsS48.set_1) | exact HI157.out)) (by (with_reducible repeat (first | apply Kd.R_alloc | apply Kd.R_drewN | apply Kd.R_drew)); exact (Q_HO162 h0_)) (by decide)) hk (fun _ h => h.2)) (fun _ h => h.1)) | exact Kd.R_mono (Kd.R_mono (Kd.R_keep (IsS48.apart (show IsS48 w _ g157 t155 t171 from by repeat (first | (with_reducible first | exact HI157.out | apply IsS48.alloc | apply IsS48.drewN | apply IsS48.drew | apply IsS48.set_1) | exact HI157.out)) (by (with_reducible repeat (first | apply Kd.R_alloc | apply Kd.R_drewN | apply Kd.R_drew)); exact (Q_HO162 h0_)) (by decide)) hk (fun _ h => h.2)) (fun _ h => h.1)) (fun _ h_ => by first | trivial | exact h_ | exact h_.1))
              have z_HO165 := fun (h0_ : b 3 = true) => (show Kd.R (Kd.int .i64) 3 w17 w.heap.size (fun _ => True) v164 y163 from by first | exact (Kd.R_mono (Kd.R_keep (IsS48.apart (show IsS48 w _ g157 t155 t171 from by repeat (first | (with_reducible first | exact HI157.out | apply IsS48.alloc | apply IsS48.drewN | apply IsS48.drew | apply IsS48.set_1) | exact HI157.out)) (by (with_reducible repeat (first | apply Kd.R_alloc | apply Kd.R_drewN | apply Kd.R_drew)); exact (Q_HO165 h0_)) (by decide)) hk (fun _ h => h.2)) (fun _ h => h.1)) | exact Kd.R_mono (Kd.R_mono (Kd.R_keep (IsS48.apart (show IsS48 w _ g157 t155 t171 from by repeat (first | (with_reducible first | exact HI157.out | apply IsS48.alloc | apply IsS48.drewN | apply IsS48.drew | apply IsS48.set_1) | exact HI157.out)) (by (with_reducible repeat (first | apply Kd.R_alloc | apply Kd.R_drewN | apply Kd.R_drew)); exact (Q_HO165 h0_)) (by decide)) hk (fun _ h => h.2)) (fun _ h => h.1)) (fun _ h_ => by first | trivial | exact h_ | exact h_.1))
              clear HB
              clear HI157
              have HB := n0_
              have HI157 := n1_
              clear n0_ n1_
              (try clear hb)
              (try clear hb2)
              (try clear hk)
              (try clear hi)
              refine hK.out _ _ ⟨v161, adz_v161, v164, adz_v164, m6_, m8_, (by rw [ha.out]; exact putSel_upk 9 hb_ rfl rfl rfl), fun h0_ => absurd ((hon 1 (by kernel_rfl)).symm.trans h0_) (by decide), (by repeat (first | (with_reducible first | exact HB.out | apply below_alloc | apply pw_below_drewN | apply below_drew1 | refine below_set ?_ (IsS48.ge HI157.out)) | exact HB.out)), fun _ h1_ => absurd ((hon 5 (by kernel_rfl)).symm.trans h1_) (by decide), z_HO162, Q_HA_HO162, z_HO165, Q_HA_HO165, fun _ h1_ => absurd ((hon 11 (by kernel_rfl)).symm.trans h1_) (by decide), fun _ h1_ => absurd ((up_self b 13).symm.trans h1_) (by decide), fun _ => (by repeat (first | (with_reducible first | exact HI157.out | apply IsS48.alloc | apply IsS48.drewN | apply IsS48.drew | apply IsS48.set_1) | exact HI157.out)), Q_X6_, Q_X8_⟩
            refine steps_cons ?_ ?_
            · rintro b a w' ⟨v161, adz_v161, v164, adz_v164, m6_, m8_, ha, Q_HI157, Q_HB, Q_HI157_e1, Q_HO162, Q_HA_HO162, Q_HO165, Q_HA_HO165, Q_HI157_e5, Q_HI157_e11, Q_HI157_e13, Q_X6_, Q_X8_⟩ hb_ hon hoff
              refine ⟨_, rfl, fun K hK => ?_⟩
              have e17 : a.tmps[17]? = some (.int .i64 (rd y160 (rd y163 t166))) := by rw [ha]; exact putSel_on (e := (9, 17, .int .i64 (rd y160 (rd y163 t166)))) 7 rfl rfl (hon 9 (by kernel_rfl)) rfl
              replace ha := Aside0.mk ha
              have HB := Aside0.mk Q_HB
              have HO162 := Aside0.mk (Q_HO162 (hon 2 (by kernel_rfl)))
              have HA_HO162 := Aside0.mk (Q_HA_HO162 (hon 2 (by kernel_rfl)))
              have HO165 := Aside0.mk (Q_HO165 (hon 3 (by kernel_rfl)))
              have HA_HO165 := Aside0.mk (Q_HA_HO165 (hon 3 (by kernel_rfl)))
              have HI157 := Aside0.mk (Q_HI157_e13 (hon 13 (by kernel_rfl)))
              refine value_ (w1 := w') (v := .int .i64 (rd y160 (rd y163 t166))) (by rfl) rfl ?_ ?_
              · go_simp
                (try simp only [i64_w])
                try rfl
              refine hK.out _ _ ⟨v161, adz_v161, v164, adz_v164, m6_, m8_, (by rw [ha.out]; exact putSel_upk 10 hb_ rfl rfl rfl), fun h0_ => absurd ((hon 1 (by kernel_rfl)).symm.trans h0_) (by decide), Q_HB, fun _ h1_ => absurd ((hon 5 (by kernel_rfl)).symm.trans h1_) (by decide), Q_HO162, Q_HA_HO162, Q_HO165, Q_HA_HO165, fun _ h1_ => absurd ((hon 11 (by kernel_rfl)).symm.trans h1_) (by decide), fun _ h1_ => absurd ((hon 13 (by kernel_rfl)).symm.trans h1_) (by decide), Q_HI157_e13, Q_X6_, Q_X8_⟩
            refine steps_cons ?_ ?_
            · rintro b a w' ⟨v161, adz_v161, v164, adz_v164, m6_, m8_, ha, Q_HI157, Q_HB, Q_HI157_e1, Q_HO162, Q_HA_HO162, Q_HO165, Q_HA_HO165, Q_HI157_e5, Q_HI157_e11, Q_HI157_e13, Q_X6_, Q_X8_⟩ hb_ hon hoff
              refine ⟨_, rfl, fun K hK => ?_⟩
              have e19 : a.tmps[19]? = some (.int .i64 t170) := by rw [ha]; exact putSel_on (e := (11, 19, .int .i64 t170)) 8 rfl rfl (hon 11 (by kernel_rfl)) rfl
              replace ha := Aside0.mk ha
              have HB := Aside0.mk Q_HB
              have HO162 := Aside0.mk (Q_HO162 (hon 2 (by kernel_rfl)))
              have HA_HO162 := Aside0.mk (Q_HA_HO162 (hon 2 (by kernel_rfl)))
              have HO165 := Aside0.mk (Q_HO165 (hon 3 (by kernel_rfl)))
              have HA_HO165 := Aside0.mk (Q_HA_HO165 (hon 3 (by kernel_rfl)))
              have HI157 := Aside0.mk (Q_HI157_e13 (hon 13 (by kernel_rfl)))
              refine value_ (w1 := w') (v := .int .i64 t170) (by rfl) rfl ?_ ?_
              · go_simp
                (try simp only [i64_w])
                try rfl
              refine hK.out _ _ ⟨v161, adz_v161, v164, adz_v164, m6_, m8_, (by rw [ha.out]; exact putSel_upk 11 hb_ rfl rfl rfl), fun h0_ => absurd ((hon 1 (by kernel_rfl)).symm.trans h0_) (by decide), Q_HB, fun _ h1_ => absurd ((hon 5 (by kernel_rfl)).symm.trans h1_) (by decide), Q_HO162, Q_HA_HO162, Q_HO165, Q_HA_HO165, fun _ h1_ => absurd ((hon 11 (by kernel_rfl)).symm.trans h1_) (by decide), fun _ h1_ => absurd ((hon 13 (by kernel_rfl)).symm.trans h1_) (by decide), Q_HI157_e13, Q_X6_, Q_X8_⟩
            refine steps_cons ?_ ?_
            · rintro b a w' ⟨v161, adz_v161, v164, adz_v164, m6_, m8_, ha, Q_HI157, Q_HB, Q_HI157_e1, Q_HO162, Q_HA_HO162, Q_HO165, Q_HA_HO165, Q_HI157_e5, Q_HI157_e11, Q_HI157_e13, Q_X6_, Q_X8_⟩ hb_ hon hoff
              refine ⟨_, rfl, fun K hK => ?_⟩
              have e21 : a.tmps[21]? = some (.int .i64 t172) := by rw [ha]; exact putSel_on (e := (13, 21, .int .i64 t172)) 9 rfl rfl (hon 13 (by kernel_rfl)) rfl
              replace ha := Aside0.mk ha
              have HB := Aside0.mk Q_HB
              have HO162 := Aside0.mk (Q_HO162 (hon 2 (by kernel_rfl)))
              have HA_HO162 := Aside0.mk (Q_HA_HO162 (hon 2 (by kernel_rfl)))
              have HO165 := Aside0.mk (Q_HO165 (hon 3 (by kernel_rfl)))
              have HA_HO165 := Aside0.mk (Q_HA_HO165 (hon 3 (by kernel_rfl)))
              have HI157 := Aside0.mk (Q_HI157_e13 (hon 13 (by kernel_rfl)))
              refine value_ (w1 := w') (v := .int .i64 t172) (by rfl) rfl ?_ ?_
              · go_simp
                (try simp only [i64_w])
                try rfl
              refine hK.out _ _ ⟨v161, adz_v161, v164, adz_v164, m6_, m8_, (by rw [ha.out]; exact putSel_upk 12 hb_ rfl rfl rfl), fun h0_ => absurd ((hon 1 (by kernel_rfl)).symm.trans h0_) (by decide), Q_HB, fun _ h1_ => absurd ((hon 5 (by kernel_rfl)).symm.trans h1_) (by decide), Q_HO162, Q_HA_HO162, Q_HO165, Q_HA_HO165, fun _ h1_ => absurd ((hon 11 (by kernel_rfl)).symm.trans h1_) (by decide), fun _ h1_ => absurd ((hon 13 (by kernel_rfl)).symm.trans h1_) (by decide), Q_HI157_e13, Q_X6_, Q_X8_⟩
            exact steps_nil
          rintro b a w23 hall ⟨v161, adz_v161, v164, adz_v164, m6_, m8_, ha, Q_HI157, Q_HB, Q_HI157_e1, Q_HO162, Q_HA_HO162, Q_HO165, Q_HA_HO165, Q_HI157_e5, Q_HI157_e11, Q_HI157_e13, Q_X6_, Q_X8_⟩
          clear HB HI157
          have hb1_ := hall 1 (by kernel_rfl)
          have hb2_ := hall 2 (by kernel_rfl)
          have hb3_ := hall 3 (by kernel_rfl)
          have hb5_ := hall 5 (by kernel_rfl)
          have hb6_ := hall 6 (by kernel_rfl)
          have hb7_ := hall 7 (by kernel_rfl)
          have hb8_ := hall 8 (by kernel_rfl)
          have hb9_ := hall 9 (by kernel_rfl)
          have hb11_ := hall 11 (by kernel_rfl)
          have hb13_ := hall 13 (by kernel_rfl)
          have hb14_ := hall 14 (by kernel_rfl)
          have hb15_ := hall 15 (by kernel_rfl)
          have hb16_ := hall 16 (by kernel_rfl)
          subst ha
          obtain rfl := Q_X6_ hb6_
          obtain rfl := Q_X8_ hb8_
          simp only [putSel, hb1_, hb2_, hb3_, hb5_, hb6_, hb7_, hb8_, hb9_, hb11_, hb13_, hb14_, hb15_, hb16_, if_true, Act.put, List.setIfInBounds_toArray, List.set_cons_zero, List.set_cons_succ]
          clear Q_HI157
          have HB := Aside0.mk Q_HB
          clear Q_HB
          clear Q_HI157_e1
          have HO162 := Aside0.mk (Q_HO162 hb2_)
          clear Q_HO162
          have HA_HO162 := Aside0.mk (Q_HA_HO162 hb2_)
          clear Q_HA_HO162
          have HO165 := Aside0.mk (Q_HO165 hb3_)
          clear Q_HO165
          have HA_HO165 := Aside0.mk (Q_HA_HO165 hb3_)
          clear Q_HA_HO165
          clear Q_HI157_e5
          clear Q_HI157_e11
          have HI157 := Aside0.mk (Q_HI157_e13 hb13_)
          clear Q_HI157_e13
          clear hall hb1_ hb2_ hb3_ hb5_ hb6_ hb7_ hb8_ hb9_ hb11_ hb13_ hb14_ hb15_ hb16_
          obtain ⟨co24, eo24⟩ := HA_HO162.out
          clear HA_HO162
          subst eo24
          obtain ⟨co25, eo25⟩ := HA_HO165.out
          clear HA_HO165
          subst eo25
          try go_wp2
          go_ret3
          exact ⟨by first | rfl | (simp [errW_none, errW_some] <;> rfl) | (simp [*, errW_none, errW_some] <;> rfl), by repeat (first | (with_reducible first | exact HB.out | apply below_alloc | apply pw_below_drewN | apply below_drew1 | refine below_set ?_ (IsS48.ge HI157.out)) | exact HB.out)⟩
        · rw [if_neg c8] at H
          exact absurd H (by simp)
      · rw [if_neg c7] at H
        exact absurd H (by simp)
    · rw [if_neg c6] at H
      exact absurd H (by simp)
  · rw [if_neg c5] at H
    exact absurd H (by simp)

/-! ### laws_FnAluLt: function 17 -/
def laws_FnAluLt.j0 : Nat → Int → Int → Bool → Option (Bool)
  | 0, _, _, _ => none
  | k + 1, x4, x5, x33 => if x33 = true then ((laws_haOk.f).bind fun t181 => (some t181)) else ((impl_AluDo.f k 5 x4 x5).bind fun t182 => ((impl_AluDo.f k 5 x5 x4).bind fun t183 => ((impl_WrdInt.f x4).bind fun t184 => ((impl_WrdInt.f x5).bind fun t185 => (if ((t182 == 1) == (decide (t184 < t185))) = true then ((impl_AluDo.f k 5 x4 x4).bind fun t186 => (if t186 = 0 then (if ((x4 == x5) == ((wrap64 (t182 + t183)) == 0)) = true then (some (decide ((wrap64 (t182 + t183)) ≤ 1))) else (some false)) else (some false))) else (some false))))))
def laws_FnAluLt.f (k : Nat) (l0 : List Int) : Option (Bool) := if (l0.length : Int) > 1048576 then (some true) else ((spec_DrawAluDo.f k l0).bind fun bt174 => ((impl_AluDo.f k bt174.1 bt174.2.1 bt174.2.2).bind fun t177 => ((spec_AluDo.f k bt174.1 bt174.2.1 bt174.2.2).bind fun t178 => (if t177 = t178 then ((spec_WrdOk.f bt174.2.1).bind fun t179 => (if t179 = true then ((spec_WrdOk.f bt174.2.2).bind fun t180 => (laws_FnAluLt.j0 k bt174.2.1 bt174.2.2 (!t180))) else (laws_FnAluLt.j0 k bt174.2.1 bt174.2.2 true))) else (some false)))))
theorem laws_FnAluLt.mono_l : ∀ k, (∀ y0 y1 y2, LeO (laws_FnAluLt.j0 k y0 y1 y2) (laws_FnAluLt.j0 (k + 1) y0 y1 y2))
  | 0 => fun _ _ _ r h => by simp [laws_FnAluLt.j0] at h
  | k + 1 => by
    have ih0 := laws_FnAluLt.mono_l k
    · intro y0 y1 y2
      unfold laws_FnAluLt.j0
      repeat' first
      | (with_reducible exact ih0 _ _ _)
      | (with_reducible exact impl_AluDo.mono _ _ _ _)
      | (with_reducible exact spec_AluDo.mono _ _ _ _)
      | (with_reducible exact spec_DrawAluDo.mono _ _)
      | (with_reducible exact LeO.refl _)
      | (with_reducible exact LeO.none _)
      | (with_reducible refine LeO.ite ?_ ?_)
      | (with_reducible refine LeO.bind ?_ (fun _ => ?_))
      | exact ih0 _ _ _
      | exact impl_AluDo.mono _ _ _ _
      | exact spec_AluDo.mono _ _ _ _
      | exact spec_DrawAluDo.mono _ _
      | exact LeO.none _
      | refine LeO.ite ?_ ?_
      | refine LeO.bind ?_ (fun _ => ?_)
theorem laws_FnAluLt.mono : ∀ a0 k, LeO (laws_FnAluLt.f k a0) (laws_FnAluLt.f (k + 1) a0) := by
  intro a0 k
  have ih0 := laws_FnAluLt.mono_l k
  unfold laws_FnAluLt.f
  repeat' first
      | (with_reducible exact ih0 _ _ _)
      | (with_reducible exact impl_AluDo.mono _ _ _ _)
      | (with_reducible exact spec_AluDo.mono _ _ _ _)
      | (with_reducible exact spec_DrawAluDo.mono _ _)
      | (with_reducible exact LeO.refl _)
      | (with_reducible exact LeO.none _)
      | (with_reducible refine LeO.ite ?_ ?_)
      | (with_reducible refine LeO.bind ?_ (fun _ => ?_))
      | exact ih0 _ _ _
      | exact impl_AluDo.mono _ _ _ _
      | exact spec_AluDo.mono _ _ _ _
      | exact spec_DrawAluDo.mono _ _
      | exact LeO.none _
      | refine LeO.ite ?_ ?_
      | refine LeO.bind ?_ (fun _ => ?_)
set_option maxHeartbeats 8000000 in
set_option maxRecDepth 100000 in
theorem laws_FnAluLt.calls (k : Nat) (A0 : Option Addr) (c0 : Nat) (l0 : List Int) (r : Bool) (w : World) (hr0 : Kd.C (Kd.int .u8) w A0 l0.length l0) (hc0 : l0.length ≤ c0) (h : laws_FnAluLt.f k l0 = some r) :
    Calls Try.prog 17 #[.slice A0 l0.length c0] w fun e w' => e = .returned (.bool r) ∧ Below w.heap.size w w' := by
  have HR0 := Aside0.mk hr0
  have HC0 := Aside0.mk hc0
  clear hr0 hc0
  have HB := Aside0.mk (Below.refl w.heap.size w)
  have H : (if (l0.length : Int) > 1048576 then (some true) else ((spec_DrawAluDo.f k l0).bind fun bt174 => ((impl_AluDo.f k bt174.1 bt174.2.1 bt174.2.2).bind fun t177 => ((spec_AluDo.f k bt174.1 bt174.2.1 bt174.2.2).bind fun t178 => (if t177 = t178 then ((spec_WrdOk.f bt174.2.1).bind fun t179 => (if t179 = true then ((spec_WrdOk.f bt174.2.2).bind fun t180 => (laws_FnAluLt.j0 k bt174.2.1 bt174.2.2 (!t180))) else (laws_FnAluLt.j0 k bt174.2.1 bt174.2.2 true))) else (some false)))))) = some r := h
  clear h
  by_cases c2 : (l0.length : Int) > 1048576
  · rw [if_pos c2] at H
    have c2b0 : decide (1048576 < (l0.length : Int)) = true := decide_eq_true c2
    have c2b1 : decide (1048576 < l0.length) = true := decide_eq_true (by omega)
    clear c2
    obtain rfl := Option.some.inj H
    go_enter Try.func17, Try.ntmps17
    go_wp2
    go_ret
    exact ⟨by first | rfl | (simp [errW_none, errW_some] <;> rfl) | (simp [*, errW_none, errW_some] <;> rfl), by repeat (first | (with_reducible first | exact HB.out | apply below_alloc | apply pw_below_drewN | apply below_drew1) | exact HB.out)⟩
  · rw [if_neg c2] at H
    have c2b0 : decide (1048576 < (l0.length : Int)) = false := decide_eq_false c2
    have c2b1 : decide (1048576 < l0.length) = false := decide_eq_false (by omega)
    clear c2
    replace H := Option.bind_eq_some_iff.mp H
    obtain ⟨⟨t174, t175, t176⟩, A30, H⟩ := H
    replace H : ((impl_AluDo.f k t174 t175 t176).bind fun t177 => ((spec_AluDo.f k t174 t175 t176).bind fun t178 => (if t177 = t178 then ((spec_WrdOk.f t175).bind fun t179 => (if t179 = true then ((spec_WrdOk.f t176).bind fun t180 => (laws_FnAluLt.j0 k t175 t176 (!t180))) else (laws_FnAluLt.j0 k t175 t176 true))) else (some false)))) = some r := H
    have A3 := Aside0.mk A30
    clear A30
    replace H := Option.bind_eq_some_iff.mp H
    obtain ⟨t177, A40, H⟩ := H
    replace H : ((spec_AluDo.f k t174 t175 t176).bind fun t178 => (if t177 = t178 then ((spec_WrdOk.f t175).bind fun t179 => (if t179 = true then ((spec_WrdOk.f t176).bind fun t180 => (laws_FnAluLt.j0 k t175 t176 (!t180))) else (laws_FnAluLt.j0 k t175 t176 true))) else (some false))) = some r := H
    have A4 := Aside0.mk A40
    clear A40
    replace H := Option.bind_eq_some_iff.mp H
    obtain ⟨t178, A50, H⟩ := H
    replace H : (if t177 = t178 then ((spec_WrdOk.f t175).bind fun t179 => (if t179 = true then ((spec_WrdOk.f t176).bind fun t180 => (laws_FnAluLt.j0 k t175 t176 (!t180))) else (laws_FnAluLt.j0 k t175 t176 true))) else (some false)) = some r := H
    have A5 := Aside0.mk A50
    clear A50
    by_cases c6 : t177 = t178
    · rw [if_pos c6] at H
      have c6b0 : (t177 == t178) = true := beq_iff_eq.mpr c6
      have c6b1 : (t177 != t178) = false := bne_eq_false_iff_eq.mpr c6
      clear c6
      have HC7 := Aside0.mk H
      clear H
      go_enter Try.func17, Try.ntmps17
      go_upto_region 6 with (first | ((with_reducible refine gate_callee (f := 34) rfl ?_); refine goesL_ (some 13) rfl rfl Try.func34 (by kernel_rfl) rfl #[.slice A0 l0.length c0] rfl (by (try simp only [List.map_toArray, List.map_cons, List.map_nil]); first | done | rfl | (simp only [List.length_drop, List.length_take]; rfl)) ?_; (with_reducible refine (spec_DrawAluDo.calls k _ _ l0 t174 t175 t176 _ ?side1 ?side2 A3.out).mono ?_); (case side1 => repeat (first | exact HR0.out | (with_reducible refine Kd.C_alloc ?_ _) | (with_reducible refine Kd.C_drewN ?_ _) | (with_reducible refine Kd.C_drew ?_))); (case side2 => exact HC0.out); rintro e w8 ⟨rfl, hb⟩; refine ⟨_, rfl, ?_⟩; have n0_ := Aside0.mk (below_step (by repeat (first | (with_reducible first | exact HB.out | apply below_alloc | apply pw_below_drewN | apply below_drew1) | exact HB.out)) hb); clear HB; have HB := n0_; clear n0_; (try clear hb); (try clear hb2); (try clear hk); (try clear hi)) | ((with_reducible refine gate_callee (f := 32) rfl ?_); refine goesL_ (some 20) rfl rfl Try.func32 (by kernel_rfl) rfl #[.int .i64 t174, .int .i64 t175, .int .i64 t176] rfl (by (try simp only [List.map_toArray, List.map_cons, List.map_nil]); first | done | rfl | (simp only [List.length_drop, List.length_take]; rfl)) ?_; (with_reducible refine (impl_AluDo.calls k t174 t175 t176 t177 _ A4.out).mono ?_); rintro e w' ⟨rfl, ⟨nd, rfl⟩⟩; refine ⟨_, rfl, ?_⟩) | ((with_reducible refine gate_callee (f := 31) rfl ?_); refine goesL_ (some 24) rfl rfl Try.func31 (by kernel_rfl) rfl #[.int .i64 t174, .int .i64 t175, .int .i64 t176] rfl (by (try simp only [List.map_toArray, List.map_cons, List.map_nil]); first | done | rfl | (simp only [List.length_drop, List.length_take]; rfl)) ?_; (with_reducible refine (spec_AluDo.calls k t174 t175 t176 t178 _ A5.out).mono ?_); rintro e w' ⟨rfl, ⟨nd, rfl⟩⟩; refine ⟨_, rfl, ?_⟩))
      (try simp only [Act.put, List.setIfInBounds_toArray, List.set_cons_zero, List.set_cons_succ])
      go_cut [33] (fun v33 wc => ∃ (kq : Nat) (x33_6 : Bool), v33 = .bool x33_6 ∧ Aside0 (laws_FnAluLt.j0 kq t175 t176 x33_6 = some r) ∧ Aside0 (kq ≤ k) ∧ Aside0 (Below w.heap.size w wc))
      case first =>
        have H := HC7.out
        clear HC7
        replace H := Option.bind_eq_some_iff.mp H
        obtain ⟨t179, A90, H⟩ := H
        replace H : (if t179 = true then ((spec_WrdOk.f t176).bind fun t180 => (laws_FnAluLt.j0 k t175 t176 (!t180))) else (laws_FnAluLt.j0 k t175 t176 true)) = some r := H
        have A9 := Aside0.mk A90
        clear A90
        by_cases c10 : t179 = true
        · subst c10
          have H1 : ((spec_WrdOk.f t176).bind fun t180 => (laws_FnAluLt.j0 k t175 t176 (!t180))) = some r := by rw [if_pos rfl] at H; exact H
          clear H
          have H := H1
          clear H1
          replace H := Option.bind_eq_some_iff.mp H
          obtain ⟨t180, A110, H⟩ := H
          replace H : (laws_FnAluLt.j0 k t175 t176 (!t180)) = some r := H
          have A11 := Aside0.mk A110
          clear A110
          have H' := Aside0.mk H
          clear H
          go_wp2_with (first | ((with_reducible refine gate_callee (f := 18) rfl ?_); refine goesL_ (some 27) rfl rfl Try.func18 (by kernel_rfl) rfl #[.int .i64 t175] rfl (by (try simp only [List.map_toArray, List.map_cons, List.map_nil]); first | done | rfl | (simp only [List.length_drop, List.length_take]; rfl)) ?_; (with_reducible refine (spec_WrdOk.calls t175 true _ A9.out).mono ?_); rintro e w' ⟨rfl, ⟨nd, rfl⟩⟩; refine ⟨_, rfl, ?_⟩) | (go_at_call 18; (with_reducible refine (spec_WrdOk.calls t176 t180 _ A11.out).mono ?_); rintro e w' ⟨rfl, ⟨nd, rfl⟩⟩))
          go_meet
          case rel => exact ⟨_, (!t180), (by first | rfl | (simp; done) | (simp [*]; done)), H', ⟨by first | omega | exact Nat.le_refl _⟩, ⟨by repeat (first | (with_reducible first | exact HB.out | apply below_alloc | apply pw_below_drewN | apply below_drew1) | exact HB.out)⟩⟩
        · replace c10 := Bool.eq_false_iff.mpr c10
          subst c10
          have H1 : (laws_FnAluLt.j0 k t175 t176 true) = some r := by rw [if_neg (show ¬ (false = true) by decide)] at H; exact H
          clear H
          have H := H1
          clear H1
          have H' := Aside0.mk H
          clear H
          go_wp2_with (first | ((with_reducible refine gate_callee (f := 18) rfl ?_); refine goesL_ (some 27) rfl rfl Try.func18 (by kernel_rfl) rfl #[.int .i64 t175] rfl (by (try simp only [List.map_toArray, List.map_cons, List.map_nil]); first | done | rfl | (simp only [List.length_drop, List.length_take]; rfl)) ?_; (with_reducible refine (spec_WrdOk.calls t175 false _ A9.out).mono ?_); rintro e w' ⟨rfl, ⟨nd, rfl⟩⟩; refine ⟨_, rfl, ?_⟩))
          go_meet
          case rel => exact ⟨_, (true), (by first | rfl | (simp; done) | (simp [*]; done)), H', ⟨by first | omega | exact Nat.le_refl _⟩, ⟨by repeat (first | (with_reducible first | exact HB.out | apply below_alloc | apply pw_below_drewN | apply below_drew1) | exact HB.out)⟩⟩
      case rest =>
        clear HC7
        try clear c1
        try clear c2
        try clear c2b0
        try clear c2b1
        try clear p2
        try clear c3
        try clear c6
        try clear c6b0
        try clear c6b1
        try clear c10
        obtain ⟨kq, x33_6, rfl, HA, HJ6, HB⟩ := hcut
        cases kq with
        | zero => exact absurd HA.out (by simp [laws_FnAluLt.j0])
        | succ kj6 =>
          have H := HA.out
          clear HA
          simp only [laws_FnAluLt.j0] at H
          by_cases c12 : x33_6 = true
          · subst c12
            have H1 : ((laws_haOk.f).bind fun t181 => (some t181)) = some r := by rw [if_pos rfl] at H; exact H
            clear H
            have H := H1
            clear H1
            replace H := Option.bind_eq_some_iff.mp H
            obtain ⟨t181, A130, H⟩ := H
            replace H : (some t181) = some r := H
            have A13 := Aside0.mk A130
            clear A130
            obtain rfl := Option.some.inj H
            go_wp2_with (first | ((with_reducible refine gate_callee (f := 28) rfl ?_); refine goesL_ (some 34) rfl rfl Try.func28 (by kernel_rfl) rfl #[] rfl (by (try simp only [List.map_toArray, List.map_cons, List.map_nil]); first | done | rfl | (simp only [List.length_drop, List.length_take]; rfl)) ?_; (with_reducible refine (laws_haOk.calls  t181 _ A13.out).mono ?_); rintro e w' ⟨rfl, ⟨nd, rfl⟩⟩; refine ⟨_, rfl, ?_⟩))
            go_ret
            exact ⟨by first | rfl | (simp [errW_none, errW_some] <;> rfl) | (simp [*, errW_none, errW_some] <;> rfl), by repeat (first | (with_reducible first | exact HB.out | apply below_alloc | apply pw_below_drewN | apply below_drew1) | exact HB.out)⟩
          · replace c12 := Bool.eq_false_iff.mpr c12
            subst c12
            have H1 : ((impl_AluDo.f kj6 5 t175 t176).bind fun t182 => ((impl_AluDo.f kj6 5 t176 t175).bind fun t183 => ((impl_WrdInt.f t175).bind fun t184 => ((impl_WrdInt.f t176).bind fun t185 => (if ((t182 == 1) == (decide (t184 < t185))) = true then ((impl_AluDo.f kj6 5 t175 t175).bind fun t186 => (if t186 = 0 then (if ((t175 == t176) == ((wrap64 (t182 + t183)) == 0)) = true then (some (decide ((wrap64 (t182 + t183)) ≤ 1))) else (some false)) else (some false))) else (some false)))))) = some r := by rw [if_neg (show ¬ (false = true) by decide)] at H; exact H
            clear H
            have H := H1
            clear H1
            replace H := Option.bind_eq_some_iff.mp H
            obtain ⟨t182, A140, H⟩ := H
            replace H : ((impl_AluDo.f kj6 5 t176 t175).bind fun t183 => ((impl_WrdInt.f t175).bind fun t184 => ((impl_WrdInt.f t176).bind fun t185 => (if ((t182 == 1) == (decide (t184 < t185))) = true then ((impl_AluDo.f kj6 5 t175 t175).bind fun t186 => (if t186 = 0 then (if ((t175 == t176) == ((wrap64 (t182 + t183)) == 0)) = true then (some (decide ((wrap64 (t182 + t183)) ≤ 1))) else (some false)) else (some false))) else (some false))))) = some r := H
            have A14 := Aside0.mk A140
            clear A140
            replace H := Option.bind_eq_some_iff.mp H
            obtain ⟨t183, A150, H⟩ := H
            replace H : ((impl_WrdInt.f t175).bind fun t184 => ((impl_WrdInt.f t176).bind fun t185 => (if ((t182 == 1) == (decide (t184 < t185))) = true then ((impl_AluDo.f kj6 5 t175 t175).bind fun t186 => (if t186 = 0 then (if ((t175 == t176) == ((wrap64 (t182 + t183)) == 0)) = true then (some (decide ((wrap64 (t182 + t183)) ≤ 1))) else (some false)) else (some false))) else (some false)))) = some r := H
            have A15 := Aside0.mk A150
            clear A150
            replace H := Option.bind_eq_some_iff.mp H
            obtain ⟨t184, A160, H⟩ := H
            replace H : ((impl_WrdInt.f t176).bind fun t185 => (if ((t182 == 1) == (decide (t184 < t185))) = true then ((impl_AluDo.f kj6 5 t175 t175).bind fun t186 => (if t186 = 0 then (if ((t175 == t176) == ((wrap64 (t182 + t183)) == 0)) = true then (some (decide ((wrap64 (t182 + t183)) ≤ 1))) else (some false)) else (some false))) else (some false))) = some r := H
            have A16 := Aside0.mk A160
            clear A160
            replace H := Option.bind_eq_some_iff.mp H
            obtain ⟨t185, A170, H⟩ := H
            replace H : (if ((t182 == 1) == (decide (t184 < t185))) = true then ((impl_AluDo.f kj6 5 t175 t175).bind fun t186 => (if t186 = 0 then (if ((t175 == t176) == ((wrap64 (t182 + t183)) == 0)) = true then (some (decide ((wrap64 (t182 + t183)) ≤ 1))) else (some false)) else (some false))) else (some false)) = some r := H
            have A17 := Aside0.mk A170
            clear A170
            by_cases c18 : ((t182 == 1) == (decide (t184 < t185))) = true
            · rw [if_pos c18] at H
              have c18b0 : ((t182 == 1) == (decide (t184 < t185))) = true := c18
              (try (have c18b1 : decide ((t182 == 1) = (decide (t184 < t185))) = true := by simpa using c18))
              (try (have c18b2 : ((t182 == 1) == (decide (t184 < t185))) = true := by simpa using c18))
              clear c18
              replace H := Option.bind_eq_some_iff.mp H
              obtain ⟨t186, A190, H⟩ := H
              replace H : (if t186 = 0 then (if ((t175 == t176) == ((wrap64 (t182 + t183)) == 0)) = true then (some (decide ((wrap64 (t182 + t183)) ≤ 1))) else (some false)) else (some false)) = some r := H
              have A19 := Aside0.mk A190
              clear A190
              by_cases c20 : t186 = 0
              · rw [if_pos c20] at H
                have c20b0 : (t186 == 0) = true := beq_iff_eq.mpr c20
                have c20b1 : (t186 != 0) = false := bne_eq_false_iff_eq.mpr c20
                clear c20
                by_cases c21 : ((t175 == t176) == ((wrap64 (t182 + t183)) == 0)) = true
                · rw [if_pos c21] at H
                  have c21b0 : ((t175 == t176) == ((wrap64 (t182 + t183)) == 0)) = true := c21
                  (try (have c21b1 : decide ((t175 == t176) = ((wrap64 (t182 + t183)) == 0)) = true := by simpa using c21))
                  (try (have c21b2 : ((t175 == t176) == ((wrap64 (t182 + t183)) == 0)) = true := by simpa using c21))
                  clear c21
                  obtain rfl := Option.some.inj H
                  go_wp2_with (first | ((with_reducible refine gate_callee (f := 32) rfl ?_); refine goesL_ (some 37) rfl rfl Try.func32 (by kernel_rfl) rfl #[.int .i64 5, .int .i64 t175, .int .i64 t176] rfl (by (try simp only [List.map_toArray, List.map_cons, List.map_nil]); first | done | rfl | (simp only [List.length_drop, List.length_take]; rfl)) ?_; (with_reducible refine (impl_AluDo.calls kj6 5 t175 t176 t182 _ A14.out).mono ?_); rintro e w' ⟨rfl, ⟨nd, rfl⟩⟩; refine ⟨_, rfl, ?_⟩) | ((with_reducible refine gate_callee (f := 32) rfl ?_); refine goesL_ (some 40) rfl rfl Try.func32 (by kernel_rfl) rfl #[.int .i64 5, .int .i64 t176, .int .i64 t175] rfl (by (try simp only [List.map_toArray, List.map_cons, List.map_nil]); first | done | rfl | (simp only [List.length_drop, List.length_take]; rfl)) ?_; (with_reducible refine (impl_AluDo.calls kj6 5 t176 t175 t183 _ A15.out).mono ?_); rintro e w' ⟨rfl, ⟨nd, rfl⟩⟩; refine ⟨_, rfl, ?_⟩) | ((with_reducible refine gate_callee (f := 23) rfl ?_); refine goesL_ (some 44) rfl rfl Try.func23 (by kernel_rfl) rfl #[.int .i64 t175] rfl (by (try simp only [List.map_toArray, List.map_cons, List.map_nil]); first | done | rfl | (simp only [List.length_drop, List.length_take]; rfl)) ?_; (with_reducible refine (impl_WrdInt.calls t175 t184 _ A16.out).mono ?_); rintro e w' ⟨rfl, ⟨nd, rfl⟩⟩; refine ⟨_, rfl, ?_⟩) | ((with_reducible refine gate_callee (f := 23) rfl ?_); refine goesL_ (some 46) rfl rfl Try.func23 (by kernel_rfl) rfl #[.int .i64 t176] rfl (by (try simp only [List.map_toArray, List.map_cons, List.map_nil]); first | done | rfl | (simp only [List.length_drop, List.length_take]; rfl)) ?_; (with_reducible refine (impl_WrdInt.calls t176 t185 _ A17.out).mono ?_); rintro e w' ⟨rfl, ⟨nd, rfl⟩⟩; refine ⟨_, rfl, ?_⟩) | (go_at_call 32; (with_reducible refine (impl_AluDo.calls kj6 5 t175 t175 t186 _ A19.out).mono ?_); rintro e w' ⟨rfl, ⟨nd, rfl⟩⟩))
                  go_ret
                  exact ⟨by first | rfl | (simp [errW_none, errW_some] <;> rfl) | (simp [*, errW_none, errW_some] <;> rfl), by repeat (first | (with_reducible first | exact HB.out | apply below_alloc | apply pw_below_drewN | apply below_drew1) | exact HB.out)⟩
                · rw [if_neg c21] at H
                  have c21b0 : ((t175 == t176) == ((wrap64 (t182 + t183)) == 0)) = false := by simpa using c21
                  (try (have c21b1 : decide ((t175 == t176) = ((wrap64 (t182 + t183)) == 0)) = false := by simpa using c21))
                  (try (have c21b2 : ((t175 == t176) == ((wrap64 (t182 + t183)) == 0)) = false := by simpa using c21))
                  (try (have c21b3 : ¬ ((t175 == t176) = ((wrap64 (t182 + t183)) == 0)) := by simpa using c21))
                  clear c21
                  obtain rfl := Option.some.inj H
                  go_wp2_with (first | ((with_reducible refine gate_callee (f := 32) rfl ?_); refine goesL_ (some 37) rfl rfl Try.func32 (by kernel_rfl) rfl #[.int .i64 5, .int .i64 t175, .int .i64 t176] rfl (by (try simp only [List.map_toArray, List.map_cons, List.map_nil]); first | done | rfl | (simp only [List.length_drop, List.length_take]; rfl)) ?_; (with_reducible refine (impl_AluDo.calls kj6 5 t175 t176 t182 _ A14.out).mono ?_); rintro e w' ⟨rfl, ⟨nd, rfl⟩⟩; refine ⟨_, rfl, ?_⟩) | ((with_reducible refine gate_callee (f := 32) rfl ?_); refine goesL_ (some 40) rfl rfl Try.func32 (by kernel_rfl) rfl #[.int .i64 5, .int .i64 t176, .int .i64 t175] rfl (by (try simp only [List.map_toArray, List.map_cons, List.map_nil]); first | done | rfl | (simp only [List.length_drop, List.length_take]; rfl)) ?_; (with_reducible refine (impl_AluDo.calls kj6 5 t176 t175 t183 _ A15.out).mono ?_); rintro e w' ⟨rfl, ⟨nd, rfl⟩⟩; refine ⟨_, rfl, ?_⟩) | ((with_reducible refine gate_callee (f := 23) rfl ?_); refine goesL_ (some 44) rfl rfl Try.func23 (by kernel_rfl) rfl #[.int .i64 t175] rfl (by (try simp only [List.map_toArray, List.map_cons, List.map_nil]); first | done | rfl | (simp only [List.length_drop, List.length_take]; rfl)) ?_; (with_reducible refine (impl_WrdInt.calls t175 t184 _ A16.out).mono ?_); rintro e w' ⟨rfl, ⟨nd, rfl⟩⟩; refine ⟨_, rfl, ?_⟩) | ((with_reducible refine gate_callee (f := 23) rfl ?_); refine goesL_ (some 46) rfl rfl Try.func23 (by kernel_rfl) rfl #[.int .i64 t176] rfl (by (try simp only [List.map_toArray, List.map_cons, List.map_nil]); first | done | rfl | (simp only [List.length_drop, List.length_take]; rfl)) ?_; (with_reducible refine (impl_WrdInt.calls t176 t185 _ A17.out).mono ?_); rintro e w' ⟨rfl, ⟨nd, rfl⟩⟩; refine ⟨_, rfl, ?_⟩) | (go_at_call 32; (with_reducible refine (impl_AluDo.calls kj6 5 t175 t175 t186 _ A19.out).mono ?_); rintro e w' ⟨rfl, ⟨nd, rfl⟩⟩))
                  go_ret
                  exact ⟨by first | rfl | (simp [errW_none, errW_some] <;> rfl) | (simp [*, errW_none, errW_some] <;> rfl), by repeat (first | (with_reducible first | exact HB.out | apply below_alloc | apply pw_below_drewN | apply below_drew1) | exact HB.out)⟩
              · rw [if_neg c20] at H
                have c20b0 : (t186 == 0) = false := beq_eq_false_iff_ne.mpr c20
                have c20b1 : (t186 != 0) = true := bne_iff_ne.mpr c20
                obtain rfl := Option.some.inj H
                go_wp2_with (first | ((with_reducible refine gate_callee (f := 32) rfl ?_); refine goesL_ (some 37) rfl rfl Try.func32 (by kernel_rfl) rfl #[.int .i64 5, .int .i64 t175, .int .i64 t176] rfl (by (try simp only [List.map_toArray, List.map_cons, List.map_nil]); first | done | rfl | (simp only [List.length_drop, List.length_take]; rfl)) ?_; (with_reducible refine (impl_AluDo.calls kj6 5 t175 t176 t182 _ A14.out).mono ?_); rintro e w' ⟨rfl, ⟨nd, rfl⟩⟩; refine ⟨_, rfl, ?_⟩) | ((with_reducible refine gate_callee (f := 32) rfl ?_); refine goesL_ (some 40) rfl rfl Try.func32 (by kernel_rfl) rfl #[.int .i64 5, .int .i64 t176, .int .i64 t175] rfl (by (try simp only [List.map_toArray, List.map_cons, List.map_nil]); first | done | rfl | (simp only [List.length_drop, List.length_take]; rfl)) ?_; (with_reducible refine (impl_AluDo.calls kj6 5 t176 t175 t183 _ A15.out).mono ?_); rintro e w' ⟨rfl, ⟨nd, rfl⟩⟩; refine ⟨_, rfl, ?_⟩) | ((with_reducible refine gate_callee (f := 23) rfl ?_); refine goesL_ (some 44) rfl rfl Try.func23 (by kernel_rfl) rfl #[.int .i64 t175] rfl (by (try simp only [List.map_toArray, List.map_cons, List.map_nil]); first | done | rfl | (simp only [List.length_drop, List.length_take]; rfl)) ?_; (with_reducible refine (impl_WrdInt.calls t175 t184 _ A16.out).mono ?_); rintro e w' ⟨rfl, ⟨nd, rfl⟩⟩; refine ⟨_, rfl, ?_⟩) | ((with_reducible refine gate_callee (f := 23) rfl ?_); refine goesL_ (some 46) rfl rfl Try.func23 (by kernel_rfl) rfl #[.int .i64 t176] rfl (by (try simp only [List.map_toArray, List.map_cons, List.map_nil]); first | done | rfl | (simp only [List.length_drop, List.length_take]; rfl)) ?_; (with_reducible refine (impl_WrdInt.calls t176 t185 _ A17.out).mono ?_); rintro e w' ⟨rfl, ⟨nd, rfl⟩⟩; refine ⟨_, rfl, ?_⟩) | (go_at_call 32; (with_reducible refine (impl_AluDo.calls kj6 5 t175 t175 t186 _ A19.out).mono ?_); rintro e w' ⟨rfl, ⟨nd, rfl⟩⟩))
                go_ret
                exact ⟨by first | rfl | (simp [errW_none, errW_some] <;> rfl) | (simp [*, errW_none, errW_some] <;> rfl), by repeat (first | (with_reducible first | exact HB.out | apply below_alloc | apply pw_below_drewN | apply below_drew1) | exact HB.out)⟩
            · rw [if_neg c18] at H
              have c18b0 : ((t182 == 1) == (decide (t184 < t185))) = false := by simpa using c18
              (try (have c18b1 : decide ((t182 == 1) = (decide (t184 < t185))) = false := by simpa using c18))
              (try (have c18b2 : ((t182 == 1) == (decide (t184 < t185))) = false := by simpa using c18))
              (try (have c18b3 : ¬ ((t182 == 1) = (decide (t184 < t185))) := by simpa using c18))
              clear c18
              obtain rfl := Option.some.inj H
              go_wp2_with (first | ((with_reducible refine gate_callee (f := 32) rfl ?_); refine goesL_ (some 37) rfl rfl Try.func32 (by kernel_rfl) rfl #[.int .i64 5, .int .i64 t175, .int .i64 t176] rfl (by (try simp only [List.map_toArray, List.map_cons, List.map_nil]); first | done | rfl | (simp only [List.length_drop, List.length_take]; rfl)) ?_; (with_reducible refine (impl_AluDo.calls kj6 5 t175 t176 t182 _ A14.out).mono ?_); rintro e w' ⟨rfl, ⟨nd, rfl⟩⟩; refine ⟨_, rfl, ?_⟩) | ((with_reducible refine gate_callee (f := 32) rfl ?_); refine goesL_ (some 40) rfl rfl Try.func32 (by kernel_rfl) rfl #[.int .i64 5, .int .i64 t176, .int .i64 t175] rfl (by (try simp only [List.map_toArray, List.map_cons, List.map_nil]); first | done | rfl | (simp only [List.length_drop, List.length_take]; rfl)) ?_; (with_reducible refine (impl_AluDo.calls kj6 5 t176 t175 t183 _ A15.out).mono ?_); rintro e w' ⟨rfl, ⟨nd, rfl⟩⟩; refine ⟨_, rfl, ?_⟩) | ((with_reducible refine gate_callee (f := 23) rfl ?_); refine goesL_ (some 44) rfl rfl Try.func23 (by kernel_rfl) rfl #[.int .i64 t175] rfl (by (try simp only [List.map_toArray, List.map_cons, List.map_nil]); first | done | rfl | (simp only [List.length_drop, List.length_take]; rfl)) ?_; (with_reducible refine (impl_WrdInt.calls t175 t184 _ A16.out).mono ?_); rintro e w' ⟨rfl, ⟨nd, rfl⟩⟩; refine ⟨_, rfl, ?_⟩) | ((with_reducible refine gate_callee (f := 23) rfl ?_); refine goesL_ (some 46) rfl rfl Try.func23 (by kernel_rfl) rfl #[.int .i64 t176] rfl (by (try simp only [List.map_toArray, List.map_cons, List.map_nil]); first | done | rfl | (simp only [List.length_drop, List.length_take]; rfl)) ?_; (with_reducible refine (impl_WrdInt.calls t176 t185 _ A17.out).mono ?_); rintro e w' ⟨rfl, ⟨nd, rfl⟩⟩; refine ⟨_, rfl, ?_⟩))
              go_ret
              exact ⟨by first | rfl | (simp [errW_none, errW_some] <;> rfl) | (simp [*, errW_none, errW_some] <;> rfl), by repeat (first | (with_reducible first | exact HB.out | apply below_alloc | apply pw_below_drewN | apply below_drew1) | exact HB.out)⟩
    · rw [if_neg c6] at H
      have c6b0 : (t177 == t178) = false := beq_eq_false_iff_ne.mpr c6
      have c6b1 : (t177 != t178) = true := bne_iff_ne.mpr c6
      obtain rfl := Option.some.inj H
      go_enter Try.func17, Try.ntmps17
      go_wp2_with (first | ((with_reducible refine gate_callee (f := 34) rfl ?_); refine goesL_ (some 13) rfl rfl Try.func34 (by kernel_rfl) rfl #[.slice A0 l0.length c0] rfl (by (try simp only [List.map_toArray, List.map_cons, List.map_nil]); first | done | rfl | (simp only [List.length_drop, List.length_take]; rfl)) ?_; (with_reducible refine (spec_DrawAluDo.calls k _ _ l0 t174 t175 t176 _ ?side1 ?side2 A3.out).mono ?_); (case side1 => repeat (first | exact HR0.out | (with_reducible refine Kd.C_alloc ?_ _) | (with_reducible refine Kd.C_drewN ?_ _) | (with_reducible refine Kd.C_drew ?_))); (case side2 => exact HC0.out); rintro e w22 ⟨rfl, hb⟩; refine ⟨_, rfl, ?_⟩; have n0_ := Aside0.mk (below_step (by repeat (first | (with_reducible first | exact HB.out | apply below_alloc | apply pw_below_drewN | apply below_drew1) | exact HB.out)) hb); clear HB; have HB := n0_; clear n0_; (try clear hb); (try clear hb2); (try clear hk); (try clear hi)) | ((with_reducible refine gate_callee (f := 32) rfl ?_); refine goesL_ (some 20) rfl rfl Try.func32 (by kernel_rfl) rfl #[.int .i64 t174, .int .i64 t175, .int .i64 t176] rfl (by (try simp only [List.map_toArray, List.map_cons, List.map_nil]); first | done | rfl | (simp only [List.length_drop, List.length_take]; rfl)) ?_; (with_reducible refine (impl_AluDo.calls k t174 t175 t176 t177 _ A4.out).mono ?_); rintro e w' ⟨rfl, ⟨nd, rfl⟩⟩; refine ⟨_, rfl, ?_⟩) | ((with_reducible refine gate_callee (f := 31) rfl ?_); refine goesL_ (some 24) rfl rfl Try.func31 (by kernel_rfl) rfl #[.int .i64 t174, .int .i64 t175, .int .i64 t176] rfl (by (try simp only [List.map_toArray, List.map_cons, List.map_nil]); first | done | rfl | (simp only [List.length_drop, List.length_take]; rfl)) ?_; (with_reducible refine (spec_AluDo.calls k t174 t175 t176 t178 _ A5.out).mono ?_); rintro e w' ⟨rfl, ⟨nd, rfl⟩⟩; refine ⟨_, rfl, ?_⟩))
      go_ret
      exact ⟨by first | rfl | (simp [errW_none, errW_some] <;> rfl) | (simp [*, errW_none, errW_some] <;> rfl), by repeat (first | (with_reducible first | exact HB.out | apply below_alloc | apply pw_below_drewN | apply below_drew1) | exact HB.out)⟩

/-- THE ONE PURE STATEMENT of laws_FnAluLt: yours. -/
def laws_FnAluLt.Pure : Prop := ∀ (l0 : List Int), l0.length ≤ maxLen → l0.length * 1 ≤ 140737488351232 → (∀ x ∈ l0, (Lit.int .u8 x).wf = true) → ∃ k, laws_FnAluLt.f k l0 = some true
theorem laws_FnAluLt.walk (P : laws_FnAluLt.Pure) (a0 : Option Addr) (len0 cap0 : Nat) (z0 : List Int) (w : World) (w0 : (a0 = none ∧ len0 = 0 ∧ cap0 = 0 ∧ z0 = []) ∨ ∃ x, a0 = some x ∧ len0 ≤ cap0 ∧ cap0 ≤ maxLen ∧ z0.length = cap0 ∧ (∀ i, i < z0.length → w.cell? (x.add i) = some (.int .u8 (z0.getD i 0))) ∧ ∀ n ∈ z0, (Lit.int .u8 n).wf = true) (y0 : len0 * 1 ≤ 140737488351232) :
    Calls Try.prog 17 #[.slice a0 len0 cap0] w fun e w' => e = .returned (.bool true) ∧ Below w.heap.size w w' := by
  obtain ⟨l0, rfl, hr0, hm0, hw0, hc0⟩ := ReadsInt.ofRowC w0
  obtain ⟨k, h⟩ := P l0 hm0 y0 hw0
  refine (laws_FnAluLt.calls k _ _ l0 true w (Kd.C_of_reads (d := (0 : Int)) (h1 := fun _ => rfl) hr0) hc0 h).mono ?_
  rintro e w' ⟨rfl, hd⟩
  exact ⟨rfl, hd⟩

end Go.Proofs.Ytekaogbnpncpaaa.PFnAluLt
