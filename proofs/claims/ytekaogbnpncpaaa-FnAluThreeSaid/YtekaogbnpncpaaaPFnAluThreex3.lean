-- PRINTED BY print.sh 35421559b90ae4d0a3588c463048766b98c2df88dd9212a6774a882060cdf62d: not written by this session
import Derived.Test.YtekaogbnpncpaaaPFnAluThreex0
import Derived.Test.YtekaogbnpncpaaaPFnAluThreex2
namespace Go.Proofs.Ytekaogbnpncpaaa.PFnAluThree
open Go.RowKit Go.Proofs.YtekaogbnpncpaaaW.PrintWords Go.Proofs.YtekaogbnpncpaaaW.PrintLast Go.Proofs.YtekaogbnpncpaaaW.PrintMore
attribute [local go_sem] max2_int min2_int max_two min_two max_three min_three max_four min_four   -- for this text's walks alone
set_option linter.unusedVariables false
set_option linter.unusedSimpArgs false

/-! ### spec_DrawAluDo: function 34 -/
def spec_DrawAluDo.f (k : Nat) (l0 : List Int) : Option (Int × Int × Int) := (spec_l20Open.f l0).bind fun bt160 => ((spec_l20Rd_pick.f k bt160.1 bt160.2 8).bind fun bt163 => ((some (([bt163.1, 8, (-1)] : List Int) : List Int)).bind fun y165 => ((some (([0, 0, 0, 0, 0, 0, 1, 2] : List Int) : List Int)).bind fun y168 => ((spec_l20Rd_pick.f k bt160.1 bt163.2 8).bind fun bt171 => (if 0 ≤ bt171.1 then (if bt171.1 < (y168.length : Int) then (if 0 ≤ (rd y168 bt171.1) then (if (rd y168 bt171.1) < (y165.length : Int) then ((spec_l20Word.f k bt160.1 bt171.2 12).bind fun bt175 => ((spec_l20Word.f k bt160.1 bt175.2 12).bind fun bt177 => (some (rd y165 (rd y168 bt171.1), bt175.1, bt177.1)))) else (none)) else (none)) else (none)) else (none))))))
theorem spec_DrawAluDo.mono : ∀ a0 k, LeO (spec_DrawAluDo.f k a0) (spec_DrawAluDo.f (k + 1) a0) := by
  intro a0 k
  unfold spec_DrawAluDo.f
  repeat' first
      | (with_reducible exact spec_l20Rd_pick.mono _ _ _ _)
      | (with_reducible exact spec_l20Word.mono _ _ _ _)
      | (with_reducible exact LeO.refl _)
      | (with_reducible exact LeO.none _)
      | (with_reducible refine LeO.ite ?_ ?_)
      | (with_reducible refine LeO.bind ?_ (fun _ => ?_))
      | exact spec_l20Rd_pick.mono _ _ _ _
      | exact spec_l20Word.mono _ _ _ _
      | exact LeO.none _
      | refine LeO.ite ?_ ?_
      | refine LeO.bind ?_ (fun _ => ?_)
def spec_DrawAluDo.T2 : Bool × List (List Nat × List Nat) := (true, [([], []), ([0], [0]), ([1], [1]), ([], []), ([], []), ([4, 1], [4]), ([3, 5], [3, 5]), ([6], [6]), ([2, 7], [2, 7]), ([8], [8]), ([], []), ([10, 5], [10]), ([], []), ([12, 11], [12]), ([9, 13, 0, 1, 2, 3, 4, 5, 6, 7, 8, 9], [9]), ([11, 14, 0, 1, 2, 3, 4, 5, 6, 7, 8, 9, 10, 11, 14], [11]), ([13, 15, 0, 1, 2, 3, 4, 5, 6, 7, 8, 9, 10, 11, 12, 13, 14, 15], [13])])
def spec_DrawAluDo.B2 : List Nat := [0, 1, 3, 0, 0, 19, 59, 123, 255, 511, 0, 1075, 0, 7219, 16383, 32767, 65535]
theorem spec_DrawAluDo.tab2 : rtab .any (opsOf Try.f34 2) = spec_DrawAluDo.T2 := by kernel_rfl
theorem spec_DrawAluDo.bits2 : waitsOk spec_DrawAluDo.T2.2 spec_DrawAluDo.B2 = true := by kernel_rfl
set_option maxHeartbeats 8000000 in
set_option maxRecDepth 100000 in
theorem spec_DrawAluDo.calls (k : Nat) (A0 : Option Addr) (c0 : Nat) (l0 : List Int) (r1 : Int) (r2 : Int) (r3 : Int) (w : World) (hr0 : Kd.C (Kd.int .u8) w A0 l0.length l0) (hc0 : l0.length ≤ c0) (h : spec_DrawAluDo.f k l0 = some (r1, r2, r3)) :
    Calls Try.prog 34 #[.slice A0 l0.length c0] w fun e w' => e = .returned (.tuple #[.int .i64 r1, .int .i64 r2, .int .i64 r3]) ∧ Below w.heap.size w w' := by
  have HR0 := Aside0.mk hr0
  have HC0 := Aside0.mk hc0
  clear hr0 hc0
  have HB := Aside0.mk (Below.refl w.heap.size w)
  have H : ((spec_l20Open.f l0).bind fun bt160 => ((spec_l20Rd_pick.f k bt160.1 bt160.2 8).bind fun bt163 => ((some (([bt163.1, 8, (-1)] : List Int) : List Int)).bind fun y165 => ((some (([0, 0, 0, 0, 0, 0, 1, 2] : List Int) : List Int)).bind fun y168 => ((spec_l20Rd_pick.f k bt160.1 bt163.2 8).bind fun bt171 => (if 0 ≤ bt171.1 then (if bt171.1 < (y168.length : Int) then (if 0 ≤ (rd y168 bt171.1) then (if (rd y168 bt171.1) < (y165.length : Int) then ((spec_l20Word.f k bt160.1 bt171.2 12).bind fun bt175 => ((spec_l20Word.f k bt160.1 bt175.2 12).bind fun bt177 => (some (rd y165 (rd y168 bt171.1), bt175.1, bt177.1)))) else (none)) else (none)) else (none)) else (none))))))) = some (r1, r2, r3) := h
  clear h
  replace H := Option.bind_eq_some_iff.mp H
  obtain ⟨⟨t160, t161⟩, A20, H⟩ := H
  replace H : ((spec_l20Rd_pick.f k t160 t161 8).bind fun bt163 => ((some (([bt163.1, 8, (-1)] : List Int) : List Int)).bind fun y165 => ((some (([0, 0, 0, 0, 0, 0, 1, 2] : List Int) : List Int)).bind fun y168 => ((spec_l20Rd_pick.f k t160 bt163.2 8).bind fun bt171 => (if 0 ≤ bt171.1 then (if bt171.1 < (y168.length : Int) then (if 0 ≤ (rd y168 bt171.1) then (if (rd y168 bt171.1) < (y165.length : Int) then ((spec_l20Word.f k t160 bt171.2 12).bind fun bt175 => ((spec_l20Word.f k t160 bt175.2 12).bind fun bt177 => (some (rd y165 (rd y168 bt171.1), bt175.1, bt177.1)))) else (none)) else (none)) else (none)) else (none)))))) = some (r1, r2, r3) := H
  have A2 := Aside0.mk A20
  clear A20
  replace H := Option.bind_eq_some_iff.mp H
  obtain ⟨⟨t163, t164⟩, A30, H⟩ := H
  replace H : ((some (([t163, 8, (-1)] : List Int) : List Int)).bind fun y165 => ((some (([0, 0, 0, 0, 0, 0, 1, 2] : List Int) : List Int)).bind fun y168 => ((spec_l20Rd_pick.f k t160 t164 8).bind fun bt171 => (if 0 ≤ bt171.1 then (if bt171.1 < (y168.length : Int) then (if 0 ≤ (rd y168 bt171.1) then (if (rd y168 bt171.1) < (y165.length : Int) then ((spec_l20Word.f k t160 bt171.2 12).bind fun bt175 => ((spec_l20Word.f k t160 bt175.2 12).bind fun bt177 => (some (rd y165 (rd y168 bt171.1), bt175.1, bt177.1)))) else (none)) else (none)) else (none)) else (none))))) = some (r1, r2, r3) := H
  have A3 := Aside0.mk A30
  clear A30
  obtain ⟨y165, hy165⟩ : ∃ y_ : List Int, y_ = (([t163, 8, (-1)] : List Int)) := ⟨_, rfl⟩
  replace H : ((some (([0, 0, 0, 0, 0, 0, 1, 2] : List Int) : List Int)).bind fun y168 => ((spec_l20Rd_pick.f k t160 t164 8).bind fun bt171 => (if 0 ≤ bt171.1 then (if bt171.1 < (y168.length : Int) then (if 0 ≤ (rd y168 bt171.1) then (if (rd y168 bt171.1) < (y165.length : Int) then ((spec_l20Word.f k t160 bt171.2 12).bind fun bt175 => ((spec_l20Word.f k t160 bt175.2 12).bind fun bt177 => (some (rd y165 (rd y168 bt171.1), bt175.1, bt177.1)))) else (none)) else (none)) else (none)) else (none)))) = some (r1, r2, r3) := by first | (rw [hy165]; with_reducible exact H) | (have H2_ := (Option.bind_some _ _).symm.trans H; rw [hy165]; with_reducible exact H2_) | (have H2_ := (Option.bind_some _ _).symm.trans H; with_reducible exact H2_) | with_reducible exact H | (rw [hy165]; exact H) | exact H
  have Ny165 := Aside0.mk hy165
  clear hy165
  obtain ⟨y168, hy168⟩ : ∃ y_ : List Int, y_ = (([0, 0, 0, 0, 0, 0, 1, 2] : List Int)) := ⟨_, rfl⟩
  replace H : ((spec_l20Rd_pick.f k t160 t164 8).bind fun bt171 => (if 0 ≤ bt171.1 then (if bt171.1 < (y168.length : Int) then (if 0 ≤ (rd y168 bt171.1) then (if (rd y168 bt171.1) < (y165.length : Int) then ((spec_l20Word.f k t160 bt171.2 12).bind fun bt175 => ((spec_l20Word.f k t160 bt175.2 12).bind fun bt177 => (some (rd y165 (rd y168 bt171.1), bt175.1, bt177.1)))) else (none)) else (none)) else (none)) else (none))) = some (r1, r2, r3) := by first | (rw [hy168]; with_reducible exact H) | (have H2_ := (Option.bind_some _ _).symm.trans H; rw [hy168]; with_reducible exact H2_) | (have H2_ := (Option.bind_some _ _).symm.trans H; with_reducible exact H2_) | with_reducible exact H | (rw [hy168]; exact H) | exact H
  have Ny168 := Aside0.mk hy168
  clear hy168
  replace H := Option.bind_eq_some_iff.mp H
  obtain ⟨⟨t171, t172⟩, A40, H⟩ := H
  replace H : (if 0 ≤ t171 then (if t171 < (y168.length : Int) then (if 0 ≤ (rd y168 t171) then (if (rd y168 t171) < (y165.length : Int) then ((spec_l20Word.f k t160 t172 12).bind fun bt175 => ((spec_l20Word.f k t160 bt175.2 12).bind fun bt177 => (some (rd y165 (rd y168 t171), bt175.1, bt177.1)))) else (none)) else (none)) else (none)) else (none)) = some (r1, r2, r3) := H
  have A4 := Aside0.mk A40
  clear A40
  by_cases c5 : 0 ≤ t171
  · rw [if_pos c5] at H
    have c5b0 : decide (0 ≤ t171) = true := decide_eq_true c5
    clear c5
    by_cases c6 : t171 < (y168.length : Int)
    · rw [if_pos c6] at H
      have c6b0 : decide (t171 < (y168.length : Int)) = true := decide_eq_true c6
      clear c6
      by_cases c7 : 0 ≤ (rd y168 t171)
      · rw [if_pos c7] at H
        have c7b0 : decide (0 ≤ (rd y168 t171)) = true := decide_eq_true c7
        clear c7
        by_cases c8 : (rd y168 t171) < (y165.length : Int)
        · rw [if_pos c8] at H
          have c8b0 : decide ((rd y168 t171) < (y165.length : Int)) = true := decide_eq_true c8
          clear c8
          replace H := Option.bind_eq_some_iff.mp H
          obtain ⟨⟨t175, t176⟩, A90, H⟩ := H
          replace H : ((spec_l20Word.f k t160 t176 12).bind fun bt177 => (some (rd y165 (rd y168 t171), t175, bt177.1))) = some (r1, r2, r3) := H
          have A9 := Aside0.mk A90
          clear A90
          replace H := Option.bind_eq_some_iff.mp H
          obtain ⟨⟨t177, t178⟩, A100, H⟩ := H
          replace H : (some (rd y165 (rd y168 t171), t175, t177)) = some (r1, r2, r3) := H
          have A10 := Aside0.mk A100
          clear A100
          simp only [Option.some.injEq, Prod.mk.injEq] at H
          obtain ⟨rfl, rfl, rfl⟩ := H
          go_enter Try.func34, Try.ntmps34
          try go_wp2_with (first | ((with_reducible refine gate_callee (f := 40) rfl ?_); refine goesL_ (some 7) rfl rfl Try.func40 (by kernel_rfl) rfl #[.slice A0 l0.length c0] rfl (by (try simp only [List.map_toArray, List.map_cons, List.map_nil]); first | done | rfl | (simp only [List.length_drop, List.length_take]; rfl)) ?_; (with_reducible refine (spec_l20Open.calls _ _ l0 t160 t161 w _ ?side1 ?side2 ?side3 A2.out).mono ?_); (case side1 => repeat (first | (with_reducible first | exact HB.out | apply below_alloc | apply pw_below_drewN | apply below_drew1) | exact HB.out)); (case side2 => exact HR0.out); (case side3 => exact HC0.out); rintro e w11 ⟨g162, rfl, hi, hb, hb2⟩; refine ⟨_, rfl, ?_⟩; have n0_ := Aside0.mk (hb); have n1_ := Aside0.mk (hi); clear HB; have HB := n0_; have HI162 := n1_; clear n0_ n1_; (try clear hb); (try clear hb2); (try clear hk); (try clear hi)))
          have pi173 : (0 ≤ (t171 : Int)) = True := eq_true (of_decide_eq_true (by first | (with_reducible assumption) | assumption))
          have qi173 : (t171 < (y168.length : Int)) = True := eq_true (of_decide_eq_true (by first | (with_reducible assumption) | assumption))
          have pi174 : (0 ≤ ((rd y168 t171) : Int)) = True := eq_true (of_decide_eq_true (by first | (with_reducible assumption) | assumption))
          have qi174 : ((rd y168 t171) < (y165.length : Int)) = True := eq_true (of_decide_eq_true (by first | (with_reducible assumption) | assumption))
          have n0_ := Aside0.mk (IsS48.drew HI162.out)
          have n1_ := Aside0.mk (below_drew1 HB.out)
          clear HI162
          clear HB
          have HI162 := n0_
          have HB := n1_
          clear n0_ n1_
          refine start_ (n := 17) (S := fun w' => True) (ds := []) #[false, false, false, false, false, false, false, false, false, false, false, false, false, false, false, false, false] (by kernel_rfl) rfl rfl trivial (fun hHeld => ?_); refine with_tabW spec_DrawAluDo.tab2 spec_DrawAluDo.bits2 (fun HT_ HW_ => ?_)
          generalize w11.drew = w12 at HI162 HB hHeld ⊢
          refine pure_ (i := 0) (N := some 8) (v := ?_) (a' := ?_) #[true, false, false, false, false, false, false, false, false, false, false, false, false, false, false, false, false] rfl rfl (any_of HT_.out (by kernel_rfl)) (fun _ _ _ h => h) (Or.inl ⟨by rfl, ?_⟩) ?_ ?_
          rotate_left
          · intro w'
            go_simp
            with_reducible rfl
          rotate_left
          · simp only [Act.put, List.setIfInBounds_toArray, List.set_cons_zero, List.set_cons_succ, i64_w, i32_w]
            rfl
          refine pure_ (i := 4) (N := some 12) (v := ?_) (a' := ?_) #[true, false, false, false, true, false, false, false, false, false, false, false, false, false, false, false, false] rfl rfl (any_of HT_.out (by kernel_rfl)) (fun _ _ _ h => h) (Or.inl ⟨by rfl, ?_⟩) ?_ ?_
          rotate_left
          · intro w'
            go_simp
            with_reducible rfl
          rotate_left
          · simp only [Act.put, List.setIfInBounds_toArray, List.set_cons_zero, List.set_cons_succ, i64_w, i32_w]
            rfl
          refine pure_ (i := 10) (N := some 18) (v := ?_) (a' := ?_) #[true, false, false, false, true, false, false, false, false, false, true, false, false, false, false, false, false] rfl rfl (any_of HT_.out (by kernel_rfl)) (fun _ _ _ h => h) (Or.inl ⟨by rfl, ?_⟩) ?_ ?_
          rotate_left
          · intro w'
            go_simp
            with_reducible rfl
          rotate_left
          · simp only [Act.put, List.setIfInBounds_toArray, List.set_cons_zero, List.set_cons_succ, i64_w, i32_w]
            rfl
          refine pure_ (i := 12) (N := some 20) (v := ?_) (a' := ?_) #[true, false, false, false, true, false, false, false, false, false, true, false, true, false, false, false, false] rfl rfl (any_of HT_.out (by kernel_rfl)) (fun _ _ _ h => h) (Or.inl ⟨by rfl, ?_⟩) ?_ ?_
          rotate_left
          · intro w'
            go_simp
            with_reducible rfl
          rotate_left
          · simp only [Act.put, List.setIfInBounds_toArray, List.set_cons_zero, List.set_cons_succ, i64_w, i32_w]
            rfl
          refine inv_at [1, 2, 3, 5, 6, 7, 8, 9, 11, 13, 14, 15, 16] (fun a0_ b a w' => ∃ (v166 : Value) (adz_v166 : Addr) (v169 : Value) (adz_v169 : Addr) (m6_ : Value) (m8_ : Value), a = putSel a0_ b [(1, 9, .int .i64 t163), (2, 10, v166), (3, 11, v169), (5, 13, .int .i64 t171), (6, 14, m6_), (7, 15, .int .i64 (rd y168 t171)), (8, 16, m8_), (9, 17, .int .i64 (rd y165 (rd y168 t171))), (11, 19, .int .i64 t175), (13, 21, .int .i64 t177), (14, 2, .int .i64 (rd y165 (rd y168 t171))), (15, 3, .int .i64 t175), (16, 4, .int .i64 t177)] ∧ (b 1 = false → IsS48 w w' g162 t160 t161) ∧ (Below w.heap.size w w') ∧ (b 1 = true → b 5 = false → IsS48 w w' g162 t160 t164) ∧ (b 2 = true → Kd.R (Kd.int .i64) 3 w' w.heap.size (fun _ => True) v166 y165) ∧ (b 2 = true → ∃ c_, (v166 : Value) = .slice (some adz_v166) y165.length c_) ∧ (b 3 = true → Kd.R (Kd.int .i64) 3 w' w.heap.size (fun _ => True) v169 y168) ∧ (b 3 = true → ∃ c_, (v169 : Value) = .slice (some adz_v169) y168.length c_) ∧ (b 5 = true → b 11 = false → IsS48 w w' g162 t160 t172) ∧ (b 11 = true → b 13 = false → IsS48 w w' g162 t160 t176) ∧ (b 13 = true → IsS48 w w' g162 t160 t178) ∧ (b 6 = true → (m6_ : Value) = .pointer (some (adz_v169.add (t171).toNat))) ∧ (b 8 = true → (m8_ : Value) = .pointer (some (adz_v166.add ((rd y168 t171)).toNat)))) HT_.out HW_.out (by kernel_rfl) (by kernel_rfl) ?_ ?_ ?_
          · exact ⟨.bool false, ⟨0, 0, none⟩, .bool false, ⟨0, 0, none⟩, .bool false, .bool false, by simp only [putSel, Bool.false_eq_true, if_false], fun _ => HI162.out, HB.out, fun h_ => absurd h_ (by decide), fun h_ => absurd h_ (by decide), fun h_ => absurd h_ (by decide), fun h_ => absurd h_ (by decide), fun h_ => absurd h_ (by decide), fun h_ => absurd h_ (by decide), fun h_ => absurd h_ (by decide), fun h_ => absurd h_ (by decide), fun h_ => absurd h_ (by decide), fun h_ => absurd h_ (by decide)⟩
          · skip
            clear HB HI162
            refine steps_cons ?_ ?_
            · rintro b a w' ⟨v166, adz_v166, v169, adz_v169, m6_, m8_, ha, Q_HI162, Q_HB, Q_HI162_e1, Q_HO167, Q_HA_HO167, Q_HO170, Q_HA_HO170, Q_HI162_e5, Q_HI162_e11, Q_HI162_e13, Q_X6_, Q_X8_⟩ hb_ hon hoff
              refine ⟨_, rfl, fun K hK => ?_⟩
              have e8 : a.tmps[8]? = some (.pointer (some ⟨g162, 0, none⟩)) := by rw [ha]; exact (putSel_off rfl).trans rfl
              replace ha := Aside0.mk ha
              have HI162 := Aside0.mk (Q_HI162 hb_)
              have HB := Aside0.mk Q_HB
              refine goes_ Try.func41 (by kernel_rfl) rfl #[.pointer (some ⟨g162, 0, none⟩), .int .i64 8] (by rfl) rfl rfl (by first | (simp only [List.map_toArray, List.map_cons, List.map_nil, Act.eval, Array.getD_eq_getD_getElem?, Option.getD_some, e8]; done) | (simp only [List.map_toArray, List.map_cons, List.map_nil, Act.eval, Array.getD_eq_getD_getElem?, Option.getD_some, e8]; rfl)) ?_
              with_reducible refine (spec_l20Rd_pick.calls k g162 t160 t161 8 t163 t164 w _ ?side1 ?side2 A3.out).mono ?_
              (case side1 => repeat (first | (with_reducible first | exact HI162.out | apply IsS48.alloc | apply IsS48.drewN | apply IsS48.drew | apply IsS48.set_1) | exact HI162.out))
              (case side2 => repeat (first | (with_reducible first | exact HB.out | apply below_alloc | apply pw_below_drewN | apply below_drew1 | refine below_set ?_ (IsS48.ge HI162.out)) | exact HB.out))
              rintro e w13 ⟨rfl, hi, hb, hk⟩
              refine ⟨_, rfl, ?_⟩
              have n0_ := Aside0.mk (hb)
              have n1_ := Aside0.mk (hi)
              have z_HO170 := fun (h0_ : b 3 = true) => (show Kd.R (Kd.int .i64) 3 w13 w.heap.size (fun _ => True) v169 y168 from by first | exact (Kd.R_mono (Kd.R_keep (IsS48.apart (show IsS48 w _ g162 t160 t161 from by repeat (first | (with_reducible first | exact HI162.out | apply IsS48.alloc | apply IsS48.drewN | apply IsS48.drew | apply IsS48.set_1) | exact HI162.out)) (by (with_reducible repeat (first | apply Kd.R_alloc | apply Kd.R_drewN | apply Kd.R_drew)); exact (Q_HO170 h0_)) (by decide)) hk (fun _ h => h.2)) (fun _ h => h.1)) | exact Kd.R_mono (Kd.R_mono (Kd.R_keep (IsS48.apart (show IsS48 w _ g162 t160 t161 from by repeat (first | (with_reducible first | exact HI162.out | apply IsS48.alloc | apply IsS48.drewN | apply IsS48.drew | apply IsS48.set_1) | exact HI162.out)) (by (with_reducible repeat (first | apply Kd.R_alloc | apply Kd.R_drewN | apply Kd.R_drew)); exact (Q_HO170 h0_)) (by decide)) hk (fun _ h => h.2)) (fun _ h => h.1)) (fun _ h_ => by first | trivial | exact h_ | exact h_.1))
              clear HB
              clear HI162
              have HB := n0_
              have HI162 := n1_
              clear n0_ n1_
              (try clear hb)
              (try clear hb2)
              (try clear hk)
              (try clear hi)
              refine hK.out _ _ ⟨v166, adz_v166, v169, adz_v169, m6_, m8_, (by rw [ha.out]; exact putSel_upk 0 hb_ rfl rfl rfl), fun h0_ => absurd ((up_self b 1).symm.trans h0_) (by decide), (by repeat (first | (with_reducible first | exact HB.out | apply below_alloc | apply pw_below_drewN | apply below_drew1 | refine below_set ?_ (IsS48.ge HI162.out)) | exact HB.out)), fun _ _ => (by repeat (first | (with_reducible first | exact HI162.out | apply IsS48.alloc | apply IsS48.drewN | apply IsS48.drew | apply IsS48.set_1) | exact HI162.out)), fun h0_ => absurd ((hoff 2 (by kernel_rfl)).symm.trans h0_) (by decide), fun h0_ => absurd ((hoff 2 (by kernel_rfl)).symm.trans h0_) (by decide), z_HO170, Q_HA_HO170, fun h0_ _ => absurd ((hoff 5 (by kernel_rfl)).symm.trans h0_) (by decide), fun h0_ _ => absurd ((hoff 11 (by kernel_rfl)).symm.trans h0_) (by decide), fun h0_ => absurd ((hoff 13 (by kernel_rfl)).symm.trans h0_) (by decide), fun h0_ => absurd ((hoff 6 (by kernel_rfl)).symm.trans h0_) (by decide), fun h0_ => absurd ((hoff 8 (by kernel_rfl)).symm.trans h0_) (by decide)⟩
            refine steps_cons ?_ ?_
            · rintro b a w' ⟨v166, adz_v166, v169, adz_v169, m6_, m8_, ha, Q_HI162, Q_HB, Q_HI162_e1, Q_HO167, Q_HA_HO167, Q_HO170, Q_HA_HO170, Q_HI162_e5, Q_HI162_e11, Q_HI162_e13, Q_X6_, Q_X8_⟩ hb_ hon hoff
              refine ⟨_, rfl, fun K hK => ?_⟩
              have e9 : a.tmps[9]? = some (.int .i64 t163) := by rw [ha]; exact putSel_on (e := (1, 9, .int .i64 t163)) 0 rfl rfl (hon 1 (by kernel_rfl)) rfl
              replace ha := Aside0.mk ha
              have HB := Aside0.mk Q_HB
              refine Kd.R_lit_step (Kd.int .i64) _ 3 ?hg (N := 10) ?hd (xs := ([t163, 8, (-1)] : List Int)) (inner := [.int .i64 t163, .int .i64 8, .int .i64 (-1)]) (ok := fun _ => True) (okp := fun _ => True) ?hr ?hp (fun _ hk => hk) trivial (Below.refl _ _) (Nat.le_refl _) (by simp) ?_; (case hd => rfl); (case hg => rfl); (case hr => first | (go_simp; done) | (go_simp; rfl)); (case hp => exact (Reps.one (show Kd.M (Kd.int .i64) _ _ _ t163 [.int .i64 t163] from rfl) (Reps.one (show Kd.M (Kd.int .i64) _ _ _ 8 [.int .i64 8] from rfl) (Reps.one (show Kd.M (Kd.int .i64) _ _ _ (-1) [.int .i64 (-1)] from rfl) (Reps.none _ _)))))
              intro v166 w15 ho16 hb hg_ hnew_
              clear hg_ hnew_
              (first | rw [← Ny165.out] at ho16 | (simp only [Int.reduceToNat] at ho16; rw [← Ny165.out] at ho16))
              have n0_ := Aside0.mk (Kd.R_lower ho16 (below_size (by repeat (first | (with_reducible first | exact HB.out | apply below_alloc | apply pw_below_drewN | apply below_drew1) | exact HB.out))))
              have n2_ := Aside0.mk (below_step (by repeat (first | (with_reducible first | exact HB.out | apply below_alloc | apply pw_below_drewN | apply below_drew1) | exact HB.out)) hb)
              have z_HI162_e1 := fun (h0_ : b 1 = true) (h1_ : b 5 = false) => (show IsS48 w w15 g162 t160 t164 from by first | exact (IsS48.below (by repeat (first | (with_reducible first | exact (Q_HI162_e1 h0_ h1_) | apply IsS48.alloc | apply IsS48.drewN | apply IsS48.drew | apply IsS48.set_1) | exact (Q_HI162_e1 h0_ h1_))) hb))
              have z_HO170 := fun (h0_ : b 3 = true) => (show Kd.R (Kd.int .i64) 3 w15 w.heap.size (fun _ => True) v169 y168 from by first | exact (Kd.R_elder' (by (with_reducible repeat (first | apply Kd.R_alloc | apply Kd.R_drewN | apply Kd.R_drew)); exact (Q_HO170 h0_)) (Kd.R_base ho16) hb) | exact Kd.R_mono (Kd.R_elder' (by (with_reducible repeat (first | apply Kd.R_alloc | apply Kd.R_drewN | apply Kd.R_drew)); exact (Q_HO170 h0_)) (Kd.R_base ho16) hb) (fun _ h_ => by first | trivial | exact h_ | exact h_.1))
              have z_HI162_e5 := fun (h0_ : b 5 = true) (h1_ : b 11 = false) => (show IsS48 w w15 g162 t160 t172 from by first | exact (IsS48.below (by repeat (first | (with_reducible first | exact (Q_HI162_e5 h0_ h1_) | apply IsS48.alloc | apply IsS48.drewN | apply IsS48.drew | apply IsS48.set_1) | exact (Q_HI162_e5 h0_ h1_))) hb))
              have z_HI162_e11 := fun (h0_ : b 11 = true) (h1_ : b 13 = false) => (show IsS48 w w15 g162 t160 t176 from by first | exact (IsS48.below (by repeat (first | (with_reducible first | exact (Q_HI162_e11 h0_ h1_) | apply IsS48.alloc | apply IsS48.drewN | apply IsS48.drew | apply IsS48.set_1) | exact (Q_HI162_e11 h0_ h1_))) hb))
              have z_HI162_e13 := fun (h0_ : b 13 = true) => (show IsS48 w w15 g162 t160 t178 from by first | exact (IsS48.below (by repeat (first | (with_reducible first | exact (Q_HI162_e13 h0_) | apply IsS48.alloc | apply IsS48.drewN | apply IsS48.drew | apply IsS48.set_1) | exact (Q_HI162_e13 h0_))) hb))
              clear HB
              have HO167 := n0_
              have HB := n2_
              clear n0_ n2_
              clear hb ho16
              obtain ⟨Ao17, co17, eo17⟩ := Kd.R_slice HO167.out
              subst eo17
              obtain ⟨ado17, fo17, _⟩ := Kd.at_int (Kd.R_reads' HO167.out).2.2 0 (by decide) (by rw [Ny165.out]; simp)
              cases fo17
              refine hK.out _ _ ⟨.slice (some ado17) y165.length co17, ado17, v169, adz_v169, m6_, m8_, (by rw [ha.out]; exact putSel_upk 1 hb_ rfl rfl rfl), fun h0_ => absurd ((hon 1 (by kernel_rfl)).symm.trans h0_) (by decide), (by repeat (first | (with_reducible first | exact HB.out | apply below_alloc | apply pw_below_drewN | apply below_drew1) | exact HB.out)), z_HI162_e1, fun _ => (by (with_reducible repeat (first | apply Kd.R_alloc | apply Kd.R_drewN | apply Kd.R_drew)); exact HO167.out), fun _ => ⟨_, rfl⟩, z_HO170, Q_HA_HO170, z_HI162_e5, z_HI162_e11, z_HI162_e13, Q_X6_, fun h0_ => absurd ((hoff 8 (by kernel_rfl)).symm.trans h0_) (by decide)⟩
            refine steps_cons ?_ ?_
            · rintro b a w' ⟨v166, adz_v166, v169, adz_v169, m6_, m8_, ha, Q_HI162, Q_HB, Q_HI162_e1, Q_HO167, Q_HA_HO167, Q_HO170, Q_HA_HO170, Q_HI162_e5, Q_HI162_e11, Q_HI162_e13, Q_X6_, Q_X8_⟩ hb_ hon hoff
              refine ⟨_, rfl, fun K hK => ?_⟩
              replace ha := Aside0.mk ha
              have HB := Aside0.mk Q_HB
              refine Kd.R_lit_step (Kd.int .i64) _ 3 ?hg (N := 11) ?hd (xs := ([0, 0, 0, 0, 0, 0, 1, 2] : List Int)) (inner := [.int .i64 0, .int .i64 0, .int .i64 0, .int .i64 0, .int .i64 0, .int .i64 0, .int .i64 1, .int .i64 2]) (ok := fun _ => True) (okp := fun _ => True) ?hr ?hp (fun _ hk => hk) trivial (Below.refl _ _) (Nat.le_refl _) (by simp) ?_; (case hd => rfl); (case hg => rfl); (case hr => first | (go_simp; done) | (go_simp; rfl)); (case hp => exact (Reps.one (show Kd.M (Kd.int .i64) _ _ _ 0 [.int .i64 0] from rfl) (Reps.one (show Kd.M (Kd.int .i64) _ _ _ 0 [.int .i64 0] from rfl) (Reps.one (show Kd.M (Kd.int .i64) _ _ _ 0 [.int .i64 0] from rfl) (Reps.one (show Kd.M (Kd.int .i64) _ _ _ 0 [.int .i64 0] from rfl) (Reps.one (show Kd.M (Kd.int .i64) _ _ _ 0 [.int .i64 0] from rfl) (Reps.one (show Kd.M (Kd.int .i64) _ _ _ 0 [.int .i64 0] from rfl) (Reps.one (show Kd.M (Kd.int .i64) _ _ _ 1 [.int .i64 1] from rfl) (Reps.one (show Kd.M (Kd.int .i64) _ _ _ 2 [.int .i64 2] from rfl) (Reps.none _ _))))))))))
              intro v169 w13 ho14 hb hg_ hnew_
              clear hg_ hnew_
              (first | rw [← Ny168.out] at ho14 | (simp only [Int.reduceToNat] at ho14; rw [← Ny168.out] at ho14))
              have n0_ := Aside0.mk (Kd.R_lower ho14 (below_size (by repeat (first | (with_reducible first | exact HB.out | apply below_alloc | apply pw_below_drewN | apply below_drew1) | exact HB.out))))
              have n2_ := Aside0.mk (below_step (by repeat (first | (with_reducible first | exact HB.out | apply below_alloc | apply pw_below_drewN | apply below_drew1) | exact HB.out)) hb)
              have z_HI162 := fun (h0_ : b 1 = false) => (show IsS48 w w13 g162 t160 t161 from by first | exact (IsS48.below (by repeat (first | (with_reducible first | exact (Q_HI162 h0_) | apply IsS48.alloc | apply IsS48.drewN | apply IsS48.drew | apply IsS48.set_1) | exact (Q_HI162 h0_))) hb))
              have z_HI162_e1 := fun (h0_ : b 1 = true) (h1_ : b 5 = false) => (show IsS48 w w13 g162 t160 t164 from by first | exact (IsS48.below (by repeat (first | (with_reducible first | exact (Q_HI162_e1 h0_ h1_) | apply IsS48.alloc | apply IsS48.drewN | apply IsS48.drew | apply IsS48.set_1) | exact (Q_HI162_e1 h0_ h1_))) hb))
              have z_HO167 := fun (h0_ : b 2 = true) => (show Kd.R (Kd.int .i64) 3 w13 w.heap.size (fun _ => True) v166 y165 from by first | exact (Kd.R_elder' (by (with_reducible repeat (first | apply Kd.R_alloc | apply Kd.R_drewN | apply Kd.R_drew)); exact (Q_HO167 h0_)) (Kd.R_base ho14) hb) | exact Kd.R_mono (Kd.R_elder' (by (with_reducible repeat (first | apply Kd.R_alloc | apply Kd.R_drewN | apply Kd.R_drew)); exact (Q_HO167 h0_)) (Kd.R_base ho14) hb) (fun _ h_ => by first | trivial | exact h_ | exact h_.1))
              have z_HI162_e5 := fun (h0_ : b 5 = true) (h1_ : b 11 = false) => (show IsS48 w w13 g162 t160 t172 from by first | exact (IsS48.below (by repeat (first | (with_reducible first | exact (Q_HI162_e5 h0_ h1_) | apply IsS48.alloc | apply IsS48.drewN | apply IsS48.drew | apply IsS48.set_1) | exact (Q_HI162_e5 h0_ h1_))) hb))
              have z_HI162_e11 := fun (h0_ : b 11 = true) (h1_ : b 13 = false) => (show IsS48 w w13 g162 t160 t176 from by first | exact (IsS48.below (by repeat (first | (with_reducible first | exact (Q_HI162_e11 h0_ h1_) | apply IsS48.alloc | apply IsS48.drewN | apply IsS48.drew | apply IsS48.set_1) | exact (Q_HI162_e11 h0_ h1_))) hb))
              have z_HI162_e13 := fun (h0_ : b 13 = true) => (show IsS48 w w13 g162 t160 t178 from by first | exact (IsS48.below (by repeat (first | (with_reducible first | exact (Q_HI162_e13 h0_) | apply IsS48.alloc | apply IsS48.drewN | apply IsS48.drew | apply IsS48.set_1) | exact (Q_HI162_e13 h0_))) hb))
              clear HB
              have HO170 := n0_
              have HB := n2_
              clear n0_ n2_
              clear hb ho14
              obtain ⟨Ao15, co15, eo15⟩ := Kd.R_slice HO170.out
              subst eo15
              obtain ⟨ado15, fo15, _⟩ := Kd.at_int (Kd.R_reads' HO170.out).2.2 0 (by decide) (by rw [Ny168.out]; simp)
              cases fo15
              refine hK.out _ _ ⟨v166, adz_v166, .slice (some ado15) y168.length co15, ado15, m6_, m8_, (by rw [ha.out]; exact putSel_upk 2 hb_ rfl rfl rfl), z_HI162, (by repeat (first | (with_reducible first | exact HB.out | apply below_alloc | apply pw_below_drewN | apply below_drew1) | exact HB.out)), z_HI162_e1, z_HO167, Q_HA_HO167, fun _ => (by (with_reducible repeat (first | apply Kd.R_alloc | apply Kd.R_drewN | apply Kd.R_drew)); exact HO170.out), fun _ => ⟨_, rfl⟩, z_HI162_e5, z_HI162_e11, z_HI162_e13, fun h0_ => absurd ((hoff 6 (by kernel_rfl)).symm.trans h0_) (by decide), fun h0_ => absurd ((hoff 8 (by kernel_rfl)).symm.trans h0_) (by decide)⟩
            refine steps_cons ?_ ?_
            · rintro b a w' ⟨v166, adz_v166, v169, adz_v169, m6_, m8_, ha, Q_HI162, Q_HB, Q_HI162_e1, Q_HO167, Q_HA_HO167, Q_HO170, Q_HA_HO170, Q_HI162_e5, Q_HI162_e11, Q_HI162_e13, Q_X6_, Q_X8_⟩ hb_ hon hoff
              refine ⟨_, rfl, fun K hK => ?_⟩
              have e12 : a.tmps[12]? = some (.pointer (some ⟨g162, 0, none⟩)) := by rw [ha]; exact (putSel_off rfl).trans rfl
              replace ha := Aside0.mk ha
              have HB := Aside0.mk Q_HB
              have HI162 := Aside0.mk (Q_HI162_e1 (hon 1 (by kernel_rfl)) hb_)
              refine goes_ Try.func41 (by kernel_rfl) rfl #[.pointer (some ⟨g162, 0, none⟩), .int .i64 8] (by rfl) rfl rfl (by first | (simp only [List.map_toArray, List.map_cons, List.map_nil, Act.eval, Array.getD_eq_getD_getElem?, Option.getD_some, e12]; done) | (simp only [List.map_toArray, List.map_cons, List.map_nil, Act.eval, Array.getD_eq_getD_getElem?, Option.getD_some, e12]; rfl)) ?_
              with_reducible refine (spec_l20Rd_pick.calls k g162 t160 t164 8 t171 t172 w _ ?side1 ?side2 A4.out).mono ?_
              (case side1 => repeat (first | (with_reducible first | exact HI162.out | apply IsS48.alloc | apply IsS48.drewN | apply IsS48.drew | apply IsS48.set_1) | exact HI162.out))
              (case side2 => repeat (first | (with_reducible first | exact HB.out | apply below_alloc | apply pw_below_drewN | apply below_drew1 | refine below_set ?_ (IsS48.ge HI162.out)) | exact HB.out))
              rintro e w15 ⟨rfl, hi, hb, hk⟩
              refine ⟨_, rfl, ?_⟩
              have n0_ := Aside0.mk (hb)
              have n1_ := Aside0.mk (hi)
              have z_HO167 := fun (h0_ : b 2 = true) => (show Kd.R (Kd.int .i64) 3 w15 w.heap.size (fun _ => True) v166 y165 from by first | exact (Kd.R_mono (Kd.R_keep (IsS48.apart (show IsS48 w _ g162 t160 t164 from by repeat (first | (with_reducible first | exact HI162.out | apply IsS48.alloc | apply IsS48.drewN | apply IsS48.drew | apply IsS48.set_1) | exact HI162.out)) (by (with_reducible repeat (first | apply Kd.R_alloc | apply Kd.R_drewN | apply Kd.R_drew)); exact (Q_HO167 h0_)) (by decide)) hk (fun _ h => h.2)) (fun _ h => h.1)) | exact Kd.R_mono (Kd.R_mono (Kd.R_keep (IsS48.apart (show IsS48 w _ g162 t160 t164 from by repeat (first | (with_reducible first | exact HI162.out | apply IsS48.alloc | apply IsS48.drewN | apply IsS48.drew | apply IsS48.set_1) | exact HI162.out)) (by (with_reducible repeat (first | apply Kd.R_alloc | apply Kd.R_drewN | apply Kd.R_drew)); exact (Q_HO167 h0_)) (by decide)) hk (fun _ h => h.2)) (fun _ h => h.1)) (fun _ h_ => by first | trivial | exact h_ | exact h_.1))
              have z_HO170 := fun (h0_ : b 3 = true) => (show Kd.R (Kd.int .i64) 3 w15 w.heap.size (fun _ => True) v169 y168 from by first | exact (Kd.R_mono (Kd.R_keep (IsS48.apart (show IsS48 w _ g162 t160 t164 from by repeat (first | (with_reducible first | exact HI162.out | apply IsS48.alloc | apply IsS48.drewN | apply IsS48.drew | apply IsS48.set_1) | exact HI162.out)) (by (with_reducible repeat (first | apply Kd.R_alloc | apply Kd.R_drewN | apply Kd.R_drew)); exact (Q_HO170 h0_)) (by decide)) hk (fun _ h => h.2)) (fun _ h => h.1)) | exact Kd.R_mono (Kd.R_mono (Kd.R_keep (IsS48.apart (show IsS48 w _ g162 t160 t164 from by repeat (first | (with_reducible first | exact HI162.out | apply IsS48.alloc | apply IsS48.drewN | apply IsS48.drew | apply IsS48.set_1) | exact HI162.out)) (by (with_reducible repeat (first | apply Kd.R_alloc | apply Kd.R_drewN | apply Kd.R_drew)); exact (Q_HO170 h0_)) (by decide)) hk (fun _ h => h.2)) (fun _ h => h.1)) (fun _ h_ => by first | trivial | exact h_ | exact h_.1))
              clear HB
              clear HI162
              have HB := n0_
              have HI162 := n1_
              clear n0_ n1_
              (try clear hb)
              (try clear hb2)
              (try clear hk)
              (try clear hi)
              refine hK.out _ _ ⟨v166, adz_v166, v169, adz_v169, m6_, m8_, (by rw [ha.out]; exact putSel_upk 3 hb_ rfl rfl rfl), fun h0_ => absurd ((hon 1 (by kernel_rfl)).symm.trans h0_) (by decide), (by repeat (first | (with_reducible first | exact HB.out | apply below_alloc | apply pw_below_drewN | apply below_drew1 | refine below_set ?_ (IsS48.ge HI162.out)) | exact HB.out)), fun _ h1_ => absurd ((up_self b 5).symm.trans h1_) (by decide), z_HO167, Q_HA_HO167, z_HO170, Q_HA_HO170, fun _ _ => (by repeat (first | (with_reducible first | exact HI162.out | apply IsS48.alloc | apply IsS48.drewN | apply IsS48.drew | apply IsS48.set_1) | exact HI162.out)), fun h0_ _ => absurd ((hoff 11 (by kernel_rfl)).symm.trans h0_) (by decide), fun h0_ => absurd ((hoff 13 (by kernel_rfl)).symm.trans h0_) (by decide), fun h0_ => absurd ((hoff 6 (by kernel_rfl)).symm.trans h0_) (by decide), fun h0_ => absurd ((hoff 8 (by kernel_rfl)).symm.trans h0_) (by decide)⟩
            refine steps_cons ?_ ?_
            · rintro b a w' ⟨v166, adz_v166, v169, adz_v169, m6_, m8_, ha, Q_HI162, Q_HB, Q_HI162_e1, Q_HO167, Q_HA_HO167, Q_HO170, Q_HA_HO170, Q_HI162_e5, Q_HI162_e11, Q_HI162_e13, Q_X6_, Q_X8_⟩ hb_ hon hoff
              refine ⟨_, rfl, fun K hK => ?_⟩
              have e11 : a.tmps[11]? = some (v169) := by rw [ha]; exact putSel_on (e := (3, 11, v169)) 2 rfl rfl (hon 3 (by kernel_rfl)) rfl
              have e13 : a.tmps[13]? = some (.int .i64 t171) := by rw [ha]; exact putSel_on (e := (5, 13, .int .i64 t171)) 3 rfl rfl (hon 5 (by kernel_rfl)) rfl
              replace ha := Aside0.mk ha
              have HB := Aside0.mk Q_HB
              have HO170 := Aside0.mk (Q_HO170 (hon 3 (by kernel_rfl)))
              have HA_HO170 := Aside0.mk (Q_HA_HO170 (hon 3 (by kernel_rfl)))
              obtain ⟨c_, hv_⟩ := HA_HO170.out
              rw [hv_] at e11
              refine value_ (w1 := w') (v := .pointer (some (adz_v169.add (t171).toNat))) (by rfl) rfl ?_ ?_
              · go_simp
                (try simp only [i64_w])
                try rfl
              refine hK.out _ _ ⟨v166, adz_v166, v169, adz_v169, (.pointer (some (adz_v169.add (t171).toNat))), m8_, (by rw [ha.out]; exact putSel_upk 4 hb_ rfl rfl rfl), fun h0_ => absurd ((hon 1 (by kernel_rfl)).symm.trans h0_) (by decide), Q_HB, fun _ h1_ => absurd ((hon 5 (by kernel_rfl)).symm.trans h1_) (by decide), Q_HO167, Q_HA_HO167, Q_HO170, Q_HA_HO170, Q_HI162_e5, Q_HI162_e11, Q_HI162_e13, fun _ => rfl, fun h0_ => absurd ((hoff 8 (by kernel_rfl)).symm.trans h0_) (by decide)⟩
            refine steps_cons ?_ ?_
            · rintro b a w' ⟨v166, adz_v166, v169, adz_v169, m6_, m8_, ha, Q_HI162, Q_HB, Q_HI162_e1, Q_HO167, Q_HA_HO167, Q_HO170, Q_HA_HO170, Q_HI162_e5, Q_HI162_e11, Q_HI162_e13, Q_X6_, Q_X8_⟩ hb_ hon hoff
              refine ⟨_, rfl, fun K hK => ?_⟩
              have e14 : a.tmps[14]? = some (m6_) := by rw [ha]; exact putSel_on (e := (6, 14, m6_)) 4 rfl rfl (hon 6 (by kernel_rfl)) rfl
              rw [Q_X6_ (hon 6 (by kernel_rfl))] at e14
              replace ha := Aside0.mk ha
              have HB := Aside0.mk Q_HB
              have HO170 := Aside0.mk (Q_HO170 (hon 3 (by kernel_rfl)))
              have HA_HO170 := Aside0.mk (Q_HA_HO170 (hon 3 (by kernel_rfl)))
              obtain ⟨c_, hv_⟩ := HA_HO170.out
              have hF_ := HO170.out
              rw [hv_] at hF_
              obtain ⟨ad_, ea_, hx_⟩ := Kd.at_int (Kd.R_reads' hF_).2.2 t171 (of_eq_true pi173) (of_eq_true qi173)
              cases ea_
              refine value_ (w1 := w') (v := .int .i64 (rd y168 t171)) (by rfl) rfl ?_ ?_
              · go_simp
                (try simp only [i64_w])
                try rfl
              refine hK.out _ _ ⟨v166, adz_v166, v169, adz_v169, m6_, m8_, (by rw [ha.out]; exact putSel_upk 5 hb_ rfl rfl rfl), fun h0_ => absurd ((hon 1 (by kernel_rfl)).symm.trans h0_) (by decide), Q_HB, fun _ h1_ => absurd ((hon 5 (by kernel_rfl)).symm.trans h1_) (by decide), Q_HO167, Q_HA_HO167, Q_HO170, Q_HA_HO170, Q_HI162_e5, Q_HI162_e11, Q_HI162_e13, Q_X6_, fun h0_ => absurd ((hoff 8 (by kernel_rfl)).symm.trans h0_) (by decide)⟩
            refine steps_cons ?_ ?_
            · rintro b a w' ⟨v166, adz_v166, v169, adz_v169, m6_, m8_, ha, Q_HI162, Q_HB, Q_HI162_e1, Q_HO167, Q_HA_HO167, Q_HO170, Q_HA_HO170, Q_HI162_e5, Q_HI162_e11, Q_HI162_e13, Q_X6_, Q_X8_⟩ hb_ hon hoff
              refine ⟨_, rfl, fun K hK => ?_⟩
              have e10 : a.tmps[10]? = some (v166) := by rw [ha]; exact putSel_on (e := (2, 10, v166)) 1 rfl rfl (hon 2 (by kernel_rfl)) rfl
              have e15 : a.tmps[15]? = some (.int .i64 (rd y168 t171)) := by rw [ha]; exact putSel_on (e := (7, 15, .int .i64 (rd y168 t171))) 5 rfl rfl (hon 7 (by kernel_rfl)) rfl
              replace ha := Aside0.mk ha
              have HB := Aside0.mk Q_HB
              have HO167 := Aside0.mk (Q_HO167 (hon 2 (by kernel_rfl)))
              have HA_HO167 := Aside0.mk (Q_HA_HO167 (hon 2 (by kernel_rfl)))
              have HO170 := Aside0.mk (Q_HO170 (hon 3 (by kernel_rfl)))
              have HA_HO170 := Aside0.mk (Q_HA_HO170 (hon 3 (by kernel_rfl)))
              obtain ⟨c_, hv_⟩ := HA_HO167.out
              rw [hv_] at e10
              refine value_ (w1 := w') (v := .pointer (some (adz_v166.add ((rd y168 t171)).toNat))) (by rfl) rfl ?_ ?_
              · go_simp
                (try simp only [i64_w])
                try rfl
              refine hK.out _ _ ⟨v166, adz_v166, v169, adz_v169, m6_, (.pointer (some (adz_v166.add ((rd y168 t171)).toNat))), (by rw [ha.out]; exact putSel_upk 6 hb_ rfl rfl rfl), fun h0_ => absurd ((hon 1 (by kernel_rfl)).symm.trans h0_) (by decide), Q_HB, fun _ h1_ => absurd ((hon 5 (by kernel_rfl)).symm.trans h1_) (by decide), Q_HO167, Q_HA_HO167, Q_HO170, Q_HA_HO170, Q_HI162_e5, Q_HI162_e11, Q_HI162_e13, Q_X6_, fun _ => rfl⟩
            refine steps_cons ?_ ?_
            · rintro b a w' ⟨v166, adz_v166, v169, adz_v169, m6_, m8_, ha, Q_HI162, Q_HB, Q_HI162_e1, Q_HO167, Q_HA_HO167, Q_HO170, Q_HA_HO170, Q_HI162_e5, Q_HI162_e11, Q_HI162_e13, Q_X6_, Q_X8_⟩ hb_ hon hoff
              refine ⟨_, rfl, fun K hK => ?_⟩
              have e16 : a.tmps[16]? = some (m8_) := by rw [ha]; exact putSel_on (e := (8, 16, m8_)) 6 rfl rfl (hon 8 (by kernel_rfl)) rfl
              rw [Q_X8_ (hon 8 (by kernel_rfl))] at e16
              replace ha := Aside0.mk ha
              have HB := Aside0.mk Q_HB
              have HO167 := Aside0.mk (Q_HO167 (hon 2 (by kernel_rfl)))
              have HA_HO167 := Aside0.mk (Q_HA_HO167 (hon 2 (by kernel_rfl)))
              have HO170 := Aside0.mk (Q_HO170 (hon 3 (by kernel_rfl)))
              have HA_HO170 := Aside0.mk (Q_HA_HO170 (hon 3 (by kernel_rfl)))
              obtain ⟨c_, hv_⟩ := HA_HO167.out
              have hF_ := HO167.out
              rw [hv_] at hF_
              obtain ⟨ad_, ea_, hx_⟩ := Kd.at_int (Kd.R_reads' hF_).2.2 (rd y168 t171) (of_eq_true pi174) (of_eq_true qi174)
              cases ea_
              refine value_ (w1 := w') (v := .int .i64 (rd y165 (rd y168 t171))) (by rfl) rfl ?_ ?_
              · go_simp
                (try simp only [i64_w])
                try rfl
              refine hK.out _ _ ⟨v166, adz_v166, v169, adz_v169, m6_, m8_, (by rw [ha.out]; exact putSel_upk 7 hb_ rfl rfl rfl), fun h0_ => absurd ((hon 1 (by kernel_rfl)).symm.trans h0_) (by decide), Q_HB, fun _ h1_ => absurd ((hon 5 (by kernel_rfl)).symm.trans h1_) (by decide), Q_HO167, Q_HA_HO167, Q_HO170, Q_HA_HO170, Q_HI162_e5, Q_HI162_e11, Q_HI162_e13, Q_X6_, Q_X8_⟩
            refine steps_cons ?_ ?_
            · rintro b a w' ⟨v166, adz_v166, v169, adz_v169, m6_, m8_, ha, Q_HI162, Q_HB, Q_HI162_e1, Q_HO167, Q_HA_HO167, Q_HO170, Q_HA_HO170, Q_HI162_e5, Q_HI162_e11, Q_HI162_e13, Q_X6_, Q_X8_⟩ hb_ hon hoff
              refine ⟨_, rfl, fun K hK => ?_⟩
              have e18 : a.tmps[18]? = some (.pointer (some ⟨g162, 0, none⟩)) := by rw [ha]; exact (putSel_off rfl).trans rfl
              replace ha := Aside0.mk ha
              have HB := Aside0.mk Q_HB
              have HI162 := Aside0.mk (Q_HI162_e5 (hon 5 (by kernel_rfl)) hb_)
              refine goes_ Try.func39 (by kernel_rfl) rfl #[.pointer (some ⟨g162, 0, none⟩), .int .i64 12] (by rfl) rfl rfl (by first | (simp only [List.map_toArray, List.map_cons, List.map_nil, Act.eval, Array.getD_eq_getD_getElem?, Option.getD_some, e18]; done) | (simp only [List.map_toArray, List.map_cons, List.map_nil, Act.eval, Array.getD_eq_getD_getElem?, Option.getD_some, e18]; rfl)) ?_
              with_reducible refine (spec_l20Word.calls k g162 t160 t172 12 t175 t176 w _ ?side1 ?side2 A9.out).mono ?_
              (case side1 => repeat (first | (with_reducible first | exact HI162.out | apply IsS48.alloc | apply IsS48.drewN | apply IsS48.drew | apply IsS48.set_1) | exact HI162.out))
              (case side2 => repeat (first | (with_reducible first | exact HB.out | apply below_alloc | apply pw_below_drewN | apply below_drew1 | refine below_set ?_ (IsS48.ge HI162.out)) | exact HB.out))
              rintro e w16 ⟨rfl, hi, hb, hk⟩
              refine ⟨_, rfl, ?_⟩
              have n0_ := Aside0.mk (hb)
              have n1_ := Aside0.mk (hi)
              have z_HO167 := fun (h0_ : b 2 = true) => (show Kd.R (Kd.int .i64) 3 w16 w.heap.size (fun _ => True) v166 y165 from by first | exact (Kd.R_mono (Kd.R_keep (IsS48.apart (show IsS48 w _ g162 t160 t172 from by repeat (first | (with_reducible first | exact HI162.out | apply IsS48.alloc | apply IsS48.drewN | apply IsS48.drew | apply IsS48.set_1) | exact HI162.out)) (by (with_reducible repeat (first | apply Kd.R_alloc | apply Kd.R_drewN | apply Kd.R_drew)); exact (Q_HO167 h0_)) (by decide)) hk (fun _ h => h.2)) (fun _ h => h.1)) | exact Kd.R_mono (Kd.R_mono (Kd.R_keep (IsS48.apart (show IsS48 w _ g162 t160 t172 from by repeat (first | (with_reducible first | exact HI162.out | apply IsS48.alloc | apply IsS48.drewN | apply IsS48.drew | apply IsS48.set_1) | exact HI162.out)) (by (with_reducible repeat (first | apply Kd.R_alloc | apply Kd.R_drewN | apply Kd.R_drew)); exact (Q_HO167 h0_)) (by decide)) hk (fun _ h => h.2)) (fun _ h => h.1)) (fun _ h_ => by first | trivial | exact h_ | exact h_.1))
              have z_HO170 := fun (h0_ : b 3 = true) => (show Kd.R (Kd.int .i64) 3 w16 w.heap.size (fun _ => True) v169 y168 from by first | exact (Kd.R_mono (Kd.R_keep (IsS48.apart (show IsS48 w _ g162 t160 t172 from by repeat (first | (with_reducible first | exact HI162.out | apply IsS48.alloc | apply IsS48.drewN | apply IsS48.drew | apply IsS48.set_1) | exact HI162.out)) (by (with_reducible repeat (first | apply Kd.R_alloc | apply Kd.R_drewN | apply Kd.R_drew)); exact (Q_HO170 h0_)) (by decide)) hk (fun _ h => h.2)) (fun _ h => h.1)) | exact Kd.R_mono (Kd.R_mono (Kd.R_keep (IsS48.apart (show IsS48 w _ g162 t160 t172 from by repeat (first | (with_reducible first | exact HI162.out | apply IsS48.alloc | apply IsS48.drewN | apply IsS48.drew | apply IsS48.set_1) | exact HI162.out)) (by (with_reducible repeat (first | apply Kd.R_alloc | apply Kd.R_drewN | apply Kd.R_drew)); exact (Q_HO170 h0_)) (by decide)) hk (fun _ h => h.2)) (fun _ h => h.1)) (fun _ h_ => by first | trivial | exact h_ | exact h_.1))
              clear HB
              clear HI162
              have HB := n0_
              have HI162 := n1_
              clear n0_ n1_
              (try clear hb)
              (try clear hb2)
              (try clear hk)
              (try clear hi)
              refine hK.out _ _ ⟨v166, adz_v166, v169, adz_v169, m6_, m8_, (by rw [ha.out]; exact putSel_upk 8 hb_ rfl rfl rfl), fun h0_ => absurd ((hon 1 (by kernel_rfl)).symm.trans h0_) (by decide), (by repeat (first | (with_reducible first | exact HB.out | apply below_alloc | apply pw_below_drewN | apply below_drew1 | refine below_set ?_ (IsS48.ge HI162.out)) | exact HB.out)), fun _ h1_ => absurd ((hon 5 (by kernel_rfl)).symm.trans h1_) (by decide), z_HO167, Q_HA_HO167, z_HO170, Q_HA_HO170, fun _ h1_ => absurd ((up_self b 11).symm.trans h1_) (by decide), fun _ _ => (by repeat (first | (with_reducible first | exact HI162.out | apply IsS48.alloc | apply IsS48.drewN | apply IsS48.drew | apply IsS48.set_1) | exact HI162.out)), fun h0_ => absurd ((hoff 13 (by kernel_rfl)).symm.trans h0_) (by decide), Q_X6_, Q_X8_⟩
            refine steps_cons ?_ ?_
            · rintro b a w' ⟨v166, adz_v166, v169, adz_v169, m6_, m8_, ha, Q_HI162, Q_HB, Q_HI162_e1, Q_HO167, Q_HA_HO167, Q_HO170, Q_HA_HO170, Q_HI162_e5, Q_HI162_e11, Q_HI162_e13, Q_X6_, Q_X8_⟩ hb_ hon hoff
              refine ⟨_, rfl, fun K hK => ?_⟩
              have e20 : a.tmps[20]? = some (.pointer (some ⟨g162, 0, none⟩)) := by rw [ha]; exact (putSel_off rfl).trans rfl
              replace ha := Aside0.mk ha
              have HB := Aside0.mk Q_HB
              have HI162 := Aside0.mk (Q_HI162_e11 (hon 11 (by kernel_rfl)) hb_)
              refine goes_ Try.func39 (by kernel_rfl) rfl #[.pointer (some ⟨g162, 0, none⟩), .int .i64 12] (by rfl) rfl rfl (by first | (simp only [List.map_toArray, List.map_cons, List.map_nil, Act.eval, Array.getD_eq_getD_getElem?, Option.getD_some, e20]; done) | (simp only [List.map_toArray, List.map_cons, List.map_nil, Act.eval, Array.getD_eq_getD_getElem?, Option.getD_some, e20]; rfl)) ?_
              with_reducible refine (spec_l20Word.calls k g162 t160 t176 12 t177 t178 w _ ?side1 ?side2 A10.out).mono ?_
              (case side1 => repeat (first | (with_reducible first | exact HI162.out | apply IsS48.alloc | apply IsS48.drewN | apply IsS48.drew | apply IsS48.set_1) | exact HI162.out))
              (case side2 => repeat (first | (with_reducible first | exact HB.out | apply below_alloc | apply pw_below_drewN | apply below_drew1 | refine below_set ?_ (IsS48.ge HI162.out)) | exact HB.out))
              rintro e w17 ⟨rfl, hi, hb, hk⟩
              refine ⟨_, rfl, ?_⟩
              have n0_ := Aside0.mk (hb)
              have n1_ := Aside0.mk (hi)
              have z_HO167 := fun (h0_ : b 2 = true) => (show Kd.R (Kd.int .i64) 3 w17 w.heap.size (fun _ => True) v166 y165 from by first | exact (Kd.R_mono (Kd.R_keep (IsS48.apart (show IsS48 w _ g162 t160 t176 from by repeat (first | (with_reducible first | exact HI162.out | apply IsS48.alloc | apply IsS48.drewN | apply IsS48.drew | apply IsS48.set_1) | exact HI162.out)) (by (with_reducible repeat (first | apply Kd.R_alloc | apply Kd.R_drewN | apply Kd.R_drew)); exact (Q_HO167 h0_)) (by decide)) hk (fun _ h => h.2)) (fun _ h => h.1)) | exact Kd.R_mono (Kd.R_mono (Kd.R_keep (IsS48.apart (show IsS48 w _ g162 t160 t176 from by repeat (first | (with_reducible first | exact HI162.out | apply IsS48.alloc | apply IsS48.drewN | apply IsS48.drew | apply IsS48.set_1) | exact HI162.out)) (by (with_reducible repeat (first | apply Kd.R_alloc | apply Kd.R_drewN | apply Kd.R_drew)); exact (Q_HO167 h0_)) (by decide)) hk (fun _ h => h.2)) (fun _ h => h.1)) (fun _ h_ => by first | trivial | exact h_ | exact h_.1))
              have z_HO170 := fun (h0_ : b 3 = true) => (show Kd.R (Kd.int .i64) 3 w17 w.heap.size (fun _ => True) v169 y168 from by first | exact (Kd.R_mono (Kd.R_keep (IsS48.apart (show IsS48 w _ g162 t160 t176 from by repeat (first | (with_reducible first | exact HI162.out | apply IsS48.alloc | apply IsS48.drewN | apply IsS48.drew | apply IsS48.set_1) | exact HI162.out)) (by (with_reducible repeat (first | apply Kd.R_alloc | apply Kd.R_drewN | apply Kd.R_drew)); exact (Q_HO170 h0_)) (by decide)) hk (fun _ h => h.2)) (fun _ h => h.1)) | exact Kd.R_mono (Kd.R_mono (Kd.R_keep (IsS48.apart (show IsS48 w _ g162 t160 t176 from by repeat (first | (with_reducible first | exact HI162.out | apply IsS48.alloc | apply IsS48.drewN | apply IsS48.drew | apply IsS48.set_1) | exact HI162.out)) (by (with_reducible repeat (first | apply Kd.R_alloc | apply Kd.R_drewN | apply Kd.R_drew)); exact (Q_HO170 h0_)) (by decide)) hk (fun _ h => h.2)) (fun _ h => h.1)) (fun _ h_ => by first | trivial | exact h_ | exact h_.1))
              clear HB
              clear HI162
              have HB := n0_
              have HI162 := n1_
              clear n0_ n1_
              (try clear hb)
              (try clear hb2)
              (try clear hk)
              (try clear hi)
              refine hK.out _ _ ⟨v166, adz_v166, v169, adz_v169, m6_, m8_, (by rw [ha.out]; exact putSel_upk 9 hb_ rfl rfl rfl), fun h0_ => absurd ((hon 1 (by kernel_rfl)).symm.trans h0_) (by decide), (by repeat (first | (with_reducible first | exact HB.out | apply below_alloc | apply pw_below_drewN | apply below_drew1 | refine below_set ?_ (IsS48.ge HI162.out)) | exact HB.out)), fun _ h1_ => absurd ((hon 5 (by kernel_rfl)).symm.trans h1_) (by decide), z_HO167, Q_HA_HO167, z_HO170, Q_HA_HO170, fun _ h1_ => absurd ((hon 11 (by kernel_rfl)).symm.trans h1_) (by decide), fun _ h1_ => absurd ((up_self b 13).symm.trans h1_) (by decide), fun _ => (by repeat (first | (with_reducible first | exact HI162.out | apply IsS48.alloc | apply IsS48.drewN | apply IsS48.drew | apply IsS48.set_1) | exact HI162.out)), Q_X6_, Q_X8_⟩
            refine steps_cons ?_ ?_
            · rintro b a w' ⟨v166, adz_v166, v169, adz_v169, m6_, m8_, ha, Q_HI162, Q_HB, Q_HI162_e1, Q_HO167, Q_HA_HO167, Q_HO170, Q_HA_HO170, Q_HI162_e5, Q_HI162_e11, Q_HI162_e13, Q_X6_, Q_X8_⟩ hb_ hon hoff
              refine ⟨_, rfl, fun K hK => ?_⟩
              have e17 : a.tmps[17]? = some (.int .i64 (rd y165 (rd y168 t171))) := by rw [ha]; exact putSel_on (e := (9, 17, .int .i64 (rd y165 (rd y168 t171)))) 7 rfl rfl (hon 9 (by kernel_rfl)) rfl
              replace ha := Aside0.mk ha
              have HB := Aside0.mk Q_HB
              have HO167 := Aside0.mk (Q_HO167 (hon 2 (by kernel_rfl)))
              have HA_HO167 := Aside0.mk (Q_HA_HO167 (hon 2 (by kernel_rfl)))
              have HO170 := Aside0.mk (Q_HO170 (hon 3 (by kernel_rfl)))
              have HA_HO170 := Aside0.mk (Q_HA_HO170 (hon 3 (by kernel_rfl)))
              have HI162 := Aside0.mk (Q_HI162_e13 (hon 13 (by kernel_rfl)))
              refine value_ (w1 := w') (v := .int .i64 (rd y165 (rd y168 t171))) (by rfl) rfl ?_ ?_
              · go_simp
                (try simp only [i64_w])
                try rfl
              refine hK.out _ _ ⟨v166, adz_v166, v169, adz_v169, m6_, m8_, (by rw [ha.out]; exact putSel_upk 10 hb_ rfl rfl rfl), fun h0_ => absurd ((hon 1 (by kernel_rfl)).symm.trans h0_) (by decide), Q_HB, fun _ h1_ => absurd ((hon 5 (by kernel_rfl)).symm.trans h1_) (by decide), Q_HO167, Q_HA_HO167, Q_HO170, Q_HA_HO170, fun _ h1_ => absurd ((hon 11 (by kernel_rfl)).symm.trans h1_) (by decide), fun _ h1_ => absurd ((hon 13 (by kernel_rfl)).symm.trans h1_) (by decide), Q_HI162_e13, Q_X6_, Q_X8_⟩
            refine steps_cons ?_ ?_
            · rintro b a w' ⟨v166, adz_v166, v169, adz_v169, m6_, m8_, ha, Q_HI162, Q_HB, Q_HI162_e1, Q_HO167, Q_HA_HO167, Q_HO170, Q_HA_HO170, Q_HI162_e5, Q_HI162_e11, Q_HI162_e13, Q_X6_, Q_X8_⟩ hb_ hon hoff
              refine ⟨_, rfl, fun K hK => ?_⟩
              have e19 : a.tmps[19]? = some (.int .i64 t175) := by rw [ha]; exact putSel_on (e := (11, 19, .int .i64 t175)) 8 rfl rfl (hon 11 (by kernel_rfl)) rfl
              replace ha := Aside0.mk ha
              have HB := Aside0.mk Q_HB
              have HO167 := Aside0.mk (Q_HO167 (hon 2 (by kernel_rfl)))
              have HA_HO167 := Aside0.mk (Q_HA_HO167 (hon 2 (by kernel_rfl)))
              have HO170 := Aside0.mk (Q_HO170 (hon 3 (by kernel_rfl)))
              have HA_HO170 := Aside0.mk (Q_HA_HO170 (hon 3 (by kernel_rfl)))
              have HI162 := Aside0.mk (Q_HI162_e13 (hon 13 (by kernel_rfl)))
              refine value_ (w1 := w') (v := .int .i64 t175) (by rfl) rfl ?_ ?_
              · go_simp
                (try simp only [i64_w])
                try rfl
              refine hK.out _ _ ⟨v166, adz_v166, v169, adz_v169, m6_, m8_, (by rw [ha.out]; exact putSel_upk 11 hb_ rfl rfl rfl), fun h0_ => absurd ((hon 1 (by kernel_rfl)).symm.trans h0_) (by decide), Q_HB, fun _ h1_ => absurd ((hon 5 (by kernel_rfl)).symm.trans h1_) (by decide), Q_HO167, Q_HA_HO167, Q_HO170, Q_HA_HO170, fun _ h1_ => absurd ((hon 11 (by kernel_rfl)).symm.trans h1_) (by decide), fun _ h1_ => absurd ((hon 13 (by kernel_rfl)).symm.trans h1_) (by decide), Q_HI162_e13, Q_X6_, Q_X8_⟩
            refine steps_cons ?_ ?_
            · rintro b a w' ⟨v166, adz_v166, v169, adz_v169, m6_, m8_, ha, Q_HI162, Q_HB, Q_HI162_e1, Q_HO167, Q_HA_HO167, Q_HO170, Q_HA_HO170, Q_HI162_e5, Q_HI162_e11, Q_HI162_e13, Q_X6_, Q_X8_⟩ hb_ hon hoff
              refine ⟨_, rfl, fun K hK => ?_⟩
              have e21 : a.tmps[21]? = some (.int .i64 t177) := by rw [ha]; exact putSel_on (e := (13, 21, .int .i64 t177)) 9 rfl rfl (hon 13 (by kernel_rfl)) rfl
              replace ha := Aside0.mk ha
              have HB := Aside0.mk Q_HB
              have HO167 := Aside0.mk (Q_HO167 (hon 2 (by kernel_rfl)))
              have HA_HO167 := Aside0.mk (Q_HA_HO167 (hon 2 (by kernel_rfl)))
              have HO170 := Aside0.mk (Q_HO170 (hon 3 (by kernel_rfl)))
              have HA_HO170 := Aside0.mk (Q_HA_HO170 (hon 3 (by kernel_rfl)))
              have HI162 := Aside0.mk (Q_HI162_e13 (hon 13 (by kernel_rfl)))
              refine value_ (w1 := w') (v := .int .i64 t177) (by rfl) rfl ?_ ?_
              · go_simp
                (try simp only [i64_w])
                try rfl
              refine hK.out _ _ ⟨v166, adz_v166, v169, adz_v169, m6_, m8_, (by rw [ha.out]; exact putSel_upk 12 hb_ rfl rfl rfl), fun h0_ => absurd ((hon 1 (by kernel_rfl)).symm.trans h0_) (by decide), Q_HB, fun _ h1_ => absurd ((hon 5 (by kernel_rfl)).symm.trans h1_) (by decide), Q_HO167, Q_HA_HO167, Q_HO170, Q_HA_HO170, fun _ h1_ => absurd ((hon 11 (by kernel_rfl)).symm.trans h1_) (by decide), fun _ h1_ => absurd ((hon 13 (by kernel_rfl)).symm.trans h1_) (by decide), Q_HI162_e13, Q_X6_, Q_X8_⟩
            exact steps_nil
          rintro b a w23 hall ⟨v166, adz_v166, v169, adz_v169, m6_, m8_, ha, Q_HI162, Q_HB, Q_HI162_e1, Q_HO167, Q_HA_HO167, Q_HO170, Q_HA_HO170, Q_HI162_e5, Q_HI162_e11, Q_HI162_e13, Q_X6_, Q_X8_⟩
          clear HB HI162
          have hb1_ := hall 1 (by kernel_rfl)
          have hb2_ := hall 2 (by kernel_rfl)
          have hb3_ := hall 3 (by kernel_rfl)
          have hb5_ := hall 5 (by kernel_rfl)
          have hb6_ := hall 6 (by kernel_rfl)
          have hb7_ := hall 7 (by kernel_rfl)
          have hb8_ := hall 8 (by kernel_rfl)
          have hb9_ := hall 9 (by kernel_rfl)
          have hb11_ := hall 11 (by kernel_rfl)
          have hb13_ := hall 13 (by kernel_rfl)
          have hb14_ := hall 14 (by kernel_rfl)
          have hb15_ := hall 15 (by kernel_rfl)
          have hb16_ := hall 16 (by kernel_rfl)
          subst ha
          obtain rfl := Q_X6_ hb6_
          obtain rfl := Q_X8_ hb8_
          simp only [putSel, hb1_, hb2_, hb3_, hb5_, hb6_, hb7_, hb8_, hb9_, hb11_, hb13_, hb14_, hb15_, hb16_, if_true, Act.put, List.setIfInBounds_toArray, List.set_cons_zero, List.set_cons_succ]
          clear Q_HI162
          have HB := Aside0.mk Q_HB
          clear Q_HB
          clear Q_HI162_e1
          have HO167 := Aside0.mk (Q_HO167 hb2_)
          clear Q_HO167
          have HA_HO167 := Aside0.mk (Q_HA_HO167 hb2_)
          clear Q_HA_HO167
          have HO170 := Aside0.mk (Q_HO170 hb3_)
          clear Q_HO170
          have HA_HO170 := Aside0.mk (Q_HA_HO170 hb3_)
          clear Q_HA_HO170
          clear Q_HI162_e5
          clear Q_HI162_e11
          have HI162 := Aside0.mk (Q_HI162_e13 hb13_)
          clear Q_HI162_e13
          clear hall hb1_ hb2_ hb3_ hb5_ hb6_ hb7_ hb8_ hb9_ hb11_ hb13_ hb14_ hb15_ hb16_
          obtain ⟨co24, eo24⟩ := HA_HO167.out
          clear HA_HO167
          subst eo24
          obtain ⟨co25, eo25⟩ := HA_HO170.out
          clear HA_HO170
          subst eo25
          try go_wp2
          go_ret3
          exact ⟨by first | rfl | (simp [errW_none, errW_some] <;> rfl) | (simp [*, errW_none, errW_some] <;> rfl), by repeat (first | (with_reducible first | exact HB.out | apply below_alloc | apply pw_below_drewN | apply below_drew1 | refine below_set ?_ (IsS48.ge HI162.out)) | exact HB.out)⟩
        · rw [if_neg c8] at H
          exact absurd H (by simp)
      · rw [if_neg c7] at H
        exact absurd H (by simp)
    · rw [if_neg c6] at H
      exact absurd H (by simp)
  · rw [if_neg c5] at H
    exact absurd H (by simp)

end Go.Proofs.Ytekaogbnpncpaaa.PFnAluThree
