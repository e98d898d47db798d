/- Walks of the functions that the law FnMulDo reaches last, and of the law itself where it answers true; they hold for all arguments that read as stated. -/
import Derived.Test.YtekaogbnpncpaaaPFnMulDox0
import Derived.Test.YtekaogbnpncpaaaPFnMulDox1
namespace Go.Proofs.Ytekaogbnpncpaaa.PFnMulDo
open Go.RowKit Go.Proofs.YtekaogbnpncpaaaW.PrintWords Go.Proofs.YtekaogbnpncpaaaW.PrintLast Go.Proofs.YtekaogbnpncpaaaW.PrintMore
attribute [local go_sem] max2_int min2_int max_two min_two max_three min_three max_four min_four   -- for this text's walks alone
set_option linter.unusedVariables false
set_option linter.unusedSimpArgs false

/-! ### spec_l20Word: function 39 -/
def spec_l20Word.f (k : Nat) (s0_0 : List Int) (s0_1 : Int) (a1 : Int) : Option (Int × Int) := (spec_l20Rd_odd.f k s0_0 s0_1 a1).bind fun bt120 => (if bt120.1 = true then ((some (([(-1), 65536, 9223372036854775807, (-9223372036854775808)] : List Int) : List Int)).bind fun y122 => ((spec_l20Rd_pick.f k s0_0 bt120.2 4).bind fun bt125 => (if 0 ≤ bt125.1 then (if bt125.1 < (y122.length : Int) then (some (rd y122 bt125.1, bt125.2)) else (none)) else (none)))) else ((spec_l20Rd_pick.f k s0_0 bt120.2 4).bind fun bt128 => ((spec_l20Rd_pick.f k s0_0 bt128.2 256).bind fun bt130 => ((spec_l20Rd_pick.f k s0_0 bt130.2 256).bind fun bt132 => ((spec_l20Rd_pick.f k s0_0 bt132.2 256).bind fun bt134 => ((spec_l20Rd_pick.f k s0_0 bt134.2 4).bind fun bt136 => ((spec_l20Rd_pick.f k s0_0 bt136.2 2).bind fun bt138 => ((some (([bt128.1, bt130.1, wrap64 ((wrap64 (bt132.1 * 256)) + bt134.1), wrap64 (65535 - bt136.1), wrap64 (32767 + bt138.1)] : List Int) : List Int)).bind fun y140 => ((spec_l20Rd_pick.f k s0_0 bt138.2 5).bind fun bt143 => (if 0 ≤ bt143.1 then (if bt143.1 < (y140.length : Int) then (some (rd y140 bt143.1, bt143.2)) else (none)) else (none)))))))))))
theorem spec_l20Word.mono : ∀ a0 a1 a2 k, LeO (spec_l20Word.f k a0 a1 a2) (spec_l20Word.f (k + 1) a0 a1 a2) := by
  intro a0 a1 a2 k
  unfold spec_l20Word.f
  repeat' first
      | (with_reducible exact spec_l20Rd_odd.mono _ _ _ _)
      | (with_reducible exact spec_l20Rd_pick.mono _ _ _ _)
      | (with_reducible exact LeO.refl _)
      | (with_reducible exact LeO.none _)
      | (with_reducible refine LeO.ite ?_ ?_)
      | (with_reducible refine LeO.bind ?_ (fun _ => ?_))
      | exact spec_l20Rd_odd.mono _ _ _ _
      | exact spec_l20Rd_pick.mono _ _ _ _
      | exact LeO.none _
      | refine LeO.ite ?_ ?_
      | refine LeO.bind ?_ (fun _ => ?_)
set_option maxHeartbeats 8000000 in
set_option maxRecDepth 100000 in
theorem spec_l20Word.calls (k : Nat) (g : Nat) (s0_0 : List Int) (s0_1 : Int) (a1 : Int) (r1 : Int) (r2 : Int) (w0 w : World) (hI : IsS48 w0 w g s0_0 s0_1) (hB : Below w0.heap.size w0 w) (h : spec_l20Word.f k s0_0 s0_1 a1 = some (r1, r2)) :
    Calls Try.prog 39 #[.pointer (some ⟨g, 0, none⟩), .int .i64 a1] w fun e w' => e = .returned (.int .i64 r1) ∧ IsS48 w0 w' g s0_0 r2 ∧ Below w0.heap.size w0 w' ∧ KeepBut w w' g none := by
  have HI0 := Aside0.mk hI
  have HK := Aside0.mk (KeepBut.refl w g none)
  have HL := Aside0.mk hB.size
  clear hI
  have HW0 := Aside0.mk hB.size
  have HB := Aside0.mk hB
  clear hB
  have H : ((spec_l20Rd_odd.f k s0_0 s0_1 a1).bind fun bt120 => (if bt120.1 = true then ((some (([(-1), 65536, 9223372036854775807, (-9223372036854775808)] : List Int) : List Int)).bind fun y122 => ((spec_l20Rd_pick.f k s0_0 bt120.2 4).bind fun bt125 => (if 0 ≤ bt125.1 then (if bt125.1 < (y122.length : Int) then (some (rd y122 bt125.1, bt125.2)) else (none)) else (none)))) else ((spec_l20Rd_pick.f k s0_0 bt120.2 4).bind fun bt128 => ((spec_l20Rd_pick.f k s0_0 bt128.2 256).bind fun bt130 => ((spec_l20Rd_pick.f k s0_0 bt130.2 256).bind fun bt132 => ((spec_l20Rd_pick.f k s0_0 bt132.2 256).bind fun bt134 => ((spec_l20Rd_pick.f k s0_0 bt134.2 4).bind fun bt136 => ((spec_l20Rd_pick.f k s0_0 bt136.2 2).bind fun bt138 => ((some (([bt128.1, bt130.1, wrap64 ((wrap64 (bt132.1 * 256)) + bt134.1), wrap64 (65535 - bt136.1), wrap64 (32767 + bt138.1)] : List Int) : List Int)).bind fun y140 => ((spec_l20Rd_pick.f k s0_0 bt138.2 5).bind fun bt143 => (if 0 ≤ bt143.1 then (if bt143.1 < (y140.length : Int) then (some (rd y140 bt143.1, bt143.2)) else (none)) else (none)))))))))))) = some (r1, r2) := h
  clear h
  replace H := Option.bind_eq_some_iff.mp H
  obtain ⟨⟨t120, t121⟩, A30, H⟩ := H
  replace H : (if t120 = true then ((some (([(-1), 65536, 9223372036854775807, (-9223372036854775808)] : List Int) : List Int)).bind fun y122 => ((spec_l20Rd_pick.f k s0_0 t121 4).bind fun bt125 => (if 0 ≤ bt125.1 then (if bt125.1 < (y122.length : Int) then (some (rd y122 bt125.1, bt125.2)) else (none)) else (none)))) else ((spec_l20Rd_pick.f k s0_0 t121 4).bind fun bt128 => ((spec_l20Rd_pick.f k s0_0 bt128.2 256).bind fun bt130 => ((spec_l20Rd_pick.f k s0_0 bt130.2 256).bind fun bt132 => ((spec_l20Rd_pick.f k s0_0 bt132.2 256).bind fun bt134 => ((spec_l20Rd_pick.f k s0_0 bt134.2 4).bind fun bt136 => ((spec_l20Rd_pick.f k s0_0 bt136.2 2).bind fun bt138 => ((some (([bt128.1, bt130.1, wrap64 ((wrap64 (bt132.1 * 256)) + bt134.1), wrap64 (65535 - bt136.1), wrap64 (32767 + bt138.1)] : List Int) : List Int)).bind fun y140 => ((spec_l20Rd_pick.f k s0_0 bt138.2 5).bind fun bt143 => (if 0 ≤ bt143.1 then (if bt143.1 < (y140.length : Int) then (some (rd y140 bt143.1, bt143.2)) else (none)) else (none))))))))))) = some (r1, r2) := H
  have A3 := Aside0.mk A30
  clear A30
  by_cases c4 : t120 = true
  · subst c4
    have H1 : ((some (([(-1), 65536, 9223372036854775807, (-9223372036854775808)] : List Int) : List Int)).bind fun y122 => ((spec_l20Rd_pick.f k s0_0 t121 4).bind fun bt125 => (if 0 ≤ bt125.1 then (if bt125.1 < (y122.length : Int) then (some (rd y122 bt125.1, bt125.2)) else (none)) else (none)))) = some (r1, r2) := by rw [if_pos rfl] at H; exact H
    clear H
    have H := H1
    clear H1
    obtain ⟨y122, hy122⟩ : ∃ y_ : List Int, y_ = (([(-1), 65536, 9223372036854775807, (-9223372036854775808)] : List Int)) := ⟨_, rfl⟩
    replace H : ((spec_l20Rd_pick.f k s0_0 t121 4).bind fun bt125 => (if 0 ≤ bt125.1 then (if bt125.1 < (y122.length : Int) then (some (rd y122 bt125.1, bt125.2)) else (none)) else (none))) = some (r1, r2) := by first | (rw [hy122]; with_reducible exact H) | (have H2_ := (Option.bind_some _ _).symm.trans H; rw [hy122]; with_reducible exact H2_) | (have H2_ := (Option.bind_some _ _).symm.trans H; with_reducible exact H2_) | with_reducible exact H | (rw [hy122]; exact H) | exact H
    have Ny122 := Aside0.mk hy122
    clear hy122
    replace H := Option.bind_eq_some_iff.mp H
    obtain ⟨⟨t125, t126⟩, A50, H⟩ := H
    replace H : (if 0 ≤ t125 then (if t125 < (y122.length : Int) then (some (rd y122 t125, t126)) else (none)) else (none)) = some (r1, r2) := H
    have A5 := Aside0.mk A50
    clear A50
    by_cases c6 : 0 ≤ t125
    · rw [if_pos c6] at H
      have c6b0 : decide (0 ≤ t125) = true := decide_eq_true c6
      clear c6
      by_cases c7 : t125 < (y122.length : Int)
      · rw [if_pos c7] at H
        have c7b0 : decide (t125 < (y122.length : Int)) = true := decide_eq_true c7
        clear c7
        simp only [Option.some.injEq, Prod.mk.injEq] at H
        obtain ⟨rfl, rfl⟩ := H
        go_enter Try.func39, Try.ntmps39
        go_wp2_with (first | ((with_reducible refine gate_callee (f := 46) rfl ?_); refine goesL_ (some 7) rfl rfl Try.func46 (by kernel_rfl) rfl #[.pointer (some ⟨g, 0, none⟩), .int .i64 a1] rfl (by (try simp only [List.map_toArray, List.map_cons, List.map_nil]); first | done | rfl | (simp only [List.length_drop, List.length_take]; rfl) | (rw [show ((l0.length : Int) % 16).toNat = l0.length % 16 from by omega]; rfl)) ?_; (with_reducible refine (spec_l20Rd_odd.calls k g s0_0 s0_1 a1 true t121 w0 _ ?side1 ?side2 A3.out).mono ?_); (case side1 => repeat (first | (with_reducible first | exact HI0.out | apply IsS48.alloc | apply IsS48.drewN | apply IsS48.drew | apply IsS48.set_1) | exact HI0.out)); (case side2 => repeat (first | (with_reducible first | exact HB.out | apply below_alloc | apply pw_below_drewN | apply below_drew1 | refine below_set ?_ (IsS48.ge HI0.out)) | exact HB.out)); rintro e w8 ⟨rfl, hi, hb, hk⟩; refine ⟨_, rfl, ?_⟩; have n0_ := Aside0.mk (KeepBut.trans (by repeat (first | (with_reducible first | exact HK.out | apply KeepBut.set_ | apply keep_drewN | apply keep_drew | apply keep_alloc) | exact HK.out)) hk (.inl rfl)); have n1_ := Aside0.mk (hb); have n2_ := Aside0.mk (hi); clear HK; clear HB; clear HI0; have HK := n0_; have HB := n1_; have HI0 := n2_; clear n0_ n1_ n2_; (try clear hb); (try clear hb2); (try clear hk); (try clear hi)) | ((with_reducible refine gate_dst (N := 8) rfl ?_); refine Kd.R_lit (Kd.int .i64) _ 3 ?hg (N := 8) ?hd (xs := ([(-1), 65536, 9223372036854775807, (-9223372036854775808)] : List Int)) (inner := [.int .i64 (-1), .int .i64 65536, .int .i64 9223372036854775807, .int .i64 (-9223372036854775808)]) (ok := fun _ => True) (okp := fun _ => True) ?hr ?hp (fun _ hk => hk) trivial (Below.refl _ _) (Nat.le_refl _) (by simp) ?_; (case hd => rfl); (case hg => rfl); (case hr => first | (go_simp; done) | (go_simp; rfl)); (case hp => exact (Reps.one (show Kd.M (Kd.int .i64) _ _ _ (-1) [.int .i64 (-1)] from rfl) (Reps.one (show Kd.M (Kd.int .i64) _ _ _ 65536 [.int .i64 65536] from rfl) (Reps.one (show Kd.M (Kd.int .i64) _ _ _ 9223372036854775807 [.int .i64 9223372036854775807] from rfl) (Reps.one (show Kd.M (Kd.int .i64) _ _ _ (-9223372036854775808) [.int .i64 (-9223372036854775808)] from rfl) (Reps.none _ _)))))); intro v123 w9 ho10 hb hg_ hnew_; clear hg_ hnew_; (first | rw [← Ny122.out] at ho10 | (simp only [Int.reduceToNat] at ho10; rw [← Ny122.out] at ho10)); have n0_ := Aside0.mk (Kd.R_lower ho10 (keep_size (w := w) (g := g) (row := none) (by repeat (first | (with_reducible first | exact HK.out | apply KeepBut.set_ | apply keep_drewN | apply keep_drew | apply keep_alloc) | exact HK.out)))); have n1_ := Aside0.mk (IsS48.below (by repeat (first | (with_reducible first | exact HI0.out | apply IsS48.alloc | apply IsS48.drewN | apply IsS48.drew | apply IsS48.set_1) | exact HI0.out)) hb); have n2_ := Aside0.mk (KeepBut.trans (by repeat (first | (with_reducible first | exact HK.out | apply KeepBut.set_ | apply keep_drewN | apply keep_drew | apply keep_alloc) | exact HK.out)) (KeepBut.of_below hb g none) (.inl rfl)); have n3_ := Aside0.mk (below_step (by repeat (first | (with_reducible first | exact HB.out | apply below_alloc | apply pw_below_drewN | apply below_drew1 | refine below_set ?_ (IsS48.ge HI0.out)) | exact HB.out)) hb); clear HI0; clear HK; clear HB; have HO124 := n0_; have HI0 := n1_; have HK := n2_; have HB := n3_; clear n0_ n1_ n2_ n3_; clear hb ho10) | ((with_reducible refine gate_callee (f := 41) rfl ?_); refine goesL_ (some 10) rfl rfl Try.func41 (by kernel_rfl) rfl #[.pointer (some ⟨g, 0, none⟩), .int .i64 4] rfl (by (try simp only [List.map_toArray, List.map_cons, List.map_nil]); first | done | rfl | (simp only [List.length_drop, List.length_take]; rfl) | (rw [show ((l0.length : Int) % 16).toNat = l0.length % 16 from by omega]; rfl)) ?_; (with_reducible refine (spec_l20Rd_pick.calls k g s0_0 t121 4 t125 t126 w0 _ ?side1 ?side2 A5.out).mono ?_); (case side1 => repeat (first | (with_reducible first | exact HI0.out | apply IsS48.alloc | apply IsS48.drewN | apply IsS48.drew | apply IsS48.set_1) | exact HI0.out)); (case side2 => repeat (first | (with_reducible first | exact HB.out | apply below_alloc | apply pw_below_drewN | apply below_drew1 | refine below_set ?_ (IsS48.ge HI0.out)) | exact HB.out)); rintro e w11 ⟨rfl, hi, hb, hk⟩; refine ⟨_, rfl, ?_⟩; have n0_ := Aside0.mk (Kd.R_mono (Kd.R_keep (IsS48.apart (show IsS48 w0 _ g s0_0 t121 from by repeat (first | (with_reducible first | exact HI0.out | apply IsS48.alloc | apply IsS48.drewN | apply IsS48.drew | apply IsS48.set_1) | exact HI0.out)) (by (with_reducible repeat (first | apply Kd.R_alloc | apply Kd.R_drewN | apply Kd.R_drew)); exact HO124.out) (by decide)) hk (fun _ h => h.2)) (fun _ h => h.1)); have n1_ := Aside0.mk (KeepBut.trans (by repeat (first | (with_reducible first | exact HK.out | apply KeepBut.set_ | apply keep_drewN | apply keep_drew | apply keep_alloc) | exact HK.out)) hk (.inl rfl)); have n2_ := Aside0.mk (hb); have n3_ := Aside0.mk (hi); clear HO124; clear HK; clear HB; clear HI0; have HO124 := n0_; have HK := n1_; have HB := n2_; have HI0 := n3_; clear n0_ n1_ n2_ n3_; (try clear hb); (try clear hb2); (try clear hk); (try clear hi); obtain ⟨Ao12, co12, eo12⟩ := Kd.R_slice HO124.out; subst eo12; have p127 : 0 ≤ (t125 : Int) := of_decide_eq_true (by first | (with_reducible assumption) | assumption); have q127 : t125 < (y122.length : Int) := of_decide_eq_true (by first | (with_reducible assumption) | assumption); obtain ⟨ad127, e127, hx127_0⟩ := Kd.at_int (Kd.R_reads' HO124.out).2.2 t125 p127 q127; cases e127; replace p127 := eq_true p127; replace q127 := eq_true q127))
        go_ret
        exact ⟨by first | rfl | (simp [errW_none, errW_some] <;> rfl) | (simp [*, errW_none, errW_some] <;> rfl), by repeat (first | (with_reducible first | exact HI0.out | apply IsS48.alloc | apply IsS48.drewN | apply IsS48.drew | apply IsS48.set_1) | exact HI0.out), by repeat (first | (with_reducible first | exact HB.out | apply below_alloc | apply pw_below_drewN | apply below_drew1 | refine below_set ?_ (IsS48.ge HI0.out)) | exact HB.out), by repeat (first | (with_reducible first | exact HK.out | apply KeepBut.set_ | apply keep_drewN | apply keep_drew | apply keep_alloc) | exact HK.out)⟩
      · rw [if_neg c7] at H
        exact absurd H (by simp)
    · rw [if_neg c6] at H
      exact absurd H (by simp)
  · replace c4 := Bool.eq_false_iff.mpr c4
    subst c4
    have H1 : ((spec_l20Rd_pick.f k s0_0 t121 4).bind fun bt128 => ((spec_l20Rd_pick.f k s0_0 bt128.2 256).bind fun bt130 => ((spec_l20Rd_pick.f k s0_0 bt130.2 256).bind fun bt132 => ((spec_l20Rd_pick.f k s0_0 bt132.2 256).bind fun bt134 => ((spec_l20Rd_pick.f k s0_0 bt134.2 4).bind fun bt136 => ((spec_l20Rd_pick.f k s0_0 bt136.2 2).bind fun bt138 => ((some (([bt128.1, bt130.1, wrap64 ((wrap64 (bt132.1 * 256)) + bt134.1), wrap64 (65535 - bt136.1), wrap64 (32767 + bt138.1)] : List Int) : List Int)).bind fun y140 => ((spec_l20Rd_pick.f k s0_0 bt138.2 5).bind fun bt143 => (if 0 ≤ bt143.1 then (if bt143.1 < (y140.length : Int) then (some (rd y140 bt143.1, bt143.2)) else (none)) else (none)))))))))) = some (r1, r2) := by rw [if_neg (show ¬ (false = true) by decide)] at H; exact H
    clear H
    have H := H1
    clear H1
    replace H := Option.bind_eq_some_iff.mp H
    obtain ⟨⟨t128, t129⟩, A130, H⟩ := H
    replace H : ((spec_l20Rd_pick.f k s0_0 t129 256).bind fun bt130 => ((spec_l20Rd_pick.f k s0_0 bt130.2 256).bind fun bt132 => ((spec_l20Rd_pick.f k s0_0 bt132.2 256).bind fun bt134 => ((spec_l20Rd_pick.f k s0_0 bt134.2 4).bind fun bt136 => ((spec_l20Rd_pick.f k s0_0 bt136.2 2).bind fun bt138 => ((some (([t128, bt130.1, wrap64 ((wrap64 (bt132.1 * 256)) + bt134.1), wrap64 (65535 - bt136.1), wrap64 (32767 + bt138.1)] : List Int) : List Int)).bind fun y140 => ((spec_l20Rd_pick.f k s0_0 bt138.2 5).bind fun bt143 => (if 0 ≤ bt143.1 then (if bt143.1 < (y140.length : Int) then (some (rd y140 bt143.1, bt143.2)) else (none)) else (none))))))))) = some (r1, r2) := H
    have A13 := Aside0.mk A130
    clear A130
    replace H := Option.bind_eq_some_iff.mp H
    obtain ⟨⟨t130, t131⟩, A140, H⟩ := H
    replace H : ((spec_l20Rd_pick.f k s0_0 t131 256).bind fun bt132 => ((spec_l20Rd_pick.f k s0_0 bt132.2 256).bind fun bt134 => ((spec_l20Rd_pick.f k s0_0 bt134.2 4).bind fun bt136 => ((spec_l20Rd_pick.f k s0_0 bt136.2 2).bind fun bt138 => ((some (([t128, t130, wrap64 ((wrap64 (bt132.1 * 256)) + bt134.1), wrap64 (65535 - bt136.1), wrap64 (32767 + bt138.1)] : List Int) : List Int)).bind fun y140 => ((spec_l20Rd_pick.f k s0_0 bt138.2 5).bind fun bt143 => (if 0 ≤ bt143.1 then (if bt143.1 < (y140.length : Int) then (some (rd y140 bt143.1, bt143.2)) else (none)) else (none)))))))) = some (r1, r2) := H
    have A14 := Aside0.mk A140
    clear A140
    replace H := Option.bind_eq_some_iff.mp H
    obtain ⟨⟨t132, t133⟩, A150, H⟩ := H
    replace H : ((spec_l20Rd_pick.f k s0_0 t133 256).bind fun bt134 => ((spec_l20Rd_pick.f k s0_0 bt134.2 4).bind fun bt136 => ((spec_l20Rd_pick.f k s0_0 bt136.2 2).bind fun bt138 => ((some (([t128, t130, wrap64 ((wrap64 (t132 * 256)) + bt134.1), wrap64 (65535 - bt136.1), wrap64 (32767 + bt138.1)] : List Int) : List Int)).bind fun y140 => ((spec_l20Rd_pick.f k s0_0 bt138.2 5).bind fun bt143 => (if 0 ≤ bt143.1 then (if bt143.1 < (y140.length : Int) then (some (rd y140 bt143.1, bt143.2)) else (none)) else (none))))))) = some (r1, r2) := H
    have A15 := Aside0.mk A150
    clear A150
    replace H := Option.bind_eq_some_iff.mp H
    obtain ⟨⟨t134, t135⟩, A160, H⟩ := H
    replace H : ((spec_l20Rd_pick.f k s0_0 t135 4).bind fun bt136 => ((spec_l20Rd_pick.f k s0_0 bt136.2 2).bind fun bt138 => ((some (([t128, t130, wrap64 ((wrap64 (t132 * 256)) + t134), wrap64 (65535 - bt136.1), wrap64 (32767 + bt138.1)] : List Int) : List Int)).bind fun y140 => ((spec_l20Rd_pick.f k s0_0 bt138.2 5).bind fun bt143 => (if 0 ≤ bt143.1 then (if bt143.1 < (y140.length : Int) then (some (rd y140 bt143.1, bt143.2)) else (none)) else (none)))))) = some (r1, r2) := H
    have A16 := Aside0.mk A160
    clear A160
    replace H := Option.bind_eq_some_iff.mp H
    obtain ⟨⟨t136, t137⟩, A170, H⟩ := H
    replace H : ((spec_l20Rd_pick.f k s0_0 t137 2).bind fun bt138 => ((some (([t128, t130, wrap64 ((wrap64 (t132 * 256)) + t134), wrap64 (65535 - t136), wrap64 (32767 + bt138.1)] : List Int) : List Int)).bind fun y140 => ((spec_l20Rd_pick.f k s0_0 bt138.2 5).bind fun bt143 => (if 0 ≤ bt143.1 then (if bt143.1 < (y140.length : Int) then (some (rd y140 bt143.1, bt143.2)) else (none)) else (none))))) = some (r1, r2) := H
    have A17 := Aside0.mk A170
    clear A170
    replace H := Option.bind_eq_some_iff.mp H
    obtain ⟨⟨t138, t139⟩, A180, H⟩ := H
    replace H : ((some (([t128, t130, wrap64 ((wrap64 (t132 * 256)) + t134), wrap64 (65535 - t136), wrap64 (32767 + t138)] : List Int) : List Int)).bind fun y140 => ((spec_l20Rd_pick.f k s0_0 t139 5).bind fun bt143 => (if 0 ≤ bt143.1 then (if bt143.1 < (y140.length : Int) then (some (rd y140 bt143.1, bt143.2)) else (none)) else (none)))) = some (r1, r2) := H
    have A18 := Aside0.mk A180
    clear A180
    obtain ⟨y140, hy140⟩ : ∃ y_ : List Int, y_ = (([t128, t130, wrap64 ((wrap64 (t132 * 256)) + t134), wrap64 (65535 - t136), wrap64 (32767 + t138)] : List Int)) := ⟨_, rfl⟩
    replace H : ((spec_l20Rd_pick.f k s0_0 t139 5).bind fun bt143 => (if 0 ≤ bt143.1 then (if bt143.1 < (y140.length : Int) then (some (rd y140 bt143.1, bt143.2)) else (none)) else (none))) = some (r1, r2) := by first | (rw [hy140]; with_reducible exact H) | (have H2_ := (Option.bind_some _ _).symm.trans H; rw [hy140]; with_reducible exact H2_) | (have H2_ := (Option.bind_some _ _).symm.trans H; with_reducible exact H2_) | with_reducible exact H | (rw [hy140]; exact H) | exact H
    have Ny140 := Aside0.mk hy140
    clear hy140
    replace H := Option.bind_eq_some_iff.mp H
    obtain ⟨⟨t143, t144⟩, A190, H⟩ := H
    replace H : (if 0 ≤ t143 then (if t143 < (y140.length : Int) then (some (rd y140 t143, t144)) else (none)) else (none)) = some (r1, r2) := H
    have A19 := Aside0.mk A190
    clear A190
    by_cases c20 : 0 ≤ t143
    · rw [if_pos c20] at H
      have c20b0 : decide (0 ≤ t143) = true := decide_eq_true c20
      clear c20
      by_cases c21 : t143 < (y140.length : Int)
      · rw [if_pos c21] at H
        have c21b0 : decide (t143 < (y140.length : Int)) = true := decide_eq_true c21
        clear c21
        simp only [Option.some.injEq, Prod.mk.injEq] at H
        obtain ⟨rfl, rfl⟩ := H
        go_enter Try.func39, Try.ntmps39
        go_wp2_with (first | ((with_reducible refine gate_callee (f := 46) rfl ?_); refine goesL_ (some 7) rfl rfl Try.func46 (by kernel_rfl) rfl #[.pointer (some ⟨g, 0, none⟩), .int .i64 a1] rfl (by (try simp only [List.map_toArray, List.map_cons, List.map_nil]); first | done | rfl | (simp only [List.length_drop, List.length_take]; rfl) | (rw [show ((l0.length : Int) % 16).toNat = l0.length % 16 from by omega]; rfl)) ?_; (with_reducible refine (spec_l20Rd_odd.calls k g s0_0 s0_1 a1 false t121 w0 _ ?side1 ?side2 A3.out).mono ?_); (case side1 => repeat (first | (with_reducible first | exact HI0.out | apply IsS48.alloc | apply IsS48.drewN | apply IsS48.drew | apply IsS48.set_1) | exact HI0.out)); (case side2 => repeat (first | (with_reducible first | exact HB.out | apply below_alloc | apply pw_below_drewN | apply below_drew1 | refine below_set ?_ (IsS48.ge HI0.out)) | exact HB.out)); rintro e w22 ⟨rfl, hi, hb, hk⟩; refine ⟨_, rfl, ?_⟩; have n0_ := Aside0.mk (KeepBut.trans (by repeat (first | (with_reducible first | exact HK.out | apply KeepBut.set_ | apply keep_drewN | apply keep_drew | apply keep_alloc) | exact HK.out)) hk (.inl rfl)); have n1_ := Aside0.mk (hb); have n2_ := Aside0.mk (hi); clear HK; clear HB; clear HI0; have HK := n0_; have HB := n1_; have HI0 := n2_; clear n0_ n1_ n2_; (try clear hb); (try clear hb2); (try clear hk); (try clear hi)) | ((with_reducible refine gate_callee (f := 41) rfl ?_); refine goesL_ (some 14) rfl rfl Try.func41 (by kernel_rfl) rfl #[.pointer (some ⟨g, 0, none⟩), .int .i64 4] rfl (by (try simp only [List.map_toArray, List.map_cons, List.map_nil]); first | done | rfl | (simp only [List.length_drop, List.length_take]; rfl) | (rw [show ((l0.length : Int) % 16).toNat = l0.length % 16 from by omega]; rfl)) ?_; (with_reducible refine (spec_l20Rd_pick.calls k g s0_0 t121 4 t128 t129 w0 _ ?side1 ?side2 A13.out).mono ?_); (case side1 => repeat (first | (with_reducible first | exact HI0.out | apply IsS48.alloc | apply IsS48.drewN | apply IsS48.drew | apply IsS48.set_1) | exact HI0.out)); (case side2 => repeat (first | (with_reducible first | exact HB.out | apply below_alloc | apply pw_below_drewN | apply below_drew1 | refine below_set ?_ (IsS48.ge HI0.out)) | exact HB.out)); rintro e w23 ⟨rfl, hi, hb, hk⟩; refine ⟨_, rfl, ?_⟩; have n0_ := Aside0.mk (KeepBut.trans (by repeat (first | (with_reducible first | exact HK.out | apply KeepBut.set_ | apply keep_drewN | apply keep_drew | apply keep_alloc) | exact HK.out)) hk (.inl rfl)); have n1_ := Aside0.mk (hb); have n2_ := Aside0.mk (hi); clear HK; clear HB; clear HI0; have HK := n0_; have HB := n1_; have HI0 := n2_; clear n0_ n1_ n2_; (try clear hb); (try clear hb2); (try clear hk); (try clear hi)) | ((with_reducible refine gate_callee (f := 41) rfl ?_); refine goesL_ (some 16) rfl rfl Try.func41 (by kernel_rfl) rfl #[.pointer (some ⟨g, 0, none⟩), .int .i64 256] rfl (by (try simp only [List.map_toArray, List.map_cons, List.map_nil]); first | done | rfl | (simp only [List.length_drop, List.length_take]; rfl) | (rw [show ((l0.length : Int) % 16).toNat = l0.length % 16 from by omega]; rfl)) ?_; (with_reducible refine (spec_l20Rd_pick.calls k g s0_0 t129 256 t130 t131 w0 _ ?side1 ?side2 A14.out).mono ?_); (case side1 => repeat (first | (with_reducible first | exact HI0.out | apply IsS48.alloc | apply IsS48.drewN | apply IsS48.drew | apply IsS48.set_1) | exact HI0.out)); (case side2 => repeat (first | (with_reducible first | exact HB.out | apply below_alloc | apply pw_below_drewN | apply below_drew1 | refine below_set ?_ (IsS48.ge HI0.out)) | exact HB.out)); rintro e w24 ⟨rfl, hi, hb, hk⟩; refine ⟨_, rfl, ?_⟩; have n0_ := Aside0.mk (KeepBut.trans (by repeat (first | (with_reducible first | exact HK.out | apply KeepBut.set_ | apply keep_drewN | apply keep_drew | apply keep_alloc) | exact HK.out)) hk (.inl rfl)); have n1_ := Aside0.mk (hb); have n2_ := Aside0.mk (hi); clear HK; clear HB; clear HI0; have HK := n0_; have HB := n1_; have HI0 := n2_; clear n0_ n1_ n2_; (try clear hb); (try clear hb2); (try clear hk); (try clear hi)) | ((with_reducible refine gate_callee (f := 41) rfl ?_); refine goesL_ (some 18) rfl rfl Try.func41 (by kernel_rfl) rfl #[.pointer (some ⟨g, 0, none⟩), .int .i64 256] rfl (by (try simp only [List.map_toArray, List.map_cons, List.map_nil]); first | done | rfl | (simp only [List.length_drop, List.length_take]; rfl) | (rw [show ((l0.length : Int) % 16).toNat = l0.length % 16 from by omega]; rfl)) ?_; (with_reducible refine (spec_l20Rd_pick.calls k g s0_0 t131 256 t132 t133 w0 _ ?side1 ?side2 A15.out).mono ?_); (case side1 => repeat (first | (with_reducible first | exact HI0.out | apply IsS48.alloc | apply IsS48.drewN | apply IsS48.drew | apply IsS48.set_1) | exact HI0.out)); (case side2 => repeat (first | (with_reducible first | exact HB.out | apply below_alloc | apply pw_below_drewN | apply below_drew1 | refine below_set ?_ (IsS48.ge HI0.out)) | exact HB.out)); rintro e w25 ⟨rfl, hi, hb, hk⟩; refine ⟨_, rfl, ?_⟩; have n0_ := Aside0.mk (KeepBut.trans (by repeat (first | (with_reducible first | exact HK.out | apply KeepBut.set_ | apply keep_drewN | apply keep_drew | apply keep_alloc) | exact HK.out)) hk (.inl rfl)); have n1_ := Aside0.mk (hb); have n2_ := Aside0.mk (hi); clear HK; clear HB; clear HI0; have HK := n0_; have HB := n1_; have HI0 := n2_; clear n0_ n1_ n2_; (try clear hb); (try clear hb2); (try clear hk); (try clear hi)) | ((with_reducible refine gate_callee (f := 41) rfl ?_); refine goesL_ (some 21) rfl rfl Try.func41 (by kernel_rfl) rfl #[.pointer (some ⟨g, 0, none⟩), .int .i64 256] rfl (by (try simp only [List.map_toArray, List.map_cons, List.map_nil]); first | done | rfl | (simp only [List.length_drop, List.length_take]; rfl) | (rw [show ((l0.length : Int) % 16).toNat = l0.length % 16 from by omega]; rfl)) ?_; (with_reducible refine (spec_l20Rd_pick.calls k g s0_0 t133 256 t134 t135 w0 _ ?side1 ?side2 A16.out).mono ?_); (case side1 => repeat (first | (with_reducible first | exact HI0.out | apply IsS48.alloc | apply IsS48.drewN | apply IsS48.drew | apply IsS48.set_1) | exact HI0.out)); (case side2 => repeat (first | (with_reducible first | exact HB.out | apply below_alloc | apply pw_below_drewN | apply below_drew1 | refine below_set ?_ (IsS48.ge HI0.out)) | exact HB.out)); rintro e w26 ⟨rfl, hi, hb, hk⟩; refine ⟨_, rfl, ?_⟩; have n0_ := Aside0.mk (KeepBut.trans (by repeat (first | (with_reducible first | exact HK.out | apply KeepBut.set_ | apply keep_drewN | apply keep_drew | apply keep_alloc) | exact HK.out)) hk (.inl rfl)); have n1_ := Aside0.mk (hb); have n2_ := Aside0.mk (hi); clear HK; clear HB; clear HI0; have HK := n0_; have HB := n1_; have HI0 := n2_; clear n0_ n1_ n2_; (try clear hb); (try clear hb2); (try clear hk); (try clear hi)) | ((with_reducible refine gate_callee (f := 41) rfl ?_); refine goesL_ (some 24) rfl rfl Try.func41 (by kernel_rfl) rfl #[.pointer (some ⟨g, 0, none⟩), .int .i64 4] rfl (by (try simp only [List.map_toArray, List.map_cons, List.map_nil]); first | done | rfl | (simp only [List.length_drop, List.length_take]; rfl) | (rw [show ((l0.length : Int) % 16).toNat = l0.length % 16 from by omega]; rfl)) ?_; (with_reducible refine (spec_l20Rd_pick.calls k g s0_0 t135 4 t136 t137 w0 _ ?side1 ?side2 A17.out).mono ?_); (case side1 => repeat (first | (with_reducible first | exact HI0.out | apply IsS48.alloc | apply IsS48.drewN | apply IsS48.drew | apply IsS48.set_1) | exact HI0.out)); (case side2 => repeat (first | (with_reducible first | exact HB.out | apply below_alloc | apply pw_below_drewN | apply below_drew1 | refine below_set ?_ (IsS48.ge HI0.out)) | exact HB.out)); rintro e w27 ⟨rfl, hi, hb, hk⟩; refine ⟨_, rfl, ?_⟩; have n0_ := Aside0.mk (KeepBut.trans (by repeat (first | (with_reducible first | exact HK.out | apply KeepBut.set_ | apply keep_drewN | apply keep_drew | apply keep_alloc) | exact HK.out)) hk (.inl rfl)); have n1_ := Aside0.mk (hb); have n2_ := Aside0.mk (hi); clear HK; clear HB; clear HI0; have HK := n0_; have HB := n1_; have HI0 := n2_; clear n0_ n1_ n2_; (try clear hb); (try clear hb2); (try clear hk); (try clear hi)) | ((with_reducible refine gate_callee (f := 41) rfl ?_); refine goesL_ (some 27) rfl rfl Try.func41 (by kernel_rfl) rfl #[.pointer (some ⟨g, 0, none⟩), .int .i64 2] rfl (by (try simp only [List.map_toArray, List.map_cons, List.map_nil]); first | done | rfl | (simp only [List.length_drop, List.length_take]; rfl) | (rw [show ((l0.length : Int) % 16).toNat = l0.length % 16 from by omega]; rfl)) ?_; (with_reducible refine (spec_l20Rd_pick.calls k g s0_0 t137 2 t138 t139 w0 _ ?side1 ?side2 A18.out).mono ?_); (case side1 => repeat (first | (with_reducible first | exact HI0.out | apply IsS48.alloc | apply IsS48.drewN | apply IsS48.drew | apply IsS48.set_1) | exact HI0.out)); (case side2 => repeat (first | (with_reducible first | exact HB.out | apply below_alloc | apply pw_below_drewN | apply below_drew1 | refine below_set ?_ (IsS48.ge HI0.out)) | exact HB.out)); rintro e w28 ⟨rfl, hi, hb, hk⟩; refine ⟨_, rfl, ?_⟩; have n0_ := Aside0.mk (KeepBut.trans (by repeat (first | (with_reducible first | exact HK.out | apply KeepBut.set_ | apply keep_drewN | apply keep_drew | apply keep_alloc) | exact HK.out)) hk (.inl rfl)); have n1_ := Aside0.mk (hb); have n2_ := Aside0.mk (hi); clear HK; clear HB; clear HI0; have HK := n0_; have HB := n1_; have HI0 := n2_; clear n0_ n1_ n2_; (try clear hb); (try clear hb2); (try clear hk); (try clear hi)) | ((with_reducible refine gate_dst (N := 29) rfl ?_); refine Kd.R_lit (Kd.int .i64) _ 3 ?hg (N := 29) ?hd (xs := ([t128, t130, wrap64 ((wrap64 (t132 * 256)) + t134), wrap64 (65535 - t136), wrap64 (32767 + t138)] : List Int)) (inner := [.int .i64 t128, .int .i64 t130, .int .i64 (wrap64 ((wrap64 (t132 * 256)) + t134)), .int .i64 (wrap64 (65535 - t136)), .int .i64 (wrap64 (32767 + t138))]) (ok := fun _ => True) (okp := fun _ => True) ?hr ?hp (fun _ hk => hk) trivial (Below.refl _ _) (Nat.le_refl _) (by simp) ?_; (case hd => rfl); (case hg => rfl); (case hr => first | (go_simp; done) | (go_simp; rfl)); (case hp => exact (Reps.one (show Kd.M (Kd.int .i64) _ _ _ t128 [.int .i64 t128] from rfl) (Reps.one (show Kd.M (Kd.int .i64) _ _ _ t130 [.int .i64 t130] from rfl) (Reps.one (show Kd.M (Kd.int .i64) _ _ _ (wrap64 ((wrap64 (t132 * 256)) + t134)) [.int .i64 (wrap64 ((wrap64 (t132 * 256)) + t134))] from rfl) (Reps.one (show Kd.M (Kd.int .i64) _ _ _ (wrap64 (65535 - t136)) [.int .i64 (wrap64 (65535 - t136))] from rfl) (Reps.one (show Kd.M (Kd.int .i64) _ _ _ (wrap64 (32767 + t138)) [.int .i64 (wrap64 (32767 + t138))] from rfl) (Reps.none _ _))))))); intro v141 w29 ho30 hb hg_ hnew_; clear hg_ hnew_; (first | rw [← Ny140.out] at ho30 | (simp only [Int.reduceToNat] at ho30; rw [← Ny140.out] at ho30)); have n0_ := Aside0.mk (Kd.R_lower ho30 (keep_size (w := w) (g := g) (row := none) (by repeat (first | (with_reducible first | exact HK.out | apply KeepBut.set_ | apply keep_drewN | apply keep_drew | apply keep_alloc) | exact HK.out)))); have n1_ := Aside0.mk (IsS48.below (by repeat (first | (with_reducible first | exact HI0.out | apply IsS48.alloc | apply IsS48.drewN | apply IsS48.drew | apply IsS48.set_1) | exact HI0.out)) hb); have n2_ := Aside0.mk (KeepBut.trans (by repeat (first | (with_reducible first | exact HK.out | apply KeepBut.set_ | apply keep_drewN | apply keep_drew | apply keep_alloc) | exact HK.out)) (KeepBut.of_below hb g none) (.inl rfl)); have n3_ := Aside0.mk (below_step (by repeat (first | (with_reducible first | exact HB.out | apply below_alloc | apply pw_below_drewN | apply below_drew1 | refine below_set ?_ (IsS48.ge HI0.out)) | exact HB.out)) hb); clear HI0; clear HK; clear HB; have HO142 := n0_; have HI0 := n1_; have HK := n2_; have HB := n3_; clear n0_ n1_ n2_ n3_; clear hb ho30) | ((with_reducible refine gate_callee (f := 41) rfl ?_); refine goesL_ (some 31) rfl rfl Try.func41 (by kernel_rfl) rfl #[.pointer (some ⟨g, 0, none⟩), .int .i64 5] rfl (by (try simp only [List.map_toArray, List.map_cons, List.map_nil]); first | done | rfl | (simp only [List.length_drop, List.length_take]; rfl) | (rw [show ((l0.length : Int) % 16).toNat = l0.length % 16 from by omega]; rfl)) ?_; (with_reducible refine (spec_l20Rd_pick.calls k g s0_0 t139 5 t143 t144 w0 _ ?side1 ?side2 A19.out).mono ?_); (case side1 => repeat (first | (with_reducible first | exact HI0.out | apply IsS48.alloc | apply IsS48.drewN | apply IsS48.drew | apply IsS48.set_1) | exact HI0.out)); (case side2 => repeat (first | (with_reducible first | exact HB.out | apply below_alloc | apply pw_below_drewN | apply below_drew1 | refine below_set ?_ (IsS48.ge HI0.out)) | exact HB.out)); rintro e w31 ⟨rfl, hi, hb, hk⟩; refine ⟨_, rfl, ?_⟩; have n0_ := Aside0.mk (Kd.R_mono (Kd.R_keep (IsS48.apart (show IsS48 w0 _ g s0_0 t139 from by repeat (first | (with_reducible first | exact HI0.out | apply IsS48.alloc | apply IsS48.drewN | apply IsS48.drew | apply IsS48.set_1) | exact HI0.out)) (by (with_reducible repeat (first | apply Kd.R_alloc | apply Kd.R_drewN | apply Kd.R_drew)); exact HO142.out) (by decide)) hk (fun _ h => h.2)) (fun _ h => h.1)); have n1_ := Aside0.mk (KeepBut.trans (by repeat (first | (with_reducible first | exact HK.out | apply KeepBut.set_ | apply keep_drewN | apply keep_drew | apply keep_alloc) | exact HK.out)) hk (.inl rfl)); have n2_ := Aside0.mk (hb); have n3_ := Aside0.mk (hi); clear HO142; clear HK; clear HB; clear HI0; have HO142 := n0_; have HK := n1_; have HB := n2_; have HI0 := n3_; clear n0_ n1_ n2_ n3_; (try clear hb); (try clear hb2); (try clear hk); (try clear hi); obtain ⟨Ao32, co32, eo32⟩ := Kd.R_slice HO142.out; subst eo32; have p145 : 0 ≤ (t143 : Int) := of_decide_eq_true (by first | (with_reducible assumption) | assumption); have q145 : t143 < (y140.length : Int) := of_decide_eq_true (by first | (with_reducible assumption) | assumption); obtain ⟨ad145, e145, hx145_0⟩ := Kd.at_int (Kd.R_reads' HO142.out).2.2 t143 p145 q145; cases e145; replace p145 := eq_true p145; replace q145 := eq_true q145))
        go_ret
        exact ⟨by first | rfl | (simp [errW_none, errW_some] <;> rfl) | (simp [*, errW_none, errW_some] <;> rfl), by repeat (first | (with_reducible first | exact HI0.out | apply IsS48.alloc | apply IsS48.drewN | apply IsS48.drew | apply IsS48.set_1) | exact HI0.out), by repeat (first | (with_reducible first | exact HB.out | apply below_alloc | apply pw_below_drewN | apply below_drew1 | refine below_set ?_ (IsS48.ge HI0.out)) | exact HB.out), by repeat (first | (with_reducible first | exact HK.out | apply KeepBut.set_ | apply keep_drewN | apply keep_drew | apply keep_alloc) | exact HK.out)⟩
      · rw [if_neg c21] at H
        exact absurd H (by simp)
    · rw [if_neg c20] at H
      exact absurd H (by simp)

/-! ### spec_l20Open: function 40 -/
def spec_l20Open.f (l0 : List Int) : Option (List Int × Int) := if (l0.length : Int) > 2000 then (if 2000 ≤ (l0.length : Int) then (some (l0.take 2000, 0)) else (none)) else (some (l0, 0))
set_option maxHeartbeats 8000000 in
set_option maxRecDepth 100000 in
theorem spec_l20Open.calls (A0 : Option Addr) (c0 : Nat) (l0 : List Int) (r1 : List Int) (r2 : Int) (w0 w : World) (hB : Below w0.heap.size w0 w) (hr0 : Kd.C (Kd.int .u8) w0 A0 l0.length l0) (hc0 : l0.length ≤ c0) (h : spec_l20Open.f l0 = some (r1, r2)) :
    Calls Try.prog 40 #[.slice A0 l0.length c0] w fun e w' => ∃ g_ : Nat, e = .returned (.pointer (some ⟨g_, 0, none⟩)) ∧ IsS48 w0 w' g_ r1 r2 ∧ Below w0.heap.size w0 w' ∧ Below w.heap.size w w' := by
  have hu48 := Try.underlying48
  have HR0 := Aside0.mk hr0
  have HC0 := Aside0.mk hc0
  clear hr0 hc0
  have HBW := Aside0.mk (Below.refl w.heap.size w)
  have HW0 := Aside0.mk hB.size
  have HB := Aside0.mk hB
  clear hB
  have H : (if (l0.length : Int) > 2000 then (if 2000 ≤ (l0.length : Int) then (some (l0.take 2000, 0)) else (none)) else (some (l0, 0))) = some (r1, r2) := h
  clear h
  by_cases c2 : (l0.length : Int) > 2000
  · rw [if_pos c2] at H
    have c2b0 : decide (2000 < (l0.length : Int)) = true := decide_eq_true c2
    have c2b1 : decide (2000 < l0.length) = true := decide_eq_true (by omega)
    clear c2
    by_cases c3 : 2000 ≤ (l0.length : Int)
    · rw [if_pos c3] at H
      have c3b0 := eq_true c3
      have c3b1 : decide (2000 ≤ (l0.length : Int)) = true := decide_eq_true c3
      clear c3
      simp only [Option.some.injEq, Prod.mk.injEq] at H
      obtain ⟨rfl, rfl⟩ := H
      obtain ⟨i04, hi04, _, hsz4, _⟩ := info_parts info5
      obtain ⟨hcut4, hA4, hC4⟩ := print_take_of (P := Try.prog) (Value.int .u8) 0 27 5 .i64 Try.underlying27 hi04 hsz4 A0 c0 l0 2000 (by omega) (of_decide_eq_true (by first | (with_reducible assumption) | assumption)) HC0.out
      have HR146 := Aside0.mk (Kd.C_of_reads (h1 := fun _ => rfl) (hA4 _ (Kd.reads_of_C HR0.out)))
      have HC146 := Aside0.mk hC4
      clear hA4 hC4 hi04 hsz4
      go_enter Try.func40, Try.ntmps40
      go_wp2_with (first | ((with_reducible refine gate_dst (N := 10) rfl ?_); refine box_event ?hg (N := 10) ?hd (cs := #[.slice A0 (l0.take 2000).length c0, .int .i64 0]) (t := 48) ?hr ?_; (case hd => rfl); (case hg => rfl); (case hr => first | (go_simp; done) | (go_simp; rfl)); intro gb147 hg w5 hbox hb; have n0_ := Aside0.mk (below_step HBW.out hb); have n1_ := Aside0.mk (below_step (by repeat (first | (with_reducible first | exact HB.out | apply below_alloc | apply pw_below_drewN | apply below_drew1) | exact HB.out)) hb); have n2_ := Aside0.mk (hbox); have n3_ := Aside0.mk ((by rw [hg]; exact (below_size (by repeat (first | (with_reducible first | exact HBW.out | apply below_alloc | apply pw_below_drewN | apply below_drew1) | exact HBW.out))) : w.heap.size ≤ gb147)); have n4_ := Aside0.mk ((Nat.le_trans HW0.out (by rw [hg]; exact (below_size (by repeat (first | (with_reducible first | exact HBW.out | apply below_alloc | apply pw_below_drewN | apply below_drew1) | exact HBW.out))) : w.heap.size ≤ gb147) : w0.heap.size ≤ gb147)); clear HBW; clear HB; have HBW := n0_; have HB := n1_; have BK147 := n2_; have GW147 := n3_; have GE147 := n4_; clear n0_ n1_ n2_ n3_ n4_; clear hb hbox hg))
      go_ret
      exact ⟨_, rfl, (show IsS48 w0 _ gb147 (l0.take 2000) 0 from ⟨_, _, by (with_reducible repeat (first | refine blk_drewN ?_ _ | refine blk_drew ?_ | refine blk_alloc ?_ _)); exact BK147.out, GE147.out, HR146.out⟩), by repeat (first | (with_reducible first | exact HB.out | apply below_alloc | apply pw_below_drewN | apply below_drew1 | refine below_set ?_ GE147.out) | exact HB.out), by repeat (first | (with_reducible first | exact HBW.out | apply below_alloc | apply pw_below_drewN | apply below_drew1 | refine below_set ?_ GW147.out) | exact HBW.out)⟩
    · rw [if_neg c3] at H
      exact absurd H (by simp)
  · rw [if_neg c2] at H
    have c2b0 : decide (2000 < (l0.length : Int)) = false := decide_eq_false c2
    have c2b1 : decide (2000 < l0.length) = false := decide_eq_false (by omega)
    clear c2
    simp only [Option.some.injEq, Prod.mk.injEq] at H
    obtain ⟨rfl, rfl⟩ := H
    go_enter Try.func40, Try.ntmps40
    go_wp2_with (first | ((with_reducible refine gate_dst (N := 10) rfl ?_); refine box_event ?hg (N := 10) ?hd (cs := #[.slice A0 l0.length c0, .int .i64 0]) (t := 48) ?hr ?_; (case hd => rfl); (case hg => rfl); (case hr => first | (go_simp; done) | (go_simp; rfl)); intro gb148 hg w6 hbox hb; have n0_ := Aside0.mk (below_step HBW.out hb); have n1_ := Aside0.mk (below_step (by repeat (first | (with_reducible first | exact HB.out | apply below_alloc | apply pw_below_drewN | apply below_drew1) | exact HB.out)) hb); have n2_ := Aside0.mk (hbox); have n3_ := Aside0.mk ((by rw [hg]; exact (below_size (by repeat (first | (with_reducible first | exact HBW.out | apply below_alloc | apply pw_below_drewN | apply below_drew1) | exact HBW.out))) : w.heap.size ≤ gb148)); have n4_ := Aside0.mk ((Nat.le_trans HW0.out (by rw [hg]; exact (below_size (by repeat (first | (with_reducible first | exact HBW.out | apply below_alloc | apply pw_below_drewN | apply below_drew1) | exact HBW.out))) : w.heap.size ≤ gb148) : w0.heap.size ≤ gb148)); clear HBW; clear HB; have HBW := n0_; have HB := n1_; have BK148 := n2_; have GW148 := n3_; have GE148 := n4_; clear n0_ n1_ n2_ n3_ n4_; clear hb hbox hg))
    go_ret
    exact ⟨_, rfl, (show IsS48 w0 _ gb148 l0 0 from ⟨_, _, by (with_reducible repeat (first | refine blk_drewN ?_ _ | refine blk_drew ?_ | refine blk_alloc ?_ _)); exact BK148.out, GE148.out, HR0.out⟩), by repeat (first | (with_reducible first | exact HB.out | apply below_alloc | apply pw_below_drewN | apply below_drew1 | refine below_set ?_ GE148.out) | exact HB.out), by repeat (first | (with_reducible first | exact HBW.out | apply below_alloc | apply pw_below_drewN | apply below_drew1 | refine below_set ?_ GW148.out) | exact HBW.out)⟩

/-! ### spec_DrawMulDo: function 33 -/
def spec_DrawMulDo.f (k : Nat) (l0 : List Int) : Option (Int × Int) := (spec_l20Open.f l0).bind fun bt149 => ((spec_l20Word.f k bt149.1 bt149.2 9).bind fun bt152 => ((spec_l20Word.f k bt149.1 bt152.2 9).bind fun bt154 => (some (bt152.1, bt154.1))))
theorem spec_DrawMulDo.mono : ∀ a0 k, LeO (spec_DrawMulDo.f k a0) (spec_DrawMulDo.f (k + 1) a0) := by
  intro a0 k
  unfold spec_DrawMulDo.f
  repeat' first
      | (with_reducible exact spec_l20Word.mono _ _ _ _)
      | (with_reducible exact LeO.refl _)
      | (with_reducible exact LeO.none _)
      | (with_reducible refine LeO.ite ?_ ?_)
      | (with_reducible refine LeO.bind ?_ (fun _ => ?_))
      | exact spec_l20Word.mono _ _ _ _
      | exact LeO.none _
      | refine LeO.ite ?_ ?_
      | refine LeO.bind ?_ (fun _ => ?_)
set_option maxHeartbeats 8000000 in
set_option maxRecDepth 100000 in
theorem spec_DrawMulDo.calls (k : Nat) (A0 : Option Addr) (c0 : Nat) (l0 : List Int) (r1 : Int) (r2 : Int) (w : World) (hr0 : Kd.C (Kd.int .u8) w A0 l0.length l0) (hc0 : l0.length ≤ c0) (h : spec_DrawMulDo.f k l0 = some (r1, r2)) :
    Calls Try.prog 33 #[.slice A0 l0.length c0] w fun e w' => e = .returned (.tuple #[.int .i64 r1, .int .i64 r2]) ∧ Below w.heap.size w w' := by
  have HR0 := Aside0.mk hr0
  have HC0 := Aside0.mk hc0
  clear hr0 hc0
  have HB := Aside0.mk (Below.refl w.heap.size w)
  have H : ((spec_l20Open.f l0).bind fun bt149 => ((spec_l20Word.f k bt149.1 bt149.2 9).bind fun bt152 => ((spec_l20Word.f k bt149.1 bt152.2 9).bind fun bt154 => (some (bt152.1, bt154.1))))) = some (r1, r2) := h
  clear h
  replace H := Option.bind_eq_some_iff.mp H
  obtain ⟨⟨t149, t150⟩, A20, H⟩ := H
  replace H : ((spec_l20Word.f k t149 t150 9).bind fun bt152 => ((spec_l20Word.f k t149 bt152.2 9).bind fun bt154 => (some (bt152.1, bt154.1)))) = some (r1, r2) := H
  have A2 := Aside0.mk A20
  clear A20
  replace H := Option.bind_eq_some_iff.mp H
  obtain ⟨⟨t152, t153⟩, A30, H⟩ := H
  replace H : ((spec_l20Word.f k t149 t153 9).bind fun bt154 => (some (t152, bt154.1))) = some (r1, r2) := H
  have A3 := Aside0.mk A30
  clear A30
  replace H := Option.bind_eq_some_iff.mp H
  obtain ⟨⟨t154, t155⟩, A40, H⟩ := H
  replace H : (some (t152, t154)) = some (r1, r2) := H
  have A4 := Aside0.mk A40
  clear A40
  simp only [Option.some.injEq, Prod.mk.injEq] at H
  obtain ⟨rfl, rfl⟩ := H
  go_enter Try.func33, Try.ntmps33
  go_wp2_with (first | ((with_reducible refine gate_callee (f := 40) rfl ?_); refine goesL_ (some 6) rfl rfl Try.func40 (by kernel_rfl) rfl #[.slice A0 l0.length c0] rfl (by (try simp only [List.map_toArray, List.map_cons, List.map_nil]); first | done | rfl | (simp only [List.length_drop, List.length_take]; rfl) | (rw [show ((l0.length : Int) % 16).toNat = l0.length % 16 from by omega]; rfl)) ?_; (with_reducible refine (spec_l20Open.calls _ _ l0 t149 t150 w _ ?side1 ?side2 ?side3 A2.out).mono ?_); (case side1 => repeat (first | (with_reducible first | exact HB.out | apply below_alloc | apply pw_below_drewN | apply below_drew1) | exact HB.out)); (case side2 => exact HR0.out); (case side3 => exact HC0.out); rintro e w5 ⟨g151, rfl, hi, hb, hb2⟩; refine ⟨_, rfl, ?_⟩; have n0_ := Aside0.mk (hb); have n1_ := Aside0.mk (hi); clear HB; have HB := n0_; have HI151 := n1_; clear n0_ n1_; (try clear hb); (try clear hb2); (try clear hk); (try clear hi)) | ((with_reducible refine gate_callee (f := 39) rfl ?_); refine goesL_ (some 8) rfl rfl Try.func39 (by kernel_rfl) rfl #[.pointer (some ⟨g151, 0, none⟩), .int .i64 9] rfl (by (try simp only [List.map_toArray, List.map_cons, List.map_nil]); first | done | rfl | (simp only [List.length_drop, List.length_take]; rfl) | (rw [show ((l0.length : Int) % 16).toNat = l0.length % 16 from by omega]; rfl)) ?_; (with_reducible refine (spec_l20Word.calls k g151 t149 t150 9 t152 t153 w _ ?side1 ?side2 A3.out).mono ?_); (case side1 => repeat (first | (with_reducible first | exact HI151.out | apply IsS48.alloc | apply IsS48.drewN | apply IsS48.drew | apply IsS48.set_1) | exact HI151.out)); (case side2 => repeat (first | (with_reducible first | exact HB.out | apply below_alloc | apply pw_below_drewN | apply below_drew1 | refine below_set ?_ (IsS48.ge HI151.out)) | exact HB.out)); rintro e w6 ⟨rfl, hi, hb, hk⟩; refine ⟨_, rfl, ?_⟩; have n0_ := Aside0.mk (hb); have n1_ := Aside0.mk (hi); clear HB; clear HI151; have HB := n0_; have HI151 := n1_; clear n0_ n1_; (try clear hb); (try clear hb2); (try clear hk); (try clear hi)) | ((with_reducible refine gate_callee (f := 39) rfl ?_); refine goesL_ (some 10) rfl rfl Try.func39 (by kernel_rfl) rfl #[.pointer (some ⟨g151, 0, none⟩), .int .i64 9] rfl (by (try simp only [List.map_toArray, List.map_cons, List.map_nil]); first | done | rfl | (simp only [List.length_drop, List.length_take]; rfl) | (rw [show ((l0.length : Int) % 16).toNat = l0.length % 16 from by omega]; rfl)) ?_; (with_reducible refine (spec_l20Word.calls k g151 t149 t153 9 t154 t155 w _ ?side1 ?side2 A4.out).mono ?_); (case side1 => repeat (first | (with_reducible first | exact HI151.out | apply IsS48.alloc | apply IsS48.drewN | apply IsS48.drew | apply IsS48.set_1) | exact HI151.out)); (case side2 => repeat (first | (with_reducible first | exact HB.out | apply below_alloc | apply pw_below_drewN | apply below_drew1 | refine below_set ?_ (IsS48.ge HI151.out)) | exact HB.out)); rintro e w7 ⟨rfl, hi, hb, hk⟩; refine ⟨_, rfl, ?_⟩; have n0_ := Aside0.mk (hb); have n1_ := Aside0.mk (hi); clear HB; clear HI151; have HB := n0_; have HI151 := n1_; clear n0_ n1_; (try clear hb); (try clear hb2); (try clear hk); (try clear hi)))
  go_ret2
  exact ⟨by first | rfl | (simp [errW_none, errW_some] <;> rfl) | (simp [*, errW_none, errW_some] <;> rfl), by repeat (first | (with_reducible first | exact HB.out | apply below_alloc | apply pw_below_drewN | apply below_drew1 | refine below_set ?_ (IsS48.ge HI151.out)) | exact HB.out)⟩

/-! ### laws_FnMulDo: function 12 -/
mutual
def laws_FnMulDo.j0 : Nat → List Int → List Int → Bool → Option (Bool)
  | 0, _, _, _ => none
  | k + 1, x0, x1, x19 => if x19 = true then (some true) else ((spec_DrawMulDo.f k x0).bind fun bt156 => ((spec_DrawMulDo.f k x1).bind fun bt158 => ((impl_MulDo.f bt156.1 bt156.2).bind fun t160 => ((spec_MulDo.f bt156.1 bt156.2).bind fun t161 => (if t160 = t161 then ((spec_WrdOk.f bt156.1).bind fun t162 => (if t162 = true then ((spec_WrdOk.f bt156.2).bind fun t163 => (if t163 = true then ((spec_WrdOk.f bt158.1).bind fun t164 => (laws_FnMulDo.j1 k x0 bt156.1 bt156.2 bt158.1 t160 (!t164))) else (laws_FnMulDo.j1 k x0 bt156.1 bt156.2 bt158.1 t160 true))) else (laws_FnMulDo.j1 k x0 bt156.1 bt156.2 bt158.1 t160 true))) else (some false))))))
def laws_FnMulDo.j1 : Nat → List Int → Int → Int → Int → Int → Bool → Option (Bool)
  | 0, _, _, _, _, _, _ => none
  | k + 1, x0, x5, x6, x7, x9, x50 => if x50 = true then ((spec_WrdOk.f x5).bind fun t165 => (if t165 = true then ((spec_WrdOk.f x6).bind fun t166 => (if (t166 == (decide (x9 ≥ 0))) = true then ((laws_haOk.f).bind fun t167 => (some t167)) else (some false))) else (if (false == (decide (x9 ≥ 0))) = true then ((laws_haOk.f).bind fun t168 => (some t168)) else (some false)))) else ((impl_MulDo.f x5 x6).bind fun t169 => ((impl_MulDo.f x5 x7).bind fun t170 => ((impl_AluDo.f k 0 t169 t170).bind fun t171 => ((impl_MulDo.f x6 x5).bind fun t172 => (if x9 = t172 then ((impl_MulDo.f x5 1).bind fun t173 => (if t173 = x5 then ((impl_MulDo.f x5 0).bind fun t174 => (if t174 = 0 then ((impl_AluDo.f k 0 x6 x7).bind fun t175 => ((impl_MulDo.f x5 t175).bind fun t176 => (if t176 = t171 then ((impl_MulDo.f x5 (wrap64 (2 ^ ((x0.length : Int) % 16).toNat))).bind fun t177 => ((impl_AluDo.f k 6 x5 ((x0.length : Int) % 16)).bind fun t178 => (some (t177 == t178)))) else (some false)))) else (some false))) else (some false))) else (some false))))))
end
def laws_FnMulDo.f (k : Nat) (l0 : List Int) (l1 : List Int) : Option (Bool) := if (l0.length : Int) > 1048576 then (laws_FnMulDo.j0 k l0 l1 true) else (laws_FnMulDo.j0 k l0 l1 (decide ((l1.length : Int) > 1048576)))
theorem laws_FnMulDo.mono_l : ∀ k, (∀ y0 y1 y2, LeO (laws_FnMulDo.j0 k y0 y1 y2) (laws_FnMulDo.j0 (k + 1) y0 y1 y2)) ∧ (∀ y0 y1 y2 y3 y4 y5, LeO (laws_FnMulDo.j1 k y0 y1 y2 y3 y4 y5) (laws_FnMulDo.j1 (k + 1) y0 y1 y2 y3 y4 y5))
  | 0 => ⟨fun _ _ _ r h => by simp [laws_FnMulDo.j0] at h, fun _ _ _ _ _ _ r h => by simp [laws_FnMulDo.j1] at h⟩
  | k + 1 => by
    obtain ⟨ih0, ih1⟩ := laws_FnMulDo.mono_l k
    refine ⟨?_, ?_⟩
    · intro y0 y1 y2
      unfold laws_FnMulDo.j0
      repeat' first
      | (with_reducible exact ih0 _ _ _)
      | (with_reducible exact ih1 _ _ _ _ _ _)
      | (with_reducible exact impl_AluDo.mono _ _ _ _)
      | (with_reducible exact spec_DrawMulDo.mono _ _)
      | (with_reducible exact LeO.refl _)
      | (with_reducible exact LeO.none _)
      | (with_reducible refine LeO.ite ?_ ?_)
      | (with_reducible refine LeO.bind ?_ (fun _ => ?_))
      | exact ih0 _ _ _
      | exact ih1 _ _ _ _ _ _
      | exact impl_AluDo.mono _ _ _ _
      | exact spec_DrawMulDo.mono _ _
      | exact LeO.none _
      | refine LeO.ite ?_ ?_
      | refine LeO.bind ?_ (fun _ => ?_)
    · intro y0 y1 y2 y3 y4 y5
      unfold laws_FnMulDo.j1
      repeat' first
      | (with_reducible exact ih0 _ _ _)
      | (with_reducible exact ih1 _ _ _ _ _ _)
      | (with_reducible exact impl_AluDo.mono _ _ _ _)
      | (with_reducible exact spec_DrawMulDo.mono _ _)
      | (with_reducible exact LeO.refl _)
      | (with_reducible exact LeO.none _)
      | (with_reducible refine LeO.ite ?_ ?_)
      | (with_reducible refine LeO.bind ?_ (fun _ => ?_))
      | exact ih0 _ _ _
      | exact ih1 _ _ _ _ _ _
      | exact impl_AluDo.mono _ _ _ _
      | exact spec_DrawMulDo.mono _ _
      | exact LeO.none _
      | refine LeO.ite ?_ ?_
      | refine LeO.bind ?_ (fun _ => ?_)
theorem laws_FnMulDo.mono : ∀ a0 a1 k, LeO (laws_FnMulDo.f k a0 a1) (laws_FnMulDo.f (k + 1) a0 a1) := by
  intro a0 a1 k
  obtain ⟨ih0, ih1⟩ := laws_FnMulDo.mono_l k
  unfold laws_FnMulDo.f
  repeat' first
      | (with_reducible exact ih0 _ _ _)
      | (with_reducible exact ih1 _ _ _ _ _ _)
      | (with_reducible exact impl_AluDo.mono _ _ _ _)
      | (with_reducible exact spec_DrawMulDo.mono _ _)
      | (with_reducible exact LeO.refl _)
      | (with_reducible exact LeO.none _)
      | (with_reducible refine LeO.ite ?_ ?_)
      | (with_reducible refine LeO.bind ?_ (fun _ => ?_))
      | exact ih0 _ _ _
      | exact ih1 _ _ _ _ _ _
      | exact impl_AluDo.mono _ _ _ _
      | exact spec_DrawMulDo.mono _ _
      | exact LeO.none _
      | refine LeO.ite ?_ ?_
      | refine LeO.bind ?_ (fun _ => ?_)
set_option maxHeartbeats 8000000 in
set_option maxRecDepth 100000 in
theorem laws_FnMulDo.calls (k : Nat) (A0 : Option Addr) (c0 : Nat) (l0 : List Int) (A1 : Option Addr) (c1 : Nat) (l1 : List Int) (r : Bool) (w : World) (hr0 : Kd.C (Kd.int .u8) w A0 l0.length l0) (hc0 : l0.length ≤ c0) (hr1 : Kd.C (Kd.int .u8) w A1 l1.length l1) (hc1 : l1.length ≤ c1) (h : laws_FnMulDo.f k l0 l1 = some r) (hr_ : r = true) :
    Calls Try.prog 12 #[.slice A0 l0.length c0, .slice A1 l1.length c1] w fun e w' => e = .returned (.bool r) ∧ Below w.heap.size w w' := by
  have HR_ := Aside0.mk hr_
  clear hr_
  have HR0 := Aside0.mk hr0
  have HC0 := Aside0.mk hc0
  clear hr0 hc0
  have HR1 := Aside0.mk hr1
  have HC1 := Aside0.mk hc1
  clear hr1 hc1
  have HB := Aside0.mk (Below.refl w.heap.size w)
  have H : (if (l0.length : Int) > 1048576 then (laws_FnMulDo.j0 k l0 l1 true) else (laws_FnMulDo.j0 k l0 l1 (decide ((l1.length : Int) > 1048576)))) = some r := h
  clear h
  have HC3 := Aside0.mk H
  clear H
  go_enter Try.func12, Try.ntmps12
  go_upto_region 1 with (fail)
  go_cut [19] (fun v19 wc => ∃ (kq : Nat) (x19_2 : Bool), v19 = .bool x19_2 ∧ Aside0 (laws_FnMulDo.j0 kq l0 l1 x19_2 = some r) ∧ Aside0 (kq ≤ k) ∧ Aside0 (Below w.heap.size w wc))
  case first =>
    have H := HC3.out
    clear HC3
    by_cases c4 : (l0.length : Int) > 1048576
    · rw [if_pos c4] at H
      have c4b0 : decide (1048576 < (l0.length : Int)) = true := decide_eq_true c4
      have c4b1 : decide (1048576 < l0.length) = true := decide_eq_true (by omega)
      clear c4
      (first | rw [c4b0] | (simp only [i64_w, i32_w]; rw [c4b0]) | skip)
      have H' := Aside0.mk H
      clear H
      go_wp2
      go_meet
      case rel => exact ⟨_, (true), (by first | rfl | (simp; done) | (simp [*]; done)), H', ⟨by first | omega | exact Nat.le_refl _⟩, ⟨by repeat (first | (with_reducible first | exact HB.out | apply below_alloc | apply pw_below_drewN | apply below_drew1) | exact HB.out)⟩⟩
    · rw [if_neg c4] at H
      have c4b0 : decide (1048576 < (l0.length : Int)) = false := decide_eq_false c4
      have c4b1 : decide (1048576 < l0.length) = false := decide_eq_false (by omega)
      clear c4
      (first | rw [c4b0] | (simp only [i64_w, i32_w]; rw [c4b0]) | skip)
      have H' := Aside0.mk H
      clear H
      go_wp2
      go_meet
      case rel => exact ⟨_, (decide ((l1.length : Int) > 1048576)), (by first | rfl | (simp; done) | (simp [*]; done)), H', ⟨by first | omega | exact Nat.le_refl _⟩, ⟨by repeat (first | (with_reducible first | exact HB.out | apply below_alloc | apply pw_below_drewN | apply below_drew1) | exact HB.out)⟩⟩
  case rest =>
    clear HC3
    try clear c1
    try clear p2
    try clear c4
    try clear c4b0
    try clear c4b1
    obtain ⟨kq, x19_2, rfl, HA, HJ2, HB⟩ := hcut
    cases kq with
    | zero => exact absurd HA.out (by simp [laws_FnMulDo.j0])
    | succ kj2 =>
      have H := HA.out
      clear HA
      simp only [laws_FnMulDo.j0] at H
      by_cases c5 : x19_2 = true
      · subst c5
        have H1 : (some true) = some r := by rw [if_pos rfl] at H; exact H
        clear H
        have H := H1
        clear H1
        obtain rfl := Option.some.inj H
        first
        | (exact absurd HR_.out (by decide))
        | (go_wp2
           go_ret
           exact ⟨by first | rfl | (simp [errW_none, errW_some] <;> rfl) | (simp [*, errW_none, errW_some] <;> rfl), by repeat (first | (with_reducible first | exact HB.out | apply below_alloc | apply pw_below_drewN | apply below_drew1) | exact HB.out)⟩)
      · replace c5 := Bool.eq_false_iff.mpr c5
        subst c5
        have H1 : ((spec_DrawMulDo.f kj2 l0).bind fun bt156 => ((spec_DrawMulDo.f kj2 l1).bind fun bt158 => ((impl_MulDo.f bt156.1 bt156.2).bind fun t160 => ((spec_MulDo.f bt156.1 bt156.2).bind fun t161 => (if t160 = t161 then ((spec_WrdOk.f bt156.1).bind fun t162 => (if t162 = true then ((spec_WrdOk.f bt156.2).bind fun t163 => (if t163 = true then ((spec_WrdOk.f bt158.1).bind fun t164 => (laws_FnMulDo.j1 kj2 l0 bt156.1 bt156.2 bt158.1 t160 (!t164))) else (laws_FnMulDo.j1 kj2 l0 bt156.1 bt156.2 bt158.1 t160 true))) else (laws_FnMulDo.j1 kj2 l0 bt156.1 bt156.2 bt158.1 t160 true))) else (some false)))))) = some r := by rw [if_neg (show ¬ (false = true) by decide)] at H; exact H
        clear H
        have H := H1
        clear H1
        replace H := Option.bind_eq_some_iff.mp H
        obtain ⟨⟨t156, t157⟩, A60, H⟩ := H
        replace H : ((spec_DrawMulDo.f kj2 l1).bind fun bt158 => ((impl_MulDo.f t156 t157).bind fun t160 => ((spec_MulDo.f t156 t157).bind fun t161 => (if t160 = t161 then ((spec_WrdOk.f t156).bind fun t162 => (if t162 = true then ((spec_WrdOk.f t157).bind fun t163 => (if t163 = true then ((spec_WrdOk.f bt158.1).bind fun t164 => (laws_FnMulDo.j1 kj2 l0 t156 t157 bt158.1 t160 (!t164))) else (laws_FnMulDo.j1 kj2 l0 t156 t157 bt158.1 t160 true))) else (laws_FnMulDo.j1 kj2 l0 t156 t157 bt158.1 t160 true))) else (some false))))) = some r := H
        have A6 := Aside0.mk A60
        clear A60
        replace H := Option.bind_eq_some_iff.mp H
        obtain ⟨⟨t158, t159⟩, A70, H⟩ := H
        replace H : ((impl_MulDo.f t156 t157).bind fun t160 => ((spec_MulDo.f t156 t157).bind fun t161 => (if t160 = t161 then ((spec_WrdOk.f t156).bind fun t162 => (if t162 = true then ((spec_WrdOk.f t157).bind fun t163 => (if t163 = true then ((spec_WrdOk.f t158).bind fun t164 => (laws_FnMulDo.j1 kj2 l0 t156 t157 t158 t160 (!t164))) else (laws_FnMulDo.j1 kj2 l0 t156 t157 t158 t160 true))) else (laws_FnMulDo.j1 kj2 l0 t156 t157 t158 t160 true))) else (some false)))) = some r := H
        have A7 := Aside0.mk A70
        clear A70
        replace H := Option.bind_eq_some_iff.mp H
        obtain ⟨t160, A80, H⟩ := H
        replace H : ((spec_MulDo.f t156 t157).bind fun t161 => (if t160 = t161 then ((spec_WrdOk.f t156).bind fun t162 => (if t162 = true then ((spec_WrdOk.f t157).bind fun t163 => (if t163 = true then ((spec_WrdOk.f t158).bind fun t164 => (laws_FnMulDo.j1 kj2 l0 t156 t157 t158 t160 (!t164))) else (laws_FnMulDo.j1 kj2 l0 t156 t157 t158 t160 true))) else (laws_FnMulDo.j1 kj2 l0 t156 t157 t158 t160 true))) else (some false))) = some r := H
        have A8 := Aside0.mk A80
        clear A80
        replace H := Option.bind_eq_some_iff.mp H
        obtain ⟨t161, A90, H⟩ := H
        replace H : (if t160 = t161 then ((spec_WrdOk.f t156).bind fun t162 => (if t162 = true then ((spec_WrdOk.f t157).bind fun t163 => (if t163 = true then ((spec_WrdOk.f t158).bind fun t164 => (laws_FnMulDo.j1 kj2 l0 t156 t157 t158 t160 (!t164))) else (laws_FnMulDo.j1 kj2 l0 t156 t157 t158 t160 true))) else (laws_FnMulDo.j1 kj2 l0 t156 t157 t158 t160 true))) else (some false)) = some r := H
        have A9 := Aside0.mk A90
        clear A90
        by_cases c10 : t160 = t161
        · rw [if_pos c10] at H
          have c10b0 : (t160 == t161) = true := beq_iff_eq.mpr c10
          have c10b1 : (t160 != t161) = false := bne_eq_false_iff_eq.mpr c10
          clear c10
          have HC11 := Aside0.mk H
          clear H
          go_upto_region 8 with (first | ((with_reducible refine gate_callee (f := 33) rfl ?_); refine goesL_ (some 22) rfl rfl Try.func33 (by kernel_rfl) rfl #[.slice A0 l0.length c0] rfl (by (try simp only [List.map_toArray, List.map_cons, List.map_nil]); first | done | rfl | (simp only [List.length_drop, List.length_take]; rfl) | (rw [show ((l0.length : Int) % 16).toNat = l0.length % 16 from by omega]; rfl)) ?_; (with_reducible refine (spec_DrawMulDo.calls kj2 _ _ l0 t156 t157 _ ?side1 ?side2 A6.out).mono ?_); (case side1 => repeat (first | exact (Kd.C_below HR0.out HB.out) | (with_reducible refine Kd.C_alloc ?_ _) | (with_reducible refine Kd.C_drewN ?_ _) | (with_reducible refine Kd.C_drew ?_))); (case side2 => exact HC0.out); rintro e w12 ⟨rfl, hb⟩; refine ⟨_, rfl, ?_⟩; have n0_ := Aside0.mk (below_step (by repeat (first | (with_reducible first | exact HB.out | apply below_alloc | apply pw_below_drewN | apply below_drew1) | exact HB.out)) hb); clear HB; have HB := n0_; clear n0_; (try clear hb); (try clear hb2); (try clear hk); (try clear hi)) | ((with_reducible refine gate_callee (f := 33) rfl ?_); refine goesL_ (some 27) rfl rfl Try.func33 (by kernel_rfl) rfl #[.slice A1 l1.length c1] rfl (by (try simp only [List.map_toArray, List.map_cons, List.map_nil]); first | done | rfl | (simp only [List.length_drop, List.length_take]; rfl) | (rw [show ((l0.length : Int) % 16).toNat = l0.length % 16 from by omega]; rfl)) ?_; (with_reducible refine (spec_DrawMulDo.calls kj2 _ _ l1 t158 t159 _ ?side1 ?side2 A7.out).mono ?_); (case side1 => repeat (first | exact (Kd.C_below HR1.out HB.out) | (with_reducible refine Kd.C_alloc ?_ _) | (with_reducible refine Kd.C_drewN ?_ _) | (with_reducible refine Kd.C_drew ?_))); (case side2 => exact HC1.out); rintro e w13 ⟨rfl, hb⟩; refine ⟨_, rfl, ?_⟩; have n0_ := Aside0.mk (below_step (by repeat (first | (with_reducible first | exact HB.out | apply below_alloc | apply pw_below_drewN | apply below_drew1) | exact HB.out)) hb); clear HB; have HB := n0_; clear n0_; (try clear hb); (try clear hb2); (try clear hk); (try clear hi)) | ((with_reducible refine gate_callee (f := 21) rfl ?_); refine goesL_ (some 32) rfl rfl Try.func21 (by kernel_rfl) rfl #[.int .i64 t156, .int .i64 t157] rfl (by (try simp only [List.map_toArray, List.map_cons, List.map_nil]); first | done | rfl | (simp only [List.length_drop, List.length_take]; rfl) | (rw [show ((l0.length : Int) % 16).toNat = l0.length % 16 from by omega]; rfl)) ?_; (with_reducible refine (impl_MulDo.calls t156 t157 t160 _ A8.out).mono ?_); rintro e w' ⟨rfl, ⟨nd, rfl⟩⟩; refine ⟨_, rfl, ?_⟩) | ((with_reducible refine gate_callee (f := 20) rfl ?_); refine goesL_ (some 36) rfl rfl Try.func20 (by kernel_rfl) rfl #[.int .i64 t156, .int .i64 t157] rfl (by (try simp only [List.map_toArray, List.map_cons, List.map_nil]); first | done | rfl | (simp only [List.length_drop, List.length_take]; rfl) | (rw [show ((l0.length : Int) % 16).toNat = l0.length % 16 from by omega]; rfl)) ?_; (with_reducible refine (spec_MulDo.calls t156 t157 t161 _ A9.out).mono ?_); rintro e w' ⟨rfl, ⟨nd, rfl⟩⟩; refine ⟨_, rfl, ?_⟩))
          (try simp only [Act.put, List.setIfInBounds_toArray, List.set_cons_zero, List.set_cons_succ])
          go_cut [50] (fun v50 wc => ∃ (kq : Nat) (x50_10 : Bool), v50 = .bool x50_10 ∧ Aside0 (laws_FnMulDo.j1 kq l0 t156 t157 t158 t160 x50_10 = some r) ∧ Aside0 (kq ≤ kj2) ∧ Aside0 (Below w.heap.size w wc))
          case first =>
            have H := HC11.out
            clear HC11
            replace H := Option.bind_eq_some_iff.mp H
            obtain ⟨t162, A140, H⟩ := H
            replace H : (if t162 = true then ((spec_WrdOk.f t157).bind fun t163 => (if t163 = true then ((spec_WrdOk.f t158).bind fun t164 => (laws_FnMulDo.j1 kj2 l0 t156 t157 t158 t160 (!t164))) else (laws_FnMulDo.j1 kj2 l0 t156 t157 t158 t160 true))) else (laws_FnMulDo.j1 kj2 l0 t156 t157 t158 t160 true)) = some r := H
            have A14 := Aside0.mk A140
            clear A140
            by_cases c15 : t162 = true
            · subst c15
              have H1 : ((spec_WrdOk.f t157).bind fun t163 => (if t163 = true then ((spec_WrdOk.f t158).bind fun t164 => (laws_FnMulDo.j1 kj2 l0 t156 t157 t158 t160 (!t164))) else (laws_FnMulDo.j1 kj2 l0 t156 t157 t158 t160 true))) = some r := by rw [if_pos rfl] at H; exact H
              clear H
              have H := H1
              clear H1
              replace H := Option.bind_eq_some_iff.mp H
              obtain ⟨t163, A160, H⟩ := H
              replace H : (if t163 = true then ((spec_WrdOk.f t158).bind fun t164 => (laws_FnMulDo.j1 kj2 l0 t156 t157 t158 t160 (!t164))) else (laws_FnMulDo.j1 kj2 l0 t156 t157 t158 t160 true)) = some r := H
              have A16 := Aside0.mk A160
              clear A160
              by_cases c17 : t163 = true
              · subst c17
                have H1 : ((spec_WrdOk.f t158).bind fun t164 => (laws_FnMulDo.j1 kj2 l0 t156 t157 t158 t160 (!t164))) = some r := by rw [if_pos rfl] at H; exact H
                clear H
                have H := H1
                clear H1
                replace H := Option.bind_eq_some_iff.mp H
                obtain ⟨t164, A180, H⟩ := H
                replace H : (laws_FnMulDo.j1 kj2 l0 t156 t157 t158 t160 (!t164)) = some r := H
                have A18 := Aside0.mk A180
                clear A180
                have H' := Aside0.mk H
                clear H
                go_wp2_with (first | ((with_reducible refine gate_callee (f := 18) rfl ?_); refine goesL_ (some 39) rfl rfl Try.func18 (by kernel_rfl) rfl #[.int .i64 t156] rfl (by (try simp only [List.map_toArray, List.map_cons, List.map_nil]); first | done | rfl | (simp only [List.length_drop, List.length_take]; rfl) | (rw [show ((l0.length : Int) % 16).toNat = l0.length % 16 from by omega]; rfl)) ?_; (with_reducible refine (spec_WrdOk.calls t156 true _ A14.out).mono ?_); rintro e w' ⟨rfl, ⟨nd, rfl⟩⟩; refine ⟨_, rfl, ?_⟩) | (go_at_call 18; (with_reducible refine (spec_WrdOk.calls t157 true _ A16.out).mono ?_); rintro e w' ⟨rfl, ⟨nd, rfl⟩⟩) | (go_at_call 18; (with_reducible refine (spec_WrdOk.calls t158 t164 _ A18.out).mono ?_); rintro e w' ⟨rfl, ⟨nd, rfl⟩⟩))
                go_meet
                case rel => exact ⟨_, (!t164), (by first | rfl | (simp; done) | (simp [*]; done)), H', ⟨by have := HJ2.out; first | omega | exact Nat.le_refl _⟩, ⟨by repeat (first | (with_reducible first | exact HB.out | apply below_alloc | apply pw_below_drewN | apply below_drew1) | exact HB.out)⟩⟩
              · replace c17 := Bool.eq_false_iff.mpr c17
                subst c17
                have H1 : (laws_FnMulDo.j1 kj2 l0 t156 t157 t158 t160 true) = some r := by rw [if_neg (show ¬ (false = true) by decide)] at H; exact H
                clear H
                have H := H1
                clear H1
                have H' := Aside0.mk H
                clear H
                go_wp2_with (first | ((with_reducible refine gate_callee (f := 18) rfl ?_); refine goesL_ (some 39) rfl rfl Try.func18 (by kernel_rfl) rfl #[.int .i64 t156] rfl (by (try simp only [List.map_toArray, List.map_cons, List.map_nil]); first | done | rfl | (simp only [List.length_drop, List.length_take]; rfl) | (rw [show ((l0.length : Int) % 16).toNat = l0.length % 16 from by omega]; rfl)) ?_; (with_reducible refine (spec_WrdOk.calls t156 true _ A14.out).mono ?_); rintro e w' ⟨rfl, ⟨nd, rfl⟩⟩; refine ⟨_, rfl, ?_⟩) | (go_at_call 18; (with_reducible refine (spec_WrdOk.calls t157 false _ A16.out).mono ?_); rintro e w' ⟨rfl, ⟨nd, rfl⟩⟩))
                go_meet
                case rel => exact ⟨_, (true), (by first | rfl | (simp; done) | (simp [*]; done)), H', ⟨by have := HJ2.out; first | omega | exact Nat.le_refl _⟩, ⟨by repeat (first | (with_reducible first | exact HB.out | apply below_alloc | apply pw_below_drewN | apply below_drew1) | exact HB.out)⟩⟩
            · replace c15 := Bool.eq_false_iff.mpr c15
              subst c15
              have H1 : (laws_FnMulDo.j1 kj2 l0 t156 t157 t158 t160 true) = some r := by rw [if_neg (show ¬ (false = true) by decide)] at H; exact H
              clear H
              have H := H1
              clear H1
              have H' := Aside0.mk H
              clear H
              go_wp2_with (first | ((with_reducible refine gate_callee (f := 18) rfl ?_); refine goesL_ (some 39) rfl rfl Try.func18 (by kernel_rfl) rfl #[.int .i64 t156] rfl (by (try simp only [List.map_toArray, List.map_cons, List.map_nil]); first | done | rfl | (simp only [List.length_drop, List.length_take]; rfl) | (rw [show ((l0.length : Int) % 16).toNat = l0.length % 16 from by omega]; rfl)) ?_; (with_reducible refine (spec_WrdOk.calls t156 false _ A14.out).mono ?_); rintro e w' ⟨rfl, ⟨nd, rfl⟩⟩; refine ⟨_, rfl, ?_⟩))
              go_meet
              case rel => exact ⟨_, (true), (by first | rfl | (simp; done) | (simp [*]; done)), H', ⟨by have := HJ2.out; first | omega | exact Nat.le_refl _⟩, ⟨by repeat (first | (with_reducible first | exact HB.out | apply below_alloc | apply pw_below_drewN | apply below_drew1) | exact HB.out)⟩⟩
          case rest =>
            clear HC11
            try clear c1
            try clear c2
            try clear p2
            try clear c3
            try clear c4
            try clear c4b0
            try clear c4b1
            try clear c5
            try clear c10
            try clear c10b0
            try clear c10b1
            try clear c12
            try clear c15
            try clear c17
            try clear c18
            try clear p2
            obtain ⟨kq, x50_10, rfl, HA, HJ10, HB⟩ := hcut
            cases kq with
            | zero => exact absurd HA.out (by simp [laws_FnMulDo.j1])
            | succ kj10 =>
              have H := HA.out
              clear HA
              simp only [laws_FnMulDo.j1] at H
              by_cases c19 : x50_10 = true
              · subst c19
                have H1 : ((spec_WrdOk.f t156).bind fun t165 => (if t165 = true then ((spec_WrdOk.f t157).bind fun t166 => (if (t166 == (decide (t160 ≥ 0))) = true then ((laws_haOk.f).bind fun t167 => (some t167)) else (some false))) else (if (false == (decide (t160 ≥ 0))) = true then ((laws_haOk.f).bind fun t168 => (some t168)) else (some false)))) = some r := by rw [if_pos rfl] at H; exact H
                clear H
                have H := H1
                clear H1
                replace H := Option.bind_eq_some_iff.mp H
                obtain ⟨t165, A200, H⟩ := H
                replace H : (if t165 = true then ((spec_WrdOk.f t157).bind fun t166 => (if (t166 == (decide (t160 ≥ 0))) = true then ((laws_haOk.f).bind fun t167 => (some t167)) else (some false))) else (if (false == (decide (t160 ≥ 0))) = true then ((laws_haOk.f).bind fun t168 => (some t168)) else (some false))) = some r := H
                have A20 := Aside0.mk A200
                clear A200
                by_cases c21 : t165 = true
                · subst c21
                  have H1 : ((spec_WrdOk.f t157).bind fun t166 => (if (t166 == (decide (t160 ≥ 0))) = true then ((laws_haOk.f).bind fun t167 => (some t167)) else (some false))) = some r := by rw [if_pos rfl] at H; exact H
                  clear H
                  have H := H1
                  clear H1
                  replace H := Option.bind_eq_some_iff.mp H
                  obtain ⟨t166, A220, H⟩ := H
                  replace H : (if (t166 == (decide (t160 ≥ 0))) = true then ((laws_haOk.f).bind fun t167 => (some t167)) else (some false)) = some r := H
                  have A22 := Aside0.mk A220
                  clear A220
                  by_cases c23 : (t166 == (decide (t160 ≥ 0))) = true
                  · rw [if_pos c23] at H
                    have c23b0 : (t166 == (decide (t160 ≥ 0))) = true := c23
                    (try (have c23b1 : decide (t166 = (decide (t160 ≥ 0))) = true := by simpa using c23))
                    (try (have c23b2 : (t166 == (decide (t160 ≥ 0))) = true := by simpa using c23))
                    clear c23
                    replace H := Option.bind_eq_some_iff.mp H
                    obtain ⟨t167, A240, H⟩ := H
                    replace H : (some t167) = some r := H
                    have A24 := Aside0.mk A240
                    clear A240
                    obtain rfl := Option.some.inj H
                    first
                    | (exact absurd HR_.out (by decide))
                    | (go_wp2_with (first | ((with_reducible refine gate_callee (f := 18) rfl ?_); refine goesL_ (some 52) rfl rfl Try.func18 (by kernel_rfl) rfl #[.int .i64 t156] rfl (by (try simp only [List.map_toArray, List.map_cons, List.map_nil]); first | done | rfl | (simp only [List.length_drop, List.length_take]; rfl) | (rw [show ((l0.length : Int) % 16).toNat = l0.length % 16 from by omega]; rfl)) ?_; (with_reducible refine (spec_WrdOk.calls t156 true _ A20.out).mono ?_); rintro e w' ⟨rfl, ⟨nd, rfl⟩⟩; refine ⟨_, rfl, ?_⟩) | (go_at_call 18; (with_reducible refine (spec_WrdOk.calls t157 t166 _ A22.out).mono ?_); rintro e w' ⟨rfl, ⟨nd, rfl⟩⟩) | (go_at_call 28; (with_reducible refine (laws_haOk.calls  t167 _ A24.out).mono ?_); rintro e w' ⟨rfl, ⟨nd, rfl⟩⟩))
                       go_ret
                       exact ⟨by first | rfl | (simp [errW_none, errW_some] <;> rfl) | (simp [*, errW_none, errW_some] <;> rfl), by repeat (first | (with_reducible first | exact HB.out | apply below_alloc | apply pw_below_drewN | apply below_drew1) | exact HB.out)⟩)
                  · rw [if_neg c23] at H
                    have c23b0 : (t166 == (decide (t160 ≥ 0))) = false := by simpa using c23
                    (try (have c23b1 : decide (t166 = (decide (t160 ≥ 0))) = false := by simpa using c23))
                    (try (have c23b2 : (t166 == (decide (t160 ≥ 0))) = false := by simpa using c23))
                    (try (have c23b3 : ¬ (t166 = (decide (t160 ≥ 0))) := by simpa using c23))
                    clear c23
                    obtain rfl := Option.some.inj H
                    first
                    | (exact absurd HR_.out (by decide))
                    | (go_wp2_with (first | ((with_reducible refine gate_callee (f := 18) rfl ?_); refine goesL_ (some 52) rfl rfl Try.func18 (by kernel_rfl) rfl #[.int .i64 t156] rfl (by (try simp only [List.map_toArray, List.map_cons, List.map_nil]); first | done | rfl | (simp only [List.length_drop, List.length_take]; rfl) | (rw [show ((l0.length : Int) % 16).toNat = l0.length % 16 from by omega]; rfl)) ?_; (with_reducible refine (spec_WrdOk.calls t156 true _ A20.out).mono ?_); rintro e w' ⟨rfl, ⟨nd, rfl⟩⟩; refine ⟨_, rfl, ?_⟩) | (go_at_call 18; (with_reducible refine (spec_WrdOk.calls t157 t166 _ A22.out).mono ?_); rintro e w' ⟨rfl, ⟨nd, rfl⟩⟩))
                       go_ret
                       exact ⟨by first | rfl | (simp [errW_none, errW_some] <;> rfl) | (simp [*, errW_none, errW_some] <;> rfl), by repeat (first | (with_reducible first | exact HB.out | apply below_alloc | apply pw_below_drewN | apply below_drew1) | exact HB.out)⟩)
                · replace c21 := Bool.eq_false_iff.mpr c21
                  subst c21
                  have H1 : (if (false == (decide (t160 ≥ 0))) = true then ((laws_haOk.f).bind fun t168 => (some t168)) else (some false)) = some r := by rw [if_neg (show ¬ (false = true) by decide)] at H; exact H
                  clear H
                  have H := H1
                  clear H1
                  by_cases c25 : (false == (decide (t160 ≥ 0))) = true
                  · rw [if_pos c25] at H
                    have c25b0 : (false == (decide (t160 ≥ 0))) = true := c25
                    (try (have c25b1 : decide (false = (decide (t160 ≥ 0))) = true := by simpa using c25))
                    (try (have c25b2 : (false == (decide (t160 ≥ 0))) = true := by simpa using c25))
                    clear c25
                    replace H := Option.bind_eq_some_iff.mp H
                    obtain ⟨t168, A260, H⟩ := H
                    replace H : (some t168) = some r := H
                    have A26 := Aside0.mk A260
                    clear A260
                    obtain rfl := Option.some.inj H
                    first
                    | (exact absurd HR_.out (by decide))
                    | (go_wp2_with (first | ((with_reducible refine gate_callee (f := 18) rfl ?_); refine goesL_ (some 52) rfl rfl Try.func18 (by kernel_rfl) rfl #[.int .i64 t156] rfl (by (try simp only [List.map_toArray, List.map_cons, List.map_nil]); first | done | rfl | (simp only [List.length_drop, List.length_take]; rfl) | (rw [show ((l0.length : Int) % 16).toNat = l0.length % 16 from by omega]; rfl)) ?_; (with_reducible refine (spec_WrdOk.calls t156 false _ A20.out).mono ?_); rintro e w' ⟨rfl, ⟨nd, rfl⟩⟩; refine ⟨_, rfl, ?_⟩) | (go_at_call 28; (with_reducible refine (laws_haOk.calls  t168 _ A26.out).mono ?_); rintro e w' ⟨rfl, ⟨nd, rfl⟩⟩))
                       go_ret
                       exact ⟨by first | rfl | (simp [errW_none, errW_some] <;> rfl) | (simp [*, errW_none, errW_some] <;> rfl), by repeat (first | (with_reducible first | exact HB.out | apply below_alloc | apply pw_below_drewN | apply below_drew1) | exact HB.out)⟩)
                  · rw [if_neg c25] at H
                    have c25b0 : (false == (decide (t160 ≥ 0))) = false := by simpa using c25
                    (try (have c25b1 : decide (false = (decide (t160 ≥ 0))) = false := by simpa using c25))
                    (try (have c25b2 : (false == (decide (t160 ≥ 0))) = false := by simpa using c25))
                    (try (have c25b3 : ¬ (false = (decide (t160 ≥ 0))) := by simpa using c25))
                    clear c25
                    obtain rfl := Option.some.inj H
                    first
                    | (exact absurd HR_.out (by decide))
                    | (go_wp2_with (first | ((with_reducible refine gate_callee (f := 18) rfl ?_); refine goesL_ (some 52) rfl rfl Try.func18 (by kernel_rfl) rfl #[.int .i64 t156] rfl (by (try simp only [List.map_toArray, List.map_cons, List.map_nil]); first | done | rfl | (simp only [List.length_drop, List.length_take]; rfl) | (rw [show ((l0.length : Int) % 16).toNat = l0.length % 16 from by omega]; rfl)) ?_; (with_reducible refine (spec_WrdOk.calls t156 false _ A20.out).mono ?_); rintro e w' ⟨rfl, ⟨nd, rfl⟩⟩; refine ⟨_, rfl, ?_⟩))
                       go_ret
                       exact ⟨by first | rfl | (simp [errW_none, errW_some] <;> rfl) | (simp [*, errW_none, errW_some] <;> rfl), by repeat (first | (with_reducible first | exact HB.out | apply below_alloc | apply pw_below_drewN | apply below_drew1) | exact HB.out)⟩)
              · replace c19 := Bool.eq_false_iff.mpr c19
                subst c19
                have H1 : ((impl_MulDo.f t156 t157).bind fun t169 => ((impl_MulDo.f t156 t158).bind fun t170 => ((impl_AluDo.f kj10 0 t169 t170).bind fun t171 => ((impl_MulDo.f t157 t156).bind fun t172 => (if t160 = t172 then ((impl_MulDo.f t156 1).bind fun t173 => (if t173 = t156 then ((impl_MulDo.f t156 0).bind fun t174 => (if t174 = 0 then ((impl_AluDo.f kj10 0 t157 t158).bind fun t175 => ((impl_MulDo.f t156 t175).bind fun t176 => (if t176 = t171 then ((impl_MulDo.f t156 (wrap64 (2 ^ ((l0.length : Int) % 16).toNat))).bind fun t177 => ((impl_AluDo.f kj10 6 t156 ((l0.length : Int) % 16)).bind fun t178 => (some (t177 == t178)))) else (some false)))) else (some false))) else (some false))) else (some false)))))) = some r := by rw [if_neg (show ¬ (false = true) by decide)] at H; exact H
                clear H
                have H := H1
                clear H1
                replace H := Option.bind_eq_some_iff.mp H
                obtain ⟨t169, A270, H⟩ := H
                replace H : ((impl_MulDo.f t156 t158).bind fun t170 => ((impl_AluDo.f kj10 0 t169 t170).bind fun t171 => ((impl_MulDo.f t157 t156).bind fun t172 => (if t160 = t172 then ((impl_MulDo.f t156 1).bind fun t173 => (if t173 = t156 then ((impl_MulDo.f t156 0).bind fun t174 => (if t174 = 0 then ((impl_AluDo.f kj10 0 t157 t158).bind fun t175 => ((impl_MulDo.f t156 t175).bind fun t176 => (if t176 = t171 then ((impl_MulDo.f t156 (wrap64 (2 ^ ((l0.length : Int) % 16).toNat))).bind fun t177 => ((impl_AluDo.f kj10 6 t156 ((l0.length : Int) % 16)).bind fun t178 => (some (t177 == t178)))) else (some false)))) else (some false))) else (some false))) else (some false))))) = some r := H
                have A27 := Aside0.mk A270
                clear A270
                replace H := Option.bind_eq_some_iff.mp H
                obtain ⟨t170, A280, H⟩ := H
                replace H : ((impl_AluDo.f kj10 0 t169 t170).bind fun t171 => ((impl_MulDo.f t157 t156).bind fun t172 => (if t160 = t172 then ((impl_MulDo.f t156 1).bind fun t173 => (if t173 = t156 then ((impl_MulDo.f t156 0).bind fun t174 => (if t174 = 0 then ((impl_AluDo.f kj10 0 t157 t158).bind fun t175 => ((impl_MulDo.f t156 t175).bind fun t176 => (if t176 = t171 then ((impl_MulDo.f t156 (wrap64 (2 ^ ((l0.length : Int) % 16).toNat))).bind fun t177 => ((impl_AluDo.f kj10 6 t156 ((l0.length : Int) % 16)).bind fun t178 => (some (t177 == t178)))) else (some false)))) else (some false))) else (some false))) else (some false)))) = some r := H
                have A28 := Aside0.mk A280
                clear A280
                replace H := Option.bind_eq_some_iff.mp H
                obtain ⟨t171, A290, H⟩ := H
                replace H : ((impl_MulDo.f t157 t156).bind fun t172 => (if t160 = t172 then ((impl_MulDo.f t156 1).bind fun t173 => (if t173 = t156 then ((impl_MulDo.f t156 0).bind fun t174 => (if t174 = 0 then ((impl_AluDo.f kj10 0 t157 t158).bind fun t175 => ((impl_MulDo.f t156 t175).bind fun t176 => (if t176 = t171 then ((impl_MulDo.f t156 (wrap64 (2 ^ ((l0.length : Int) % 16).toNat))).bind fun t177 => ((impl_AluDo.f kj10 6 t156 ((l0.length : Int) % 16)).bind fun t178 => (some (t177 == t178)))) else (some false)))) else (some false))) else (some false))) else (some false))) = some r := H
                have A29 := Aside0.mk A290
                clear A290
                replace H := Option.bind_eq_some_iff.mp H
                obtain ⟨t172, A300, H⟩ := H
                replace H : (if t160 = t172 then ((impl_MulDo.f t156 1).bind fun t173 => (if t173 = t156 then ((impl_MulDo.f t156 0).bind fun t174 => (if t174 = 0 then ((impl_AluDo.f kj10 0 t157 t158).bind fun t175 => ((impl_MulDo.f t156 t175).bind fun t176 => (if t176 = t171 then ((impl_MulDo.f t156 (wrap64 (2 ^ ((l0.length : Int) % 16).toNat))).bind fun t177 => ((impl_AluDo.f kj10 6 t156 ((l0.length : Int) % 16)).bind fun t178 => (some (t177 == t178)))) else (some false)))) else (some false))) else (some false))) else (some false)) = some r := H
                have A30 := Aside0.mk A300
                clear A300
                by_cases c31 : t160 = t172
                · rw [if_pos c31] at H
                  have c31b0 : (t160 == t172) = true := beq_iff_eq.mpr c31
                  have c31b1 : (t160 != t172) = false := bne_eq_false_iff_eq.mpr c31
                  clear c31
                  replace H := Option.bind_eq_some_iff.mp H
                  obtain ⟨t173, A320, H⟩ := H
                  replace H : (if t173 = t156 then ((impl_MulDo.f t156 0).bind fun t174 => (if t174 = 0 then ((impl_AluDo.f kj10 0 t157 t158).bind fun t175 => ((impl_MulDo.f t156 t175).bind fun t176 => (if t176 = t171 then ((impl_MulDo.f t156 (wrap64 (2 ^ ((l0.length : Int) % 16).toNat))).bind fun t177 => ((impl_AluDo.f kj10 6 t156 ((l0.length : Int) % 16)).bind fun t178 => (some (t177 == t178)))) else (some false)))) else (some false))) else (some false)) = some r := H
                  have A32 := Aside0.mk A320
                  clear A320
                  by_cases c33 : t173 = t156
                  · rw [if_pos c33] at H
                    have c33b0 : (t173 == t156) = true := beq_iff_eq.mpr c33
                    have c33b1 : (t173 != t156) = false := bne_eq_false_iff_eq.mpr c33
                    clear c33
                    replace H := Option.bind_eq_some_iff.mp H
                    obtain ⟨t174, A340, H⟩ := H
                    replace H : (if t174 = 0 then ((impl_AluDo.f kj10 0 t157 t158).bind fun t175 => ((impl_MulDo.f t156 t175).bind fun t176 => (if t176 = t171 then ((impl_MulDo.f t156 (wrap64 (2 ^ ((l0.length : Int) % 16).toNat))).bind fun t177 => ((impl_AluDo.f kj10 6 t156 ((l0.length : Int) % 16)).bind fun t178 => (some (t177 == t178)))) else (some false)))) else (some false)) = some r := H
                    have A34 := Aside0.mk A340
                    clear A340
                    by_cases c35 : t174 = 0
                    · rw [if_pos c35] at H
                      have c35b0 : (t174 == 0) = true := beq_iff_eq.mpr c35
                      have c35b1 : (t174 != 0) = false := bne_eq_false_iff_eq.mpr c35
                      clear c35
                      replace H := Option.bind_eq_some_iff.mp H
                      obtain ⟨t175, A360, H⟩ := H
                      replace H : ((impl_MulDo.f t156 t175).bind fun t176 => (if t176 = t171 then ((impl_MulDo.f t156 (wrap64 (2 ^ ((l0.length : Int) % 16).toNat))).bind fun t177 => ((impl_AluDo.f kj10 6 t156 ((l0.length : Int) % 16)).bind fun t178 => (some (t177 == t178)))) else (some false))) = some r := H
                      have A36 := Aside0.mk A360
                      clear A360
                      replace H := Option.bind_eq_some_iff.mp H
                      obtain ⟨t176, A370, H⟩ := H
                      replace H : (if t176 = t171 then ((impl_MulDo.f t156 (wrap64 (2 ^ ((l0.length : Int) % 16).toNat))).bind fun t177 => ((impl_AluDo.f kj10 6 t156 ((l0.length : Int) % 16)).bind fun t178 => (some (t177 == t178)))) else (some false)) = some r := H
                      have A37 := Aside0.mk A370
                      clear A370
                      by_cases c38 : t176 = t171
                      · rw [if_pos c38] at H
                        have c38b0 : (t176 == t171) = true := beq_iff_eq.mpr c38
                        have c38b1 : (t176 != t171) = false := bne_eq_false_iff_eq.mpr c38
                        clear c38
                        replace H := Option.bind_eq_some_iff.mp H
                        obtain ⟨t177, A390, H⟩ := H
                        replace H : ((impl_AluDo.f kj10 6 t156 ((l0.length : Int) % 16)).bind fun t178 => (some (t177 == t178))) = some r := H
                        have A39 := Aside0.mk A390
                        clear A390
                        replace H := Option.bind_eq_some_iff.mp H
                        obtain ⟨t178, A400, H⟩ := H
                        replace H : (some (t177 == t178)) = some r := H
                        have A40 := Aside0.mk A400
                        clear A400
                        obtain rfl := Option.some.inj H
                        first
                        | (exact absurd HR_.out (by decide))
                        | (go_wp2_with (first | ((with_reducible refine gate_callee (f := 21) rfl ?_); refine goesL_ (some 68) rfl rfl Try.func21 (by kernel_rfl) rfl #[.int .i64 t156, .int .i64 t157] rfl (by (try simp only [List.map_toArray, List.map_cons, List.map_nil]); first | done | rfl | (simp only [List.length_drop, List.length_take]; rfl) | (rw [show ((l0.length : Int) % 16).toNat = l0.length % 16 from by omega]; rfl)) ?_; (with_reducible refine (impl_MulDo.calls t156 t157 t169 _ A27.out).mono ?_); rintro e w' ⟨rfl, ⟨nd, rfl⟩⟩; refine ⟨_, rfl, ?_⟩) | ((with_reducible refine gate_callee (f := 21) rfl ?_); refine goesL_ (some 71) rfl rfl Try.func21 (by kernel_rfl) rfl #[.int .i64 t156, .int .i64 t158] rfl (by (try simp only [List.map_toArray, List.map_cons, List.map_nil]); first | done | rfl | (simp only [List.length_drop, List.length_take]; rfl) | (rw [show ((l0.length : Int) % 16).toNat = l0.length % 16 from by omega]; rfl)) ?_; (with_reducible refine (impl_MulDo.calls t156 t158 t170 _ A28.out).mono ?_); rintro e w' ⟨rfl, ⟨nd, rfl⟩⟩; refine ⟨_, rfl, ?_⟩) | ((with_reducible refine gate_callee (f := 32) rfl ?_); refine goesL_ (some 72) rfl rfl Try.func32 (by kernel_rfl) rfl #[.int .i64 0, .int .i64 t169, .int .i64 t170] rfl (by (try simp only [List.map_toArray, List.map_cons, List.map_nil]); first | done | rfl | (simp only [List.length_drop, List.length_take]; rfl) | (rw [show ((l0.length : Int) % 16).toNat = l0.length % 16 from by omega]; rfl)) ?_; (with_reducible refine (impl_AluDo.calls kj10 0 t169 t170 t171 _ A29.out).mono ?_); rintro e w' ⟨rfl, ⟨nd, rfl⟩⟩; refine ⟨_, rfl, ?_⟩) | ((with_reducible refine gate_callee (f := 21) rfl ?_); refine goesL_ (some 76) rfl rfl Try.func21 (by kernel_rfl) rfl #[.int .i64 t157, .int .i64 t156] rfl (by (try simp only [List.map_toArray, List.map_cons, List.map_nil]); first | done | rfl | (simp only [List.length_drop, List.length_take]; rfl) | (rw [show ((l0.length : Int) % 16).toNat = l0.length % 16 from by omega]; rfl)) ?_; (with_reducible refine (impl_MulDo.calls t157 t156 t172 _ A30.out).mono ?_); rintro e w' ⟨rfl, ⟨nd, rfl⟩⟩; refine ⟨_, rfl, ?_⟩) | (go_at_call 21; (with_reducible refine (impl_MulDo.calls t156 1 t173 _ A32.out).mono ?_); rintro e w' ⟨rfl, ⟨nd, rfl⟩⟩) | (go_at_call 21; (with_reducible refine (impl_MulDo.calls t156 0 t174 _ A34.out).mono ?_); rintro e w' ⟨rfl, ⟨nd, rfl⟩⟩) | (go_at_call 32; (with_reducible refine (impl_AluDo.calls kj10 0 t157 t158 t175 _ A36.out).mono ?_); rintro e w' ⟨rfl, ⟨nd, rfl⟩⟩) | (go_at_call 21; (with_reducible refine (impl_MulDo.calls t156 t175 t176 _ A37.out).mono ?_); rintro e w' ⟨rfl, ⟨nd, rfl⟩⟩) | (go_at_call 21; (with_reducible refine (impl_MulDo.calls t156 (wrap64 (2 ^ ((l0.length : Int) % 16).toNat)) t177 _ A39.out).mono ?_); rintro e w' ⟨rfl, ⟨nd, rfl⟩⟩) | (go_at_call 32; (with_reducible refine (impl_AluDo.calls kj10 6 t156 ((l0.length : Int) % 16) t178 _ A40.out).mono ?_); rintro e w' ⟨rfl, ⟨nd, rfl⟩⟩) | (go_at_call 21; refine (impl_MulDo.calls t156 (wrap64 (2 ^ (l0.length % 16))) t177 _ (by have q_ := A39.out; rwa [show ((l0.length : Int) % 16).toNat = l0.length % 16 from by omega] at q_)).mono ?_; rintro e w' ⟨rfl, ⟨nd, rfl⟩⟩))
                           go_ret
                           exact ⟨by first | rfl | (simp [errW_none, errW_some] <;> rfl) | (simp [*, errW_none, errW_some] <;> rfl), by repeat (first | (with_reducible first | exact HB.out | apply below_alloc | apply pw_below_drewN | apply below_drew1) | exact HB.out)⟩)
                      · rw [if_neg c38] at H
                        have c38b0 : (t176 == t171) = false := beq_eq_false_iff_ne.mpr c38
                        have c38b1 : (t176 != t171) = true := bne_iff_ne.mpr c38
                        obtain rfl := Option.some.inj H
                        first
                        | (exact absurd HR_.out (by decide))
                        | (go_wp2_with (first | ((with_reducible refine gate_callee (f := 21) rfl ?_); refine goesL_ (some 68) rfl rfl Try.func21 (by kernel_rfl) rfl #[.int .i64 t156, .int .i64 t157] rfl (by (try simp only [List.map_toArray, List.map_cons, List.map_nil]); first | done | rfl | (simp only [List.length_drop, List.length_take]; rfl) | (rw [show ((l0.length : Int) % 16).toNat = l0.length % 16 from by omega]; rfl)) ?_; (with_reducible refine (impl_MulDo.calls t156 t157 t169 _ A27.out).mono ?_); rintro e w' ⟨rfl, ⟨nd, rfl⟩⟩; refine ⟨_, rfl, ?_⟩) | ((with_reducible refine gate_callee (f := 21) rfl ?_); refine goesL_ (some 71) rfl rfl Try.func21 (by kernel_rfl) rfl #[.int .i64 t156, .int .i64 t158] rfl (by (try simp only [List.map_toArray, List.map_cons, List.map_nil]); first | done | rfl | (simp only [List.length_drop, List.length_take]; rfl) | (rw [show ((l0.length : Int) % 16).toNat = l0.length % 16 from by omega]; rfl)) ?_; (with_reducible refine (impl_MulDo.calls t156 t158 t170 _ A28.out).mono ?_); rintro e w' ⟨rfl, ⟨nd, rfl⟩⟩; refine ⟨_, rfl, ?_⟩) | ((with_reducible refine gate_callee (f := 32) rfl ?_); refine goesL_ (some 72) rfl rfl Try.func32 (by kernel_rfl) rfl #[.int .i64 0, .int .i64 t169, .int .i64 t170] rfl (by (try simp only [List.map_toArray, List.map_cons, List.map_nil]); first | done | rfl | (simp only [List.length_drop, List.length_take]; rfl) | (rw [show ((l0.length : Int) % 16).toNat = l0.length % 16 from by omega]; rfl)) ?_; (with_reducible refine (impl_AluDo.calls kj10 0 t169 t170 t171 _ A29.out).mono ?_); rintro e w' ⟨rfl, ⟨nd, rfl⟩⟩; refine ⟨_, rfl, ?_⟩) | ((with_reducible refine gate_callee (f := 21) rfl ?_); refine goesL_ (some 76) rfl rfl Try.func21 (by kernel_rfl) rfl #[.int .i64 t157, .int .i64 t156] rfl (by (try simp only [List.map_toArray, List.map_cons, List.map_nil]); first | done | rfl | (simp only [List.length_drop, List.length_take]; rfl) | (rw [show ((l0.length : Int) % 16).toNat = l0.length % 16 from by omega]; rfl)) ?_; (with_reducible refine (impl_MulDo.calls t157 t156 t172 _ A30.out).mono ?_); rintro e w' ⟨rfl, ⟨nd, rfl⟩⟩; refine ⟨_, rfl, ?_⟩) | (go_at_call 21; (with_reducible refine (impl_MulDo.calls t156 1 t173 _ A32.out).mono ?_); rintro e w' ⟨rfl, ⟨nd, rfl⟩⟩) | (go_at_call 21; (with_reducible refine (impl_MulDo.calls t156 0 t174 _ A34.out).mono ?_); rintro e w' ⟨rfl, ⟨nd, rfl⟩⟩) | (go_at_call 32; (with_reducible refine (impl_AluDo.calls kj10 0 t157 t158 t175 _ A36.out).mono ?_); rintro e w' ⟨rfl, ⟨nd, rfl⟩⟩) | (go_at_call 21; (with_reducible refine (impl_MulDo.calls t156 t175 t176 _ A37.out).mono ?_); rintro e w' ⟨rfl, ⟨nd, rfl⟩⟩))
                           go_ret
                           exact ⟨by first | rfl | (simp [errW_none, errW_some] <;> rfl) | (simp [*, errW_none, errW_some] <;> rfl), by repeat (first | (with_reducible first | exact HB.out | apply below_alloc | apply pw_below_drewN | apply below_drew1) | exact HB.out)⟩)
                    · rw [if_neg c35] at H
                      have c35b0 : (t174 == 0) = false := beq_eq_false_iff_ne.mpr c35
                      have c35b1 : (t174 != 0) = true := bne_iff_ne.mpr c35
                      obtain rfl := Option.some.inj H
                      first
                      | (exact absurd HR_.out (by decide))
                      | (go_wp2_with (first | ((with_reducible refine gate_callee (f := 21) rfl ?_); refine goesL_ (some 68) rfl rfl Try.func21 (by kernel_rfl) rfl #[.int .i64 t156, .int .i64 t157] rfl (by (try simp only [List.map_toArray, List.map_cons, List.map_nil]); first | done | rfl | (simp only [List.length_drop, List.length_take]; rfl) | (rw [show ((l0.length : Int) % 16).toNat = l0.length % 16 from by omega]; rfl)) ?_; (with_reducible refine (impl_MulDo.calls t156 t157 t169 _ A27.out).mono ?_); rintro e w' ⟨rfl, ⟨nd, rfl⟩⟩; refine ⟨_, rfl, ?_⟩) | ((with_reducible refine gate_callee (f := 21) rfl ?_); refine goesL_ (some 71) rfl rfl Try.func21 (by kernel_rfl) rfl #[.int .i64 t156, .int .i64 t158] rfl (by (try simp only [List.map_toArray, List.map_cons, List.map_nil]); first | done | rfl | (simp only [List.length_drop, List.length_take]; rfl) | (rw [show ((l0.length : Int) % 16).toNat = l0.length % 16 from by omega]; rfl)) ?_; (with_reducible refine (impl_MulDo.calls t156 t158 t170 _ A28.out).mono ?_); rintro e w' ⟨rfl, ⟨nd, rfl⟩⟩; refine ⟨_, rfl, ?_⟩) | ((with_reducible refine gate_callee (f := 32) rfl ?_); refine goesL_ (some 72) rfl rfl Try.func32 (by kernel_rfl) rfl #[.int .i64 0, .int .i64 t169, .int .i64 t170] rfl (by (try simp only [List.map_toArray, List.map_cons, List.map_nil]); first | done | rfl | (simp only [List.length_drop, List.length_take]; rfl) | (rw [show ((l0.length : Int) % 16).toNat = l0.length % 16 from by omega]; rfl)) ?_; (with_reducible refine (impl_AluDo.calls kj10 0 t169 t170 t171 _ A29.out).mono ?_); rintro e w' ⟨rfl, ⟨nd, rfl⟩⟩; refine ⟨_, rfl, ?_⟩) | ((with_reducible refine gate_callee (f := 21) rfl ?_); refine goesL_ (some 76) rfl rfl Try.func21 (by kernel_rfl) rfl #[.int .i64 t157, .int .i64 t156] rfl (by (try simp only [List.map_toArray, List.map_cons, List.map_nil]); first | done | rfl | (simp only [List.length_drop, List.length_take]; rfl) | (rw [show ((l0.length : Int) % 16).toNat = l0.length % 16 from by omega]; rfl)) ?_; (with_reducible refine (impl_MulDo.calls t157 t156 t172 _ A30.out).mono ?_); rintro e w' ⟨rfl, ⟨nd, rfl⟩⟩; refine ⟨_, rfl, ?_⟩) | (go_at_call 21; (with_reducible refine (impl_MulDo.calls t156 1 t173 _ A32.out).mono ?_); rintro e w' ⟨rfl, ⟨nd, rfl⟩⟩) | (go_at_call 21; (with_reducible refine (impl_MulDo.calls t156 0 t174 _ A34.out).mono ?_); rintro e w' ⟨rfl, ⟨nd, rfl⟩⟩))
                         go_ret
                         exact ⟨by first | rfl | (simp [errW_none, errW_some] <;> rfl) | (simp [*, errW_none, errW_some] <;> rfl), by repeat (first | (with_reducible first | exact HB.out | apply below_alloc | apply pw_below_drewN | apply below_drew1) | exact HB.out)⟩)
                  · rw [if_neg c33] at H
                    have c33b0 : (t173 == t156) = false := beq_eq_false_iff_ne.mpr c33
                    have c33b1 : (t173 != t156) = true := bne_iff_ne.mpr c33
                    obtain rfl := Option.some.inj H
                    first
                    | (exact absurd HR_.out (by decide))
                    | (go_wp2_with (first | ((with_reducible refine gate_callee (f := 21) rfl ?_); refine goesL_ (some 68) rfl rfl Try.func21 (by kernel_rfl) rfl #[.int .i64 t156, .int .i64 t157] rfl (by (try simp only [List.map_toArray, List.map_cons, List.map_nil]); first | done | rfl | (simp only [List.length_drop, List.length_take]; rfl) | (rw [show ((l0.length : Int) % 16).toNat = l0.length % 16 from by omega]; rfl)) ?_; (with_reducible refine (impl_MulDo.calls t156 t157 t169 _ A27.out).mono ?_); rintro e w' ⟨rfl, ⟨nd, rfl⟩⟩; refine ⟨_, rfl, ?_⟩) | ((with_reducible refine gate_callee (f := 21) rfl ?_); refine goesL_ (some 71) rfl rfl Try.func21 (by kernel_rfl) rfl #[.int .i64 t156, .int .i64 t158] rfl (by (try simp only [List.map_toArray, List.map_cons, List.map_nil]); first | done | rfl | (simp only [List.length_drop, List.length_take]; rfl) | (rw [show ((l0.length : Int) % 16).toNat = l0.length % 16 from by omega]; rfl)) ?_; (with_reducible refine (impl_MulDo.calls t156 t158 t170 _ A28.out).mono ?_); rintro e w' ⟨rfl, ⟨nd, rfl⟩⟩; refine ⟨_, rfl, ?_⟩) | ((with_reducible refine gate_callee (f := 32) rfl ?_); refine goesL_ (some 72) rfl rfl Try.func32 (by kernel_rfl) rfl #[.int .i64 0, .int .i64 t169, .int .i64 t170] rfl (by (try simp only [List.map_toArray, List.map_cons, List.map_nil]); first | done | rfl | (simp only [List.length_drop, List.length_take]; rfl) | (rw [show ((l0.length : Int) % 16).toNat = l0.length % 16 from by omega]; rfl)) ?_; (with_reducible refine (impl_AluDo.calls kj10 0 t169 t170 t171 _ A29.out).mono ?_); rintro e w' ⟨rfl, ⟨nd, rfl⟩⟩; refine ⟨_, rfl, ?_⟩) | ((with_reducible refine gate_callee (f := 21) rfl ?_); refine goesL_ (some 76) rfl rfl Try.func21 (by kernel_rfl) rfl #[.int .i64 t157, .int .i64 t156] rfl (by (try simp only [List.map_toArray, List.map_cons, List.map_nil]); first | done | rfl | (simp only [List.length_drop, List.length_take]; rfl) | (rw [show ((l0.length : Int) % 16).toNat = l0.length % 16 from by omega]; rfl)) ?_; (with_reducible refine (impl_MulDo.calls t157 t156 t172 _ A30.out).mono ?_); rintro e w' ⟨rfl, ⟨nd, rfl⟩⟩; refine ⟨_, rfl, ?_⟩) | (go_at_call 21; (with_reducible refine (impl_MulDo.calls t156 1 t173 _ A32.out).mono ?_); rintro e w' ⟨rfl, ⟨nd, rfl⟩⟩))
                       go_ret
                       exact ⟨by first | rfl | (simp [errW_none, errW_some] <;> rfl) | (simp [*, errW_none, errW_some] <;> rfl), by repeat (first | (with_reducible first | exact HB.out | apply below_alloc | apply pw_below_drewN | apply below_drew1) | exact HB.out)⟩)
                · rw [if_neg c31] at H
                  have c31b0 : (t160 == t172) = false := beq_eq_false_iff_ne.mpr c31
                  have c31b1 : (t160 != t172) = true := bne_iff_ne.mpr c31
                  obtain rfl := Option.some.inj H
                  first
                  | (exact absurd HR_.out (by decide))
                  | (go_wp2_with (first | ((with_reducible refine gate_callee (f := 21) rfl ?_); refine goesL_ (some 68) rfl rfl Try.func21 (by kernel_rfl) rfl #[.int .i64 t156, .int .i64 t157] rfl (by (try simp only [List.map_toArray, List.map_cons, List.map_nil]); first | done | rfl | (simp only [List.length_drop, List.length_take]; rfl) | (rw [show ((l0.length : Int) % 16).toNat = l0.length % 16 from by omega]; rfl)) ?_; (with_reducible refine (impl_MulDo.calls t156 t157 t169 _ A27.out).mono ?_); rintro e w' ⟨rfl, ⟨nd, rfl⟩⟩; refine ⟨_, rfl, ?_⟩) | ((with_reducible refine gate_callee (f := 21) rfl ?_); refine goesL_ (some 71) rfl rfl Try.func21 (by kernel_rfl) rfl #[.int .i64 t156, .int .i64 t158] rfl (by (try simp only [List.map_toArray, List.map_cons, List.map_nil]); first | done | rfl | (simp only [List.length_drop, List.length_take]; rfl) | (rw [show ((l0.length : Int) % 16).toNat = l0.length % 16 from by omega]; rfl)) ?_; (with_reducible refine (impl_MulDo.calls t156 t158 t170 _ A28.out).mono ?_); rintro e w' ⟨rfl, ⟨nd, rfl⟩⟩; refine ⟨_, rfl, ?_⟩) | ((with_reducible refine gate_callee (f := 32) rfl ?_); refine goesL_ (some 72) rfl rfl Try.func32 (by kernel_rfl) rfl #[.int .i64 0, .int .i64 t169, .int .i64 t170] rfl (by (try simp only [List.map_toArray, List.map_cons, List.map_nil]); first | done | rfl | (simp only [List.length_drop, List.length_take]; rfl) | (rw [show ((l0.length : Int) % 16).toNat = l0.length % 16 from by omega]; rfl)) ?_; (with_reducible refine (impl_AluDo.calls kj10 0 t169 t170 t171 _ A29.out).mono ?_); rintro e w' ⟨rfl, ⟨nd, rfl⟩⟩; refine ⟨_, rfl, ?_⟩) | ((with_reducible refine gate_callee (f := 21) rfl ?_); refine goesL_ (some 76) rfl rfl Try.func21 (by kernel_rfl) rfl #[.int .i64 t157, .int .i64 t156] rfl (by (try simp only [List.map_toArray, List.map_cons, List.map_nil]); first | done | rfl | (simp only [List.length_drop, List.length_take]; rfl) | (rw [show ((l0.length : Int) % 16).toNat = l0.length % 16 from by omega]; rfl)) ?_; (with_reducible refine (impl_MulDo.calls t157 t156 t172 _ A30.out).mono ?_); rintro e w' ⟨rfl, ⟨nd, rfl⟩⟩; refine ⟨_, rfl, ?_⟩))
                     go_ret
                     exact ⟨by first | rfl | (simp [errW_none, errW_some] <;> rfl) | (simp [*, errW_none, errW_some] <;> rfl), by repeat (first | (with_reducible first | exact HB.out | apply below_alloc | apply pw_below_drewN | apply below_drew1) | exact HB.out)⟩)
        · rw [if_neg c10] at H
          have c10b0 : (t160 == t161) = false := beq_eq_false_iff_ne.mpr c10
          have c10b1 : (t160 != t161) = true := bne_iff_ne.mpr c10
          obtain rfl := Option.some.inj H
          first
          | (exact absurd HR_.out (by decide))
          | (go_wp2_with (first | ((with_reducible refine gate_callee (f := 33) rfl ?_); refine goesL_ (some 22) rfl rfl Try.func33 (by kernel_rfl) rfl #[.slice A0 l0.length c0] rfl (by (try simp only [List.map_toArray, List.map_cons, List.map_nil]); first | done | rfl | (simp only [List.length_drop, List.length_take]; rfl) | (rw [show ((l0.length : Int) % 16).toNat = l0.length % 16 from by omega]; rfl)) ?_; (with_reducible refine (spec_DrawMulDo.calls kj2 _ _ l0 t156 t157 _ ?side1 ?side2 A6.out).mono ?_); (case side1 => repeat (first | exact (Kd.C_below HR0.out HB.out) | (with_reducible refine Kd.C_alloc ?_ _) | (with_reducible refine Kd.C_drewN ?_ _) | (with_reducible refine Kd.C_drew ?_))); (case side2 => exact HC0.out); rintro e w41 ⟨rfl, hb⟩; refine ⟨_, rfl, ?_⟩; have n0_ := Aside0.mk (below_step (by repeat (first | (with_reducible first | exact HB.out | apply below_alloc | apply pw_below_drewN | apply below_drew1) | exact HB.out)) hb); clear HB; have HB := n0_; clear n0_; (try clear hb); (try clear hb2); (try clear hk); (try clear hi)) | ((with_reducible refine gate_callee (f := 33) rfl ?_); refine goesL_ (some 27) rfl rfl Try.func33 (by kernel_rfl) rfl #[.slice A1 l1.length c1] rfl (by (try simp only [List.map_toArray, List.map_cons, List.map_nil]); first | done | rfl | (simp only [List.length_drop, List.length_take]; rfl) | (rw [show ((l0.length : Int) % 16).toNat = l0.length % 16 from by omega]; rfl)) ?_; (with_reducible refine (spec_DrawMulDo.calls kj2 _ _ l1 t158 t159 _ ?side1 ?side2 A7.out).mono ?_); (case side1 => repeat (first | exact (Kd.C_below HR1.out HB.out) | (with_reducible refine Kd.C_alloc ?_ _) | (with_reducible refine Kd.C_drewN ?_ _) | (with_reducible refine Kd.C_drew ?_))); (case side2 => exact HC1.out); rintro e w42 ⟨rfl, hb⟩; refine ⟨_, rfl, ?_⟩; have n0_ := Aside0.mk (below_step (by repeat (first | (with_reducible first | exact HB.out | apply below_alloc | apply pw_below_drewN | apply below_drew1) | exact HB.out)) hb); clear HB; have HB := n0_; clear n0_; (try clear hb); (try clear hb2); (try clear hk); (try clear hi)) | ((with_reducible refine gate_callee (f := 21) rfl ?_); refine goesL_ (some 32) rfl rfl Try.func21 (by kernel_rfl) rfl #[.int .i64 t156, .int .i64 t157] rfl (by (try simp only [List.map_toArray, List.map_cons, List.map_nil]); first | done | rfl | (simp only [List.length_drop, List.length_take]; rfl) | (rw [show ((l0.length : Int) % 16).toNat = l0.length % 16 from by omega]; rfl)) ?_; (with_reducible refine (impl_MulDo.calls t156 t157 t160 _ A8.out).mono ?_); rintro e w' ⟨rfl, ⟨nd, rfl⟩⟩; refine ⟨_, rfl, ?_⟩) | ((with_reducible refine gate_callee (f := 20) rfl ?_); refine goesL_ (some 36) rfl rfl Try.func20 (by kernel_rfl) rfl #[.int .i64 t156, .int .i64 t157] rfl (by (try simp only [List.map_toArray, List.map_cons, List.map_nil]); first | done | rfl | (simp only [List.length_drop, List.length_take]; rfl) | (rw [show ((l0.length : Int) % 16).toNat = l0.length % 16 from by omega]; rfl)) ?_; (with_reducible refine (spec_MulDo.calls t156 t157 t161 _ A9.out).mono ?_); rintro e w' ⟨rfl, ⟨nd, rfl⟩⟩; refine ⟨_, rfl, ?_⟩))
             go_ret
             exact ⟨by first | rfl | (simp [errW_none, errW_some] <;> rfl) | (simp [*, errW_none, errW_some] <;> rfl), by repeat (first | (with_reducible first | exact HB.out | apply below_alloc | apply pw_below_drewN | apply below_drew1) | exact HB.out)⟩)
/-- THE ONE PURE STATEMENT of laws_FnMulDo: yours. -/
def laws_FnMulDo.Pure : Prop := ∀ (l0 : List Int) (l1 : List Int), l0.length ≤ maxLen → l0.length * 1 ≤ 140737488351232 → (∀ x ∈ l0, (Lit.int .u8 x).wf = true) → l1.length ≤ maxLen → l1.length * 1 ≤ 140737488351232 → (∀ x ∈ l1, (Lit.int .u8 x).wf = true) → ∃ k, laws_FnMulDo.f k l0 l1 = some true
theorem laws_FnMulDo.walk (P : laws_FnMulDo.Pure) (a0 : Option Addr) (len0 cap0 : Nat) (z0 : List Int) (a1 : Option Addr) (len1 cap1 : Nat) (z1 : List Int) (w : World) (w0 : (a0 = none ∧ len0 = 0 ∧ cap0 = 0 ∧ z0 = []) ∨ ∃ x, a0 = some x ∧ len0 ≤ cap0 ∧ cap0 ≤ maxLen ∧ z0.length = cap0 ∧ (∀ i, i < z0.length → w.cell? (x.add i) = some (.int .u8 (z0.getD i 0))) ∧ ∀ n ∈ z0, (Lit.int .u8 n).wf = true) (y0 : len0 * 1 ≤ 140737488351232) (w1 : (a1 = none ∧ len1 = 0 ∧ cap1 = 0 ∧ z1 = []) ∨ ∃ x, a1 = some x ∧ len1 ≤ cap1 ∧ cap1 ≤ maxLen ∧ z1.length = cap1 ∧ (∀ i, i < z1.length → w.cell? (x.add i) = some (.int .u8 (z1.getD i 0))) ∧ ∀ n ∈ z1, (Lit.int .u8 n).wf = true) (y1 : len1 * 1 ≤ 140737488351232) :
    Calls Try.prog 12 #[.slice a0 len0 cap0, .slice a1 len1 cap1] w fun e w' => e = .returned (.bool true) ∧ Below w.heap.size w w' := by
  obtain ⟨l0, rfl, hr0, hm0, hw0, hc0⟩ := ReadsInt.ofRowC w0
  obtain ⟨l1, rfl, hr1, hm1, hw1, hc1⟩ := ReadsInt.ofRowC w1
  obtain ⟨k, h⟩ := P l0 l1 hm0 y0 hw0 hm1 y1 hw1
  refine (laws_FnMulDo.calls k _ _ l0 _ _ l1 true w (Kd.C_of_reads (d := (0 : Int)) (h1 := fun _ => rfl) hr0) hc0 (Kd.C_of_reads (d := (0 : Int)) (h1 := fun _ => rfl) hr1) hc1 h rfl).mono ?_
  rintro e w' ⟨rfl, hd⟩
  exact ⟨rfl, hd⟩

end Go.Proofs.Ytekaogbnpncpaaa.PFnMulDo
