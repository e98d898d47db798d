/- Walks of spec_l20Rd_odd, spec_l2Has, spec_l2Reg, spec_l2Num, spec_CodOk: each returns what its Lean function says, for all arguments that read as stated. -/
import Derived.Test.YtdpgomcdacmhkaaQFnInOkx1
namespace Go.Proofs.Ytdpgomcdacmhkaa.QFnInOk
open Go.RowKit Go.Proofs.YtdpgomcdacmhkaaW.PrintWords Go.Proofs.YtdpgomcdacmhkaaW.PrintLast Go.Proofs.YtdpgomcdacmhkaaW.PrintMore
attribute [local go_sem] max2_int min2_int max_two min_two max_three min_three max_four min_four   -- for this text's walks alone
set_option linter.unusedVariables false
set_option linter.unusedSimpArgs false

/-! ### spec_l20Rd_odd: function 44 -/
section
open Go.Proofs.YtdpgomcdacmhkaaW.PrintWords renaming below_set → wS_, pw_below_drewN → wN_, keep_drewN → kN_, keep_alloc → kA_, keep_drew → kD_, below_alloc → wA_, below_drew1 → wD_
open Go.Proofs.YtdpgomcdacmhkaaW.PrintWords.Aside0 renaming mk → A_
open Go.Proofs.YtdpgomcdacmhkaaW.PrintWords.KeepBut renaming set_ → kS_, trans → kT_
open Go.Proofs.Ytdpgomcdacmhkaa.QFnInOk.IsS69 renaming alloc → iA_, drewN → iN_, drew → iD_, set_1 → iS_
def spec_l20Rd_odd.f (k : Nat) (s0_0 : List Int) (s0_1 : Int) (a1 : Int) : Option (Bool × Int) := if a1 > 0 then ((spec_l20Rd_pick.f k s0_0 s0_1 a1).bind fun bt120 => (some ((bt120.1 == (wrap64 (a1 - 1))), bt120.2))) else (some (false, s0_1))
theorem spec_l20Rd_odd.mono : ∀ a0 a1 a2 k, LeO (spec_l20Rd_odd.f k a0 a1 a2) (spec_l20Rd_odd.f (k + 1) a0 a1 a2) := by
 intro a0 a1 a2 k
 unfold spec_l20Rd_odd.f
 repeat' first
   | (with_reducible exact spec_l20Rd_pick.mono _ _ _ _)
   | (with_reducible exact LeO.refl _)
   | (with_reducible exact LeO.none _)
   | (with_reducible refine LeO.ite ?_ ?_)
   | (with_reducible refine LeO.bind ?_ (fun _ => ?_))
   | exact spec_l20Rd_pick.mono _ _ _ _
   | exact LeO.none _
   | refine LeO.ite ?_ ?_
   | refine LeO.bind ?_ (fun _ => ?_)
set_option maxHeartbeats 8000000 in
set_option maxRecDepth 100000 in
theorem spec_l20Rd_odd.calls (k : Nat) (g : Nat) (s0_0 : List Int) (s0_1 : Int) (a1 : Int) (r1 : Bool) (r2 : Int) (w0 w : World) (hI : IsS69 w0 w g s0_0 s0_1) (hB : Below w0.heap.size w0 w) (h : spec_l20Rd_odd.f k s0_0 s0_1 a1 = some (r1, r2)) :
  Calls Try.prog 44 #[.pointer (some ⟨g, 0, none⟩), .int .i64 a1] w fun e w' => e = .returned (.bool r1) ∧ IsS69 w0 w' g s0_0 r2 ∧ Below w0.heap.size w0 w' ∧ KeepBut w w' g none := by
 have HI0 := A_ hI
 have HK := A_ (KeepBut.refl w g none)
 have HL := A_ hB.size
 clear hI
 have HW0 := A_ hB.size
 have HB := A_ hB
 clear hB
 have H : (if a1 > 0 then ((spec_l20Rd_pick.f k s0_0 s0_1 a1).bind fun bt120 => (some ((bt120.1 == (wrap64 (a1 - 1))), bt120.2))) else (some (false, s0_1))) = some (r1, r2) := h
 clear h
 by_cases c3 : a1 > 0
 ·rw [if_pos c3] at H
  have c3b0 : decide (0 < a1) = true := decide_eq_true c3
  clear c3
  replace H := Option.bind_eq_some_iff.mp H
  obtain ⟨⟨t120, t121⟩, A40, H⟩ := H
  replace H : (some ((t120 == (wrap64 (a1 - 1))), t121)) = some (r1, r2) := H
  have A4 := A_ A40
  clear A40
  simp only [Option.some.injEq, Prod.mk.injEq] at H
  obtain ⟨rfl, rfl⟩ := H
  go_enter Try.func44, Try.ntmps44
  go_wp2_with (first | (go_at_call 45; (with_reducible refine (spec_l20Rd_pick.calls k g s0_0 s0_1 a1 t120 t121 w0 _ ?side1 ?side2 A4.out).mono ?_); (case side1 => repeat (first | (with_reducible first | exact HI0.out | apply iA_ | apply iN_ | apply iD_ | apply iS_) | exact HI0.out)); (case side2 => repeat (first | (with_reducible first | exact HB.out | apply wA_ | apply wN_ | apply wD_ | refine wS_ ?_ (IsS69.ge HI0.out)) | exact HB.out)); rintro e w5 ⟨rfl, hi, hb, hk⟩; have n0_ := A_ (kT_ (by repeat (first | (with_reducible first | exact HK.out | apply kS_ | apply kN_ | apply kD_ | apply kA_) | exact HK.out)) hk (.inl rfl)); have n1_ := A_ (hb); have n2_ := A_ (hi); clear HK; clear HB; clear HI0; have HK := n0_; have HB := n1_; have HI0 := n2_; clear n0_ n1_ n2_; (try clear hb); (try clear hb2); (try clear hk); (try clear hi)))
  go_ret
  exact ⟨by first | rfl | (simp [errW_none, errW_some] <;> rfl) | (simp [*, errW_none, errW_some] <;> rfl), by repeat (first | (with_reducible first | exact HI0.out | apply iA_ | apply iN_ | apply iD_ | apply iS_) | exact HI0.out), by repeat (first | (with_reducible first | exact HB.out | apply wA_ | apply wN_ | apply wD_ | refine wS_ ?_ (IsS69.ge HI0.out)) | exact HB.out), by repeat (first | (with_reducible first | exact HK.out | apply kS_ | apply kN_ | apply kD_ | apply kA_) | exact HK.out)⟩
 ·rw [if_neg c3] at H
  have c3b0 : decide (0 < a1) = false := decide_eq_false c3
  clear c3
  simp only [Option.some.injEq, Prod.mk.injEq] at H
  obtain ⟨rfl, rfl⟩ := H
  go_enter Try.func44, Try.ntmps44
  go_wp2
  go_ret
  exact ⟨by first | rfl | (simp [errW_none, errW_some] <;> rfl) | (simp [*, errW_none, errW_some] <;> rfl), by repeat (first | (with_reducible first | exact HI0.out | apply iA_ | apply iN_ | apply iD_ | apply iS_) | exact HI0.out), by repeat (first | (with_reducible first | exact HB.out | apply wA_ | apply wN_ | apply wD_ | refine wS_ ?_ (IsS69.ge HI0.out)) | exact HB.out), by repeat (first | (with_reducible first | exact HK.out | apply kS_ | apply kN_ | apply kD_ | apply kA_) | exact HK.out)⟩
end

/-! ### spec_l2Has: function 71 -/
section
set_option hygiene false in
local macro "ya_" : tactic => `(tactic| (first | exact Drawn0.refl _ | apply Drawn0.step))
section
open Go.Proofs.YtdpgomcdacmhkaaW.PrintWords.Aside0 renaming mk → A_
mutual
def spec_l2Has.j0 : Nat → Int → Bool → Option (Bool × Bool × Bool × Bool × Int)
 | 0, _, _ => none
 | k + 1, x7, x10 => if x10 = true then (some (true, true, false, false, 6)) else (if x7 = 2 then (some (true, false, false, false, 9)) else (if x7 = 4 then (spec_l2Has.j1 k x7 (x7 == 4)) else (if x7 = 5 then (spec_l2Has.j1 k x7 (x7 == 5)) else (spec_l2Has.j1 k x7 (x7 == 6)))))
def spec_l2Has.j1 : Nat → Int → Bool → Option (Bool × Bool × Bool × Bool × Int)
 | 0, _, _ => none
 | k + 1, x7, x16 => if x16 = true then (some (false, true, true, false, 6)) else (if x7 = 7 then (some (true, false, false, false, 9)) else (if x7 = 9 then (spec_l2Has.j2 k x7 (x7 == 9)) else (spec_l2Has.j2 k x7 (x7 == 10))))
def spec_l2Has.j2 : Nat → Int → Bool → Option (Bool × Bool × Bool × Bool × Int)
 | 0, _, _ => none
 | k + 1, x7, x22 => if x22 = true then (some (true, true, true, false, 0)) else (if x7 = 12 then (some (false, false, false, false, 9)) else (if x7 = 14 then (some (true, false, false, true, 0)) else (if x7 = 15 then (some (false, true, false, true, 0)) else (some (false, false, false, false, 0)))))
end
def spec_l2Has.f (k : Nat) (a0 : Int) : Option (Bool × Bool × Bool × Bool × Int) := if a0 = 0 then (some (true, true, true, true, 0)) else (if a0 = 1 then (spec_l2Has.j0 k a0 (a0 == 1)) else (if a0 = 3 then (spec_l2Has.j0 k a0 (a0 == 3)) else (spec_l2Has.j0 k a0 (a0 == 8))))
theorem spec_l2Has.mono_l : ∀ k, (∀ y0 y1, LeO (spec_l2Has.j0 k y0 y1) (spec_l2Has.j0 (k + 1) y0 y1)) ∧ (∀ y0 y1, LeO (spec_l2Has.j1 k y0 y1) (spec_l2Has.j1 (k + 1) y0 y1)) ∧ (∀ y0 y1, LeO (spec_l2Has.j2 k y0 y1) (spec_l2Has.j2 (k + 1) y0 y1))
 | 0 => ⟨fun _ _ r h => by simp [spec_l2Has.j0] at h, fun _ _ r h => by simp [spec_l2Has.j1] at h, fun _ _ r h => by simp [spec_l2Has.j2] at h⟩
 | k + 1 => by
  obtain ⟨ih0, ih1, ih2⟩ := spec_l2Has.mono_l k
  refine ⟨?_, ?_, ?_⟩
  ·intro y0 y1
   unfold spec_l2Has.j0
   repeat' first
   | (with_reducible exact ih0 _ _)
   | (with_reducible exact ih1 _ _)
   | (with_reducible exact ih2 _ _)
   | (with_reducible exact LeO.refl _)
   | (with_reducible exact LeO.none _)
   | (with_reducible refine LeO.ite ?_ ?_)
   | (with_reducible refine LeO.bind ?_ (fun _ => ?_))
   | exact ih0 _ _
   | exact ih1 _ _
   | exact ih2 _ _
   | exact LeO.none _
   | refine LeO.ite ?_ ?_
   | refine LeO.bind ?_ (fun _ => ?_)
  ·intro y0 y1
   unfold spec_l2Has.j1
   repeat' first
   | (with_reducible exact ih0 _ _)
   | (with_reducible exact ih1 _ _)
   | (with_reducible exact ih2 _ _)
   | (with_reducible exact LeO.refl _)
   | (with_reducible exact LeO.none _)
   | (with_reducible refine LeO.ite ?_ ?_)
   | (with_reducible refine LeO.bind ?_ (fun _ => ?_))
   | exact ih0 _ _
   | exact ih1 _ _
   | exact ih2 _ _
   | exact LeO.none _
   | refine LeO.ite ?_ ?_
   | refine LeO.bind ?_ (fun _ => ?_)
  ·intro y0 y1
   unfold spec_l2Has.j2
   repeat' first
   | (with_reducible exact ih0 _ _)
   | (with_reducible exact ih1 _ _)
   | (with_reducible exact ih2 _ _)
   | (with_reducible exact LeO.refl _)
   | (with_reducible exact LeO.none _)
   | (with_reducible refine LeO.ite ?_ ?_)
   | (with_reducible refine LeO.bind ?_ (fun _ => ?_))
   | exact ih0 _ _
   | exact ih1 _ _
   | exact ih2 _ _
   | exact LeO.none _
   | refine LeO.ite ?_ ?_
   | refine LeO.bind ?_ (fun _ => ?_)
theorem spec_l2Has.mono : ∀ a0 k, LeO (spec_l2Has.f k a0) (spec_l2Has.f (k + 1) a0) := by
 intro a0 k
 obtain ⟨ih0, ih1, ih2⟩ := spec_l2Has.mono_l k
 unfold spec_l2Has.f
 repeat' first
   | (with_reducible exact ih0 _ _)
   | (with_reducible exact ih1 _ _)
   | (with_reducible exact ih2 _ _)
   | (with_reducible exact LeO.refl _)
   | (with_reducible exact LeO.none _)
   | (with_reducible refine LeO.ite ?_ ?_)
   | (with_reducible refine LeO.bind ?_ (fun _ => ?_))
   | exact ih0 _ _
   | exact ih1 _ _
   | exact ih2 _ _
   | exact LeO.none _
   | refine LeO.ite ?_ ?_
   | refine LeO.bind ?_ (fun _ => ?_)
set_option maxHeartbeats 8000000 in
set_option maxRecDepth 100000 in
theorem spec_l2Has.calls (k : Nat) (a0 : Int) (r1 : Bool) (r2 : Bool) (r3 : Bool) (r4 : Bool) (r5 : Int) (w : World) (h : spec_l2Has.f k a0 = some (r1, r2, r3, r4, r5)) :
  Calls Try.prog 71 #[.int .i64 a0] w fun e w' => e = .returned (.tuple #[.bool r1, .bool r2, .bool r3, .bool r4, .int .i64 r5]) ∧ Drawn0 w w' := by
 have H : (if a0 = 0 then (some (true, true, true, true, 0)) else (if a0 = 1 then (spec_l2Has.j0 k a0 (a0 == 1)) else (if a0 = 3 then (spec_l2Has.j0 k a0 (a0 == 3)) else (spec_l2Has.j0 k a0 (a0 == 8))))) = some (r1, r2, r3, r4, r5) := h
 clear h
 by_cases c2 : a0 = 0
 ·rw [if_pos c2] at H
  have c2b0 : (a0 == 0) = true := beq_iff_eq.mpr c2
  have c2b1 : (a0 != 0) = false := bne_eq_false_iff_eq.mpr c2
  clear c2
  simp only [Option.some.injEq, Prod.mk.injEq] at H
  obtain ⟨rfl, rfl, rfl, rfl, rfl⟩ := H
  go_enter Try.func71, Try.ntmps71
  go_wp2
  refine bodyPost_ret (results_list (rs := [.tmp 2, .tmp 3, .tmp 4, .tmp 5, .tmp 6]) rfl (by simp) (.tmp (.tmp (.tmp (.tmp (.tmp .nil)))))) rfl ?_
  exact ⟨by first | rfl | (simp; done) | (simp [*]; done), by repeat (ya_)⟩
 ·rw [if_neg c2] at H
  have c2b0 : (a0 == 0) = false := beq_eq_false_iff_ne.mpr c2
  have c2b1 : (a0 != 0) = true := bne_iff_ne.mpr c2
  have HC3 := A_ H
  clear H
  go_enter Try.func71, Try.ntmps71
  go_upto_if 10 with (fail)
  go_cut [10] (fun v10 wc => ∃ (kq : Nat) (z : Bool), v10 = .bool z ∧ Aside0 (spec_l2Has.j0 kq a0 z = some (r1, r2, r3, r4, r5)) ∧ Aside0 (kq ≤ k) ∧ Drawn0 w wc)
  case first =>
   have H := HC3.out
   clear HC3
   by_cases c4 : a0 = 1
   ·rw [if_pos c4] at H
    have c4b0 : (a0 == 1) = true := beq_iff_eq.mpr c4
    have c4b1 : (a0 != 1) = false := bne_eq_false_iff_eq.mpr c4
    clear c4
    (first | rw [c4b0] | (simp only [i64_w, i32_w]; rw [c4b0]) | skip)
    have H' := A_ H
    clear H
    go_wp2
    go_meet
    case rel => exact ⟨_, ((a0 == 1)), (by first | rfl | (simp; done) | (simp [*]; done)), H', ⟨by first | omega | exact Nat.le_refl _⟩, by repeat (ya_)⟩
   ·rw [if_neg c4] at H
    have c4b0 : (a0 == 1) = false := beq_eq_false_iff_ne.mpr c4
    have c4b1 : (a0 != 1) = true := bne_iff_ne.mpr c4
    (first | rw [c4b0] | (simp only [i64_w, i32_w]; rw [c4b0]) | skip)
    by_cases c5 : a0 = 3
    ·rw [if_pos c5] at H
     have c5b0 : (a0 == 3) = true := beq_iff_eq.mpr c5
     have c5b1 : (a0 != 3) = false := bne_eq_false_iff_eq.mpr c5
     clear c5
     have H' := A_ H
     clear H
     go_wp2
     go_meet
     case rel => exact ⟨_, ((a0 == 3)), (by first | rfl | (simp; done) | (simp [*]; done)), H', ⟨by first | omega | exact Nat.le_refl _⟩, by repeat (ya_)⟩
    ·rw [if_neg c5] at H
     have c5b0 : (a0 == 3) = false := beq_eq_false_iff_ne.mpr c5
     have c5b1 : (a0 != 3) = true := bne_iff_ne.mpr c5
     have H' := A_ H
     clear H
     go_wp2
     go_meet
     case rel => exact ⟨_, ((a0 == 8)), (by first | rfl | (simp; done) | (simp [*]; done)), H', ⟨by first | omega | exact Nat.le_refl _⟩, by repeat (ya_)⟩
  case rest =>
   clear HC3
   try clear c2
   try clear c2b0
   try clear c2b1
   try clear p2
   try clear c4
   try clear c4b0
   try clear c4b1
   try clear c5
   try clear c5b0
   try clear c5b1
   obtain ⟨kq, z, rfl, HA, HJ2, ⟨mc2, rfl⟩⟩ := hcut
   cases kq with
   | zero => exact absurd HA.out (by simp [spec_l2Has.j0])
   | succ kj2 =>
    have H := HA.out
    clear HA
    simp only [spec_l2Has.j0] at H
    by_cases c6 : z = true
    ·subst c6
     have H1 : (some (true, true, false, false, 6)) = some (r1, r2, r3, r4, r5) := by rw [if_pos rfl] at H; exact H
     clear H
     have H := H1
     clear H1
     simp only [Option.some.injEq, Prod.mk.injEq] at H
     obtain ⟨rfl, rfl, rfl, rfl, rfl⟩ := H
     go_wp2
     refine bodyPost_ret (results_list (rs := [.tmp 2, .tmp 3, .tmp 4, .tmp 5, .tmp 6]) rfl (by simp) (.tmp (.tmp (.tmp (.tmp (.tmp .nil)))))) rfl ?_
     exact ⟨by first | rfl | (simp; done) | (simp [*]; done), by repeat (ya_)⟩
    ·replace c6 := Bool.eq_false_iff.mpr c6
     subst c6
     have H1 : (if a0 = 2 then (some (true, false, false, false, 9)) else (if a0 = 4 then (spec_l2Has.j1 kj2 a0 (a0 == 4)) else (if a0 = 5 then (spec_l2Has.j1 kj2 a0 (a0 == 5)) else (spec_l2Has.j1 kj2 a0 (a0 == 6))))) = some (r1, r2, r3, r4, r5) := by rw [if_neg (show ¬ (false = true) by decide)] at H; exact H
     clear H
     have H := H1
     clear H1
     by_cases c7 : a0 = 2
     ·rw [if_pos c7] at H
      have c7b0 : (a0 == 2) = true := beq_iff_eq.mpr c7
      have c7b1 : (a0 != 2) = false := bne_eq_false_iff_eq.mpr c7
      clear c7
      simp only [Option.some.injEq, Prod.mk.injEq] at H
      obtain ⟨rfl, rfl, rfl, rfl, rfl⟩ := H
      go_wp2
      refine bodyPost_ret (results_list (rs := [.tmp 2, .tmp 3, .tmp 4, .tmp 5, .tmp 6]) rfl (by simp) (.tmp (.tmp (.tmp (.tmp (.tmp .nil)))))) rfl ?_
      exact ⟨by first | rfl | (simp; done) | (simp [*]; done), by repeat (ya_)⟩
     ·rw [if_neg c7] at H
      have c7b0 : (a0 == 2) = false := beq_eq_false_iff_ne.mpr c7
      have c7b1 : (a0 != 2) = true := bne_iff_ne.mpr c7
      have HC8 := A_ H
      clear H
      go_upto_if 16 with (fail)
      go_cut [16] (fun v16 wc => ∃ (kq : Nat) (z0 : Bool), v16 = .bool z0 ∧ Aside0 (spec_l2Has.j1 kq a0 z0 = some (r1, r2, r3, r4, r5)) ∧ Aside0 (kq ≤ kj2) ∧ Drawn0 w wc)
      case first =>
       have H := HC8.out
       clear HC8
       by_cases c9 : a0 = 4
       ·rw [if_pos c9] at H
        have c9b0 : (a0 == 4) = true := beq_iff_eq.mpr c9
        have c9b1 : (a0 != 4) = false := bne_eq_false_iff_eq.mpr c9
        clear c9
        (first | rw [c9b0] | (simp only [i64_w, i32_w]; rw [c9b0]) | skip)
        have H' := A_ H
        clear H
        go_wp2
        go_meet
        case rel => exact ⟨_, ((a0 == 4)), (by first | rfl | (simp; done) | (simp [*]; done)), H', ⟨by have := HJ2.out; first | omega | exact Nat.le_refl _⟩, by repeat (ya_)⟩
       ·rw [if_neg c9] at H
        have c9b0 : (a0 == 4) = false := beq_eq_false_iff_ne.mpr c9
        have c9b1 : (a0 != 4) = true := bne_iff_ne.mpr c9
        (first | rw [c9b0] | (simp only [i64_w, i32_w]; rw [c9b0]) | skip)
        by_cases c10 : a0 = 5
        ·rw [if_pos c10] at H
         have c10b0 : (a0 == 5) = true := beq_iff_eq.mpr c10
         have c10b1 : (a0 != 5) = false := bne_eq_false_iff_eq.mpr c10
         clear c10
         have H' := A_ H
         clear H
         go_wp2
         go_meet
         case rel => exact ⟨_, ((a0 == 5)), (by first | rfl | (simp; done) | (simp [*]; done)), H', ⟨by have := HJ2.out; first | omega | exact Nat.le_refl _⟩, by repeat (ya_)⟩
        ·rw [if_neg c10] at H
         have c10b0 : (a0 == 5) = false := beq_eq_false_iff_ne.mpr c10
         have c10b1 : (a0 != 5) = true := bne_iff_ne.mpr c10
         have H' := A_ H
         clear H
         go_wp2
         go_meet
         case rel => exact ⟨_, ((a0 == 6)), (by first | rfl | (simp; done) | (simp [*]; done)), H', ⟨by have := HJ2.out; first | omega | exact Nat.le_refl _⟩, by repeat (ya_)⟩
      case rest =>
       clear HC8
       try clear c1
       try clear c2
       try clear c2b0
       try clear c2b1
       try clear p2
       try clear c4
       try clear c4b0
       try clear c4b1
       try clear c5
       try clear c5b0
       try clear c5b1
       try clear c6
       try clear c7
       try clear c7b0
       try clear c7b1
       try clear c9
       try clear c9b0
       try clear c9b1
       try clear c10
       try clear c10b0
       try clear c10b1
       try clear p2
       obtain ⟨kq, z0, rfl, HA, HJ7, ⟨mc7, rfl⟩⟩ := hcut
       cases kq with
       | zero => exact absurd HA.out (by simp [spec_l2Has.j1])
       | succ kj7 =>
        have H := HA.out
        clear HA
        simp only [spec_l2Has.j1] at H
        by_cases c11 : z0 = true
        ·subst c11
         have H1 : (some (false, true, true, false, 6)) = some (r1, r2, r3, r4, r5) := by rw [if_pos rfl] at H; exact H
         clear H
         have H := H1
         clear H1
         simp only [Option.some.injEq, Prod.mk.injEq] at H
         obtain ⟨rfl, rfl, rfl, rfl, rfl⟩ := H
         go_wp2
         refine bodyPost_ret (results_list (rs := [.tmp 2, .tmp 3, .tmp 4, .tmp 5, .tmp 6]) rfl (by simp) (.tmp (.tmp (.tmp (.tmp (.tmp .nil)))))) rfl ?_
         exact ⟨by first | rfl | (simp; done) | (simp [*]; done), by repeat (ya_)⟩
        ·replace c11 := Bool.eq_false_iff.mpr c11
         subst c11
         have H1 : (if a0 = 7 then (some (true, false, false, false, 9)) else (if a0 = 9 then (spec_l2Has.j2 kj7 a0 (a0 == 9)) else (spec_l2Has.j2 kj7 a0 (a0 == 10)))) = some (r1, r2, r3, r4, r5) := by rw [if_neg (show ¬ (false = true) by decide)] at H; exact H
         clear H
         have H := H1
         clear H1
         by_cases c12 : a0 = 7
         ·rw [if_pos c12] at H
          have c12b0 : (a0 == 7) = true := beq_iff_eq.mpr c12
          have c12b1 : (a0 != 7) = false := bne_eq_false_iff_eq.mpr c12
          clear c12
          simp only [Option.some.injEq, Prod.mk.injEq] at H
          obtain ⟨rfl, rfl, rfl, rfl, rfl⟩ := H
          go_wp2
          refine bodyPost_ret (results_list (rs := [.tmp 2, .tmp 3, .tmp 4, .tmp 5, .tmp 6]) rfl (by simp) (.tmp (.tmp (.tmp (.tmp (.tmp .nil)))))) rfl ?_
          exact ⟨by first | rfl | (simp; done) | (simp [*]; done), by repeat (ya_)⟩
         ·rw [if_neg c12] at H
          have c12b0 : (a0 == 7) = false := beq_eq_false_iff_ne.mpr c12
          have c12b1 : (a0 != 7) = true := bne_iff_ne.mpr c12
          have HC13 := A_ H
          clear H
          go_upto_if 22 with (fail)
          go_cut [22] (fun v22 wc => ∃ (kq : Nat) (z1 : Bool), v22 = .bool z1 ∧ Aside0 (spec_l2Has.j2 kq a0 z1 = some (r1, r2, r3, r4, r5)) ∧ Aside0 (kq ≤ kj7) ∧ Drawn0 w wc)
          case first =>
           have H := HC13.out
           clear HC13
           by_cases c14 : a0 = 9
           ·rw [if_pos c14] at H
            have c14b0 : (a0 == 9) = true := beq_iff_eq.mpr c14
            have c14b1 : (a0 != 9) = false := bne_eq_false_iff_eq.mpr c14
            clear c14
            (first | rw [c14b0] | (simp only [i64_w, i32_w]; rw [c14b0]) | skip)
            have H' := A_ H
            clear H
            go_wp2
            go_meet
            case rel => exact ⟨_, ((a0 == 9)), (by first | rfl | (simp; done) | (simp [*]; done)), H', ⟨by have := HJ2.out; have := HJ7.out; first | omega | exact Nat.le_refl _⟩, by repeat (ya_)⟩
           ·rw [if_neg c14] at H
            have c14b0 : (a0 == 9) = false := beq_eq_false_iff_ne.mpr c14
            have c14b1 : (a0 != 9) = true := bne_iff_ne.mpr c14
            (first | rw [c14b0] | (simp only [i64_w, i32_w]; rw [c14b0]) | skip)
            have H' := A_ H
            clear H
            go_wp2
            go_meet
            case rel => exact ⟨_, ((a0 == 10)), (by first | rfl | (simp; done) | (simp [*]; done)), H', ⟨by have := HJ2.out; have := HJ7.out; first | omega | exact Nat.le_refl _⟩, by repeat (ya_)⟩
          case rest =>
           clear HC13
           try clear c1
           try clear c2
           try clear c2b0
           try clear c2b1
           try clear p2
           try clear c4
           try clear c4b0
           try clear c4b1
           try clear c5
           try clear c5b0
           try clear c5b1
           try clear c6
           try clear c7
           try clear c7b0
           try clear c7b1
           try clear c9
           try clear c9b0
           try clear c9b1
           try clear c10
           try clear c10b0
           try clear c10b1
           try clear c11
           try clear c12
           try clear c12b0
           try clear c12b1
           try clear c14
           try clear c14b0
           try clear c14b1
           try clear p2
           obtain ⟨kq, z1, rfl, HA, HJ12, ⟨mc12, rfl⟩⟩ := hcut
           cases kq with
           | zero => exact absurd HA.out (by simp [spec_l2Has.j2])
           | succ kj12 =>
            have H := HA.out
            clear HA
            simp only [spec_l2Has.j2] at H
            by_cases c15 : z1 = true
            ·subst c15
             have H1 : (some (true, true, true, false, 0)) = some (r1, r2, r3, r4, r5) := by rw [if_pos rfl] at H; exact H
             clear H
             have H := H1
             clear H1
             simp only [Option.some.injEq, Prod.mk.injEq] at H
             obtain ⟨rfl, rfl, rfl, rfl, rfl⟩ := H
             go_wp2
             refine bodyPost_ret (results_list (rs := [.tmp 2, .tmp 3, .tmp 4, .tmp 5, .tmp 6]) rfl (by simp) (.tmp (.tmp (.tmp (.tmp (.tmp .nil)))))) rfl ?_
             exact ⟨by first | rfl | (simp; done) | (simp [*]; done), by repeat (ya_)⟩
            ·replace c15 := Bool.eq_false_iff.mpr c15
             subst c15
             have H1 : (if a0 = 12 then (some (false, false, false, false, 9)) else (if a0 = 14 then (some (true, false, false, true, 0)) else (if a0 = 15 then (some (false, true, false, true, 0)) else (some (false, false, false, false, 0))))) = some (r1, r2, r3, r4, r5) := by rw [if_neg (show ¬ (false = true) by decide)] at H; exact H
             clear H
             have H := H1
             clear H1
             by_cases c16 : a0 = 12
             ·rw [if_pos c16] at H
              have c16b0 : (a0 == 12) = true := beq_iff_eq.mpr c16
              have c16b1 : (a0 != 12) = false := bne_eq_false_iff_eq.mpr c16
              clear c16
              simp only [Option.some.injEq, Prod.mk.injEq] at H
              obtain ⟨rfl, rfl, rfl, rfl, rfl⟩ := H
              go_wp2
              refine bodyPost_ret (results_list (rs := [.tmp 2, .tmp 3, .tmp 4, .tmp 5, .tmp 6]) rfl (by simp) (.tmp (.tmp (.tmp (.tmp (.tmp .nil)))))) rfl ?_
              exact ⟨by first | rfl | (simp; done) | (simp [*]; done), by repeat (ya_)⟩
             ·rw [if_neg c16] at H
              have c16b0 : (a0 == 12) = false := beq_eq_false_iff_ne.mpr c16
              have c16b1 : (a0 != 12) = true := bne_iff_ne.mpr c16
              by_cases c17 : a0 = 14
              ·rw [if_pos c17] at H
               have c17b0 : (a0 == 14) = true := beq_iff_eq.mpr c17
               have c17b1 : (a0 != 14) = false := bne_eq_false_iff_eq.mpr c17
               clear c17
               simp only [Option.some.injEq, Prod.mk.injEq] at H
               obtain ⟨rfl, rfl, rfl, rfl, rfl⟩ := H
               go_wp2
               refine bodyPost_ret (results_list (rs := [.tmp 2, .tmp 3, .tmp 4, .tmp 5, .tmp 6]) rfl (by simp) (.tmp (.tmp (.tmp (.tmp (.tmp .nil)))))) rfl ?_
               exact ⟨by first | rfl | (simp; done) | (simp [*]; done), by repeat (ya_)⟩
              ·rw [if_neg c17] at H
               have c17b0 : (a0 == 14) = false := beq_eq_false_iff_ne.mpr c17
               have c17b1 : (a0 != 14) = true := bne_iff_ne.mpr c17
               by_cases c18 : a0 = 15
               ·rw [if_pos c18] at H
                have c18b0 : (a0 == 15) = true := beq_iff_eq.mpr c18
                have c18b1 : (a0 != 15) = false := bne_eq_false_iff_eq.mpr c18
                clear c18
                simp only [Option.some.injEq, Prod.mk.injEq] at H
                obtain ⟨rfl, rfl, rfl, rfl, rfl⟩ := H
                go_wp2
                refine bodyPost_ret (results_list (rs := [.tmp 2, .tmp 3, .tmp 4, .tmp 5, .tmp 6]) rfl (by simp) (.tmp (.tmp (.tmp (.tmp (.tmp .nil)))))) rfl ?_
                exact ⟨by first | rfl | (simp; done) | (simp [*]; done), by repeat (ya_)⟩
               ·rw [if_neg c18] at H
                have c18b0 : (a0 == 15) = false := beq_eq_false_iff_ne.mpr c18
                have c18b1 : (a0 != 15) = true := bne_iff_ne.mpr c18
                simp only [Option.some.injEq, Prod.mk.injEq] at H
                obtain ⟨rfl, rfl, rfl, rfl, rfl⟩ := H
                go_wp2
                refine bodyPost_ret (results_list (rs := [.tmp 2, .tmp 3, .tmp 4, .tmp 5, .tmp 6]) rfl (by simp) (.tmp (.tmp (.tmp (.tmp (.tmp .nil)))))) rfl ?_
                exact ⟨by first | rfl | (simp; done) | (simp [*]; done), by repeat (ya_)⟩
end
end

/-! ### spec_l2Reg: function 77 -/
def spec_l2Reg.f (a0 : Int) : Option (Bool) := (spec_l1In.f a0 0 7).bind fun t122 => (some t122)
set_option maxHeartbeats 8000000 in
set_option maxRecDepth 100000 in
theorem spec_l2Reg.calls (a0 : Int) (r : Bool) (w : World) (h : spec_l2Reg.f a0 = some r) :
    Calls Try.prog 77 #[.int .i64 a0] w fun e w' => e = .returned (.bool r) ∧ Drawn0 w w' := by
  have H : ((spec_l1In.f a0 0 7).bind fun t122 => (some t122)) = some r := h
  clear h
  replace H := Option.bind_eq_some_iff.mp H
  obtain ⟨t122, A20, H⟩ := H
  replace H : (some t122) = some r := H
  have A2 := Aside0.mk A20
  clear A20
  obtain rfl := Option.some.inj H
  go_enter Try.func77, Try.ntmps77
  go_wp2_with (first | ((with_reducible refine gate_callee (f := 47) rfl ?_); refine goesL_ (some 4) rfl rfl Try.func47 (by kernel_rfl) rfl #[.int .i64 a0, .int .i64 0, .int .i64 7] rfl (by (try simp only [List.map_toArray, List.map_cons, List.map_nil]); first | done | rfl | (simp only [List.length_drop, List.length_take]; rfl)) ?_; (with_reducible refine (spec_l1In.calls a0 0 7 t122 _ A2.out).mono ?_); rintro e w' ⟨rfl, ⟨nd, rfl⟩⟩; refine ⟨_, rfl, ?_⟩))
  go_ret
  exact ⟨by first | rfl | (simp; done) | (simp [*]; done), by repeat (first | exact Drawn0.refl _ | apply Drawn0.step)⟩

/-! ### spec_l2Num: function 78 -/
section
open Go.Proofs.YtdpgomcdacmhkaaW.PrintWords.Aside0 renaming mk → A_
def spec_l2Num.j0 : Nat → Int → Int → Bool → Option (Bool)
 | 0, _, _, _ => none
 | k + 1, x1, x2, x16 => if x16 = true then (if 0 ≤ x2 then ((spec_l1In.f x1 0 (wrap64 ((shl .i64 1 x2) - 1))).bind fun t123 => (some t123)) else (none)) else (if 0 ≤ (wrap64 (x2 - 1)) then ((spec_l1In.f x1 (wrap64 (-(shl .i64 1 (wrap64 (x2 - 1))))) (wrap64 ((shl .i64 1 (wrap64 (x2 - 1))) - 1))).bind fun t124 => (some t124)) else (none))
def spec_l2Num.f (k : Nat) (a0 : Int) (a1 : Int) (a2 : Int) : Option (Bool) := if a2 = 0 then (some (a1 == 0)) else (if a0 = 12 then (spec_l2Num.j0 k a1 a2 true) else (spec_l2Num.j0 k a1 a2 (a0 == 2)))
theorem spec_l2Num.mono_l : ∀ k, (∀ y0 y1 y2, LeO (spec_l2Num.j0 k y0 y1 y2) (spec_l2Num.j0 (k + 1) y0 y1 y2))
 | 0 => fun _ _ _ r h => by simp [spec_l2Num.j0] at h
 | k + 1 => by
  have ih0 := spec_l2Num.mono_l k
  ·intro y0 y1 y2
   unfold spec_l2Num.j0
   repeat' first
   | (with_reducible exact ih0 _ _ _)
   | (with_reducible exact LeO.refl _)
   | (with_reducible exact LeO.none _)
   | (with_reducible refine LeO.ite ?_ ?_)
   | (with_reducible refine LeO.bind ?_ (fun _ => ?_))
   | exact ih0 _ _ _
   | exact LeO.none _
   | refine LeO.ite ?_ ?_
   | refine LeO.bind ?_ (fun _ => ?_)
theorem spec_l2Num.mono : ∀ a0 a1 a2 k, LeO (spec_l2Num.f k a0 a1 a2) (spec_l2Num.f (k + 1) a0 a1 a2) := by
 intro a0 a1 a2 k
 have ih0 := spec_l2Num.mono_l k
 unfold spec_l2Num.f
 repeat' first
   | (with_reducible exact ih0 _ _ _)
   | (with_reducible exact LeO.refl _)
   | (with_reducible exact LeO.none _)
   | (with_reducible refine LeO.ite ?_ ?_)
   | (with_reducible refine LeO.bind ?_ (fun _ => ?_))
   | exact ih0 _ _ _
   | exact LeO.none _
   | refine LeO.ite ?_ ?_
   | refine LeO.bind ?_ (fun _ => ?_)
set_option maxHeartbeats 8000000 in
set_option maxRecDepth 100000 in
theorem spec_l2Num.calls (k : Nat) (a0 : Int) (a1 : Int) (a2 : Int) (r : Bool) (w : World) (h : spec_l2Num.f k a0 a1 a2 = some r) :
  Calls Try.prog 78 #[.int .i64 a0, .int .i64 a1, .int .i64 a2] w fun e w' => e = .returned (.bool r) ∧ Drawn0 w w' := by
 have H : (if a2 = 0 then (some (a1 == 0)) else (if a0 = 12 then (spec_l2Num.j0 k a1 a2 true) else (spec_l2Num.j0 k a1 a2 (a0 == 2)))) = some r := h
 clear h
 by_cases c4 : a2 = 0
 ·rw [if_pos c4] at H
  have c4b0 : (a2 == 0) = true := beq_iff_eq.mpr c4
  have c4b1 : (a2 != 0) = false := bne_eq_false_iff_eq.mpr c4
  clear c4
  obtain rfl := Option.some.inj H
  go_enter Try.func78, Try.ntmps78
  go_wp2
  repeat (go_quiet (fail); try go_wp2)
  go_ret
  exact ⟨by first | rfl | (simp; done) | (simp [*]; done), by repeat (first | exact Drawn0.refl _ | apply Drawn0.step)⟩
 ·rw [if_neg c4] at H
  have c4b0 : (a2 == 0) = false := beq_eq_false_iff_ne.mpr c4
  have c4b1 : (a2 != 0) = true := bne_iff_ne.mpr c4
  have HC5 := A_ H
  clear H
  go_enter Try.func78, Try.ntmps78
  go_upto_region 3 with (fail)
  repeat (go_quiet (fail); go_upto_region 3 with (fail))
  go_cut [16] (fun v16 wc => ∃ (kq : Nat) (z : Bool), v16 = .bool z ∧ Aside0 (spec_l2Num.j0 kq a1 a2 z = some r) ∧ Aside0 (kq ≤ k) ∧ Drawn0 w wc)
  case first =>
   have H := HC5.out
   clear HC5
   by_cases c6 : a0 = 12
   ·rw [if_pos c6] at H
    have c6b0 : (a0 == 12) = true := beq_iff_eq.mpr c6
    have c6b1 : (a0 != 12) = false := bne_eq_false_iff_eq.mpr c6
    clear c6
    (first | rw [c6b0] | (simp only [i64_w, i32_w]; rw [c6b0]) | skip)
    have H' := A_ H
    clear H
    go_wp2
    repeat (go_quiet (fail); try go_wp2)
    go_meet
    case rel => exact ⟨_, (true), (by first | rfl | (simp; done) | (simp [*]; done)), H', ⟨by first | omega | exact Nat.le_refl _⟩, by repeat (first | exact Drawn0.refl _ | apply Drawn0.step)⟩
   ·rw [if_neg c6] at H
    have c6b0 : (a0 == 12) = false := beq_eq_false_iff_ne.mpr c6
    have c6b1 : (a0 != 12) = true := bne_iff_ne.mpr c6
    (first | rw [c6b0] | (simp only [i64_w, i32_w]; rw [c6b0]) | skip)
    have H' := A_ H
    clear H
    go_wp2
    repeat (go_quiet (fail); try go_wp2)
    go_meet
    case rel => exact ⟨_, ((a0 == 2)), (by first | rfl | (simp; done) | (simp [*]; done)), H', ⟨by first | omega | exact Nat.le_refl _⟩, by repeat (first | exact Drawn0.refl _ | apply Drawn0.step)⟩
  case rest =>
   clear HC5
   try clear p2
   try clear c4
   try clear c4b0
   try clear c4b1
   try clear c6
   try clear c6b0
   try clear c6b1
   obtain ⟨kq, z, rfl, HA, HJ4, ⟨mc4, rfl⟩⟩ := hcut
   cases kq with
   | zero => exact absurd HA.out (by simp [spec_l2Num.j0])
   | succ kj4 =>
    have H := HA.out
    clear HA
    simp only [spec_l2Num.j0] at H
    by_cases c7 : z = true
    ·subst c7
     have H1 : (if 0 ≤ a2 then ((spec_l1In.f a1 0 (wrap64 ((shl .i64 1 a2) - 1))).bind fun t123 => (some t123)) else (none)) = some r := by rw [if_pos rfl] at H; exact H
     clear H
     have H := H1
     clear H1
     by_cases c8 : 0 ≤ a2
     ·rw [if_pos c8] at H
      have c8b0 := eq_true c8
      have c8b1 : decide (0 ≤ a2) = true := decide_eq_true c8
      clear c8
      obtain ⟨ji9, hji9⟩ : ∃ j_ : Int, (shl .i64 1 a2) = j_ := ⟨_, rfl⟩
      replace H : ((spec_l1In.f a1 0 (wrap64 ((ji9) - 1))).bind fun t123 => (some t123)) = some r := by first | (rw [hji9] at H; exact H) | (simp only [hji9] at H ⊢; exact H)
      have hji9_ : (IntKind.i64.wrap (1 * 2 ^ min a2.toNat 64)) = ji9 := hji9
      have hji9z : a2 ≤ 64 → (IntKind.i64.wrap (1 * 2 ^ a2.toNat)) = ji9 := shl_small hji9
      have hji9u : (IntKind.i64.wrap (2 ^ min a2.toNat 64)) = ji9 := by have h_ := hji9_; rw [Int.one_mul] at h_; exact h_
      have hji9v : a2 ≤ 64 → (IntKind.i64.wrap (2 ^ a2.toNat)) = ji9 := fun hle_ => by have h_ := hji9z hle_; rw [Int.one_mul] at h_; exact h_
      have hji9y : (wrap64 (1 * 2 ^ min a2.toNat 64)) = ji9 := (i64_w _).symm.trans hji9_
      have hji9x : a2 ≤ 64 → (wrap64 (1 * 2 ^ a2.toNat)) = ji9 := fun h_ => (i64_w _).symm.trans (hji9z h_)
      replace H := Option.bind_eq_some_iff.mp H
      obtain ⟨t123, A100, H⟩ := H
      replace H : (some t123) = some r := H
      have A10 := A_ A100
      clear A100
      obtain rfl := Option.some.inj H
      go_wp2_with (first | (go_at_call 47; (with_reducible refine (spec_l1In.calls a1 0 (wrap64 ((ji9) - 1)) t123 _ A10.out).mono ?_); rintro e w' ⟨rfl, ⟨nd, rfl⟩⟩; (try first | exact ⟨rfl, _, World.drewN_drewN _ _ _⟩ | exact ⟨rfl, _, Eq.trans (World.drewN_drewN _ _ _) (congrArg (World.drewN _) (Nat.add_assoc _ _ _))⟩)))
      repeat (go_quiet (first | (go_at_call 47; (with_reducible refine (spec_l1In.calls a1 0 (wrap64 ((ji9) - 1)) t123 _ A10.out).mono ?_); rintro e w' ⟨rfl, ⟨nd, rfl⟩⟩; (try first | exact ⟨rfl, _, World.drewN_drewN _ _ _⟩ | exact ⟨rfl, _, Eq.trans (World.drewN_drewN _ _ _) (congrArg (World.drewN _) (Nat.add_assoc _ _ _))⟩))); try go_wp2_with (first | (go_at_call 47; (with_reducible refine (spec_l1In.calls a1 0 (wrap64 ((ji9) - 1)) t123 _ A10.out).mono ?_); rintro e w' ⟨rfl, ⟨nd, rfl⟩⟩; (try first | exact ⟨rfl, _, World.drewN_drewN _ _ _⟩ | exact ⟨rfl, _, Eq.trans (World.drewN_drewN _ _ _) (congrArg (World.drewN _) (Nat.add_assoc _ _ _))⟩))))
      go_ret
      exact ⟨by first | rfl | (simp; done) | (simp only [← hji9] <;> (first | rfl | simp)) | (simp [*]; done), by repeat (first | exact Drawn0.refl _ | apply Drawn0.step)⟩
     ·rw [if_neg c8] at H
      exact absurd H (by simp)
    ·replace c7 := Bool.eq_false_iff.mpr c7
     subst c7
     have H1 : (if 0 ≤ (wrap64 (a2 - 1)) then ((spec_l1In.f a1 (wrap64 (-(shl .i64 1 (wrap64 (a2 - 1))))) (wrap64 ((shl .i64 1 (wrap64 (a2 - 1))) - 1))).bind fun t124 => (some t124)) else (none)) = some r := by rw [if_neg (show ¬ (false = true) by decide)] at H; exact H
     clear H
     have H := H1
     clear H1
     obtain ⟨ji11, hji11⟩ : ∃ j_ : Int, (wrap64 (a2 - 1)) = j_ := ⟨_, rfl⟩
     replace H : (if 0 ≤ (ji11) then ((spec_l1In.f a1 (wrap64 (-(shl .i64 1 (ji11)))) (wrap64 ((shl .i64 1 (ji11)) - 1))).bind fun t124 => (some t124)) else (none)) = some r := by first | (rw [hji11] at H; exact H) | (simp only [hji11] at H ⊢; exact H)
     have hji11w : (IntKind.i64.wrap (a2 - 1)) = ji11 := (i64_w _).trans hji11
     by_cases c12 : 0 ≤ (ji11)
     ·rw [if_pos c12] at H
      have c12b0 := eq_true c12
      have c12b1 : decide (0 ≤ (ji11)) = true := decide_eq_true c12
      clear c12
      obtain ⟨ji13, hji13⟩ : ∃ j_ : Int, (shl .i64 1 (ji11)) = j_ := ⟨_, rfl⟩
      replace H : ((spec_l1In.f a1 (wrap64 (-(ji13))) (wrap64 ((ji13) - 1))).bind fun t124 => (some t124)) = some r := by first | (rw [hji13] at H; exact H) | (simp only [hji13] at H ⊢; exact H)
      have hji13_ : (IntKind.i64.wrap (1 * 2 ^ min (ji11).toNat 64)) = ji13 := hji13
      have hji13z : (ji11) ≤ 64 → (IntKind.i64.wrap (1 * 2 ^ (ji11).toNat)) = ji13 := shl_small hji13
      have hji13u : (IntKind.i64.wrap (2 ^ min (ji11).toNat 64)) = ji13 := by have h_ := hji13_; rw [Int.one_mul] at h_; exact h_
      have hji13v : (ji11) ≤ 64 → (IntKind.i64.wrap (2 ^ (ji11).toNat)) = ji13 := fun hle_ => by have h_ := hji13z hle_; rw [Int.one_mul] at h_; exact h_
      have hji13y : (wrap64 (1 * 2 ^ min (ji11).toNat 64)) = ji13 := (i64_w _).symm.trans hji13_
      have hji13x : (ji11) ≤ 64 → (wrap64 (1 * 2 ^ (ji11).toNat)) = ji13 := fun h_ => (i64_w _).symm.trans (hji13z h_)
      have c14b0 := eq_true (of_decide_eq_true (by first | (with_reducible assumption) | assumption) : 0 ≤ (ji11))
      replace H := Option.bind_eq_some_iff.mp H
      obtain ⟨t124, A160, H⟩ := H
      replace H : (some t124) = some r := H
      have A16 := A_ A160
      clear A160
      obtain rfl := Option.some.inj H
      go_wp2_with (first | (go_at_call 47; (with_reducible refine (spec_l1In.calls a1 (wrap64 (-(ji13))) (wrap64 ((ji13) - 1)) t124 _ A16.out).mono ?_); rintro e w' ⟨rfl, ⟨nd, rfl⟩⟩; (try first | exact ⟨rfl, _, World.drewN_drewN _ _ _⟩ | exact ⟨rfl, _, Eq.trans (World.drewN_drewN _ _ _) (congrArg (World.drewN _) (Nat.add_assoc _ _ _))⟩)))
      repeat (go_quiet (first | (go_at_call 47; (with_reducible refine (spec_l1In.calls a1 (wrap64 (-(ji13))) (wrap64 ((ji13) - 1)) t124 _ A16.out).mono ?_); rintro e w' ⟨rfl, ⟨nd, rfl⟩⟩; (try first | exact ⟨rfl, _, World.drewN_drewN _ _ _⟩ | exact ⟨rfl, _, Eq.trans (World.drewN_drewN _ _ _) (congrArg (World.drewN _) (Nat.add_assoc _ _ _))⟩))); try go_wp2_with (first | (go_at_call 47; (with_reducible refine (spec_l1In.calls a1 (wrap64 (-(ji13))) (wrap64 ((ji13) - 1)) t124 _ A16.out).mono ?_); rintro e w' ⟨rfl, ⟨nd, rfl⟩⟩; (try first | exact ⟨rfl, _, World.drewN_drewN _ _ _⟩ | exact ⟨rfl, _, Eq.trans (World.drewN_drewN _ _ _) (congrArg (World.drewN _) (Nat.add_assoc _ _ _))⟩))))
      go_ret
      exact ⟨by first | rfl | (simp; done) | (simp only [← hji11, ← hji13] <;> (first | rfl | simp)) | (simp [*]; done), by repeat (first | exact Drawn0.refl _ | apply Drawn0.step)⟩
     ·rw [if_neg c12] at H
      exact absurd H (by simp)
end

/-! ### spec_CodOk: function 70 -/
section
set_option hygiene false in
local macro "ya_" : tactic => `(tactic| (first | (with_reducible first | exact HB.out | apply wA_ | apply wN_ | apply wD_ | refine wS_ ?_ z1.out) | exact HB.out))
set_option hygiene false in
local macro "yaa_" : tactic => `(tactic| (with_reducible refine (spec_l2Reg.calls a0_1 true _ A55.out).mono ?_))
set_option hygiene false in
local macro "yab_" : term => `((by repeat (first | (with_reducible first | exact HB.out | apply wA_ | apply wN_ | apply wD_) | exact HB.out)))
section
open Go.Proofs.YtdpgomcdacmhkaaW.PrintWords renaming blk_drewN → bN_, blk_alloc → bA_, blk_drew → bD_, blk_frozen → bF_, blk_cell → bC_, below_set → wS_, pw_below_drewN → wN_, below_alloc → wA_, below_drew1 → wD_, below_step → wT_, below_size → wZ_
open Go.Proofs.YtdpgomcdacmhkaaW.PrintWords.Aside0 renaming mk → A_
open List renaming map_toArray → mT_, map_cons → mC_, map_nil → mN_, length_drop → lD_, length_take → lT_, setIfInBounds_toArray → sT_, set_cons_zero → s0_, set_cons_succ → s1_
mutual
def spec_CodOk.j0 : Nat → Bool → Bool → Bool → Int → Int → Int → Int → Int → Int → Int → Int → Option (Bool)
 | 0, _, _, _, _, _, _, _, _, _, _, _ => none
 | k + 1, x3, x4, x5, x7, x8, z2, z7, z6, z3, z4, z5 => if z2 = 14 then (spec_CodOk.j1 k x3 x4 x5 x7 x8 true z2 z7 z6 z3 z4 z5) else (spec_CodOk.j1 k x3 x4 x5 x7 x8 (z2 == 15) z2 z7 z6 z3 z4 z5)
def spec_CodOk.j1 : Nat → Bool → Bool → Bool → Int → Int → Bool → Int → Int → Int → Int → Int → Int → Option (Bool)
 | 0, _, _, _, _, _, _, _, _, _, _, _, _ => none
 | k + 1, x3, x4, x5, x7, x8, x30, z2, z7, z6, z3, z4, z5 => if x30 = true then (spec_CodOk.j2 k x3 x4 x5 x7 4 z2 z7 z6 z3 z4 z5) else (spec_CodOk.j2 k x3 x4 x5 x7 x8 z2 z7 z6 z3 z4 z5)
def spec_CodOk.j2 : Nat → Bool → Bool → Bool → Int → Int → Int → Int → Int → Int → Int → Int → Option (Bool)
 | 0, _, _, _, _, _, _, _, _, _, _, _ => none
 | k + 1, x3, x4, x5, x7, x8, z2, z7, z6, z3, z4, z5 => if z7 = 0 then (if z6 = 0 then (if z3 = 0 then ((spec_l1In.f z4 0 x8).bind fun t132 => (if t132 = true then ((spec_l2Num.f k z2 z5 x7).bind fun t133 => (some t133)) else (some false))) else (if x5 = true then ((spec_l2Reg.f z3).bind fun t134 => (if t134 = true then ((spec_l1In.f z4 0 x8).bind fun t135 => (if t135 = true then ((spec_l2Num.f k z2 z5 x7).bind fun t136 => (some t136)) else (some false))) else (some false))) else (some false))) else (if x4 = true then ((spec_l2Reg.f z6).bind fun t137 => (if t137 = true then (if z3 = 0 then ((spec_l1In.f z4 0 x8).bind fun t138 => (if t138 = true then ((spec_l2Num.f k z2 z5 x7).bind fun t139 => (some t139)) else (some false))) else (if x5 = true then ((spec_l2Reg.f z3).bind fun t140 => (if t140 = true then ((spec_l1In.f z4 0 x8).bind fun t141 => (if t141 = true then ((spec_l2Num.f k z2 z5 x7).bind fun t142 => (some t142)) else (some false))) else (some false))) else (some false))) else (some false))) else (some false))) else (if x3 = true then ((spec_l2Reg.f z7).bind fun t143 => (if t143 = true then (if z6 = 0 then (if z3 = 0 then ((spec_l1In.f z4 0 x8).bind fun t144 => (if t144 = true then ((spec_l2Num.f k z2 z5 x7).bind fun t145 => (some t145)) else (some false))) else (if x5 = true then ((spec_l2Reg.f z3).bind fun t146 => (if t146 = true then ((spec_l1In.f z4 0 x8).bind fun t147 => (if t147 = true then ((spec_l2Num.f k z2 z5 x7).bind fun t148 => (some t148)) else (some false))) else (some false))) else (some false))) else (if x4 = true then ((spec_l2Reg.f z6).bind fun t149 => (if t149 = true then (if z3 = 0 then ((spec_l1In.f z4 0 x8).bind fun t150 => (if t150 = true then ((spec_l2Num.f k z2 z5 x7).bind fun t151 => (some t151)) else (some false))) else (if x5 = true then ((spec_l2Reg.f z3).bind fun t152 => (if t152 = true then ((spec_l1In.f z4 0 x8).bind fun t153 => (if t153 = true then ((spec_l2Num.f k z2 z5 x7).bind fun t154 => (some t154)) else (some false))) else (some false))) else (some false))) else (some false))) else (some false))) else (some false))) else (some false))
end
def spec_CodOk.f (k : Nat) (a0_0 : Int) (a0_1 : Int) (a0_2 : Int) (a0_3 : Int) (a0_4 : Int) (a0_5 : Int) : Option (Bool) := (spec_l1In.f a0_0 0 15).bind fun t126 => (if t126 = true then ((spec_l2Has.f k a0_0).bind fun bt127 => (if bt127.2.2.2.1 = true then (spec_CodOk.j0 k bt127.1 bt127.2.1 bt127.2.2.1 bt127.2.2.2.2 7 a0_0 a0_1 a0_2 a0_3 a0_4 a0_5) else (spec_CodOk.j0 k bt127.1 bt127.2.1 bt127.2.2.1 bt127.2.2.2.2 0 a0_0 a0_1 a0_2 a0_3 a0_4 a0_5))) else (some false))
theorem spec_CodOk.mono_l : ∀ k, (∀ y0 y1 y2 y3 y4 y5 y6 y7 y8 y9 y10, LeO (spec_CodOk.j0 k y0 y1 y2 y3 y4 y5 y6 y7 y8 y9 y10) (spec_CodOk.j0 (k + 1) y0 y1 y2 y3 y4 y5 y6 y7 y8 y9 y10)) ∧ (∀ y0 y1 y2 y3 y4 y5 y6 y7 y8 y9 y10 y11, LeO (spec_CodOk.j1 k y0 y1 y2 y3 y4 y5 y6 y7 y8 y9 y10 y11) (spec_CodOk.j1 (k + 1) y0 y1 y2 y3 y4 y5 y6 y7 y8 y9 y10 y11)) ∧ (∀ y0 y1 y2 y3 y4 y5 y6 y7 y8 y9 y10, LeO (spec_CodOk.j2 k y0 y1 y2 y3 y4 y5 y6 y7 y8 y9 y10) (spec_CodOk.j2 (k + 1) y0 y1 y2 y3 y4 y5 y6 y7 y8 y9 y10))
 | 0 => ⟨fun _ _ _ _ _ _ _ _ _ _ _ r h => by simp [spec_CodOk.j0] at h, fun _ _ _ _ _ _ _ _ _ _ _ _ r h => by simp [spec_CodOk.j1] at h, fun _ _ _ _ _ _ _ _ _ _ _ r h => by simp [spec_CodOk.j2] at h⟩
 | k + 1 => by
  obtain ⟨ih0, ih1, ih2⟩ := spec_CodOk.mono_l k
  refine ⟨?_, ?_, ?_⟩
  ·intro y0 y1 y2 y3 y4 y5 y6 y7 y8 y9 y10
   unfold spec_CodOk.j0
   repeat' first
   | (with_reducible exact ih0 _ _ _ _ _ _ _ _ _ _ _)
   | (with_reducible exact ih1 _ _ _ _ _ _ _ _ _ _ _ _)
   | (with_reducible exact ih2 _ _ _ _ _ _ _ _ _ _ _)
   | (with_reducible exact spec_l2Has.mono _ _)
   | (with_reducible exact spec_l2Num.mono _ _ _ _)
   | (with_reducible exact LeO.refl _)
   | (with_reducible exact LeO.none _)
   | (with_reducible refine LeO.ite ?_ ?_)
   | (with_reducible refine LeO.bind ?_ (fun _ => ?_))
   | exact ih0 _ _ _ _ _ _ _ _ _ _ _
   | exact ih1 _ _ _ _ _ _ _ _ _ _ _ _
   | exact ih2 _ _ _ _ _ _ _ _ _ _ _
   | exact spec_l2Has.mono _ _
   | exact spec_l2Num.mono _ _ _ _
   | exact LeO.none _
   | refine LeO.ite ?_ ?_
   | refine LeO.bind ?_ (fun _ => ?_)
  ·intro y0 y1 y2 y3 y4 y5 y6 y7 y8 y9 y10 y11
   unfold spec_CodOk.j1
   repeat' first
   | (with_reducible exact ih0 _ _ _ _ _ _ _ _ _ _ _)
   | (with_reducible exact ih1 _ _ _ _ _ _ _ _ _ _ _ _)
   | (with_reducible exact ih2 _ _ _ _ _ _ _ _ _ _ _)
   | (with_reducible exact spec_l2Has.mono _ _)
   | (with_reducible exact spec_l2Num.mono _ _ _ _)
   | (with_reducible exact LeO.refl _)
   | (with_reducible exact LeO.none _)
   | (with_reducible refine LeO.ite ?_ ?_)
   | (with_reducible refine LeO.bind ?_ (fun _ => ?_))
   | exact ih0 _ _ _ _ _ _ _ _ _ _ _
   | exact ih1 _ _ _ _ _ _ _ _ _ _ _ _
   | exact ih2 _ _ _ _ _ _ _ _ _ _ _
   | exact spec_l2Has.mono _ _
   | exact spec_l2Num.mono _ _ _ _
   | exact LeO.none _
   | refine LeO.ite ?_ ?_
   | refine LeO.bind ?_ (fun _ => ?_)
  ·intro y0 y1 y2 y3 y4 y5 y6 y7 y8 y9 y10
   unfold spec_CodOk.j2
   repeat' first
   | (with_reducible exact ih0 _ _ _ _ _ _ _ _ _ _ _)
   | (with_reducible exact ih1 _ _ _ _ _ _ _ _ _ _ _ _)
   | (with_reducible exact ih2 _ _ _ _ _ _ _ _ _ _ _)
   | (with_reducible exact spec_l2Has.mono _ _)
   | (with_reducible exact spec_l2Num.mono _ _ _ _)
   | (with_reducible exact LeO.refl _)
   | (with_reducible exact LeO.none _)
   | (with_reducible refine LeO.ite ?_ ?_)
   | (with_reducible refine LeO.bind ?_ (fun _ => ?_))
   | exact ih0 _ _ _ _ _ _ _ _ _ _ _
   | exact ih1 _ _ _ _ _ _ _ _ _ _ _ _
   | exact ih2 _ _ _ _ _ _ _ _ _ _ _
   | exact spec_l2Has.mono _ _
   | exact spec_l2Num.mono _ _ _ _
   | exact LeO.none _
   | refine LeO.ite ?_ ?_
   | refine LeO.bind ?_ (fun _ => ?_)
theorem spec_CodOk.mono : ∀ a0 a1 a2 a3 a4 a5 k, LeO (spec_CodOk.f k a0 a1 a2 a3 a4 a5) (spec_CodOk.f (k + 1) a0 a1 a2 a3 a4 a5) := by
 intro a0 a1 a2 a3 a4 a5 k
 obtain ⟨ih0, ih1, ih2⟩ := spec_CodOk.mono_l k
 unfold spec_CodOk.f
 repeat' first
   | (with_reducible exact ih0 _ _ _ _ _ _ _ _ _ _ _)
   | (with_reducible exact ih1 _ _ _ _ _ _ _ _ _ _ _ _)
   | (with_reducible exact ih2 _ _ _ _ _ _ _ _ _ _ _)
   | (with_reducible exact spec_l2Has.mono _ _)
   | (with_reducible exact spec_l2Num.mono _ _ _ _)
   | (with_reducible exact LeO.refl _)
   | (with_reducible exact LeO.none _)
   | (with_reducible refine LeO.ite ?_ ?_)
   | (with_reducible refine LeO.bind ?_ (fun _ => ?_))
   | exact ih0 _ _ _ _ _ _ _ _ _ _ _
   | exact ih1 _ _ _ _ _ _ _ _ _ _ _ _
   | exact ih2 _ _ _ _ _ _ _ _ _ _ _
   | exact spec_l2Has.mono _ _
   | exact spec_l2Num.mono _ _ _ _
   | exact LeO.none _
   | refine LeO.ite ?_ ?_
   | refine LeO.bind ?_ (fun _ => ?_)
set_option maxHeartbeats 8000000 in
set_option maxRecDepth 100000 in
theorem spec_CodOk.calls (k : Nat) (a0_0 : Int) (a0_1 : Int) (a0_2 : Int) (a0_3 : Int) (a0_4 : Int) (a0_5 : Int) (r : Bool) (w : World) (h : spec_CodOk.f k a0_0 a0_1 a0_2 a0_3 a0_4 a0_5 = some r) :
  Calls Try.prog 70 #[.agg #[.int .i64 a0_0, .int .i64 a0_1, .int .i64 a0_2, .int .i64 a0_3, .int .i64 a0_4, .int .i64 a0_5]] w fun e w' => e = .returned (.bool r) ∧ Below w.heap.size w w' := by
 have hu75 := Try.underlying75
 have HB := A_ (Below.refl w.heap.size w)
 have H : ((spec_l1In.f a0_0 0 15).bind fun t126 => (if t126 = true then ((spec_l2Has.f k a0_0).bind fun bt127 => (if bt127.2.2.2.1 = true then (spec_CodOk.j0 k bt127.1 bt127.2.1 bt127.2.2.1 bt127.2.2.2.2 7 a0_0 a0_1 a0_2 a0_3 a0_4 a0_5) else (spec_CodOk.j0 k bt127.1 bt127.2.1 bt127.2.2.1 bt127.2.2.2.2 0 a0_0 a0_1 a0_2 a0_3 a0_4 a0_5))) else (some false))) = some r := h
 clear h
 replace H := Option.bind_eq_some_iff.mp H
 obtain ⟨t126, A20, H⟩ := H
 replace H : (if t126 = true then ((spec_l2Has.f k a0_0).bind fun bt127 => (if bt127.2.2.2.1 = true then (spec_CodOk.j0 k bt127.1 bt127.2.1 bt127.2.2.1 bt127.2.2.2.2 7 a0_0 a0_1 a0_2 a0_3 a0_4 a0_5) else (spec_CodOk.j0 k bt127.1 bt127.2.1 bt127.2.2.1 bt127.2.2.2.2 0 a0_0 a0_1 a0_2 a0_3 a0_4 a0_5))) else (some false)) = some r := H
 have A2 := A_ A20
 clear A20
 by_cases c3 : t126 = true
 ·subst c3
  have H1 : ((spec_l2Has.f k a0_0).bind fun bt127 => (if bt127.2.2.2.1 = true then (spec_CodOk.j0 k bt127.1 bt127.2.1 bt127.2.2.1 bt127.2.2.2.2 7 a0_0 a0_1 a0_2 a0_3 a0_4 a0_5) else (spec_CodOk.j0 k bt127.1 bt127.2.1 bt127.2.2.1 bt127.2.2.2.2 0 a0_0 a0_1 a0_2 a0_3 a0_4 a0_5))) = some r := by rw [if_pos rfl] at H; exact H
  clear H
  have H := H1
  clear H1
  replace H := Option.bind_eq_some_iff.mp H
  obtain ⟨⟨t127, t128, t129, t130, t131⟩, A40, H⟩ := H
  replace H : (if t130 = true then (spec_CodOk.j0 k t127 t128 t129 t131 7 a0_0 a0_1 a0_2 a0_3 a0_4 a0_5) else (spec_CodOk.j0 k t127 t128 t129 t131 0 a0_0 a0_1 a0_2 a0_3 a0_4 a0_5)) = some r := H
  have A4 := A_ A40
  clear A40
  have HC5 := A_ H
  clear H
  go_enter Try.func70, Try.ntmps70
  go_upto_if 22 with (first | ((with_reducible refine gate_dst (N := 1) rfl ?_); refine box_event ?hg (N := 1) ?hd (cs := #[.int .i64 a0_0, .int .i64 a0_1, .int .i64 a0_2, .int .i64 a0_3, .int .i64 a0_4, .int .i64 a0_5]) (t := 75) ?hr ?_; (case hd => rfl); (case hg => rfl); (case hr => first | (go_simp; done) | (go_simp; rfl)); intro gb125 hg w6 hbox hb; have n0_ := A_ (wT_ (yab_) hb); have n1_ := A_ (hbox); have n2_ := A_ ((by rw [hg]; exact (wZ_ (yab_)) : w.heap.size ≤ gb125)); have n3_ := A_ ((by rw [hg]; exact (wZ_ (yab_)) : w.heap.size ≤ gb125)); clear HB; have HB := n0_; have z := n1_; have GW125 := n2_; have z1 := n3_; clear n0_ n1_ n2_ n3_; clear hb hbox hg; have hcz7_0 : w6.cell? ⟨gb125, 0, none⟩ = some (.int .i64 a0_0) := (bC_ z.out 0).trans rfl; have hcz7_1 : w6.cell? ⟨gb125, 1, none⟩ = some (.int .i64 a0_1) := (bC_ z.out 1).trans rfl; have hcz7_2 : w6.cell? ⟨gb125, 2, none⟩ = some (.int .i64 a0_2) := (bC_ z.out 2).trans rfl; have hcz7_3 : w6.cell? ⟨gb125, 3, none⟩ = some (.int .i64 a0_3) := (bC_ z.out 3).trans rfl; have hcz7_4 : w6.cell? ⟨gb125, 4, none⟩ = some (.int .i64 a0_4) := (bC_ z.out 4).trans rfl; have hcz7_5 : w6.cell? ⟨gb125, 5, none⟩ = some (.int .i64 a0_5) := (bC_ z.out 5).trans rfl; have hfz7_0 := bF_ z.out 0; have hfz7_1 := bF_ z.out 1; have hfz7_2 := bF_ z.out 2; have hfz7_3 := bF_ z.out 3; have hfz7_4 := bF_ z.out 4; have hfz7_5 := bF_ z.out 5) | ((with_reducible refine gate_callee (f := 47) rfl ?_); refine goesL_ (some 11) rfl rfl Try.func47 (by kernel_rfl) rfl #[.int .i64 a0_0, .int .i64 0, .int .i64 15] rfl (by (try simp only [mT_, mC_, mN_]); first | done | rfl | (simp only [lD_, lT_]; rfl)) ?_; (with_reducible refine (spec_l1In.calls a0_0 0 15 true _ A2.out).mono ?_); rintro e w' ⟨rfl, ⟨nd, rfl⟩⟩; refine ⟨_, rfl, ?_⟩) | ((with_reducible refine gate_callee (f := 71) rfl ?_); refine goesL_ (some 16) rfl rfl Try.func71 (by kernel_rfl) rfl #[.int .i64 a0_0] rfl (by (try simp only [mT_, mC_, mN_]); first | done | rfl | (simp only [lD_, lT_]; rfl)) ?_; (with_reducible refine (spec_l2Has.calls k a0_0 t127 t128 t129 t130 t131 _ A4.out).mono ?_); rintro e w' ⟨rfl, ⟨nd, rfl⟩⟩; refine ⟨_, rfl, ?_⟩))
  (try simp only [Act.put, sT_, s0_, s1_])
  go_cut [8] (fun v8 wc => ∃ (kq : Nat) (z8 : Int), v8 = .int .i64 z8 ∧ Aside0 (spec_CodOk.j0 kq t127 t128 t129 t131 z8 a0_0 a0_1 a0_2 a0_3 a0_4 a0_5 = some r) ∧ Aside0 (kq ≤ k) ∧ Aside0 (wc.heap[gb125]? = some (.cells #[.int .i64 a0_0, .int .i64 a0_1, .int .i64 a0_2, .int .i64 a0_3, .int .i64 a0_4, .int .i64 a0_5] 75 (0, 0))) ∧ Aside0 (Below w.heap.size w wc))
  case first =>
   have H := HC5.out
   clear HC5
   by_cases c8 : t130 = true
   ·subst c8
    have H1 : (spec_CodOk.j0 k t127 t128 t129 t131 7 a0_0 a0_1 a0_2 a0_3 a0_4 a0_5) = some r := by rw [if_pos rfl] at H; exact H
    clear H
    have H := H1
    clear H1
    have H' := A_ H
    clear H
    go_wp2
    go_meet
    case rel => exact ⟨_, (7), (by first | rfl | (simp; done) | (simp [*]; done)), H', ⟨by first | omega | exact Nat.le_refl _⟩, ⟨by (with_reducible repeat (first | refine bN_ ?_ _ | refine bD_ ?_ | refine bA_ ?_ _)); exact z.out⟩, ⟨by repeat (ya_)⟩⟩
   ·replace c8 := Bool.eq_false_iff.mpr c8
    subst c8
    have H1 : (spec_CodOk.j0 k t127 t128 t129 t131 0 a0_0 a0_1 a0_2 a0_3 a0_4 a0_5) = some r := by rw [if_neg (show ¬ (false = true) by decide)] at H; exact H
    clear H
    have H := H1
    clear H1
    have H' := A_ H
    clear H
    go_wp2
    go_meet
    case rel => exact ⟨_, (0), (by first | rfl | (simp; done) | (simp [*]; done)), H', ⟨by first | omega | exact Nat.le_refl _⟩, ⟨by (with_reducible repeat (first | refine bN_ ?_ _ | refine bD_ ?_ | refine bA_ ?_ _)); exact z.out⟩, ⟨by repeat (ya_)⟩⟩
  case rest =>
   clear HC5
   try clear p2
   try clear c3
   try clear c4
   try clear c7
   try clear c8
   try clear hcz7_0
   try clear hcz7_1
   try clear hcz7_2
   try clear hcz7_3
   try clear hcz7_4
   try clear hcz7_5
   try clear hfz7_0
   try clear hfz7_1
   try clear hfz7_2
   try clear hfz7_3
   try clear hfz7_4
   try clear hfz7_5
   obtain ⟨kq, z8, rfl, HA, HJ4, z, HB⟩ := hcut
   cases kq with
   | zero => exact absurd HA.out (by simp [spec_CodOk.j0])
   | succ kj4 =>
    have H := HA.out
    clear HA
    simp only [spec_CodOk.j0] at H
    have HC9 := A_ H
    clear H
    go_upto_region 7 with (fail)
    go_cut [30] (fun v30 wc => ∃ (kq : Nat) (z9 : Bool), v30 = .bool z9 ∧ Aside0 (spec_CodOk.j1 kq t127 t128 t129 t131 z8 z9 a0_0 a0_1 a0_2 a0_3 a0_4 a0_5 = some r) ∧ Aside0 (kq ≤ kj4) ∧ Aside0 (wc.heap[gb125]? = some (.cells #[.int .i64 a0_0, .int .i64 a0_1, .int .i64 a0_2, .int .i64 a0_3, .int .i64 a0_4, .int .i64 a0_5] 75 (0, 0))) ∧ Aside0 (Below w.heap.size w wc))
    case first =>
     have H := HC9.out
     clear HC9
     by_cases c10 : a0_0 = 14
     ·rw [if_pos c10] at H
      have c10b0 : (a0_0 == 14) = true := beq_iff_eq.mpr c10
      have c10b1 : (a0_0 != 14) = false := bne_eq_false_iff_eq.mpr c10
      clear c10
      (first | rw [c10b0] | (simp only [i64_w, i32_w]; rw [c10b0]) | skip)
      have H' := A_ H
      clear H
      have hcz11_0 : wc.cell? ⟨gb125, 0, none⟩ = some (.int .i64 a0_0) := (bC_ z.out 0).trans rfl
      have hcz11_1 : wc.cell? ⟨gb125, 1, none⟩ = some (.int .i64 a0_1) := (bC_ z.out 1).trans rfl
      have hcz11_2 : wc.cell? ⟨gb125, 2, none⟩ = some (.int .i64 a0_2) := (bC_ z.out 2).trans rfl
      have hcz11_3 : wc.cell? ⟨gb125, 3, none⟩ = some (.int .i64 a0_3) := (bC_ z.out 3).trans rfl
      have hcz11_4 : wc.cell? ⟨gb125, 4, none⟩ = some (.int .i64 a0_4) := (bC_ z.out 4).trans rfl
      have hcz11_5 : wc.cell? ⟨gb125, 5, none⟩ = some (.int .i64 a0_5) := (bC_ z.out 5).trans rfl
      have hfz11_0 := bF_ z.out 0
      have hfz11_1 := bF_ z.out 1
      have hfz11_2 := bF_ z.out 2
      have hfz11_3 := bF_ z.out 3
      have hfz11_4 := bF_ z.out 4
      have hfz11_5 := bF_ z.out 5
      go_wp2
      go_meet
      case rel => exact ⟨_, (true), (by first | rfl | (simp; done) | (simp [*]; done)), H', ⟨by have := HJ4.out; first | omega | exact Nat.le_refl _⟩, ⟨by (with_reducible repeat (first | refine bN_ ?_ _ | refine bD_ ?_ | refine bA_ ?_ _)); exact z.out⟩, ⟨by repeat (ya_)⟩⟩
     ·rw [if_neg c10] at H
      have c10b0 : (a0_0 == 14) = false := beq_eq_false_iff_ne.mpr c10
      have c10b1 : (a0_0 != 14) = true := bne_iff_ne.mpr c10
      (first | rw [c10b0] | (simp only [i64_w, i32_w]; rw [c10b0]) | skip)
      have H' := A_ H
      clear H
      have hcz12_0 : wc.cell? ⟨gb125, 0, none⟩ = some (.int .i64 a0_0) := (bC_ z.out 0).trans rfl
      have hcz12_1 : wc.cell? ⟨gb125, 1, none⟩ = some (.int .i64 a0_1) := (bC_ z.out 1).trans rfl
      have hcz12_2 : wc.cell? ⟨gb125, 2, none⟩ = some (.int .i64 a0_2) := (bC_ z.out 2).trans rfl
      have hcz12_3 : wc.cell? ⟨gb125, 3, none⟩ = some (.int .i64 a0_3) := (bC_ z.out 3).trans rfl
      have hcz12_4 : wc.cell? ⟨gb125, 4, none⟩ = some (.int .i64 a0_4) := (bC_ z.out 4).trans rfl
      have hcz12_5 : wc.cell? ⟨gb125, 5, none⟩ = some (.int .i64 a0_5) := (bC_ z.out 5).trans rfl
      have hfz12_0 := bF_ z.out 0
      have hfz12_1 := bF_ z.out 1
      have hfz12_2 := bF_ z.out 2
      have hfz12_3 := bF_ z.out 3
      have hfz12_4 := bF_ z.out 4
      have hfz12_5 := bF_ z.out 5
      go_wp2
      go_meet
      case rel => exact ⟨_, ((a0_0 == 15)), (by first | rfl | (simp; done) | (simp [*]; done)), H', ⟨by have := HJ4.out; first | omega | exact Nat.le_refl _⟩, ⟨by (with_reducible repeat (first | refine bN_ ?_ _ | refine bD_ ?_ | refine bA_ ?_ _)); exact z.out⟩, ⟨by repeat (ya_)⟩⟩
    case rest =>
     clear HC9
     try clear c1
     try clear p2
     try clear c3
     try clear c4
     try clear c7
     try clear c8
     try clear c10
     try clear c10b0
     try clear c10b1
     try clear hcz11_0
     try clear hcz11_1
     try clear hcz11_2
     try clear hcz11_3
     try clear hcz11_4
     try clear hcz11_5
     try clear hcz12_0
     try clear hcz12_1
     try clear hcz12_2
     try clear hcz12_3
     try clear hcz12_4
     try clear hcz12_5
     try clear hcz7_0
     try clear hcz7_1
     try clear hcz7_2
     try clear hcz7_3
     try clear hcz7_4
     try clear hcz7_5
     try clear hfz11_0
     try clear hfz11_1
     try clear hfz11_2
     try clear hfz11_3
     try clear hfz11_4
     try clear hfz11_5
     try clear hfz12_0
     try clear hfz12_1
     try clear hfz12_2
     try clear hfz12_3
     try clear hfz12_4
     try clear hfz12_5
     try clear hfz7_0
     try clear hfz7_1
     try clear hfz7_2
     try clear hfz7_3
     try clear hfz7_4
     try clear hfz7_5
     try clear p2
     obtain ⟨kq, z9, rfl, HA, HJ8, z, HB⟩ := hcut
     cases kq with
     | zero => exact absurd HA.out (by simp [spec_CodOk.j1])
     | succ kj8 =>
      have H := HA.out
      clear HA
      simp only [spec_CodOk.j1] at H
      have HC13 := A_ H
      clear H
      go_upto_if 30 with (fail)
      go_cut [8] (fun v8 wc => ∃ (kq : Nat) (z0 : Int), v8 = .int .i64 z0 ∧ Aside0 (spec_CodOk.j2 kq t127 t128 t129 t131 z0 a0_0 a0_1 a0_2 a0_3 a0_4 a0_5 = some r) ∧ Aside0 (kq ≤ kj8) ∧ Aside0 (wc.heap[gb125]? = some (.cells #[.int .i64 a0_0, .int .i64 a0_1, .int .i64 a0_2, .int .i64 a0_3, .int .i64 a0_4, .int .i64 a0_5] 75 (0, 0))) ∧ Aside0 (Below w.heap.size w wc))
      case first =>
       have H := HC13.out
       clear HC13
       by_cases c14 : z9 = true
       ·subst c14
        have H1 : (spec_CodOk.j2 kj8 t127 t128 t129 t131 4 a0_0 a0_1 a0_2 a0_3 a0_4 a0_5) = some r := by rw [if_pos rfl] at H; exact H
        clear H
        have H := H1
        clear H1
        have H' := A_ H
        clear H
        go_wp2
        go_meet
        case rel => exact ⟨_, (4), (by first | rfl | (simp; done) | (simp [*]; done)), H', ⟨by have := HJ4.out; have := HJ8.out; first | omega | exact Nat.le_refl _⟩, ⟨by (with_reducible repeat (first | refine bN_ ?_ _ | refine bD_ ?_ | refine bA_ ?_ _)); exact z.out⟩, ⟨by repeat (ya_)⟩⟩
       ·replace c14 := Bool.eq_false_iff.mpr c14
        subst c14
        have H1 : (spec_CodOk.j2 kj8 t127 t128 t129 t131 z8 a0_0 a0_1 a0_2 a0_3 a0_4 a0_5) = some r := by rw [if_neg (show ¬ (false = true) by decide)] at H; exact H
        clear H
        have H := H1
        clear H1
        have H' := A_ H
        clear H
        go_wp2
        go_meet
        case rel => exact ⟨_, (z8), (by first | rfl | (simp; done) | (simp [*]; done)), H', ⟨by have := HJ4.out; have := HJ8.out; first | omega | exact Nat.le_refl _⟩, ⟨by (with_reducible repeat (first | refine bN_ ?_ _ | refine bD_ ?_ | refine bA_ ?_ _)); exact z.out⟩, ⟨by repeat (ya_)⟩⟩
      case rest =>
       clear HC13
       try clear c1
       try clear p2
       try clear c3
       try clear c4
       try clear c7
       try clear c8
       try clear c10
       try clear c10b0
       try clear c10b1
       try clear c14
       try clear hcz11_0
       try clear hcz11_1
       try clear hcz11_2
       try clear hcz11_3
       try clear hcz11_4
       try clear hcz11_5
       try clear hcz12_0
       try clear hcz12_1
       try clear hcz12_2
       try clear hcz12_3
       try clear hcz12_4
       try clear hcz12_5
       try clear hcz7_0
       try clear hcz7_1
       try clear hcz7_2
       try clear hcz7_3
       try clear hcz7_4
       try clear hcz7_5
       try clear hfz11_0
       try clear hfz11_1
       try clear hfz11_2
       try clear hfz11_3
       try clear hfz11_4
       try clear hfz11_5
       try clear hfz12_0
       try clear hfz12_1
       try clear hfz12_2
       try clear hfz12_3
       try clear hfz12_4
       try clear hfz12_5
       try clear hfz7_0
       try clear hfz7_1
       try clear hfz7_2
       try clear hfz7_3
       try clear hfz7_4
       try clear hfz7_5
       try clear p2
       obtain ⟨kq, z0, rfl, HA, HJ12, z, HB⟩ := hcut
       cases kq with
       | zero => exact absurd HA.out (by simp [spec_CodOk.j2])
       | succ kj12 =>
        have H := HA.out
        clear HA
        simp only [spec_CodOk.j2] at H
        by_cases c15 : a0_1 = 0
        ·rw [if_pos c15] at H
         have c15b0 : (a0_1 == 0) = true := beq_iff_eq.mpr c15
         have c15b1 : (a0_1 != 0) = false := bne_eq_false_iff_eq.mpr c15
         clear c15
         by_cases c16 : a0_2 = 0
         ·rw [if_pos c16] at H
          have c16b0 : (a0_2 == 0) = true := beq_iff_eq.mpr c16
          have c16b1 : (a0_2 != 0) = false := bne_eq_false_iff_eq.mpr c16
          clear c16
          by_cases c17 : a0_3 = 0
          ·rw [if_pos c17] at H
           have c17b0 : (a0_3 == 0) = true := beq_iff_eq.mpr c17
           have c17b1 : (a0_3 != 0) = false := bne_eq_false_iff_eq.mpr c17
           clear c17
           replace H := Option.bind_eq_some_iff.mp H
           obtain ⟨t132, A180, H⟩ := H
           replace H : (if t132 = true then ((spec_l2Num.f kj12 a0_0 a0_5 t131).bind fun t133 => (some t133)) else (some false)) = some r := H
           have A18 := A_ A180
           clear A180
           by_cases c19 : t132 = true
           ·subst c19
            have H1 : ((spec_l2Num.f kj12 a0_0 a0_5 t131).bind fun t133 => (some t133)) = some r := by rw [if_pos rfl] at H; exact H
            clear H
            have H := H1
            clear H1
            replace H := Option.bind_eq_some_iff.mp H
            obtain ⟨t133, A200, H⟩ := H
            replace H : (some t133) = some r := H
            have A20 := A_ A200
            clear A200
            obtain rfl := Option.some.inj H
            have hcz21_0 : wc.cell? ⟨gb125, 0, none⟩ = some (.int .i64 a0_0) := (bC_ z.out 0).trans rfl
            have hcz21_1 : wc.cell? ⟨gb125, 1, none⟩ = some (.int .i64 a0_1) := (bC_ z.out 1).trans rfl
            have hcz21_2 : wc.cell? ⟨gb125, 2, none⟩ = some (.int .i64 a0_2) := (bC_ z.out 2).trans rfl
            have hcz21_3 : wc.cell? ⟨gb125, 3, none⟩ = some (.int .i64 a0_3) := (bC_ z.out 3).trans rfl
            have hcz21_4 : wc.cell? ⟨gb125, 4, none⟩ = some (.int .i64 a0_4) := (bC_ z.out 4).trans rfl
            have hcz21_5 : wc.cell? ⟨gb125, 5, none⟩ = some (.int .i64 a0_5) := (bC_ z.out 5).trans rfl
            have hfz21_0 := bF_ z.out 0
            have hfz21_1 := bF_ z.out 1
            have hfz21_2 := bF_ z.out 2
            have hfz21_3 := bF_ z.out 3
            have hfz21_4 := bF_ z.out 4
            have hfz21_5 := bF_ z.out 5
            go_wp2_with (first | (go_at_call 47; (with_reducible refine (spec_l1In.calls a0_4 0 z0 true _ A18.out).mono ?_); rintro e w' ⟨rfl, ⟨nd, rfl⟩⟩) | (go_at_call 78; (with_reducible refine (spec_l2Num.calls kj12 a0_0 a0_5 t131 t133 _ A20.out).mono ?_); rintro e w' ⟨rfl, ⟨nd, rfl⟩⟩))
            go_ret
            exact ⟨by first | rfl | (simp [errW_none, errW_some] <;> rfl) | (simp [*, errW_none, errW_some] <;> rfl), by repeat (ya_)⟩
           ·replace c19 := Bool.eq_false_iff.mpr c19
            subst c19
            have H1 : (some false) = some r := by rw [if_neg (show ¬ (false = true) by decide)] at H; exact H
            clear H
            have H := H1
            clear H1
            obtain rfl := Option.some.inj H
            have hcz22_0 : wc.cell? ⟨gb125, 0, none⟩ = some (.int .i64 a0_0) := (bC_ z.out 0).trans rfl
            have hcz22_1 : wc.cell? ⟨gb125, 1, none⟩ = some (.int .i64 a0_1) := (bC_ z.out 1).trans rfl
            have hcz22_2 : wc.cell? ⟨gb125, 2, none⟩ = some (.int .i64 a0_2) := (bC_ z.out 2).trans rfl
            have hcz22_3 : wc.cell? ⟨gb125, 3, none⟩ = some (.int .i64 a0_3) := (bC_ z.out 3).trans rfl
            have hcz22_4 : wc.cell? ⟨gb125, 4, none⟩ = some (.int .i64 a0_4) := (bC_ z.out 4).trans rfl
            have hcz22_5 : wc.cell? ⟨gb125, 5, none⟩ = some (.int .i64 a0_5) := (bC_ z.out 5).trans rfl
            have hfz22_0 := bF_ z.out 0
            have hfz22_1 := bF_ z.out 1
            have hfz22_2 := bF_ z.out 2
            have hfz22_3 := bF_ z.out 3
            have hfz22_4 := bF_ z.out 4
            have hfz22_5 := bF_ z.out 5
            go_wp2_with (first | (go_at_call 47; (with_reducible refine (spec_l1In.calls a0_4 0 z0 false _ A18.out).mono ?_); rintro e w' ⟨rfl, ⟨nd, rfl⟩⟩))
            go_ret
            exact ⟨by first | rfl | (simp [errW_none, errW_some] <;> rfl) | (simp [*, errW_none, errW_some] <;> rfl), by repeat (ya_)⟩
          ·rw [if_neg c17] at H
           have c17b0 : (a0_3 == 0) = false := beq_eq_false_iff_ne.mpr c17
           have c17b1 : (a0_3 != 0) = true := bne_iff_ne.mpr c17
           by_cases c23 : t129 = true
           ·subst c23
            have H1 : ((spec_l2Reg.f a0_3).bind fun t134 => (if t134 = true then ((spec_l1In.f a0_4 0 z0).bind fun t135 => (if t135 = true then ((spec_l2Num.f kj12 a0_0 a0_5 t131).bind fun t136 => (some t136)) else (some false))) else (some false))) = some r := by rw [if_pos rfl] at H; exact H
            clear H
            have H := H1
            clear H1
            replace H := Option.bind_eq_some_iff.mp H
            obtain ⟨t134, A240, H⟩ := H
            replace H : (if t134 = true then ((spec_l1In.f a0_4 0 z0).bind fun t135 => (if t135 = true then ((spec_l2Num.f kj12 a0_0 a0_5 t131).bind fun t136 => (some t136)) else (some false))) else (some false)) = some r := H
            have A24 := A_ A240
            clear A240
            by_cases c25 : t134 = true
            ·subst c25
             have H1 : ((spec_l1In.f a0_4 0 z0).bind fun t135 => (if t135 = true then ((spec_l2Num.f kj12 a0_0 a0_5 t131).bind fun t136 => (some t136)) else (some false))) = some r := by rw [if_pos rfl] at H; exact H
             clear H
             have H := H1
             clear H1
             replace H := Option.bind_eq_some_iff.mp H
             obtain ⟨t135, A260, H⟩ := H
             replace H : (if t135 = true then ((spec_l2Num.f kj12 a0_0 a0_5 t131).bind fun t136 => (some t136)) else (some false)) = some r := H
             have A26 := A_ A260
             clear A260
             by_cases c27 : t135 = true
             ·subst c27
              have H1 : ((spec_l2Num.f kj12 a0_0 a0_5 t131).bind fun t136 => (some t136)) = some r := by rw [if_pos rfl] at H; exact H
              clear H
              have H := H1
              clear H1
              replace H := Option.bind_eq_some_iff.mp H
              obtain ⟨t136, A280, H⟩ := H
              replace H : (some t136) = some r := H
              have A28 := A_ A280
              clear A280
              obtain rfl := Option.some.inj H
              have hcz29_0 : wc.cell? ⟨gb125, 0, none⟩ = some (.int .i64 a0_0) := (bC_ z.out 0).trans rfl
              have hcz29_1 : wc.cell? ⟨gb125, 1, none⟩ = some (.int .i64 a0_1) := (bC_ z.out 1).trans rfl
              have hcz29_2 : wc.cell? ⟨gb125, 2, none⟩ = some (.int .i64 a0_2) := (bC_ z.out 2).trans rfl
              have hcz29_3 : wc.cell? ⟨gb125, 3, none⟩ = some (.int .i64 a0_3) := (bC_ z.out 3).trans rfl
              have hcz29_4 : wc.cell? ⟨gb125, 4, none⟩ = some (.int .i64 a0_4) := (bC_ z.out 4).trans rfl
              have hcz29_5 : wc.cell? ⟨gb125, 5, none⟩ = some (.int .i64 a0_5) := (bC_ z.out 5).trans rfl
              have hfz29_0 := bF_ z.out 0
              have hfz29_1 := bF_ z.out 1
              have hfz29_2 := bF_ z.out 2
              have hfz29_3 := bF_ z.out 3
              have hfz29_4 := bF_ z.out 4
              have hfz29_5 := bF_ z.out 5
              go_wp2_with (first | (go_at_call 77; (with_reducible refine (spec_l2Reg.calls a0_3 true _ A24.out).mono ?_); rintro e w' ⟨rfl, ⟨nd, rfl⟩⟩) | (go_at_call 47; (with_reducible refine (spec_l1In.calls a0_4 0 z0 true _ A26.out).mono ?_); rintro e w' ⟨rfl, ⟨nd, rfl⟩⟩) | (go_at_call 78; (with_reducible refine (spec_l2Num.calls kj12 a0_0 a0_5 t131 t136 _ A28.out).mono ?_); rintro e w' ⟨rfl, ⟨nd, rfl⟩⟩))
              go_ret
              exact ⟨by first | rfl | (simp [errW_none, errW_some] <;> rfl) | (simp [*, errW_none, errW_some] <;> rfl), by repeat (ya_)⟩
             ·replace c27 := Bool.eq_false_iff.mpr c27
              subst c27
              have H1 : (some false) = some r := by rw [if_neg (show ¬ (false = true) by decide)] at H; exact H
              clear H
              have H := H1
              clear H1
              obtain rfl := Option.some.inj H
              have hcz30_0 : wc.cell? ⟨gb125, 0, none⟩ = some (.int .i64 a0_0) := (bC_ z.out 0).trans rfl
              have hcz30_1 : wc.cell? ⟨gb125, 1, none⟩ = some (.int .i64 a0_1) := (bC_ z.out 1).trans rfl
              have hcz30_2 : wc.cell? ⟨gb125, 2, none⟩ = some (.int .i64 a0_2) := (bC_ z.out 2).trans rfl
              have hcz30_3 : wc.cell? ⟨gb125, 3, none⟩ = some (.int .i64 a0_3) := (bC_ z.out 3).trans rfl
              have hcz30_4 : wc.cell? ⟨gb125, 4, none⟩ = some (.int .i64 a0_4) := (bC_ z.out 4).trans rfl
              have hcz30_5 : wc.cell? ⟨gb125, 5, none⟩ = some (.int .i64 a0_5) := (bC_ z.out 5).trans rfl
              have hfz30_0 := bF_ z.out 0
              have hfz30_1 := bF_ z.out 1
              have hfz30_2 := bF_ z.out 2
              have hfz30_3 := bF_ z.out 3
              have hfz30_4 := bF_ z.out 4
              have hfz30_5 := bF_ z.out 5
              go_wp2_with (first | (go_at_call 77; (with_reducible refine (spec_l2Reg.calls a0_3 true _ A24.out).mono ?_); rintro e w' ⟨rfl, ⟨nd, rfl⟩⟩) | (go_at_call 47; (with_reducible refine (spec_l1In.calls a0_4 0 z0 false _ A26.out).mono ?_); rintro e w' ⟨rfl, ⟨nd, rfl⟩⟩))
              go_ret
              exact ⟨by first | rfl | (simp [errW_none, errW_some] <;> rfl) | (simp [*, errW_none, errW_some] <;> rfl), by repeat (ya_)⟩
            ·replace c25 := Bool.eq_false_iff.mpr c25
             subst c25
             have H1 : (some false) = some r := by rw [if_neg (show ¬ (false = true) by decide)] at H; exact H
             clear H
             have H := H1
             clear H1
             obtain rfl := Option.some.inj H
             have hcz31_0 : wc.cell? ⟨gb125, 0, none⟩ = some (.int .i64 a0_0) := (bC_ z.out 0).trans rfl
             have hcz31_1 : wc.cell? ⟨gb125, 1, none⟩ = some (.int .i64 a0_1) := (bC_ z.out 1).trans rfl
             have hcz31_2 : wc.cell? ⟨gb125, 2, none⟩ = some (.int .i64 a0_2) := (bC_ z.out 2).trans rfl
             have hcz31_3 : wc.cell? ⟨gb125, 3, none⟩ = some (.int .i64 a0_3) := (bC_ z.out 3).trans rfl
             have hcz31_4 : wc.cell? ⟨gb125, 4, none⟩ = some (.int .i64 a0_4) := (bC_ z.out 4).trans rfl
             have hcz31_5 : wc.cell? ⟨gb125, 5, none⟩ = some (.int .i64 a0_5) := (bC_ z.out 5).trans rfl
             have hfz31_0 := bF_ z.out 0
             have hfz31_1 := bF_ z.out 1
             have hfz31_2 := bF_ z.out 2
             have hfz31_3 := bF_ z.out 3
             have hfz31_4 := bF_ z.out 4
             have hfz31_5 := bF_ z.out 5
             go_wp2_with (first | (go_at_call 77; (with_reducible refine (spec_l2Reg.calls a0_3 false _ A24.out).mono ?_); rintro e w' ⟨rfl, ⟨nd, rfl⟩⟩))
             go_ret
             exact ⟨by first | rfl | (simp [errW_none, errW_some] <;> rfl) | (simp [*, errW_none, errW_some] <;> rfl), by repeat (ya_)⟩
           ·replace c23 := Bool.eq_false_iff.mpr c23
            subst c23
            have H1 : (some false) = some r := by rw [if_neg (show ¬ (false = true) by decide)] at H; exact H
            clear H
            have H := H1
            clear H1
            obtain rfl := Option.some.inj H
            have hcz32_0 : wc.cell? ⟨gb125, 0, none⟩ = some (.int .i64 a0_0) := (bC_ z.out 0).trans rfl
            have hcz32_1 : wc.cell? ⟨gb125, 1, none⟩ = some (.int .i64 a0_1) := (bC_ z.out 1).trans rfl
            have hcz32_2 : wc.cell? ⟨gb125, 2, none⟩ = some (.int .i64 a0_2) := (bC_ z.out 2).trans rfl
            have hcz32_3 : wc.cell? ⟨gb125, 3, none⟩ = some (.int .i64 a0_3) := (bC_ z.out 3).trans rfl
            have hcz32_4 : wc.cell? ⟨gb125, 4, none⟩ = some (.int .i64 a0_4) := (bC_ z.out 4).trans rfl
            have hcz32_5 : wc.cell? ⟨gb125, 5, none⟩ = some (.int .i64 a0_5) := (bC_ z.out 5).trans rfl
            have hfz32_0 := bF_ z.out 0
            have hfz32_1 := bF_ z.out 1
            have hfz32_2 := bF_ z.out 2
            have hfz32_3 := bF_ z.out 3
            have hfz32_4 := bF_ z.out 4
            have hfz32_5 := bF_ z.out 5
            go_wp2
            go_ret
            exact ⟨by first | rfl | (simp [errW_none, errW_some] <;> rfl) | (simp [*, errW_none, errW_some] <;> rfl), by repeat (ya_)⟩
         ·rw [if_neg c16] at H
          have c16b0 : (a0_2 == 0) = false := beq_eq_false_iff_ne.mpr c16
          have c16b1 : (a0_2 != 0) = true := bne_iff_ne.mpr c16
          by_cases c33 : t128 = true
          ·subst c33
           have H1 : ((spec_l2Reg.f a0_2).bind fun t137 => (if t137 = true then (if a0_3 = 0 then ((spec_l1In.f a0_4 0 z0).bind fun t138 => (if t138 = true then ((spec_l2Num.f kj12 a0_0 a0_5 t131).bind fun t139 => (some t139)) else (some false))) else (if t129 = true then ((spec_l2Reg.f a0_3).bind fun t140 => (if t140 = true then ((spec_l1In.f a0_4 0 z0).bind fun t141 => (if t141 = true then ((spec_l2Num.f kj12 a0_0 a0_5 t131).bind fun t142 => (some t142)) else (some false))) else (some false))) else (some false))) else (some false))) = some r := by rw [if_pos rfl] at H; exact H
           clear H
           have H := H1
           clear H1
           replace H := Option.bind_eq_some_iff.mp H
           obtain ⟨t137, A340, H⟩ := H
           replace H : (if t137 = true then (if a0_3 = 0 then ((spec_l1In.f a0_4 0 z0).bind fun t138 => (if t138 = true then ((spec_l2Num.f kj12 a0_0 a0_5 t131).bind fun t139 => (some t139)) else (some false))) else (if t129 = true then ((spec_l2Reg.f a0_3).bind fun t140 => (if t140 = true then ((spec_l1In.f a0_4 0 z0).bind fun t141 => (if t141 = true then ((spec_l2Num.f kj12 a0_0 a0_5 t131).bind fun t142 => (some t142)) else (some false))) else (some false))) else (some false))) else (some false)) = some r := H
           have A34 := A_ A340
           clear A340
           by_cases c35 : t137 = true
           ·subst c35
            have H1 : (if a0_3 = 0 then ((spec_l1In.f a0_4 0 z0).bind fun t138 => (if t138 = true then ((spec_l2Num.f kj12 a0_0 a0_5 t131).bind fun t139 => (some t139)) else (some false))) else (if t129 = true then ((spec_l2Reg.f a0_3).bind fun t140 => (if t140 = true then ((spec_l1In.f a0_4 0 z0).bind fun t141 => (if t141 = true then ((spec_l2Num.f kj12 a0_0 a0_5 t131).bind fun t142 => (some t142)) else (some false))) else (some false))) else (some false))) = some r := by rw [if_pos rfl] at H; exact H
            clear H
            have H := H1
            clear H1
            by_cases c36 : a0_3 = 0
            ·rw [if_pos c36] at H
             have c36b0 : (a0_3 == 0) = true := beq_iff_eq.mpr c36
             have c36b1 : (a0_3 != 0) = false := bne_eq_false_iff_eq.mpr c36
             clear c36
             replace H := Option.bind_eq_some_iff.mp H
             obtain ⟨t138, A370, H⟩ := H
             replace H : (if t138 = true then ((spec_l2Num.f kj12 a0_0 a0_5 t131).bind fun t139 => (some t139)) else (some false)) = some r := H
             have A37 := A_ A370
             clear A370
             by_cases c38 : t138 = true
             ·subst c38
              have H1 : ((spec_l2Num.f kj12 a0_0 a0_5 t131).bind fun t139 => (some t139)) = some r := by rw [if_pos rfl] at H; exact H
              clear H
              have H := H1
              clear H1
              replace H := Option.bind_eq_some_iff.mp H
              obtain ⟨t139, A390, H⟩ := H
              replace H : (some t139) = some r := H
              have A39 := A_ A390
              clear A390
              obtain rfl := Option.some.inj H
              have hcz40_0 : wc.cell? ⟨gb125, 0, none⟩ = some (.int .i64 a0_0) := (bC_ z.out 0).trans rfl
              have hcz40_1 : wc.cell? ⟨gb125, 1, none⟩ = some (.int .i64 a0_1) := (bC_ z.out 1).trans rfl
              have hcz40_2 : wc.cell? ⟨gb125, 2, none⟩ = some (.int .i64 a0_2) := (bC_ z.out 2).trans rfl
              have hcz40_3 : wc.cell? ⟨gb125, 3, none⟩ = some (.int .i64 a0_3) := (bC_ z.out 3).trans rfl
              have hcz40_4 : wc.cell? ⟨gb125, 4, none⟩ = some (.int .i64 a0_4) := (bC_ z.out 4).trans rfl
              have hcz40_5 : wc.cell? ⟨gb125, 5, none⟩ = some (.int .i64 a0_5) := (bC_ z.out 5).trans rfl
              have hfz40_0 := bF_ z.out 0
              have hfz40_1 := bF_ z.out 1
              have hfz40_2 := bF_ z.out 2
              have hfz40_3 := bF_ z.out 3
              have hfz40_4 := bF_ z.out 4
              have hfz40_5 := bF_ z.out 5
              go_wp2_with (first | (go_at_call 77; (with_reducible refine (spec_l2Reg.calls a0_2 true _ A34.out).mono ?_); rintro e w' ⟨rfl, ⟨nd, rfl⟩⟩) | (go_at_call 47; (with_reducible refine (spec_l1In.calls a0_4 0 z0 true _ A37.out).mono ?_); rintro e w' ⟨rfl, ⟨nd, rfl⟩⟩) | (go_at_call 78; (with_reducible refine (spec_l2Num.calls kj12 a0_0 a0_5 t131 t139 _ A39.out).mono ?_); rintro e w' ⟨rfl, ⟨nd, rfl⟩⟩))
              go_ret
              exact ⟨by first | rfl | (simp [errW_none, errW_some] <;> rfl) | (simp [*, errW_none, errW_some] <;> rfl), by repeat (ya_)⟩
             ·replace c38 := Bool.eq_false_iff.mpr c38
              subst c38
              have H1 : (some false) = some r := by rw [if_neg (show ¬ (false = true) by decide)] at H; exact H
              clear H
              have H := H1
              clear H1
              obtain rfl := Option.some.inj H
              have hcz41_0 : wc.cell? ⟨gb125, 0, none⟩ = some (.int .i64 a0_0) := (bC_ z.out 0).trans rfl
              have hcz41_1 : wc.cell? ⟨gb125, 1, none⟩ = some (.int .i64 a0_1) := (bC_ z.out 1).trans rfl
              have hcz41_2 : wc.cell? ⟨gb125, 2, none⟩ = some (.int .i64 a0_2) := (bC_ z.out 2).trans rfl
              have hcz41_3 : wc.cell? ⟨gb125, 3, none⟩ = some (.int .i64 a0_3) := (bC_ z.out 3).trans rfl
              have hcz41_4 : wc.cell? ⟨gb125, 4, none⟩ = some (.int .i64 a0_4) := (bC_ z.out 4).trans rfl
              have hcz41_5 : wc.cell? ⟨gb125, 5, none⟩ = some (.int .i64 a0_5) := (bC_ z.out 5).trans rfl
              have hfz41_0 := bF_ z.out 0
              have hfz41_1 := bF_ z.out 1
              have hfz41_2 := bF_ z.out 2
              have hfz41_3 := bF_ z.out 3
              have hfz41_4 := bF_ z.out 4
              have hfz41_5 := bF_ z.out 5
              go_wp2_with (first | (go_at_call 77; (with_reducible refine (spec_l2Reg.calls a0_2 true _ A34.out).mono ?_); rintro e w' ⟨rfl, ⟨nd, rfl⟩⟩) | (go_at_call 47; (with_reducible refine (spec_l1In.calls a0_4 0 z0 false _ A37.out).mono ?_); rintro e w' ⟨rfl, ⟨nd, rfl⟩⟩))
              go_ret
              exact ⟨by first | rfl | (simp [errW_none, errW_some] <;> rfl) | (simp [*, errW_none, errW_some] <;> rfl), by repeat (ya_)⟩
            ·rw [if_neg c36] at H
             have c36b0 : (a0_3 == 0) = false := beq_eq_false_iff_ne.mpr c36
             have c36b1 : (a0_3 != 0) = true := bne_iff_ne.mpr c36
             by_cases c42 : t129 = true
             ·subst c42
              have H1 : ((spec_l2Reg.f a0_3).bind fun t140 => (if t140 = true then ((spec_l1In.f a0_4 0 z0).bind fun t141 => (if t141 = true then ((spec_l2Num.f kj12 a0_0 a0_5 t131).bind fun t142 => (some t142)) else (some false))) else (some false))) = some r := by rw [if_pos rfl] at H; exact H
              clear H
              have H := H1
              clear H1
              replace H := Option.bind_eq_some_iff.mp H
              obtain ⟨t140, A430, H⟩ := H
              replace H : (if t140 = true then ((spec_l1In.f a0_4 0 z0).bind fun t141 => (if t141 = true then ((spec_l2Num.f kj12 a0_0 a0_5 t131).bind fun t142 => (some t142)) else (some false))) else (some false)) = some r := H
              have A43 := A_ A430
              clear A430
              by_cases c44 : t140 = true
              ·subst c44
               have H1 : ((spec_l1In.f a0_4 0 z0).bind fun t141 => (if t141 = true then ((spec_l2Num.f kj12 a0_0 a0_5 t131).bind fun t142 => (some t142)) else (some false))) = some r := by rw [if_pos rfl] at H; exact H
               clear H
               have H := H1
               clear H1
               replace H := Option.bind_eq_some_iff.mp H
               obtain ⟨t141, A450, H⟩ := H
               replace H : (if t141 = true then ((spec_l2Num.f kj12 a0_0 a0_5 t131).bind fun t142 => (some t142)) else (some false)) = some r := H
               have A45 := A_ A450
               clear A450
               by_cases c46 : t141 = true
               ·subst c46
                have H1 : ((spec_l2Num.f kj12 a0_0 a0_5 t131).bind fun t142 => (some t142)) = some r := by rw [if_pos rfl] at H; exact H
                clear H
                have H := H1
                clear H1
                replace H := Option.bind_eq_some_iff.mp H
                obtain ⟨t142, A470, H⟩ := H
                replace H : (some t142) = some r := H
                have A47 := A_ A470
                clear A470
                obtain rfl := Option.some.inj H
                have hcz48_0 : wc.cell? ⟨gb125, 0, none⟩ = some (.int .i64 a0_0) := (bC_ z.out 0).trans rfl
                have hcz48_1 : wc.cell? ⟨gb125, 1, none⟩ = some (.int .i64 a0_1) := (bC_ z.out 1).trans rfl
                have hcz48_2 : wc.cell? ⟨gb125, 2, none⟩ = some (.int .i64 a0_2) := (bC_ z.out 2).trans rfl
                have hcz48_3 : wc.cell? ⟨gb125, 3, none⟩ = some (.int .i64 a0_3) := (bC_ z.out 3).trans rfl
                have hcz48_4 : wc.cell? ⟨gb125, 4, none⟩ = some (.int .i64 a0_4) := (bC_ z.out 4).trans rfl
                have hcz48_5 : wc.cell? ⟨gb125, 5, none⟩ = some (.int .i64 a0_5) := (bC_ z.out 5).trans rfl
                have hfz48_0 := bF_ z.out 0
                have hfz48_1 := bF_ z.out 1
                have hfz48_2 := bF_ z.out 2
                have hfz48_3 := bF_ z.out 3
                have hfz48_4 := bF_ z.out 4
                have hfz48_5 := bF_ z.out 5
                go_wp2_with (first | (go_at_call 77; (with_reducible refine (spec_l2Reg.calls a0_2 true _ A34.out).mono ?_); rintro e w' ⟨rfl, ⟨nd, rfl⟩⟩) | (go_at_call 77; (with_reducible refine (spec_l2Reg.calls a0_3 true _ A43.out).mono ?_); rintro e w' ⟨rfl, ⟨nd, rfl⟩⟩) | (go_at_call 47; (with_reducible refine (spec_l1In.calls a0_4 0 z0 true _ A45.out).mono ?_); rintro e w' ⟨rfl, ⟨nd, rfl⟩⟩) | (go_at_call 78; (with_reducible refine (spec_l2Num.calls kj12 a0_0 a0_5 t131 t142 _ A47.out).mono ?_); rintro e w' ⟨rfl, ⟨nd, rfl⟩⟩))
                go_ret
                exact ⟨by first | rfl | (simp [errW_none, errW_some] <;> rfl) | (simp [*, errW_none, errW_some] <;> rfl), by repeat (ya_)⟩
               ·replace c46 := Bool.eq_false_iff.mpr c46
                subst c46
                have H1 : (some false) = some r := by rw [if_neg (show ¬ (false = true) by decide)] at H; exact H
                clear H
                have H := H1
                clear H1
                obtain rfl := Option.some.inj H
                have hcz49_0 : wc.cell? ⟨gb125, 0, none⟩ = some (.int .i64 a0_0) := (bC_ z.out 0).trans rfl
                have hcz49_1 : wc.cell? ⟨gb125, 1, none⟩ = some (.int .i64 a0_1) := (bC_ z.out 1).trans rfl
                have hcz49_2 : wc.cell? ⟨gb125, 2, none⟩ = some (.int .i64 a0_2) := (bC_ z.out 2).trans rfl
                have hcz49_3 : wc.cell? ⟨gb125, 3, none⟩ = some (.int .i64 a0_3) := (bC_ z.out 3).trans rfl
                have hcz49_4 : wc.cell? ⟨gb125, 4, none⟩ = some (.int .i64 a0_4) := (bC_ z.out 4).trans rfl
                have hcz49_5 : wc.cell? ⟨gb125, 5, none⟩ = some (.int .i64 a0_5) := (bC_ z.out 5).trans rfl
                have hfz49_0 := bF_ z.out 0
                have hfz49_1 := bF_ z.out 1
                have hfz49_2 := bF_ z.out 2
                have hfz49_3 := bF_ z.out 3
                have hfz49_4 := bF_ z.out 4
                have hfz49_5 := bF_ z.out 5
                go_wp2_with (first | (go_at_call 77; (with_reducible refine (spec_l2Reg.calls a0_2 true _ A34.out).mono ?_); rintro e w' ⟨rfl, ⟨nd, rfl⟩⟩) | (go_at_call 77; (with_reducible refine (spec_l2Reg.calls a0_3 true _ A43.out).mono ?_); rintro e w' ⟨rfl, ⟨nd, rfl⟩⟩) | (go_at_call 47; (with_reducible refine (spec_l1In.calls a0_4 0 z0 false _ A45.out).mono ?_); rintro e w' ⟨rfl, ⟨nd, rfl⟩⟩))
                go_ret
                exact ⟨by first | rfl | (simp [errW_none, errW_some] <;> rfl) | (simp [*, errW_none, errW_some] <;> rfl), by repeat (ya_)⟩
              ·replace c44 := Bool.eq_false_iff.mpr c44
               subst c44
               have H1 : (some false) = some r := by rw [if_neg (show ¬ (false = true) by decide)] at H; exact H
               clear H
               have H := H1
               clear H1
               obtain rfl := Option.some.inj H
               have hcz50_0 : wc.cell? ⟨gb125, 0, none⟩ = some (.int .i64 a0_0) := (bC_ z.out 0).trans rfl
               have hcz50_1 : wc.cell? ⟨gb125, 1, none⟩ = some (.int .i64 a0_1) := (bC_ z.out 1).trans rfl
               have hcz50_2 : wc.cell? ⟨gb125, 2, none⟩ = some (.int .i64 a0_2) := (bC_ z.out 2).trans rfl
               have hcz50_3 : wc.cell? ⟨gb125, 3, none⟩ = some (.int .i64 a0_3) := (bC_ z.out 3).trans rfl
               have hcz50_4 : wc.cell? ⟨gb125, 4, none⟩ = some (.int .i64 a0_4) := (bC_ z.out 4).trans rfl
               have hcz50_5 : wc.cell? ⟨gb125, 5, none⟩ = some (.int .i64 a0_5) := (bC_ z.out 5).trans rfl
               have hfz50_0 := bF_ z.out 0
               have hfz50_1 := bF_ z.out 1
               have hfz50_2 := bF_ z.out 2
               have hfz50_3 := bF_ z.out 3
               have hfz50_4 := bF_ z.out 4
               have hfz50_5 := bF_ z.out 5
               go_wp2_with (first | (go_at_call 77; (with_reducible refine (spec_l2Reg.calls a0_2 true _ A34.out).mono ?_); rintro e w' ⟨rfl, ⟨nd, rfl⟩⟩) | (go_at_call 77; (with_reducible refine (spec_l2Reg.calls a0_3 false _ A43.out).mono ?_); rintro e w' ⟨rfl, ⟨nd, rfl⟩⟩))
               go_ret
               exact ⟨by first | rfl | (simp [errW_none, errW_some] <;> rfl) | (simp [*, errW_none, errW_some] <;> rfl), by repeat (ya_)⟩
             ·replace c42 := Bool.eq_false_iff.mpr c42
              subst c42
              have H1 : (some false) = some r := by rw [if_neg (show ¬ (false = true) by decide)] at H; exact H
              clear H
              have H := H1
              clear H1
              obtain rfl := Option.some.inj H
              have hcz51_0 : wc.cell? ⟨gb125, 0, none⟩ = some (.int .i64 a0_0) := (bC_ z.out 0).trans rfl
              have hcz51_1 : wc.cell? ⟨gb125, 1, none⟩ = some (.int .i64 a0_1) := (bC_ z.out 1).trans rfl
              have hcz51_2 : wc.cell? ⟨gb125, 2, none⟩ = some (.int .i64 a0_2) := (bC_ z.out 2).trans rfl
              have hcz51_3 : wc.cell? ⟨gb125, 3, none⟩ = some (.int .i64 a0_3) := (bC_ z.out 3).trans rfl
              have hcz51_4 : wc.cell? ⟨gb125, 4, none⟩ = some (.int .i64 a0_4) := (bC_ z.out 4).trans rfl
              have hcz51_5 : wc.cell? ⟨gb125, 5, none⟩ = some (.int .i64 a0_5) := (bC_ z.out 5).trans rfl
              have hfz51_0 := bF_ z.out 0
              have hfz51_1 := bF_ z.out 1
              have hfz51_2 := bF_ z.out 2
              have hfz51_3 := bF_ z.out 3
              have hfz51_4 := bF_ z.out 4
              have hfz51_5 := bF_ z.out 5
              go_wp2_with (first | (go_at_call 77; (with_reducible refine (spec_l2Reg.calls a0_2 true _ A34.out).mono ?_); rintro e w' ⟨rfl, ⟨nd, rfl⟩⟩))
              go_ret
              exact ⟨by first | rfl | (simp [errW_none, errW_some] <;> rfl) | (simp [*, errW_none, errW_some] <;> rfl), by repeat (ya_)⟩
           ·replace c35 := Bool.eq_false_iff.mpr c35
            subst c35
            have H1 : (some false) = some r := by rw [if_neg (show ¬ (false = true) by decide)] at H; exact H
            clear H
            have H := H1
            clear H1
            obtain rfl := Option.some.inj H
            have hcz52_0 : wc.cell? ⟨gb125, 0, none⟩ = some (.int .i64 a0_0) := (bC_ z.out 0).trans rfl
            have hcz52_1 : wc.cell? ⟨gb125, 1, none⟩ = some (.int .i64 a0_1) := (bC_ z.out 1).trans rfl
            have hcz52_2 : wc.cell? ⟨gb125, 2, none⟩ = some (.int .i64 a0_2) := (bC_ z.out 2).trans rfl
            have hcz52_3 : wc.cell? ⟨gb125, 3, none⟩ = some (.int .i64 a0_3) := (bC_ z.out 3).trans rfl
            have hcz52_4 : wc.cell? ⟨gb125, 4, none⟩ = some (.int .i64 a0_4) := (bC_ z.out 4).trans rfl
            have hcz52_5 : wc.cell? ⟨gb125, 5, none⟩ = some (.int .i64 a0_5) := (bC_ z.out 5).trans rfl
            have hfz52_0 := bF_ z.out 0
            have hfz52_1 := bF_ z.out 1
            have hfz52_2 := bF_ z.out 2
            have hfz52_3 := bF_ z.out 3
            have hfz52_4 := bF_ z.out 4
            have hfz52_5 := bF_ z.out 5
            go_wp2_with (first | (go_at_call 77; (with_reducible refine (spec_l2Reg.calls a0_2 false _ A34.out).mono ?_); rintro e w' ⟨rfl, ⟨nd, rfl⟩⟩))
            go_ret
            exact ⟨by first | rfl | (simp [errW_none, errW_some] <;> rfl) | (simp [*, errW_none, errW_some] <;> rfl), by repeat (ya_)⟩
          ·replace c33 := Bool.eq_false_iff.mpr c33
           subst c33
           have H1 : (some false) = some r := by rw [if_neg (show ¬ (false = true) by decide)] at H; exact H
           clear H
           have H := H1
           clear H1
           obtain rfl := Option.some.inj H
           have hcz53_0 : wc.cell? ⟨gb125, 0, none⟩ = some (.int .i64 a0_0) := (bC_ z.out 0).trans rfl
           have hcz53_1 : wc.cell? ⟨gb125, 1, none⟩ = some (.int .i64 a0_1) := (bC_ z.out 1).trans rfl
           have hcz53_2 : wc.cell? ⟨gb125, 2, none⟩ = some (.int .i64 a0_2) := (bC_ z.out 2).trans rfl
           have hcz53_3 : wc.cell? ⟨gb125, 3, none⟩ = some (.int .i64 a0_3) := (bC_ z.out 3).trans rfl
           have hcz53_4 : wc.cell? ⟨gb125, 4, none⟩ = some (.int .i64 a0_4) := (bC_ z.out 4).trans rfl
           have hcz53_5 : wc.cell? ⟨gb125, 5, none⟩ = some (.int .i64 a0_5) := (bC_ z.out 5).trans rfl
           have hfz53_0 := bF_ z.out 0
           have hfz53_1 := bF_ z.out 1
           have hfz53_2 := bF_ z.out 2
           have hfz53_3 := bF_ z.out 3
           have hfz53_4 := bF_ z.out 4
           have hfz53_5 := bF_ z.out 5
           go_wp2
           go_ret
           exact ⟨by first | rfl | (simp [errW_none, errW_some] <;> rfl) | (simp [*, errW_none, errW_some] <;> rfl), by repeat (ya_)⟩
        ·rw [if_neg c15] at H
         have c15b0 : (a0_1 == 0) = false := beq_eq_false_iff_ne.mpr c15
         have c15b1 : (a0_1 != 0) = true := bne_iff_ne.mpr c15
         by_cases c54 : t127 = true
         ·subst c54
          have H1 : ((spec_l2Reg.f a0_1).bind fun t143 => (if t143 = true then (if a0_2 = 0 then (if a0_3 = 0 then ((spec_l1In.f a0_4 0 z0).bind fun t144 => (if t144 = true then ((spec_l2Num.f kj12 a0_0 a0_5 t131).bind fun t145 => (some t145)) else (some false))) else (if t129 = true then ((spec_l2Reg.f a0_3).bind fun t146 => (if t146 = true then ((spec_l1In.f a0_4 0 z0).bind fun t147 => (if t147 = true then ((spec_l2Num.f kj12 a0_0 a0_5 t131).bind fun t148 => (some t148)) else (some false))) else (some false))) else (some false))) else (if t128 = true then ((spec_l2Reg.f a0_2).bind fun t149 => (if t149 = true then (if a0_3 = 0 then ((spec_l1In.f a0_4 0 z0).bind fun t150 => (if t150 = true then ((spec_l2Num.f kj12 a0_0 a0_5 t131).bind fun t151 => (some t151)) else (some false))) else (if t129 = true then ((spec_l2Reg.f a0_3).bind fun t152 => (if t152 = true then ((spec_l1In.f a0_4 0 z0).bind fun t153 => (if t153 = true then ((spec_l2Num.f kj12 a0_0 a0_5 t131).bind fun t154 => (some t154)) else (some false))) else (some false))) else (some false))) else (some false))) else (some false))) else (some false))) = some r := by rw [if_pos rfl] at H; exact H
          clear H
          have H := H1
          clear H1
          replace H := Option.bind_eq_some_iff.mp H
          obtain ⟨t143, A550, H⟩ := H
          replace H : (if t143 = true then (if a0_2 = 0 then (if a0_3 = 0 then ((spec_l1In.f a0_4 0 z0).bind fun t144 => (if t144 = true then ((spec_l2Num.f kj12 a0_0 a0_5 t131).bind fun t145 => (some t145)) else (some false))) else (if t129 = true then ((spec_l2Reg.f a0_3).bind fun t146 => (if t146 = true then ((spec_l1In.f a0_4 0 z0).bind fun t147 => (if t147 = true then ((spec_l2Num.f kj12 a0_0 a0_5 t131).bind fun t148 => (some t148)) else (some false))) else (some false))) else (some false))) else (if t128 = true then ((spec_l2Reg.f a0_2).bind fun t149 => (if t149 = true then (if a0_3 = 0 then ((spec_l1In.f a0_4 0 z0).bind fun t150 => (if t150 = true then ((spec_l2Num.f kj12 a0_0 a0_5 t131).bind fun t151 => (some t151)) else (some false))) else (if t129 = true then ((spec_l2Reg.f a0_3).bind fun t152 => (if t152 = true then ((spec_l1In.f a0_4 0 z0).bind fun t153 => (if t153 = true then ((spec_l2Num.f kj12 a0_0 a0_5 t131).bind fun t154 => (some t154)) else (some false))) else (some false))) else (some false))) else (some false))) else (some false))) else (some false)) = some r := H
          have A55 := A_ A550
          clear A550
          by_cases c56 : t143 = true
          ·subst c56
           have H1 : (if a0_2 = 0 then (if a0_3 = 0 then ((spec_l1In.f a0_4 0 z0).bind fun t144 => (if t144 = true then ((spec_l2Num.f kj12 a0_0 a0_5 t131).bind fun t145 => (some t145)) else (some false))) else (if t129 = true then ((spec_l2Reg.f a0_3).bind fun t146 => (if t146 = true then ((spec_l1In.f a0_4 0 z0).bind fun t147 => (if t147 = true then ((spec_l2Num.f kj12 a0_0 a0_5 t131).bind fun t148 => (some t148)) else (some false))) else (some false))) else (some false))) else (if t128 = true then ((spec_l2Reg.f a0_2).bind fun t149 => (if t149 = true then (if a0_3 = 0 then ((spec_l1In.f a0_4 0 z0).bind fun t150 => (if t150 = true then ((spec_l2Num.f kj12 a0_0 a0_5 t131).bind fun t151 => (some t151)) else (some false))) else (if t129 = true then ((spec_l2Reg.f a0_3).bind fun t152 => (if t152 = true then ((spec_l1In.f a0_4 0 z0).bind fun t153 => (if t153 = true then ((spec_l2Num.f kj12 a0_0 a0_5 t131).bind fun t154 => (some t154)) else (some false))) else (some false))) else (some false))) else (some false))) else (some false))) = some r := by rw [if_pos rfl] at H; exact H
           clear H
           have H := H1
           clear H1
           by_cases c57 : a0_2 = 0
           ·rw [if_pos c57] at H
            have c57b0 : (a0_2 == 0) = true := beq_iff_eq.mpr c57
            have c57b1 : (a0_2 != 0) = false := bne_eq_false_iff_eq.mpr c57
            clear c57
            by_cases c58 : a0_3 = 0
            ·rw [if_pos c58] at H
             have c58b0 : (a0_3 == 0) = true := beq_iff_eq.mpr c58
             have c58b1 : (a0_3 != 0) = false := bne_eq_false_iff_eq.mpr c58
             clear c58
             replace H := Option.bind_eq_some_iff.mp H
             obtain ⟨t144, A590, H⟩ := H
             replace H : (if t144 = true then ((spec_l2Num.f kj12 a0_0 a0_5 t131).bind fun t145 => (some t145)) else (some false)) = some r := H
             have A59 := A_ A590
             clear A590
             by_cases c60 : t144 = true
             ·subst c60
              have H1 : ((spec_l2Num.f kj12 a0_0 a0_5 t131).bind fun t145 => (some t145)) = some r := by rw [if_pos rfl] at H; exact H
              clear H
              have H := H1
              clear H1
              replace H := Option.bind_eq_some_iff.mp H
              obtain ⟨t145, A610, H⟩ := H
              replace H : (some t145) = some r := H
              have A61 := A_ A610
              clear A610
              obtain rfl := Option.some.inj H
              have hcz62_0 : wc.cell? ⟨gb125, 0, none⟩ = some (.int .i64 a0_0) := (bC_ z.out 0).trans rfl
              have hcz62_1 : wc.cell? ⟨gb125, 1, none⟩ = some (.int .i64 a0_1) := (bC_ z.out 1).trans rfl
              have hcz62_2 : wc.cell? ⟨gb125, 2, none⟩ = some (.int .i64 a0_2) := (bC_ z.out 2).trans rfl
              have hcz62_3 : wc.cell? ⟨gb125, 3, none⟩ = some (.int .i64 a0_3) := (bC_ z.out 3).trans rfl
              have hcz62_4 : wc.cell? ⟨gb125, 4, none⟩ = some (.int .i64 a0_4) := (bC_ z.out 4).trans rfl
              have hcz62_5 : wc.cell? ⟨gb125, 5, none⟩ = some (.int .i64 a0_5) := (bC_ z.out 5).trans rfl
              have hfz62_0 := bF_ z.out 0
              have hfz62_1 := bF_ z.out 1
              have hfz62_2 := bF_ z.out 2
              have hfz62_3 := bF_ z.out 3
              have hfz62_4 := bF_ z.out 4
              have hfz62_5 := bF_ z.out 5
              go_wp2_with (first | (go_at_call 77; (yaa_); rintro e w' ⟨rfl, ⟨nd, rfl⟩⟩) | (go_at_call 47; (with_reducible refine (spec_l1In.calls a0_4 0 z0 true _ A59.out).mono ?_); rintro e w' ⟨rfl, ⟨nd, rfl⟩⟩) | (go_at_call 78; (with_reducible refine (spec_l2Num.calls kj12 a0_0 a0_5 t131 t145 _ A61.out).mono ?_); rintro e w' ⟨rfl, ⟨nd, rfl⟩⟩))
              go_ret
              exact ⟨by first | rfl | (simp [errW_none, errW_some] <;> rfl) | (simp [*, errW_none, errW_some] <;> rfl), by repeat (ya_)⟩
             ·replace c60 := Bool.eq_false_iff.mpr c60
              subst c60
              have H1 : (some false) = some r := by rw [if_neg (show ¬ (false = true) by decide)] at H; exact H
              clear H
              have H := H1
              clear H1
              obtain rfl := Option.some.inj H
              have hcz63_0 : wc.cell? ⟨gb125, 0, none⟩ = some (.int .i64 a0_0) := (bC_ z.out 0).trans rfl
              have hcz63_1 : wc.cell? ⟨gb125, 1, none⟩ = some (.int .i64 a0_1) := (bC_ z.out 1).trans rfl
              have hcz63_2 : wc.cell? ⟨gb125, 2, none⟩ = some (.int .i64 a0_2) := (bC_ z.out 2).trans rfl
              have hcz63_3 : wc.cell? ⟨gb125, 3, none⟩ = some (.int .i64 a0_3) := (bC_ z.out 3).trans rfl
              have hcz63_4 : wc.cell? ⟨gb125, 4, none⟩ = some (.int .i64 a0_4) := (bC_ z.out 4).trans rfl
              have hcz63_5 : wc.cell? ⟨gb125, 5, none⟩ = some (.int .i64 a0_5) := (bC_ z.out 5).trans rfl
              have hfz63_0 := bF_ z.out 0
              have hfz63_1 := bF_ z.out 1
              have hfz63_2 := bF_ z.out 2
              have hfz63_3 := bF_ z.out 3
              have hfz63_4 := bF_ z.out 4
              have hfz63_5 := bF_ z.out 5
              go_wp2_with (first | (go_at_call 77; (yaa_); rintro e w' ⟨rfl, ⟨nd, rfl⟩⟩) | (go_at_call 47; (with_reducible refine (spec_l1In.calls a0_4 0 z0 false _ A59.out).mono ?_); rintro e w' ⟨rfl, ⟨nd, rfl⟩⟩))
              go_ret
              exact ⟨by first | rfl | (simp [errW_none, errW_some] <;> rfl) | (simp [*, errW_none, errW_some] <;> rfl), by repeat (ya_)⟩
            ·rw [if_neg c58] at H
             have c58b0 : (a0_3 == 0) = false := beq_eq_false_iff_ne.mpr c58
             have c58b1 : (a0_3 != 0) = true := bne_iff_ne.mpr c58
             by_cases c64 : t129 = true
             ·subst c64
              have H1 : ((spec_l2Reg.f a0_3).bind fun t146 => (if t146 = true then ((spec_l1In.f a0_4 0 z0).bind fun t147 => (if t147 = true then ((spec_l2Num.f kj12 a0_0 a0_5 t131).bind fun t148 => (some t148)) else (some false))) else (some false))) = some r := by rw [if_pos rfl] at H; exact H
              clear H
              have H := H1
              clear H1
              replace H := Option.bind_eq_some_iff.mp H
              obtain ⟨t146, A650, H⟩ := H
              replace H : (if t146 = true then ((spec_l1In.f a0_4 0 z0).bind fun t147 => (if t147 = true then ((spec_l2Num.f kj12 a0_0 a0_5 t131).bind fun t148 => (some t148)) else (some false))) else (some false)) = some r := H
              have A65 := A_ A650
              clear A650
              by_cases c66 : t146 = true
              ·subst c66
               have H1 : ((spec_l1In.f a0_4 0 z0).bind fun t147 => (if t147 = true then ((spec_l2Num.f kj12 a0_0 a0_5 t131).bind fun t148 => (some t148)) else (some false))) = some r := by rw [if_pos rfl] at H; exact H
               clear H
               have H := H1
               clear H1
               replace H := Option.bind_eq_some_iff.mp H
               obtain ⟨t147, A670, H⟩ := H
               replace H : (if t147 = true then ((spec_l2Num.f kj12 a0_0 a0_5 t131).bind fun t148 => (some t148)) else (some false)) = some r := H
               have A67 := A_ A670
               clear A670
               by_cases c68 : t147 = true
               ·subst c68
                have H1 : ((spec_l2Num.f kj12 a0_0 a0_5 t131).bind fun t148 => (some t148)) = some r := by rw [if_pos rfl] at H; exact H
                clear H
                have H := H1
                clear H1
                replace H := Option.bind_eq_some_iff.mp H
                obtain ⟨t148, A690, H⟩ := H
                replace H : (some t148) = some r := H
                have A69 := A_ A690
                clear A690
                obtain rfl := Option.some.inj H
                have hcz70_0 : wc.cell? ⟨gb125, 0, none⟩ = some (.int .i64 a0_0) := (bC_ z.out 0).trans rfl
                have hcz70_1 : wc.cell? ⟨gb125, 1, none⟩ = some (.int .i64 a0_1) := (bC_ z.out 1).trans rfl
                have hcz70_2 : wc.cell? ⟨gb125, 2, none⟩ = some (.int .i64 a0_2) := (bC_ z.out 2).trans rfl
                have hcz70_3 : wc.cell? ⟨gb125, 3, none⟩ = some (.int .i64 a0_3) := (bC_ z.out 3).trans rfl
                have hcz70_4 : wc.cell? ⟨gb125, 4, none⟩ = some (.int .i64 a0_4) := (bC_ z.out 4).trans rfl
                have hcz70_5 : wc.cell? ⟨gb125, 5, none⟩ = some (.int .i64 a0_5) := (bC_ z.out 5).trans rfl
                have hfz70_0 := bF_ z.out 0
                have hfz70_1 := bF_ z.out 1
                have hfz70_2 := bF_ z.out 2
                have hfz70_3 := bF_ z.out 3
                have hfz70_4 := bF_ z.out 4
                have hfz70_5 := bF_ z.out 5
                go_wp2_with (first | (go_at_call 77; (yaa_); rintro e w' ⟨rfl, ⟨nd, rfl⟩⟩) | (go_at_call 77; (with_reducible refine (spec_l2Reg.calls a0_3 true _ A65.out).mono ?_); rintro e w' ⟨rfl, ⟨nd, rfl⟩⟩) | (go_at_call 47; (with_reducible refine (spec_l1In.calls a0_4 0 z0 true _ A67.out).mono ?_); rintro e w' ⟨rfl, ⟨nd, rfl⟩⟩) | (go_at_call 78; (with_reducible refine (spec_l2Num.calls kj12 a0_0 a0_5 t131 t148 _ A69.out).mono ?_); rintro e w' ⟨rfl, ⟨nd, rfl⟩⟩))
                go_ret
                exact ⟨by first | rfl | (simp [errW_none, errW_some] <;> rfl) | (simp [*, errW_none, errW_some] <;> rfl), by repeat (ya_)⟩
               ·replace c68 := Bool.eq_false_iff.mpr c68
                subst c68
                have H1 : (some false) = some r := by rw [if_neg (show ¬ (false = true) by decide)] at H; exact H
                clear H
                have H := H1
                clear H1
                obtain rfl := Option.some.inj H
                have hcz71_0 : wc.cell? ⟨gb125, 0, none⟩ = some (.int .i64 a0_0) := (bC_ z.out 0).trans rfl
                have hcz71_1 : wc.cell? ⟨gb125, 1, none⟩ = some (.int .i64 a0_1) := (bC_ z.out 1).trans rfl
                have hcz71_2 : wc.cell? ⟨gb125, 2, none⟩ = some (.int .i64 a0_2) := (bC_ z.out 2).trans rfl
                have hcz71_3 : wc.cell? ⟨gb125, 3, none⟩ = some (.int .i64 a0_3) := (bC_ z.out 3).trans rfl
                have hcz71_4 : wc.cell? ⟨gb125, 4, none⟩ = some (.int .i64 a0_4) := (bC_ z.out 4).trans rfl
                have hcz71_5 : wc.cell? ⟨gb125, 5, none⟩ = some (.int .i64 a0_5) := (bC_ z.out 5).trans rfl
                have hfz71_0 := bF_ z.out 0
                have hfz71_1 := bF_ z.out 1
                have hfz71_2 := bF_ z.out 2
                have hfz71_3 := bF_ z.out 3
                have hfz71_4 := bF_ z.out 4
                have hfz71_5 := bF_ z.out 5
                go_wp2_with (first | (go_at_call 77; (yaa_); rintro e w' ⟨rfl, ⟨nd, rfl⟩⟩) | (go_at_call 77; (with_reducible refine (spec_l2Reg.calls a0_3 true _ A65.out).mono ?_); rintro e w' ⟨rfl, ⟨nd, rfl⟩⟩) | (go_at_call 47; (with_reducible refine (spec_l1In.calls a0_4 0 z0 false _ A67.out).mono ?_); rintro e w' ⟨rfl, ⟨nd, rfl⟩⟩))
                go_ret
                exact ⟨by first | rfl | (simp [errW_none, errW_some] <;> rfl) | (simp [*, errW_none, errW_some] <;> rfl), by repeat (ya_)⟩
              ·replace c66 := Bool.eq_false_iff.mpr c66
               subst c66
               have H1 : (some false) = some r := by rw [if_neg (show ¬ (false = true) by decide)] at H; exact H
               clear H
               have H := H1
               clear H1
               obtain rfl := Option.some.inj H
               have hcz72_0 : wc.cell? ⟨gb125, 0, none⟩ = some (.int .i64 a0_0) := (bC_ z.out 0).trans rfl
               have hcz72_1 : wc.cell? ⟨gb125, 1, none⟩ = some (.int .i64 a0_1) := (bC_ z.out 1).trans rfl
               have hcz72_2 : wc.cell? ⟨gb125, 2, none⟩ = some (.int .i64 a0_2) := (bC_ z.out 2).trans rfl
               have hcz72_3 : wc.cell? ⟨gb125, 3, none⟩ = some (.int .i64 a0_3) := (bC_ z.out 3).trans rfl
               have hcz72_4 : wc.cell? ⟨gb125, 4, none⟩ = some (.int .i64 a0_4) := (bC_ z.out 4).trans rfl
               have hcz72_5 : wc.cell? ⟨gb125, 5, none⟩ = some (.int .i64 a0_5) := (bC_ z.out 5).trans rfl
               have hfz72_0 := bF_ z.out 0
               have hfz72_1 := bF_ z.out 1
               have hfz72_2 := bF_ z.out 2
               have hfz72_3 := bF_ z.out 3
               have hfz72_4 := bF_ z.out 4
               have hfz72_5 := bF_ z.out 5
               go_wp2_with (first | (go_at_call 77; (yaa_); rintro e w' ⟨rfl, ⟨nd, rfl⟩⟩) | (go_at_call 77; (with_reducible refine (spec_l2Reg.calls a0_3 false _ A65.out).mono ?_); rintro e w' ⟨rfl, ⟨nd, rfl⟩⟩))
               go_ret
               exact ⟨by first | rfl | (simp [errW_none, errW_some] <;> rfl) | (simp [*, errW_none, errW_some] <;> rfl), by repeat (ya_)⟩
             ·replace c64 := Bool.eq_false_iff.mpr c64
              subst c64
              have H1 : (some false) = some r := by rw [if_neg (show ¬ (false = true) by decide)] at H; exact H
              clear H
              have H := H1
              clear H1
              obtain rfl := Option.some.inj H
              have hcz73_0 : wc.cell? ⟨gb125, 0, none⟩ = some (.int .i64 a0_0) := (bC_ z.out 0).trans rfl
              have hcz73_1 : wc.cell? ⟨gb125, 1, none⟩ = some (.int .i64 a0_1) := (bC_ z.out 1).trans rfl
              have hcz73_2 : wc.cell? ⟨gb125, 2, none⟩ = some (.int .i64 a0_2) := (bC_ z.out 2).trans rfl
              have hcz73_3 : wc.cell? ⟨gb125, 3, none⟩ = some (.int .i64 a0_3) := (bC_ z.out 3).trans rfl
              have hcz73_4 : wc.cell? ⟨gb125, 4, none⟩ = some (.int .i64 a0_4) := (bC_ z.out 4).trans rfl
              have hcz73_5 : wc.cell? ⟨gb125, 5, none⟩ = some (.int .i64 a0_5) := (bC_ z.out 5).trans rfl
              have hfz73_0 := bF_ z.out 0
              have hfz73_1 := bF_ z.out 1
              have hfz73_2 := bF_ z.out 2
              have hfz73_3 := bF_ z.out 3
              have hfz73_4 := bF_ z.out 4
              have hfz73_5 := bF_ z.out 5
              go_wp2_with (first | (go_at_call 77; (yaa_); rintro e w' ⟨rfl, ⟨nd, rfl⟩⟩))
              go_ret
              exact ⟨by first | rfl | (simp [errW_none, errW_some] <;> rfl) | (simp [*, errW_none, errW_some] <;> rfl), by repeat (ya_)⟩
           ·rw [if_neg c57] at H
            have c57b0 : (a0_2 == 0) = false := beq_eq_false_iff_ne.mpr c57
            have c57b1 : (a0_2 != 0) = true := bne_iff_ne.mpr c57
            by_cases c74 : t128 = true
            ·subst c74
             have H1 : ((spec_l2Reg.f a0_2).bind fun t149 => (if t149 = true then (if a0_3 = 0 then ((spec_l1In.f a0_4 0 z0).bind fun t150 => (if t150 = true then ((spec_l2Num.f kj12 a0_0 a0_5 t131).bind fun t151 => (some t151)) else (some false))) else (if t129 = true then ((spec_l2Reg.f a0_3).bind fun t152 => (if t152 = true then ((spec_l1In.f a0_4 0 z0).bind fun t153 => (if t153 = true then ((spec_l2Num.f kj12 a0_0 a0_5 t131).bind fun t154 => (some t154)) else (some false))) else (some false))) else (some false))) else (some false))) = some r := by rw [if_pos rfl] at H; exact H
             clear H
             have H := H1
             clear H1
             replace H := Option.bind_eq_some_iff.mp H
             obtain ⟨t149, A750, H⟩ := H
             replace H : (if t149 = true then (if a0_3 = 0 then ((spec_l1In.f a0_4 0 z0).bind fun t150 => (if t150 = true then ((spec_l2Num.f kj12 a0_0 a0_5 t131).bind fun t151 => (some t151)) else (some false))) else (if t129 = true then ((spec_l2Reg.f a0_3).bind fun t152 => (if t152 = true then ((spec_l1In.f a0_4 0 z0).bind fun t153 => (if t153 = true then ((spec_l2Num.f kj12 a0_0 a0_5 t131).bind fun t154 => (some t154)) else (some false))) else (some false))) else (some false))) else (some false)) = some r := H
             have A75 := A_ A750
             clear A750
             by_cases c76 : t149 = true
             ·subst c76
              have H1 : (if a0_3 = 0 then ((spec_l1In.f a0_4 0 z0).bind fun t150 => (if t150 = true then ((spec_l2Num.f kj12 a0_0 a0_5 t131).bind fun t151 => (some t151)) else (some false))) else (if t129 = true then ((spec_l2Reg.f a0_3).bind fun t152 => (if t152 = true then ((spec_l1In.f a0_4 0 z0).bind fun t153 => (if t153 = true then ((spec_l2Num.f kj12 a0_0 a0_5 t131).bind fun t154 => (some t154)) else (some false))) else (some false))) else (some false))) = some r := by rw [if_pos rfl] at H; exact H
              clear H
              have H := H1
              clear H1
              by_cases c77 : a0_3 = 0
              ·rw [if_pos c77] at H
               have c77b0 : (a0_3 == 0) = true := beq_iff_eq.mpr c77
               have c77b1 : (a0_3 != 0) = false := bne_eq_false_iff_eq.mpr c77
               clear c77
               replace H := Option.bind_eq_some_iff.mp H
               obtain ⟨t150, A780, H⟩ := H
               replace H : (if t150 = true then ((spec_l2Num.f kj12 a0_0 a0_5 t131).bind fun t151 => (some t151)) else (some false)) = some r := H
               have A78 := A_ A780
               clear A780
               by_cases c79 : t150 = true
               ·subst c79
                have H1 : ((spec_l2Num.f kj12 a0_0 a0_5 t131).bind fun t151 => (some t151)) = some r := by rw [if_pos rfl] at H; exact H
                clear H
                have H := H1
                clear H1
                replace H := Option.bind_eq_some_iff.mp H
                obtain ⟨t151, A800, H⟩ := H
                replace H : (some t151) = some r := H
                have A80 := A_ A800
                clear A800
                obtain rfl := Option.some.inj H
                have hcz81_0 : wc.cell? ⟨gb125, 0, none⟩ = some (.int .i64 a0_0) := (bC_ z.out 0).trans rfl
                have hcz81_1 : wc.cell? ⟨gb125, 1, none⟩ = some (.int .i64 a0_1) := (bC_ z.out 1).trans rfl
                have hcz81_2 : wc.cell? ⟨gb125, 2, none⟩ = some (.int .i64 a0_2) := (bC_ z.out 2).trans rfl
                have hcz81_3 : wc.cell? ⟨gb125, 3, none⟩ = some (.int .i64 a0_3) := (bC_ z.out 3).trans rfl
                have hcz81_4 : wc.cell? ⟨gb125, 4, none⟩ = some (.int .i64 a0_4) := (bC_ z.out 4).trans rfl
                have hcz81_5 : wc.cell? ⟨gb125, 5, none⟩ = some (.int .i64 a0_5) := (bC_ z.out 5).trans rfl
                have hfz81_0 := bF_ z.out 0
                have hfz81_1 := bF_ z.out 1
                have hfz81_2 := bF_ z.out 2
                have hfz81_3 := bF_ z.out 3
                have hfz81_4 := bF_ z.out 4
                have hfz81_5 := bF_ z.out 5
                go_wp2_with (first | (go_at_call 77; (yaa_); rintro e w' ⟨rfl, ⟨nd, rfl⟩⟩) | (go_at_call 77; (with_reducible refine (spec_l2Reg.calls a0_2 true _ A75.out).mono ?_); rintro e w' ⟨rfl, ⟨nd, rfl⟩⟩) | (go_at_call 47; (with_reducible refine (spec_l1In.calls a0_4 0 z0 true _ A78.out).mono ?_); rintro e w' ⟨rfl, ⟨nd, rfl⟩⟩) | (go_at_call 78; (with_reducible refine (spec_l2Num.calls kj12 a0_0 a0_5 t131 t151 _ A80.out).mono ?_); rintro e w' ⟨rfl, ⟨nd, rfl⟩⟩))
                go_ret
                exact ⟨by first | rfl | (simp [errW_none, errW_some] <;> rfl) | (simp [*, errW_none, errW_some] <;> rfl), by repeat (ya_)⟩
               ·replace c79 := Bool.eq_false_iff.mpr c79
                subst c79
                have H1 : (some false) = some r := by rw [if_neg (show ¬ (false = true) by decide)] at H; exact H
                clear H
                have H := H1
                clear H1
                obtain rfl := Option.some.inj H
                have hcz82_0 : wc.cell? ⟨gb125, 0, none⟩ = some (.int .i64 a0_0) := (bC_ z.out 0).trans rfl
                have hcz82_1 : wc.cell? ⟨gb125, 1, none⟩ = some (.int .i64 a0_1) := (bC_ z.out 1).trans rfl
                have hcz82_2 : wc.cell? ⟨gb125, 2, none⟩ = some (.int .i64 a0_2) := (bC_ z.out 2).trans rfl
                have hcz82_3 : wc.cell? ⟨gb125, 3, none⟩ = some (.int .i64 a0_3) := (bC_ z.out 3).trans rfl
                have hcz82_4 : wc.cell? ⟨gb125, 4, none⟩ = some (.int .i64 a0_4) := (bC_ z.out 4).trans rfl
                have hcz82_5 : wc.cell? ⟨gb125, 5, none⟩ = some (.int .i64 a0_5) := (bC_ z.out 5).trans rfl
                have hfz82_0 := bF_ z.out 0
                have hfz82_1 := bF_ z.out 1
                have hfz82_2 := bF_ z.out 2
                have hfz82_3 := bF_ z.out 3
                have hfz82_4 := bF_ z.out 4
                have hfz82_5 := bF_ z.out 5
                go_wp2_with (first | (go_at_call 77; (yaa_); rintro e w' ⟨rfl, ⟨nd, rfl⟩⟩) | (go_at_call 77; (with_reducible refine (spec_l2Reg.calls a0_2 true _ A75.out).mono ?_); rintro e w' ⟨rfl, ⟨nd, rfl⟩⟩) | (go_at_call 47; (with_reducible refine (spec_l1In.calls a0_4 0 z0 false _ A78.out).mono ?_); rintro e w' ⟨rfl, ⟨nd, rfl⟩⟩))
                go_ret
                exact ⟨by first | rfl | (simp [errW_none, errW_some] <;> rfl) | (simp [*, errW_none, errW_some] <;> rfl), by repeat (ya_)⟩
              ·rw [if_neg c77] at H
               have c77b0 : (a0_3 == 0) = false := beq_eq_false_iff_ne.mpr c77
               have c77b1 : (a0_3 != 0) = true := bne_iff_ne.mpr c77
               by_cases c83 : t129 = true
               ·subst c83
                have H1 : ((spec_l2Reg.f a0_3).bind fun t152 => (if t152 = true then ((spec_l1In.f a0_4 0 z0).bind fun t153 => (if t153 = true then ((spec_l2Num.f kj12 a0_0 a0_5 t131).bind fun t154 => (some t154)) else (some false))) else (some false))) = some r := by rw [if_pos rfl] at H; exact H
                clear H
                have H := H1
                clear H1
                replace H := Option.bind_eq_some_iff.mp H
                obtain ⟨t152, A840, H⟩ := H
                replace H : (if t152 = true then ((spec_l1In.f a0_4 0 z0).bind fun t153 => (if t153 = true then ((spec_l2Num.f kj12 a0_0 a0_5 t131).bind fun t154 => (some t154)) else (some false))) else (some false)) = some r := H
                have A84 := A_ A840
                clear A840
                by_cases c85 : t152 = true
                ·subst c85
                 have H1 : ((spec_l1In.f a0_4 0 z0).bind fun t153 => (if t153 = true then ((spec_l2Num.f kj12 a0_0 a0_5 t131).bind fun t154 => (some t154)) else (some false))) = some r := by rw [if_pos rfl] at H; exact H
                 clear H
                 have H := H1
                 clear H1
                 replace H := Option.bind_eq_some_iff.mp H
                 obtain ⟨t153, A860, H⟩ := H
                 replace H : (if t153 = true then ((spec_l2Num.f kj12 a0_0 a0_5 t131).bind fun t154 => (some t154)) else (some false)) = some r := H
                 have A86 := A_ A860
                 clear A860
                 by_cases c87 : t153 = true
                 ·subst c87
                  have H1 : ((spec_l2Num.f kj12 a0_0 a0_5 t131).bind fun t154 => (some t154)) = some r := by rw [if_pos rfl] at H; exact H
                  clear H
                  have H := H1
                  clear H1
                  replace H := Option.bind_eq_some_iff.mp H
                  obtain ⟨t154, A880, H⟩ := H
                  replace H : (some t154) = some r := H
                  have A88 := A_ A880
                  clear A880
                  obtain rfl := Option.some.inj H
                  have hcz89_0 : wc.cell? ⟨gb125, 0, none⟩ = some (.int .i64 a0_0) := (bC_ z.out 0).trans rfl
                  have hcz89_1 : wc.cell? ⟨gb125, 1, none⟩ = some (.int .i64 a0_1) := (bC_ z.out 1).trans rfl
                  have hcz89_2 : wc.cell? ⟨gb125, 2, none⟩ = some (.int .i64 a0_2) := (bC_ z.out 2).trans rfl
                  have hcz89_3 : wc.cell? ⟨gb125, 3, none⟩ = some (.int .i64 a0_3) := (bC_ z.out 3).trans rfl
                  have hcz89_4 : wc.cell? ⟨gb125, 4, none⟩ = some (.int .i64 a0_4) := (bC_ z.out 4).trans rfl
                  have hcz89_5 : wc.cell? ⟨gb125, 5, none⟩ = some (.int .i64 a0_5) := (bC_ z.out 5).trans rfl
                  have hfz89_0 := bF_ z.out 0
                  have hfz89_1 := bF_ z.out 1
                  have hfz89_2 := bF_ z.out 2
                  have hfz89_3 := bF_ z.out 3
                  have hfz89_4 := bF_ z.out 4
                  have hfz89_5 := bF_ z.out 5
                  go_wp2_with (first | (go_at_call 77; (yaa_); rintro e w' ⟨rfl, ⟨nd, rfl⟩⟩) | (go_at_call 77; (with_reducible refine (spec_l2Reg.calls a0_2 true _ A75.out).mono ?_); rintro e w' ⟨rfl, ⟨nd, rfl⟩⟩) | (go_at_call 77; (with_reducible refine (spec_l2Reg.calls a0_3 true _ A84.out).mono ?_); rintro e w' ⟨rfl, ⟨nd, rfl⟩⟩) | (go_at_call 47; (with_reducible refine (spec_l1In.calls a0_4 0 z0 true _ A86.out).mono ?_); rintro e w' ⟨rfl, ⟨nd, rfl⟩⟩) | (go_at_call 78; (with_reducible refine (spec_l2Num.calls kj12 a0_0 a0_5 t131 t154 _ A88.out).mono ?_); rintro e w' ⟨rfl, ⟨nd, rfl⟩⟩))
                  go_ret
                  exact ⟨by first | rfl | (simp [errW_none, errW_some] <;> rfl) | (simp [*, errW_none, errW_some] <;> rfl), by repeat (ya_)⟩
                 ·replace c87 := Bool.eq_false_iff.mpr c87
                  subst c87
                  have H1 : (some false) = some r := by rw [if_neg (show ¬ (false = true) by decide)] at H; exact H
                  clear H
                  have H := H1
                  clear H1
                  obtain rfl := Option.some.inj H
                  have hcz90_0 : wc.cell? ⟨gb125, 0, none⟩ = some (.int .i64 a0_0) := (bC_ z.out 0).trans rfl
                  have hcz90_1 : wc.cell? ⟨gb125, 1, none⟩ = some (.int .i64 a0_1) := (bC_ z.out 1).trans rfl
                  have hcz90_2 : wc.cell? ⟨gb125, 2, none⟩ = some (.int .i64 a0_2) := (bC_ z.out 2).trans rfl
                  have hcz90_3 : wc.cell? ⟨gb125, 3, none⟩ = some (.int .i64 a0_3) := (bC_ z.out 3).trans rfl
                  have hcz90_4 : wc.cell? ⟨gb125, 4, none⟩ = some (.int .i64 a0_4) := (bC_ z.out 4).trans rfl
                  have hcz90_5 : wc.cell? ⟨gb125, 5, none⟩ = some (.int .i64 a0_5) := (bC_ z.out 5).trans rfl
                  have hfz90_0 := bF_ z.out 0
                  have hfz90_1 := bF_ z.out 1
                  have hfz90_2 := bF_ z.out 2
                  have hfz90_3 := bF_ z.out 3
                  have hfz90_4 := bF_ z.out 4
                  have hfz90_5 := bF_ z.out 5
                  go_wp2_with (first | (go_at_call 77; (yaa_); rintro e w' ⟨rfl, ⟨nd, rfl⟩⟩) | (go_at_call 77; (with_reducible refine (spec_l2Reg.calls a0_2 true _ A75.out).mono ?_); rintro e w' ⟨rfl, ⟨nd, rfl⟩⟩) | (go_at_call 77; (with_reducible refine (spec_l2Reg.calls a0_3 true _ A84.out).mono ?_); rintro e w' ⟨rfl, ⟨nd, rfl⟩⟩) | (go_at_call 47; (with_reducible refine (spec_l1In.calls a0_4 0 z0 false _ A86.out).mono ?_); rintro e w' ⟨rfl, ⟨nd, rfl⟩⟩))
                  go_ret
                  exact ⟨by first | rfl | (simp [errW_none, errW_some] <;> rfl) | (simp [*, errW_none, errW_some] <;> rfl), by repeat (ya_)⟩
                ·replace c85 := Bool.eq_false_iff.mpr c85
                 subst c85
                 have H1 : (some false) = some r := by rw [if_neg (show ¬ (false = true) by decide)] at H; exact H
                 clear H
                 have H := H1
                 clear H1
                 obtain rfl := Option.some.inj H
                 have hcz91_0 : wc.cell? ⟨gb125, 0, none⟩ = some (.int .i64 a0_0) := (bC_ z.out 0).trans rfl
                 have hcz91_1 : wc.cell? ⟨gb125, 1, none⟩ = some (.int .i64 a0_1) := (bC_ z.out 1).trans rfl
                 have hcz91_2 : wc.cell? ⟨gb125, 2, none⟩ = some (.int .i64 a0_2) := (bC_ z.out 2).trans rfl
                 have hcz91_3 : wc.cell? ⟨gb125, 3, none⟩ = some (.int .i64 a0_3) := (bC_ z.out 3).trans rfl
                 have hcz91_4 : wc.cell? ⟨gb125, 4, none⟩ = some (.int .i64 a0_4) := (bC_ z.out 4).trans rfl
                 have hcz91_5 : wc.cell? ⟨gb125, 5, none⟩ = some (.int .i64 a0_5) := (bC_ z.out 5).trans rfl
                 have hfz91_0 := bF_ z.out 0
                 have hfz91_1 := bF_ z.out 1
                 have hfz91_2 := bF_ z.out 2
                 have hfz91_3 := bF_ z.out 3
                 have hfz91_4 := bF_ z.out 4
                 have hfz91_5 := bF_ z.out 5
                 go_wp2_with (first | (go_at_call 77; (yaa_); rintro e w' ⟨rfl, ⟨nd, rfl⟩⟩) | (go_at_call 77; (with_reducible refine (spec_l2Reg.calls a0_2 true _ A75.out).mono ?_); rintro e w' ⟨rfl, ⟨nd, rfl⟩⟩) | (go_at_call 77; (with_reducible refine (spec_l2Reg.calls a0_3 false _ A84.out).mono ?_); rintro e w' ⟨rfl, ⟨nd, rfl⟩⟩))
                 go_ret
                 exact ⟨by first | rfl | (simp [errW_none, errW_some] <;> rfl) | (simp [*, errW_none, errW_some] <;> rfl), by repeat (ya_)⟩
               ·replace c83 := Bool.eq_false_iff.mpr c83
                subst c83
                have H1 : (some false) = some r := by rw [if_neg (show ¬ (false = true) by decide)] at H; exact H
                clear H
                have H := H1
                clear H1
                obtain rfl := Option.some.inj H
                have hcz92_0 : wc.cell? ⟨gb125, 0, none⟩ = some (.int .i64 a0_0) := (bC_ z.out 0).trans rfl
                have hcz92_1 : wc.cell? ⟨gb125, 1, none⟩ = some (.int .i64 a0_1) := (bC_ z.out 1).trans rfl
                have hcz92_2 : wc.cell? ⟨gb125, 2, none⟩ = some (.int .i64 a0_2) := (bC_ z.out 2).trans rfl
                have hcz92_3 : wc.cell? ⟨gb125, 3, none⟩ = some (.int .i64 a0_3) := (bC_ z.out 3).trans rfl
                have hcz92_4 : wc.cell? ⟨gb125, 4, none⟩ = some (.int .i64 a0_4) := (bC_ z.out 4).trans rfl
                have hcz92_5 : wc.cell? ⟨gb125, 5, none⟩ = some (.int .i64 a0_5) := (bC_ z.out 5).trans rfl
                have hfz92_0 := bF_ z.out 0
                have hfz92_1 := bF_ z.out 1
                have hfz92_2 := bF_ z.out 2
                have hfz92_3 := bF_ z.out 3
                have hfz92_4 := bF_ z.out 4
                have hfz92_5 := bF_ z.out 5
                go_wp2_with (first | (go_at_call 77; (yaa_); rintro e w' ⟨rfl, ⟨nd, rfl⟩⟩) | (go_at_call 77; (with_reducible refine (spec_l2Reg.calls a0_2 true _ A75.out).mono ?_); rintro e w' ⟨rfl, ⟨nd, rfl⟩⟩))
                go_ret
                exact ⟨by first | rfl | (simp [errW_none, errW_some] <;> rfl) | (simp [*, errW_none, errW_some] <;> rfl), by repeat (ya_)⟩
             ·replace c76 := Bool.eq_false_iff.mpr c76
              subst c76
              have H1 : (some false) = some r := by rw [if_neg (show ¬ (false = true) by decide)] at H; exact H
              clear H
              have H := H1
              clear H1
              obtain rfl := Option.some.inj H
              have hcz93_0 : wc.cell? ⟨gb125, 0, none⟩ = some (.int .i64 a0_0) := (bC_ z.out 0).trans rfl
              have hcz93_1 : wc.cell? ⟨gb125, 1, none⟩ = some (.int .i64 a0_1) := (bC_ z.out 1).trans rfl
              have hcz93_2 : wc.cell? ⟨gb125, 2, none⟩ = some (.int .i64 a0_2) := (bC_ z.out 2).trans rfl
              have hcz93_3 : wc.cell? ⟨gb125, 3, none⟩ = some (.int .i64 a0_3) := (bC_ z.out 3).trans rfl
              have hcz93_4 : wc.cell? ⟨gb125, 4, none⟩ = some (.int .i64 a0_4) := (bC_ z.out 4).trans rfl
              have hcz93_5 : wc.cell? ⟨gb125, 5, none⟩ = some (.int .i64 a0_5) := (bC_ z.out 5).trans rfl
              have hfz93_0 := bF_ z.out 0
              have hfz93_1 := bF_ z.out 1
              have hfz93_2 := bF_ z.out 2
              have hfz93_3 := bF_ z.out 3
              have hfz93_4 := bF_ z.out 4
              have hfz93_5 := bF_ z.out 5
              go_wp2_with (first | (go_at_call 77; (yaa_); rintro e w' ⟨rfl, ⟨nd, rfl⟩⟩) | (go_at_call 77; (with_reducible refine (spec_l2Reg.calls a0_2 false _ A75.out).mono ?_); rintro e w' ⟨rfl, ⟨nd, rfl⟩⟩))
              go_ret
              exact ⟨by first | rfl | (simp [errW_none, errW_some] <;> rfl) | (simp [*, errW_none, errW_some] <;> rfl), by repeat (ya_)⟩
            ·replace c74 := Bool.eq_false_iff.mpr c74
             subst c74
             have H1 : (some false) = some r := by rw [if_neg (show ¬ (false = true) by decide)] at H; exact H
             clear H
             have H := H1
             clear H1
             obtain rfl := Option.some.inj H
             have hcz94_0 : wc.cell? ⟨gb125, 0, none⟩ = some (.int .i64 a0_0) := (bC_ z.out 0).trans rfl
             have hcz94_1 : wc.cell? ⟨gb125, 1, none⟩ = some (.int .i64 a0_1) := (bC_ z.out 1).trans rfl
             have hcz94_2 : wc.cell? ⟨gb125, 2, none⟩ = some (.int .i64 a0_2) := (bC_ z.out 2).trans rfl
             have hcz94_3 : wc.cell? ⟨gb125, 3, none⟩ = some (.int .i64 a0_3) := (bC_ z.out 3).trans rfl
             have hcz94_4 : wc.cell? ⟨gb125, 4, none⟩ = some (.int .i64 a0_4) := (bC_ z.out 4).trans rfl
             have hcz94_5 : wc.cell? ⟨gb125, 5, none⟩ = some (.int .i64 a0_5) := (bC_ z.out 5).trans rfl
             have hfz94_0 := bF_ z.out 0
             have hfz94_1 := bF_ z.out 1
             have hfz94_2 := bF_ z.out 2
             have hfz94_3 := bF_ z.out 3
             have hfz94_4 := bF_ z.out 4
             have hfz94_5 := bF_ z.out 5
             go_wp2_with (first | (go_at_call 77; (yaa_); rintro e w' ⟨rfl, ⟨nd, rfl⟩⟩))
             go_ret
             exact ⟨by first | rfl | (simp [errW_none, errW_some] <;> rfl) | (simp [*, errW_none, errW_some] <;> rfl), by repeat (ya_)⟩
          ·replace c56 := Bool.eq_false_iff.mpr c56
           subst c56
           have H1 : (some false) = some r := by rw [if_neg (show ¬ (false = true) by decide)] at H; exact H
           clear H
           have H := H1
           clear H1
           obtain rfl := Option.some.inj H
           have hcz95_0 : wc.cell? ⟨gb125, 0, none⟩ = some (.int .i64 a0_0) := (bC_ z.out 0).trans rfl
           have hcz95_1 : wc.cell? ⟨gb125, 1, none⟩ = some (.int .i64 a0_1) := (bC_ z.out 1).trans rfl
           have hcz95_2 : wc.cell? ⟨gb125, 2, none⟩ = some (.int .i64 a0_2) := (bC_ z.out 2).trans rfl
           have hcz95_3 : wc.cell? ⟨gb125, 3, none⟩ = some (.int .i64 a0_3) := (bC_ z.out 3).trans rfl
           have hcz95_4 : wc.cell? ⟨gb125, 4, none⟩ = some (.int .i64 a0_4) := (bC_ z.out 4).trans rfl
           have hcz95_5 : wc.cell? ⟨gb125, 5, none⟩ = some (.int .i64 a0_5) := (bC_ z.out 5).trans rfl
           have hfz95_0 := bF_ z.out 0
           have hfz95_1 := bF_ z.out 1
           have hfz95_2 := bF_ z.out 2
           have hfz95_3 := bF_ z.out 3
           have hfz95_4 := bF_ z.out 4
           have hfz95_5 := bF_ z.out 5
           go_wp2_with (first | (go_at_call 77; (with_reducible refine (spec_l2Reg.calls a0_1 false _ A55.out).mono ?_); rintro e w' ⟨rfl, ⟨nd, rfl⟩⟩))
           go_ret
           exact ⟨by first | rfl | (simp [errW_none, errW_some] <;> rfl) | (simp [*, errW_none, errW_some] <;> rfl), by repeat (ya_)⟩
         ·replace c54 := Bool.eq_false_iff.mpr c54
          subst c54
          have H1 : (some false) = some r := by rw [if_neg (show ¬ (false = true) by decide)] at H; exact H
          clear H
          have H := H1
          clear H1
          obtain rfl := Option.some.inj H
          have hcz96_0 : wc.cell? ⟨gb125, 0, none⟩ = some (.int .i64 a0_0) := (bC_ z.out 0).trans rfl
          have hcz96_1 : wc.cell? ⟨gb125, 1, none⟩ = some (.int .i64 a0_1) := (bC_ z.out 1).trans rfl
          have hcz96_2 : wc.cell? ⟨gb125, 2, none⟩ = some (.int .i64 a0_2) := (bC_ z.out 2).trans rfl
          have hcz96_3 : wc.cell? ⟨gb125, 3, none⟩ = some (.int .i64 a0_3) := (bC_ z.out 3).trans rfl
          have hcz96_4 : wc.cell? ⟨gb125, 4, none⟩ = some (.int .i64 a0_4) := (bC_ z.out 4).trans rfl
          have hcz96_5 : wc.cell? ⟨gb125, 5, none⟩ = some (.int .i64 a0_5) := (bC_ z.out 5).trans rfl
          have hfz96_0 := bF_ z.out 0
          have hfz96_1 := bF_ z.out 1
          have hfz96_2 := bF_ z.out 2
          have hfz96_3 := bF_ z.out 3
          have hfz96_4 := bF_ z.out 4
          have hfz96_5 := bF_ z.out 5
          go_wp2
          go_ret
          exact ⟨by first | rfl | (simp [errW_none, errW_some] <;> rfl) | (simp [*, errW_none, errW_some] <;> rfl), by repeat (ya_)⟩
 ·replace c3 := Bool.eq_false_iff.mpr c3
  subst c3
  have H1 : (some false) = some r := by rw [if_neg (show ¬ (false = true) by decide)] at H; exact H
  clear H
  have H := H1
  clear H1
  obtain rfl := Option.some.inj H
  go_enter Try.func70, Try.ntmps70
  go_wp2_with (first | ((with_reducible refine gate_dst (N := 1) rfl ?_); refine box_event ?hg (N := 1) ?hd (cs := #[.int .i64 a0_0, .int .i64 a0_1, .int .i64 a0_2, .int .i64 a0_3, .int .i64 a0_4, .int .i64 a0_5]) (t := 75) ?hr ?_; (case hd => rfl); (case hg => rfl); (case hr => first | (go_simp; done) | (go_simp; rfl)); intro gb125 hg w97 hbox hb; have n0_ := A_ (wT_ (yab_) hb); have n1_ := A_ (hbox); have n2_ := A_ ((by rw [hg]; exact (wZ_ (yab_)) : w.heap.size ≤ gb125)); have n3_ := A_ ((by rw [hg]; exact (wZ_ (yab_)) : w.heap.size ≤ gb125)); clear HB; have HB := n0_; have z := n1_; have GW125 := n2_; have z1 := n3_; clear n0_ n1_ n2_ n3_; clear hb hbox hg; have hcz98_0 : w97.cell? ⟨gb125, 0, none⟩ = some (.int .i64 a0_0) := (bC_ z.out 0).trans rfl; have hcz98_1 : w97.cell? ⟨gb125, 1, none⟩ = some (.int .i64 a0_1) := (bC_ z.out 1).trans rfl; have hcz98_2 : w97.cell? ⟨gb125, 2, none⟩ = some (.int .i64 a0_2) := (bC_ z.out 2).trans rfl; have hcz98_3 : w97.cell? ⟨gb125, 3, none⟩ = some (.int .i64 a0_3) := (bC_ z.out 3).trans rfl; have hcz98_4 : w97.cell? ⟨gb125, 4, none⟩ = some (.int .i64 a0_4) := (bC_ z.out 4).trans rfl; have hcz98_5 : w97.cell? ⟨gb125, 5, none⟩ = some (.int .i64 a0_5) := (bC_ z.out 5).trans rfl; have hfz98_0 := bF_ z.out 0; have hfz98_1 := bF_ z.out 1; have hfz98_2 := bF_ z.out 2; have hfz98_3 := bF_ z.out 3; have hfz98_4 := bF_ z.out 4; have hfz98_5 := bF_ z.out 5) | ((with_reducible refine gate_callee (f := 47) rfl ?_); refine goesL_ (some 11) rfl rfl Try.func47 (by kernel_rfl) rfl #[.int .i64 a0_0, .int .i64 0, .int .i64 15] rfl (by (try simp only [mT_, mC_, mN_]); first | done | rfl | (simp only [lD_, lT_]; rfl)) ?_; (with_reducible refine (spec_l1In.calls a0_0 0 15 false _ A2.out).mono ?_); rintro e w' ⟨rfl, ⟨nd, rfl⟩⟩; refine ⟨_, rfl, ?_⟩))
  go_ret
  exact ⟨by first | rfl | (simp [errW_none, errW_some] <;> rfl) | (simp [*, errW_none, errW_some] <;> rfl), by repeat (ya_)⟩
end
end

end Go.Proofs.Ytdpgomcdacmhkaa.QFnInOk
