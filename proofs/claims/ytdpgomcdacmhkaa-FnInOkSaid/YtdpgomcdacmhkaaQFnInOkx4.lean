/- Walks of spec_l20Word, spec_l20In, spec_DrawInOk: each returns what its Lean function says, for all arguments that read as stated. -/
import Derived.Test.YtdpgomcdacmhkaaQFnInOkx3
namespace Go.Proofs.Ytdpgomcdacmhkaa.QFnInOk
open Go.RowKit Go.Proofs.YtdpgomcdacmhkaaW.PrintWords Go.Proofs.YtdpgomcdacmhkaaW.PrintLast Go.Proofs.YtdpgomcdacmhkaaW.PrintMore
attribute [local go_sem] max2_int min2_int max_two min_two max_three min_three max_four min_four   -- for this text's walks alone
set_option linter.unusedVariables false
set_option linter.unusedSimpArgs false

/-! ### spec_l20Word: function 62 -/
section
set_option hygiene false in
local macro "ya_" : tactic => `(tactic| (first | (with_reducible first | exact HB.out | apply wA_ | apply wN_ | apply wD_ | refine wS_ ?_ (IsS69.ge HI0.out)) | exact HB.out))
set_option hygiene false in
local macro "yaa_" : tactic => `(tactic| (first | (with_reducible first | exact HI0.out | apply iA_ | apply iN_ | apply iD_ | apply iS_) | exact HI0.out))
set_option hygiene false in
local macro "yab_" : tactic => `(tactic| (first | (with_reducible first | exact HK.out | apply kS_ | apply kN_ | apply kD_ | apply kA_) | exact HK.out))
set_option hygiene false in
local macro "yac_" : term => `((by (try simp only [mT_, mC_, mN_]); first | done | rfl | (simp only [lD_, lT_]; rfl)))
section
open Go.Proofs.YtdpgomcdacmhkaaW.PrintWords renaming below_set → wS_, pw_below_drewN → wN_, keep_drewN → kN_, keep_alloc → kA_, keep_drew → kD_, below_alloc → wA_, below_drew1 → wD_, below_step → wT_
open Go.Proofs.YtdpgomcdacmhkaaW.PrintWords.Aside0 renaming mk → A_
open Go.Proofs.YtdpgomcdacmhkaaW.PrintWords.KeepBut renaming set_ → kS_, trans → kT_, of_below → kO_
open Go.Proofs.YtdpgomcdacmhkaaW.PrintWords.Kd renaming R_drewN → rN_, R_drew → rD_, R_alloc → rA_, R_mono → rM_
open List renaming map_toArray → mT_, map_cons → mC_, map_nil → mN_, length_drop → lD_, length_take → lT_
open Go.Proofs.Ytdpgomcdacmhkaa.QFnInOk.IsS69 renaming alloc → iA_, drewN → iN_, drew → iD_, set_1 → iS_
def spec_l20Word.f (k : Nat) (s0_0 : List Int) (s0_1 : Int) (a1 : Int) : Option (Int × Int) := (spec_l20Rd_odd.f k s0_0 s0_1 a1).bind fun bt273 => (if bt273.1 = true then ((some (([(-1), 65536, 9223372036854775807, (-9223372036854775808)] : List Int) : List Int)).bind fun y275 => ((spec_l20Rd_pick.f k s0_0 bt273.2 4).bind fun bt278 => (if 0 ≤ bt278.1 then (if bt278.1 < (y275.length : Int) then (some (rd y275 bt278.1, bt278.2)) else (none)) else (none)))) else ((spec_l20Rd_pick.f k s0_0 bt273.2 4).bind fun bt281 => ((spec_l20Rd_pick.f k s0_0 bt281.2 256).bind fun bt283 => ((spec_l20Rd_pick.f k s0_0 bt283.2 256).bind fun bt285 => ((spec_l20Rd_pick.f k s0_0 bt285.2 256).bind fun bt287 => ((spec_l20Rd_pick.f k s0_0 bt287.2 4).bind fun bt289 => ((spec_l20Rd_pick.f k s0_0 bt289.2 2).bind fun bt291 => ((some (([bt281.1, bt283.1, wrap64 ((wrap64 (bt285.1 * 256)) + bt287.1), wrap64 (65535 - bt289.1), wrap64 (32767 + bt291.1)] : List Int) : List Int)).bind fun y293 => ((spec_l20Rd_pick.f k s0_0 bt291.2 5).bind fun bt296 => (if 0 ≤ bt296.1 then (if bt296.1 < (y293.length : Int) then (some (rd y293 bt296.1, bt296.2)) else (none)) else (none)))))))))))
theorem spec_l20Word.mono : ∀ a0 a1 a2 k, LeO (spec_l20Word.f k a0 a1 a2) (spec_l20Word.f (k + 1) a0 a1 a2) := by
 intro a0 a1 a2 k
 unfold spec_l20Word.f
 repeat' first
   | (with_reducible exact spec_l20Rd_odd.mono _ _ _ _)
   | (with_reducible exact spec_l20Rd_pick.mono _ _ _ _)
   | (with_reducible exact LeO.refl _)
   | (with_reducible exact LeO.none _)
   | (with_reducible refine LeO.ite ?_ ?_)
   | (with_reducible refine LeO.bind ?_ (fun _ => ?_))
   | exact spec_l20Rd_odd.mono _ _ _ _
   | exact spec_l20Rd_pick.mono _ _ _ _
   | exact LeO.none _
   | refine LeO.ite ?_ ?_
   | refine LeO.bind ?_ (fun _ => ?_)
set_option maxHeartbeats 8000000 in
set_option maxRecDepth 100000 in
theorem spec_l20Word.calls (k : Nat) (g : Nat) (s0_0 : List Int) (s0_1 : Int) (a1 : Int) (r1 : Int) (r2 : Int) (w0 w : World) (hI : IsS69 w0 w g s0_0 s0_1) (hB : Below w0.heap.size w0 w) (h : spec_l20Word.f k s0_0 s0_1 a1 = some (r1, r2)) :
  Calls Try.prog 62 #[.pointer (some ⟨g, 0, none⟩), .int .i64 a1] w fun e w' => e = .returned (.int .i64 r1) ∧ IsS69 w0 w' g s0_0 r2 ∧ Below w0.heap.size w0 w' ∧ KeepBut w w' g none := by
 have HI0 := A_ hI
 have HK := A_ (KeepBut.refl w g none)
 have HL := A_ hB.size
 clear hI
 have HW0 := A_ hB.size
 have HB := A_ hB
 clear hB
 have H : ((spec_l20Rd_odd.f k s0_0 s0_1 a1).bind fun bt273 => (if bt273.1 = true then ((some (([(-1), 65536, 9223372036854775807, (-9223372036854775808)] : List Int) : List Int)).bind fun y275 => ((spec_l20Rd_pick.f k s0_0 bt273.2 4).bind fun bt278 => (if 0 ≤ bt278.1 then (if bt278.1 < (y275.length : Int) then (some (rd y275 bt278.1, bt278.2)) else (none)) else (none)))) else ((spec_l20Rd_pick.f k s0_0 bt273.2 4).bind fun bt281 => ((spec_l20Rd_pick.f k s0_0 bt281.2 256).bind fun bt283 => ((spec_l20Rd_pick.f k s0_0 bt283.2 256).bind fun bt285 => ((spec_l20Rd_pick.f k s0_0 bt285.2 256).bind fun bt287 => ((spec_l20Rd_pick.f k s0_0 bt287.2 4).bind fun bt289 => ((spec_l20Rd_pick.f k s0_0 bt289.2 2).bind fun bt291 => ((some (([bt281.1, bt283.1, wrap64 ((wrap64 (bt285.1 * 256)) + bt287.1), wrap64 (65535 - bt289.1), wrap64 (32767 + bt291.1)] : List Int) : List Int)).bind fun y293 => ((spec_l20Rd_pick.f k s0_0 bt291.2 5).bind fun bt296 => (if 0 ≤ bt296.1 then (if bt296.1 < (y293.length : Int) then (some (rd y293 bt296.1, bt296.2)) else (none)) else (none)))))))))))) = some (r1, r2) := h
 clear h
 replace H := Option.bind_eq_some_iff.mp H
 obtain ⟨⟨t273, t274⟩, A30, H⟩ := H
 replace H : (if t273 = true then ((some (([(-1), 65536, 9223372036854775807, (-9223372036854775808)] : List Int) : List Int)).bind fun y275 => ((spec_l20Rd_pick.f k s0_0 t274 4).bind fun bt278 => (if 0 ≤ bt278.1 then (if bt278.1 < (y275.length : Int) then (some (rd y275 bt278.1, bt278.2)) else (none)) else (none)))) else ((spec_l20Rd_pick.f k s0_0 t274 4).bind fun bt281 => ((spec_l20Rd_pick.f k s0_0 bt281.2 256).bind fun bt283 => ((spec_l20Rd_pick.f k s0_0 bt283.2 256).bind fun bt285 => ((spec_l20Rd_pick.f k s0_0 bt285.2 256).bind fun bt287 => ((spec_l20Rd_pick.f k s0_0 bt287.2 4).bind fun bt289 => ((spec_l20Rd_pick.f k s0_0 bt289.2 2).bind fun bt291 => ((some (([bt281.1, bt283.1, wrap64 ((wrap64 (bt285.1 * 256)) + bt287.1), wrap64 (65535 - bt289.1), wrap64 (32767 + bt291.1)] : List Int) : List Int)).bind fun y293 => ((spec_l20Rd_pick.f k s0_0 bt291.2 5).bind fun bt296 => (if 0 ≤ bt296.1 then (if bt296.1 < (y293.length : Int) then (some (rd y293 bt296.1, bt296.2)) else (none)) else (none))))))))))) = some (r1, r2) := H
 have A3 := A_ A30
 clear A30
 by_cases c4 : t273 = true
 ·subst c4
  have H1 : ((some (([(-1), 65536, 9223372036854775807, (-9223372036854775808)] : List Int) : List Int)).bind fun y275 => ((spec_l20Rd_pick.f k s0_0 t274 4).bind fun bt278 => (if 0 ≤ bt278.1 then (if bt278.1 < (y275.length : Int) then (some (rd y275 bt278.1, bt278.2)) else (none)) else (none)))) = some (r1, r2) := by rw [if_pos rfl] at H; exact H
  clear H
  have H := H1
  clear H1
  obtain ⟨y275, hy275⟩ : ∃ y_ : List Int, y_ = (([(-1), 65536, 9223372036854775807, (-9223372036854775808)] : List Int)) := ⟨_, rfl⟩
  replace H : ((spec_l20Rd_pick.f k s0_0 t274 4).bind fun bt278 => (if 0 ≤ bt278.1 then (if bt278.1 < (y275.length : Int) then (some (rd y275 bt278.1, bt278.2)) else (none)) else (none))) = some (r1, r2) := by first | (rw [hy275]; with_reducible exact H) | (have H2_ := (Option.bind_some _ _).symm.trans H; rw [hy275]; with_reducible exact H2_) | (have H2_ := (Option.bind_some _ _).symm.trans H; with_reducible exact H2_) | with_reducible exact H | (rw [hy275]; exact H) | exact H
  have z1 := A_ hy275
  clear hy275
  replace H := Option.bind_eq_some_iff.mp H
  obtain ⟨⟨t278, t279⟩, A50, H⟩ := H
  replace H : (if 0 ≤ t278 then (if t278 < (y275.length : Int) then (some (rd y275 t278, t279)) else (none)) else (none)) = some (r1, r2) := H
  have A5 := A_ A50
  clear A50
  by_cases c6 : 0 ≤ t278
  ·rw [if_pos c6] at H
   have c6b0 : decide (0 ≤ t278) = true := decide_eq_true c6
   clear c6
   by_cases c7 : t278 < (y275.length : Int)
   ·rw [if_pos c7] at H
    have c7b0 : decide (t278 < (y275.length : Int)) = true := decide_eq_true c7
    clear c7
    simp only [Option.some.injEq, Prod.mk.injEq] at H
    obtain ⟨rfl, rfl⟩ := H
    go_enter Try.func62, Try.ntmps62
    go_wp2_with (first | ((with_reducible refine gate_callee (f := 44) rfl ?_); refine goesL_ (some 7) rfl rfl Try.func44 (by kernel_rfl) rfl #[.pointer (some ⟨g, 0, none⟩), .int .i64 a1] rfl (yac_) ?_; (with_reducible refine (spec_l20Rd_odd.calls k g s0_0 s0_1 a1 true t274 w0 _ ?side1 ?side2 A3.out).mono ?_); (case side1 => repeat (yaa_)); (case side2 => repeat (ya_)); rintro e w8 ⟨rfl, hi, hb, hk⟩; refine ⟨_, rfl, ?_⟩; have n0_ := A_ (kT_ (by repeat (yab_)) hk (.inl rfl)); have n1_ := A_ (hb); have n2_ := A_ (hi); clear HK; clear HB; clear HI0; have HK := n0_; have HB := n1_; have HI0 := n2_; clear n0_ n1_ n2_; (try clear hb); (try clear hb2); (try clear hk); (try clear hi)) | ((with_reducible refine gate_dst (N := 8) rfl ?_); refine Kd.R_lit (Kd.int .i64) _ 3 ?hg (N := 8) ?hd (xs := ([(-1), 65536, 9223372036854775807, (-9223372036854775808)] : List Int)) (inner := [.int .i64 (-1), .int .i64 65536, .int .i64 9223372036854775807, .int .i64 (-9223372036854775808)]) (ok := fun _ => True) (okp := fun _ => True) ?hr ?hp (fun _ hk => hk) trivial (Below.refl _ _) (Nat.le_refl _) (by simp) ?_; (case hd => rfl); (case hg => rfl); (case hr => first | (go_simp; done) | (go_simp; rfl)); (case hp => exact (Reps.one (show Kd.M (Kd.int .i64) _ _ _ (-1) [.int .i64 (-1)] from rfl) (Reps.one (show Kd.M (Kd.int .i64) _ _ _ 65536 [.int .i64 65536] from rfl) (Reps.one (show Kd.M (Kd.int .i64) _ _ _ 9223372036854775807 [.int .i64 9223372036854775807] from rfl) (Reps.one (show Kd.M (Kd.int .i64) _ _ _ (-9223372036854775808) [.int .i64 (-9223372036854775808)] from rfl) (Reps.none _ _)))))); intro v276 w9 ho10 hb hg_ hnew_; clear hg_ hnew_; (first | rw [← z1.out] at ho10 | (simp only [Int.reduceToNat] at ho10; rw [← z1.out] at ho10)); have n0_ := A_ (Kd.R_lower ho10 (keep_size (w := w) (g := g) (row := none) (by repeat (yab_)))); have n1_ := A_ (IsS69.below (by repeat (yaa_)) hb); have n2_ := A_ (kT_ (by repeat (yab_)) (kO_ hb g none) (.inl rfl)); have n3_ := A_ (wT_ (by repeat (ya_)) hb); clear HI0; clear HK; clear HB; have z := n0_; have HI0 := n1_; have HK := n2_; have HB := n3_; clear n0_ n1_ n2_ n3_; clear hb ho10) | ((with_reducible refine gate_callee (f := 45) rfl ?_); refine goesL_ (some 10) rfl rfl Try.func45 (by kernel_rfl) rfl #[.pointer (some ⟨g, 0, none⟩), .int .i64 4] rfl (yac_) ?_; (with_reducible refine (spec_l20Rd_pick.calls k g s0_0 t274 4 t278 t279 w0 _ ?side1 ?side2 A5.out).mono ?_); (case side1 => repeat (yaa_)); (case side2 => repeat (ya_)); rintro e w11 ⟨rfl, hi, hb, hk⟩; refine ⟨_, rfl, ?_⟩; have n0_ := A_ (rM_ (Kd.R_keep (IsS69.apart (show IsS69 w0 _ g s0_0 t274 from by repeat (yaa_)) (by (with_reducible repeat (first | apply rA_ | apply rN_ | apply rD_)); exact z.out) (by decide)) hk (fun _ h => h.2)) (fun _ h => h.1)); have n1_ := A_ (kT_ (by repeat (yab_)) hk (.inl rfl)); have n2_ := A_ (hb); have n3_ := A_ (hi); clear z; clear HK; clear HB; clear HI0; have z := n0_; have HK := n1_; have HB := n2_; have HI0 := n3_; clear n0_ n1_ n2_ n3_; (try clear hb); (try clear hb2); (try clear hk); (try clear hi); obtain ⟨Ao12, co12, eo12⟩ := Kd.R_slice z.out; subst eo12; have p280 : 0 ≤ (t278 : Int) := of_decide_eq_true (by first | (with_reducible assumption) | assumption); have q280 : t278 < (y275.length : Int) := of_decide_eq_true (by first | (with_reducible assumption) | assumption); obtain ⟨ad280, e280, hx280_0⟩ := Kd.at_int (Kd.R_reads' z.out).2.2 t278 p280 q280; cases e280; replace p280 := eq_true p280; replace q280 := eq_true q280))
    go_ret
    exact ⟨by first | rfl | (simp [errW_none, errW_some] <;> rfl) | (simp [*, errW_none, errW_some] <;> rfl), by repeat (yaa_), by repeat (ya_), by repeat (yab_)⟩
   ·rw [if_neg c7] at H
    exact absurd H (by simp)
  ·rw [if_neg c6] at H
   exact absurd H (by simp)
 ·replace c4 := Bool.eq_false_iff.mpr c4
  subst c4
  have H1 : ((spec_l20Rd_pick.f k s0_0 t274 4).bind fun bt281 => ((spec_l20Rd_pick.f k s0_0 bt281.2 256).bind fun bt283 => ((spec_l20Rd_pick.f k s0_0 bt283.2 256).bind fun bt285 => ((spec_l20Rd_pick.f k s0_0 bt285.2 256).bind fun bt287 => ((spec_l20Rd_pick.f k s0_0 bt287.2 4).bind fun bt289 => ((spec_l20Rd_pick.f k s0_0 bt289.2 2).bind fun bt291 => ((some (([bt281.1, bt283.1, wrap64 ((wrap64 (bt285.1 * 256)) + bt287.1), wrap64 (65535 - bt289.1), wrap64 (32767 + bt291.1)] : List Int) : List Int)).bind fun y293 => ((spec_l20Rd_pick.f k s0_0 bt291.2 5).bind fun bt296 => (if 0 ≤ bt296.1 then (if bt296.1 < (y293.length : Int) then (some (rd y293 bt296.1, bt296.2)) else (none)) else (none)))))))))) = some (r1, r2) := by rw [if_neg (show ¬ (false = true) by decide)] at H; exact H
  clear H
  have H := H1
  clear H1
  replace H := Option.bind_eq_some_iff.mp H
  obtain ⟨⟨t281, t282⟩, A130, H⟩ := H
  replace H : ((spec_l20Rd_pick.f k s0_0 t282 256).bind fun bt283 => ((spec_l20Rd_pick.f k s0_0 bt283.2 256).bind fun bt285 => ((spec_l20Rd_pick.f k s0_0 bt285.2 256).bind fun bt287 => ((spec_l20Rd_pick.f k s0_0 bt287.2 4).bind fun bt289 => ((spec_l20Rd_pick.f k s0_0 bt289.2 2).bind fun bt291 => ((some (([t281, bt283.1, wrap64 ((wrap64 (bt285.1 * 256)) + bt287.1), wrap64 (65535 - bt289.1), wrap64 (32767 + bt291.1)] : List Int) : List Int)).bind fun y293 => ((spec_l20Rd_pick.f k s0_0 bt291.2 5).bind fun bt296 => (if 0 ≤ bt296.1 then (if bt296.1 < (y293.length : Int) then (some (rd y293 bt296.1, bt296.2)) else (none)) else (none))))))))) = some (r1, r2) := H
  have A13 := A_ A130
  clear A130
  replace H := Option.bind_eq_some_iff.mp H
  obtain ⟨⟨t283, t284⟩, A140, H⟩ := H
  replace H : ((spec_l20Rd_pick.f k s0_0 t284 256).bind fun bt285 => ((spec_l20Rd_pick.f k s0_0 bt285.2 256).bind fun bt287 => ((spec_l20Rd_pick.f k s0_0 bt287.2 4).bind fun bt289 => ((spec_l20Rd_pick.f k s0_0 bt289.2 2).bind fun bt291 => ((some (([t281, t283, wrap64 ((wrap64 (bt285.1 * 256)) + bt287.1), wrap64 (65535 - bt289.1), wrap64 (32767 + bt291.1)] : List Int) : List Int)).bind fun y293 => ((spec_l20Rd_pick.f k s0_0 bt291.2 5).bind fun bt296 => (if 0 ≤ bt296.1 then (if bt296.1 < (y293.length : Int) then (some (rd y293 bt296.1, bt296.2)) else (none)) else (none)))))))) = some (r1, r2) := H
  have A14 := A_ A140
  clear A140
  replace H := Option.bind_eq_some_iff.mp H
  obtain ⟨⟨t285, t286⟩, A150, H⟩ := H
  replace H : ((spec_l20Rd_pick.f k s0_0 t286 256).bind fun bt287 => ((spec_l20Rd_pick.f k s0_0 bt287.2 4).bind fun bt289 => ((spec_l20Rd_pick.f k s0_0 bt289.2 2).bind fun bt291 => ((some (([t281, t283, wrap64 ((wrap64 (t285 * 256)) + bt287.1), wrap64 (65535 - bt289.1), wrap64 (32767 + bt291.1)] : List Int) : List Int)).bind fun y293 => ((spec_l20Rd_pick.f k s0_0 bt291.2 5).bind fun bt296 => (if 0 ≤ bt296.1 then (if bt296.1 < (y293.length : Int) then (some (rd y293 bt296.1, bt296.2)) else (none)) else (none))))))) = some (r1, r2) := H
  have A15 := A_ A150
  clear A150
  replace H := Option.bind_eq_some_iff.mp H
  obtain ⟨⟨t287, t288⟩, A160, H⟩ := H
  replace H : ((spec_l20Rd_pick.f k s0_0 t288 4).bind fun bt289 => ((spec_l20Rd_pick.f k s0_0 bt289.2 2).bind fun bt291 => ((some (([t281, t283, wrap64 ((wrap64 (t285 * 256)) + t287), wrap64 (65535 - bt289.1), wrap64 (32767 + bt291.1)] : List Int) : List Int)).bind fun y293 => ((spec_l20Rd_pick.f k s0_0 bt291.2 5).bind fun bt296 => (if 0 ≤ bt296.1 then (if bt296.1 < (y293.length : Int) then (some (rd y293 bt296.1, bt296.2)) else (none)) else (none)))))) = some (r1, r2) := H
  have A16 := A_ A160
  clear A160
  replace H := Option.bind_eq_some_iff.mp H
  obtain ⟨⟨t289, t290⟩, A170, H⟩ := H
  replace H : ((spec_l20Rd_pick.f k s0_0 t290 2).bind fun bt291 => ((some (([t281, t283, wrap64 ((wrap64 (t285 * 256)) + t287), wrap64 (65535 - t289), wrap64 (32767 + bt291.1)] : List Int) : List Int)).bind fun y293 => ((spec_l20Rd_pick.f k s0_0 bt291.2 5).bind fun bt296 => (if 0 ≤ bt296.1 then (if bt296.1 < (y293.length : Int) then (some (rd y293 bt296.1, bt296.2)) else (none)) else (none))))) = some (r1, r2) := H
  have A17 := A_ A170
  clear A170
  replace H := Option.bind_eq_some_iff.mp H
  obtain ⟨⟨t291, t292⟩, A180, H⟩ := H
  replace H : ((some (([t281, t283, wrap64 ((wrap64 (t285 * 256)) + t287), wrap64 (65535 - t289), wrap64 (32767 + t291)] : List Int) : List Int)).bind fun y293 => ((spec_l20Rd_pick.f k s0_0 t292 5).bind fun bt296 => (if 0 ≤ bt296.1 then (if bt296.1 < (y293.length : Int) then (some (rd y293 bt296.1, bt296.2)) else (none)) else (none)))) = some (r1, r2) := H
  have A18 := A_ A180
  clear A180
  obtain ⟨y293, hy293⟩ : ∃ y_ : List Int, y_ = (([t281, t283, wrap64 ((wrap64 (t285 * 256)) + t287), wrap64 (65535 - t289), wrap64 (32767 + t291)] : List Int)) := ⟨_, rfl⟩
  replace H : ((spec_l20Rd_pick.f k s0_0 t292 5).bind fun bt296 => (if 0 ≤ bt296.1 then (if bt296.1 < (y293.length : Int) then (some (rd y293 bt296.1, bt296.2)) else (none)) else (none))) = some (r1, r2) := by first | (rw [hy293]; with_reducible exact H) | (have H2_ := (Option.bind_some _ _).symm.trans H; rw [hy293]; with_reducible exact H2_) | (have H2_ := (Option.bind_some _ _).symm.trans H; with_reducible exact H2_) | with_reducible exact H | (rw [hy293]; exact H) | exact H
  have z2 := A_ hy293
  clear hy293
  replace H := Option.bind_eq_some_iff.mp H
  obtain ⟨⟨t296, t297⟩, A190, H⟩ := H
  replace H : (if 0 ≤ t296 then (if t296 < (y293.length : Int) then (some (rd y293 t296, t297)) else (none)) else (none)) = some (r1, r2) := H
  have A19 := A_ A190
  clear A190
  by_cases c20 : 0 ≤ t296
  ·rw [if_pos c20] at H
   have c20b0 : decide (0 ≤ t296) = true := decide_eq_true c20
   clear c20
   by_cases c21 : t296 < (y293.length : Int)
   ·rw [if_pos c21] at H
    have c21b0 : decide (t296 < (y293.length : Int)) = true := decide_eq_true c21
    clear c21
    simp only [Option.some.injEq, Prod.mk.injEq] at H
    obtain ⟨rfl, rfl⟩ := H
    go_enter Try.func62, Try.ntmps62
    go_wp2_with (first | ((with_reducible refine gate_callee (f := 44) rfl ?_); refine goesL_ (some 7) rfl rfl Try.func44 (by kernel_rfl) rfl #[.pointer (some ⟨g, 0, none⟩), .int .i64 a1] rfl (yac_) ?_; (with_reducible refine (spec_l20Rd_odd.calls k g s0_0 s0_1 a1 false t274 w0 _ ?side1 ?side2 A3.out).mono ?_); (case side1 => repeat (yaa_)); (case side2 => repeat (ya_)); rintro e w22 ⟨rfl, hi, hb, hk⟩; refine ⟨_, rfl, ?_⟩; have n0_ := A_ (kT_ (by repeat (yab_)) hk (.inl rfl)); have n1_ := A_ (hb); have n2_ := A_ (hi); clear HK; clear HB; clear HI0; have HK := n0_; have HB := n1_; have HI0 := n2_; clear n0_ n1_ n2_; (try clear hb); (try clear hb2); (try clear hk); (try clear hi)) | ((with_reducible refine gate_callee (f := 45) rfl ?_); refine goesL_ (some 14) rfl rfl Try.func45 (by kernel_rfl) rfl #[.pointer (some ⟨g, 0, none⟩), .int .i64 4] rfl (yac_) ?_; (with_reducible refine (spec_l20Rd_pick.calls k g s0_0 t274 4 t281 t282 w0 _ ?side1 ?side2 A13.out).mono ?_); (case side1 => repeat (yaa_)); (case side2 => repeat (ya_)); rintro e w23 ⟨rfl, hi, hb, hk⟩; refine ⟨_, rfl, ?_⟩; have n0_ := A_ (kT_ (by repeat (yab_)) hk (.inl rfl)); have n1_ := A_ (hb); have n2_ := A_ (hi); clear HK; clear HB; clear HI0; have HK := n0_; have HB := n1_; have HI0 := n2_; clear n0_ n1_ n2_; (try clear hb); (try clear hb2); (try clear hk); (try clear hi)) | ((with_reducible refine gate_callee (f := 45) rfl ?_); refine goesL_ (some 16) rfl rfl Try.func45 (by kernel_rfl) rfl #[.pointer (some ⟨g, 0, none⟩), .int .i64 256] rfl (yac_) ?_; (with_reducible refine (spec_l20Rd_pick.calls k g s0_0 t282 256 t283 t284 w0 _ ?side1 ?side2 A14.out).mono ?_); (case side1 => repeat (yaa_)); (case side2 => repeat (ya_)); rintro e w24 ⟨rfl, hi, hb, hk⟩; refine ⟨_, rfl, ?_⟩; have n0_ := A_ (kT_ (by repeat (yab_)) hk (.inl rfl)); have n1_ := A_ (hb); have n2_ := A_ (hi); clear HK; clear HB; clear HI0; have HK := n0_; have HB := n1_; have HI0 := n2_; clear n0_ n1_ n2_; (try clear hb); (try clear hb2); (try clear hk); (try clear hi)) | ((with_reducible refine gate_callee (f := 45) rfl ?_); refine goesL_ (some 18) rfl rfl Try.func45 (by kernel_rfl) rfl #[.pointer (some ⟨g, 0, none⟩), .int .i64 256] rfl (yac_) ?_; (with_reducible refine (spec_l20Rd_pick.calls k g s0_0 t284 256 t285 t286 w0 _ ?side1 ?side2 A15.out).mono ?_); (case side1 => repeat (yaa_)); (case side2 => repeat (ya_)); rintro e w25 ⟨rfl, hi, hb, hk⟩; refine ⟨_, rfl, ?_⟩; have n0_ := A_ (kT_ (by repeat (yab_)) hk (.inl rfl)); have n1_ := A_ (hb); have n2_ := A_ (hi); clear HK; clear HB; clear HI0; have HK := n0_; have HB := n1_; have HI0 := n2_; clear n0_ n1_ n2_; (try clear hb); (try clear hb2); (try clear hk); (try clear hi)) | ((with_reducible refine gate_callee (f := 45) rfl ?_); refine goesL_ (some 21) rfl rfl Try.func45 (by kernel_rfl) rfl #[.pointer (some ⟨g, 0, none⟩), .int .i64 256] rfl (yac_) ?_; (with_reducible refine (spec_l20Rd_pick.calls k g s0_0 t286 256 t287 t288 w0 _ ?side1 ?side2 A16.out).mono ?_); (case side1 => repeat (yaa_)); (case side2 => repeat (ya_)); rintro e w26 ⟨rfl, hi, hb, hk⟩; refine ⟨_, rfl, ?_⟩; have n0_ := A_ (kT_ (by repeat (yab_)) hk (.inl rfl)); have n1_ := A_ (hb); have n2_ := A_ (hi); clear HK; clear HB; clear HI0; have HK := n0_; have HB := n1_; have HI0 := n2_; clear n0_ n1_ n2_; (try clear hb); (try clear hb2); (try clear hk); (try clear hi)) | ((with_reducible refine gate_callee (f := 45) rfl ?_); refine goesL_ (some 24) rfl rfl Try.func45 (by kernel_rfl) rfl #[.pointer (some ⟨g, 0, none⟩), .int .i64 4] rfl (yac_) ?_; (with_reducible refine (spec_l20Rd_pick.calls k g s0_0 t288 4 t289 t290 w0 _ ?side1 ?side2 A17.out).mono ?_); (case side1 => repeat (yaa_)); (case side2 => repeat (ya_)); rintro e w27 ⟨rfl, hi, hb, hk⟩; refine ⟨_, rfl, ?_⟩; have n0_ := A_ (kT_ (by repeat (yab_)) hk (.inl rfl)); have n1_ := A_ (hb); have n2_ := A_ (hi); clear HK; clear HB; clear HI0; have HK := n0_; have HB := n1_; have HI0 := n2_; clear n0_ n1_ n2_; (try clear hb); (try clear hb2); (try clear hk); (try clear hi)) | ((with_reducible refine gate_callee (f := 45) rfl ?_); refine goesL_ (some 27) rfl rfl Try.func45 (by kernel_rfl) rfl #[.pointer (some ⟨g, 0, none⟩), .int .i64 2] rfl (yac_) ?_; (with_reducible refine (spec_l20Rd_pick.calls k g s0_0 t290 2 t291 t292 w0 _ ?side1 ?side2 A18.out).mono ?_); (case side1 => repeat (yaa_)); (case side2 => repeat (ya_)); rintro e w28 ⟨rfl, hi, hb, hk⟩; refine ⟨_, rfl, ?_⟩; have n0_ := A_ (kT_ (by repeat (yab_)) hk (.inl rfl)); have n1_ := A_ (hb); have n2_ := A_ (hi); clear HK; clear HB; clear HI0; have HK := n0_; have HB := n1_; have HI0 := n2_; clear n0_ n1_ n2_; (try clear hb); (try clear hb2); (try clear hk); (try clear hi)) | ((with_reducible refine gate_dst (N := 29) rfl ?_); refine Kd.R_lit (Kd.int .i64) _ 3 ?hg (N := 29) ?hd (xs := ([t281, t283, wrap64 ((wrap64 (t285 * 256)) + t287), wrap64 (65535 - t289), wrap64 (32767 + t291)] : List Int)) (inner := [.int .i64 t281, .int .i64 t283, .int .i64 (wrap64 ((wrap64 (t285 * 256)) + t287)), .int .i64 (wrap64 (65535 - t289)), .int .i64 (wrap64 (32767 + t291))]) (ok := fun _ => True) (okp := fun _ => True) ?hr ?hp (fun _ hk => hk) trivial (Below.refl _ _) (Nat.le_refl _) (by simp) ?_; (case hd => rfl); (case hg => rfl); (case hr => first | (go_simp; done) | (go_simp; rfl)); (case hp => exact (Reps.one (show Kd.M (Kd.int .i64) _ _ _ t281 [.int .i64 t281] from rfl) (Reps.one (show Kd.M (Kd.int .i64) _ _ _ t283 [.int .i64 t283] from rfl) (Reps.one (show Kd.M (Kd.int .i64) _ _ _ (wrap64 ((wrap64 (t285 * 256)) + t287)) [.int .i64 (wrap64 ((wrap64 (t285 * 256)) + t287))] from rfl) (Reps.one (show Kd.M (Kd.int .i64) _ _ _ (wrap64 (65535 - t289)) [.int .i64 (wrap64 (65535 - t289))] from rfl) (Reps.one (show Kd.M (Kd.int .i64) _ _ _ (wrap64 (32767 + t291)) [.int .i64 (wrap64 (32767 + t291))] from rfl) (Reps.none _ _))))))); intro v294 w29 ho30 hb hg_ hnew_; clear hg_ hnew_; (first | rw [← z2.out] at ho30 | (simp only [Int.reduceToNat] at ho30; rw [← z2.out] at ho30)); have n0_ := A_ (Kd.R_lower ho30 (keep_size (w := w) (g := g) (row := none) (by repeat (yab_)))); have n1_ := A_ (IsS69.below (by repeat (yaa_)) hb); have n2_ := A_ (kT_ (by repeat (yab_)) (kO_ hb g none) (.inl rfl)); have n3_ := A_ (wT_ (by repeat (ya_)) hb); clear HI0; clear HK; clear HB; have z0 := n0_; have HI0 := n1_; have HK := n2_; have HB := n3_; clear n0_ n1_ n2_ n3_; clear hb ho30) | ((with_reducible refine gate_callee (f := 45) rfl ?_); refine goesL_ (some 31) rfl rfl Try.func45 (by kernel_rfl) rfl #[.pointer (some ⟨g, 0, none⟩), .int .i64 5] rfl (yac_) ?_; (with_reducible refine (spec_l20Rd_pick.calls k g s0_0 t292 5 t296 t297 w0 _ ?side1 ?side2 A19.out).mono ?_); (case side1 => repeat (yaa_)); (case side2 => repeat (ya_)); rintro e w31 ⟨rfl, hi, hb, hk⟩; refine ⟨_, rfl, ?_⟩; have n0_ := A_ (rM_ (Kd.R_keep (IsS69.apart (show IsS69 w0 _ g s0_0 t292 from by repeat (yaa_)) (by (with_reducible repeat (first | apply rA_ | apply rN_ | apply rD_)); exact z0.out) (by decide)) hk (fun _ h => h.2)) (fun _ h => h.1)); have n1_ := A_ (kT_ (by repeat (yab_)) hk (.inl rfl)); have n2_ := A_ (hb); have n3_ := A_ (hi); clear z0; clear HK; clear HB; clear HI0; have z0 := n0_; have HK := n1_; have HB := n2_; have HI0 := n3_; clear n0_ n1_ n2_ n3_; (try clear hb); (try clear hb2); (try clear hk); (try clear hi); obtain ⟨Ao32, co32, eo32⟩ := Kd.R_slice z0.out; subst eo32; have p298 : 0 ≤ (t296 : Int) := of_decide_eq_true (by first | (with_reducible assumption) | assumption); have q298 : t296 < (y293.length : Int) := of_decide_eq_true (by first | (with_reducible assumption) | assumption); obtain ⟨ad298, e298, hx298_0⟩ := Kd.at_int (Kd.R_reads' z0.out).2.2 t296 p298 q298; cases e298; replace p298 := eq_true p298; replace q298 := eq_true q298))
    go_ret
    exact ⟨by first | rfl | (simp [errW_none, errW_some] <;> rfl) | (simp [*, errW_none, errW_some] <;> rfl), by repeat (yaa_), by repeat (ya_), by repeat (yab_)⟩
   ·rw [if_neg c21] at H
    exact absurd H (by simp)
  ·rw [if_neg c20] at H
   exact absurd H (by simp)
end
end

/-! ### spec_l20In: function 58 -/
section
set_option hygiene false in
local macro "ya_" : tactic => `(tactic| (first | (with_reducible first | exact HI0.out | apply iA_ | apply iN_ | apply iD_ | apply iS_ | refine iF_ ?_ z2.out _ | refine iF_ ?_ z3.out _) | exact HI0.out))
set_option hygiene false in
local macro "yaa_" : tactic => `(tactic| (with_reducible repeat (first | refine bN_ ?_ _ | refine bD_ ?_ | refine bA_ ?_ _)))
set_option hygiene false in
local macro "yab_" : tactic => `(tactic| (first | (with_reducible first | exact HK.out | apply kS_ | apply kN_ | apply kD_ | apply kA_ | refine kF_ ?_ z6.out _ | refine kF_ ?_ z8.out _) | exact HK.out))
set_option hygiene false in
local macro "yac_" : tactic => `(tactic| (first | (with_reducible first | exact HB.out | apply wA_ | apply wN_ | apply wD_ | refine wS_ ?_ (IsS69.ge HI0.out) | refine wS_ ?_ z9.out | refine wS_ ?_ za.out) | exact HB.out))
set_option hygiene false in
local macro "yad_" : tactic => `(tactic| (with_reducible repeat (first | apply Kd.Q_alloc | apply Kd.Q_drewN | apply Kd.Q_drew)))
set_option hygiene false in
local macro "yae_" : term => `((by (try simp only [mT_, mC_, mN_]); first | done | rfl | (simp only [lD_, lT_]; rfl)))
set_option hygiene false in
local macro "yaf_" : term => `((by repeat (first | (with_reducible first | exact HK.out | apply kS_ | apply kN_ | apply kD_ | apply kA_ | refine kF_ ?_ z6.out _) | exact HK.out)))
set_option hygiene false in
local macro "yag_" : tactic => `(tactic| (with_reducible repeat (first | apply rA_ | apply rN_ | apply rD_)))
set_option hygiene false in
local macro "yah_" : tactic => `(tactic| (first | (with_reducible first | exact HI0.out | apply iA_ | apply iN_ | apply iD_ | apply iS_ | refine iF_ ?_ z2.out _) | exact HI0.out))
set_option hygiene false in
local macro "yai_" : tactic => `(tactic| (with_reducible refine gate_callee (f := 45) rfl ?_))
set_option hygiene false in
local macro "yaj_" : term => `((by (yaa_); refine blk_put (cs := #[.bool (t300 == 0), .bool z4, .int .i64 z5, .int .i64 z7, .slice none 0 0]) ?_ 4 _ rfl; (yaa_); refine blk_put (cs := #[.bool (t300 == 0), .bool z4, .int .i64 z5, .int .i64 0, .slice none 0 0]) ?_ 3 _ rfl; (yaa_); refine blk_put (cs := #[.bool (t300 == 0), .bool z4, .int .i64 0, .int .i64 0, .slice none 0 0]) ?_ 2 _ rfl; (yaa_); refine blk_put (cs := #[.bool (t300 == 0), .bool false, .int .i64 0, .int .i64 0, .slice none 0 0]) ?_ 1 _ rfl; (yaa_); refine blk_put (cs := #[.bool false, .bool false, .int .i64 0, .int .i64 0, .slice none 0 0]) ?_ 0 _ rfl; (yaa_); refine blk_far ?_ zf.out _; (yaa_); exact z0.out))
set_option hygiene false in
local macro "yak_" : tactic => `(tactic| (first | (with_reducible first | exact HB.out | apply wA_ | apply wN_ | apply wD_ | refine wS_ ?_ (IsS69.ge HI0.out) | refine wS_ ?_ z9.out) | exact HB.out))
section
open Go.Proofs.YtdpgomcdacmhkaaW.PrintWords renaming blk_drewN → bN_, blk_alloc → bA_, blk_drew → bD_, blk_below → bB_, blk_frozen → bF_, blk_cell → bC_, below_set → wS_, keep_far → kF_, pw_below_drewN → wN_, keep_drewN → kN_, keep_alloc → kA_, keep_drew → kD_, below_alloc → wA_, below_drew1 → wD_, below_step → wT_
open Go.Proofs.YtdpgomcdacmhkaaW.PrintWords.Aside0 renaming mk → A_
open Go.Proofs.YtdpgomcdacmhkaaW.PrintWords.KeepBut renaming set_ → kS_, blk → kB_, trans → kT_, of_below → kO_
open Go.Proofs.YtdpgomcdacmhkaaW.PrintWords.Kd renaming R_drewN → rN_, R_drew → rD_, R_alloc → rA_, R_elder' → rE_, R_below → rB_, R_mono → rM_
open List renaming map_toArray → mT_, map_cons → mC_, map_nil → mN_, length_drop → lD_, length_take → lT_, setIfInBounds_toArray → sT_, set_cons_zero → s0_, set_cons_succ → s1_
open Go.Proofs.Ytdpgomcdacmhkaa.QFnInOk.IsS69 renaming far → iF_, alloc → iA_, drewN → iN_, drew → iD_, set_1 → iS_
mutual
def spec_l20In.j0 : Nat → Int → List Int → Int → Bool → Bool → Int → Int → List Int → Option (Bool × Bool × Int × Int × List Int × Int)
 | 0, _, _, _, _, _, _, _, _ => none
 | k + 1, x1, zg, zs, zj, zl, zm, zn, zo => (spec_l20Rd_pick.f k zg zs 12).bind fun bt315 => (if bt315.1 = 0 then ((spec_l20Rd_pick.f k zg bt315.2 48).bind fun bt317 => ((spec_l20Rd_pick.f k zg bt317.2 16).bind fun bt319 => ((spec_l20Rd_pick.f k zg bt319.2 256).bind fun bt321 => ((some (([bt317.1, wrap64 (128 + bt319.1), bt321.1] : List Int) : List Int)).bind fun y323 => ((spec_l20Rd_pick.f k zg bt321.2 3).bind fun bt326 => (if 0 ≤ bt326.1 then (if bt326.1 < (y323.length : Int) then ((spec_l20Word.f k zg bt326.2 0).bind fun bt329 => ((spec_l20Inst.f k zg bt329.2 0).bind fun bt331 => ((spec_CodWord.f k bt331.1 bt331.2.1 bt331.2.2.1 bt331.2.2.2.1 bt331.2.2.2.2.1 bt331.2.2.2.2.2.1).bind fun t338 => ((spec_l20Rd_pick.f k zg bt331.2.2.2.2.2.2 8).bind fun bt339 => ((some (([bt329.1, t338, wrap64 (48 + bt339.1)] : List Int) : List Int)).bind fun y341 => ((spec_l20Rd_pick.f k zg bt339.2 3).bind fun bt344 => (if 0 ≤ bt344.1 then (if bt344.1 < (y341.length : Int) then (spec_l20In.j1 k x1 zg bt344.2 zj true (rd y323 bt326.1) (rd y341 bt344.1) zo) else (none)) else (none)))))))) else (none)) else (none))))))) else (spec_l20In.j1 k x1 zg bt315.2 zj zl zm zn zo))
def spec_l20In.j1 : Nat → Int → List Int → Int → Bool → Bool → Int → Int → List Int → Option (Bool × Bool × Int × Int × List Int × Int)
 | 0, _, _, _, _, _, _, _, _ => none
 | k + 1, x1, zg, zs, zj, zl, zm, zn, zo => (spec_l20Rd_odd.f k zg zs x1).bind fun bt347 => (if bt347.1 = true then ((spec_l20Rd_pick.f k zg bt347.2 4).bind fun bt349 => (if bt349.1 = 0 then (some (zj, zl, zm, zn, (([1, 2, 3] : List Int)), bt349.2)) else (if bt349.1 = 1 then (some (zj, zl, zm, zn, (([(-1)] : List Int)), bt349.2)) else (if bt349.1 = 2 then ((some (([(-1), 256, 1] : List Int) : List Int)).bind fun y357 => ((spec_l20Rd_pick.f k zg bt349.2 3).bind fun bt360 => (if 0 ≤ bt360.1 then (if bt360.1 < (y357.length : Int) then (some (zj, zl, rd y357 bt360.1, zn, zo, bt360.2)) else (none)) else (none)))) else ((some (([(-1), 65536] : List Int) : List Int)).bind fun y363 => ((spec_l20Rd_pick.f k zg bt349.2 2).bind fun bt366 => (if 0 ≤ bt366.1 then (if bt366.1 < (y363.length : Int) then (some (zj, zl, zm, rd y363 bt366.1, zo, bt366.2)) else (none)) else (none)))))))) else (some (zj, zl, zm, zn, zo, bt347.2)))
end
def spec_l20In.f (k : Nat) (s0_0 : List Int) (s0_1 : Int) (a1 : Int) : Option (Bool × Bool × Int × Int × List Int × Int) := (spec_l20Rd_pick.f k s0_0 s0_1 14).bind fun bt300 => ((spec_l20Rd_pick.f k s0_0 bt300.2 8).bind fun bt302 => ((spec_l20Rd_pick.f k s0_0 bt302.2 8).bind fun bt304 => ((some (([bt302.1, bt304.1] : List Int) : List Int)).bind fun y306 => ((spec_l20Rd_pick.f k s0_0 bt304.2 6).bind fun bt310 => (if bt310.1 = 0 then (if 1 ≤ (y306.length : Int) then (spec_l20In.j0 k a1 s0_0 bt310.2 (bt300.1 == 0) false 0 0 (y306.drop (1 : Int).toNat)) else (none)) else (spec_l20In.j0 k a1 s0_0 bt310.2 (bt300.1 == 0) false 0 0 y306))))))
theorem spec_l20In.mono_l : ∀ k, (∀ y0 y1 y2 y3 y4 y5 y6 y7, LeO (spec_l20In.j0 k y0 y1 y2 y3 y4 y5 y6 y7) (spec_l20In.j0 (k + 1) y0 y1 y2 y3 y4 y5 y6 y7)) ∧ (∀ y0 y1 y2 y3 y4 y5 y6 y7, LeO (spec_l20In.j1 k y0 y1 y2 y3 y4 y5 y6 y7) (spec_l20In.j1 (k + 1) y0 y1 y2 y3 y4 y5 y6 y7))
 | 0 => ⟨fun _ _ _ _ _ _ _ _ r h => by simp [spec_l20In.j0] at h, fun _ _ _ _ _ _ _ _ r h => by simp [spec_l20In.j1] at h⟩
 | k + 1 => by
  obtain ⟨ih0, ih1⟩ := spec_l20In.mono_l k
  refine ⟨?_, ?_⟩
  ·intro y0 y1 y2 y3 y4 y5 y6 y7
   unfold spec_l20In.j0
   repeat' first
   | (with_reducible exact ih0 _ _ _ _ _ _ _ _)
   | (with_reducible exact ih1 _ _ _ _ _ _ _ _)
   | (with_reducible exact spec_CodWord.mono _ _ _ _ _ _ _)
   | (with_reducible exact spec_l20Inst.mono _ _ _ _)
   | (with_reducible exact spec_l20Rd_odd.mono _ _ _ _)
   | (with_reducible exact spec_l20Rd_pick.mono _ _ _ _)
   | (with_reducible exact spec_l20Word.mono _ _ _ _)
   | (with_reducible exact LeO.refl _)
   | (with_reducible exact LeO.none _)
   | (with_reducible refine LeO.ite ?_ ?_)
   | (with_reducible refine LeO.bind ?_ (fun _ => ?_))
   | exact ih0 _ _ _ _ _ _ _ _
   | exact ih1 _ _ _ _ _ _ _ _
   | exact spec_CodWord.mono _ _ _ _ _ _ _
   | exact spec_l20Inst.mono _ _ _ _
   | exact spec_l20Rd_odd.mono _ _ _ _
   | exact spec_l20Rd_pick.mono _ _ _ _
   | exact spec_l20Word.mono _ _ _ _
   | exact LeO.none _
   | refine LeO.ite ?_ ?_
   | refine LeO.bind ?_ (fun _ => ?_)
  ·intro y0 y1 y2 y3 y4 y5 y6 y7
   unfold spec_l20In.j1
   repeat' first
   | (with_reducible exact ih0 _ _ _ _ _ _ _ _)
   | (with_reducible exact ih1 _ _ _ _ _ _ _ _)
   | (with_reducible exact spec_CodWord.mono _ _ _ _ _ _ _)
   | (with_reducible exact spec_l20Inst.mono _ _ _ _)
   | (with_reducible exact spec_l20Rd_odd.mono _ _ _ _)
   | (with_reducible exact spec_l20Rd_pick.mono _ _ _ _)
   | (with_reducible exact spec_l20Word.mono _ _ _ _)
   | (with_reducible exact LeO.refl _)
   | (with_reducible exact LeO.none _)
   | (with_reducible refine LeO.ite ?_ ?_)
   | (with_reducible refine LeO.bind ?_ (fun _ => ?_))
   | exact ih0 _ _ _ _ _ _ _ _
   | exact ih1 _ _ _ _ _ _ _ _
   | exact spec_CodWord.mono _ _ _ _ _ _ _
   | exact spec_l20Inst.mono _ _ _ _
   | exact spec_l20Rd_odd.mono _ _ _ _
   | exact spec_l20Rd_pick.mono _ _ _ _
   | exact spec_l20Word.mono _ _ _ _
   | exact LeO.none _
   | refine LeO.ite ?_ ?_
   | refine LeO.bind ?_ (fun _ => ?_)
theorem spec_l20In.mono : ∀ a0 a1 a2 k, LeO (spec_l20In.f k a0 a1 a2) (spec_l20In.f (k + 1) a0 a1 a2) := by
 intro a0 a1 a2 k
 obtain ⟨ih0, ih1⟩ := spec_l20In.mono_l k
 unfold spec_l20In.f
 repeat' first
   | (with_reducible exact ih0 _ _ _ _ _ _ _ _)
   | (with_reducible exact ih1 _ _ _ _ _ _ _ _)
   | (with_reducible exact spec_CodWord.mono _ _ _ _ _ _ _)
   | (with_reducible exact spec_l20Inst.mono _ _ _ _)
   | (with_reducible exact spec_l20Rd_odd.mono _ _ _ _)
   | (with_reducible exact spec_l20Rd_pick.mono _ _ _ _)
   | (with_reducible exact spec_l20Word.mono _ _ _ _)
   | (with_reducible exact LeO.refl _)
   | (with_reducible exact LeO.none _)
   | (with_reducible refine LeO.ite ?_ ?_)
   | (with_reducible refine LeO.bind ?_ (fun _ => ?_))
   | exact ih0 _ _ _ _ _ _ _ _
   | exact ih1 _ _ _ _ _ _ _ _
   | exact spec_CodWord.mono _ _ _ _ _ _ _
   | exact spec_l20Inst.mono _ _ _ _
   | exact spec_l20Rd_odd.mono _ _ _ _
   | exact spec_l20Rd_pick.mono _ _ _ _
   | exact spec_l20Word.mono _ _ _ _
   | exact LeO.none _
   | refine LeO.ite ?_ ?_
   | refine LeO.bind ?_ (fun _ => ?_)
set_option maxHeartbeats 8000000 in
set_option maxRecDepth 100000 in
theorem spec_l20In.calls (k : Nat) (g : Nat) (s0_0 : List Int) (s0_1 : Int) (a1 : Int) (r1 : Bool) (r2 : Bool) (r3 : Int) (r4 : Int) (r5 : List Int) (r6 : Int) (w0 w : World) (hI : IsS69 w0 w g s0_0 s0_1) (hB : Below w0.heap.size w0 w) (h : spec_l20In.f k s0_0 s0_1 a1 = some (r1, r2, r3, r4, r5, r6)) :
  Calls Try.prog 58 #[.pointer (some ⟨g, 0, none⟩), .int .i64 a1] w fun e w' => ∃ v4_ : Value, e = .returned (.agg #[.bool r1, .bool r2, .int .i64 r3, .int .i64 r4, v4_]) ∧ Kd.Q (Kd.int .i64) 3 w' w.heap.size (fun _ => True) v4_ r5 ∧ IsS69 w0 w' g s0_0 r6 ∧ Below w0.heap.size w0 w' ∧ KeepBut w w' g none := by
 have hu47 := Try.underlying47
 have HI0 := A_ hI
 have HK := A_ (KeepBut.refl w g none)
 have HL := A_ hB.size
 clear hI
 have HW0 := A_ hB.size
 have HB := A_ hB
 clear hB
 have H : ((spec_l20Rd_pick.f k s0_0 s0_1 14).bind fun bt300 => ((spec_l20Rd_pick.f k s0_0 bt300.2 8).bind fun bt302 => ((spec_l20Rd_pick.f k s0_0 bt302.2 8).bind fun bt304 => ((some (([bt302.1, bt304.1] : List Int) : List Int)).bind fun y306 => ((spec_l20Rd_pick.f k s0_0 bt304.2 6).bind fun bt310 => (if bt310.1 = 0 then (if 1 ≤ (y306.length : Int) then (spec_l20In.j0 k a1 s0_0 bt310.2 (bt300.1 == 0) false 0 0 (y306.drop (1 : Int).toNat)) else (none)) else (spec_l20In.j0 k a1 s0_0 bt310.2 (bt300.1 == 0) false 0 0 y306))))))) = some (r1, r2, r3, r4, r5, r6) := h
 clear h
 replace H := Option.bind_eq_some_iff.mp H
 obtain ⟨⟨t300, t301⟩, A30, H⟩ := H
 replace H : ((spec_l20Rd_pick.f k s0_0 t301 8).bind fun bt302 => ((spec_l20Rd_pick.f k s0_0 bt302.2 8).bind fun bt304 => ((some (([bt302.1, bt304.1] : List Int) : List Int)).bind fun y306 => ((spec_l20Rd_pick.f k s0_0 bt304.2 6).bind fun bt310 => (if bt310.1 = 0 then (if 1 ≤ (y306.length : Int) then (spec_l20In.j0 k a1 s0_0 bt310.2 (t300 == 0) false 0 0 (y306.drop (1 : Int).toNat)) else (none)) else (spec_l20In.j0 k a1 s0_0 bt310.2 (t300 == 0) false 0 0 y306)))))) = some (r1, r2, r3, r4, r5, r6) := H
 have A3 := A_ A30
 clear A30
 replace H := Option.bind_eq_some_iff.mp H
 obtain ⟨⟨t302, t303⟩, A40, H⟩ := H
 replace H : ((spec_l20Rd_pick.f k s0_0 t303 8).bind fun bt304 => ((some (([t302, bt304.1] : List Int) : List Int)).bind fun y306 => ((spec_l20Rd_pick.f k s0_0 bt304.2 6).bind fun bt310 => (if bt310.1 = 0 then (if 1 ≤ (y306.length : Int) then (spec_l20In.j0 k a1 s0_0 bt310.2 (t300 == 0) false 0 0 (y306.drop (1 : Int).toNat)) else (none)) else (spec_l20In.j0 k a1 s0_0 bt310.2 (t300 == 0) false 0 0 y306))))) = some (r1, r2, r3, r4, r5, r6) := H
 have A4 := A_ A40
 clear A40
 replace H := Option.bind_eq_some_iff.mp H
 obtain ⟨⟨t304, t305⟩, A50, H⟩ := H
 replace H : ((some (([t302, t304] : List Int) : List Int)).bind fun y306 => ((spec_l20Rd_pick.f k s0_0 t305 6).bind fun bt310 => (if bt310.1 = 0 then (if 1 ≤ (y306.length : Int) then (spec_l20In.j0 k a1 s0_0 bt310.2 (t300 == 0) false 0 0 (y306.drop (1 : Int).toNat)) else (none)) else (spec_l20In.j0 k a1 s0_0 bt310.2 (t300 == 0) false 0 0 y306)))) = some (r1, r2, r3, r4, r5, r6) := H
 have A5 := A_ A50
 clear A50
 obtain ⟨y306, hy306⟩ : ∃ y_ : List Int, y_ = (([t302, t304] : List Int)) := ⟨_, rfl⟩
 replace H : ((spec_l20Rd_pick.f k s0_0 t305 6).bind fun bt310 => (if bt310.1 = 0 then (if 1 ≤ (y306.length : Int) then (spec_l20In.j0 k a1 s0_0 bt310.2 (t300 == 0) false 0 0 (y306.drop (1 : Int).toNat)) else (none)) else (spec_l20In.j0 k a1 s0_0 bt310.2 (t300 == 0) false 0 0 y306))) = some (r1, r2, r3, r4, r5, r6) := by first | (rw [hy306]; with_reducible exact H) | (have H2_ := (Option.bind_some _ _).symm.trans H; rw [hy306]; with_reducible exact H2_) | (have H2_ := (Option.bind_some _ _).symm.trans H; with_reducible exact H2_) | with_reducible exact H | (rw [hy306]; exact H) | exact H
 have zt := A_ hy306
 clear hy306
 replace H := Option.bind_eq_some_iff.mp H
 obtain ⟨⟨t310, t311⟩, A60, H⟩ := H
 replace H : (if t310 = 0 then (if 1 ≤ (y306.length : Int) then (spec_l20In.j0 k a1 s0_0 t311 (t300 == 0) false 0 0 (y306.drop (1 : Int).toNat)) else (none)) else (spec_l20In.j0 k a1 s0_0 t311 (t300 == 0) false 0 0 y306)) = some (r1, r2, r3, r4, r5, r6) := H
 have A6 := A_ A60
 clear A60
 have HC7 := A_ H
 clear H
 go_enter Try.func58, Try.ntmps58
 go_upto_if 17 with (first | ((with_reducible refine gate_dst (N := 4) rfl ?_); refine box_event ?hg (N := 4) ?hd (cs := #[.bool false, .bool false, .int .i64 0, .int .i64 0, .slice none 0 0]) (t := 47) ?hr ?_; (case hd => rfl); (case hg => rfl); (case hr => first | (go_simp; done) | (go_simp; rfl)); intro gb299 hg w8 hbox hb; have n0_ := A_ (IsS69.below (by repeat (first | (with_reducible first | exact HI0.out | apply iA_ | apply iN_ | apply iD_ | apply iS_) | exact HI0.out)) hb); have n1_ := A_ (kT_ (by repeat (first | (with_reducible first | exact HK.out | apply kS_ | apply kN_ | apply kD_ | apply kA_) | exact HK.out)) (kO_ hb g none) (.inl rfl)); have n2_ := A_ (wT_ (by repeat (first | (with_reducible first | exact HB.out | apply wA_ | apply wN_ | apply wD_ | refine wS_ ?_ (IsS69.ge HI0.out)) | exact HB.out)) hb); have n3_ := A_ (hbox); have n4_ := A_ ((by rw [hg]; exact (keep_size (w := w) (g := g) (row := none) (by repeat (first | (with_reducible first | exact HK.out | apply kS_ | apply kN_ | apply kD_ | apply kA_) | exact HK.out))) : w.heap.size ≤ gb299)); have n5_ := A_ ((Nat.le_trans HW0.out (by rw [hg]; exact (keep_size (w := w) (g := g) (row := none) (by repeat (first | (with_reducible first | exact HK.out | apply kS_ | apply kN_ | apply kD_ | apply kA_) | exact HK.out))) : w.heap.size ≤ gb299) : w0.heap.size ≤ gb299)); have n6_ := A_ ((by rw [hg]; exact Nat.ne_of_lt (IsS69.lt (show IsS69 w0 _ g s0_0 s0_1 from by repeat (first | (with_reducible first | exact HI0.out | apply iA_ | apply iN_ | apply iD_ | apply iS_) | exact HI0.out))) : g ≠ gb299)); have n7_ := A_ ((by rw [hg]; exact Nat.ne_of_gt (IsS69.lt (show IsS69 w0 _ g s0_0 s0_1 from by repeat (first | (with_reducible first | exact HI0.out | apply iA_ | apply iN_ | apply iD_ | apply iS_) | exact HI0.out))) : gb299 ≠ g)); clear HI0; clear HK; clear HB; have HI0 := n0_; have HK := n1_; have HB := n2_; have z0 := n3_; have z6 := n4_; have z9 := n5_; have z2 := n6_; have zc := n7_; clear n0_ n1_ n2_ n3_ n4_ n5_ n6_ n7_; clear hb hbox hg) | ((yai_); refine goesL_ (some 7) rfl rfl Try.func45 (by kernel_rfl) rfl #[.pointer (some ⟨g, 0, none⟩), .int .i64 14] rfl (yae_) ?_; (with_reducible refine (spec_l20Rd_pick.calls k g s0_0 s0_1 14 t300 t301 w0 _ ?side1 ?side2 A3.out).mono ?_); (case side1 => repeat (yah_)); (case side2 => repeat (yak_)); rintro e w9 ⟨rfl, hi, hb, hk⟩; refine ⟨_, rfl, ?_⟩; have n0_ := A_ (kB_ hk (g' := gb299) (o := .cells #[.bool false, .bool false, .int .i64 0, .int .i64 0, .slice none 0 0] 47 (0, 0)) (by (yaa_); exact z0.out) zc.out (by simp)); have n1_ := A_ (kT_ (yaf_) hk (.inl rfl)); have n2_ := A_ (hb); have n3_ := A_ (hi); clear z0; clear HK; clear HB; clear HI0; have z0 := n0_; have HK := n1_; have HB := n2_; have HI0 := n3_; clear n0_ n1_ n2_ n3_; (try clear hb); (try clear hb2); (try clear hk); (try clear hi)) | ((yai_); refine goesL_ (some 10) rfl rfl Try.func45 (by kernel_rfl) rfl #[.pointer (some ⟨g, 0, none⟩), .int .i64 8] rfl (yae_) ?_; (with_reducible refine (spec_l20Rd_pick.calls k g s0_0 t301 8 t302 t303 w0 _ ?side1 ?side2 A4.out).mono ?_); (case side1 => repeat (yah_)); (case side2 => repeat (yak_)); rintro e w10 ⟨rfl, hi, hb, hk⟩; refine ⟨_, rfl, ?_⟩; have n0_ := A_ (kB_ hk (g' := gb299) (o := .cells #[.bool false, .bool false, .int .i64 0, .int .i64 0, .slice none 0 0] 47 (0, 0)) (by (yaa_); exact z0.out) zc.out (by simp)); have n1_ := A_ (kT_ (yaf_) hk (.inl rfl)); have n2_ := A_ (hb); have n3_ := A_ (hi); clear z0; clear HK; clear HB; clear HI0; have z0 := n0_; have HK := n1_; have HB := n2_; have HI0 := n3_; clear n0_ n1_ n2_ n3_; (try clear hb); (try clear hb2); (try clear hk); (try clear hi)) | ((yai_); refine goesL_ (some 12) rfl rfl Try.func45 (by kernel_rfl) rfl #[.pointer (some ⟨g, 0, none⟩), .int .i64 8] rfl (yae_) ?_; (with_reducible refine (spec_l20Rd_pick.calls k g s0_0 t303 8 t304 t305 w0 _ ?side1 ?side2 A5.out).mono ?_); (case side1 => repeat (yah_)); (case side2 => repeat (yak_)); rintro e w11 ⟨rfl, hi, hb, hk⟩; refine ⟨_, rfl, ?_⟩; have n0_ := A_ (kB_ hk (g' := gb299) (o := .cells #[.bool false, .bool false, .int .i64 0, .int .i64 0, .slice none 0 0] 47 (0, 0)) (by (yaa_); exact z0.out) zc.out (by simp)); have n1_ := A_ (kT_ (yaf_) hk (.inl rfl)); have n2_ := A_ (hb); have n3_ := A_ (hi); clear z0; clear HK; clear HB; clear HI0; have z0 := n0_; have HK := n1_; have HB := n2_; have HI0 := n3_; clear n0_ n1_ n2_ n3_; (try clear hb); (try clear hb2); (try clear hk); (try clear hi)) | ((with_reducible refine gate_dst (N := 13) rfl ?_); refine Kd.R_lit (Kd.int .i64) _ 3 ?hg (N := 13) ?hd (xs := ([t302, t304] : List Int)) (inner := [.int .i64 t302, .int .i64 t304]) (ok := fun _ => True) (okp := fun _ => True) ?hr ?hp (fun _ hk => hk) trivial (Below.refl _ _) (Nat.le_refl _) (by simp) ?_; (case hd => rfl); (case hg => rfl); (case hr => first | (go_simp; done) | (go_simp; rfl)); (case hp => exact (Reps.one (show Kd.M (Kd.int .i64) _ _ _ t302 [.int .i64 t302] from rfl) (Reps.one (show Kd.M (Kd.int .i64) _ _ _ t304 [.int .i64 t304] from rfl) (Reps.none _ _)))); intro v307 w12 ho13 hb hg_ hnew_; clear hg_ hnew_; (first | rw [← zt.out] at ho13 | (simp only [Int.reduceToNat] at ho13; rw [← zt.out] at ho13)); have n0_ := A_ (Kd.R_lower ho13 (keep_size (w := w) (g := g) (row := none) (yaf_))); have n1_ := A_ (IsS69.below (by repeat (yah_)) hb); have n2_ := A_ (bB_ (g := gb299) (o := .cells #[.bool false, .bool false, .int .i64 0, .int .i64 0, .slice none 0 0] 47 (0, 0)) (by (yaa_); exact z0.out) hb); have n3_ := A_ (kT_ (yaf_) (kO_ hb g none) (.inl rfl)); have n4_ := A_ (wT_ (by repeat (yak_)) hb); clear HI0; clear z0; clear HK; clear HB; have zi := n0_; have HI0 := n1_; have z0 := n2_; have HK := n3_; have HB := n4_; clear n0_ n1_ n2_ n3_ n4_; clear hb ho13; obtain ⟨Ao14, co14, eo14⟩ := Kd.R_slice zi.out; subst eo14) | ((with_reducible refine gate_dst (N := 5) rfl ?_); refine box_event ?hg (N := 5) ?hd (cs := #[.bool false, .bool false, .int .i64 0, .int .i64 0, .slice none 0 0]) (t := 47) ?hr ?_; (case hd => rfl); (case hg => rfl); (case hr => first | (go_simp; done) | (go_simp; rfl)); intro gb309 hg w15 hbox hb; have n0_ := A_ (rB_ (by (yag_); exact zi.out) hb); have n1_ := A_ (IsS69.below (by repeat (yah_)) hb); have n2_ := A_ (bB_ (g := gb299) (o := .cells #[.bool false, .bool false, .int .i64 0, .int .i64 0, .slice none 0 0] 47 (0, 0)) (by (yaa_); exact z0.out) hb); have n3_ := A_ (kT_ (yaf_) (kO_ hb g none) (.inl rfl)); have n4_ := A_ (wT_ (by repeat (yak_)) hb); have n5_ := A_ (hbox); have n6_ := A_ ((by rw [hg]; exact (keep_size (w := w) (g := g) (row := none) (yaf_)) : w.heap.size ≤ gb309)); have n7_ := A_ ((Nat.le_trans HW0.out (by rw [hg]; exact (keep_size (w := w) (g := g) (row := none) (yaf_)) : w.heap.size ≤ gb309) : w0.heap.size ≤ gb309)); have n8_ := A_ ((by rw [hg]; exact Nat.ne_of_lt (blk_lt (g := gb299) (o := .cells #[.bool false, .bool false, .int .i64 0, .int .i64 0, .slice none 0 0] 47 (0, 0)) (by (yaa_); exact z0.out)) : gb299 ≠ gb309)); have n9_ := A_ ((by rw [hg]; exact Nat.ne_of_gt (blk_lt (g := gb299) (o := .cells #[.bool false, .bool false, .int .i64 0, .int .i64 0, .slice none 0 0] 47 (0, 0)) (by (yaa_); exact z0.out)) : gb309 ≠ gb299)); have n10_ := A_ ((by rw [hg]; exact Nat.ne_of_lt (IsS69.lt (show IsS69 w0 _ g s0_0 t305 from by repeat (yah_))) : g ≠ gb309)); have n11_ := A_ ((by rw [hg]; exact Nat.ne_of_gt (IsS69.lt (show IsS69 w0 _ g s0_0 t305 from by repeat (yah_))) : gb309 ≠ g)); clear zi; clear HI0; clear z0; clear HK; clear HB; have zi := n0_; have HI0 := n1_; have z0 := n2_; have HK := n3_; have HB := n4_; have z := n5_; have z8 := n6_; have za := n7_; have zf := n8_; have zk := n9_; have z3 := n10_; have zd := n11_; clear n0_ n1_ n2_ n3_ n4_ n5_ n6_ n7_ n8_ n9_ n10_ n11_; clear hb hbox hg; have hnb16 := zk.out; have hnc16 := zf.out; have hnb17 := zd.out; have hnc17 := z3.out; have hcz18_0 : w15.cell? ⟨gb309, 0, none⟩ = some (.bool false) := (bC_ z.out 0).trans rfl; have hcz18_1 : w15.cell? ⟨gb309, 1, none⟩ = some (.bool false) := (bC_ z.out 1).trans rfl; have hcz18_2 : w15.cell? ⟨gb309, 2, none⟩ = some (.int .i64 0) := (bC_ z.out 2).trans rfl; have hcz18_3 : w15.cell? ⟨gb309, 3, none⟩ = some (.int .i64 0) := (bC_ z.out 3).trans rfl; have hcz18_4 : w15.cell? ⟨gb309, 4, none⟩ = some (.slice none 0 0) := (bC_ z.out 4).trans rfl; have hfz18_0 := bF_ z.out 0; have hfz18_1 := bF_ z.out 1; have hfz18_2 := bF_ z.out 2; have hfz18_3 := bF_ z.out 3; have hfz18_4 := bF_ z.out 4) | ((yai_); refine goesL_ (some 16) rfl rfl Try.func45 (by kernel_rfl) rfl #[.pointer (some ⟨g, 0, none⟩), .int .i64 6] rfl (yae_) ?_; (with_reducible refine (spec_l20Rd_pick.calls k g s0_0 t305 6 t310 t311 w0 _ ?side1 ?side2 A6.out).mono ?_); (case side1 => repeat (ya_)); (case side2 => repeat (yac_)); rintro e w19 ⟨rfl, hi, hb, hk⟩; refine ⟨_, rfl, ?_⟩; have n0_ := A_ (kB_ hk (g' := gb299) (o := .cells #[.bool false, .bool false, .int .i64 0, .int .i64 0, .slice none 0 0] 47 (0, 0)) (by (yaa_); refine blk_far ?_ zf.out _; (yaa_); refine blk_far ?_ zf.out _; (yaa_); refine blk_far ?_ zf.out _; (yaa_); refine blk_far ?_ zf.out _; (yaa_); refine blk_far ?_ zf.out _; (yaa_); exact z0.out) zc.out (by simp)); have n1_ := A_ (rM_ (Kd.R_keep (IsS69.apart (show IsS69 w0 _ g s0_0 t305 from by repeat (ya_)) (by (yag_); exact (rM_ (Kd.R_far (p := ⟨gb309, 4, none⟩) (Kd.R_far (p := ⟨gb309, 3, none⟩) (Kd.R_far (p := ⟨gb309, 2, none⟩) (Kd.R_far (p := ⟨gb309, 1, none⟩) (Kd.R_far (p := ⟨gb309, 0, none⟩) (Kd.R_types zi.out z.out (by decide)) (fun _ hk => hk.2) (.bool (t300 == 0))) (fun _ hk => hk.2) (.bool false)) (fun _ hk => hk.2) (.int .i64 0)) (fun _ hk => hk.2) (.int .i64 0)) (fun _ hk => hk.2) (.slice Ao14 y306.length co14)) (fun _ h_ => h_.1))) (by decide)) hk (fun _ h => h.2)) (fun _ h => h.1)); have n2_ := A_ (kB_ hk (g' := gb309) (o := .cells #[.bool (t300 == 0), .bool false, .int .i64 0, .int .i64 0, .slice Ao14 y306.length co14] 47 (0, 0)) (by (yaa_); refine blk_put (cs := #[.bool (t300 == 0), .bool false, .int .i64 0, .int .i64 0, .slice none 0 0]) ?_ 4 _ rfl; (yaa_); refine blk_put (cs := #[.bool (t300 == 0), .bool false, .int .i64 0, .int .i64 0, .slice none 0 0]) ?_ 3 _ rfl; (yaa_); refine blk_put (cs := #[.bool (t300 == 0), .bool false, .int .i64 0, .int .i64 0, .slice none 0 0]) ?_ 2 _ rfl; (yaa_); refine blk_put (cs := #[.bool (t300 == 0), .bool false, .int .i64 0, .int .i64 0, .slice none 0 0]) ?_ 1 _ rfl; (yaa_); refine blk_put (cs := #[.bool false, .bool false, .int .i64 0, .int .i64 0, .slice none 0 0]) ?_ 0 _ rfl; (yaa_); exact z.out) zd.out (by simp)); have n3_ := A_ (kT_ (by repeat (yab_)) hk (.inl rfl)); have n4_ := A_ (hb); have n5_ := A_ (hi); clear z0; clear zi; clear z; clear HK; clear HB; clear HI0; have z0 := n0_; have zi := n1_; have z := n2_; have HK := n3_; have HB := n4_; have HI0 := n5_; clear n0_ n1_ n2_ n3_ n4_ n5_; (try clear hb); (try clear hb2); (try clear hk); (try clear hi)))
 (try simp only [Act.put, sT_, s0_, s1_])
 go_cut [] (fun wc => ∃ (kq : Nat) (zb : List Int) (u310004 : Value), Aside0 (spec_l20In.j0 kq a1 s0_0 t311 (t300 == 0) false 0 0 zb = some (r1, r2, r3, r4, r5, r6)) ∧ Aside0 (kq ≤ k) ∧ Aside0 (Kd.Q (Kd.int .i64) 3 wc w.heap.size (fun _ => True) u310004 zb) ∧ Aside0 (wc.heap[gb299]? = some (.cells #[.bool false, .bool false, .int .i64 0, .int .i64 0, (.slice none 0 0)] 47 (0, 0))) ∧ Aside0 (wc.heap[gb309]? = some (.cells #[.bool (t300 == 0), .bool false, .int .i64 0, .int .i64 0, u310004] 47 (0, 0))) ∧ Aside0 (IsS69 w0 wc g s0_0 t311) ∧ Aside0 (KeepBut w wc g none) ∧ Aside0 (Below w0.heap.size w0 wc))
 case first =>
  have H := HC7.out
  clear HC7
  by_cases c20 : t310 = 0
  ·rw [if_pos c20] at H
   have c20b0 : (t310 == 0) = true := beq_iff_eq.mpr c20
   have c20b1 : (t310 != 0) = false := bne_eq_false_iff_eq.mpr c20
   clear c20
   (first | rw [c20b0] | (simp only [i64_w, i32_w]; rw [c20b0]) | skip)
   by_cases c21 : 1 ≤ (y306.length : Int)
   ·rw [if_pos c21] at H
    have c21b0 := eq_true c21
    have c21b1 : decide (1 ≤ (y306.length : Int)) = true := decide_eq_true c21
    clear c21
    obtain ⟨y312, hy312⟩ : ∃ y_ : List Int, y_ = (y306.drop (1 : Int).toNat) := ⟨_, rfl⟩
    replace H : (spec_l20In.j0 k a1 s0_0 t311 (t300 == 0) false 0 0 y312) = some (r1, r2, r3, r4, r5, r6) := by first | (rw [hy312]; with_reducible exact H) | (have H2_ := (Option.bind_some _ _).symm.trans H; rw [hy312]; with_reducible exact H2_) | (have H2_ := (Option.bind_some _ _).symm.trans H; with_reducible exact H2_) | with_reducible exact H | (rw [hy312]; exact H) | exact H
    have zu := A_ hy312
    clear hy312
    have H' := A_ H
    clear H
    have hnb22 := zk.out
    have hnc22 := zf.out
    have hnb23 := zd.out
    have hnc23 := z3.out
    have hcz24_0 : w19.cell? ⟨gb309, 0, none⟩ = some (.bool (t300 == 0)) := (bC_ z.out 0).trans rfl
    have hcz24_1 : w19.cell? ⟨gb309, 1, none⟩ = some (.bool false) := (bC_ z.out 1).trans rfl
    have hcz24_2 : w19.cell? ⟨gb309, 2, none⟩ = some (.int .i64 0) := (bC_ z.out 2).trans rfl
    have hcz24_3 : w19.cell? ⟨gb309, 3, none⟩ = some (.int .i64 0) := (bC_ z.out 3).trans rfl
    have hcz24_4 : w19.cell? ⟨gb309, 4, none⟩ = some (.slice Ao14 y306.length co14) := (bC_ z.out 4).trans rfl
    have hfz24_0 := bF_ z.out 0
    have hfz24_1 := bF_ z.out 1
    have hfz24_2 := bF_ z.out 2
    have hfz24_3 := bF_ z.out 3
    have hfz24_4 := bF_ z.out 4
    have q25 : (1 : Int) ≤ ((y306.length : Int) : Int) := of_decide_eq_true (by first | (with_reducible assumption) | assumption)
    obtain ⟨i025, hi025, _, hsz25, _⟩ := info_parts info3
    have hcut25 := cut_from (P := Try.prog) 23 3 .i64 Try.underlying23 hi025 1 hsz25 Ao14 y306.length co14 1 (by omega) q25
    have hr25 := Kd.Q_drop (k := (1 : Int).toNat) (Kd.Q_of_R zi.out) (by omega)
    obtain ⟨A25, hA25⟩ : ∃ A1, A1 = (if co14 = (1 : Int).toNat then Ao14 else (Ao14 : Option Addr).map (·.add ((1 : Int).toNat * 1))) := ⟨_, rfl⟩
    obtain ⟨c25, hc25⟩ : ∃ c1, c1 = co14 - (1 : Int).toNat := ⟨_, rfl⟩
    have hy25 : y312.length = y306.length - (1 : Int).toNat := (by rw [zu.out, lD_])
    rw [← zu.out] at hr25
    rw [← hy25, ← hA25, ← hc25] at hcut25
    replace hr25 : Kd.Q (Kd.int .i64) 3 w19 w.heap.size (fun _ => True) (.slice A25 y312.length c25) y312 := (by rw [hA25, hc25, hy25]; exact hr25)
    have HE25 : Aside0 ((Value.slice A25 y312.length c25).ownBlock = (.slice Ao14 y306.length co14 : Value).ownBlock) := ⟨by rw [hA25]; split <;> (cases (Ao14 : Option Addr) <;> rfl)⟩
    clear hy25 hi025 hsz25 zi hA25 hc25
    have HO314 := A_ hr25
    clear hr25
    replace q25 := eq_true q25
    go_wp2
    go_meet
    case rel => exact ⟨_, (y312), (.slice A25 y312.length c25), H', ⟨by first | omega | exact Nat.le_refl _⟩, ⟨by (yad_); exact Kd.Q_mono (Kd.Q_far (p := ⟨gb309, 4, none⟩) (Kd.Q_types HO314.out z.out (by decide)) (fun _ hk => hk.2) (.slice A25 y312.length c25)) (fun _ hk => trivial)⟩, ⟨by (yaa_); refine blk_far ?_ zf.out _; (yaa_); exact z0.out⟩, ⟨by (yaa_); refine blk_put (cs := #[.bool (t300 == 0), .bool false, .int .i64 0, .int .i64 0, .slice Ao14 y306.length co14]) ?_ 4 _ rfl; (yaa_); exact z.out⟩, ⟨by repeat (ya_)⟩, ⟨by repeat (yab_)⟩, ⟨by repeat (yac_)⟩⟩
   ·rw [if_neg c21] at H
    exact absurd H (by simp)
  ·rw [if_neg c20] at H
   have c20b0 : (t310 == 0) = false := beq_eq_false_iff_ne.mpr c20
   have c20b1 : (t310 != 0) = true := bne_iff_ne.mpr c20
   (first | rw [c20b0] | (simp only [i64_w, i32_w]; rw [c20b0]) | skip)
   have H' := A_ H
   clear H
   go_wp2
   go_meet
   case rel => exact ⟨_, (y306), (.slice Ao14 y306.length co14), H', ⟨by first | omega | exact Nat.le_refl _⟩, ⟨Kd.Q_of_R (by (yag_); exact zi.out)⟩, ⟨by (yaa_); exact z0.out⟩, ⟨by (yaa_); exact z.out⟩, ⟨by repeat (ya_)⟩, ⟨by repeat (yab_)⟩, ⟨by repeat (yac_)⟩⟩
 case rest =>
  clear HC7
  try clear c1
  try clear c2
  try clear p2
  try clear q2
  try clear c4
  try clear c5
  try clear c16
  try clear c17
  try clear c20
  try clear c20b0
  try clear c20b1
  try clear c21
  try clear c21b0
  try clear c21b1
  try clear c22
  try clear c23
  try clear c25
  try clear q25
  try clear hcz18_0
  try clear hcz18_1
  try clear hcz18_2
  try clear hcz18_3
  try clear hcz18_4
  try clear hcz24_0
  try clear hcz24_1
  try clear hcz24_2
  try clear hcz24_3
  try clear hcz24_4
  try clear hfz18_0
  try clear hfz18_1
  try clear hfz18_2
  try clear hfz18_3
  try clear hfz18_4
  try clear hfz24_0
  try clear hfz24_1
  try clear hfz24_2
  try clear hfz24_3
  try clear hfz24_4
  try clear q25
  obtain ⟨kq, zb, u310004, HA, HJ6, z1, z0, z, HI0, HK, HB⟩ := hcut
  cases kq with
  | zero => exact absurd HA.out (by simp [spec_l20In.j0])
  | succ kj6 =>
   have H := HA.out
   clear HA
   simp only [spec_l20In.j0] at H
   replace H := Option.bind_eq_some_iff.mp H
   obtain ⟨⟨t315, t316⟩, A260, H⟩ := H
   replace H : (if t315 = 0 then ((spec_l20Rd_pick.f kj6 s0_0 t316 48).bind fun bt317 => ((spec_l20Rd_pick.f kj6 s0_0 bt317.2 16).bind fun bt319 => ((spec_l20Rd_pick.f kj6 s0_0 bt319.2 256).bind fun bt321 => ((some (([bt317.1, wrap64 (128 + bt319.1), bt321.1] : List Int) : List Int)).bind fun y323 => ((spec_l20Rd_pick.f kj6 s0_0 bt321.2 3).bind fun bt326 => (if 0 ≤ bt326.1 then (if bt326.1 < (y323.length : Int) then ((spec_l20Word.f kj6 s0_0 bt326.2 0).bind fun bt329 => ((spec_l20Inst.f kj6 s0_0 bt329.2 0).bind fun bt331 => ((spec_CodWord.f kj6 bt331.1 bt331.2.1 bt331.2.2.1 bt331.2.2.2.1 bt331.2.2.2.2.1 bt331.2.2.2.2.2.1).bind fun t338 => ((spec_l20Rd_pick.f kj6 s0_0 bt331.2.2.2.2.2.2 8).bind fun bt339 => ((some (([bt329.1, t338, wrap64 (48 + bt339.1)] : List Int) : List Int)).bind fun y341 => ((spec_l20Rd_pick.f kj6 s0_0 bt339.2 3).bind fun bt344 => (if 0 ≤ bt344.1 then (if bt344.1 < (y341.length : Int) then (spec_l20In.j1 kj6 a1 s0_0 bt344.2 (t300 == 0) true (rd y323 bt326.1) (rd y341 bt344.1) zb) else (none)) else (none)))))))) else (none)) else (none))))))) else (spec_l20In.j1 kj6 a1 s0_0 t316 (t300 == 0) false 0 0 zb)) = some (r1, r2, r3, r4, r5, r6) := H
   have A26 := A_ A260
   clear A260
   have HC27 := A_ H
   clear H
   go_upto_if 24 with (first | ((yai_); refine goesL_ (some 23) rfl rfl Try.func45 (by kernel_rfl) rfl #[.pointer (some ⟨g, 0, none⟩), .int .i64 12] rfl (yae_) ?_; (with_reducible refine (spec_l20Rd_pick.calls kj6 g s0_0 t311 12 t315 t316 w0 _ ?side1 ?side2 A26.out).mono ?_); (case side1 => repeat (ya_)); (case side2 => repeat (yac_)); rintro e w28 ⟨rfl, hi, hb, hk⟩; refine ⟨_, rfl, ?_⟩; have n0_ := A_ (Kd.Q_mono (Kd.Q_keep (IsS69.apartQ (show IsS69 w0 _ g s0_0 t311 from by repeat (ya_)) (by (yad_); exact z1.out) (by decide)) hk (fun _ h => h.2)) (fun _ h => h.1)); have n1_ := A_ (kB_ hk (g' := gb299) (o := .cells #[.bool false, .bool false, .int .i64 0, .int .i64 0, .slice none 0 0] 47 (0, 0)) (by (yaa_); exact z0.out) zc.out (by simp)); have n2_ := A_ (kB_ hk (g' := gb309) (o := .cells #[.bool (t300 == 0), .bool false, .int .i64 0, .int .i64 0, u310004] 47 (0, 0)) (by (yaa_); exact z.out) zd.out (by simp)); have n3_ := A_ (kT_ (by repeat (yab_)) hk (.inl rfl)); have n4_ := A_ (hb); have n5_ := A_ (hi); clear z1; clear z0; clear z; clear HK; clear HB; clear HI0; have z1 := n0_; have z0 := n1_; have z := n2_; have HK := n3_; have HB := n4_; have HI0 := n5_; clear n0_ n1_ n2_ n3_ n4_ n5_; (try clear hb); (try clear hb2); (try clear hk); (try clear hi)))
   (try simp only [Act.put, sT_, s0_, s1_])
   go_cut [] (fun wc => ∃ (kq : Nat) (zh : Int) (z4 : Bool) (z5 : Int) (z7 : Int), Aside0 (spec_l20In.j1 kq a1 s0_0 zh (t300 == 0) z4 z5 z7 zb = some (r1, r2, r3, r4, r5, r6)) ∧ Aside0 (kq ≤ kj6) ∧ Aside0 (Kd.Q (Kd.int .i64) 3 wc w.heap.size (fun _ => True) u310004 zb) ∧ Aside0 (wc.heap[gb299]? = some (.cells #[.bool false, .bool false, .int .i64 0, .int .i64 0, (.slice none 0 0)] 47 (0, 0))) ∧ Aside0 (wc.heap[gb309]? = some (.cells #[.bool (t300 == 0), .bool z4, .int .i64 z5, .int .i64 z7, u310004] 47 (0, 0))) ∧ Aside0 (IsS69 w0 wc g s0_0 zh) ∧ Aside0 (KeepBut w wc g none) ∧ Aside0 (Below w0.heap.size w0 wc))
   case first =>
    have H := HC27.out
    clear HC27
    by_cases c29 : t315 = 0
    ·rw [if_pos c29] at H
     have c29b0 : (t315 == 0) = true := beq_iff_eq.mpr c29
     have c29b1 : (t315 != 0) = false := bne_eq_false_iff_eq.mpr c29
     clear c29
     (first | rw [c29b0] | (simp only [i64_w, i32_w]; rw [c29b0]) | skip)
     replace H := Option.bind_eq_some_iff.mp H
     obtain ⟨⟨t317, t318⟩, A300, H⟩ := H
     replace H : ((spec_l20Rd_pick.f kj6 s0_0 t318 16).bind fun bt319 => ((spec_l20Rd_pick.f kj6 s0_0 bt319.2 256).bind fun bt321 => ((some (([t317, wrap64 (128 + bt319.1), bt321.1] : List Int) : List Int)).bind fun y323 => ((spec_l20Rd_pick.f kj6 s0_0 bt321.2 3).bind fun bt326 => (if 0 ≤ bt326.1 then (if bt326.1 < (y323.length : Int) then ((spec_l20Word.f kj6 s0_0 bt326.2 0).bind fun bt329 => ((spec_l20Inst.f kj6 s0_0 bt329.2 0).bind fun bt331 => ((spec_CodWord.f kj6 bt331.1 bt331.2.1 bt331.2.2.1 bt331.2.2.2.1 bt331.2.2.2.2.1 bt331.2.2.2.2.2.1).bind fun t338 => ((spec_l20Rd_pick.f kj6 s0_0 bt331.2.2.2.2.2.2 8).bind fun bt339 => ((some (([bt329.1, t338, wrap64 (48 + bt339.1)] : List Int) : List Int)).bind fun y341 => ((spec_l20Rd_pick.f kj6 s0_0 bt339.2 3).bind fun bt344 => (if 0 ≤ bt344.1 then (if bt344.1 < (y341.length : Int) then (spec_l20In.j1 kj6 a1 s0_0 bt344.2 (t300 == 0) true (rd y323 bt326.1) (rd y341 bt344.1) zb) else (none)) else (none)))))))) else (none)) else (none)))))) = some (r1, r2, r3, r4, r5, r6) := H
     have A30 := A_ A300
     clear A300
     replace H := Option.bind_eq_some_iff.mp H
     obtain ⟨⟨t319, t320⟩, A310, H⟩ := H
     replace H : ((spec_l20Rd_pick.f kj6 s0_0 t320 256).bind fun bt321 => ((some (([t317, wrap64 (128 + t319), bt321.1] : List Int) : List Int)).bind fun y323 => ((spec_l20Rd_pick.f kj6 s0_0 bt321.2 3).bind fun bt326 => (if 0 ≤ bt326.1 then (if bt326.1 < (y323.length : Int) then ((spec_l20Word.f kj6 s0_0 bt326.2 0).bind fun bt329 => ((spec_l20Inst.f kj6 s0_0 bt329.2 0).bind fun bt331 => ((spec_CodWord.f kj6 bt331.1 bt331.2.1 bt331.2.2.1 bt331.2.2.2.1 bt331.2.2.2.2.1 bt331.2.2.2.2.2.1).bind fun t338 => ((spec_l20Rd_pick.f kj6 s0_0 bt331.2.2.2.2.2.2 8).bind fun bt339 => ((some (([bt329.1, t338, wrap64 (48 + bt339.1)] : List Int) : List Int)).bind fun y341 => ((spec_l20Rd_pick.f kj6 s0_0 bt339.2 3).bind fun bt344 => (if 0 ≤ bt344.1 then (if bt344.1 < (y341.length : Int) then (spec_l20In.j1 kj6 a1 s0_0 bt344.2 (t300 == 0) true (rd y323 bt326.1) (rd y341 bt344.1) zb) else (none)) else (none)))))))) else (none)) else (none))))) = some (r1, r2, r3, r4, r5, r6) := H
     have A31 := A_ A310
     clear A310
     replace H := Option.bind_eq_some_iff.mp H
     obtain ⟨⟨t321, t322⟩, A320, H⟩ := H
     replace H : ((some (([t317, wrap64 (128 + t319), t321] : List Int) : List Int)).bind fun y323 => ((spec_l20Rd_pick.f kj6 s0_0 t322 3).bind fun bt326 => (if 0 ≤ bt326.1 then (if bt326.1 < (y323.length : Int) then ((spec_l20Word.f kj6 s0_0 bt326.2 0).bind fun bt329 => ((spec_l20Inst.f kj6 s0_0 bt329.2 0).bind fun bt331 => ((spec_CodWord.f kj6 bt331.1 bt331.2.1 bt331.2.2.1 bt331.2.2.2.1 bt331.2.2.2.2.1 bt331.2.2.2.2.2.1).bind fun t338 => ((spec_l20Rd_pick.f kj6 s0_0 bt331.2.2.2.2.2.2 8).bind fun bt339 => ((some (([bt329.1, t338, wrap64 (48 + bt339.1)] : List Int) : List Int)).bind fun y341 => ((spec_l20Rd_pick.f kj6 s0_0 bt339.2 3).bind fun bt344 => (if 0 ≤ bt344.1 then (if bt344.1 < (y341.length : Int) then (spec_l20In.j1 kj6 a1 s0_0 bt344.2 (t300 == 0) true (rd y323 bt326.1) (rd y341 bt344.1) zb) else (none)) else (none)))))))) else (none)) else (none)))) = some (r1, r2, r3, r4, r5, r6) := H
     have A32 := A_ A320
     clear A320
     obtain ⟨y323, hy323⟩ : ∃ y_ : List Int, y_ = (([t317, wrap64 (128 + t319), t321] : List Int)) := ⟨_, rfl⟩
     replace H : ((spec_l20Rd_pick.f kj6 s0_0 t322 3).bind fun bt326 => (if 0 ≤ bt326.1 then (if bt326.1 < (y323.length : Int) then ((spec_l20Word.f kj6 s0_0 bt326.2 0).bind fun bt329 => ((spec_l20Inst.f kj6 s0_0 bt329.2 0).bind fun bt331 => ((spec_CodWord.f kj6 bt331.1 bt331.2.1 bt331.2.2.1 bt331.2.2.2.1 bt331.2.2.2.2.1 bt331.2.2.2.2.2.1).bind fun t338 => ((spec_l20Rd_pick.f kj6 s0_0 bt331.2.2.2.2.2.2 8).bind fun bt339 => ((some (([bt329.1, t338, wrap64 (48 + bt339.1)] : List Int) : List Int)).bind fun y341 => ((spec_l20Rd_pick.f kj6 s0_0 bt339.2 3).bind fun bt344 => (if 0 ≤ bt344.1 then (if bt344.1 < (y341.length : Int) then (spec_l20In.j1 kj6 a1 s0_0 bt344.2 (t300 == 0) true (rd y323 bt326.1) (rd y341 bt344.1) zb) else (none)) else (none)))))))) else (none)) else (none))) = some (r1, r2, r3, r4, r5, r6) := by first | (rw [hy323]; with_reducible exact H) | (have H2_ := (Option.bind_some _ _).symm.trans H; rw [hy323]; with_reducible exact H2_) | (have H2_ := (Option.bind_some _ _).symm.trans H; with_reducible exact H2_) | with_reducible exact H | (rw [hy323]; exact H) | exact H
     have zv := A_ hy323
     clear hy323
     replace H := Option.bind_eq_some_iff.mp H
     obtain ⟨⟨t326, t327⟩, A330, H⟩ := H
     replace H : (if 0 ≤ t326 then (if t326 < (y323.length : Int) then ((spec_l20Word.f kj6 s0_0 t327 0).bind fun bt329 => ((spec_l20Inst.f kj6 s0_0 bt329.2 0).bind fun bt331 => ((spec_CodWord.f kj6 bt331.1 bt331.2.1 bt331.2.2.1 bt331.2.2.2.1 bt331.2.2.2.2.1 bt331.2.2.2.2.2.1).bind fun t338 => ((spec_l20Rd_pick.f kj6 s0_0 bt331.2.2.2.2.2.2 8).bind fun bt339 => ((some (([bt329.1, t338, wrap64 (48 + bt339.1)] : List Int) : List Int)).bind fun y341 => ((spec_l20Rd_pick.f kj6 s0_0 bt339.2 3).bind fun bt344 => (if 0 ≤ bt344.1 then (if bt344.1 < (y341.length : Int) then (spec_l20In.j1 kj6 a1 s0_0 bt344.2 (t300 == 0) true (rd y323 t326) (rd y341 bt344.1) zb) else (none)) else (none)))))))) else (none)) else (none)) = some (r1, r2, r3, r4, r5, r6) := H
     have A33 := A_ A330
     clear A330
     by_cases c34 : 0 ≤ t326
     ·rw [if_pos c34] at H
      have c34b0 : decide (0 ≤ t326) = true := decide_eq_true c34
      clear c34
      by_cases c35 : t326 < (y323.length : Int)
      ·rw [if_pos c35] at H
       have c35b0 : decide (t326 < (y323.length : Int)) = true := decide_eq_true c35
       clear c35
       replace H := Option.bind_eq_some_iff.mp H
       obtain ⟨⟨t329, t330⟩, A360, H⟩ := H
       replace H : ((spec_l20Inst.f kj6 s0_0 t330 0).bind fun bt331 => ((spec_CodWord.f kj6 bt331.1 bt331.2.1 bt331.2.2.1 bt331.2.2.2.1 bt331.2.2.2.2.1 bt331.2.2.2.2.2.1).bind fun t338 => ((spec_l20Rd_pick.f kj6 s0_0 bt331.2.2.2.2.2.2 8).bind fun bt339 => ((some (([t329, t338, wrap64 (48 + bt339.1)] : List Int) : List Int)).bind fun y341 => ((spec_l20Rd_pick.f kj6 s0_0 bt339.2 3).bind fun bt344 => (if 0 ≤ bt344.1 then (if bt344.1 < (y341.length : Int) then (spec_l20In.j1 kj6 a1 s0_0 bt344.2 (t300 == 0) true (rd y323 t326) (rd y341 bt344.1) zb) else (none)) else (none))))))) = some (r1, r2, r3, r4, r5, r6) := H
       have A36 := A_ A360
       clear A360
       replace H := Option.bind_eq_some_iff.mp H
       obtain ⟨⟨t331, t332, t333, t334, t335, t336, t337⟩, A370, H⟩ := H
       replace H : ((spec_CodWord.f kj6 t331 t332 t333 t334 t335 t336).bind fun t338 => ((spec_l20Rd_pick.f kj6 s0_0 t337 8).bind fun bt339 => ((some (([t329, t338, wrap64 (48 + bt339.1)] : List Int) : List Int)).bind fun y341 => ((spec_l20Rd_pick.f kj6 s0_0 bt339.2 3).bind fun bt344 => (if 0 ≤ bt344.1 then (if bt344.1 < (y341.length : Int) then (spec_l20In.j1 kj6 a1 s0_0 bt344.2 (t300 == 0) true (rd y323 t326) (rd y341 bt344.1) zb) else (none)) else (none)))))) = some (r1, r2, r3, r4, r5, r6) := H
       have A37 := A_ A370
       clear A370
       replace H := Option.bind_eq_some_iff.mp H
       obtain ⟨t338, A380, H⟩ := H
       replace H : ((spec_l20Rd_pick.f kj6 s0_0 t337 8).bind fun bt339 => ((some (([t329, t338, wrap64 (48 + bt339.1)] : List Int) : List Int)).bind fun y341 => ((spec_l20Rd_pick.f kj6 s0_0 bt339.2 3).bind fun bt344 => (if 0 ≤ bt344.1 then (if bt344.1 < (y341.length : Int) then (spec_l20In.j1 kj6 a1 s0_0 bt344.2 (t300 == 0) true (rd y323 t326) (rd y341 bt344.1) zb) else (none)) else (none))))) = some (r1, r2, r3, r4, r5, r6) := H
       have A38 := A_ A380
       clear A380
       replace H := Option.bind_eq_some_iff.mp H
       obtain ⟨⟨t339, t340⟩, A390, H⟩ := H
       replace H : ((some (([t329, t338, wrap64 (48 + t339)] : List Int) : List Int)).bind fun y341 => ((spec_l20Rd_pick.f kj6 s0_0 t340 3).bind fun bt344 => (if 0 ≤ bt344.1 then (if bt344.1 < (y341.length : Int) then (spec_l20In.j1 kj6 a1 s0_0 bt344.2 (t300 == 0) true (rd y323 t326) (rd y341 bt344.1) zb) else (none)) else (none)))) = some (r1, r2, r3, r4, r5, r6) := H
       have A39 := A_ A390
       clear A390
       obtain ⟨y341, hy341⟩ : ∃ y_ : List Int, y_ = (([t329, t338, wrap64 (48 + t339)] : List Int)) := ⟨_, rfl⟩
       replace H : ((spec_l20Rd_pick.f kj6 s0_0 t340 3).bind fun bt344 => (if 0 ≤ bt344.1 then (if bt344.1 < (y341.length : Int) then (spec_l20In.j1 kj6 a1 s0_0 bt344.2 (t300 == 0) true (rd y323 t326) (rd y341 bt344.1) zb) else (none)) else (none))) = some (r1, r2, r3, r4, r5, r6) := by first | (rw [hy341]; with_reducible exact H) | (have H2_ := (Option.bind_some _ _).symm.trans H; rw [hy341]; with_reducible exact H2_) | (have H2_ := (Option.bind_some _ _).symm.trans H; with_reducible exact H2_) | with_reducible exact H | (rw [hy341]; exact H) | exact H
       have zw := A_ hy341
       clear hy341
       replace H := Option.bind_eq_some_iff.mp H
       obtain ⟨⟨t344, t345⟩, A400, H⟩ := H
       replace H : (if 0 ≤ t344 then (if t344 < (y341.length : Int) then (spec_l20In.j1 kj6 a1 s0_0 t345 (t300 == 0) true (rd y323 t326) (rd y341 t344) zb) else (none)) else (none)) = some (r1, r2, r3, r4, r5, r6) := H
       have A40 := A_ A400
       clear A400
       by_cases c41 : 0 ≤ t344
       ·rw [if_pos c41] at H
        have c41b0 : decide (0 ≤ t344) = true := decide_eq_true c41
        clear c41
        by_cases c42 : t344 < (y341.length : Int)
        ·rw [if_pos c42] at H
         have c42b0 : decide (t344 < (y341.length : Int)) = true := decide_eq_true c42
         clear c42
         have H' := A_ H
         clear H
         have hnb43 := zk.out
         have hnc43 := zf.out
         have hnb44 := zd.out
         have hnc44 := z3.out
         have hcz45_0 : w28.cell? ⟨gb309, 0, none⟩ = some (.bool (t300 == 0)) := (bC_ z.out 0).trans rfl
         have hcz45_1 : w28.cell? ⟨gb309, 1, none⟩ = some (.bool false) := (bC_ z.out 1).trans rfl
         have hcz45_2 : w28.cell? ⟨gb309, 2, none⟩ = some (.int .i64 0) := (bC_ z.out 2).trans rfl
         have hcz45_3 : w28.cell? ⟨gb309, 3, none⟩ = some (.int .i64 0) := (bC_ z.out 3).trans rfl
         have hcz45_4 : w28.cell? ⟨gb309, 4, none⟩ = some (u310004) := (bC_ z.out 4).trans rfl
         have hfz45_0 := bF_ z.out 0
         have hfz45_1 := bF_ z.out 1
         have hfz45_2 := bF_ z.out 2
         have hfz45_3 := bF_ z.out 3
         have hfz45_4 := bF_ z.out 4
         go_wp2_with (first | ((yai_); refine goesL_ (some 27) rfl rfl Try.func45 (by kernel_rfl) rfl #[.pointer (some ⟨g, 0, none⟩), .int .i64 48] rfl (yae_) ?_; (with_reducible refine (spec_l20Rd_pick.calls kj6 g s0_0 t316 48 t317 t318 w0 _ ?side1 ?side2 A30.out).mono ?_); (case side1 => repeat (ya_)); (case side2 => repeat (yac_)); rintro e w46 ⟨rfl, hi, hb, hk⟩; refine ⟨_, rfl, ?_⟩; have n0_ := A_ (Kd.Q_mono (Kd.Q_keep (IsS69.apartQ (show IsS69 w0 _ g s0_0 t316 from by repeat (ya_)) (by (yad_); exact (Kd.Q_mono (Kd.Q_far (p := ⟨gb309, 1, none⟩) (Kd.Q_types z1.out z.out (by decide)) (fun _ hk => hk.2) (.bool true)) (fun _ h_ => h_.1))) (by decide)) hk (fun _ h => h.2)) (fun _ h => h.1)); have n1_ := A_ (kB_ hk (g' := gb299) (o := .cells #[.bool false, .bool false, .int .i64 0, .int .i64 0, .slice none 0 0] 47 (0, 0)) (by (yaa_); refine blk_far ?_ zf.out _; (yaa_); exact z0.out) zc.out (by simp)); have n2_ := A_ (kB_ hk (g' := gb309) (o := .cells #[.bool (t300 == 0), .bool true, .int .i64 0, .int .i64 0, u310004] 47 (0, 0)) (by (yaa_); refine blk_put (cs := #[.bool (t300 == 0), .bool false, .int .i64 0, .int .i64 0, u310004]) ?_ 1 _ rfl; (yaa_); exact z.out) zd.out (by simp)); have n3_ := A_ (kT_ (by repeat (yab_)) hk (.inl rfl)); have n4_ := A_ (hb); have n5_ := A_ (hi); clear z1; clear z0; clear z; clear HK; clear HB; clear HI0; have z1 := n0_; have z0 := n1_; have z := n2_; have HK := n3_; have HB := n4_; have HI0 := n5_; clear n0_ n1_ n2_ n3_ n4_ n5_; (try clear hb); (try clear hb2); (try clear hk); (try clear hi)) | ((yai_); refine goesL_ (some 29) rfl rfl Try.func45 (by kernel_rfl) rfl #[.pointer (some ⟨g, 0, none⟩), .int .i64 16] rfl (yae_) ?_; (with_reducible refine (spec_l20Rd_pick.calls kj6 g s0_0 t318 16 t319 t320 w0 _ ?side1 ?side2 A31.out).mono ?_); (case side1 => repeat (ya_)); (case side2 => repeat (yac_)); rintro e w47 ⟨rfl, hi, hb, hk⟩; refine ⟨_, rfl, ?_⟩; have n0_ := A_ (Kd.Q_mono (Kd.Q_keep (IsS69.apartQ (show IsS69 w0 _ g s0_0 t318 from by repeat (ya_)) (by (yad_); exact z1.out) (by decide)) hk (fun _ h => h.2)) (fun _ h => h.1)); have n1_ := A_ (kB_ hk (g' := gb299) (o := .cells #[.bool false, .bool false, .int .i64 0, .int .i64 0, .slice none 0 0] 47 (0, 0)) (by (yaa_); exact z0.out) zc.out (by simp)); have n2_ := A_ (kB_ hk (g' := gb309) (o := .cells #[.bool (t300 == 0), .bool true, .int .i64 0, .int .i64 0, u310004] 47 (0, 0)) (by (yaa_); exact z.out) zd.out (by simp)); have n3_ := A_ (kT_ (by repeat (yab_)) hk (.inl rfl)); have n4_ := A_ (hb); have n5_ := A_ (hi); clear z1; clear z0; clear z; clear HK; clear HB; clear HI0; have z1 := n0_; have z0 := n1_; have z := n2_; have HK := n3_; have HB := n4_; have HI0 := n5_; clear n0_ n1_ n2_ n3_ n4_ n5_; (try clear hb); (try clear hb2); (try clear hk); (try clear hi)) | ((yai_); refine goesL_ (some 32) rfl rfl Try.func45 (by kernel_rfl) rfl #[.pointer (some ⟨g, 0, none⟩), .int .i64 256] rfl (yae_) ?_; (with_reducible refine (spec_l20Rd_pick.calls kj6 g s0_0 t320 256 t321 t322 w0 _ ?side1 ?side2 A32.out).mono ?_); (case side1 => repeat (ya_)); (case side2 => repeat (yac_)); rintro e w48 ⟨rfl, hi, hb, hk⟩; refine ⟨_, rfl, ?_⟩; have n0_ := A_ (Kd.Q_mono (Kd.Q_keep (IsS69.apartQ (show IsS69 w0 _ g s0_0 t320 from by repeat (ya_)) (by (yad_); exact z1.out) (by decide)) hk (fun _ h => h.2)) (fun _ h => h.1)); have n1_ := A_ (kB_ hk (g' := gb299) (o := .cells #[.bool false, .bool false, .int .i64 0, .int .i64 0, .slice none 0 0] 47 (0, 0)) (by (yaa_); exact z0.out) zc.out (by simp)); have n2_ := A_ (kB_ hk (g' := gb309) (o := .cells #[.bool (t300 == 0), .bool true, .int .i64 0, .int .i64 0, u310004] 47 (0, 0)) (by (yaa_); exact z.out) zd.out (by simp)); have n3_ := A_ (kT_ (by repeat (yab_)) hk (.inl rfl)); have n4_ := A_ (hb); have n5_ := A_ (hi); clear z1; clear z0; clear z; clear HK; clear HB; clear HI0; have z1 := n0_; have z0 := n1_; have z := n2_; have HK := n3_; have HB := n4_; have HI0 := n5_; clear n0_ n1_ n2_ n3_ n4_ n5_; (try clear hb); (try clear hb2); (try clear hk); (try clear hi)) | ((with_reducible refine gate_dst (N := 33) rfl ?_); refine Kd.R_lit (Kd.int .i64) _ 3 ?hg (N := 33) ?hd (xs := ([t317, wrap64 (128 + t319), t321] : List Int)) (inner := [.int .i64 t317, .int .i64 (wrap64 (128 + t319)), .int .i64 t321]) (ok := fun _ => True) (okp := fun _ => True) ?hr ?hp (fun _ hk => hk) trivial (Below.refl _ _) (Nat.le_refl _) (by simp) ?_; (case hd => rfl); (case hg => rfl); (case hr => first | (go_simp; done) | (go_simp; rfl)); (case hp => exact (Reps.one (show Kd.M (Kd.int .i64) _ _ _ t317 [.int .i64 t317] from rfl) (Reps.one (show Kd.M (Kd.int .i64) _ _ _ (wrap64 (128 + t319)) [.int .i64 (wrap64 (128 + t319))] from rfl) (Reps.one (show Kd.M (Kd.int .i64) _ _ _ t321 [.int .i64 t321] from rfl) (Reps.none _ _))))); intro v324 w49 ho50 hb hg_ hnew_; clear hg_ hnew_; (first | rw [← zv.out] at ho50 | (simp only [Int.reduceToNat] at ho50; rw [← zv.out] at ho50)); have n0_ := A_ (Kd.Q_elder' (by (yad_); exact z1.out) (Kd.R_base ho50) hb); have n1_ := A_ (Kd.R_lower (Kd.R_new' ho50 (Kd.Q_lt (by (yad_); exact z1.out))) (keep_size (w := w) (g := g) (row := none) (by repeat (yab_)))); have n2_ := A_ (bB_ (g := gb299) (o := .cells #[.bool false, .bool false, .int .i64 0, .int .i64 0, .slice none 0 0] 47 (0, 0)) (by (yaa_); exact z0.out) hb); have n3_ := A_ (bB_ (g := gb309) (o := .cells #[.bool (t300 == 0), .bool true, .int .i64 0, .int .i64 0, u310004] 47 (0, 0)) (by (yaa_); exact z.out) hb); have n4_ := A_ (IsS69.below (by repeat (ya_)) hb); have n5_ := A_ (kT_ (by repeat (yab_)) (kO_ hb g none) (.inl rfl)); have n6_ := A_ (wT_ (by repeat (yac_)) hb); clear z1; clear z0; clear z; clear HI0; clear HK; clear HB; have z1 := n0_; have ze := n1_; have z0 := n2_; have z := n3_; have HI0 := n4_; have HK := n5_; have HB := n6_; clear n0_ n1_ n2_ n3_ n4_ n5_ n6_; clear hb ho50) | ((yai_); refine goesL_ (some 35) rfl rfl Try.func45 (by kernel_rfl) rfl #[.pointer (some ⟨g, 0, none⟩), .int .i64 3] rfl (yae_) ?_; (with_reducible refine (spec_l20Rd_pick.calls kj6 g s0_0 t322 3 t326 t327 w0 _ ?side1 ?side2 A33.out).mono ?_); (case side1 => repeat (ya_)); (case side2 => repeat (yac_)); rintro e w51 ⟨rfl, hi, hb, hk⟩; refine ⟨_, rfl, ?_⟩; have n0_ := A_ (Kd.Q_mono (Kd.Q_keep (IsS69.apartQ (show IsS69 w0 _ g s0_0 t322 from by repeat (ya_)) (by (yad_); exact z1.out) (by decide)) hk (fun _ h => h.2)) (fun _ h => h.1)); have n1_ := A_ (kB_ hk (g' := gb299) (o := .cells #[.bool false, .bool false, .int .i64 0, .int .i64 0, .slice none 0 0] 47 (0, 0)) (by (yaa_); exact z0.out) zc.out (by simp)); have n2_ := A_ (kB_ hk (g' := gb309) (o := .cells #[.bool (t300 == 0), .bool true, .int .i64 0, .int .i64 0, u310004] 47 (0, 0)) (by (yaa_); exact z.out) zd.out (by simp)); have n3_ := A_ (rM_ (Kd.R_keep (IsS69.apart (show IsS69 w0 _ g s0_0 t322 from by repeat (ya_)) (by (yag_); exact ze.out) (by decide)) hk (fun _ h => h.2)) (fun _ h => h.1)); have n4_ := A_ (kT_ (by repeat (yab_)) hk (.inl rfl)); have n5_ := A_ (hb); have n6_ := A_ (hi); clear z1; clear z0; clear z; clear ze; clear HK; clear HB; clear HI0; have z1 := n0_; have z0 := n1_; have z := n2_; have ze := n3_; have HK := n4_; have HB := n5_; have HI0 := n6_; clear n0_ n1_ n2_ n3_ n4_ n5_ n6_; (try clear hb); (try clear hb2); (try clear hk); (try clear hi); obtain ⟨Ao52, co52, eo52⟩ := Kd.R_slice ze.out; subst eo52; have p328 : 0 ≤ (t326 : Int) := of_decide_eq_true (by first | (with_reducible assumption) | assumption); have q328 : t326 < (y323.length : Int) := of_decide_eq_true (by first | (with_reducible assumption) | assumption); obtain ⟨ad328, e328, hx328_0⟩ := Kd.at_int (Kd.R_reads' ze.out).2.2 t326 p328 q328; cases e328; replace p328 := eq_true p328; replace q328 := eq_true q328; have hcz53_0 : w51.cell? ⟨gb309, 0, none⟩ = some (.bool (t300 == 0)) := (bC_ z.out 0).trans rfl; have hcz53_1 : w51.cell? ⟨gb309, 1, none⟩ = some (.bool true) := (bC_ z.out 1).trans rfl; have hcz53_2 : w51.cell? ⟨gb309, 2, none⟩ = some (.int .i64 0) := (bC_ z.out 2).trans rfl; have hcz53_3 : w51.cell? ⟨gb309, 3, none⟩ = some (.int .i64 0) := (bC_ z.out 3).trans rfl; have hcz53_4 : w51.cell? ⟨gb309, 4, none⟩ = some (u310004) := (bC_ z.out 4).trans rfl; have hfz53_0 := bF_ z.out 0; have hfz53_1 := bF_ z.out 1; have hfz53_2 := bF_ z.out 2; have hfz53_3 := bF_ z.out 3; have hfz53_4 := bF_ z.out 4) | ((with_reducible refine gate_callee (f := 62) rfl ?_); refine goesL_ (some 40) rfl rfl Try.func62 (by kernel_rfl) rfl #[.pointer (some ⟨g, 0, none⟩), .int .i64 0] rfl (yae_) ?_; (with_reducible refine (spec_l20Word.calls kj6 g s0_0 t327 0 t329 t330 w0 _ ?side1 ?side2 A36.out).mono ?_); (case side1 => repeat (ya_)); (case side2 => repeat (yac_)); rintro e w54 ⟨rfl, hi, hb, hk⟩; refine ⟨_, rfl, ?_⟩; have n0_ := A_ (Kd.Q_mono (Kd.Q_keep (IsS69.apartQ (show IsS69 w0 _ g s0_0 t327 from by repeat (ya_)) (by (yad_); exact (Kd.Q_mono (Kd.Q_far (p := ⟨gb309, 2, none⟩) (Kd.Q_types z1.out z.out (by decide)) (fun _ hk => hk.2) (.int .i64 (rd y323 t326))) (fun _ h_ => h_.1))) (by decide)) hk (fun _ h => h.2)) (fun _ h => h.1)); have n1_ := A_ (kB_ hk (g' := gb299) (o := .cells #[.bool false, .bool false, .int .i64 0, .int .i64 0, .slice none 0 0] 47 (0, 0)) (by (yaa_); refine blk_far ?_ zf.out _; (yaa_); exact z0.out) zc.out (by simp)); have n2_ := A_ (kB_ hk (g' := gb309) (o := .cells #[.bool (t300 == 0), .bool true, .int .i64 (rd y323 t326), .int .i64 0, u310004] 47 (0, 0)) (by (yaa_); refine blk_put (cs := #[.bool (t300 == 0), .bool true, .int .i64 0, .int .i64 0, u310004]) ?_ 2 _ rfl; (yaa_); exact z.out) zd.out (by simp)); have n3_ := A_ (rM_ (Kd.R_keep (IsS69.apart (show IsS69 w0 _ g s0_0 t327 from by repeat (ya_)) (by (yag_); exact (rM_ (Kd.R_far (p := ⟨gb309, 2, none⟩) (Kd.R_types ze.out z.out (by decide)) (fun _ hk => hk.2) (.int .i64 (rd y323 t326))) (fun _ h_ => h_.1))) (by decide)) hk (fun _ h => h.2)) (fun _ h => h.1)); have n4_ := A_ (kT_ (by repeat (yab_)) hk (.inl rfl)); have n5_ := A_ (hb); have n6_ := A_ (hi); clear z1; clear z0; clear z; clear ze; clear HK; clear HB; clear HI0; have z1 := n0_; have z0 := n1_; have z := n2_; have ze := n3_; have HK := n4_; have HB := n5_; have HI0 := n6_; clear n0_ n1_ n2_ n3_ n4_ n5_ n6_; (try clear hb); (try clear hb2); (try clear hk); (try clear hi)) | ((with_reducible refine gate_callee (f := 61) rfl ?_); refine goesL_ (some 42) rfl rfl Try.func61 (by kernel_rfl) rfl #[.pointer (some ⟨g, 0, none⟩), .int .i64 0] rfl (yae_) ?_; (with_reducible refine (spec_l20Inst.calls kj6 g s0_0 t330 0 t331 t332 t333 t334 t335 t336 t337 w0 _ ?side1 ?side2 A37.out).mono ?_); (case side1 => repeat (ya_)); (case side2 => repeat (yac_)); rintro e w55 ⟨rfl, hi, hb, hk⟩; refine ⟨_, rfl, ?_⟩; have n0_ := A_ (Kd.Q_mono (Kd.Q_keep (IsS69.apartQ (show IsS69 w0 _ g s0_0 t330 from by repeat (ya_)) (by (yad_); exact z1.out) (by decide)) hk (fun _ h => h.2)) (fun _ h => h.1)); have n1_ := A_ (kB_ hk (g' := gb299) (o := .cells #[.bool false, .bool false, .int .i64 0, .int .i64 0, .slice none 0 0] 47 (0, 0)) (by (yaa_); exact z0.out) zc.out (by simp)); have n2_ := A_ (kB_ hk (g' := gb309) (o := .cells #[.bool (t300 == 0), .bool true, .int .i64 (rd y323 t326), .int .i64 0, u310004] 47 (0, 0)) (by (yaa_); exact z.out) zd.out (by simp)); have n3_ := A_ (rM_ (Kd.R_keep (IsS69.apart (show IsS69 w0 _ g s0_0 t330 from by repeat (ya_)) (by (yag_); exact ze.out) (by decide)) hk (fun _ h => h.2)) (fun _ h => h.1)); have n4_ := A_ (kT_ (by repeat (yab_)) hk (.inl rfl)); have n5_ := A_ (hb); have n6_ := A_ (hi); clear z1; clear z0; clear z; clear ze; clear HK; clear HB; clear HI0; have z1 := n0_; have z0 := n1_; have z := n2_; have ze := n3_; have HK := n4_; have HB := n5_; have HI0 := n6_; clear n0_ n1_ n2_ n3_ n4_ n5_ n6_; (try clear hb); (try clear hb2); (try clear hk); (try clear hi)) | ((with_reducible refine gate_callee (f := 60) rfl ?_); refine goesL_ (some 43) rfl rfl Try.func60 (by kernel_rfl) rfl #[.agg #[.int .i64 t331, .int .i64 t332, .int .i64 t333, .int .i64 t334, .int .i64 t335, .int .i64 t336]] rfl (yae_) ?_; (with_reducible refine (spec_CodWord.calls kj6 t331 t332 t333 t334 t335 t336 t338 _ A38.out).mono ?_); rintro e w56 ⟨rfl, hb⟩; refine ⟨_, rfl, ?_⟩; have n0_ := A_ (Kd.Q_below (by (yad_); exact z1.out) hb); have n1_ := A_ (rB_ (by (yag_); exact ze.out) hb); have n2_ := A_ (bB_ (g := gb299) (o := .cells #[.bool false, .bool false, .int .i64 0, .int .i64 0, .slice none 0 0] 47 (0, 0)) (by (yaa_); exact z0.out) hb); have n3_ := A_ (bB_ (g := gb309) (o := .cells #[.bool (t300 == 0), .bool true, .int .i64 (rd y323 t326), .int .i64 0, u310004] 47 (0, 0)) (by (yaa_); exact z.out) hb); have n4_ := A_ (IsS69.below (by repeat (ya_)) hb); have n5_ := A_ (kT_ (by repeat (yab_)) (kO_ hb g none) (.inl rfl)); have n6_ := A_ (wT_ (by repeat (yac_)) hb); clear z1; clear ze; clear z0; clear z; clear HI0; clear HK; clear HB; have z1 := n0_; have ze := n1_; have z0 := n2_; have z := n3_; have HI0 := n4_; have HK := n5_; have HB := n6_; clear n0_ n1_ n2_ n3_ n4_ n5_ n6_; (try clear hb); (try clear hb2); (try clear hk); (try clear hi)) | ((yai_); refine goesL_ (some 45) rfl rfl Try.func45 (by kernel_rfl) rfl #[.pointer (some ⟨g, 0, none⟩), .int .i64 8] rfl (yae_) ?_; (with_reducible refine (spec_l20Rd_pick.calls kj6 g s0_0 t337 8 t339 t340 w0 _ ?side1 ?side2 A39.out).mono ?_); (case side1 => repeat (ya_)); (case side2 => repeat (yac_)); rintro e w57 ⟨rfl, hi, hb, hk⟩; refine ⟨_, rfl, ?_⟩; have n0_ := A_ (Kd.Q_mono (Kd.Q_keep (IsS69.apartQ (show IsS69 w0 _ g s0_0 t337 from by repeat (ya_)) (by (yad_); exact z1.out) (by decide)) hk (fun _ h => h.2)) (fun _ h => h.1)); have n1_ := A_ (kB_ hk (g' := gb299) (o := .cells #[.bool false, .bool false, .int .i64 0, .int .i64 0, .slice none 0 0] 47 (0, 0)) (by (yaa_); exact z0.out) zc.out (by simp)); have n2_ := A_ (kB_ hk (g' := gb309) (o := .cells #[.bool (t300 == 0), .bool true, .int .i64 (rd y323 t326), .int .i64 0, u310004] 47 (0, 0)) (by (yaa_); exact z.out) zd.out (by simp)); have n3_ := A_ (rM_ (Kd.R_keep (IsS69.apart (show IsS69 w0 _ g s0_0 t337 from by repeat (ya_)) (by (yag_); exact ze.out) (by decide)) hk (fun _ h => h.2)) (fun _ h => h.1)); have n4_ := A_ (kT_ (by repeat (yab_)) hk (.inl rfl)); have n5_ := A_ (hb); have n6_ := A_ (hi); clear z1; clear z0; clear z; clear ze; clear HK; clear HB; clear HI0; have z1 := n0_; have z0 := n1_; have z := n2_; have ze := n3_; have HK := n4_; have HB := n5_; have HI0 := n6_; clear n0_ n1_ n2_ n3_ n4_ n5_ n6_; (try clear hb); (try clear hb2); (try clear hk); (try clear hi)) | ((with_reducible refine gate_dst (N := 47) rfl ?_); refine Kd.R_lit (Kd.int .i64) _ 3 ?hg (N := 47) ?hd (xs := ([t329, t338, wrap64 (48 + t339)] : List Int)) (inner := [.int .i64 t329, .int .i64 t338, .int .i64 (wrap64 (48 + t339))]) (ok := fun _ => True) (okp := fun _ => True) ?hr ?hp (fun _ hk => hk) trivial (Below.refl _ _) (Nat.le_refl _) (by simp) ?_; (case hd => rfl); (case hg => rfl); (case hr => first | (go_simp; done) | (go_simp; rfl)); (case hp => exact (Reps.one (show Kd.M (Kd.int .i64) _ _ _ t329 [.int .i64 t329] from rfl) (Reps.one (show Kd.M (Kd.int .i64) _ _ _ t338 [.int .i64 t338] from rfl) (Reps.one (show Kd.M (Kd.int .i64) _ _ _ (wrap64 (48 + t339)) [.int .i64 (wrap64 (48 + t339))] from rfl) (Reps.none _ _))))); intro v342 w58 ho59 hb hg_ hnew_; clear hg_ hnew_; (first | rw [← zw.out] at ho59 | (simp only [Int.reduceToNat] at ho59; rw [← zw.out] at ho59)); have n0_ := A_ (Kd.Q_elder' (by (yad_); exact z1.out) (Kd.R_base ho59) hb); have n1_ := A_ (rE_ (by (yag_); exact ze.out) (Kd.R_base ho59) hb); have n2_ := A_ (Kd.R_lower (Kd.R_new' (Kd.R_new' ho59 (Kd.Q_lt (by (yad_); exact z1.out))) (Kd.R_lt (by (yag_); exact ze.out))) (keep_size (w := w) (g := g) (row := none) (by repeat (yab_)))); have n3_ := A_ (bB_ (g := gb299) (o := .cells #[.bool false, .bool false, .int .i64 0, .int .i64 0, .slice none 0 0] 47 (0, 0)) (by (yaa_); exact z0.out) hb); have n4_ := A_ (bB_ (g := gb309) (o := .cells #[.bool (t300 == 0), .bool true, .int .i64 (rd y323 t326), .int .i64 0, u310004] 47 (0, 0)) (by (yaa_); exact z.out) hb); have n5_ := A_ (IsS69.below (by repeat (ya_)) hb); have n6_ := A_ (kT_ (by repeat (yab_)) (kO_ hb g none) (.inl rfl)); have n7_ := A_ (wT_ (by repeat (yac_)) hb); clear z1; clear ze; clear z0; clear z; clear HI0; clear HK; clear HB; have z1 := n0_; have ze := n1_; have zp := n2_; have z0 := n3_; have z := n4_; have HI0 := n5_; have HK := n6_; have HB := n7_; clear n0_ n1_ n2_ n3_ n4_ n5_ n6_ n7_; clear hb ho59) | ((yai_); refine goesL_ (some 49) rfl rfl Try.func45 (by kernel_rfl) rfl #[.pointer (some ⟨g, 0, none⟩), .int .i64 3] rfl (yae_) ?_; (with_reducible refine (spec_l20Rd_pick.calls kj6 g s0_0 t340 3 t344 t345 w0 _ ?side1 ?side2 A40.out).mono ?_); (case side1 => repeat (ya_)); (case side2 => repeat (yac_)); rintro e w60 ⟨rfl, hi, hb, hk⟩; refine ⟨_, rfl, ?_⟩; have n0_ := A_ (Kd.Q_mono (Kd.Q_keep (IsS69.apartQ (show IsS69 w0 _ g s0_0 t340 from by repeat (ya_)) (by (yad_); exact z1.out) (by decide)) hk (fun _ h => h.2)) (fun _ h => h.1)); have n1_ := A_ (kB_ hk (g' := gb299) (o := .cells #[.bool false, .bool false, .int .i64 0, .int .i64 0, .slice none 0 0] 47 (0, 0)) (by (yaa_); exact z0.out) zc.out (by simp)); have n2_ := A_ (kB_ hk (g' := gb309) (o := .cells #[.bool (t300 == 0), .bool true, .int .i64 (rd y323 t326), .int .i64 0, u310004] 47 (0, 0)) (by (yaa_); exact z.out) zd.out (by simp)); have n3_ := A_ (rM_ (Kd.R_keep (IsS69.apart (show IsS69 w0 _ g s0_0 t340 from by repeat (ya_)) (by (yag_); exact ze.out) (by decide)) hk (fun _ h => h.2)) (fun _ h => h.1)); have n4_ := A_ (rM_ (Kd.R_keep (IsS69.apart (show IsS69 w0 _ g s0_0 t340 from by repeat (ya_)) (by (yag_); exact zp.out) (by decide)) hk (fun _ h => h.2)) (fun _ h => h.1)); have n5_ := A_ (kT_ (by repeat (yab_)) hk (.inl rfl)); have n6_ := A_ (hb); have n7_ := A_ (hi); clear z1; clear z0; clear z; clear ze; clear zp; clear HK; clear HB; clear HI0; have z1 := n0_; have z0 := n1_; have z := n2_; have ze := n3_; have zp := n4_; have HK := n5_; have HB := n6_; have HI0 := n7_; clear n0_ n1_ n2_ n3_ n4_ n5_ n6_ n7_; (try clear hb); (try clear hb2); (try clear hk); (try clear hi); obtain ⟨Ao61, co61, eo61⟩ := Kd.R_slice zp.out; subst eo61; have p346 : 0 ≤ (t344 : Int) := of_decide_eq_true (by first | (with_reducible assumption) | assumption); have q346 : t344 < (y341.length : Int) := of_decide_eq_true (by first | (with_reducible assumption) | assumption); obtain ⟨ad346, e346, hx346_0⟩ := Kd.at_int (Kd.R_reads' zp.out).2.2 t344 p346 q346; cases e346; replace p346 := eq_true p346; replace q346 := eq_true q346; have hcz62_0 : w60.cell? ⟨gb309, 0, none⟩ = some (.bool (t300 == 0)) := (bC_ z.out 0).trans rfl; have hcz62_1 : w60.cell? ⟨gb309, 1, none⟩ = some (.bool true) := (bC_ z.out 1).trans rfl; have hcz62_2 : w60.cell? ⟨gb309, 2, none⟩ = some (.int .i64 (rd y323 t326)) := (bC_ z.out 2).trans rfl; have hcz62_3 : w60.cell? ⟨gb309, 3, none⟩ = some (.int .i64 0) := (bC_ z.out 3).trans rfl; have hcz62_4 : w60.cell? ⟨gb309, 4, none⟩ = some (u310004) := (bC_ z.out 4).trans rfl; have hfz62_0 := bF_ z.out 0; have hfz62_1 := bF_ z.out 1; have hfz62_2 := bF_ z.out 2; have hfz62_3 := bF_ z.out 3; have hfz62_4 := bF_ z.out 4))
         go_meet
         case rel => exact ⟨_, (t345), (true), (rd y323 t326), (rd y341 t344), H', ⟨by have := HJ6.out; first | omega | exact Nat.le_refl _⟩, ⟨by (yad_); exact Kd.Q_mono (Kd.Q_far (p := ⟨gb309, 3, none⟩) (Kd.Q_types z1.out z.out (by decide)) (fun _ hk => hk.2) (.int .i64 (rd y341 t344))) (fun _ hk => trivial)⟩, ⟨by (yaa_); refine blk_far ?_ zf.out _; (yaa_); exact z0.out⟩, ⟨by (yaa_); refine blk_put (cs := #[.bool (t300 == 0), .bool true, .int .i64 (rd y323 t326), .int .i64 0, u310004]) ?_ 3 _ rfl; (yaa_); exact z.out⟩, ⟨by repeat (ya_)⟩, ⟨by repeat (yab_)⟩, ⟨by repeat (yac_)⟩⟩
        ·rw [if_neg c42] at H
         exact absurd H (by simp)
       ·rw [if_neg c41] at H
        exact absurd H (by simp)
      ·rw [if_neg c35] at H
       exact absurd H (by simp)
     ·rw [if_neg c34] at H
      exact absurd H (by simp)
    ·rw [if_neg c29] at H
     have c29b0 : (t315 == 0) = false := beq_eq_false_iff_ne.mpr c29
     have c29b1 : (t315 != 0) = true := bne_iff_ne.mpr c29
     (first | rw [c29b0] | (simp only [i64_w, i32_w]; rw [c29b0]) | skip)
     have H' := A_ H
     clear H
     go_wp2
     go_meet
     case rel => exact ⟨_, (t316), (false), (0), (0), H', ⟨by have := HJ6.out; first | omega | exact Nat.le_refl _⟩, ⟨by (yad_); exact z1.out⟩, ⟨by (yaa_); exact z0.out⟩, ⟨by (yaa_); exact z.out⟩, ⟨by repeat (ya_)⟩, ⟨by repeat (yab_)⟩, ⟨by repeat (yac_)⟩⟩
   case rest =>
    clear HC27
    try clear c1
    try clear c2
    try clear p2
    try clear q2
    try clear c3
    try clear p3
    try clear q3
    try clear hx3
    try clear c4
    try clear c5
    try clear c6
    try clear p6
    try clear c16
    try clear c17
    try clear c20
    try clear c20b0
    try clear c20b1
    try clear c21
    try clear c21b0
    try clear c21b1
    try clear c22
    try clear c23
    try clear c25
    try clear q25
    try clear c29
    try clear c29b0
    try clear c29b1
    try clear p32
    try clear q32
    try clear hx32
    try clear c34
    try clear c34b0
    try clear p34
    try clear q34
    try clear hx34
    try clear c35
    try clear c35b0
    try clear c41
    try clear c41b0
    try clear c42
    try clear c42b0
    try clear c43
    try clear c44
    try clear c45
    try clear c58
    try clear c60
    try clear c61
    try clear c62
    try clear hcz18_0
    try clear hcz18_1
    try clear hcz18_2
    try clear hcz18_3
    try clear hcz18_4
    try clear hcz24_0
    try clear hcz24_1
    try clear hcz24_2
    try clear hcz24_3
    try clear hcz24_4
    try clear hcz45_0
    try clear hcz45_1
    try clear hcz45_2
    try clear hcz45_3
    try clear hcz45_4
    try clear hcz53_0
    try clear hcz53_1
    try clear hcz53_2
    try clear hcz53_3
    try clear hcz53_4
    try clear hcz62_0
    try clear hcz62_1
    try clear hcz62_2
    try clear hcz62_3
    try clear hcz62_4
    try clear hfz18_0
    try clear hfz18_1
    try clear hfz18_2
    try clear hfz18_3
    try clear hfz18_4
    try clear hfz24_0
    try clear hfz24_1
    try clear hfz24_2
    try clear hfz24_3
    try clear hfz24_4
    try clear hfz45_0
    try clear hfz45_1
    try clear hfz45_2
    try clear hfz45_3
    try clear hfz45_4
    try clear hfz53_0
    try clear hfz53_1
    try clear hfz53_2
    try clear hfz53_3
    try clear hfz53_4
    try clear hfz62_0
    try clear hfz62_1
    try clear hfz62_2
    try clear hfz62_3
    try clear hfz62_4
    try clear hx328_0
    try clear hx346_0
    try clear p2
    try clear p328
    try clear p346
    try clear q2
    try clear q25
    try clear q328
    try clear q346
    obtain ⟨kq, zh, z4, z5, z7, HA, HJ26, z1, z0, z, HI0, HK, HB⟩ := hcut
    cases kq with
    | zero => exact absurd HA.out (by simp [spec_l20In.j1])
    | succ kj26 =>
     have H := HA.out
     clear HA
     simp only [spec_l20In.j1] at H
     replace H := Option.bind_eq_some_iff.mp H
     obtain ⟨⟨t347, t348⟩, A630, H⟩ := H
     replace H : (if t347 = true then ((spec_l20Rd_pick.f kj26 s0_0 t348 4).bind fun bt349 => (if bt349.1 = 0 then (some ((t300 == 0), z4, z5, z7, (([1, 2, 3] : List Int)), bt349.2)) else (if bt349.1 = 1 then (some ((t300 == 0), z4, z5, z7, (([(-1)] : List Int)), bt349.2)) else (if bt349.1 = 2 then ((some (([(-1), 256, 1] : List Int) : List Int)).bind fun y357 => ((spec_l20Rd_pick.f kj26 s0_0 bt349.2 3).bind fun bt360 => (if 0 ≤ bt360.1 then (if bt360.1 < (y357.length : Int) then (some ((t300 == 0), z4, rd y357 bt360.1, z7, zb, bt360.2)) else (none)) else (none)))) else ((some (([(-1), 65536] : List Int) : List Int)).bind fun y363 => ((spec_l20Rd_pick.f kj26 s0_0 bt349.2 2).bind fun bt366 => (if 0 ≤ bt366.1 then (if bt366.1 < (y363.length : Int) then (some ((t300 == 0), z4, z5, rd y363 bt366.1, zb, bt366.2)) else (none)) else (none)))))))) else (some ((t300 == 0), z4, z5, z7, zb, t348))) = some (r1, r2, r3, r4, r5, r6) := H
     have A63 := A_ A630
     clear A630
     by_cases c64 : t347 = true
     ·subst c64
      have H1 : ((spec_l20Rd_pick.f kj26 s0_0 t348 4).bind fun bt349 => (if bt349.1 = 0 then (some ((t300 == 0), z4, z5, z7, (([1, 2, 3] : List Int)), bt349.2)) else (if bt349.1 = 1 then (some ((t300 == 0), z4, z5, z7, (([(-1)] : List Int)), bt349.2)) else (if bt349.1 = 2 then ((some (([(-1), 256, 1] : List Int) : List Int)).bind fun y357 => ((spec_l20Rd_pick.f kj26 s0_0 bt349.2 3).bind fun bt360 => (if 0 ≤ bt360.1 then (if bt360.1 < (y357.length : Int) then (some ((t300 == 0), z4, rd y357 bt360.1, z7, zb, bt360.2)) else (none)) else (none)))) else ((some (([(-1), 65536] : List Int) : List Int)).bind fun y363 => ((spec_l20Rd_pick.f kj26 s0_0 bt349.2 2).bind fun bt366 => (if 0 ≤ bt366.1 then (if bt366.1 < (y363.length : Int) then (some ((t300 == 0), z4, z5, rd y363 bt366.1, zb, bt366.2)) else (none)) else (none)))))))) = some (r1, r2, r3, r4, r5, r6) := by rw [if_pos rfl] at H; exact H
      clear H
      have H := H1
      clear H1
      replace H := Option.bind_eq_some_iff.mp H
      obtain ⟨⟨t349, t350⟩, A650, H⟩ := H
      replace H : (if t349 = 0 then (some ((t300 == 0), z4, z5, z7, (([1, 2, 3] : List Int)), t350)) else (if t349 = 1 then (some ((t300 == 0), z4, z5, z7, (([(-1)] : List Int)), t350)) else (if t349 = 2 then ((some (([(-1), 256, 1] : List Int) : List Int)).bind fun y357 => ((spec_l20Rd_pick.f kj26 s0_0 t350 3).bind fun bt360 => (if 0 ≤ bt360.1 then (if bt360.1 < (y357.length : Int) then (some ((t300 == 0), z4, rd y357 bt360.1, z7, zb, bt360.2)) else (none)) else (none)))) else ((some (([(-1), 65536] : List Int) : List Int)).bind fun y363 => ((spec_l20Rd_pick.f kj26 s0_0 t350 2).bind fun bt366 => (if 0 ≤ bt366.1 then (if bt366.1 < (y363.length : Int) then (some ((t300 == 0), z4, z5, rd y363 bt366.1, zb, bt366.2)) else (none)) else (none))))))) = some (r1, r2, r3, r4, r5, r6) := H
      have A65 := A_ A650
      clear A650
      by_cases c66 : t349 = 0
      ·rw [if_pos c66] at H
       have c66b0 : (t349 == 0) = true := beq_iff_eq.mpr c66
       have c66b1 : (t349 != 0) = false := bne_eq_false_iff_eq.mpr c66
       clear c66
       obtain ⟨y351, hy351⟩ : ∃ y_ : List Int, y_ = (([1, 2, 3] : List Int)) := ⟨_, rfl⟩
       replace H : (some ((t300 == 0), z4, z5, z7, y351, t350)) = some (r1, r2, r3, r4, r5, r6) := by first | (rw [hy351]; with_reducible exact H) | (have H2_ := (Option.bind_some _ _).symm.trans H; rw [hy351]; with_reducible exact H2_) | (have H2_ := (Option.bind_some _ _).symm.trans H; with_reducible exact H2_) | with_reducible exact H | (rw [hy351]; exact H) | exact H
       have zx := A_ hy351
       clear hy351
       simp only [Option.some.injEq, Prod.mk.injEq] at H
       obtain ⟨rfl, rfl, rfl, rfl, rfl, rfl⟩ := H
       go_wp2_with (first | ((with_reducible refine gate_callee (f := 44) rfl ?_); refine goesL_ (some 55) rfl rfl Try.func44 (by kernel_rfl) rfl #[.pointer (some ⟨g, 0, none⟩), .int .i64 a1] rfl (yae_) ?_; (with_reducible refine (spec_l20Rd_odd.calls kj26 g s0_0 zh a1 true t348 w0 _ ?side1 ?side2 A63.out).mono ?_); (case side1 => repeat (ya_)); (case side2 => repeat (yac_)); rintro e w67 ⟨rfl, hi, hb, hk⟩; refine ⟨_, rfl, ?_⟩; have n0_ := A_ (Kd.Q_mono (Kd.Q_keep (IsS69.apartQ (show IsS69 w0 _ g s0_0 zh from by repeat (ya_)) (by (yad_); exact z1.out) (by decide)) hk (fun _ h => h.2)) (fun _ h => h.1)); have n1_ := A_ (kB_ hk (g' := gb299) (o := .cells #[.bool false, .bool false, .int .i64 0, .int .i64 0, .slice none 0 0] 47 (0, 0)) (by (yaa_); exact z0.out) zc.out (by simp)); have n2_ := A_ (kB_ hk (g' := gb309) (o := .cells #[.bool (t300 == 0), .bool z4, .int .i64 z5, .int .i64 z7, u310004] 47 (0, 0)) (by (yaa_); exact z.out) zd.out (by simp)); have n3_ := A_ (kT_ (by repeat (yab_)) hk (.inl rfl)); have n4_ := A_ (hb); have n5_ := A_ (hi); clear z1; clear z0; clear z; clear HK; clear HB; clear HI0; have z1 := n0_; have z0 := n1_; have z := n2_; have HK := n3_; have HB := n4_; have HI0 := n5_; clear n0_ n1_ n2_ n3_ n4_ n5_; (try clear hb); (try clear hb2); (try clear hk); (try clear hi)) | ((yai_); refine goesL_ (some 57) rfl rfl Try.func45 (by kernel_rfl) rfl #[.pointer (some ⟨g, 0, none⟩), .int .i64 4] rfl (yae_) ?_; (with_reducible refine (spec_l20Rd_pick.calls kj26 g s0_0 t348 4 t349 t350 w0 _ ?side1 ?side2 A65.out).mono ?_); (case side1 => repeat (ya_)); (case side2 => repeat (yac_)); rintro e w68 ⟨rfl, hi, hb, hk⟩; refine ⟨_, rfl, ?_⟩; have n0_ := A_ (Kd.Q_mono (Kd.Q_keep (IsS69.apartQ (show IsS69 w0 _ g s0_0 t348 from by repeat (ya_)) (by (yad_); exact z1.out) (by decide)) hk (fun _ h => h.2)) (fun _ h => h.1)); have n1_ := A_ (kB_ hk (g' := gb299) (o := .cells #[.bool false, .bool false, .int .i64 0, .int .i64 0, .slice none 0 0] 47 (0, 0)) (by (yaa_); exact z0.out) zc.out (by simp)); have n2_ := A_ (kB_ hk (g' := gb309) (o := .cells #[.bool (t300 == 0), .bool z4, .int .i64 z5, .int .i64 z7, u310004] 47 (0, 0)) (by (yaa_); exact z.out) zd.out (by simp)); have n3_ := A_ (kT_ (by repeat (yab_)) hk (.inl rfl)); have n4_ := A_ (hb); have n5_ := A_ (hi); clear z1; clear z0; clear z; clear HK; clear HB; clear HI0; have z1 := n0_; have z0 := n1_; have z := n2_; have HK := n3_; have HB := n4_; have HI0 := n5_; clear n0_ n1_ n2_ n3_ n4_ n5_; (try clear hb); (try clear hb2); (try clear hk); (try clear hi)) | ((with_reducible refine gate_dst (N := 66) rfl ?_); refine Kd.R_lit (Kd.int .i64) _ 3 ?hg (N := 66) ?hd (xs := ([1, 2, 3] : List Int)) (inner := [.int .i64 1, .int .i64 2, .int .i64 3]) (ok := fun _ => True) (okp := fun _ => True) ?hr ?hp (fun _ hk => hk) trivial (Below.refl _ _) (Nat.le_refl _) (by simp) ?_; (case hd => rfl); (case hg => rfl); (case hr => first | (go_simp; done) | (go_simp; rfl)); (case hp => exact (Reps.one (show Kd.M (Kd.int .i64) _ _ _ 1 [.int .i64 1] from rfl) (Reps.one (show Kd.M (Kd.int .i64) _ _ _ 2 [.int .i64 2] from rfl) (Reps.one (show Kd.M (Kd.int .i64) _ _ _ 3 [.int .i64 3] from rfl) (Reps.none _ _))))); intro v352 w69 ho70 hb hg_ hnew_; clear hg_ hnew_; (first | rw [← zx.out] at ho70 | (simp only [Int.reduceToNat] at ho70; rw [← zx.out] at ho70)); have n0_ := A_ (Kd.Q_elder' (by (yad_); exact z1.out) (Kd.R_base ho70) hb); have n1_ := A_ (Kd.R_lower (Kd.R_new' ho70 (Kd.Q_lt (by (yad_); exact z1.out))) (keep_size (w := w) (g := g) (row := none) (by repeat (yab_)))); have n2_ := A_ (bB_ (g := gb299) (o := .cells #[.bool false, .bool false, .int .i64 0, .int .i64 0, .slice none 0 0] 47 (0, 0)) (by (yaa_); exact z0.out) hb); have n3_ := A_ (bB_ (g := gb309) (o := .cells #[.bool (t300 == 0), .bool z4, .int .i64 z5, .int .i64 z7, u310004] 47 (0, 0)) (by (yaa_); exact z.out) hb); have n4_ := A_ (IsS69.below (by repeat (ya_)) hb); have n5_ := A_ (kT_ (by repeat (yab_)) (kO_ hb g none) (.inl rfl)); have n6_ := A_ (wT_ (by repeat (yac_)) hb); clear z1; clear z0; clear z; clear HI0; clear HK; clear HB; have z1 := n0_; have zy := n1_; have z0 := n2_; have z := n3_; have HI0 := n4_; have HK := n5_; have HB := n6_; clear n0_ n1_ n2_ n3_ n4_ n5_ n6_; clear hb ho70; obtain ⟨Ao71, co71, eo71⟩ := Kd.R_slice zy.out; subst eo71; have hnb72 := zk.out; have hnc72 := zf.out; have hnb73 := zd.out; have hnc73 := z3.out; have hcz74_0 : w69.cell? ⟨gb309, 0, none⟩ = some (.bool (t300 == 0)) := (bC_ z.out 0).trans rfl; have hcz74_1 : w69.cell? ⟨gb309, 1, none⟩ = some (.bool z4) := (bC_ z.out 1).trans rfl; have hcz74_2 : w69.cell? ⟨gb309, 2, none⟩ = some (.int .i64 z5) := (bC_ z.out 2).trans rfl; have hcz74_3 : w69.cell? ⟨gb309, 3, none⟩ = some (.int .i64 z7) := (bC_ z.out 3).trans rfl; have hcz74_4 : w69.cell? ⟨gb309, 4, none⟩ = some (u310004) := (bC_ z.out 4).trans rfl; have hfz74_0 := bF_ z.out 0; have hfz74_1 := bF_ z.out 1; have hfz74_2 := bF_ z.out 2; have hfz74_3 := bF_ z.out 3; have hfz74_4 := bF_ z.out 4; have hnb75 := zc.out; have hnc75 := z2.out; have hcz76_0 : w69.cell? ⟨gb299, 0, none⟩ = some (.bool false) := (bC_ z0.out 0).trans rfl; have hcz76_1 : w69.cell? ⟨gb299, 1, none⟩ = some (.bool false) := (bC_ z0.out 1).trans rfl; have hcz76_2 : w69.cell? ⟨gb299, 2, none⟩ = some (.int .i64 0) := (bC_ z0.out 2).trans rfl; have hcz76_3 : w69.cell? ⟨gb299, 3, none⟩ = some (.int .i64 0) := (bC_ z0.out 3).trans rfl; have hcz76_4 : w69.cell? ⟨gb299, 4, none⟩ = some (.slice none 0 0) := (bC_ z0.out 4).trans rfl; have hfz76_0 := bF_ z0.out 0; have hfz76_1 := bF_ z0.out 1; have hfz76_2 := bF_ z0.out 2; have hfz76_3 := bF_ z0.out 3; have hfz76_4 := bF_ z0.out 4))
       refine bodyPost_ret (results_cell_row rfl _ _ gb299 47 #[.bool (t300 == 0), .bool z4, .int .i64 z5, .int .i64 z7, .slice Ao71 y351.length co71] (0, 0) _ rfl (yaj_) Try.underlying47 rfl (by kernel_rfl)) rfl ?_
       exact ⟨_, by first | rfl | (simp [errW_none, errW_some] <;> rfl) | (simp [*, errW_none, errW_some] <;> rfl), Kd.Q_of_R (by (yag_); exact rM_ (Kd.R_far (p := ⟨gb299, 4, none⟩) (Kd.R_far (p := ⟨gb299, 3, none⟩) (Kd.R_far (p := ⟨gb299, 2, none⟩) (Kd.R_far (p := ⟨gb299, 1, none⟩) (Kd.R_far (p := ⟨gb299, 0, none⟩) (Kd.R_far (p := ⟨gb309, 4, none⟩) (Kd.R_types (Kd.R_types zy.out z.out (by decide)) z0.out (by decide)) (fun _ hk => hk.1.2) (.slice Ao71 y351.length co71)) (fun _ hk => hk.2) (.bool (t300 == 0))) (fun _ hk => hk.2) (.bool z4)) (fun _ hk => hk.2) (.int .i64 z5)) (fun _ hk => hk.2) (.int .i64 z7)) (fun _ hk => hk.2) (.slice Ao71 y351.length co71)) (fun _ hk => trivial)), by repeat (ya_), by repeat (yac_), by repeat (yab_)⟩
      ·rw [if_neg c66] at H
       have c66b0 : (t349 == 0) = false := beq_eq_false_iff_ne.mpr c66
       have c66b1 : (t349 != 0) = true := bne_iff_ne.mpr c66
       by_cases c77 : t349 = 1
       ·rw [if_pos c77] at H
        have c77b0 : (t349 == 1) = true := beq_iff_eq.mpr c77
        have c77b1 : (t349 != 1) = false := bne_eq_false_iff_eq.mpr c77
        clear c77
        obtain ⟨y354, hy354⟩ : ∃ y_ : List Int, y_ = (([(-1)] : List Int)) := ⟨_, rfl⟩
        replace H : (some ((t300 == 0), z4, z5, z7, y354, t350)) = some (r1, r2, r3, r4, r5, r6) := by first | (rw [hy354]; with_reducible exact H) | (have H2_ := (Option.bind_some _ _).symm.trans H; rw [hy354]; with_reducible exact H2_) | (have H2_ := (Option.bind_some _ _).symm.trans H; with_reducible exact H2_) | with_reducible exact H | (rw [hy354]; exact H) | exact H
        have zz := A_ hy354
        clear hy354
        simp only [Option.some.injEq, Prod.mk.injEq] at H
        obtain ⟨rfl, rfl, rfl, rfl, rfl, rfl⟩ := H
        go_wp2_with (first | ((with_reducible refine gate_callee (f := 44) rfl ?_); refine goesL_ (some 55) rfl rfl Try.func44 (by kernel_rfl) rfl #[.pointer (some ⟨g, 0, none⟩), .int .i64 a1] rfl (yae_) ?_; (with_reducible refine (spec_l20Rd_odd.calls kj26 g s0_0 zh a1 true t348 w0 _ ?side1 ?side2 A63.out).mono ?_); (case side1 => repeat (ya_)); (case side2 => repeat (yac_)); rintro e w78 ⟨rfl, hi, hb, hk⟩; refine ⟨_, rfl, ?_⟩; have n0_ := A_ (Kd.Q_mono (Kd.Q_keep (IsS69.apartQ (show IsS69 w0 _ g s0_0 zh from by repeat (ya_)) (by (yad_); exact z1.out) (by decide)) hk (fun _ h => h.2)) (fun _ h => h.1)); have n1_ := A_ (kB_ hk (g' := gb299) (o := .cells #[.bool false, .bool false, .int .i64 0, .int .i64 0, .slice none 0 0] 47 (0, 0)) (by (yaa_); exact z0.out) zc.out (by simp)); have n2_ := A_ (kB_ hk (g' := gb309) (o := .cells #[.bool (t300 == 0), .bool z4, .int .i64 z5, .int .i64 z7, u310004] 47 (0, 0)) (by (yaa_); exact z.out) zd.out (by simp)); have n3_ := A_ (kT_ (by repeat (yab_)) hk (.inl rfl)); have n4_ := A_ (hb); have n5_ := A_ (hi); clear z1; clear z0; clear z; clear HK; clear HB; clear HI0; have z1 := n0_; have z0 := n1_; have z := n2_; have HK := n3_; have HB := n4_; have HI0 := n5_; clear n0_ n1_ n2_ n3_ n4_ n5_; (try clear hb); (try clear hb2); (try clear hk); (try clear hi)) | ((yai_); refine goesL_ (some 57) rfl rfl Try.func45 (by kernel_rfl) rfl #[.pointer (some ⟨g, 0, none⟩), .int .i64 4] rfl (yae_) ?_; (with_reducible refine (spec_l20Rd_pick.calls kj26 g s0_0 t348 4 t349 t350 w0 _ ?side1 ?side2 A65.out).mono ?_); (case side1 => repeat (ya_)); (case side2 => repeat (yac_)); rintro e w79 ⟨rfl, hi, hb, hk⟩; refine ⟨_, rfl, ?_⟩; have n0_ := A_ (Kd.Q_mono (Kd.Q_keep (IsS69.apartQ (show IsS69 w0 _ g s0_0 t348 from by repeat (ya_)) (by (yad_); exact z1.out) (by decide)) hk (fun _ h => h.2)) (fun _ h => h.1)); have n1_ := A_ (kB_ hk (g' := gb299) (o := .cells #[.bool false, .bool false, .int .i64 0, .int .i64 0, .slice none 0 0] 47 (0, 0)) (by (yaa_); exact z0.out) zc.out (by simp)); have n2_ := A_ (kB_ hk (g' := gb309) (o := .cells #[.bool (t300 == 0), .bool z4, .int .i64 z5, .int .i64 z7, u310004] 47 (0, 0)) (by (yaa_); exact z.out) zd.out (by simp)); have n3_ := A_ (kT_ (by repeat (yab_)) hk (.inl rfl)); have n4_ := A_ (hb); have n5_ := A_ (hi); clear z1; clear z0; clear z; clear HK; clear HB; clear HI0; have z1 := n0_; have z0 := n1_; have z := n2_; have HK := n3_; have HB := n4_; have HI0 := n5_; clear n0_ n1_ n2_ n3_ n4_ n5_; (try clear hb); (try clear hb2); (try clear hk); (try clear hi)) | ((with_reducible refine gate_dst (N := 70) rfl ?_); refine Kd.R_lit (Kd.int .i64) _ 3 ?hg (N := 70) ?hd (xs := ([(-1)] : List Int)) (inner := [.int .i64 (-1)]) (ok := fun _ => True) (okp := fun _ => True) ?hr ?hp (fun _ hk => hk) trivial (Below.refl _ _) (Nat.le_refl _) (by simp) ?_; (case hd => rfl); (case hg => rfl); (case hr => first | (go_simp; done) | (go_simp; rfl)); (case hp => exact (Reps.one (show Kd.M (Kd.int .i64) _ _ _ (-1) [.int .i64 (-1)] from rfl) (Reps.none _ _))); intro v355 w80 ho81 hb hg_ hnew_; clear hg_ hnew_; (first | rw [← zz.out] at ho81 | (simp only [Int.reduceToNat] at ho81; rw [← zz.out] at ho81)); have n0_ := A_ (Kd.Q_elder' (by (yad_); exact z1.out) (Kd.R_base ho81) hb); have n1_ := A_ (Kd.R_lower (Kd.R_new' ho81 (Kd.Q_lt (by (yad_); exact z1.out))) (keep_size (w := w) (g := g) (row := none) (by repeat (yab_)))); have n2_ := A_ (bB_ (g := gb299) (o := .cells #[.bool false, .bool false, .int .i64 0, .int .i64 0, .slice none 0 0] 47 (0, 0)) (by (yaa_); exact z0.out) hb); have n3_ := A_ (bB_ (g := gb309) (o := .cells #[.bool (t300 == 0), .bool z4, .int .i64 z5, .int .i64 z7, u310004] 47 (0, 0)) (by (yaa_); exact z.out) hb); have n4_ := A_ (IsS69.below (by repeat (ya_)) hb); have n5_ := A_ (kT_ (by repeat (yab_)) (kO_ hb g none) (.inl rfl)); have n6_ := A_ (wT_ (by repeat (yac_)) hb); clear z1; clear z0; clear z; clear HI0; clear HK; clear HB; have z1 := n0_; have q := n1_; have z0 := n2_; have z := n3_; have HI0 := n4_; have HK := n5_; have HB := n6_; clear n0_ n1_ n2_ n3_ n4_ n5_ n6_; clear hb ho81; obtain ⟨Ao82, co82, eo82⟩ := Kd.R_slice q.out; subst eo82; have hnb83 := zk.out; have hnc83 := zf.out; have hnb84 := zd.out; have hnc84 := z3.out; have hcz85_0 : w80.cell? ⟨gb309, 0, none⟩ = some (.bool (t300 == 0)) := (bC_ z.out 0).trans rfl; have hcz85_1 : w80.cell? ⟨gb309, 1, none⟩ = some (.bool z4) := (bC_ z.out 1).trans rfl; have hcz85_2 : w80.cell? ⟨gb309, 2, none⟩ = some (.int .i64 z5) := (bC_ z.out 2).trans rfl; have hcz85_3 : w80.cell? ⟨gb309, 3, none⟩ = some (.int .i64 z7) := (bC_ z.out 3).trans rfl; have hcz85_4 : w80.cell? ⟨gb309, 4, none⟩ = some (u310004) := (bC_ z.out 4).trans rfl; have hfz85_0 := bF_ z.out 0; have hfz85_1 := bF_ z.out 1; have hfz85_2 := bF_ z.out 2; have hfz85_3 := bF_ z.out 3; have hfz85_4 := bF_ z.out 4; have hnb86 := zc.out; have hnc86 := z2.out; have hcz87_0 : w80.cell? ⟨gb299, 0, none⟩ = some (.bool false) := (bC_ z0.out 0).trans rfl; have hcz87_1 : w80.cell? ⟨gb299, 1, none⟩ = some (.bool false) := (bC_ z0.out 1).trans rfl; have hcz87_2 : w80.cell? ⟨gb299, 2, none⟩ = some (.int .i64 0) := (bC_ z0.out 2).trans rfl; have hcz87_3 : w80.cell? ⟨gb299, 3, none⟩ = some (.int .i64 0) := (bC_ z0.out 3).trans rfl; have hcz87_4 : w80.cell? ⟨gb299, 4, none⟩ = some (.slice none 0 0) := (bC_ z0.out 4).trans rfl; have hfz87_0 := bF_ z0.out 0; have hfz87_1 := bF_ z0.out 1; have hfz87_2 := bF_ z0.out 2; have hfz87_3 := bF_ z0.out 3; have hfz87_4 := bF_ z0.out 4))
        refine bodyPost_ret (results_cell_row rfl _ _ gb299 47 #[.bool (t300 == 0), .bool z4, .int .i64 z5, .int .i64 z7, .slice Ao82 y354.length co82] (0, 0) _ rfl (yaj_) Try.underlying47 rfl (by kernel_rfl)) rfl ?_
        exact ⟨_, by first | rfl | (simp [errW_none, errW_some] <;> rfl) | (simp [*, errW_none, errW_some] <;> rfl), Kd.Q_of_R (by (yag_); exact rM_ (Kd.R_far (p := ⟨gb299, 4, none⟩) (Kd.R_far (p := ⟨gb299, 3, none⟩) (Kd.R_far (p := ⟨gb299, 2, none⟩) (Kd.R_far (p := ⟨gb299, 1, none⟩) (Kd.R_far (p := ⟨gb299, 0, none⟩) (Kd.R_far (p := ⟨gb309, 4, none⟩) (Kd.R_types (Kd.R_types q.out z.out (by decide)) z0.out (by decide)) (fun _ hk => hk.1.2) (.slice Ao82 y354.length co82)) (fun _ hk => hk.2) (.bool (t300 == 0))) (fun _ hk => hk.2) (.bool z4)) (fun _ hk => hk.2) (.int .i64 z5)) (fun _ hk => hk.2) (.int .i64 z7)) (fun _ hk => hk.2) (.slice Ao82 y354.length co82)) (fun _ hk => trivial)), by repeat (ya_), by repeat (yac_), by repeat (yab_)⟩
       ·rw [if_neg c77] at H
        have c77b0 : (t349 == 1) = false := beq_eq_false_iff_ne.mpr c77
        have c77b1 : (t349 != 1) = true := bne_iff_ne.mpr c77
        by_cases c88 : t349 = 2
        ·rw [if_pos c88] at H
         have c88b0 : (t349 == 2) = true := beq_iff_eq.mpr c88
         have c88b1 : (t349 != 2) = false := bne_eq_false_iff_eq.mpr c88
         clear c88
         obtain ⟨y357, hy357⟩ : ∃ y_ : List Int, y_ = (([(-1), 256, 1] : List Int)) := ⟨_, rfl⟩
         replace H : ((spec_l20Rd_pick.f kj26 s0_0 t350 3).bind fun bt360 => (if 0 ≤ bt360.1 then (if bt360.1 < (y357.length : Int) then (some ((t300 == 0), z4, rd y357 bt360.1, z7, zb, bt360.2)) else (none)) else (none))) = some (r1, r2, r3, r4, r5, r6) := by first | (rw [hy357]; with_reducible exact H) | (have H2_ := (Option.bind_some _ _).symm.trans H; rw [hy357]; with_reducible exact H2_) | (have H2_ := (Option.bind_some _ _).symm.trans H; with_reducible exact H2_) | with_reducible exact H | (rw [hy357]; exact H) | exact H
         have q0 := A_ hy357
         clear hy357
         replace H := Option.bind_eq_some_iff.mp H
         obtain ⟨⟨t360, t361⟩, A890, H⟩ := H
         replace H : (if 0 ≤ t360 then (if t360 < (y357.length : Int) then (some ((t300 == 0), z4, rd y357 t360, z7, zb, t361)) else (none)) else (none)) = some (r1, r2, r3, r4, r5, r6) := H
         have A89 := A_ A890
         clear A890
         by_cases c90 : 0 ≤ t360
         ·rw [if_pos c90] at H
          have c90b0 : decide (0 ≤ t360) = true := decide_eq_true c90
          clear c90
          by_cases c91 : t360 < (y357.length : Int)
          ·rw [if_pos c91] at H
           have c91b0 : decide (t360 < (y357.length : Int)) = true := decide_eq_true c91
           clear c91
           simp only [Option.some.injEq, Prod.mk.injEq] at H
           obtain ⟨rfl, rfl, rfl, rfl, rfl, rfl⟩ := H
           go_wp2_with (first | ((with_reducible refine gate_callee (f := 44) rfl ?_); refine goesL_ (some 55) rfl rfl Try.func44 (by kernel_rfl) rfl #[.pointer (some ⟨g, 0, none⟩), .int .i64 a1] rfl (yae_) ?_; (with_reducible refine (spec_l20Rd_odd.calls kj26 g s0_0 zh a1 true t348 w0 _ ?side1 ?side2 A63.out).mono ?_); (case side1 => repeat (ya_)); (case side2 => repeat (yac_)); rintro e w92 ⟨rfl, hi, hb, hk⟩; refine ⟨_, rfl, ?_⟩; have n0_ := A_ (Kd.Q_mono (Kd.Q_keep (IsS69.apartQ (show IsS69 w0 _ g s0_0 zh from by repeat (ya_)) (by (yad_); exact z1.out) (by decide)) hk (fun _ h => h.2)) (fun _ h => h.1)); have n1_ := A_ (kB_ hk (g' := gb299) (o := .cells #[.bool false, .bool false, .int .i64 0, .int .i64 0, .slice none 0 0] 47 (0, 0)) (by (yaa_); exact z0.out) zc.out (by simp)); have n2_ := A_ (kB_ hk (g' := gb309) (o := .cells #[.bool (t300 == 0), .bool z4, .int .i64 z5, .int .i64 z7, u310004] 47 (0, 0)) (by (yaa_); exact z.out) zd.out (by simp)); have n3_ := A_ (kT_ (by repeat (yab_)) hk (.inl rfl)); have n4_ := A_ (hb); have n5_ := A_ (hi); clear z1; clear z0; clear z; clear HK; clear HB; clear HI0; have z1 := n0_; have z0 := n1_; have z := n2_; have HK := n3_; have HB := n4_; have HI0 := n5_; clear n0_ n1_ n2_ n3_ n4_ n5_; (try clear hb); (try clear hb2); (try clear hk); (try clear hi)) | ((yai_); refine goesL_ (some 57) rfl rfl Try.func45 (by kernel_rfl) rfl #[.pointer (some ⟨g, 0, none⟩), .int .i64 4] rfl (yae_) ?_; (with_reducible refine (spec_l20Rd_pick.calls kj26 g s0_0 t348 4 t349 t350 w0 _ ?side1 ?side2 A65.out).mono ?_); (case side1 => repeat (ya_)); (case side2 => repeat (yac_)); rintro e w93 ⟨rfl, hi, hb, hk⟩; refine ⟨_, rfl, ?_⟩; have n0_ := A_ (Kd.Q_mono (Kd.Q_keep (IsS69.apartQ (show IsS69 w0 _ g s0_0 t348 from by repeat (ya_)) (by (yad_); exact z1.out) (by decide)) hk (fun _ h => h.2)) (fun _ h => h.1)); have n1_ := A_ (kB_ hk (g' := gb299) (o := .cells #[.bool false, .bool false, .int .i64 0, .int .i64 0, .slice none 0 0] 47 (0, 0)) (by (yaa_); exact z0.out) zc.out (by simp)); have n2_ := A_ (kB_ hk (g' := gb309) (o := .cells #[.bool (t300 == 0), .bool z4, .int .i64 z5, .int .i64 z7, u310004] 47 (0, 0)) (by (yaa_); exact z.out) zd.out (by simp)); have n3_ := A_ (kT_ (by repeat (yab_)) hk (.inl rfl)); have n4_ := A_ (hb); have n5_ := A_ (hi); clear z1; clear z0; clear z; clear HK; clear HB; clear HI0; have z1 := n0_; have z0 := n1_; have z := n2_; have HK := n3_; have HB := n4_; have HI0 := n5_; clear n0_ n1_ n2_ n3_ n4_ n5_; (try clear hb); (try clear hb2); (try clear hk); (try clear hi)) | ((with_reducible refine gate_dst (N := 74) rfl ?_); refine Kd.R_lit (Kd.int .i64) _ 3 ?hg (N := 74) ?hd (xs := ([(-1), 256, 1] : List Int)) (inner := [.int .i64 (-1), .int .i64 256, .int .i64 1]) (ok := fun _ => True) (okp := fun _ => True) ?hr ?hp (fun _ hk => hk) trivial (Below.refl _ _) (Nat.le_refl _) (by simp) ?_; (case hd => rfl); (case hg => rfl); (case hr => first | (go_simp; done) | (go_simp; rfl)); (case hp => exact (Reps.one (show Kd.M (Kd.int .i64) _ _ _ (-1) [.int .i64 (-1)] from rfl) (Reps.one (show Kd.M (Kd.int .i64) _ _ _ 256 [.int .i64 256] from rfl) (Reps.one (show Kd.M (Kd.int .i64) _ _ _ 1 [.int .i64 1] from rfl) (Reps.none _ _))))); intro v358 w94 ho95 hb hg_ hnew_; clear hg_ hnew_; (first | rw [← q0.out] at ho95 | (simp only [Int.reduceToNat] at ho95; rw [← q0.out] at ho95)); have n0_ := A_ (Kd.Q_elder' (by (yad_); exact z1.out) (Kd.R_base ho95) hb); have n1_ := A_ (Kd.R_lower (Kd.R_new' ho95 (Kd.Q_lt (by (yad_); exact z1.out))) (keep_size (w := w) (g := g) (row := none) (by repeat (yab_)))); have n2_ := A_ (bB_ (g := gb299) (o := .cells #[.bool false, .bool false, .int .i64 0, .int .i64 0, .slice none 0 0] 47 (0, 0)) (by (yaa_); exact z0.out) hb); have n3_ := A_ (bB_ (g := gb309) (o := .cells #[.bool (t300 == 0), .bool z4, .int .i64 z5, .int .i64 z7, u310004] 47 (0, 0)) (by (yaa_); exact z.out) hb); have n4_ := A_ (IsS69.below (by repeat (ya_)) hb); have n5_ := A_ (kT_ (by repeat (yab_)) (kO_ hb g none) (.inl rfl)); have n6_ := A_ (wT_ (by repeat (yac_)) hb); clear z1; clear z0; clear z; clear HI0; clear HK; clear HB; have z1 := n0_; have zq := n1_; have z0 := n2_; have z := n3_; have HI0 := n4_; have HK := n5_; have HB := n6_; clear n0_ n1_ n2_ n3_ n4_ n5_ n6_; clear hb ho95) | ((yai_); refine goesL_ (some 76) rfl rfl Try.func45 (by kernel_rfl) rfl #[.pointer (some ⟨g, 0, none⟩), .int .i64 3] rfl (yae_) ?_; (with_reducible refine (spec_l20Rd_pick.calls kj26 g s0_0 t350 3 t360 t361 w0 _ ?side1 ?side2 A89.out).mono ?_); (case side1 => repeat (ya_)); (case side2 => repeat (yac_)); rintro e w96 ⟨rfl, hi, hb, hk⟩; refine ⟨_, rfl, ?_⟩; have n0_ := A_ (Kd.Q_mono (Kd.Q_keep (IsS69.apartQ (show IsS69 w0 _ g s0_0 t350 from by repeat (ya_)) (by (yad_); exact z1.out) (by decide)) hk (fun _ h => h.2)) (fun _ h => h.1)); have n1_ := A_ (kB_ hk (g' := gb299) (o := .cells #[.bool false, .bool false, .int .i64 0, .int .i64 0, .slice none 0 0] 47 (0, 0)) (by (yaa_); exact z0.out) zc.out (by simp)); have n2_ := A_ (kB_ hk (g' := gb309) (o := .cells #[.bool (t300 == 0), .bool z4, .int .i64 z5, .int .i64 z7, u310004] 47 (0, 0)) (by (yaa_); exact z.out) zd.out (by simp)); have n3_ := A_ (rM_ (Kd.R_keep (IsS69.apart (show IsS69 w0 _ g s0_0 t350 from by repeat (ya_)) (by (yag_); exact zq.out) (by decide)) hk (fun _ h => h.2)) (fun _ h => h.1)); have n4_ := A_ (kT_ (by repeat (yab_)) hk (.inl rfl)); have n5_ := A_ (hb); have n6_ := A_ (hi); clear z1; clear z0; clear z; clear zq; clear HK; clear HB; clear HI0; have z1 := n0_; have z0 := n1_; have z := n2_; have zq := n3_; have HK := n4_; have HB := n5_; have HI0 := n6_; clear n0_ n1_ n2_ n3_ n4_ n5_ n6_; (try clear hb); (try clear hb2); (try clear hk); (try clear hi); obtain ⟨Ao97, co97, eo97⟩ := Kd.R_slice zq.out; subst eo97; have p362 : 0 ≤ (t360 : Int) := of_decide_eq_true (by first | (with_reducible assumption) | assumption); have q362 : t360 < (y357.length : Int) := of_decide_eq_true (by first | (with_reducible assumption) | assumption); obtain ⟨ad362, e362, hx362_0⟩ := Kd.at_int (Kd.R_reads' zq.out).2.2 t360 p362 q362; cases e362; replace p362 := eq_true p362; replace q362 := eq_true q362; have hnb98 := zk.out; have hnc98 := zf.out; have hnb99 := zd.out; have hnc99 := z3.out; have hcz100_0 : w96.cell? ⟨gb309, 0, none⟩ = some (.bool (t300 == 0)) := (bC_ z.out 0).trans rfl; have hcz100_1 : w96.cell? ⟨gb309, 1, none⟩ = some (.bool z4) := (bC_ z.out 1).trans rfl; have hcz100_2 : w96.cell? ⟨gb309, 2, none⟩ = some (.int .i64 z5) := (bC_ z.out 2).trans rfl; have hcz100_3 : w96.cell? ⟨gb309, 3, none⟩ = some (.int .i64 z7) := (bC_ z.out 3).trans rfl; have hcz100_4 : w96.cell? ⟨gb309, 4, none⟩ = some (u310004) := (bC_ z.out 4).trans rfl; have hfz100_0 := bF_ z.out 0; have hfz100_1 := bF_ z.out 1; have hfz100_2 := bF_ z.out 2; have hfz100_3 := bF_ z.out 3; have hfz100_4 := bF_ z.out 4; have hnb101 := zc.out; have hnc101 := z2.out; have hcz102_0 : w96.cell? ⟨gb299, 0, none⟩ = some (.bool false) := (bC_ z0.out 0).trans rfl; have hcz102_1 : w96.cell? ⟨gb299, 1, none⟩ = some (.bool false) := (bC_ z0.out 1).trans rfl; have hcz102_2 : w96.cell? ⟨gb299, 2, none⟩ = some (.int .i64 0) := (bC_ z0.out 2).trans rfl; have hcz102_3 : w96.cell? ⟨gb299, 3, none⟩ = some (.int .i64 0) := (bC_ z0.out 3).trans rfl; have hcz102_4 : w96.cell? ⟨gb299, 4, none⟩ = some (.slice none 0 0) := (bC_ z0.out 4).trans rfl; have hfz102_0 := bF_ z0.out 0; have hfz102_1 := bF_ z0.out 1; have hfz102_2 := bF_ z0.out 2; have hfz102_3 := bF_ z0.out 3; have hfz102_4 := bF_ z0.out 4; obtain ⟨Ao103, co103, eo103, _⟩ := Kd.Q_slice z1.out; subst eo103))
           refine bodyPost_ret (results_cell_row rfl _ _ gb299 47 #[.bool (t300 == 0), .bool z4, .int .i64 (rd y357 t360), .int .i64 z7, .slice Ao103 zb.length co103] (0, 0) _ rfl (by (yaa_); refine blk_put (cs := #[.bool (t300 == 0), .bool z4, .int .i64 (rd y357 t360), .int .i64 z7, .slice none 0 0]) ?_ 4 _ rfl; (yaa_); refine blk_put (cs := #[.bool (t300 == 0), .bool z4, .int .i64 (rd y357 t360), .int .i64 0, .slice none 0 0]) ?_ 3 _ rfl; (yaa_); refine blk_put (cs := #[.bool (t300 == 0), .bool z4, .int .i64 0, .int .i64 0, .slice none 0 0]) ?_ 2 _ rfl; (yaa_); refine blk_put (cs := #[.bool (t300 == 0), .bool false, .int .i64 0, .int .i64 0, .slice none 0 0]) ?_ 1 _ rfl; (yaa_); refine blk_put (cs := #[.bool false, .bool false, .int .i64 0, .int .i64 0, .slice none 0 0]) ?_ 0 _ rfl; (yaa_); refine blk_far ?_ zf.out _; (yaa_); exact z0.out) Try.underlying47 rfl (by kernel_rfl)) rfl ?_
           exact ⟨_, by first | rfl | (simp [errW_none, errW_some] <;> rfl) | (simp [*, errW_none, errW_some] <;> rfl), by (yad_); exact Kd.Q_mono (Kd.Q_far (p := ⟨gb299, 4, none⟩) (Kd.Q_far (p := ⟨gb299, 3, none⟩) (Kd.Q_far (p := ⟨gb299, 2, none⟩) (Kd.Q_far (p := ⟨gb299, 1, none⟩) (Kd.Q_far (p := ⟨gb299, 0, none⟩) (Kd.Q_far (p := ⟨gb309, 2, none⟩) (Kd.Q_types (Kd.Q_types z1.out z.out (by decide)) z0.out (by decide)) (fun _ hk => hk.1.2) (.int .i64 (rd y357 t360))) (fun _ hk => hk.2) (.bool (t300 == 0))) (fun _ hk => hk.2) (.bool z4)) (fun _ hk => hk.2) (.int .i64 (rd y357 t360))) (fun _ hk => hk.2) (.int .i64 z7)) (fun _ hk => hk.2) (.slice Ao103 zb.length co103)) (fun _ hk => trivial), by repeat (ya_), by repeat (yac_), by repeat (yab_)⟩
          ·rw [if_neg c91] at H
           exact absurd H (by simp)
         ·rw [if_neg c90] at H
          exact absurd H (by simp)
        ·rw [if_neg c88] at H
         have c88b0 : (t349 == 2) = false := beq_eq_false_iff_ne.mpr c88
         have c88b1 : (t349 != 2) = true := bne_iff_ne.mpr c88
         obtain ⟨y363, hy363⟩ : ∃ y_ : List Int, y_ = (([(-1), 65536] : List Int)) := ⟨_, rfl⟩
         replace H : ((spec_l20Rd_pick.f kj26 s0_0 t350 2).bind fun bt366 => (if 0 ≤ bt366.1 then (if bt366.1 < (y363.length : Int) then (some ((t300 == 0), z4, z5, rd y363 bt366.1, zb, bt366.2)) else (none)) else (none))) = some (r1, r2, r3, r4, r5, r6) := by first | (rw [hy363]; with_reducible exact H) | (have H2_ := (Option.bind_some _ _).symm.trans H; rw [hy363]; with_reducible exact H2_) | (have H2_ := (Option.bind_some _ _).symm.trans H; with_reducible exact H2_) | with_reducible exact H | (rw [hy363]; exact H) | exact H
         have q1 := A_ hy363
         clear hy363
         replace H := Option.bind_eq_some_iff.mp H
         obtain ⟨⟨t366, t367⟩, A1040, H⟩ := H
         replace H : (if 0 ≤ t366 then (if t366 < (y363.length : Int) then (some ((t300 == 0), z4, z5, rd y363 t366, zb, t367)) else (none)) else (none)) = some (r1, r2, r3, r4, r5, r6) := H
         have A104 := A_ A1040
         clear A1040
         by_cases c105 : 0 ≤ t366
         ·rw [if_pos c105] at H
          have c105b0 : decide (0 ≤ t366) = true := decide_eq_true c105
          clear c105
          by_cases c106 : t366 < (y363.length : Int)
          ·rw [if_pos c106] at H
           have c106b0 : decide (t366 < (y363.length : Int)) = true := decide_eq_true c106
           clear c106
           simp only [Option.some.injEq, Prod.mk.injEq] at H
           obtain ⟨rfl, rfl, rfl, rfl, rfl, rfl⟩ := H
           go_wp2_with (first | ((with_reducible refine gate_callee (f := 44) rfl ?_); refine goesL_ (some 55) rfl rfl Try.func44 (by kernel_rfl) rfl #[.pointer (some ⟨g, 0, none⟩), .int .i64 a1] rfl (yae_) ?_; (with_reducible refine (spec_l20Rd_odd.calls kj26 g s0_0 zh a1 true t348 w0 _ ?side1 ?side2 A63.out).mono ?_); (case side1 => repeat (ya_)); (case side2 => repeat (yac_)); rintro e w107 ⟨rfl, hi, hb, hk⟩; refine ⟨_, rfl, ?_⟩; have n0_ := A_ (Kd.Q_mono (Kd.Q_keep (IsS69.apartQ (show IsS69 w0 _ g s0_0 zh from by repeat (ya_)) (by (yad_); exact z1.out) (by decide)) hk (fun _ h => h.2)) (fun _ h => h.1)); have n1_ := A_ (kB_ hk (g' := gb299) (o := .cells #[.bool false, .bool false, .int .i64 0, .int .i64 0, .slice none 0 0] 47 (0, 0)) (by (yaa_); exact z0.out) zc.out (by simp)); have n2_ := A_ (kB_ hk (g' := gb309) (o := .cells #[.bool (t300 == 0), .bool z4, .int .i64 z5, .int .i64 z7, u310004] 47 (0, 0)) (by (yaa_); exact z.out) zd.out (by simp)); have n3_ := A_ (kT_ (by repeat (yab_)) hk (.inl rfl)); have n4_ := A_ (hb); have n5_ := A_ (hi); clear z1; clear z0; clear z; clear HK; clear HB; clear HI0; have z1 := n0_; have z0 := n1_; have z := n2_; have HK := n3_; have HB := n4_; have HI0 := n5_; clear n0_ n1_ n2_ n3_ n4_ n5_; (try clear hb); (try clear hb2); (try clear hk); (try clear hi)) | ((yai_); refine goesL_ (some 57) rfl rfl Try.func45 (by kernel_rfl) rfl #[.pointer (some ⟨g, 0, none⟩), .int .i64 4] rfl (yae_) ?_; (with_reducible refine (spec_l20Rd_pick.calls kj26 g s0_0 t348 4 t349 t350 w0 _ ?side1 ?side2 A65.out).mono ?_); (case side1 => repeat (ya_)); (case side2 => repeat (yac_)); rintro e w108 ⟨rfl, hi, hb, hk⟩; refine ⟨_, rfl, ?_⟩; have n0_ := A_ (Kd.Q_mono (Kd.Q_keep (IsS69.apartQ (show IsS69 w0 _ g s0_0 t348 from by repeat (ya_)) (by (yad_); exact z1.out) (by decide)) hk (fun _ h => h.2)) (fun _ h => h.1)); have n1_ := A_ (kB_ hk (g' := gb299) (o := .cells #[.bool false, .bool false, .int .i64 0, .int .i64 0, .slice none 0 0] 47 (0, 0)) (by (yaa_); exact z0.out) zc.out (by simp)); have n2_ := A_ (kB_ hk (g' := gb309) (o := .cells #[.bool (t300 == 0), .bool z4, .int .i64 z5, .int .i64 z7, u310004] 47 (0, 0)) (by (yaa_); exact z.out) zd.out (by simp)); have n3_ := A_ (kT_ (by repeat (yab_)) hk (.inl rfl)); have n4_ := A_ (hb); have n5_ := A_ (hi); clear z1; clear z0; clear z; clear HK; clear HB; clear HI0; have z1 := n0_; have z0 := n1_; have z := n2_; have HK := n3_; have HB := n4_; have HI0 := n5_; clear n0_ n1_ n2_ n3_ n4_ n5_; (try clear hb); (try clear hb2); (try clear hk); (try clear hi)) | ((with_reducible refine gate_dst (N := 58) rfl ?_); refine Kd.R_lit (Kd.int .i64) _ 3 ?hg (N := 58) ?hd (xs := ([(-1), 65536] : List Int)) (inner := [.int .i64 (-1), .int .i64 65536]) (ok := fun _ => True) (okp := fun _ => True) ?hr ?hp (fun _ hk => hk) trivial (Below.refl _ _) (Nat.le_refl _) (by simp) ?_; (case hd => rfl); (case hg => rfl); (case hr => first | (go_simp; done) | (go_simp; rfl)); (case hp => exact (Reps.one (show Kd.M (Kd.int .i64) _ _ _ (-1) [.int .i64 (-1)] from rfl) (Reps.one (show Kd.M (Kd.int .i64) _ _ _ 65536 [.int .i64 65536] from rfl) (Reps.none _ _)))); intro v364 w109 ho110 hb hg_ hnew_; clear hg_ hnew_; (first | rw [← q1.out] at ho110 | (simp only [Int.reduceToNat] at ho110; rw [← q1.out] at ho110)); have n0_ := A_ (Kd.Q_elder' (by (yad_); exact z1.out) (Kd.R_base ho110) hb); have n1_ := A_ (Kd.R_lower (Kd.R_new' ho110 (Kd.Q_lt (by (yad_); exact z1.out))) (keep_size (w := w) (g := g) (row := none) (by repeat (yab_)))); have n2_ := A_ (bB_ (g := gb299) (o := .cells #[.bool false, .bool false, .int .i64 0, .int .i64 0, .slice none 0 0] 47 (0, 0)) (by (yaa_); exact z0.out) hb); have n3_ := A_ (bB_ (g := gb309) (o := .cells #[.bool (t300 == 0), .bool z4, .int .i64 z5, .int .i64 z7, u310004] 47 (0, 0)) (by (yaa_); exact z.out) hb); have n4_ := A_ (IsS69.below (by repeat (ya_)) hb); have n5_ := A_ (kT_ (by repeat (yab_)) (kO_ hb g none) (.inl rfl)); have n6_ := A_ (wT_ (by repeat (yac_)) hb); clear z1; clear z0; clear z; clear HI0; clear HK; clear HB; have z1 := n0_; have zr := n1_; have z0 := n2_; have z := n3_; have HI0 := n4_; have HK := n5_; have HB := n6_; clear n0_ n1_ n2_ n3_ n4_ n5_ n6_; clear hb ho110) | ((yai_); refine goesL_ (some 60) rfl rfl Try.func45 (by kernel_rfl) rfl #[.pointer (some ⟨g, 0, none⟩), .int .i64 2] rfl (yae_) ?_; (with_reducible refine (spec_l20Rd_pick.calls kj26 g s0_0 t350 2 t366 t367 w0 _ ?side1 ?side2 A104.out).mono ?_); (case side1 => repeat (ya_)); (case side2 => repeat (yac_)); rintro e w111 ⟨rfl, hi, hb, hk⟩; refine ⟨_, rfl, ?_⟩; have n0_ := A_ (Kd.Q_mono (Kd.Q_keep (IsS69.apartQ (show IsS69 w0 _ g s0_0 t350 from by repeat (ya_)) (by (yad_); exact z1.out) (by decide)) hk (fun _ h => h.2)) (fun _ h => h.1)); have n1_ := A_ (kB_ hk (g' := gb299) (o := .cells #[.bool false, .bool false, .int .i64 0, .int .i64 0, .slice none 0 0] 47 (0, 0)) (by (yaa_); exact z0.out) zc.out (by simp)); have n2_ := A_ (kB_ hk (g' := gb309) (o := .cells #[.bool (t300 == 0), .bool z4, .int .i64 z5, .int .i64 z7, u310004] 47 (0, 0)) (by (yaa_); exact z.out) zd.out (by simp)); have n3_ := A_ (rM_ (Kd.R_keep (IsS69.apart (show IsS69 w0 _ g s0_0 t350 from by repeat (ya_)) (by (yag_); exact zr.out) (by decide)) hk (fun _ h => h.2)) (fun _ h => h.1)); have n4_ := A_ (kT_ (by repeat (yab_)) hk (.inl rfl)); have n5_ := A_ (hb); have n6_ := A_ (hi); clear z1; clear z0; clear z; clear zr; clear HK; clear HB; clear HI0; have z1 := n0_; have z0 := n1_; have z := n2_; have zr := n3_; have HK := n4_; have HB := n5_; have HI0 := n6_; clear n0_ n1_ n2_ n3_ n4_ n5_ n6_; (try clear hb); (try clear hb2); (try clear hk); (try clear hi); obtain ⟨Ao112, co112, eo112⟩ := Kd.R_slice zr.out; subst eo112; have p368 : 0 ≤ (t366 : Int) := of_decide_eq_true (by first | (with_reducible assumption) | assumption); have q368 : t366 < (y363.length : Int) := of_decide_eq_true (by first | (with_reducible assumption) | assumption); obtain ⟨ad368, e368, hx368_0⟩ := Kd.at_int (Kd.R_reads' zr.out).2.2 t366 p368 q368; cases e368; replace p368 := eq_true p368; replace q368 := eq_true q368; have hnb113 := zk.out; have hnc113 := zf.out; have hnb114 := zd.out; have hnc114 := z3.out; have hcz115_0 : w111.cell? ⟨gb309, 0, none⟩ = some (.bool (t300 == 0)) := (bC_ z.out 0).trans rfl; have hcz115_1 : w111.cell? ⟨gb309, 1, none⟩ = some (.bool z4) := (bC_ z.out 1).trans rfl; have hcz115_2 : w111.cell? ⟨gb309, 2, none⟩ = some (.int .i64 z5) := (bC_ z.out 2).trans rfl; have hcz115_3 : w111.cell? ⟨gb309, 3, none⟩ = some (.int .i64 z7) := (bC_ z.out 3).trans rfl; have hcz115_4 : w111.cell? ⟨gb309, 4, none⟩ = some (u310004) := (bC_ z.out 4).trans rfl; have hfz115_0 := bF_ z.out 0; have hfz115_1 := bF_ z.out 1; have hfz115_2 := bF_ z.out 2; have hfz115_3 := bF_ z.out 3; have hfz115_4 := bF_ z.out 4; have hnb116 := zc.out; have hnc116 := z2.out; have hcz117_0 : w111.cell? ⟨gb299, 0, none⟩ = some (.bool false) := (bC_ z0.out 0).trans rfl; have hcz117_1 : w111.cell? ⟨gb299, 1, none⟩ = some (.bool false) := (bC_ z0.out 1).trans rfl; have hcz117_2 : w111.cell? ⟨gb299, 2, none⟩ = some (.int .i64 0) := (bC_ z0.out 2).trans rfl; have hcz117_3 : w111.cell? ⟨gb299, 3, none⟩ = some (.int .i64 0) := (bC_ z0.out 3).trans rfl; have hcz117_4 : w111.cell? ⟨gb299, 4, none⟩ = some (.slice none 0 0) := (bC_ z0.out 4).trans rfl; have hfz117_0 := bF_ z0.out 0; have hfz117_1 := bF_ z0.out 1; have hfz117_2 := bF_ z0.out 2; have hfz117_3 := bF_ z0.out 3; have hfz117_4 := bF_ z0.out 4; obtain ⟨Ao118, co118, eo118, _⟩ := Kd.Q_slice z1.out; subst eo118))
           refine bodyPost_ret (results_cell_row rfl _ _ gb299 47 #[.bool (t300 == 0), .bool z4, .int .i64 z5, .int .i64 (rd y363 t366), .slice Ao118 zb.length co118] (0, 0) _ rfl (by (yaa_); refine blk_put (cs := #[.bool (t300 == 0), .bool z4, .int .i64 z5, .int .i64 (rd y363 t366), .slice none 0 0]) ?_ 4 _ rfl; (yaa_); refine blk_put (cs := #[.bool (t300 == 0), .bool z4, .int .i64 z5, .int .i64 0, .slice none 0 0]) ?_ 3 _ rfl; (yaa_); refine blk_put (cs := #[.bool (t300 == 0), .bool z4, .int .i64 0, .int .i64 0, .slice none 0 0]) ?_ 2 _ rfl; (yaa_); refine blk_put (cs := #[.bool (t300 == 0), .bool false, .int .i64 0, .int .i64 0, .slice none 0 0]) ?_ 1 _ rfl; (yaa_); refine blk_put (cs := #[.bool false, .bool false, .int .i64 0, .int .i64 0, .slice none 0 0]) ?_ 0 _ rfl; (yaa_); refine blk_far ?_ zf.out _; (yaa_); exact z0.out) Try.underlying47 rfl (by kernel_rfl)) rfl ?_
           exact ⟨_, by first | rfl | (simp [errW_none, errW_some] <;> rfl) | (simp [*, errW_none, errW_some] <;> rfl), by (yad_); exact Kd.Q_mono (Kd.Q_far (p := ⟨gb299, 4, none⟩) (Kd.Q_far (p := ⟨gb299, 3, none⟩) (Kd.Q_far (p := ⟨gb299, 2, none⟩) (Kd.Q_far (p := ⟨gb299, 1, none⟩) (Kd.Q_far (p := ⟨gb299, 0, none⟩) (Kd.Q_far (p := ⟨gb309, 3, none⟩) (Kd.Q_types (Kd.Q_types z1.out z.out (by decide)) z0.out (by decide)) (fun _ hk => hk.1.2) (.int .i64 (rd y363 t366))) (fun _ hk => hk.2) (.bool (t300 == 0))) (fun _ hk => hk.2) (.bool z4)) (fun _ hk => hk.2) (.int .i64 z5)) (fun _ hk => hk.2) (.int .i64 (rd y363 t366))) (fun _ hk => hk.2) (.slice Ao118 zb.length co118)) (fun _ hk => trivial), by repeat (ya_), by repeat (yac_), by repeat (yab_)⟩
          ·rw [if_neg c106] at H
           exact absurd H (by simp)
         ·rw [if_neg c105] at H
          exact absurd H (by simp)
     ·replace c64 := Bool.eq_false_iff.mpr c64
      subst c64
      have H1 : (some ((t300 == 0), z4, z5, z7, zb, t348)) = some (r1, r2, r3, r4, r5, r6) := by rw [if_neg (show ¬ (false = true) by decide)] at H; exact H
      clear H
      have H := H1
      clear H1
      simp only [Option.some.injEq, Prod.mk.injEq] at H
      obtain ⟨rfl, rfl, rfl, rfl, rfl, rfl⟩ := H
      go_wp2_with (first | ((with_reducible refine gate_callee (f := 44) rfl ?_); refine goesL_ (some 55) rfl rfl Try.func44 (by kernel_rfl) rfl #[.pointer (some ⟨g, 0, none⟩), .int .i64 a1] rfl (yae_) ?_; (with_reducible refine (spec_l20Rd_odd.calls kj26 g s0_0 zh a1 false t348 w0 _ ?side1 ?side2 A63.out).mono ?_); (case side1 => repeat (ya_)); (case side2 => repeat (yac_)); rintro e w119 ⟨rfl, hi, hb, hk⟩; refine ⟨_, rfl, ?_⟩; have n0_ := A_ (Kd.Q_mono (Kd.Q_keep (IsS69.apartQ (show IsS69 w0 _ g s0_0 zh from by repeat (ya_)) (by (yad_); exact z1.out) (by decide)) hk (fun _ h => h.2)) (fun _ h => h.1)); have n1_ := A_ (kB_ hk (g' := gb299) (o := .cells #[.bool false, .bool false, .int .i64 0, .int .i64 0, .slice none 0 0] 47 (0, 0)) (by (yaa_); exact z0.out) zc.out (by simp)); have n2_ := A_ (kB_ hk (g' := gb309) (o := .cells #[.bool (t300 == 0), .bool z4, .int .i64 z5, .int .i64 z7, u310004] 47 (0, 0)) (by (yaa_); exact z.out) zd.out (by simp)); have n3_ := A_ (kT_ (by repeat (yab_)) hk (.inl rfl)); have n4_ := A_ (hb); have n5_ := A_ (hi); clear z1; clear z0; clear z; clear HK; clear HB; clear HI0; have z1 := n0_; have z0 := n1_; have z := n2_; have HK := n3_; have HB := n4_; have HI0 := n5_; clear n0_ n1_ n2_ n3_ n4_ n5_; (try clear hb); (try clear hb2); (try clear hk); (try clear hi); have hnb120 := zk.out; have hnc120 := zf.out; have hnb121 := zd.out; have hnc121 := z3.out; have hcz122_0 : w119.cell? ⟨gb309, 0, none⟩ = some (.bool (t300 == 0)) := (bC_ z.out 0).trans rfl; have hcz122_1 : w119.cell? ⟨gb309, 1, none⟩ = some (.bool z4) := (bC_ z.out 1).trans rfl; have hcz122_2 : w119.cell? ⟨gb309, 2, none⟩ = some (.int .i64 z5) := (bC_ z.out 2).trans rfl; have hcz122_3 : w119.cell? ⟨gb309, 3, none⟩ = some (.int .i64 z7) := (bC_ z.out 3).trans rfl; have hcz122_4 : w119.cell? ⟨gb309, 4, none⟩ = some (u310004) := (bC_ z.out 4).trans rfl; have hfz122_0 := bF_ z.out 0; have hfz122_1 := bF_ z.out 1; have hfz122_2 := bF_ z.out 2; have hfz122_3 := bF_ z.out 3; have hfz122_4 := bF_ z.out 4; have hnb123 := zc.out; have hnc123 := z2.out; have hcz124_0 : w119.cell? ⟨gb299, 0, none⟩ = some (.bool false) := (bC_ z0.out 0).trans rfl; have hcz124_1 : w119.cell? ⟨gb299, 1, none⟩ = some (.bool false) := (bC_ z0.out 1).trans rfl; have hcz124_2 : w119.cell? ⟨gb299, 2, none⟩ = some (.int .i64 0) := (bC_ z0.out 2).trans rfl; have hcz124_3 : w119.cell? ⟨gb299, 3, none⟩ = some (.int .i64 0) := (bC_ z0.out 3).trans rfl; have hcz124_4 : w119.cell? ⟨gb299, 4, none⟩ = some (.slice none 0 0) := (bC_ z0.out 4).trans rfl; have hfz124_0 := bF_ z0.out 0; have hfz124_1 := bF_ z0.out 1; have hfz124_2 := bF_ z0.out 2; have hfz124_3 := bF_ z0.out 3; have hfz124_4 := bF_ z0.out 4; obtain ⟨Ao125, co125, eo125, _⟩ := Kd.Q_slice z1.out; subst eo125))
      refine bodyPost_ret (results_cell_row rfl _ _ gb299 47 #[.bool (t300 == 0), .bool z4, .int .i64 z5, .int .i64 z7, .slice Ao125 zb.length co125] (0, 0) _ rfl (by (yaa_); refine blk_put (cs := #[.bool (t300 == 0), .bool z4, .int .i64 z5, .int .i64 z7, .slice none 0 0]) ?_ 4 _ rfl; (yaa_); refine blk_put (cs := #[.bool (t300 == 0), .bool z4, .int .i64 z5, .int .i64 0, .slice none 0 0]) ?_ 3 _ rfl; (yaa_); refine blk_put (cs := #[.bool (t300 == 0), .bool z4, .int .i64 0, .int .i64 0, .slice none 0 0]) ?_ 2 _ rfl; (yaa_); refine blk_put (cs := #[.bool (t300 == 0), .bool false, .int .i64 0, .int .i64 0, .slice none 0 0]) ?_ 1 _ rfl; (yaa_); refine blk_put (cs := #[.bool false, .bool false, .int .i64 0, .int .i64 0, .slice none 0 0]) ?_ 0 _ rfl; (yaa_); exact z0.out) Try.underlying47 rfl (by kernel_rfl)) rfl ?_
      exact ⟨_, by first | rfl | (simp [errW_none, errW_some] <;> rfl) | (simp [*, errW_none, errW_some] <;> rfl), by (yad_); exact Kd.Q_mono (Kd.Q_far (p := ⟨gb299, 4, none⟩) (Kd.Q_far (p := ⟨gb299, 3, none⟩) (Kd.Q_far (p := ⟨gb299, 2, none⟩) (Kd.Q_far (p := ⟨gb299, 1, none⟩) (Kd.Q_far (p := ⟨gb299, 0, none⟩) (Kd.Q_types z1.out z0.out (by decide)) (fun _ hk => hk.2) (.bool (t300 == 0))) (fun _ hk => hk.2) (.bool z4)) (fun _ hk => hk.2) (.int .i64 z5)) (fun _ hk => hk.2) (.int .i64 z7)) (fun _ hk => hk.2) (.slice Ao125 zb.length co125)) (fun _ hk => trivial), by repeat (ya_), by repeat (yac_), by repeat (yab_)⟩
end
end

/-! ### spec_DrawInOk: function 41 -/
section
open Go.Proofs.YtdpgomcdacmhkaaW.PrintWords renaming blk_drewN → bN_, blk_alloc → bA_, blk_drew → bD_, blk_below → bB_, blk_frozen → bF_, blk_cell → bC_, below_set → wS_, pw_below_drewN → wN_, below_alloc → wA_, below_drew1 → wD_, below_step → wT_, below_size → wZ_
open Go.Proofs.YtdpgomcdacmhkaaW.PrintWords.Aside0 renaming mk → A_
open Go.Proofs.YtdpgomcdacmhkaaW.PrintWords.KeepBut renaming blk → kB_
open List renaming map_toArray → mT_, map_cons → mC_, map_nil → mN_, length_drop → lD_, length_take → lT_
open Go.Proofs.Ytdpgomcdacmhkaa.QFnInOk.IsS69 renaming far → iF_, alloc → iA_, drewN → iN_, drew → iD_, set_1 → iS_
def spec_DrawInOk.f (k : Nat) (l0 : List Int) : Option (Bool × Bool × Int × Int × List Int) := (spec_l20Open.f l0).bind fun bt370 => ((spec_l20In.f k bt370.1 bt370.2 2).bind fun bt373 => (some (bt373.1, bt373.2.1, bt373.2.2.1, bt373.2.2.2.1, bt373.2.2.2.2.1)))
theorem spec_DrawInOk.mono : ∀ a0 k, LeO (spec_DrawInOk.f k a0) (spec_DrawInOk.f (k + 1) a0) := by
 intro a0 k
 unfold spec_DrawInOk.f
 repeat' first
   | (with_reducible exact spec_l20In.mono _ _ _ _)
   | (with_reducible exact LeO.refl _)
   | (with_reducible exact LeO.none _)
   | (with_reducible refine LeO.ite ?_ ?_)
   | (with_reducible refine LeO.bind ?_ (fun _ => ?_))
   | exact spec_l20In.mono _ _ _ _
   | exact LeO.none _
   | refine LeO.ite ?_ ?_
   | refine LeO.bind ?_ (fun _ => ?_)
set_option maxHeartbeats 8000000 in
set_option maxRecDepth 100000 in
theorem spec_DrawInOk.calls (k : Nat) (A0 : Option Addr) (c0 : Nat) (l0 : List Int) (r1 : Bool) (r2 : Bool) (r3 : Int) (r4 : Int) (r5 : List Int) (w : World) (hr0 : Kd.C (Kd.int .u8) w A0 l0.length l0) (hc0 : l0.length ≤ c0) (h : spec_DrawInOk.f k l0 = some (r1, r2, r3, r4, r5)) :
  Calls Try.prog 41 #[.slice A0 l0.length c0] w fun e w' => ∃ v4_ : Value, e = .returned (.agg #[.bool r1, .bool r2, .int .i64 r3, .int .i64 r4, v4_]) ∧ Kd.Q (Kd.int .i64) 3 w' w.heap.size (fun _ => True) v4_ r5 ∧ Below w.heap.size w w' := by
 have hu47 := Try.underlying47
 have HR0 := A_ hr0
 have HC0 := A_ hc0
 clear hr0 hc0
 have HB := A_ (Below.refl w.heap.size w)
 have H : ((spec_l20Open.f l0).bind fun bt370 => ((spec_l20In.f k bt370.1 bt370.2 2).bind fun bt373 => (some (bt373.1, bt373.2.1, bt373.2.2.1, bt373.2.2.2.1, bt373.2.2.2.2.1)))) = some (r1, r2, r3, r4, r5) := h
 clear h
 replace H := Option.bind_eq_some_iff.mp H
 obtain ⟨⟨t370, t371⟩, A20, H⟩ := H
 replace H : ((spec_l20In.f k t370 t371 2).bind fun bt373 => (some (bt373.1, bt373.2.1, bt373.2.2.1, bt373.2.2.2.1, bt373.2.2.2.2.1))) = some (r1, r2, r3, r4, r5) := H
 have A2 := A_ A20
 clear A20
 replace H := Option.bind_eq_some_iff.mp H
 obtain ⟨⟨t373, t374, t375, t376, t377, t380⟩, A30, H⟩ := H
 replace H : (some (t373, t374, t375, t376, t377)) = some (r1, r2, r3, r4, r5) := H
 have A3 := A_ A30
 clear A30
 simp only [Option.some.injEq, Prod.mk.injEq] at H
 obtain ⟨rfl, rfl, rfl, rfl, rfl⟩ := H
 go_enter Try.func41, Try.ntmps41
 go_wp2_with (first | ((with_reducible refine gate_dst (N := 2) rfl ?_); refine box_event ?hg (N := 2) ?hd (cs := #[.bool false, .bool false, .int .i64 0, .int .i64 0, .slice none 0 0]) (t := 47) ?hr ?_; (case hd => rfl); (case hg => rfl); (case hr => first | (go_simp; done) | (go_simp; rfl)); intro gb369 hg w4 hbox hb; have n0_ := A_ (wT_ (by repeat (first | (with_reducible first | exact HB.out | apply wA_ | apply wN_ | apply wD_) | exact HB.out)) hb); have n1_ := A_ (hbox); have n2_ := A_ ((by rw [hg]; exact (wZ_ (by repeat (first | (with_reducible first | exact HB.out | apply wA_ | apply wN_ | apply wD_) | exact HB.out))) : w.heap.size ≤ gb369)); have n3_ := A_ ((by rw [hg]; exact (wZ_ (by repeat (first | (with_reducible first | exact HB.out | apply wA_ | apply wN_ | apply wD_) | exact HB.out))) : w.heap.size ≤ gb369)); clear HB; have HB := n0_; have z := n1_; have GW369 := n2_; have z1 := n3_; clear n0_ n1_ n2_ n3_; clear hb hbox hg) | ((with_reducible refine gate_callee (f := 42) rfl ?_); refine goesL_ (some 4) rfl rfl Try.func42 (by kernel_rfl) rfl #[.slice A0 l0.length c0] rfl (by (try simp only [mT_, mC_, mN_]); first | done | rfl | (simp only [lD_, lT_]; rfl)) ?_; (with_reducible refine (spec_l20Open.calls _ _ l0 t370 t371 w _ ?side1 ?side2 ?side3 A2.out).mono ?_); (case side1 => repeat (first | (with_reducible first | exact HB.out | apply wA_ | apply wN_ | apply wD_ | refine wS_ ?_ z1.out) | exact HB.out)); (case side2 => exact HR0.out); (case side3 => exact HC0.out); rintro e w5 ⟨g372, rfl, hi, hb, hb2⟩; refine ⟨_, rfl, ?_⟩; have n0_ := A_ (bB_ (g := gb369) (o := .cells #[.bool false, .bool false, .int .i64 0, .int .i64 0, .slice none 0 0] 47 (0, 0)) (by (with_reducible repeat (first | refine bN_ ?_ _ | refine bD_ ?_ | refine bA_ ?_ _)); exact z.out) hb2); have n1_ := A_ (hb); have n2_ := A_ (hi); have n3_ := A_ (IsS69.ne_blk hi (bB_ (g := gb369) (o := .cells #[.bool false, .bool false, .int .i64 0, .int .i64 0, .slice none 0 0] 47 (0, 0)) (by (with_reducible repeat (first | refine bN_ ?_ _ | refine bD_ ?_ | refine bA_ ?_ _)); exact z.out) hb2) (by decide)); have n4_ := A_ (Ne.symm (IsS69.ne_blk hi (bB_ (g := gb369) (o := .cells #[.bool false, .bool false, .int .i64 0, .int .i64 0, .slice none 0 0] 47 (0, 0)) (by (with_reducible repeat (first | refine bN_ ?_ _ | refine bD_ ?_ | refine bA_ ?_ _)); exact z.out) hb2) (by decide))); clear z; clear HB; have z := n0_; have HB := n1_; have z0 := n2_; have z2 := n3_; have z3 := n4_; clear n0_ n1_ n2_ n3_ n4_; (try clear hb); (try clear hb2); (try clear hk); (try clear hi)) | ((with_reducible refine gate_callee (f := 58) rfl ?_); refine goesL_ (some 5) rfl rfl Try.func58 (by kernel_rfl) rfl #[.pointer (some ⟨g372, 0, none⟩), .int .i64 2] rfl (by (try simp only [mT_, mC_, mN_]); first | done | rfl | (simp only [lD_, lT_]; rfl)) ?_; (with_reducible refine (spec_l20In.calls k g372 t370 t371 2 t373 t374 t375 t376 t377 t380 w _ ?side1 ?side2 A3.out).mono ?_); (case side1 => repeat (first | (with_reducible first | exact z0.out | apply iA_ | apply iN_ | apply iD_ | apply iS_ | refine iF_ ?_ z2.out _) | exact z0.out)); (case side2 => repeat (first | (with_reducible first | exact HB.out | apply wA_ | apply wN_ | apply wD_ | refine wS_ ?_ (IsS69.ge z0.out) | refine wS_ ?_ z1.out) | exact HB.out)); rintro e w6 ⟨v378, rfl, ho0, hi, hb, hk⟩; refine ⟨_, rfl, ?_⟩; have n0_ := A_ (kB_ hk (g' := gb369) (o := .cells #[.bool false, .bool false, .int .i64 0, .int .i64 0, .slice none 0 0] 47 (0, 0)) (by (with_reducible repeat (first | refine bN_ ?_ _ | refine bD_ ?_ | refine bA_ ?_ _)); exact z.out) z3.out (by simp)); have n1_ := A_ (Kd.Q_lower ho0 (wZ_ (by repeat (first | (with_reducible first | exact HB.out | apply wA_ | apply wN_ | apply wD_ | refine wS_ ?_ (IsS69.ge z0.out) | refine wS_ ?_ z1.out) | exact HB.out)))); have n2_ := A_ (hb); have n3_ := A_ (hi); clear z; clear HB; clear z0; have z := n0_; have z4 := n1_; have HB := n2_; have z0 := n3_; clear n0_ n1_ n2_ n3_; (try clear hb); (try clear hb2); (try clear hk); (try clear hi); (try clear ho0); have hnb7 := z3.out; have hnc7 := z2.out; have hcz8_0 : w6.cell? ⟨gb369, 0, none⟩ = some (.bool false) := (bC_ z.out 0).trans rfl; have hcz8_1 : w6.cell? ⟨gb369, 1, none⟩ = some (.bool false) := (bC_ z.out 1).trans rfl; have hcz8_2 : w6.cell? ⟨gb369, 2, none⟩ = some (.int .i64 0) := (bC_ z.out 2).trans rfl; have hcz8_3 : w6.cell? ⟨gb369, 3, none⟩ = some (.int .i64 0) := (bC_ z.out 3).trans rfl; have hcz8_4 : w6.cell? ⟨gb369, 4, none⟩ = some (.slice none 0 0) := (bC_ z.out 4).trans rfl; have hfz8_0 := bF_ z.out 0; have hfz8_1 := bF_ z.out 1; have hfz8_2 := bF_ z.out 2; have hfz8_3 := bF_ z.out 3; have hfz8_4 := bF_ z.out 4; obtain ⟨Ao9, co9, eo9, _⟩ := Kd.Q_slice z4.out; subst eo9))
 refine bodyPost_ret (results_cell_row rfl _ _ gb369 47 #[.bool t373, .bool t374, .int .i64 t375, .int .i64 t376, .slice Ao9 t377.length co9] (0, 0) _ rfl (by (with_reducible repeat (first | refine bN_ ?_ _ | refine bD_ ?_ | refine bA_ ?_ _)); refine blk_put (cs := #[.bool t373, .bool t374, .int .i64 t375, .int .i64 t376, .slice none 0 0]) ?_ 4 _ rfl; (with_reducible repeat (first | refine bN_ ?_ _ | refine bD_ ?_ | refine bA_ ?_ _)); refine blk_put (cs := #[.bool t373, .bool t374, .int .i64 t375, .int .i64 0, .slice none 0 0]) ?_ 3 _ rfl; (with_reducible repeat (first | refine bN_ ?_ _ | refine bD_ ?_ | refine bA_ ?_ _)); refine blk_put (cs := #[.bool t373, .bool t374, .int .i64 0, .int .i64 0, .slice none 0 0]) ?_ 2 _ rfl; (with_reducible repeat (first | refine bN_ ?_ _ | refine bD_ ?_ | refine bA_ ?_ _)); refine blk_put (cs := #[.bool t373, .bool false, .int .i64 0, .int .i64 0, .slice none 0 0]) ?_ 1 _ rfl; (with_reducible repeat (first | refine bN_ ?_ _ | refine bD_ ?_ | refine bA_ ?_ _)); refine blk_put (cs := #[.bool false, .bool false, .int .i64 0, .int .i64 0, .slice none 0 0]) ?_ 0 _ rfl; (with_reducible repeat (first | refine bN_ ?_ _ | refine bD_ ?_ | refine bA_ ?_ _)); exact z.out) Try.underlying47 rfl (by kernel_rfl)) rfl ?_
 exact ⟨_, by first | rfl | (simp [errW_none, errW_some] <;> rfl) | (simp [*, errW_none, errW_some] <;> rfl), by (with_reducible repeat (first | apply Kd.Q_alloc | apply Kd.Q_drewN | apply Kd.Q_drew)); exact Kd.Q_mono (Kd.Q_far (p := ⟨gb369, 4, none⟩) (Kd.Q_far (p := ⟨gb369, 3, none⟩) (Kd.Q_far (p := ⟨gb369, 2, none⟩) (Kd.Q_far (p := ⟨gb369, 1, none⟩) (Kd.Q_far (p := ⟨gb369, 0, none⟩) (Kd.Q_types z4.out z.out (by decide)) (fun _ hk => hk.2) (.bool t373)) (fun _ hk => hk.2) (.bool t374)) (fun _ hk => hk.2) (.int .i64 t375)) (fun _ hk => hk.2) (.int .i64 t376)) (fun _ hk => hk.2) (.slice Ao9 t377.length co9)) (fun _ hk => trivial), by repeat (first | (with_reducible first | exact HB.out | apply wA_ | apply wN_ | apply wD_ | refine wS_ ?_ (IsS69.ge z0.out) | refine wS_ ?_ z1.out) | exact HB.out)⟩
end

end Go.Proofs.Ytdpgomcdacmhkaa.QFnInOk
