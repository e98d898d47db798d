/- Walks of spec_CodWord, spec_l20Inst: each returns what its Lean function says, for all arguments that read as stated. -/
import Derived.Test.YtdpgomcdacmhkaaQFnInOkx2
namespace Go.Proofs.Ytdpgomcdacmhkaa.QFnInOk
open Go.RowKit Go.Proofs.YtdpgomcdacmhkaaW.PrintWords Go.Proofs.YtdpgomcdacmhkaaW.PrintLast Go.Proofs.YtdpgomcdacmhkaaW.PrintMore
attribute [local go_sem] max2_int min2_int max_two min_two max_three min_three max_four min_four   -- for this text's walks alone
set_option linter.unusedVariables false
set_option linter.unusedSimpArgs false

/-! ### spec_CodWord: function 60 -/
section
set_option hygiene false in
local macro "ya_" : tactic => `(tactic| (first | ((with_reducible refine gate_dst (N := 1) rfl ?_); refine box_event ?hg (N := 1) ?hd (cs := #[.int .i64 a0_0, .int .i64 a0_1, .int .i64 a0_2, .int .i64 a0_3, .int .i64 a0_4, .int .i64 a0_5]) (t := 75) ?hr ?_; (case hd => rfl); (case hg => rfl); (case hr => first | (go_simp; done) | (go_simp; rfl)); intro gb155 hg w36 hbox hb; have n0_ := A_ (wT_ (by repeat (first | (with_reducible first | exact HB.out | apply wA_ | apply wN_ | apply wD_) | exact HB.out)) hb); have n1_ := A_ (hbox); have n2_ := A_ ((by rw [hg]; exact (wZ_ (by repeat (first | (with_reducible first | exact HB.out | apply wA_ | apply wN_ | apply wD_) | exact HB.out))) : w.heap.size ≤ gb155)); have n3_ := A_ ((by rw [hg]; exact (wZ_ (by repeat (first | (with_reducible first | exact HB.out | apply wA_ | apply wN_ | apply wD_) | exact HB.out))) : w.heap.size ≤ gb155)); clear HB; have HB := n0_; have z := n1_; have z8 := n2_; have z1 := n3_; clear n0_ n1_ n2_ n3_; clear hb hbox hg; have hcz37_0 : w36.cell? ⟨gb155, 0, none⟩ = some (.int .i64 a0_0) := (bC_ z.out 0).trans rfl; have hcz37_1 : w36.cell? ⟨gb155, 1, none⟩ = some (.int .i64 a0_1) := (bC_ z.out 1).trans rfl; have hcz37_2 : w36.cell? ⟨gb155, 2, none⟩ = some (.int .i64 a0_2) := (bC_ z.out 2).trans rfl; have hcz37_3 : w36.cell? ⟨gb155, 3, none⟩ = some (.int .i64 a0_3) := (bC_ z.out 3).trans rfl; have hcz37_4 : w36.cell? ⟨gb155, 4, none⟩ = some (.int .i64 a0_4) := (bC_ z.out 4).trans rfl; have hcz37_5 : w36.cell? ⟨gb155, 5, none⟩ = some (.int .i64 a0_5) := (bC_ z.out 5).trans rfl; have hfz37_0 := bF_ z.out 0; have hfz37_1 := bF_ z.out 1; have hfz37_2 := bF_ z.out 2; have hfz37_3 := bF_ z.out 3; have hfz37_4 := bF_ z.out 4; have hfz37_5 := bF_ z.out 5) | (go_at_call 70; (with_reducible refine (spec_CodOk.calls k a0_0 a0_1 a0_2 a0_3 a0_4 a0_5 false _ A2.out).mono ?_); rintro e w38 ⟨rfl, hb⟩; have n0_ := A_ (bB_ (g := gb155) (o := .cells #[.int .i64 a0_0, .int .i64 a0_1, .int .i64 a0_2, .int .i64 a0_3, .int .i64 a0_4, .int .i64 a0_5] 75 (0, 0)) (by (with_reducible repeat (first | refine bN_ ?_ _ | refine bD_ ?_ | refine bA_ ?_ _)); exact z.out) hb); have n1_ := A_ (wT_ (by repeat (first | (with_reducible first | exact HB.out | apply wA_ | apply wN_ | apply wD_ | refine wS_ ?_ z1.out) | exact HB.out)) hb); clear z; clear HB; have z := n0_; have HB := n1_; clear n0_ n1_; (try clear hb); (try clear hb2); (try clear hk); (try clear hi))))
set_option hygiene false in
local macro "yaa_" : tactic => `(tactic| (first | (with_reducible first | exact HB.out | apply wA_ | apply wN_ | apply wD_ | refine wS_ ?_ z1.out) | exact HB.out))
set_option hygiene false in
local macro "yab_" : tactic => `(tactic| (with_reducible repeat (first | refine bN_ ?_ _ | refine bD_ ?_ | refine bA_ ?_ _)))
set_option hygiene false in
local macro "yac_" : term => `((by repeat (first | (with_reducible first | exact HB.out | apply wA_ | apply wN_ | apply wD_) | exact HB.out)))
set_option hygiene false in
local macro "yad_" : tactic => `(tactic| (case hp => exact (Reps.one (show Kd.M (Kd.int .i64) _ _ _ a0_1 [.int .i64 a0_1] from rfl) (Reps.one (show Kd.M (Kd.int .i64) _ _ _ a0_2 [.int .i64 a0_2] from rfl) (Reps.one (show Kd.M (Kd.int .i64) _ _ _ a0_3 [.int .i64 a0_3] from rfl) (Reps.one (show Kd.M (Kd.int .i64) _ _ _ a0_4 [.int .i64 a0_4] from rfl) (Reps.none _ _)))))))
set_option hygiene false in
local macro "yae_" : tactic => `(tactic| (case hp => exact (Reps.one (show Kd.M Kd.bool _ _ _ t157 [.bool t157] from rfl) (Reps.one (show Kd.M Kd.bool _ _ _ t158 [.bool t158] from rfl) (Reps.one (show Kd.M Kd.bool _ _ _ t159 [.bool t159] from rfl) (Reps.one (show Kd.M Kd.bool _ _ _ t160 [.bool t160] from rfl) (Reps.none _ _)))))))
set_option hygiene false in
local macro "yaf_" : tactic => `(tactic| (with_reducible repeat (first | apply rA_ | apply rN_ | apply rD_)))
section
open Go.Proofs.YtdpgomcdacmhkaaW.PrintWords renaming blk_drewN → bN_, blk_alloc → bA_, blk_drew → bD_, blk_below → bB_, blk_frozen → bF_, blk_cell → bC_, below_set → wS_, pw_below_drewN → wN_, below_alloc → wA_, below_drew1 → wD_, below_step → wT_, below_size → wZ_
open Go.Proofs.YtdpgomcdacmhkaaW.PrintWords.Aside0 renaming mk → A_
open Go.Proofs.YtdpgomcdacmhkaaW.PrintWords.Kd renaming R_drewN → rN_, R_drew → rD_, R_alloc → rA_, R_below → rB_
def spec_CodWord.l0 : Nat → Int → Int → Int → List Int → List Bool → Int → Int → Int → Int → Int → Int → Int → Option (Int)
 | 0, _, _, _, _, _, _, _, _, _, _, _, _ => none
 | k + 1, x7, x8, x9, x10, x11, x12, zc, zd, ze, zf, zg, za => if x12 < 4 then (if 0 ≤ x12 then (if x12 < (x11.length : Int) then (if rdOf false x11 x12 = true then (if x12 < (x10.length : Int) then (spec_CodWord.l0 k x7 (wrap64 ((wrap64 (x8 * 8)) + (rd x10 x12))) (wrap64 (x9 - 3)) x10 x11 (wrap64 (x12 + 1)) zc zd ze zf zg za) else (none)) else (spec_CodWord.l0 k x7 x8 x9 x10 x11 (wrap64 (x12 + 1)) zc zd ze zf zg za)) else (none)) else (none)) else (if x7 > 0 then (if 0 ≤ x7 then (if (shl .i64 1 x7) = 0 then (none) else (if 0 ≤ (wrap64 (x9 - x7)) then (some (shl .i64 (wrap64 ((shl .i64 x8 x7) + (Int.tmod (wrap64 (za + (shl .i64 1 x7))) (shl .i64 1 x7)))) (wrap64 (x9 - x7)))) else (none))) else (none)) else (if 0 ≤ x9 then (some (shl .i64 x8 x9)) else (none)))
def spec_CodWord.f (k : Nat) (a0_0 : Int) (a0_1 : Int) (a0_2 : Int) (a0_3 : Int) (a0_4 : Int) (a0_5 : Int) : Option (Int) := (spec_CodOk.f k a0_0 a0_1 a0_2 a0_3 a0_4 a0_5).bind fun t156 => (if t156 = true then ((spec_l2Has.f k a0_0).bind fun bt157 => (spec_CodWord.l0 k bt157.2.2.2.2 a0_0 12 (([a0_1, a0_2, a0_3, a0_4] : List Int)) (([bt157.1, bt157.2.1, bt157.2.2.1, bt157.2.2.2.1] : List Bool)) 0 a0_0 a0_1 a0_2 a0_3 a0_4 a0_5)) else (some (-1)))
theorem spec_CodWord.mono_l : ∀ k, (∀ y0 y1 y2 y3 y4 y5 y6 y7 y8 y9 y10 y11, LeO (spec_CodWord.l0 k y0 y1 y2 y3 y4 y5 y6 y7 y8 y9 y10 y11) (spec_CodWord.l0 (k + 1) y0 y1 y2 y3 y4 y5 y6 y7 y8 y9 y10 y11))
 | 0 => fun _ _ _ _ _ _ _ _ _ _ _ _ r h => by simp [spec_CodWord.l0] at h
 | k + 1 => by
  have ih0 := spec_CodWord.mono_l k
  ·intro y0 y1 y2 y3 y4 y5 y6 y7 y8 y9 y10 y11
   unfold spec_CodWord.l0
   repeat' first
   | (with_reducible exact ih0 _ _ _ _ _ _ _ _ _ _ _ _)
   | (with_reducible exact spec_CodOk.mono _ _ _ _ _ _ _)
   | (with_reducible exact spec_l2Has.mono _ _)
   | (with_reducible exact LeO.refl _)
   | (with_reducible exact LeO.none _)
   | (with_reducible refine LeO.ite ?_ ?_)
   | (with_reducible refine LeO.bind ?_ (fun _ => ?_))
   | exact ih0 _ _ _ _ _ _ _ _ _ _ _ _
   | exact spec_CodOk.mono _ _ _ _ _ _ _
   | exact spec_l2Has.mono _ _
   | exact LeO.none _
   | refine LeO.ite ?_ ?_
   | refine LeO.bind ?_ (fun _ => ?_)
theorem spec_CodWord.mono : ∀ a0 a1 a2 a3 a4 a5 k, LeO (spec_CodWord.f k a0 a1 a2 a3 a4 a5) (spec_CodWord.f (k + 1) a0 a1 a2 a3 a4 a5) := by
 intro a0 a1 a2 a3 a4 a5 k
 have ih0 := spec_CodWord.mono_l k
 unfold spec_CodWord.f
 repeat' first
   | (with_reducible exact ih0 _ _ _ _ _ _ _ _ _ _ _ _)
   | (with_reducible exact spec_CodOk.mono _ _ _ _ _ _ _)
   | (with_reducible exact spec_l2Has.mono _ _)
   | (with_reducible exact LeO.refl _)
   | (with_reducible exact LeO.none _)
   | (with_reducible refine LeO.ite ?_ ?_)
   | (with_reducible refine LeO.bind ?_ (fun _ => ?_))
   | exact ih0 _ _ _ _ _ _ _ _ _ _ _ _
   | exact spec_CodOk.mono _ _ _ _ _ _ _
   | exact spec_l2Has.mono _ _
   | exact LeO.none _
   | refine LeO.ite ?_ ?_
   | refine LeO.bind ?_ (fun _ => ?_)
set_option maxHeartbeats 8000000 in
set_option maxRecDepth 100000 in
theorem spec_CodWord.calls (k : Nat) (a0_0 : Int) (a0_1 : Int) (a0_2 : Int) (a0_3 : Int) (a0_4 : Int) (a0_5 : Int) (r : Int) (w : World) (h : spec_CodWord.f k a0_0 a0_1 a0_2 a0_3 a0_4 a0_5 = some r) :
  Calls Try.prog 60 #[.agg #[.int .i64 a0_0, .int .i64 a0_1, .int .i64 a0_2, .int .i64 a0_3, .int .i64 a0_4, .int .i64 a0_5]] w fun e w' => e = .returned (.int .i64 r) ∧ Below w.heap.size w w' := by
 have hu75 := Try.underlying75
 have HB := A_ (Below.refl w.heap.size w)
 have H : ((spec_CodOk.f k a0_0 a0_1 a0_2 a0_3 a0_4 a0_5).bind fun t156 => (if t156 = true then ((spec_l2Has.f k a0_0).bind fun bt157 => (spec_CodWord.l0 k bt157.2.2.2.2 a0_0 12 (([a0_1, a0_2, a0_3, a0_4] : List Int)) (([bt157.1, bt157.2.1, bt157.2.2.1, bt157.2.2.2.1] : List Bool)) 0 a0_0 a0_1 a0_2 a0_3 a0_4 a0_5)) else (some (-1)))) = some r := h
 clear h
 replace H := Option.bind_eq_some_iff.mp H
 obtain ⟨t156, A20, H⟩ := H
 replace H : (if t156 = true then ((spec_l2Has.f k a0_0).bind fun bt157 => (spec_CodWord.l0 k bt157.2.2.2.2 a0_0 12 (([a0_1, a0_2, a0_3, a0_4] : List Int)) (([bt157.1, bt157.2.1, bt157.2.2.1, bt157.2.2.2.1] : List Bool)) 0 a0_0 a0_1 a0_2 a0_3 a0_4 a0_5)) else (some (-1))) = some r := H
 have A2 := A_ A20
 clear A20
 by_cases c3 : t156 = true
 ·subst c3
  have H1 : ((spec_l2Has.f k a0_0).bind fun bt157 => (spec_CodWord.l0 k bt157.2.2.2.2 a0_0 12 (([a0_1, a0_2, a0_3, a0_4] : List Int)) (([bt157.1, bt157.2.1, bt157.2.2.1, bt157.2.2.2.1] : List Bool)) 0 a0_0 a0_1 a0_2 a0_3 a0_4 a0_5)) = some r := by rw [if_pos rfl] at H; exact H
  clear H
  have H := H1
  clear H1
  replace H := Option.bind_eq_some_iff.mp H
  obtain ⟨⟨t157, t158, t159, t160, t161⟩, A40, H⟩ := H
  replace H : (spec_CodWord.l0 k t161 a0_0 12 (([a0_1, a0_2, a0_3, a0_4] : List Int)) (([t157, t158, t159, t160] : List Bool)) 0 a0_0 a0_1 a0_2 a0_3 a0_4 a0_5) = some r := H
  have A4 := A_ A40
  clear A40
  obtain ⟨y162, hy162⟩ : ∃ y_ : List Int, y_ = (([a0_1, a0_2, a0_3, a0_4] : List Int)) := ⟨_, rfl⟩
  replace H : (spec_CodWord.l0 k t161 a0_0 12 y162 (([t157, t158, t159, t160] : List Bool)) 0 a0_0 a0_1 a0_2 a0_3 a0_4 a0_5) = some r := by first | (rw [hy162]; with_reducible exact H) | (have H2_ := (Option.bind_some _ _).symm.trans H; rw [hy162]; with_reducible exact H2_) | (have H2_ := (Option.bind_some _ _).symm.trans H; with_reducible exact H2_) | with_reducible exact H | (rw [hy162]; exact H) | exact H
  have z5 := A_ hy162
  clear hy162
  obtain ⟨y165, hy165⟩ : ∃ y_ : List Bool, y_ = (([t157, t158, t159, t160] : List Bool)) := ⟨_, rfl⟩
  replace H : (spec_CodWord.l0 k t161 a0_0 12 y162 y165 0 a0_0 a0_1 a0_2 a0_3 a0_4 a0_5) = some r := by first | (rw [hy165]; with_reducible exact H) | (have H2_ := (Option.bind_some _ _).symm.trans H; rw [hy165]; with_reducible exact H2_) | (have H2_ := (Option.bind_some _ _).symm.trans H; with_reducible exact H2_) | with_reducible exact H | (rw [hy165]; exact H) | exact H
  have z6 := A_ hy165
  clear hy165
  have H' := A_ H
  clear H
  go_enter Try.func60, Try.ntmps60
  go_wp2_with (first | ((with_reducible refine gate_dst (N := 1) rfl ?_); refine box_event ?hg (N := 1) ?hd (cs := #[.int .i64 a0_0, .int .i64 a0_1, .int .i64 a0_2, .int .i64 a0_3, .int .i64 a0_4, .int .i64 a0_5]) (t := 75) ?hr ?_; (case hd => rfl); (case hg => rfl); (case hr => first | (go_simp; done) | (go_simp; rfl)); intro gb155 hg w5 hbox hb; have n0_ := A_ (wT_ (yac_) hb); have n1_ := A_ (hbox); have n2_ := A_ ((by rw [hg]; exact (wZ_ (yac_)) : w.heap.size ≤ gb155)); have n3_ := A_ ((by rw [hg]; exact (wZ_ (yac_)) : w.heap.size ≤ gb155)); clear HB; have HB := n0_; have z := n1_; have z8 := n2_; have z1 := n3_; clear n0_ n1_ n2_ n3_; clear hb hbox hg; have hcz6_0 : w5.cell? ⟨gb155, 0, none⟩ = some (.int .i64 a0_0) := (bC_ z.out 0).trans rfl; have hcz6_1 : w5.cell? ⟨gb155, 1, none⟩ = some (.int .i64 a0_1) := (bC_ z.out 1).trans rfl; have hcz6_2 : w5.cell? ⟨gb155, 2, none⟩ = some (.int .i64 a0_2) := (bC_ z.out 2).trans rfl; have hcz6_3 : w5.cell? ⟨gb155, 3, none⟩ = some (.int .i64 a0_3) := (bC_ z.out 3).trans rfl; have hcz6_4 : w5.cell? ⟨gb155, 4, none⟩ = some (.int .i64 a0_4) := (bC_ z.out 4).trans rfl; have hcz6_5 : w5.cell? ⟨gb155, 5, none⟩ = some (.int .i64 a0_5) := (bC_ z.out 5).trans rfl; have hfz6_0 := bF_ z.out 0; have hfz6_1 := bF_ z.out 1; have hfz6_2 := bF_ z.out 2; have hfz6_3 := bF_ z.out 3; have hfz6_4 := bF_ z.out 4; have hfz6_5 := bF_ z.out 5) | (go_at_call 70; (with_reducible refine (spec_CodOk.calls k a0_0 a0_1 a0_2 a0_3 a0_4 a0_5 true _ A2.out).mono ?_); rintro e w7 ⟨rfl, hb⟩; have n0_ := A_ (bB_ (g := gb155) (o := .cells #[.int .i64 a0_0, .int .i64 a0_1, .int .i64 a0_2, .int .i64 a0_3, .int .i64 a0_4, .int .i64 a0_5] 75 (0, 0)) (by (yab_); exact z.out) hb); have n1_ := A_ (wT_ (by repeat (yaa_)) hb); clear z; clear HB; have z := n0_; have HB := n1_; clear n0_ n1_; (try clear hb); (try clear hb2); (try clear hk); (try clear hi); have hcz8_0 : w7.cell? ⟨gb155, 0, none⟩ = some (.int .i64 a0_0) := (bC_ z.out 0).trans rfl; have hcz8_1 : w7.cell? ⟨gb155, 1, none⟩ = some (.int .i64 a0_1) := (bC_ z.out 1).trans rfl; have hcz8_2 : w7.cell? ⟨gb155, 2, none⟩ = some (.int .i64 a0_2) := (bC_ z.out 2).trans rfl; have hcz8_3 : w7.cell? ⟨gb155, 3, none⟩ = some (.int .i64 a0_3) := (bC_ z.out 3).trans rfl; have hcz8_4 : w7.cell? ⟨gb155, 4, none⟩ = some (.int .i64 a0_4) := (bC_ z.out 4).trans rfl; have hcz8_5 : w7.cell? ⟨gb155, 5, none⟩ = some (.int .i64 a0_5) := (bC_ z.out 5).trans rfl; have hfz8_0 := bF_ z.out 0; have hfz8_1 := bF_ z.out 1; have hfz8_2 := bF_ z.out 2; have hfz8_3 := bF_ z.out 3; have hfz8_4 := bF_ z.out 4; have hfz8_5 := bF_ z.out 5) | (go_at_call 71; (with_reducible refine (spec_l2Has.calls k a0_0 t157 t158 t159 t160 t161 _ A4.out).mono ?_); rintro e w' ⟨rfl, ⟨nd, rfl⟩⟩; (try first | exact ⟨rfl, _, World.drewN_drewN _ _ _⟩ | exact ⟨rfl, _, Eq.trans (World.drewN_drewN _ _ _) (congrArg (World.drewN _) (Nat.add_assoc _ _ _))⟩)) | ((with_reducible refine gate_dst (N := 35) rfl ?_); refine Kd.R_lit (Kd.int .i64) _ 3 ?hg (N := 35) ?hd (xs := ([a0_1, a0_2, a0_3, a0_4] : List Int)) (inner := [.int .i64 a0_1, .int .i64 a0_2, .int .i64 a0_3, .int .i64 a0_4]) (ok := fun _ => True) (okp := fun _ => True) ?hr ?hp (fun _ hk => hk) trivial (Below.refl _ _) (Nat.le_refl _) (by simp) ?_; (case hd => rfl); (case hg => rfl); (case hr => first | (go_simp; done) | (go_simp; rfl)); (yad_); intro v163 w9 ho10 hb hg_ hnew_; clear hg_ hnew_; (first | rw [← z5.out] at ho10 | (simp only [Int.reduceToNat] at ho10; rw [← z5.out] at ho10)); have n0_ := A_ (Kd.R_lower ho10 (wZ_ (by repeat (yaa_)))); have n1_ := A_ (bB_ (g := gb155) (o := .cells #[.int .i64 a0_0, .int .i64 a0_1, .int .i64 a0_2, .int .i64 a0_3, .int .i64 a0_4, .int .i64 a0_5] 75 (0, 0)) (by (yab_); exact z.out) hb); have n2_ := A_ (wT_ (by repeat (yaa_)) hb); clear z; clear HB; have z4 := n0_; have z := n1_; have HB := n2_; clear n0_ n1_ n2_; clear hb ho10) | ((with_reducible refine gate_dst (N := 40) rfl ?_); refine Kd.R_lit Kd.bool _ 4 ?hg (N := 40) ?hd (xs := ([t157, t158, t159, t160] : List Bool)) (inner := [.bool t157, .bool t158, .bool t159, .bool t160]) (ok := fun _ => True) (okp := fun _ => True) ?hr ?hp (fun _ hk => hk) trivial (Below.refl _ _) (Nat.le_refl _) (by simp) ?_; (case hd => rfl); (case hg => rfl); (case hr => first | (go_simp; done) | (go_simp; rfl)); (yae_); intro v166 w11 ho12 hb hg_ hnew_; clear hg_ hnew_; (first | rw [← z6.out] at ho12 | (simp only [Int.reduceToNat] at ho12; rw [← z6.out] at ho12)); have n0_ := A_ (rB_ (by (yaf_); exact z4.out) hb); have n1_ := A_ (Kd.R_lower ho12 (wZ_ (by repeat (yaa_)))); have n2_ := A_ (bB_ (g := gb155) (o := .cells #[.int .i64 a0_0, .int .i64 a0_1, .int .i64 a0_2, .int .i64 a0_3, .int .i64 a0_4, .int .i64 a0_5] 75 (0, 0)) (by (yab_); exact z.out) hb); have n3_ := A_ (wT_ (by repeat (yaa_)) hb); clear z4; clear z; clear HB; have z4 := n0_; have zb := n1_; have z := n2_; have HB := n3_; clear n0_ n1_ n2_ n3_; clear hb ho12))
  repeat (go_quiet (first | ((with_reducible refine gate_dst (N := 1) rfl ?_); refine box_event ?hg (N := 1) ?hd (cs := #[.int .i64 a0_0, .int .i64 a0_1, .int .i64 a0_2, .int .i64 a0_3, .int .i64 a0_4, .int .i64 a0_5]) (t := 75) ?hr ?_; (case hd => rfl); (case hg => rfl); (case hr => first | (go_simp; done) | (go_simp; rfl)); intro gb155 hg w5 hbox hb; have n0_ := A_ (wT_ (yac_) hb); have n1_ := A_ (hbox); have n2_ := A_ ((by rw [hg]; exact (wZ_ (yac_)) : w.heap.size ≤ gb155)); have n3_ := A_ ((by rw [hg]; exact (wZ_ (yac_)) : w.heap.size ≤ gb155)); clear HB; have HB := n0_; have z := n1_; have z8 := n2_; have z1 := n3_; clear n0_ n1_ n2_ n3_; clear hb hbox hg; have hcz6_0 : w5.cell? ⟨gb155, 0, none⟩ = some (.int .i64 a0_0) := (bC_ z.out 0).trans rfl; have hcz6_1 : w5.cell? ⟨gb155, 1, none⟩ = some (.int .i64 a0_1) := (bC_ z.out 1).trans rfl; have hcz6_2 : w5.cell? ⟨gb155, 2, none⟩ = some (.int .i64 a0_2) := (bC_ z.out 2).trans rfl; have hcz6_3 : w5.cell? ⟨gb155, 3, none⟩ = some (.int .i64 a0_3) := (bC_ z.out 3).trans rfl; have hcz6_4 : w5.cell? ⟨gb155, 4, none⟩ = some (.int .i64 a0_4) := (bC_ z.out 4).trans rfl; have hcz6_5 : w5.cell? ⟨gb155, 5, none⟩ = some (.int .i64 a0_5) := (bC_ z.out 5).trans rfl; have hfz6_0 := bF_ z.out 0; have hfz6_1 := bF_ z.out 1; have hfz6_2 := bF_ z.out 2; have hfz6_3 := bF_ z.out 3; have hfz6_4 := bF_ z.out 4; have hfz6_5 := bF_ z.out 5) | (go_at_call 70; (with_reducible refine (spec_CodOk.calls k a0_0 a0_1 a0_2 a0_3 a0_4 a0_5 true _ A2.out).mono ?_); rintro e w7 ⟨rfl, hb⟩; have n0_ := A_ (bB_ (g := gb155) (o := .cells #[.int .i64 a0_0, .int .i64 a0_1, .int .i64 a0_2, .int .i64 a0_3, .int .i64 a0_4, .int .i64 a0_5] 75 (0, 0)) (by (yab_); exact z.out) hb); have n1_ := A_ (wT_ (by repeat (yaa_)) hb); clear z; clear HB; have z := n0_; have HB := n1_; clear n0_ n1_; (try clear hb); (try clear hb2); (try clear hk); (try clear hi); have hcz8_0 : w7.cell? ⟨gb155, 0, none⟩ = some (.int .i64 a0_0) := (bC_ z.out 0).trans rfl; have hcz8_1 : w7.cell? ⟨gb155, 1, none⟩ = some (.int .i64 a0_1) := (bC_ z.out 1).trans rfl; have hcz8_2 : w7.cell? ⟨gb155, 2, none⟩ = some (.int .i64 a0_2) := (bC_ z.out 2).trans rfl; have hcz8_3 : w7.cell? ⟨gb155, 3, none⟩ = some (.int .i64 a0_3) := (bC_ z.out 3).trans rfl; have hcz8_4 : w7.cell? ⟨gb155, 4, none⟩ = some (.int .i64 a0_4) := (bC_ z.out 4).trans rfl; have hcz8_5 : w7.cell? ⟨gb155, 5, none⟩ = some (.int .i64 a0_5) := (bC_ z.out 5).trans rfl; have hfz8_0 := bF_ z.out 0; have hfz8_1 := bF_ z.out 1; have hfz8_2 := bF_ z.out 2; have hfz8_3 := bF_ z.out 3; have hfz8_4 := bF_ z.out 4; have hfz8_5 := bF_ z.out 5) | (go_at_call 71; (with_reducible refine (spec_l2Has.calls k a0_0 t157 t158 t159 t160 t161 _ A4.out).mono ?_); rintro e w' ⟨rfl, ⟨nd, rfl⟩⟩; (try first | exact ⟨rfl, _, World.drewN_drewN _ _ _⟩ | exact ⟨rfl, _, Eq.trans (World.drewN_drewN _ _ _) (congrArg (World.drewN _) (Nat.add_assoc _ _ _))⟩)) | ((with_reducible refine gate_dst (N := 35) rfl ?_); refine Kd.R_lit (Kd.int .i64) _ 3 ?hg (N := 35) ?hd (xs := ([a0_1, a0_2, a0_3, a0_4] : List Int)) (inner := [.int .i64 a0_1, .int .i64 a0_2, .int .i64 a0_3, .int .i64 a0_4]) (ok := fun _ => True) (okp := fun _ => True) ?hr ?hp (fun _ hk => hk) trivial (Below.refl _ _) (Nat.le_refl _) (by simp) ?_; (case hd => rfl); (case hg => rfl); (case hr => first | (go_simp; done) | (go_simp; rfl)); (yad_); intro v163 w9 ho10 hb hg_ hnew_; clear hg_ hnew_; (first | rw [← z5.out] at ho10 | (simp only [Int.reduceToNat] at ho10; rw [← z5.out] at ho10)); have n0_ := A_ (Kd.R_lower ho10 (wZ_ (by repeat (yaa_)))); have n1_ := A_ (bB_ (g := gb155) (o := .cells #[.int .i64 a0_0, .int .i64 a0_1, .int .i64 a0_2, .int .i64 a0_3, .int .i64 a0_4, .int .i64 a0_5] 75 (0, 0)) (by (yab_); exact z.out) hb); have n2_ := A_ (wT_ (by repeat (yaa_)) hb); clear z; clear HB; have z4 := n0_; have z := n1_; have HB := n2_; clear n0_ n1_ n2_; clear hb ho10) | ((with_reducible refine gate_dst (N := 40) rfl ?_); refine Kd.R_lit Kd.bool _ 4 ?hg (N := 40) ?hd (xs := ([t157, t158, t159, t160] : List Bool)) (inner := [.bool t157, .bool t158, .bool t159, .bool t160]) (ok := fun _ => True) (okp := fun _ => True) ?hr ?hp (fun _ hk => hk) trivial (Below.refl _ _) (Nat.le_refl _) (by simp) ?_; (case hd => rfl); (case hg => rfl); (case hr => first | (go_simp; done) | (go_simp; rfl)); (yae_); intro v166 w11 ho12 hb hg_ hnew_; clear hg_ hnew_; (first | rw [← z6.out] at ho12 | (simp only [Int.reduceToNat] at ho12; rw [← z6.out] at ho12)); have n0_ := A_ (rB_ (by (yaf_); exact z4.out) hb); have n1_ := A_ (Kd.R_lower ho12 (wZ_ (by repeat (yaa_)))); have n2_ := A_ (bB_ (g := gb155) (o := .cells #[.int .i64 a0_0, .int .i64 a0_1, .int .i64 a0_2, .int .i64 a0_3, .int .i64 a0_4, .int .i64 a0_5] 75 (0, 0)) (by (yab_); exact z.out) hb); have n3_ := A_ (wT_ (by repeat (yaa_)) hb); clear z4; clear z; clear HB; have z4 := n0_; have zb := n1_; have z := n2_; have HB := n3_; clear n0_ n1_ n2_ n3_; clear hb ho12)); try go_wp2_with (first | ((with_reducible refine gate_dst (N := 1) rfl ?_); refine box_event ?hg (N := 1) ?hd (cs := #[.int .i64 a0_0, .int .i64 a0_1, .int .i64 a0_2, .int .i64 a0_3, .int .i64 a0_4, .int .i64 a0_5]) (t := 75) ?hr ?_; (case hd => rfl); (case hg => rfl); (case hr => first | (go_simp; done) | (go_simp; rfl)); intro gb155 hg w5 hbox hb; have n0_ := A_ (wT_ (yac_) hb); have n1_ := A_ (hbox); have n2_ := A_ ((by rw [hg]; exact (wZ_ (yac_)) : w.heap.size ≤ gb155)); have n3_ := A_ ((by rw [hg]; exact (wZ_ (yac_)) : w.heap.size ≤ gb155)); clear HB; have HB := n0_; have z := n1_; have z8 := n2_; have z1 := n3_; clear n0_ n1_ n2_ n3_; clear hb hbox hg; have hcz6_0 : w5.cell? ⟨gb155, 0, none⟩ = some (.int .i64 a0_0) := (bC_ z.out 0).trans rfl; have hcz6_1 : w5.cell? ⟨gb155, 1, none⟩ = some (.int .i64 a0_1) := (bC_ z.out 1).trans rfl; have hcz6_2 : w5.cell? ⟨gb155, 2, none⟩ = some (.int .i64 a0_2) := (bC_ z.out 2).trans rfl; have hcz6_3 : w5.cell? ⟨gb155, 3, none⟩ = some (.int .i64 a0_3) := (bC_ z.out 3).trans rfl; have hcz6_4 : w5.cell? ⟨gb155, 4, none⟩ = some (.int .i64 a0_4) := (bC_ z.out 4).trans rfl; have hcz6_5 : w5.cell? ⟨gb155, 5, none⟩ = some (.int .i64 a0_5) := (bC_ z.out 5).trans rfl; have hfz6_0 := bF_ z.out 0; have hfz6_1 := bF_ z.out 1; have hfz6_2 := bF_ z.out 2; have hfz6_3 := bF_ z.out 3; have hfz6_4 := bF_ z.out 4; have hfz6_5 := bF_ z.out 5) | (go_at_call 70; (with_reducible refine (spec_CodOk.calls k a0_0 a0_1 a0_2 a0_3 a0_4 a0_5 true _ A2.out).mono ?_); rintro e w7 ⟨rfl, hb⟩; have n0_ := A_ (bB_ (g := gb155) (o := .cells #[.int .i64 a0_0, .int .i64 a0_1, .int .i64 a0_2, .int .i64 a0_3, .int .i64 a0_4, .int .i64 a0_5] 75 (0, 0)) (by (yab_); exact z.out) hb); have n1_ := A_ (wT_ (by repeat (yaa_)) hb); clear z; clear HB; have z := n0_; have HB := n1_; clear n0_ n1_; (try clear hb); (try clear hb2); (try clear hk); (try clear hi); have hcz8_0 : w7.cell? ⟨gb155, 0, none⟩ = some (.int .i64 a0_0) := (bC_ z.out 0).trans rfl; have hcz8_1 : w7.cell? ⟨gb155, 1, none⟩ = some (.int .i64 a0_1) := (bC_ z.out 1).trans rfl; have hcz8_2 : w7.cell? ⟨gb155, 2, none⟩ = some (.int .i64 a0_2) := (bC_ z.out 2).trans rfl; have hcz8_3 : w7.cell? ⟨gb155, 3, none⟩ = some (.int .i64 a0_3) := (bC_ z.out 3).trans rfl; have hcz8_4 : w7.cell? ⟨gb155, 4, none⟩ = some (.int .i64 a0_4) := (bC_ z.out 4).trans rfl; have hcz8_5 : w7.cell? ⟨gb155, 5, none⟩ = some (.int .i64 a0_5) := (bC_ z.out 5).trans rfl; have hfz8_0 := bF_ z.out 0; have hfz8_1 := bF_ z.out 1; have hfz8_2 := bF_ z.out 2; have hfz8_3 := bF_ z.out 3; have hfz8_4 := bF_ z.out 4; have hfz8_5 := bF_ z.out 5) | (go_at_call 71; (with_reducible refine (spec_l2Has.calls k a0_0 t157 t158 t159 t160 t161 _ A4.out).mono ?_); rintro e w' ⟨rfl, ⟨nd, rfl⟩⟩; (try first | exact ⟨rfl, _, World.drewN_drewN _ _ _⟩ | exact ⟨rfl, _, Eq.trans (World.drewN_drewN _ _ _) (congrArg (World.drewN _) (Nat.add_assoc _ _ _))⟩)) | ((with_reducible refine gate_dst (N := 35) rfl ?_); refine Kd.R_lit (Kd.int .i64) _ 3 ?hg (N := 35) ?hd (xs := ([a0_1, a0_2, a0_3, a0_4] : List Int)) (inner := [.int .i64 a0_1, .int .i64 a0_2, .int .i64 a0_3, .int .i64 a0_4]) (ok := fun _ => True) (okp := fun _ => True) ?hr ?hp (fun _ hk => hk) trivial (Below.refl _ _) (Nat.le_refl _) (by simp) ?_; (case hd => rfl); (case hg => rfl); (case hr => first | (go_simp; done) | (go_simp; rfl)); (yad_); intro v163 w9 ho10 hb hg_ hnew_; clear hg_ hnew_; (first | rw [← z5.out] at ho10 | (simp only [Int.reduceToNat] at ho10; rw [← z5.out] at ho10)); have n0_ := A_ (Kd.R_lower ho10 (wZ_ (by repeat (yaa_)))); have n1_ := A_ (bB_ (g := gb155) (o := .cells #[.int .i64 a0_0, .int .i64 a0_1, .int .i64 a0_2, .int .i64 a0_3, .int .i64 a0_4, .int .i64 a0_5] 75 (0, 0)) (by (yab_); exact z.out) hb); have n2_ := A_ (wT_ (by repeat (yaa_)) hb); clear z; clear HB; have z4 := n0_; have z := n1_; have HB := n2_; clear n0_ n1_ n2_; clear hb ho10) | ((with_reducible refine gate_dst (N := 40) rfl ?_); refine Kd.R_lit Kd.bool _ 4 ?hg (N := 40) ?hd (xs := ([t157, t158, t159, t160] : List Bool)) (inner := [.bool t157, .bool t158, .bool t159, .bool t160]) (ok := fun _ => True) (okp := fun _ => True) ?hr ?hp (fun _ hk => hk) trivial (Below.refl _ _) (Nat.le_refl _) (by simp) ?_; (case hd => rfl); (case hg => rfl); (case hr => first | (go_simp; done) | (go_simp; rfl)); (yae_); intro v166 w11 ho12 hb hg_ hnew_; clear hg_ hnew_; (first | rw [← z6.out] at ho12 | (simp only [Int.reduceToNat] at ho12; rw [← z6.out] at ho12)); have n0_ := A_ (rB_ (by (yaf_); exact z4.out) hb); have n1_ := A_ (Kd.R_lower ho12 (wZ_ (by repeat (yaa_)))); have n2_ := A_ (bB_ (g := gb155) (o := .cells #[.int .i64 a0_0, .int .i64 a0_1, .int .i64 a0_2, .int .i64 a0_3, .int .i64 a0_4, .int .i64 a0_5] 75 (0, 0)) (by (yab_); exact z.out) hb); have n3_ := A_ (wT_ (by repeat (yaa_)) hb); clear z4; clear z; clear HB; have z4 := n0_; have zb := n1_; have z := n2_; have HB := n3_; clear n0_ n1_ n2_ n3_; clear hb ho12)))
  go_loopg [8, 9, 12] k (fun kq v8 v9 v12 w' => ∃ (z3 : Int) (z2 : Int) (z0 : Int), v8 = .int .i64 z3 ∧ v9 = .int .i64 z2 ∧ v12 = .int .i64 z0 ∧ Aside0 (spec_CodWord.l0 kq t161 z3 z2 y162 y165 z0 a0_0 a0_1 a0_2 a0_3 a0_4 a0_5 = some r) ∧ Aside0 (kq ≤ k) ∧ Aside0 (Kd.R (Kd.int .i64) 3 w' w.heap.size (fun _ => True) v163 y162) ∧ Aside0 (Kd.R Kd.bool 4 w' w.heap.size (fun _ => True) v166 y165) ∧ Aside0 (w'.heap[gb155]? = some (.cells #[.int .i64 a0_0, .int .i64 a0_1, .int .i64 a0_2, .int .i64 a0_3, .int .i64 a0_4, .int .i64 a0_5] 75 (0, 0))) ∧ Aside0 (Below w.heap.size w w'))
  case atStart => exact ⟨(a0_0), (12), (0), (by first | rfl | (simp; done) | (simp [*]; done)), (by first | rfl | (simp; done) | (simp [*]; done)), (by first | rfl | (simp; done) | (simp [*]; done)), H', ⟨Nat.le_refl _⟩, ⟨by (yaf_); exact z4.out⟩, ⟨by (yaf_); exact zb.out⟩, ⟨by (yab_); exact z.out⟩, ⟨by repeat (yaa_)⟩⟩
  case round =>
   clear H'
   try clear p2
   try clear c3
   try clear c6
   try clear hcz6_0
   try clear hcz6_1
   try clear hcz6_2
   try clear hcz6_3
   try clear hcz6_4
   try clear hcz6_5
   try clear hcz8_0
   try clear hcz8_1
   try clear hcz8_2
   try clear hcz8_3
   try clear hcz8_4
   try clear hcz8_5
   try clear hfz6_0
   try clear hfz6_1
   try clear hfz6_2
   try clear hfz6_3
   try clear hfz6_4
   try clear hfz6_5
   try clear hfz8_0
   try clear hfz8_1
   try clear hfz8_2
   try clear hfz8_3
   try clear hfz8_4
   try clear hfz8_5
   obtain ⟨z3, z2, z0, rfl, rfl, rfl, HA, HK1, z9, z7, z, HB⟩ := hrel
   cases gk with
   | zero => exact absurd HA.out (by simp [spec_CodWord.l0])
   | succ k1 =>
    have H := HA.out
    clear HA
    simp only [spec_CodWord.l0] at H
    by_cases c13 : z0 < 4
    ·rw [if_pos c13] at H
     have c13b0 : decide (z0 < 4) = true := decide_eq_true c13
     clear c13
     by_cases c14 : 0 ≤ z0
     ·rw [if_pos c14] at H
      have c14b0 : decide (0 ≤ z0) = true := decide_eq_true c14
      clear c14
      by_cases c15 : z0 < (y165.length : Int)
      ·rw [if_pos c15] at H
       have c15b0 : decide (z0 < (y165.length : Int)) = true := decide_eq_true c15
       clear c15
       obtain ⟨bq16, hbq16⟩ : ∃ b_ : Bool, b_ = (rdOf false y165 z0) := ⟨_, rfl⟩
       replace H : (if bq16 = true then (if z0 < (y162.length : Int) then (spec_CodWord.l0 k1 t161 (wrap64 ((wrap64 (z3 * 8)) + (rd y162 z0))) (wrap64 (z2 - 3)) y162 y165 (wrap64 (z0 + 1)) a0_0 a0_1 a0_2 a0_3 a0_4 a0_5) else (none)) else (spec_CodWord.l0 k1 t161 z3 z2 y162 y165 (wrap64 (z0 + 1)) a0_0 a0_1 a0_2 a0_3 a0_4 a0_5)) = some r := by rw [← hbq16] at H; exact H
       have Nbq16 := A_ hbq16
       clear hbq16
       by_cases c17 : bq16 = true
       ·subst c17
        have H1 : (if z0 < (y162.length : Int) then (spec_CodWord.l0 k1 t161 (wrap64 ((wrap64 (z3 * 8)) + (rd y162 z0))) (wrap64 (z2 - 3)) y162 y165 (wrap64 (z0 + 1)) a0_0 a0_1 a0_2 a0_3 a0_4 a0_5) else (none)) = some r := by rw [if_pos rfl] at H; exact H
        clear H
        have H := H1
        clear H1
        by_cases c18 : z0 < (y162.length : Int)
        ·rw [if_pos c18] at H
         have c18b0 : decide (z0 < (y162.length : Int)) = true := decide_eq_true c18
         clear c18
         have H' := A_ H
         clear H
         obtain ⟨Ao19, co19, eo19⟩ := Kd.R_slice z7.out
         subst eo19
         have p168 : 0 ≤ (z0 : Int) := of_decide_eq_true (by first | (with_reducible assumption) | assumption)
         have q168 : z0 < (y165.length : Int) := of_decide_eq_true (by first | (with_reducible assumption) | assumption)
         obtain ⟨ad168, e168, hx168_0⟩ := Kd.at_bool (Kd.R_reads' z7.out).2.2 z0 p168 q168
         (try rw [← Nbq16.out] at hx168_0)
         cases e168
         replace p168 := eq_true p168
         replace q168 := eq_true q168
         obtain ⟨Ao20, co20, eo20⟩ := Kd.R_slice z9.out
         subst eo20
         have p169 : 0 ≤ (z0 : Int) := of_decide_eq_true (by first | (with_reducible assumption) | assumption)
         have q169 : z0 < (y162.length : Int) := of_decide_eq_true (by first | (with_reducible assumption) | assumption)
         obtain ⟨ad169, e169, hx169_0⟩ := Kd.at_int (Kd.R_reads' z9.out).2.2 z0 p169 q169
         cases e169
         replace p169 := eq_true p169
         replace q169 := eq_true q169
         go_wp2
         repeat (go_quiet (fail); try go_wp2)
         go_roundg k1
         case measure => have := HK1.out; omega
         case rel => exact ⟨(wrap64 ((wrap64 (z3 * 8)) + (rd y162 z0))), (wrap64 (z2 - 3)), (wrap64 (z0 + 1)), (by first | rfl | (simp; done) | (simp [*]; done)), (by first | rfl | (simp; done) | (simp [*]; done)), (by first | rfl | (simp; done) | (simp [*]; done)), H', ⟨by have := HK1.out; omega⟩, ⟨by (yaf_); exact z9.out⟩, ⟨by (yaf_); exact z7.out⟩, ⟨by (yab_); exact z.out⟩, ⟨by repeat (yaa_)⟩⟩
        ·rw [if_neg c18] at H
         exact absurd H (by simp)
       ·replace c17 := Bool.eq_false_iff.mpr c17
        subst c17
        have H1 : (spec_CodWord.l0 k1 t161 z3 z2 y162 y165 (wrap64 (z0 + 1)) a0_0 a0_1 a0_2 a0_3 a0_4 a0_5) = some r := by rw [if_neg (show ¬ (false = true) by decide)] at H; exact H
        clear H
        have H := H1
        clear H1
        have H' := A_ H
        clear H
        obtain ⟨Ao21, co21, eo21⟩ := Kd.R_slice z7.out
        subst eo21
        have p168 : 0 ≤ (z0 : Int) := of_decide_eq_true (by first | (with_reducible assumption) | assumption)
        have q168 : z0 < (y165.length : Int) := of_decide_eq_true (by first | (with_reducible assumption) | assumption)
        obtain ⟨ad168, e168, hx168_0⟩ := Kd.at_bool (Kd.R_reads' z7.out).2.2 z0 p168 q168
        (try rw [← Nbq16.out] at hx168_0)
        cases e168
        replace p168 := eq_true p168
        replace q168 := eq_true q168
        go_wp2
        repeat (go_quiet (fail); try go_wp2)
        go_roundg k1
        case measure => have := HK1.out; omega
        case rel => exact ⟨(z3), (z2), (wrap64 (z0 + 1)), (by first | rfl | (simp; done) | (simp [*]; done)), (by first | rfl | (simp; done) | (simp [*]; done)), (by first | rfl | (simp; done) | (simp [*]; done)), H', ⟨by have := HK1.out; omega⟩, ⟨by (yaf_); exact z9.out⟩, ⟨by (yaf_); exact z7.out⟩, ⟨by (yab_); exact z.out⟩, ⟨by repeat (yaa_)⟩⟩
      ·rw [if_neg c15] at H
       exact absurd H (by simp)
     ·rw [if_neg c14] at H
      exact absurd H (by simp)
    ·rw [if_neg c13] at H
     have c13b0 : decide (z0 < 4) = false := decide_eq_false c13
     clear c13
     by_cases c22 : t161 > 0
     ·rw [if_pos c22] at H
      have c22b0 : decide (0 < t161) = true := decide_eq_true c22
      clear c22
      by_cases c23 : 0 ≤ t161
      ·rw [if_pos c23] at H
       have c23b0 := eq_true c23
       have c23b1 : decide (0 ≤ t161) = true := decide_eq_true c23
       clear c23
       obtain ⟨ji24, hji24⟩ : ∃ j_ : Int, (shl .i64 z3 t161) = j_ := ⟨_, rfl⟩
       replace H : (if (shl .i64 1 t161) = 0 then (none) else (if 0 ≤ (wrap64 (z2 - t161)) then (some (shl .i64 (wrap64 ((ji24) + (Int.tmod (wrap64 (a0_5 + (shl .i64 1 t161))) (shl .i64 1 t161)))) (wrap64 (z2 - t161)))) else (none))) = some r := by first | (rw [hji24] at H; exact H) | (simp only [hji24] at H ⊢; exact H)
       have hji24_ : (IntKind.i64.wrap (z3 * 2 ^ min t161.toNat 64)) = ji24 := hji24
       have hji24z : t161 ≤ 64 → (IntKind.i64.wrap (z3 * 2 ^ t161.toNat)) = ji24 := shl_small hji24
       have hji24y : (wrap64 (z3 * 2 ^ min t161.toNat 64)) = ji24 := (i64_w _).symm.trans hji24_
       have hji24x : t161 ≤ 64 → (wrap64 (z3 * 2 ^ t161.toNat)) = ji24 := fun h_ => (i64_w _).symm.trans (hji24z h_)
       have c25b0 := eq_true (of_decide_eq_true (by first | (with_reducible assumption) | assumption) : 0 ≤ t161)
       obtain ⟨ji26, hji26⟩ : ∃ j_ : Int, (shl .i64 1 t161) = j_ := ⟨_, rfl⟩
       replace H : (if (ji26) = 0 then (none) else (if 0 ≤ (wrap64 (z2 - t161)) then (some (shl .i64 (wrap64 ((ji24) + (Int.tmod (wrap64 (a0_5 + (ji26))) (ji26)))) (wrap64 (z2 - t161)))) else (none))) = some r := by first | (rw [hji26] at H; exact H) | (simp only [hji26] at H ⊢; exact H)
       have hji26_ : (IntKind.i64.wrap (1 * 2 ^ min t161.toNat 64)) = ji26 := hji26
       have hji26z : t161 ≤ 64 → (IntKind.i64.wrap (1 * 2 ^ t161.toNat)) = ji26 := shl_small hji26
       have hji26u : (IntKind.i64.wrap (2 ^ min t161.toNat 64)) = ji26 := by have h_ := hji26_; rw [Int.one_mul] at h_; exact h_
       have hji26v : t161 ≤ 64 → (IntKind.i64.wrap (2 ^ t161.toNat)) = ji26 := fun hle_ => by have h_ := hji26z hle_; rw [Int.one_mul] at h_; exact h_
       have hji26y : (wrap64 (1 * 2 ^ min t161.toNat 64)) = ji26 := (i64_w _).symm.trans hji26_
       have hji26x : t161 ≤ 64 → (wrap64 (1 * 2 ^ t161.toNat)) = ji26 := fun h_ => (i64_w _).symm.trans (hji26z h_)
       have c27b0 := eq_true (of_decide_eq_true (by first | (with_reducible assumption) | assumption) : 0 ≤ t161)
       by_cases c29 : (ji26) = 0
       ·rw [if_pos c29] at H
        exact absurd H (by simp)
       ·rw [if_neg c29] at H
        have c29b0 : ((ji26) == 0) = false := beq_eq_false_iff_ne.mpr c29
        have c29b1 : ((ji26) != 0) = true := bne_iff_ne.mpr c29
        obtain ⟨ji30, hji30⟩ : ∃ j_ : Int, (wrap64 (z2 - t161)) = j_ := ⟨_, rfl⟩
        replace H : (if 0 ≤ (ji30) then (some (shl .i64 (wrap64 ((ji24) + (Int.tmod (wrap64 (a0_5 + (ji26))) (ji26)))) (ji30))) else (none)) = some r := by first | (rw [hji30] at H; exact H) | (simp only [hji30] at H ⊢; exact H)
        have hji30w : (IntKind.i64.wrap (z2 - t161)) = ji30 := (i64_w _).trans hji30
        by_cases c31 : 0 ≤ (ji30)
        ·rw [if_pos c31] at H
         have c31b0 := eq_true c31
         have c31b1 : decide (0 ≤ (ji30)) = true := decide_eq_true c31
         clear c31
         obtain ⟨ji32, hji32⟩ : ∃ j_ : Int, (shl .i64 (wrap64 ((ji24) + (Int.tmod (wrap64 (a0_5 + (ji26))) (ji26)))) (ji30)) = j_ := ⟨_, rfl⟩
         replace H : (some ji32) = some r := by first | (rw [hji32] at H; exact H) | (simp only [hji32] at H ⊢; exact H)
         have hji32_ : (IntKind.i64.wrap ((wrap64 ((ji24) + (Int.tmod (wrap64 (a0_5 + (ji26))) (ji26)))) * 2 ^ min (ji30).toNat 64)) = ji32 := hji32
         have hji32z : (ji30) ≤ 64 → (IntKind.i64.wrap ((wrap64 ((ji24) + (Int.tmod (wrap64 (a0_5 + (ji26))) (ji26)))) * 2 ^ (ji30).toNat)) = ji32 := shl_small hji32
         have hji32y : (wrap64 ((wrap64 ((ji24) + (Int.tmod (wrap64 (a0_5 + (ji26))) (ji26)))) * 2 ^ min (ji30).toNat 64)) = ji32 := (i64_w _).symm.trans hji32_
         have hji32x : (ji30) ≤ 64 → (wrap64 ((wrap64 ((ji24) + (Int.tmod (wrap64 (a0_5 + (ji26))) (ji26)))) * 2 ^ (ji30).toNat)) = ji32 := fun h_ => (i64_w _).symm.trans (hji32z h_)
         obtain rfl := Option.some.inj H
         have hcz33_0 : wr.cell? ⟨gb155, 0, none⟩ = some (.int .i64 a0_0) := (bC_ z.out 0).trans rfl
         have hcz33_1 : wr.cell? ⟨gb155, 1, none⟩ = some (.int .i64 a0_1) := (bC_ z.out 1).trans rfl
         have hcz33_2 : wr.cell? ⟨gb155, 2, none⟩ = some (.int .i64 a0_2) := (bC_ z.out 2).trans rfl
         have hcz33_3 : wr.cell? ⟨gb155, 3, none⟩ = some (.int .i64 a0_3) := (bC_ z.out 3).trans rfl
         have hcz33_4 : wr.cell? ⟨gb155, 4, none⟩ = some (.int .i64 a0_4) := (bC_ z.out 4).trans rfl
         have hcz33_5 : wr.cell? ⟨gb155, 5, none⟩ = some (.int .i64 a0_5) := (bC_ z.out 5).trans rfl
         have hfz33_0 := bF_ z.out 0
         have hfz33_1 := bF_ z.out 1
         have hfz33_2 := bF_ z.out 2
         have hfz33_3 := bF_ z.out 3
         have hfz33_4 := bF_ z.out 4
         have hfz33_5 := bF_ z.out 5
         go_wp2
         repeat (go_quiet (fail); try go_wp2)
         go_ret
         exact ⟨by first | rfl | (simp [errW_none, errW_some] <;> rfl) | (simp only [← hji24, ← hji26, ← hji30, ← hji32]; first | rfl | (simp [errW_none, errW_some] <;> rfl)) | (simp [*, errW_none, errW_some] <;> rfl), by repeat (yaa_)⟩
        ·rw [if_neg c31] at H
         exact absurd H (by simp)
      ·rw [if_neg c23] at H
       exact absurd H (by simp)
     ·rw [if_neg c22] at H
      have c22b0 : decide (0 < t161) = false := decide_eq_false c22
      clear c22
      by_cases c34 : 0 ≤ z2
      ·rw [if_pos c34] at H
       have c34b0 := eq_true c34
       have c34b1 : decide (0 ≤ z2) = true := decide_eq_true c34
       clear c34
       obtain ⟨ji35, hji35⟩ : ∃ j_ : Int, (shl .i64 z3 z2) = j_ := ⟨_, rfl⟩
       replace H : (some ji35) = some r := by first | (rw [hji35] at H; exact H) | (simp only [hji35] at H ⊢; exact H)
       have hji35_ : (IntKind.i64.wrap (z3 * 2 ^ min z2.toNat 64)) = ji35 := hji35
       have hji35z : z2 ≤ 64 → (IntKind.i64.wrap (z3 * 2 ^ z2.toNat)) = ji35 := shl_small hji35
       have hji35y : (wrap64 (z3 * 2 ^ min z2.toNat 64)) = ji35 := (i64_w _).symm.trans hji35_
       have hji35x : z2 ≤ 64 → (wrap64 (z3 * 2 ^ z2.toNat)) = ji35 := fun h_ => (i64_w _).symm.trans (hji35z h_)
       obtain rfl := Option.some.inj H
       go_wp2
       repeat (go_quiet (fail); try go_wp2)
       go_ret
       exact ⟨by first | rfl | (simp [errW_none, errW_some] <;> rfl) | (simp only [← hji35]; first | rfl | (simp [errW_none, errW_some] <;> rfl)) | (simp [*, errW_none, errW_some] <;> rfl), by repeat (yaa_)⟩
      ·rw [if_neg c34] at H
       exact absurd H (by simp)
 ·replace c3 := Bool.eq_false_iff.mpr c3
  subst c3
  have H1 : (some (-1)) = some r := by rw [if_neg (show ¬ (false = true) by decide)] at H; exact H
  clear H
  have H := H1
  clear H1
  obtain rfl := Option.some.inj H
  go_enter Try.func60, Try.ntmps60
  go_wp2_with (ya_)
  repeat (go_quiet (ya_); try go_wp2_with (ya_))
  go_ret
  exact ⟨by first | rfl | (simp [errW_none, errW_some] <;> rfl) | (simp [*, errW_none, errW_some] <;> rfl), by repeat (yaa_)⟩
end
end

/-! ### spec_l20Inst: function 61 -/
section
set_option hygiene false in
local macro "ya_" : tactic => `(tactic| (with_reducible repeat (first | refine bN_ ?_ _ | refine bD_ ?_ | refine bA_ ?_ _)))
set_option hygiene false in
local macro "yaa_" : tactic => `(tactic| (first | (with_reducible first | exact HI0.out | apply iA_ | apply iN_ | apply iD_ | apply iS_ | refine iF_ ?_ z6.out _ | refine iF_ ?_ z5.out _) | exact HI0.out))
set_option hygiene false in
local macro "yab_" : tactic => `(tactic| (first | (with_reducible first | exact HK.out | apply kS_ | apply kN_ | apply kD_ | apply kA_ | refine kF_ ?_ z7.out _ | refine kF_ ?_ z8.out _) | exact HK.out))
set_option hygiene false in
local macro "yac_" : tactic => `(tactic| (first | (with_reducible first | exact HB.out | apply wA_ | apply wN_ | apply wD_ | refine wS_ ?_ (IsS69.ge HI0.out) | refine wS_ ?_ z9.out | refine wS_ ?_ za.out) | exact HB.out))
set_option hygiene false in
local macro "yad_" : term => `((by (try simp only [mT_, mC_, mN_]); first | done | rfl | (simp only [lD_, lT_]; rfl)))
set_option hygiene false in
local macro "yae_" : tactic => `(tactic| (with_reducible refine gate_callee (f := 45) rfl ?_))
set_option hygiene false in
local macro "yaf_" : tactic => `(tactic| (with_reducible repeat (first | apply rA_ | apply rN_ | apply rD_)))
set_option hygiene false in
local macro "yag_" : term => `((by first | (with_reducible assumption) | assumption))
set_option hygiene false in
local macro "yah_" : term => `((by repeat (first | (with_reducible first | exact HK.out | apply kS_ | apply kN_ | apply kD_ | apply kA_ | refine kF_ ?_ z7.out _) | exact HK.out)))
set_option hygiene false in
local macro "yai_" : tactic => `(tactic| (first | (with_reducible first | exact HI0.out | apply iA_ | apply iN_ | apply iD_ | apply iS_ | refine iF_ ?_ z6.out _) | exact HI0.out))
set_option hygiene false in
local macro "yaj_" : tactic => `(tactic| (case hp => exact (Reps.one (show Kd.M (Kd.int .i64) _ _ _ t223 [.int .i64 t223] from rfl) (Reps.one (show Kd.M (Kd.int .i64) _ _ _ t225 [.int .i64 t225] from rfl) (Reps.one (show Kd.M (Kd.int .i64) _ _ _ t227 [.int .i64 t227] from rfl) (Reps.none _ _))))))
set_option hygiene false in
local macro "yak_" : tactic => `(tactic| (case hr => first | (go_simp; done) | (go_simp; rfl)))
set_option hygiene false in
local macro "yal_" : tactic => `(tactic| (first | (with_reducible first | exact HB.out | apply wA_ | apply wN_ | apply wD_ | refine wS_ ?_ (IsS69.ge HI0.out) | refine wS_ ?_ z9.out) | exact HB.out))
set_option hygiene false in
local macro "yam_" : tactic => `(tactic| (with_reducible refine (spec_l20Rd_pick.calls kj90 g s0_0 t240 5 t241 t242 w0 _ ?side1 ?side2 A150.out).mono ?_))
set_option hygiene false in
local macro "yan_" : tactic => `(tactic| (with_reducible refine (spec_l20Rd_odd.calls kj90 g s0_0 zt a1 true t240 w0 _ ?side1 ?side2 A148.out).mono ?_))
section
open Go.Proofs.YtdpgomcdacmhkaaW.PrintWords renaming blk_drewN → bN_, blk_alloc → bA_, blk_drew → bD_, blk_below → bB_, blk_frozen → bF_, blk_cell → bC_, below_set → wS_, keep_far → kF_, pw_below_drewN → wN_, keep_drewN → kN_, keep_alloc → kA_, keep_drew → kD_, below_alloc → wA_, below_drew1 → wD_, below_step → wT_
open Go.Proofs.YtdpgomcdacmhkaaW.PrintWords.Aside0 renaming mk → A_
open Go.Proofs.YtdpgomcdacmhkaaW.PrintWords.KeepBut renaming set_ → kS_, blk → kB_, trans → kT_, of_below → kO_
open Go.Proofs.YtdpgomcdacmhkaaW.PrintWords.Kd renaming R_drewN → rN_, R_drew → rD_, R_alloc → rA_, R_elder' → rE_, R_below → rB_, R_mono → rM_
open List renaming map_toArray → mT_, map_cons → mC_, map_nil → mN_, length_drop → lD_, length_take → lT_, setIfInBounds_toArray → sT_, set_cons_zero → s0_, set_cons_succ → s1_
open Go.Proofs.Ytdpgomcdacmhkaa.QFnInOk.IsS69 renaming far → iF_, alloc → iA_, drewN → iN_, drew → iD_, set_1 → iS_
mutual
def spec_l20Inst.j0 : Nat → Int → Bool → Bool → Bool → Int → List Int → Int → Int → Int → Int → Int → Int → Int → Option (Int × Int × Int × Int × Int × Int × Int)
 | 0, _, _, _, _, _, _, _, _, _, _, _, _, _ => none
 | k + 1, x1, x7, x8, x9, x10, zf, zp, zh, zi, zj, zk, zm, zn => if x7 = true then ((spec_l20Rd_pick.f k zf zp 4).bind fun bt197 => ((spec_l20Rd_pick.f k zf bt197.2 8).bind fun bt199 => ((some (([bt197.1, bt199.1] : List Int) : List Int)).bind fun y201 => ((spec_l20Rd_pick.f k zf bt199.2 2).bind fun bt204 => (if 0 ≤ bt204.1 then (if bt204.1 < (y201.length : Int) then (spec_l20Inst.j1 k x1 x8 x9 x10 zf bt204.2 zh zi (rd y201 bt204.1) zk zm zn) else (none)) else (none)))))) else (spec_l20Inst.j1 k x1 x8 x9 x10 zf zp zh zi zj zk zm zn)
def spec_l20Inst.j1 : Nat → Int → Bool → Bool → Int → List Int → Int → Int → Int → Int → Int → Int → Int → Option (Int × Int × Int × Int × Int × Int × Int)
 | 0, _, _, _, _, _, _, _, _, _, _, _, _ => none
 | k + 1, x1, x8, x9, x10, zf, zp, zh, zi, zj, zk, zm, zn => if x8 = true then ((spec_l20Rd_pick.f k zf zp 4).bind fun bt207 => ((spec_l20Rd_pick.f k zf bt207.2 8).bind fun bt209 => ((some (([bt207.1, bt209.1] : List Int) : List Int)).bind fun y211 => ((spec_l20Rd_pick.f k zf bt209.2 2).bind fun bt214 => (if 0 ≤ bt214.1 then (if bt214.1 < (y211.length : Int) then (spec_l20Inst.j2 k x1 x9 x10 zf bt214.2 zh zi zj (rd y211 bt214.1) zm zn) else (none)) else (none)))))) else (spec_l20Inst.j2 k x1 x9 x10 zf zp zh zi zj zk zm zn)
def spec_l20Inst.j2 : Nat → Int → Bool → Int → List Int → Int → Int → Int → Int → Int → Int → Int → Option (Int × Int × Int × Int × Int × Int × Int)
 | 0, _, _, _, _, _, _, _, _, _, _, _ => none
 | k + 1, x1, x9, x10, zf, zp, zh, zi, zj, zk, zm, zn => if x9 = true then ((spec_l20Rd_pick.f k zf zp 8).bind fun bt217 => (if zh = 14 then ((spec_l20Rd_pick.f k zf bt217.2 5).bind fun bt219 => (spec_l20Inst.j3 k x1 x10 zf bt219.2 zh zi zj zk bt219.1 zn)) else (if zh = 15 then ((spec_l20Rd_pick.f k zf bt217.2 5).bind fun bt221 => (spec_l20Inst.j3 k x1 x10 zf bt221.2 zh zi zj zk bt221.1 zn)) else (spec_l20Inst.j3 k x1 x10 zf bt217.2 zh zi zj zk bt217.1 zn)))) else (spec_l20Inst.j3 k x1 x10 zf zp zh zi zj zk zm zn)
def spec_l20Inst.j3 : Nat → Int → Int → List Int → Int → Int → Int → Int → Int → Int → Int → Option (Int × Int × Int × Int × Int × Int × Int)
 | 0, _, _, _, _, _, _, _, _, _, _ => none
 | k + 1, x1, x10, zf, zp, zh, zi, zj, zk, zm, zn => if x10 > 0 then ((spec_l20Rd_pick.f k zf zp 8).bind fun bt223 => ((spec_l20Rd_pick.f k zf bt223.2 32).bind fun bt225 => ((spec_l20Rd_pick.f k zf bt225.2 5).bind fun bt227 => ((some (([bt223.1, bt225.1, bt227.1] : List Int) : List Int)).bind fun y229 => ((spec_l20Rd_pick.f k zf bt227.2 3).bind fun bt232 => (if 0 ≤ bt232.1 then (if bt232.1 < (y229.length : Int) then (if zh = 12 then (spec_l20Inst.j4 k x1 zf bt232.2 zh zi zj zk zm (rd y229 bt232.1)) else (if zh = 2 then (spec_l20Inst.j4 k x1 zf bt232.2 zh zi zj zk zm (rd y229 bt232.1)) else ((spec_l20Rd_pick.f k zf bt232.2 3).bind fun bt235 => (if bt235.1 = 0 then ((spec_l20Rd_pick.f k zf bt235.2 4).bind fun bt237 => (spec_l20Inst.j4 k x1 zf bt237.2 zh zi zj zk zm (wrap64 ((-1) - bt237.1)))) else (spec_l20Inst.j4 k x1 zf bt235.2 zh zi zj zk zm (rd y229 bt232.1)))))) else (none)) else (none))))))) else (spec_l20Inst.j4 k x1 zf zp zh zi zj zk zm zn)
def spec_l20Inst.j4 : Nat → Int → List Int → Int → Int → Int → Int → Int → Int → Int → Option (Int × Int × Int × Int × Int × Int × Int)
 | 0, _, _, _, _, _, _, _, _, _ => none
 | k + 1, x1, zf, zp, zh, zi, zj, zk, zm, zn => (spec_l20Rd_odd.f k zf zp x1).bind fun bt239 => (if bt239.1 = true then ((spec_l20Rd_pick.f k zf bt239.2 5).bind fun bt241 => (if bt241.1 = 0 then ((some (([(-1), 16] : List Int) : List Int)).bind fun y243 => ((spec_l20Rd_pick.f k zf bt241.2 2).bind fun bt246 => (if 0 ≤ bt246.1 then (if bt246.1 < (y243.length : Int) then (some (rd y243 bt246.1, zi, zj, zk, zm, zn, bt246.2)) else (none)) else (none)))) else (if bt241.1 = 1 then ((some (([(-1), 8, 1] : List Int) : List Int)).bind fun y249 => ((spec_l20Rd_pick.f k zf bt241.2 3).bind fun bt252 => (if 0 ≤ bt252.1 then (if bt252.1 < (y249.length : Int) then (some (zh, rd y249 bt252.1, zj, zk, zm, zn, bt252.2)) else (none)) else (none)))) else (if bt241.1 = 2 then ((some (([(-1), 8, 1] : List Int) : List Int)).bind fun y255 => ((spec_l20Rd_pick.f k zf bt241.2 3).bind fun bt258 => (if 0 ≤ bt258.1 then (if bt258.1 < (y255.length : Int) then (some (zh, zi, zj, rd y255 bt258.1, zm, zn, bt258.2)) else (none)) else (none)))) else (if bt241.1 = 3 then ((some (([(-1), 8, 6] : List Int) : List Int)).bind fun y261 => ((spec_l20Rd_pick.f k zf bt241.2 3).bind fun bt264 => (if 0 ≤ bt264.1 then (if bt264.1 < (y261.length : Int) then (some (zh, zi, zj, zk, rd y261 bt264.1, zn, bt264.2)) else (none)) else (none)))) else ((some (([(-33), 512, 32, 1] : List Int) : List Int)).bind fun y267 => ((spec_l20Rd_pick.f k zf bt241.2 4).bind fun bt270 => (if 0 ≤ bt270.1 then (if bt270.1 < (y267.length : Int) then (some (zh, zi, zj, zk, zm, rd y267 bt270.1, bt270.2)) else (none)) else (none))))))))) else (some (zh, zi, zj, zk, zm, zn, bt239.2)))
end
def spec_l20Inst.f (k : Nat) (s0_0 : List Int) (s0_1 : Int) (a1 : Int) : Option (Int × Int × Int × Int × Int × Int × Int) := (spec_l20Rd_pick.f k s0_0 s0_1 16).bind fun bt171 => ((spec_l20Rd_pick.f k s0_0 bt171.2 16).bind fun bt173 => ((some (([0, 0, 1, 1, 3, 3, 4, 4, 5, 6, 7, 8, 9, 2, bt171.1, bt173.1] : List Int) : List Int)).bind fun y175 => ((spec_l20Rd_pick.f k s0_0 bt173.2 16).bind fun bt178 => (if 0 ≤ bt178.1 then (if bt178.1 < (y175.length : Int) then ((spec_l2Has.f k (rd y175 bt178.1)).bind fun bt182 => (if bt182.1 = true then ((spec_l20Rd_pick.f k s0_0 bt178.2 3).bind fun bt187 => ((spec_l20Rd_pick.f k s0_0 bt187.2 8).bind fun bt189 => ((some (([wrap64 (1 + bt187.1), bt189.1] : List Int) : List Int)).bind fun y191 => ((spec_l20Rd_pick.f k s0_0 bt189.2 2).bind fun bt194 => (if 0 ≤ bt194.1 then (if bt194.1 < (y191.length : Int) then (spec_l20Inst.j0 k a1 bt182.2.1 bt182.2.2.1 bt182.2.2.2.1 bt182.2.2.2.2 s0_0 bt194.2 (rd y175 bt178.1) (rd y191 bt194.1) 0 0 0 0) else (none)) else (none)))))) else (spec_l20Inst.j0 k a1 bt182.2.1 bt182.2.2.1 bt182.2.2.2.1 bt182.2.2.2.2 s0_0 bt178.2 (rd y175 bt178.1) 0 0 0 0 0))) else (none)) else (none)))))
theorem spec_l20Inst.mono_l : ∀ k, (∀ y0 y1 y2 y3 y4 y5 y6 y7 y8 y9 y10 y11 y12, LeO (spec_l20Inst.j0 k y0 y1 y2 y3 y4 y5 y6 y7 y8 y9 y10 y11 y12) (spec_l20Inst.j0 (k + 1) y0 y1 y2 y3 y4 y5 y6 y7 y8 y9 y10 y11 y12)) ∧ (∀ y0 y1 y2 y3 y4 y5 y6 y7 y8 y9 y10 y11, LeO (spec_l20Inst.j1 k y0 y1 y2 y3 y4 y5 y6 y7 y8 y9 y10 y11) (spec_l20Inst.j1 (k + 1) y0 y1 y2 y3 y4 y5 y6 y7 y8 y9 y10 y11)) ∧ (∀ y0 y1 y2 y3 y4 y5 y6 y7 y8 y9 y10, LeO (spec_l20Inst.j2 k y0 y1 y2 y3 y4 y5 y6 y7 y8 y9 y10) (spec_l20Inst.j2 (k + 1) y0 y1 y2 y3 y4 y5 y6 y7 y8 y9 y10)) ∧ (∀ y0 y1 y2 y3 y4 y5 y6 y7 y8 y9, LeO (spec_l20Inst.j3 k y0 y1 y2 y3 y4 y5 y6 y7 y8 y9) (spec_l20Inst.j3 (k + 1) y0 y1 y2 y3 y4 y5 y6 y7 y8 y9)) ∧ (∀ y0 y1 y2 y3 y4 y5 y6 y7 y8, LeO (spec_l20Inst.j4 k y0 y1 y2 y3 y4 y5 y6 y7 y8) (spec_l20Inst.j4 (k + 1) y0 y1 y2 y3 y4 y5 y6 y7 y8))
 | 0 => ⟨fun _ _ _ _ _ _ _ _ _ _ _ _ _ r h => by simp [spec_l20Inst.j0] at h, fun _ _ _ _ _ _ _ _ _ _ _ _ r h => by simp [spec_l20Inst.j1] at h, fun _ _ _ _ _ _ _ _ _ _ _ r h => by simp [spec_l20Inst.j2] at h, fun _ _ _ _ _ _ _ _ _ _ r h => by simp [spec_l20Inst.j3] at h, fun _ _ _ _ _ _ _ _ _ r h => by simp [spec_l20Inst.j4] at h⟩
 | k + 1 => by
  obtain ⟨ih0, ih1, ih2, ih3, ih4⟩ := spec_l20Inst.mono_l k
  refine ⟨?_, ?_, ?_, ?_, ?_⟩
  ·intro y0 y1 y2 y3 y4 y5 y6 y7 y8 y9 y10 y11 y12
   unfold spec_l20Inst.j0
   repeat' first
   | (with_reducible exact ih0 _ _ _ _ _ _ _ _ _ _ _ _ _)
   | (with_reducible exact ih1 _ _ _ _ _ _ _ _ _ _ _ _)
   | (with_reducible exact ih2 _ _ _ _ _ _ _ _ _ _ _)
   | (with_reducible exact ih3 _ _ _ _ _ _ _ _ _ _)
   | (with_reducible exact ih4 _ _ _ _ _ _ _ _ _)
   | (with_reducible exact spec_l20Rd_odd.mono _ _ _ _)
   | (with_reducible exact spec_l20Rd_pick.mono _ _ _ _)
   | (with_reducible exact spec_l2Has.mono _ _)
   | (with_reducible exact LeO.refl _)
   | (with_reducible exact LeO.none _)
   | (with_reducible refine LeO.ite ?_ ?_)
   | (with_reducible refine LeO.bind ?_ (fun _ => ?_))
   | exact ih0 _ _ _ _ _ _ _ _ _ _ _ _ _
   | exact ih1 _ _ _ _ _ _ _ _ _ _ _ _
   | exact ih2 _ _ _ _ _ _ _ _ _ _ _
   | exact ih3 _ _ _ _ _ _ _ _ _ _
   | exact ih4 _ _ _ _ _ _ _ _ _
   | exact spec_l20Rd_odd.mono _ _ _ _
   | exact spec_l20Rd_pick.mono _ _ _ _
   | exact spec_l2Has.mono _ _
   | exact LeO.none _
   | refine LeO.ite ?_ ?_
   | refine LeO.bind ?_ (fun _ => ?_)
  ·intro y0 y1 y2 y3 y4 y5 y6 y7 y8 y9 y10 y11
   unfold spec_l20Inst.j1
   repeat' first
   | (with_reducible exact ih0 _ _ _ _ _ _ _ _ _ _ _ _ _)
   | (with_reducible exact ih1 _ _ _ _ _ _ _ _ _ _ _ _)
   | (with_reducible exact ih2 _ _ _ _ _ _ _ _ _ _ _)
   | (with_reducible exact ih3 _ _ _ _ _ _ _ _ _ _)
   | (with_reducible exact ih4 _ _ _ _ _ _ _ _ _)
   | (with_reducible exact spec_l20Rd_odd.mono _ _ _ _)
   | (with_reducible exact spec_l20Rd_pick.mono _ _ _ _)
   | (with_reducible exact spec_l2Has.mono _ _)
   | (with_reducible exact LeO.refl _)
   | (with_reducible exact LeO.none _)
   | (with_reducible refine LeO.ite ?_ ?_)
   | (with_reducible refine LeO.bind ?_ (fun _ => ?_))
   | exact ih0 _ _ _ _ _ _ _ _ _ _ _ _ _
   | exact ih1 _ _ _ _ _ _ _ _ _ _ _ _
   | exact ih2 _ _ _ _ _ _ _ _ _ _ _
   | exact ih3 _ _ _ _ _ _ _ _ _ _
   | exact ih4 _ _ _ _ _ _ _ _ _
   | exact spec_l20Rd_odd.mono _ _ _ _
   | exact spec_l20Rd_pick.mono _ _ _ _
   | exact spec_l2Has.mono _ _
   | exact LeO.none _
   | refine LeO.ite ?_ ?_
   | refine LeO.bind ?_ (fun _ => ?_)
  ·intro y0 y1 y2 y3 y4 y5 y6 y7 y8 y9 y10
   unfold spec_l20Inst.j2
   repeat' first
   | (with_reducible exact ih0 _ _ _ _ _ _ _ _ _ _ _ _ _)
   | (with_reducible exact ih1 _ _ _ _ _ _ _ _ _ _ _ _)
   | (with_reducible exact ih2 _ _ _ _ _ _ _ _ _ _ _)
   | (with_reducible exact ih3 _ _ _ _ _ _ _ _ _ _)
   | (with_reducible exact ih4 _ _ _ _ _ _ _ _ _)
   | (with_reducible exact spec_l20Rd_odd.mono _ _ _ _)
   | (with_reducible exact spec_l20Rd_pick.mono _ _ _ _)
   | (with_reducible exact spec_l2Has.mono _ _)
   | (with_reducible exact LeO.refl _)
   | (with_reducible exact LeO.none _)
   | (with_reducible refine LeO.ite ?_ ?_)
   | (with_reducible refine LeO.bind ?_ (fun _ => ?_))
   | exact ih0 _ _ _ _ _ _ _ _ _ _ _ _ _
   | exact ih1 _ _ _ _ _ _ _ _ _ _ _ _
   | exact ih2 _ _ _ _ _ _ _ _ _ _ _
   | exact ih3 _ _ _ _ _ _ _ _ _ _
   | exact ih4 _ _ _ _ _ _ _ _ _
   | exact spec_l20Rd_odd.mono _ _ _ _
   | exact spec_l20Rd_pick.mono _ _ _ _
   | exact spec_l2Has.mono _ _
   | exact LeO.none _
   | refine LeO.ite ?_ ?_
   | refine LeO.bind ?_ (fun _ => ?_)
  ·intro y0 y1 y2 y3 y4 y5 y6 y7 y8 y9
   unfold spec_l20Inst.j3
   repeat' first
   | (with_reducible exact ih0 _ _ _ _ _ _ _ _ _ _ _ _ _)
   | (with_reducible exact ih1 _ _ _ _ _ _ _ _ _ _ _ _)
   | (with_reducible exact ih2 _ _ _ _ _ _ _ _ _ _ _)
   | (with_reducible exact ih3 _ _ _ _ _ _ _ _ _ _)
   | (with_reducible exact ih4 _ _ _ _ _ _ _ _ _)
   | (with_reducible exact spec_l20Rd_odd.mono _ _ _ _)
   | (with_reducible exact spec_l20Rd_pick.mono _ _ _ _)
   | (with_reducible exact spec_l2Has.mono _ _)
   | (with_reducible exact LeO.refl _)
   | (with_reducible exact LeO.none _)
   | (with_reducible refine LeO.ite ?_ ?_)
   | (with_reducible refine LeO.bind ?_ (fun _ => ?_))
   | exact ih0 _ _ _ _ _ _ _ _ _ _ _ _ _
   | exact ih1 _ _ _ _ _ _ _ _ _ _ _ _
   | exact ih2 _ _ _ _ _ _ _ _ _ _ _
   | exact ih3 _ _ _ _ _ _ _ _ _ _
   | exact ih4 _ _ _ _ _ _ _ _ _
   | exact spec_l20Rd_odd.mono _ _ _ _
   | exact spec_l20Rd_pick.mono _ _ _ _
   | exact spec_l2Has.mono _ _
   | exact LeO.none _
   | refine LeO.ite ?_ ?_
   | refine LeO.bind ?_ (fun _ => ?_)
  ·intro y0 y1 y2 y3 y4 y5 y6 y7 y8
   unfold spec_l20Inst.j4
   repeat' first
   | (with_reducible exact ih0 _ _ _ _ _ _ _ _ _ _ _ _ _)
   | (with_reducible exact ih1 _ _ _ _ _ _ _ _ _ _ _ _)
   | (with_reducible exact ih2 _ _ _ _ _ _ _ _ _ _ _)
   | (with_reducible exact ih3 _ _ _ _ _ _ _ _ _ _)
   | (with_reducible exact ih4 _ _ _ _ _ _ _ _ _)
   | (with_reducible exact spec_l20Rd_odd.mono _ _ _ _)
   | (with_reducible exact spec_l20Rd_pick.mono _ _ _ _)
   | (with_reducible exact spec_l2Has.mono _ _)
   | (with_reducible exact LeO.refl _)
   | (with_reducible exact LeO.none _)
   | (with_reducible refine LeO.ite ?_ ?_)
   | (with_reducible refine LeO.bind ?_ (fun _ => ?_))
   | exact ih0 _ _ _ _ _ _ _ _ _ _ _ _ _
   | exact ih1 _ _ _ _ _ _ _ _ _ _ _ _
   | exact ih2 _ _ _ _ _ _ _ _ _ _ _
   | exact ih3 _ _ _ _ _ _ _ _ _ _
   | exact ih4 _ _ _ _ _ _ _ _ _
   | exact spec_l20Rd_odd.mono _ _ _ _
   | exact spec_l20Rd_pick.mono _ _ _ _
   | exact spec_l2Has.mono _ _
   | exact LeO.none _
   | refine LeO.ite ?_ ?_
   | refine LeO.bind ?_ (fun _ => ?_)
theorem spec_l20Inst.mono : ∀ a0 a1 a2 k, LeO (spec_l20Inst.f k a0 a1 a2) (spec_l20Inst.f (k + 1) a0 a1 a2) := by
 intro a0 a1 a2 k
 obtain ⟨ih0, ih1, ih2, ih3, ih4⟩ := spec_l20Inst.mono_l k
 unfold spec_l20Inst.f
 repeat' first
   | (with_reducible exact ih0 _ _ _ _ _ _ _ _ _ _ _ _ _)
   | (with_reducible exact ih1 _ _ _ _ _ _ _ _ _ _ _ _)
   | (with_reducible exact ih2 _ _ _ _ _ _ _ _ _ _ _)
   | (with_reducible exact ih3 _ _ _ _ _ _ _ _ _ _)
   | (with_reducible exact ih4 _ _ _ _ _ _ _ _ _)
   | (with_reducible exact spec_l20Rd_odd.mono _ _ _ _)
   | (with_reducible exact spec_l20Rd_pick.mono _ _ _ _)
   | (with_reducible exact spec_l2Has.mono _ _)
   | (with_reducible exact LeO.refl _)
   | (with_reducible exact LeO.none _)
   | (with_reducible refine LeO.ite ?_ ?_)
   | (with_reducible refine LeO.bind ?_ (fun _ => ?_))
   | exact ih0 _ _ _ _ _ _ _ _ _ _ _ _ _
   | exact ih1 _ _ _ _ _ _ _ _ _ _ _ _
   | exact ih2 _ _ _ _ _ _ _ _ _ _ _
   | exact ih3 _ _ _ _ _ _ _ _ _ _
   | exact ih4 _ _ _ _ _ _ _ _ _
   | exact spec_l20Rd_odd.mono _ _ _ _
   | exact spec_l20Rd_pick.mono _ _ _ _
   | exact spec_l2Has.mono _ _
   | exact LeO.none _
   | refine LeO.ite ?_ ?_
   | refine LeO.bind ?_ (fun _ => ?_)
set_option maxHeartbeats 8000000 in
set_option maxRecDepth 100000 in
theorem spec_l20Inst.calls (k : Nat) (g : Nat) (s0_0 : List Int) (s0_1 : Int) (a1 : Int) (r1 : Int) (r2 : Int) (r3 : Int) (r4 : Int) (r5 : Int) (r6 : Int) (r7 : Int) (w0 w : World) (hI : IsS69 w0 w g s0_0 s0_1) (hB : Below w0.heap.size w0 w) (h : spec_l20Inst.f k s0_0 s0_1 a1 = some (r1, r2, r3, r4, r5, r6, r7)) :
  Calls Try.prog 61 #[.pointer (some ⟨g, 0, none⟩), .int .i64 a1] w fun e w' => e = .returned (.agg #[.int .i64 r1, .int .i64 r2, .int .i64 r3, .int .i64 r4, .int .i64 r5, .int .i64 r6]) ∧ IsS69 w0 w' g s0_0 r7 ∧ Below w0.heap.size w0 w' ∧ KeepBut w w' g none := by
 have hu75 := Try.underlying75
 have HI0 := A_ hI
 have HK := A_ (KeepBut.refl w g none)
 have HL := A_ hB.size
 clear hI
 have HW0 := A_ hB.size
 have HB := A_ hB
 clear hB
 have H : ((spec_l20Rd_pick.f k s0_0 s0_1 16).bind fun bt171 => ((spec_l20Rd_pick.f k s0_0 bt171.2 16).bind fun bt173 => ((some (([0, 0, 1, 1, 3, 3, 4, 4, 5, 6, 7, 8, 9, 2, bt171.1, bt173.1] : List Int) : List Int)).bind fun y175 => ((spec_l20Rd_pick.f k s0_0 bt173.2 16).bind fun bt178 => (if 0 ≤ bt178.1 then (if bt178.1 < (y175.length : Int) then ((spec_l2Has.f k (rd y175 bt178.1)).bind fun bt182 => (if bt182.1 = true then ((spec_l20Rd_pick.f k s0_0 bt178.2 3).bind fun bt187 => ((spec_l20Rd_pick.f k s0_0 bt187.2 8).bind fun bt189 => ((some (([wrap64 (1 + bt187.1), bt189.1] : List Int) : List Int)).bind fun y191 => ((spec_l20Rd_pick.f k s0_0 bt189.2 2).bind fun bt194 => (if 0 ≤ bt194.1 then (if bt194.1 < (y191.length : Int) then (spec_l20Inst.j0 k a1 bt182.2.1 bt182.2.2.1 bt182.2.2.2.1 bt182.2.2.2.2 s0_0 bt194.2 (rd y175 bt178.1) (rd y191 bt194.1) 0 0 0 0) else (none)) else (none)))))) else (spec_l20Inst.j0 k a1 bt182.2.1 bt182.2.2.1 bt182.2.2.2.1 bt182.2.2.2.2 s0_0 bt178.2 (rd y175 bt178.1) 0 0 0 0 0))) else (none)) else (none)))))) = some (r1, r2, r3, r4, r5, r6, r7) := h
 clear h
 replace H := Option.bind_eq_some_iff.mp H
 obtain ⟨⟨t171, t172⟩, A30, H⟩ := H
 replace H : ((spec_l20Rd_pick.f k s0_0 t172 16).bind fun bt173 => ((some (([0, 0, 1, 1, 3, 3, 4, 4, 5, 6, 7, 8, 9, 2, t171, bt173.1] : List Int) : List Int)).bind fun y175 => ((spec_l20Rd_pick.f k s0_0 bt173.2 16).bind fun bt178 => (if 0 ≤ bt178.1 then (if bt178.1 < (y175.length : Int) then ((spec_l2Has.f k (rd y175 bt178.1)).bind fun bt182 => (if bt182.1 = true then ((spec_l20Rd_pick.f k s0_0 bt178.2 3).bind fun bt187 => ((spec_l20Rd_pick.f k s0_0 bt187.2 8).bind fun bt189 => ((some (([wrap64 (1 + bt187.1), bt189.1] : List Int) : List Int)).bind fun y191 => ((spec_l20Rd_pick.f k s0_0 bt189.2 2).bind fun bt194 => (if 0 ≤ bt194.1 then (if bt194.1 < (y191.length : Int) then (spec_l20Inst.j0 k a1 bt182.2.1 bt182.2.2.1 bt182.2.2.2.1 bt182.2.2.2.2 s0_0 bt194.2 (rd y175 bt178.1) (rd y191 bt194.1) 0 0 0 0) else (none)) else (none)))))) else (spec_l20Inst.j0 k a1 bt182.2.1 bt182.2.2.1 bt182.2.2.2.1 bt182.2.2.2.2 s0_0 bt178.2 (rd y175 bt178.1) 0 0 0 0 0))) else (none)) else (none))))) = some (r1, r2, r3, r4, r5, r6, r7) := H
 have A3 := A_ A30
 clear A30
 replace H := Option.bind_eq_some_iff.mp H
 obtain ⟨⟨t173, t174⟩, A40, H⟩ := H
 replace H : ((some (([0, 0, 1, 1, 3, 3, 4, 4, 5, 6, 7, 8, 9, 2, t171, t173] : List Int) : List Int)).bind fun y175 => ((spec_l20Rd_pick.f k s0_0 t174 16).bind fun bt178 => (if 0 ≤ bt178.1 then (if bt178.1 < (y175.length : Int) then ((spec_l2Has.f k (rd y175 bt178.1)).bind fun bt182 => (if bt182.1 = true then ((spec_l20Rd_pick.f k s0_0 bt178.2 3).bind fun bt187 => ((spec_l20Rd_pick.f k s0_0 bt187.2 8).bind fun bt189 => ((some (([wrap64 (1 + bt187.1), bt189.1] : List Int) : List Int)).bind fun y191 => ((spec_l20Rd_pick.f k s0_0 bt189.2 2).bind fun bt194 => (if 0 ≤ bt194.1 then (if bt194.1 < (y191.length : Int) then (spec_l20Inst.j0 k a1 bt182.2.1 bt182.2.2.1 bt182.2.2.2.1 bt182.2.2.2.2 s0_0 bt194.2 (rd y175 bt178.1) (rd y191 bt194.1) 0 0 0 0) else (none)) else (none)))))) else (spec_l20Inst.j0 k a1 bt182.2.1 bt182.2.2.1 bt182.2.2.2.1 bt182.2.2.2.2 s0_0 bt178.2 (rd y175 bt178.1) 0 0 0 0 0))) else (none)) else (none)))) = some (r1, r2, r3, r4, r5, r6, r7) := H
 have A4 := A_ A40
 clear A40
 obtain ⟨y175, hy175⟩ : ∃ y_ : List Int, y_ = (([0, 0, 1, 1, 3, 3, 4, 4, 5, 6, 7, 8, 9, 2, t171, t173] : List Int)) := ⟨_, rfl⟩
 replace H : ((spec_l20Rd_pick.f k s0_0 t174 16).bind fun bt178 => (if 0 ≤ bt178.1 then (if bt178.1 < (y175.length : Int) then ((spec_l2Has.f k (rd y175 bt178.1)).bind fun bt182 => (if bt182.1 = true then ((spec_l20Rd_pick.f k s0_0 bt178.2 3).bind fun bt187 => ((spec_l20Rd_pick.f k s0_0 bt187.2 8).bind fun bt189 => ((some (([wrap64 (1 + bt187.1), bt189.1] : List Int) : List Int)).bind fun y191 => ((spec_l20Rd_pick.f k s0_0 bt189.2 2).bind fun bt194 => (if 0 ≤ bt194.1 then (if bt194.1 < (y191.length : Int) then (spec_l20Inst.j0 k a1 bt182.2.1 bt182.2.2.1 bt182.2.2.2.1 bt182.2.2.2.2 s0_0 bt194.2 (rd y175 bt178.1) (rd y191 bt194.1) 0 0 0 0) else (none)) else (none)))))) else (spec_l20Inst.j0 k a1 bt182.2.1 bt182.2.2.1 bt182.2.2.2.1 bt182.2.2.2.2 s0_0 bt178.2 (rd y175 bt178.1) 0 0 0 0 0))) else (none)) else (none))) = some (r1, r2, r3, r4, r5, r6, r7) := by first | (rw [hy175]; with_reducible exact H) | (have H2_ := (Option.bind_some _ _).symm.trans H; rw [hy175]; with_reducible exact H2_) | (have H2_ := (Option.bind_some _ _).symm.trans H; with_reducible exact H2_) | with_reducible exact H | (rw [hy175]; exact H) | exact H
 have q8 := A_ hy175
 clear hy175
 replace H := Option.bind_eq_some_iff.mp H
 obtain ⟨⟨t178, t179⟩, A50, H⟩ := H
 replace H : (if 0 ≤ t178 then (if t178 < (y175.length : Int) then ((spec_l2Has.f k (rd y175 t178)).bind fun bt182 => (if bt182.1 = true then ((spec_l20Rd_pick.f k s0_0 t179 3).bind fun bt187 => ((spec_l20Rd_pick.f k s0_0 bt187.2 8).bind fun bt189 => ((some (([wrap64 (1 + bt187.1), bt189.1] : List Int) : List Int)).bind fun y191 => ((spec_l20Rd_pick.f k s0_0 bt189.2 2).bind fun bt194 => (if 0 ≤ bt194.1 then (if bt194.1 < (y191.length : Int) then (spec_l20Inst.j0 k a1 bt182.2.1 bt182.2.2.1 bt182.2.2.2.1 bt182.2.2.2.2 s0_0 bt194.2 (rd y175 t178) (rd y191 bt194.1) 0 0 0 0) else (none)) else (none)))))) else (spec_l20Inst.j0 k a1 bt182.2.1 bt182.2.2.1 bt182.2.2.2.1 bt182.2.2.2.2 s0_0 t179 (rd y175 t178) 0 0 0 0 0))) else (none)) else (none)) = some (r1, r2, r3, r4, r5, r6, r7) := H
 have A5 := A_ A50
 clear A50
 by_cases c6 : 0 ≤ t178
 ·rw [if_pos c6] at H
  have c6b0 : decide (0 ≤ t178) = true := decide_eq_true c6
  clear c6
  by_cases c7 : t178 < (y175.length : Int)
  ·rw [if_pos c7] at H
   have c7b0 : decide (t178 < (y175.length : Int)) = true := decide_eq_true c7
   clear c7
   replace H := Option.bind_eq_some_iff.mp H
   obtain ⟨⟨t182, t183, t184, t185, t186⟩, A80, H⟩ := H
   replace H : (if t182 = true then ((spec_l20Rd_pick.f k s0_0 t179 3).bind fun bt187 => ((spec_l20Rd_pick.f k s0_0 bt187.2 8).bind fun bt189 => ((some (([wrap64 (1 + bt187.1), bt189.1] : List Int) : List Int)).bind fun y191 => ((spec_l20Rd_pick.f k s0_0 bt189.2 2).bind fun bt194 => (if 0 ≤ bt194.1 then (if bt194.1 < (y191.length : Int) then (spec_l20Inst.j0 k a1 t183 t184 t185 t186 s0_0 bt194.2 (rd y175 t178) (rd y191 bt194.1) 0 0 0 0) else (none)) else (none)))))) else (spec_l20Inst.j0 k a1 t183 t184 t185 t186 s0_0 t179 (rd y175 t178) 0 0 0 0 0)) = some (r1, r2, r3, r4, r5, r6, r7) := H
   have A8 := A_ A80
   clear A80
   have HC9 := A_ H
   clear H
   go_enter Try.func61, Try.ntmps61
   go_upto_if 30 with (first | ((with_reducible refine gate_dst (N := 4) rfl ?_); refine box_event ?hg (N := 4) ?hd (cs := #[.int .i64 0, .int .i64 0, .int .i64 0, .int .i64 0, .int .i64 0, .int .i64 0]) (t := 75) ?hr ?_; (case hd => rfl); (case hg => rfl); (yak_); intro gb170 hg w10 hbox hb; have n0_ := A_ (IsS69.below (by repeat (first | (with_reducible first | exact HI0.out | apply iA_ | apply iN_ | apply iD_ | apply iS_) | exact HI0.out)) hb); have n1_ := A_ (kT_ (by repeat (first | (with_reducible first | exact HK.out | apply kS_ | apply kN_ | apply kD_ | apply kA_) | exact HK.out)) (kO_ hb g none) (.inl rfl)); have n2_ := A_ (wT_ (by repeat (first | (with_reducible first | exact HB.out | apply wA_ | apply wN_ | apply wD_ | refine wS_ ?_ (IsS69.ge HI0.out)) | exact HB.out)) hb); have n3_ := A_ (hbox); have n4_ := A_ ((by rw [hg]; exact (keep_size (w := w) (g := g) (row := none) (by repeat (first | (with_reducible first | exact HK.out | apply kS_ | apply kN_ | apply kD_ | apply kA_) | exact HK.out))) : w.heap.size ≤ gb170)); have n5_ := A_ ((Nat.le_trans HW0.out (by rw [hg]; exact (keep_size (w := w) (g := g) (row := none) (by repeat (first | (with_reducible first | exact HK.out | apply kS_ | apply kN_ | apply kD_ | apply kA_) | exact HK.out))) : w.heap.size ≤ gb170) : w0.heap.size ≤ gb170)); have n6_ := A_ ((by rw [hg]; exact Nat.ne_of_lt (IsS69.lt (show IsS69 w0 _ g s0_0 s0_1 from by repeat (first | (with_reducible first | exact HI0.out | apply iA_ | apply iN_ | apply iD_ | apply iS_) | exact HI0.out))) : g ≠ gb170)); have n7_ := A_ ((by rw [hg]; exact Nat.ne_of_gt (IsS69.lt (show IsS69 w0 _ g s0_0 s0_1 from by repeat (first | (with_reducible first | exact HI0.out | apply iA_ | apply iN_ | apply iD_ | apply iS_) | exact HI0.out))) : gb170 ≠ g)); clear HI0; clear HK; clear HB; have HI0 := n0_; have HK := n1_; have HB := n2_; have z0 := n3_; have z7 := n4_; have z9 := n5_; have z6 := n6_; have zc := n7_; clear n0_ n1_ n2_ n3_ n4_ n5_ n6_ n7_; clear hb hbox hg) | ((yae_); refine goesL_ (some 12) rfl rfl Try.func45 (by kernel_rfl) rfl #[.pointer (some ⟨g, 0, none⟩), .int .i64 16] rfl (yad_) ?_; (with_reducible refine (spec_l20Rd_pick.calls k g s0_0 s0_1 16 t171 t172 w0 _ ?side1 ?side2 A3.out).mono ?_); (case side1 => repeat (yai_)); (case side2 => repeat (yal_)); rintro e w11 ⟨rfl, hi, hb, hk⟩; refine ⟨_, rfl, ?_⟩; have n0_ := A_ (kB_ hk (g' := gb170) (o := .cells #[.int .i64 0, .int .i64 0, .int .i64 0, .int .i64 0, .int .i64 0, .int .i64 0] 75 (0, 0)) (by (ya_); exact z0.out) zc.out (by simp)); have n1_ := A_ (kT_ (yah_) hk (.inl rfl)); have n2_ := A_ (hb); have n3_ := A_ (hi); clear z0; clear HK; clear HB; clear HI0; have z0 := n0_; have HK := n1_; have HB := n2_; have HI0 := n3_; clear n0_ n1_ n2_ n3_; (try clear hb); (try clear hb2); (try clear hk); (try clear hi)) | ((yae_); refine goesL_ (some 14) rfl rfl Try.func45 (by kernel_rfl) rfl #[.pointer (some ⟨g, 0, none⟩), .int .i64 16] rfl (yad_) ?_; (with_reducible refine (spec_l20Rd_pick.calls k g s0_0 t172 16 t173 t174 w0 _ ?side1 ?side2 A4.out).mono ?_); (case side1 => repeat (yai_)); (case side2 => repeat (yal_)); rintro e w12 ⟨rfl, hi, hb, hk⟩; refine ⟨_, rfl, ?_⟩; have n0_ := A_ (kB_ hk (g' := gb170) (o := .cells #[.int .i64 0, .int .i64 0, .int .i64 0, .int .i64 0, .int .i64 0, .int .i64 0] 75 (0, 0)) (by (ya_); exact z0.out) zc.out (by simp)); have n1_ := A_ (kT_ (yah_) hk (.inl rfl)); have n2_ := A_ (hb); have n3_ := A_ (hi); clear z0; clear HK; clear HB; clear HI0; have z0 := n0_; have HK := n1_; have HB := n2_; have HI0 := n3_; clear n0_ n1_ n2_ n3_; (try clear hb); (try clear hb2); (try clear hk); (try clear hi)) | ((with_reducible refine gate_dst (N := 15) rfl ?_); refine Kd.R_lit (Kd.int .i64) _ 3 ?hg (N := 15) ?hd (xs := ([0, 0, 1, 1, 3, 3, 4, 4, 5, 6, 7, 8, 9, 2, t171, t173] : List Int)) (inner := [.int .i64 0, .int .i64 0, .int .i64 1, .int .i64 1, .int .i64 3, .int .i64 3, .int .i64 4, .int .i64 4, .int .i64 5, .int .i64 6, .int .i64 7, .int .i64 8, .int .i64 9, .int .i64 2, .int .i64 t171, .int .i64 t173]) (ok := fun _ => True) (okp := fun _ => True) ?hr ?hp (fun _ hk => hk) trivial (Below.refl _ _) (Nat.le_refl _) (by simp) ?_; (case hd => rfl); (case hg => rfl); (yak_); (case hp => exact (Reps.one (show Kd.M (Kd.int .i64) _ _ _ 0 [.int .i64 0] from rfl) (Reps.one (show Kd.M (Kd.int .i64) _ _ _ 0 [.int .i64 0] from rfl) (Reps.one (show Kd.M (Kd.int .i64) _ _ _ 1 [.int .i64 1] from rfl) (Reps.one (show Kd.M (Kd.int .i64) _ _ _ 1 [.int .i64 1] from rfl) (Reps.one (show Kd.M (Kd.int .i64) _ _ _ 3 [.int .i64 3] from rfl) (Reps.one (show Kd.M (Kd.int .i64) _ _ _ 3 [.int .i64 3] from rfl) (Reps.one (show Kd.M (Kd.int .i64) _ _ _ 4 [.int .i64 4] from rfl) (Reps.one (show Kd.M (Kd.int .i64) _ _ _ 4 [.int .i64 4] from rfl) (Reps.one (show Kd.M (Kd.int .i64) _ _ _ 5 [.int .i64 5] from rfl) (Reps.one (show Kd.M (Kd.int .i64) _ _ _ 6 [.int .i64 6] from rfl) (Reps.one (show Kd.M (Kd.int .i64) _ _ _ 7 [.int .i64 7] from rfl) (Reps.one (show Kd.M (Kd.int .i64) _ _ _ 8 [.int .i64 8] from rfl) (Reps.one (show Kd.M (Kd.int .i64) _ _ _ 9 [.int .i64 9] from rfl) (Reps.one (show Kd.M (Kd.int .i64) _ _ _ 2 [.int .i64 2] from rfl) (Reps.one (show Kd.M (Kd.int .i64) _ _ _ t171 [.int .i64 t171] from rfl) (Reps.one (show Kd.M (Kd.int .i64) _ _ _ t173 [.int .i64 t173] from rfl) (Reps.none _ _)))))))))))))))))); intro v176 w13 ho14 hb hg_ hnew_; clear hg_ hnew_; (first | rw [← q8.out] at ho14 | (simp only [Int.reduceToNat] at ho14; rw [← q8.out] at ho14)); have n0_ := A_ (Kd.R_lower ho14 (keep_size (w := w) (g := g) (row := none) (yah_))); have n1_ := A_ (IsS69.below (by repeat (yai_)) hb); have n2_ := A_ (bB_ (g := gb170) (o := .cells #[.int .i64 0, .int .i64 0, .int .i64 0, .int .i64 0, .int .i64 0, .int .i64 0] 75 (0, 0)) (by (ya_); exact z0.out) hb); have n3_ := A_ (kT_ (yah_) (kO_ hb g none) (.inl rfl)); have n4_ := A_ (wT_ (by repeat (yal_)) hb); clear HI0; clear z0; clear HK; clear HB; have zl := n0_; have HI0 := n1_; have z0 := n2_; have HK := n3_; have HB := n4_; clear n0_ n1_ n2_ n3_ n4_; clear hb ho14) | ((yae_); refine goesL_ (some 17) rfl rfl Try.func45 (by kernel_rfl) rfl #[.pointer (some ⟨g, 0, none⟩), .int .i64 16] rfl (yad_) ?_; (with_reducible refine (spec_l20Rd_pick.calls k g s0_0 t174 16 t178 t179 w0 _ ?side1 ?side2 A5.out).mono ?_); (case side1 => repeat (yai_)); (case side2 => repeat (yal_)); rintro e w15 ⟨rfl, hi, hb, hk⟩; refine ⟨_, rfl, ?_⟩; have n0_ := A_ (kB_ hk (g' := gb170) (o := .cells #[.int .i64 0, .int .i64 0, .int .i64 0, .int .i64 0, .int .i64 0, .int .i64 0] 75 (0, 0)) (by (ya_); exact z0.out) zc.out (by simp)); have n1_ := A_ (rM_ (Kd.R_keep (IsS69.apart (show IsS69 w0 _ g s0_0 t174 from by repeat (yai_)) (by (yaf_); exact zl.out) (by decide)) hk (fun _ h => h.2)) (fun _ h => h.1)); have n2_ := A_ (kT_ (yah_) hk (.inl rfl)); have n3_ := A_ (hb); have n4_ := A_ (hi); clear z0; clear zl; clear HK; clear HB; clear HI0; have z0 := n0_; have zl := n1_; have HK := n2_; have HB := n3_; have HI0 := n4_; clear n0_ n1_ n2_ n3_ n4_; (try clear hb); (try clear hb2); (try clear hk); (try clear hi); obtain ⟨Ao16, co16, eo16⟩ := Kd.R_slice zl.out; subst eo16; have p180 : 0 ≤ (t178 : Int) := of_decide_eq_true (yag_); have q180 : t178 < (y175.length : Int) := of_decide_eq_true (yag_); obtain ⟨ad180, e180, hx180_0⟩ := Kd.at_int (Kd.R_reads' zl.out).2.2 t178 p180 q180; cases e180; replace p180 := eq_true p180; replace q180 := eq_true q180) | ((with_reducible refine gate_dst (N := 5) rfl ?_); refine box_event ?hg (N := 5) ?hd (cs := #[.int .i64 0, .int .i64 0, .int .i64 0, .int .i64 0, .int .i64 0, .int .i64 0]) (t := 75) ?hr ?_; (case hd => rfl); (case hg => rfl); (yak_); intro gb181 hg w17 hbox hb; have n0_ := A_ (rB_ (by (yaf_); exact zl.out) hb); have n1_ := A_ (IsS69.below (by repeat (yai_)) hb); have n2_ := A_ (bB_ (g := gb170) (o := .cells #[.int .i64 0, .int .i64 0, .int .i64 0, .int .i64 0, .int .i64 0, .int .i64 0] 75 (0, 0)) (by (ya_); exact z0.out) hb); have n3_ := A_ (kT_ (yah_) (kO_ hb g none) (.inl rfl)); have n4_ := A_ (wT_ (by repeat (yal_)) hb); have n5_ := A_ (hbox); have n6_ := A_ ((by rw [hg]; exact (keep_size (w := w) (g := g) (row := none) (yah_)) : w.heap.size ≤ gb181)); have n7_ := A_ ((Nat.le_trans HW0.out (by rw [hg]; exact (keep_size (w := w) (g := g) (row := none) (yah_)) : w.heap.size ≤ gb181) : w0.heap.size ≤ gb181)); have n8_ := A_ ((by rw [hg]; exact Nat.ne_of_lt (blk_lt (g := gb170) (o := .cells #[.int .i64 0, .int .i64 0, .int .i64 0, .int .i64 0, .int .i64 0, .int .i64 0] 75 (0, 0)) (by (ya_); exact z0.out)) : gb170 ≠ gb181)); have n9_ := A_ ((by rw [hg]; exact Nat.ne_of_gt (blk_lt (g := gb170) (o := .cells #[.int .i64 0, .int .i64 0, .int .i64 0, .int .i64 0, .int .i64 0, .int .i64 0] 75 (0, 0)) (by (ya_); exact z0.out)) : gb181 ≠ gb170)); have n10_ := A_ ((by rw [hg]; exact Nat.ne_of_lt (IsS69.lt (show IsS69 w0 _ g s0_0 t179 from by repeat (yai_))) : g ≠ gb181)); have n11_ := A_ ((by rw [hg]; exact Nat.ne_of_gt (IsS69.lt (show IsS69 w0 _ g s0_0 t179 from by repeat (yai_))) : gb181 ≠ g)); clear zl; clear HI0; clear z0; clear HK; clear HB; have zl := n0_; have HI0 := n1_; have z0 := n2_; have HK := n3_; have HB := n4_; have z := n5_; have z8 := n6_; have za := n7_; have ze := n8_; have zo := n9_; have z5 := n10_; have zb := n11_; clear n0_ n1_ n2_ n3_ n4_ n5_ n6_ n7_ n8_ n9_ n10_ n11_; clear hb hbox hg; have hnb18 := zo.out; have hnc18 := ze.out; have hnb19 := zb.out; have hnc19 := z5.out; have hcz20_0 : w17.cell? ⟨gb181, 0, none⟩ = some (.int .i64 0) := (bC_ z.out 0).trans rfl; have hcz20_1 : w17.cell? ⟨gb181, 1, none⟩ = some (.int .i64 0) := (bC_ z.out 1).trans rfl; have hcz20_2 : w17.cell? ⟨gb181, 2, none⟩ = some (.int .i64 0) := (bC_ z.out 2).trans rfl; have hcz20_3 : w17.cell? ⟨gb181, 3, none⟩ = some (.int .i64 0) := (bC_ z.out 3).trans rfl; have hcz20_4 : w17.cell? ⟨gb181, 4, none⟩ = some (.int .i64 0) := (bC_ z.out 4).trans rfl; have hcz20_5 : w17.cell? ⟨gb181, 5, none⟩ = some (.int .i64 0) := (bC_ z.out 5).trans rfl; have hfz20_0 := bF_ z.out 0; have hfz20_1 := bF_ z.out 1; have hfz20_2 := bF_ z.out 2; have hfz20_3 := bF_ z.out 3; have hfz20_4 := bF_ z.out 4; have hfz20_5 := bF_ z.out 5) | ((with_reducible refine gate_callee (f := 71) rfl ?_); refine goesL_ (some 24) rfl rfl Try.func71 (by kernel_rfl) rfl #[.int .i64 (rd y175 t178)] rfl (yad_) ?_; (with_reducible refine (spec_l2Has.calls k (rd y175 t178) t182 t183 t184 t185 t186 _ A8.out).mono ?_); rintro e w' ⟨rfl, ⟨nd, rfl⟩⟩; refine ⟨_, rfl, ?_⟩))
   (try simp only [Act.put, sT_, s0_, s1_])
   go_cut [] (fun wc => ∃ (kq : Nat) (zw : Int) (z1 : Int), Aside0 (spec_l20Inst.j0 kq a1 t183 t184 t185 t186 s0_0 zw (rd y175 t178) z1 0 0 0 0 = some (r1, r2, r3, r4, r5, r6, r7)) ∧ Aside0 (kq ≤ k) ∧ Aside0 (wc.heap[gb170]? = some (.cells #[.int .i64 0, .int .i64 0, .int .i64 0, .int .i64 0, .int .i64 0, .int .i64 0] 75 (0, 0))) ∧ Aside0 (wc.heap[gb181]? = some (.cells #[.int .i64 (rd y175 t178), .int .i64 z1, .int .i64 0, .int .i64 0, .int .i64 0, .int .i64 0] 75 (0, 0))) ∧ Aside0 (IsS69 w0 wc g s0_0 zw) ∧ Aside0 (KeepBut w wc g none) ∧ Aside0 (Below w0.heap.size w0 wc))
   case first =>
    have H := HC9.out
    clear HC9
    by_cases c21 : t182 = true
    ·subst c21
     have H1 : ((spec_l20Rd_pick.f k s0_0 t179 3).bind fun bt187 => ((spec_l20Rd_pick.f k s0_0 bt187.2 8).bind fun bt189 => ((some (([wrap64 (1 + bt187.1), bt189.1] : List Int) : List Int)).bind fun y191 => ((spec_l20Rd_pick.f k s0_0 bt189.2 2).bind fun bt194 => (if 0 ≤ bt194.1 then (if bt194.1 < (y191.length : Int) then (spec_l20Inst.j0 k a1 t183 t184 t185 t186 s0_0 bt194.2 (rd y175 t178) (rd y191 bt194.1) 0 0 0 0) else (none)) else (none)))))) = some (r1, r2, r3, r4, r5, r6, r7) := by rw [if_pos rfl] at H; exact H
     clear H
     have H := H1
     clear H1
     replace H := Option.bind_eq_some_iff.mp H
     obtain ⟨⟨t187, t188⟩, A220, H⟩ := H
     replace H : ((spec_l20Rd_pick.f k s0_0 t188 8).bind fun bt189 => ((some (([wrap64 (1 + t187), bt189.1] : List Int) : List Int)).bind fun y191 => ((spec_l20Rd_pick.f k s0_0 bt189.2 2).bind fun bt194 => (if 0 ≤ bt194.1 then (if bt194.1 < (y191.length : Int) then (spec_l20Inst.j0 k a1 t183 t184 t185 t186 s0_0 bt194.2 (rd y175 t178) (rd y191 bt194.1) 0 0 0 0) else (none)) else (none))))) = some (r1, r2, r3, r4, r5, r6, r7) := H
     have A22 := A_ A220
     clear A220
     replace H := Option.bind_eq_some_iff.mp H
     obtain ⟨⟨t189, t190⟩, A230, H⟩ := H
     replace H : ((some (([wrap64 (1 + t187), t189] : List Int) : List Int)).bind fun y191 => ((spec_l20Rd_pick.f k s0_0 t190 2).bind fun bt194 => (if 0 ≤ bt194.1 then (if bt194.1 < (y191.length : Int) then (spec_l20Inst.j0 k a1 t183 t184 t185 t186 s0_0 bt194.2 (rd y175 t178) (rd y191 bt194.1) 0 0 0 0) else (none)) else (none)))) = some (r1, r2, r3, r4, r5, r6, r7) := H
     have A23 := A_ A230
     clear A230
     obtain ⟨y191, hy191⟩ : ∃ y_ : List Int, y_ = (([wrap64 (1 + t187), t189] : List Int)) := ⟨_, rfl⟩
     replace H : ((spec_l20Rd_pick.f k s0_0 t190 2).bind fun bt194 => (if 0 ≤ bt194.1 then (if bt194.1 < (y191.length : Int) then (spec_l20Inst.j0 k a1 t183 t184 t185 t186 s0_0 bt194.2 (rd y175 t178) (rd y191 bt194.1) 0 0 0 0) else (none)) else (none))) = some (r1, r2, r3, r4, r5, r6, r7) := by first | (rw [hy191]; with_reducible exact H) | (have H2_ := (Option.bind_some _ _).symm.trans H; rw [hy191]; with_reducible exact H2_) | (have H2_ := (Option.bind_some _ _).symm.trans H; with_reducible exact H2_) | with_reducible exact H | (rw [hy191]; exact H) | exact H
     have q9 := A_ hy191
     clear hy191
     replace H := Option.bind_eq_some_iff.mp H
     obtain ⟨⟨t194, t195⟩, A240, H⟩ := H
     replace H : (if 0 ≤ t194 then (if t194 < (y191.length : Int) then (spec_l20Inst.j0 k a1 t183 t184 t185 t186 s0_0 t195 (rd y175 t178) (rd y191 t194) 0 0 0 0) else (none)) else (none)) = some (r1, r2, r3, r4, r5, r6, r7) := H
     have A24 := A_ A240
     clear A240
     by_cases c25 : 0 ≤ t194
     ·rw [if_pos c25] at H
      have c25b0 : decide (0 ≤ t194) = true := decide_eq_true c25
      clear c25
      (first | rw [c25b0] | (simp only [i64_w, i32_w]; rw [c25b0]) | skip)
      by_cases c26 : t194 < (y191.length : Int)
      ·rw [if_pos c26] at H
       have c26b0 : decide (t194 < (y191.length : Int)) = true := decide_eq_true c26
       clear c26
       have H' := A_ H
       clear H
       go_wp2_with (first | ((yae_); refine goesL_ (some 32) rfl rfl Try.func45 (by kernel_rfl) rfl #[.pointer (some ⟨g, 0, none⟩), .int .i64 3] rfl (yad_) ?_; (with_reducible refine (spec_l20Rd_pick.calls k g s0_0 t179 3 t187 t188 w0 _ ?side1 ?side2 A22.out).mono ?_); (case side1 => repeat (yaa_)); (case side2 => repeat (yac_)); rintro e w27 ⟨rfl, hi, hb, hk⟩; refine ⟨_, rfl, ?_⟩; have n0_ := A_ (kB_ hk (g' := gb170) (o := .cells #[.int .i64 0, .int .i64 0, .int .i64 0, .int .i64 0, .int .i64 0, .int .i64 0] 75 (0, 0)) (by (ya_); refine blk_far ?_ ze.out _; (ya_); refine blk_far ?_ ze.out _; (ya_); refine blk_far ?_ ze.out _; (ya_); refine blk_far ?_ ze.out _; (ya_); refine blk_far ?_ ze.out _; (ya_); refine blk_far ?_ ze.out _; (ya_); exact z0.out) zc.out (by simp)); have n1_ := A_ (rM_ (Kd.R_keep (IsS69.apart (show IsS69 w0 _ g s0_0 t179 from by repeat (yaa_)) (by (yaf_); exact (rM_ (Kd.R_far (p := ⟨gb181, 5, none⟩) (Kd.R_far (p := ⟨gb181, 4, none⟩) (Kd.R_far (p := ⟨gb181, 3, none⟩) (Kd.R_far (p := ⟨gb181, 2, none⟩) (Kd.R_far (p := ⟨gb181, 1, none⟩) (Kd.R_far (p := ⟨gb181, 0, none⟩) (Kd.R_types zl.out z.out (by decide)) (fun _ hk => hk.2) (.int .i64 (rd y175 t178))) (fun _ hk => hk.2) (.int .i64 0)) (fun _ hk => hk.2) (.int .i64 0)) (fun _ hk => hk.2) (.int .i64 0)) (fun _ hk => hk.2) (.int .i64 0)) (fun _ hk => hk.2) (.int .i64 0)) (fun _ h_ => h_.1))) (by decide)) hk (fun _ h => h.2)) (fun _ h => h.1)); have n2_ := A_ (kB_ hk (g' := gb181) (o := .cells #[.int .i64 (rd y175 t178), .int .i64 0, .int .i64 0, .int .i64 0, .int .i64 0, .int .i64 0] 75 (0, 0)) (by (ya_); refine blk_put (cs := #[.int .i64 (rd y175 t178), .int .i64 0, .int .i64 0, .int .i64 0, .int .i64 0, .int .i64 0]) ?_ 5 _ rfl; (ya_); refine blk_put (cs := #[.int .i64 (rd y175 t178), .int .i64 0, .int .i64 0, .int .i64 0, .int .i64 0, .int .i64 0]) ?_ 4 _ rfl; (ya_); refine blk_put (cs := #[.int .i64 (rd y175 t178), .int .i64 0, .int .i64 0, .int .i64 0, .int .i64 0, .int .i64 0]) ?_ 3 _ rfl; (ya_); refine blk_put (cs := #[.int .i64 (rd y175 t178), .int .i64 0, .int .i64 0, .int .i64 0, .int .i64 0, .int .i64 0]) ?_ 2 _ rfl; (ya_); refine blk_put (cs := #[.int .i64 (rd y175 t178), .int .i64 0, .int .i64 0, .int .i64 0, .int .i64 0, .int .i64 0]) ?_ 1 _ rfl; (ya_); refine blk_put (cs := #[.int .i64 0, .int .i64 0, .int .i64 0, .int .i64 0, .int .i64 0, .int .i64 0]) ?_ 0 _ rfl; (ya_); exact z.out) zb.out (by simp)); have n3_ := A_ (kT_ (by repeat (yab_)) hk (.inl rfl)); have n4_ := A_ (hb); have n5_ := A_ (hi); clear z0; clear zl; clear z; clear HK; clear HB; clear HI0; have z0 := n0_; have zl := n1_; have z := n2_; have HK := n3_; have HB := n4_; have HI0 := n5_; clear n0_ n1_ n2_ n3_ n4_ n5_; (try clear hb); (try clear hb2); (try clear hk); (try clear hi)) | ((yae_); refine goesL_ (some 35) rfl rfl Try.func45 (by kernel_rfl) rfl #[.pointer (some ⟨g, 0, none⟩), .int .i64 8] rfl (yad_) ?_; (with_reducible refine (spec_l20Rd_pick.calls k g s0_0 t188 8 t189 t190 w0 _ ?side1 ?side2 A23.out).mono ?_); (case side1 => repeat (yaa_)); (case side2 => repeat (yac_)); rintro e w28 ⟨rfl, hi, hb, hk⟩; refine ⟨_, rfl, ?_⟩; have n0_ := A_ (kB_ hk (g' := gb170) (o := .cells #[.int .i64 0, .int .i64 0, .int .i64 0, .int .i64 0, .int .i64 0, .int .i64 0] 75 (0, 0)) (by (ya_); exact z0.out) zc.out (by simp)); have n1_ := A_ (rM_ (Kd.R_keep (IsS69.apart (show IsS69 w0 _ g s0_0 t188 from by repeat (yaa_)) (by (yaf_); exact zl.out) (by decide)) hk (fun _ h => h.2)) (fun _ h => h.1)); have n2_ := A_ (kB_ hk (g' := gb181) (o := .cells #[.int .i64 (rd y175 t178), .int .i64 0, .int .i64 0, .int .i64 0, .int .i64 0, .int .i64 0] 75 (0, 0)) (by (ya_); exact z.out) zb.out (by simp)); have n3_ := A_ (kT_ (by repeat (yab_)) hk (.inl rfl)); have n4_ := A_ (hb); have n5_ := A_ (hi); clear z0; clear zl; clear z; clear HK; clear HB; clear HI0; have z0 := n0_; have zl := n1_; have z := n2_; have HK := n3_; have HB := n4_; have HI0 := n5_; clear n0_ n1_ n2_ n3_ n4_ n5_; (try clear hb); (try clear hb2); (try clear hk); (try clear hi)) | ((with_reducible refine gate_dst (N := 36) rfl ?_); refine Kd.R_lit (Kd.int .i64) _ 3 ?hg (N := 36) ?hd (xs := ([wrap64 (1 + t187), t189] : List Int)) (inner := [.int .i64 (wrap64 (1 + t187)), .int .i64 t189]) (ok := fun _ => True) (okp := fun _ => True) ?hr ?hp (fun _ hk => hk) trivial (Below.refl _ _) (Nat.le_refl _) (by simp) ?_; (case hd => rfl); (case hg => rfl); (yak_); (case hp => exact (Reps.one (show Kd.M (Kd.int .i64) _ _ _ (wrap64 (1 + t187)) [.int .i64 (wrap64 (1 + t187))] from rfl) (Reps.one (show Kd.M (Kd.int .i64) _ _ _ t189 [.int .i64 t189] from rfl) (Reps.none _ _)))); intro v192 w29 ho30 hb hg_ hnew_; clear hg_ hnew_; (first | rw [← q9.out] at ho30 | (simp only [Int.reduceToNat] at ho30; rw [← q9.out] at ho30)); have n0_ := A_ (rE_ (by (yaf_); exact zl.out) (Kd.R_base ho30) hb); have n1_ := A_ (Kd.R_lower (Kd.R_new' ho30 (Kd.R_lt (by (yaf_); exact zl.out))) (keep_size (w := w) (g := g) (row := none) (by repeat (yab_)))); have n2_ := A_ (IsS69.below (by repeat (yaa_)) hb); have n3_ := A_ (bB_ (g := gb170) (o := .cells #[.int .i64 0, .int .i64 0, .int .i64 0, .int .i64 0, .int .i64 0, .int .i64 0] 75 (0, 0)) (by (ya_); exact z0.out) hb); have n4_ := A_ (bB_ (g := gb181) (o := .cells #[.int .i64 (rd y175 t178), .int .i64 0, .int .i64 0, .int .i64 0, .int .i64 0, .int .i64 0] 75 (0, 0)) (by (ya_); exact z.out) hb); have n5_ := A_ (kT_ (by repeat (yab_)) (kO_ hb g none) (.inl rfl)); have n6_ := A_ (wT_ (by repeat (yac_)) hb); clear zl; clear HI0; clear z0; clear z; clear HK; clear HB; have zl := n0_; have zy := n1_; have HI0 := n2_; have z0 := n3_; have z := n4_; have HK := n5_; have HB := n6_; clear n0_ n1_ n2_ n3_ n4_ n5_ n6_; clear hb ho30) | ((yae_); refine goesL_ (some 38) rfl rfl Try.func45 (by kernel_rfl) rfl #[.pointer (some ⟨g, 0, none⟩), .int .i64 2] rfl (yad_) ?_; (with_reducible refine (spec_l20Rd_pick.calls k g s0_0 t190 2 t194 t195 w0 _ ?side1 ?side2 A24.out).mono ?_); (case side1 => repeat (yaa_)); (case side2 => repeat (yac_)); rintro e w31 ⟨rfl, hi, hb, hk⟩; refine ⟨_, rfl, ?_⟩; have n0_ := A_ (kB_ hk (g' := gb170) (o := .cells #[.int .i64 0, .int .i64 0, .int .i64 0, .int .i64 0, .int .i64 0, .int .i64 0] 75 (0, 0)) (by (ya_); exact z0.out) zc.out (by simp)); have n1_ := A_ (rM_ (Kd.R_keep (IsS69.apart (show IsS69 w0 _ g s0_0 t190 from by repeat (yaa_)) (by (yaf_); exact zl.out) (by decide)) hk (fun _ h => h.2)) (fun _ h => h.1)); have n2_ := A_ (kB_ hk (g' := gb181) (o := .cells #[.int .i64 (rd y175 t178), .int .i64 0, .int .i64 0, .int .i64 0, .int .i64 0, .int .i64 0] 75 (0, 0)) (by (ya_); exact z.out) zb.out (by simp)); have n3_ := A_ (rM_ (Kd.R_keep (IsS69.apart (show IsS69 w0 _ g s0_0 t190 from by repeat (yaa_)) (by (yaf_); exact zy.out) (by decide)) hk (fun _ h => h.2)) (fun _ h => h.1)); have n4_ := A_ (kT_ (by repeat (yab_)) hk (.inl rfl)); have n5_ := A_ (hb); have n6_ := A_ (hi); clear z0; clear zl; clear z; clear zy; clear HK; clear HB; clear HI0; have z0 := n0_; have zl := n1_; have z := n2_; have zy := n3_; have HK := n4_; have HB := n5_; have HI0 := n6_; clear n0_ n1_ n2_ n3_ n4_ n5_ n6_; (try clear hb); (try clear hb2); (try clear hk); (try clear hi); obtain ⟨Ao32, co32, eo32⟩ := Kd.R_slice zy.out; subst eo32; have p196 : 0 ≤ (t194 : Int) := of_decide_eq_true (yag_); have q196 : t194 < (y191.length : Int) := of_decide_eq_true (yag_); obtain ⟨ad196, e196, hx196_0⟩ := Kd.at_int (Kd.R_reads' zy.out).2.2 t194 p196 q196; cases e196; replace p196 := eq_true p196; replace q196 := eq_true q196; have hnb33 := zo.out; have hnc33 := ze.out; have hnb34 := zb.out; have hnc34 := z5.out; have hcz35_0 : w31.cell? ⟨gb181, 0, none⟩ = some (.int .i64 (rd y175 t178)) := (bC_ z.out 0).trans rfl; have hcz35_1 : w31.cell? ⟨gb181, 1, none⟩ = some (.int .i64 0) := (bC_ z.out 1).trans rfl; have hcz35_2 : w31.cell? ⟨gb181, 2, none⟩ = some (.int .i64 0) := (bC_ z.out 2).trans rfl; have hcz35_3 : w31.cell? ⟨gb181, 3, none⟩ = some (.int .i64 0) := (bC_ z.out 3).trans rfl; have hcz35_4 : w31.cell? ⟨gb181, 4, none⟩ = some (.int .i64 0) := (bC_ z.out 4).trans rfl; have hcz35_5 : w31.cell? ⟨gb181, 5, none⟩ = some (.int .i64 0) := (bC_ z.out 5).trans rfl; have hfz35_0 := bF_ z.out 0; have hfz35_1 := bF_ z.out 1; have hfz35_2 := bF_ z.out 2; have hfz35_3 := bF_ z.out 3; have hfz35_4 := bF_ z.out 4; have hfz35_5 := bF_ z.out 5))
       go_meet
       case rel => exact ⟨_, (t195), (rd y191 t194), H', ⟨by first | omega | exact Nat.le_refl _⟩, ⟨by (ya_); refine blk_far ?_ ze.out _; (ya_); exact z0.out⟩, ⟨by (ya_); refine blk_put (cs := #[.int .i64 (rd y175 t178), .int .i64 0, .int .i64 0, .int .i64 0, .int .i64 0, .int .i64 0]) ?_ 1 _ rfl; (ya_); exact z.out⟩, ⟨by repeat (yaa_)⟩, ⟨by repeat (yab_)⟩, ⟨by repeat (yac_)⟩⟩
      ·rw [if_neg c26] at H
       exact absurd H (by simp)
     ·rw [if_neg c25] at H
      exact absurd H (by simp)
    ·replace c21 := Bool.eq_false_iff.mpr c21
     subst c21
     have H1 : (spec_l20Inst.j0 k a1 t183 t184 t185 t186 s0_0 t179 (rd y175 t178) 0 0 0 0 0) = some (r1, r2, r3, r4, r5, r6, r7) := by rw [if_neg (show ¬ (false = true) by decide)] at H; exact H
     clear H
     have H := H1
     clear H1
     have H' := A_ H
     clear H
     go_wp2
     go_meet
     case rel => exact ⟨_, (t179), (0), H', ⟨by first | omega | exact Nat.le_refl _⟩, ⟨by (ya_); refine blk_far ?_ ze.out _; (ya_); refine blk_far ?_ ze.out _; (ya_); refine blk_far ?_ ze.out _; (ya_); refine blk_far ?_ ze.out _; (ya_); refine blk_far ?_ ze.out _; (ya_); refine blk_far ?_ ze.out _; (ya_); exact z0.out⟩, ⟨by (ya_); refine blk_put (cs := #[.int .i64 (rd y175 t178), .int .i64 0, .int .i64 0, .int .i64 0, .int .i64 0, .int .i64 0]) ?_ 5 _ rfl; (ya_); refine blk_put (cs := #[.int .i64 (rd y175 t178), .int .i64 0, .int .i64 0, .int .i64 0, .int .i64 0, .int .i64 0]) ?_ 4 _ rfl; (ya_); refine blk_put (cs := #[.int .i64 (rd y175 t178), .int .i64 0, .int .i64 0, .int .i64 0, .int .i64 0, .int .i64 0]) ?_ 3 _ rfl; (ya_); refine blk_put (cs := #[.int .i64 (rd y175 t178), .int .i64 0, .int .i64 0, .int .i64 0, .int .i64 0, .int .i64 0]) ?_ 2 _ rfl; (ya_); refine blk_put (cs := #[.int .i64 (rd y175 t178), .int .i64 0, .int .i64 0, .int .i64 0, .int .i64 0, .int .i64 0]) ?_ 1 _ rfl; (ya_); refine blk_put (cs := #[.int .i64 0, .int .i64 0, .int .i64 0, .int .i64 0, .int .i64 0, .int .i64 0]) ?_ 0 _ rfl; (ya_); exact z.out⟩, ⟨by repeat (yaa_)⟩, ⟨by repeat (yab_)⟩, ⟨by repeat (yac_)⟩⟩
   case rest =>
    clear HC9
    try clear c1
    try clear p1
    try clear q1
    try clear hx1
    try clear c2
    try clear p2
    try clear c3
    try clear c4
    try clear c6
    try clear c6b0
    try clear p6
    try clear c7
    try clear c7b0
    try clear c18
    try clear p18
    try clear q18
    try clear hx18
    try clear c19
    try clear p19
    try clear q19
    try clear hx19
    try clear c21
    try clear c25
    try clear c25b0
    try clear c26
    try clear c26b0
    try clear c33
    try clear c34
    try clear hcz20_0
    try clear hcz20_1
    try clear hcz20_2
    try clear hcz20_3
    try clear hcz20_4
    try clear hcz20_5
    try clear hcz35_0
    try clear hcz35_1
    try clear hcz35_2
    try clear hcz35_3
    try clear hcz35_4
    try clear hcz35_5
    try clear hfz20_0
    try clear hfz20_1
    try clear hfz20_2
    try clear hfz20_3
    try clear hfz20_4
    try clear hfz20_5
    try clear hfz35_0
    try clear hfz35_1
    try clear hfz35_2
    try clear hfz35_3
    try clear hfz35_4
    try clear hfz35_5
    try clear hx180_0
    try clear hx196_0
    try clear p180
    try clear p196
    try clear q180
    try clear q196
    obtain ⟨kq, zw, z1, HA, HJ8, z0, z, HI0, HK, HB⟩ := hcut
    cases kq with
    | zero => exact absurd HA.out (by simp [spec_l20Inst.j0])
    | succ kj8 =>
     have H := HA.out
     clear HA
     simp only [spec_l20Inst.j0] at H
     have HC36 := A_ H
     clear H
     go_upto_if 42 with (fail)
     go_cut [] (fun wc => ∃ (kq : Nat) (zx : Int) (z2 : Int), Aside0 (spec_l20Inst.j1 kq a1 t184 t185 t186 s0_0 zx (rd y175 t178) z1 z2 0 0 0 = some (r1, r2, r3, r4, r5, r6, r7)) ∧ Aside0 (kq ≤ kj8) ∧ Aside0 (wc.heap[gb170]? = some (.cells #[.int .i64 0, .int .i64 0, .int .i64 0, .int .i64 0, .int .i64 0, .int .i64 0] 75 (0, 0))) ∧ Aside0 (wc.heap[gb181]? = some (.cells #[.int .i64 (rd y175 t178), .int .i64 z1, .int .i64 z2, .int .i64 0, .int .i64 0, .int .i64 0] 75 (0, 0))) ∧ Aside0 (IsS69 w0 wc g s0_0 zx) ∧ Aside0 (KeepBut w wc g none) ∧ Aside0 (Below w0.heap.size w0 wc))
     case first =>
      have H := HC36.out
      clear HC36
      by_cases c37 : t183 = true
      ·subst c37
       have H1 : ((spec_l20Rd_pick.f kj8 s0_0 zw 4).bind fun bt197 => ((spec_l20Rd_pick.f kj8 s0_0 bt197.2 8).bind fun bt199 => ((some (([bt197.1, bt199.1] : List Int) : List Int)).bind fun y201 => ((spec_l20Rd_pick.f kj8 s0_0 bt199.2 2).bind fun bt204 => (if 0 ≤ bt204.1 then (if bt204.1 < (y201.length : Int) then (spec_l20Inst.j1 kj8 a1 t184 t185 t186 s0_0 bt204.2 (rd y175 t178) z1 (rd y201 bt204.1) 0 0 0) else (none)) else (none)))))) = some (r1, r2, r3, r4, r5, r6, r7) := by rw [if_pos rfl] at H; exact H
       clear H
       have H := H1
       clear H1
       replace H := Option.bind_eq_some_iff.mp H
       obtain ⟨⟨t197, t198⟩, A380, H⟩ := H
       replace H : ((spec_l20Rd_pick.f kj8 s0_0 t198 8).bind fun bt199 => ((some (([t197, bt199.1] : List Int) : List Int)).bind fun y201 => ((spec_l20Rd_pick.f kj8 s0_0 bt199.2 2).bind fun bt204 => (if 0 ≤ bt204.1 then (if bt204.1 < (y201.length : Int) then (spec_l20Inst.j1 kj8 a1 t184 t185 t186 s0_0 bt204.2 (rd y175 t178) z1 (rd y201 bt204.1) 0 0 0) else (none)) else (none))))) = some (r1, r2, r3, r4, r5, r6, r7) := H
       have A38 := A_ A380
       clear A380
       replace H := Option.bind_eq_some_iff.mp H
       obtain ⟨⟨t199, t200⟩, A390, H⟩ := H
       replace H : ((some (([t197, t199] : List Int) : List Int)).bind fun y201 => ((spec_l20Rd_pick.f kj8 s0_0 t200 2).bind fun bt204 => (if 0 ≤ bt204.1 then (if bt204.1 < (y201.length : Int) then (spec_l20Inst.j1 kj8 a1 t184 t185 t186 s0_0 bt204.2 (rd y175 t178) z1 (rd y201 bt204.1) 0 0 0) else (none)) else (none)))) = some (r1, r2, r3, r4, r5, r6, r7) := H
       have A39 := A_ A390
       clear A390
       obtain ⟨y201, hy201⟩ : ∃ y_ : List Int, y_ = (([t197, t199] : List Int)) := ⟨_, rfl⟩
       replace H : ((spec_l20Rd_pick.f kj8 s0_0 t200 2).bind fun bt204 => (if 0 ≤ bt204.1 then (if bt204.1 < (y201.length : Int) then (spec_l20Inst.j1 kj8 a1 t184 t185 t186 s0_0 bt204.2 (rd y175 t178) z1 (rd y201 bt204.1) 0 0 0) else (none)) else (none))) = some (r1, r2, r3, r4, r5, r6, r7) := by first | (rw [hy201]; with_reducible exact H) | (have H2_ := (Option.bind_some _ _).symm.trans H; rw [hy201]; with_reducible exact H2_) | (have H2_ := (Option.bind_some _ _).symm.trans H; with_reducible exact H2_) | with_reducible exact H | (rw [hy201]; exact H) | exact H
       have qa := A_ hy201
       clear hy201
       replace H := Option.bind_eq_some_iff.mp H
       obtain ⟨⟨t204, t205⟩, A400, H⟩ := H
       replace H : (if 0 ≤ t204 then (if t204 < (y201.length : Int) then (spec_l20Inst.j1 kj8 a1 t184 t185 t186 s0_0 t205 (rd y175 t178) z1 (rd y201 t204) 0 0 0) else (none)) else (none)) = some (r1, r2, r3, r4, r5, r6, r7) := H
       have A40 := A_ A400
       clear A400
       by_cases c41 : 0 ≤ t204
       ·rw [if_pos c41] at H
        have c41b0 : decide (0 ≤ t204) = true := decide_eq_true c41
        clear c41
        (first | rw [c41b0] | (simp only [i64_w, i32_w]; rw [c41b0]) | skip)
        by_cases c42 : t204 < (y201.length : Int)
        ·rw [if_pos c42] at H
         have c42b0 : decide (t204 < (y201.length : Int)) = true := decide_eq_true c42
         clear c42
         have H' := A_ H
         clear H
         go_wp2_with (first | ((yae_); refine goesL_ (some 44) rfl rfl Try.func45 (by kernel_rfl) rfl #[.pointer (some ⟨g, 0, none⟩), .int .i64 4] rfl (yad_) ?_; (with_reducible refine (spec_l20Rd_pick.calls kj8 g s0_0 zw 4 t197 t198 w0 _ ?side1 ?side2 A38.out).mono ?_); (case side1 => repeat (yaa_)); (case side2 => repeat (yac_)); rintro e w43 ⟨rfl, hi, hb, hk⟩; refine ⟨_, rfl, ?_⟩; have n0_ := A_ (kB_ hk (g' := gb170) (o := .cells #[.int .i64 0, .int .i64 0, .int .i64 0, .int .i64 0, .int .i64 0, .int .i64 0] 75 (0, 0)) (by (ya_); exact z0.out) zc.out (by simp)); have n1_ := A_ (kB_ hk (g' := gb181) (o := .cells #[.int .i64 (rd y175 t178), .int .i64 z1, .int .i64 0, .int .i64 0, .int .i64 0, .int .i64 0] 75 (0, 0)) (by (ya_); exact z.out) zb.out (by simp)); have n2_ := A_ (kT_ (by repeat (yab_)) hk (.inl rfl)); have n3_ := A_ (hb); have n4_ := A_ (hi); clear z0; clear z; clear HK; clear HB; clear HI0; have z0 := n0_; have z := n1_; have HK := n2_; have HB := n3_; have HI0 := n4_; clear n0_ n1_ n2_ n3_ n4_; (try clear hb); (try clear hb2); (try clear hk); (try clear hi)) | ((yae_); refine goesL_ (some 46) rfl rfl Try.func45 (by kernel_rfl) rfl #[.pointer (some ⟨g, 0, none⟩), .int .i64 8] rfl (yad_) ?_; (with_reducible refine (spec_l20Rd_pick.calls kj8 g s0_0 t198 8 t199 t200 w0 _ ?side1 ?side2 A39.out).mono ?_); (case side1 => repeat (yaa_)); (case side2 => repeat (yac_)); rintro e w44 ⟨rfl, hi, hb, hk⟩; refine ⟨_, rfl, ?_⟩; have n0_ := A_ (kB_ hk (g' := gb170) (o := .cells #[.int .i64 0, .int .i64 0, .int .i64 0, .int .i64 0, .int .i64 0, .int .i64 0] 75 (0, 0)) (by (ya_); exact z0.out) zc.out (by simp)); have n1_ := A_ (kB_ hk (g' := gb181) (o := .cells #[.int .i64 (rd y175 t178), .int .i64 z1, .int .i64 0, .int .i64 0, .int .i64 0, .int .i64 0] 75 (0, 0)) (by (ya_); exact z.out) zb.out (by simp)); have n2_ := A_ (kT_ (by repeat (yab_)) hk (.inl rfl)); have n3_ := A_ (hb); have n4_ := A_ (hi); clear z0; clear z; clear HK; clear HB; clear HI0; have z0 := n0_; have z := n1_; have HK := n2_; have HB := n3_; have HI0 := n4_; clear n0_ n1_ n2_ n3_ n4_; (try clear hb); (try clear hb2); (try clear hk); (try clear hi)) | ((with_reducible refine gate_dst (N := 47) rfl ?_); refine Kd.R_lit (Kd.int .i64) _ 3 ?hg (N := 47) ?hd (xs := ([t197, t199] : List Int)) (inner := [.int .i64 t197, .int .i64 t199]) (ok := fun _ => True) (okp := fun _ => True) ?hr ?hp (fun _ hk => hk) trivial (Below.refl _ _) (Nat.le_refl _) (by simp) ?_; (case hd => rfl); (case hg => rfl); (yak_); (case hp => exact (Reps.one (show Kd.M (Kd.int .i64) _ _ _ t197 [.int .i64 t197] from rfl) (Reps.one (show Kd.M (Kd.int .i64) _ _ _ t199 [.int .i64 t199] from rfl) (Reps.none _ _)))); intro v202 w45 ho46 hb hg_ hnew_; clear hg_ hnew_; (first | rw [← qa.out] at ho46 | (simp only [Int.reduceToNat] at ho46; rw [← qa.out] at ho46)); have n0_ := A_ (Kd.R_lower ho46 (keep_size (w := w) (g := g) (row := none) (by repeat (yab_)))); have n1_ := A_ (bB_ (g := gb170) (o := .cells #[.int .i64 0, .int .i64 0, .int .i64 0, .int .i64 0, .int .i64 0, .int .i64 0] 75 (0, 0)) (by (ya_); exact z0.out) hb); have n2_ := A_ (bB_ (g := gb181) (o := .cells #[.int .i64 (rd y175 t178), .int .i64 z1, .int .i64 0, .int .i64 0, .int .i64 0, .int .i64 0] 75 (0, 0)) (by (ya_); exact z.out) hb); have n3_ := A_ (IsS69.below (by repeat (yaa_)) hb); have n4_ := A_ (kT_ (by repeat (yab_)) (kO_ hb g none) (.inl rfl)); have n5_ := A_ (wT_ (by repeat (yac_)) hb); clear z0; clear z; clear HI0; clear HK; clear HB; have zz := n0_; have z0 := n1_; have z := n2_; have HI0 := n3_; have HK := n4_; have HB := n5_; clear n0_ n1_ n2_ n3_ n4_ n5_; clear hb ho46) | ((yae_); refine goesL_ (some 49) rfl rfl Try.func45 (by kernel_rfl) rfl #[.pointer (some ⟨g, 0, none⟩), .int .i64 2] rfl (yad_) ?_; (with_reducible refine (spec_l20Rd_pick.calls kj8 g s0_0 t200 2 t204 t205 w0 _ ?side1 ?side2 A40.out).mono ?_); (case side1 => repeat (yaa_)); (case side2 => repeat (yac_)); rintro e w47 ⟨rfl, hi, hb, hk⟩; refine ⟨_, rfl, ?_⟩; have n0_ := A_ (kB_ hk (g' := gb170) (o := .cells #[.int .i64 0, .int .i64 0, .int .i64 0, .int .i64 0, .int .i64 0, .int .i64 0] 75 (0, 0)) (by (ya_); exact z0.out) zc.out (by simp)); have n1_ := A_ (kB_ hk (g' := gb181) (o := .cells #[.int .i64 (rd y175 t178), .int .i64 z1, .int .i64 0, .int .i64 0, .int .i64 0, .int .i64 0] 75 (0, 0)) (by (ya_); exact z.out) zb.out (by simp)); have n2_ := A_ (rM_ (Kd.R_keep (IsS69.apart (show IsS69 w0 _ g s0_0 t200 from by repeat (yaa_)) (by (yaf_); exact zz.out) (by decide)) hk (fun _ h => h.2)) (fun _ h => h.1)); have n3_ := A_ (kT_ (by repeat (yab_)) hk (.inl rfl)); have n4_ := A_ (hb); have n5_ := A_ (hi); clear z0; clear z; clear zz; clear HK; clear HB; clear HI0; have z0 := n0_; have z := n1_; have zz := n2_; have HK := n3_; have HB := n4_; have HI0 := n5_; clear n0_ n1_ n2_ n3_ n4_ n5_; (try clear hb); (try clear hb2); (try clear hk); (try clear hi); obtain ⟨Ao48, co48, eo48⟩ := Kd.R_slice zz.out; subst eo48; have p206 : 0 ≤ (t204 : Int) := of_decide_eq_true (yag_); have q206 : t204 < (y201.length : Int) := of_decide_eq_true (yag_); obtain ⟨ad206, e206, hx206_0⟩ := Kd.at_int (Kd.R_reads' zz.out).2.2 t204 p206 q206; cases e206; replace p206 := eq_true p206; replace q206 := eq_true q206; have hnb49 := zo.out; have hnc49 := ze.out; have hnb50 := zb.out; have hnc50 := z5.out; have hcz51_0 : w47.cell? ⟨gb181, 0, none⟩ = some (.int .i64 (rd y175 t178)) := (bC_ z.out 0).trans rfl; have hcz51_1 : w47.cell? ⟨gb181, 1, none⟩ = some (.int .i64 z1) := (bC_ z.out 1).trans rfl; have hcz51_2 : w47.cell? ⟨gb181, 2, none⟩ = some (.int .i64 0) := (bC_ z.out 2).trans rfl; have hcz51_3 : w47.cell? ⟨gb181, 3, none⟩ = some (.int .i64 0) := (bC_ z.out 3).trans rfl; have hcz51_4 : w47.cell? ⟨gb181, 4, none⟩ = some (.int .i64 0) := (bC_ z.out 4).trans rfl; have hcz51_5 : w47.cell? ⟨gb181, 5, none⟩ = some (.int .i64 0) := (bC_ z.out 5).trans rfl; have hfz51_0 := bF_ z.out 0; have hfz51_1 := bF_ z.out 1; have hfz51_2 := bF_ z.out 2; have hfz51_3 := bF_ z.out 3; have hfz51_4 := bF_ z.out 4; have hfz51_5 := bF_ z.out 5))
         go_meet
         case rel => exact ⟨_, (t205), (rd y201 t204), H', ⟨by have := HJ8.out; first | omega | exact Nat.le_refl _⟩, ⟨by (ya_); refine blk_far ?_ ze.out _; (ya_); exact z0.out⟩, ⟨by (ya_); refine blk_put (cs := #[.int .i64 (rd y175 t178), .int .i64 z1, .int .i64 0, .int .i64 0, .int .i64 0, .int .i64 0]) ?_ 2 _ rfl; (ya_); exact z.out⟩, ⟨by repeat (yaa_)⟩, ⟨by repeat (yab_)⟩, ⟨by repeat (yac_)⟩⟩
        ·rw [if_neg c42] at H
         exact absurd H (by simp)
       ·rw [if_neg c41] at H
        exact absurd H (by simp)
      ·replace c37 := Bool.eq_false_iff.mpr c37
       subst c37
       have H1 : (spec_l20Inst.j1 kj8 a1 t184 t185 t186 s0_0 zw (rd y175 t178) z1 0 0 0 0) = some (r1, r2, r3, r4, r5, r6, r7) := by rw [if_neg (show ¬ (false = true) by decide)] at H; exact H
       clear H
       have H := H1
       clear H1
       have H' := A_ H
       clear H
       go_wp2
       go_meet
       case rel => exact ⟨_, (zw), (0), H', ⟨by have := HJ8.out; first | omega | exact Nat.le_refl _⟩, ⟨by (ya_); exact z0.out⟩, ⟨by (ya_); exact z.out⟩, ⟨by repeat (yaa_)⟩, ⟨by repeat (yab_)⟩, ⟨by repeat (yac_)⟩⟩
     case rest =>
      clear HC36
      try clear c1
      try clear p1
      try clear q1
      try clear hx1
      try clear c2
      try clear p2
      try clear q2
      try clear hx2
      try clear c3
      try clear c4
      try clear c5
      try clear c6
      try clear c6b0
      try clear p6
      try clear c7
      try clear c7b0
      try clear c18
      try clear p18
      try clear q18
      try clear hx18
      try clear c19
      try clear p19
      try clear q19
      try clear hx19
      try clear p20
      try clear q20
      try clear hx20
      try clear c21
      try clear c25
      try clear c25b0
      try clear c26
      try clear c26b0
      try clear c33
      try clear c34
      try clear c37
      try clear c41
      try clear c41b0
      try clear c42
      try clear c42b0
      try clear c45
      try clear c49
      try clear c50
      try clear hcz20_0
      try clear hcz20_1
      try clear hcz20_2
      try clear hcz20_3
      try clear hcz20_4
      try clear hcz20_5
      try clear hcz35_0
      try clear hcz35_1
      try clear hcz35_2
      try clear hcz35_3
      try clear hcz35_4
      try clear hcz35_5
      try clear hcz51_0
      try clear hcz51_1
      try clear hcz51_2
      try clear hcz51_3
      try clear hcz51_4
      try clear hcz51_5
      try clear hfz20_0
      try clear hfz20_1
      try clear hfz20_2
      try clear hfz20_3
      try clear hfz20_4
      try clear hfz20_5
      try clear hfz35_0
      try clear hfz35_1
      try clear hfz35_2
      try clear hfz35_3
      try clear hfz35_4
      try clear hfz35_5
      try clear hfz51_0
      try clear hfz51_1
      try clear hfz51_2
      try clear hfz51_3
      try clear hfz51_4
      try clear hfz51_5
      try clear hx180_0
      try clear hx196_0
      try clear hx206_0
      try clear p1
      try clear p18
      try clear p180
      try clear p19
      try clear p196
      try clear p2
      try clear p206
      try clear p6
      try clear q1
      try clear q18
      try clear q180
      try clear q19
      try clear q196
      try clear q206
      obtain ⟨kq, zx, z2, HA, zq, z0, z, HI0, HK, HB⟩ := hcut
      cases kq with
      | zero => exact absurd HA.out (by simp [spec_l20Inst.j1])
      | succ kj35 =>
       have H := HA.out
       clear HA
       simp only [spec_l20Inst.j1] at H
       have HC52 := A_ H
       clear H
       go_upto_if 53 with (fail)
       go_cut [] (fun wc => ∃ (kq : Nat) (zr : Int) (z3 : Int), Aside0 (spec_l20Inst.j2 kq a1 t185 t186 s0_0 zr (rd y175 t178) z1 z2 z3 0 0 = some (r1, r2, r3, r4, r5, r6, r7)) ∧ Aside0 (kq ≤ kj35) ∧ Aside0 (wc.heap[gb170]? = some (.cells #[.int .i64 0, .int .i64 0, .int .i64 0, .int .i64 0, .int .i64 0, .int .i64 0] 75 (0, 0))) ∧ Aside0 (wc.heap[gb181]? = some (.cells #[.int .i64 (rd y175 t178), .int .i64 z1, .int .i64 z2, .int .i64 z3, .int .i64 0, .int .i64 0] 75 (0, 0))) ∧ Aside0 (IsS69 w0 wc g s0_0 zr) ∧ Aside0 (KeepBut w wc g none) ∧ Aside0 (Below w0.heap.size w0 wc))
       case first =>
        have H := HC52.out
        clear HC52
        by_cases c53 : t184 = true
        ·subst c53
         have H1 : ((spec_l20Rd_pick.f kj35 s0_0 zx 4).bind fun bt207 => ((spec_l20Rd_pick.f kj35 s0_0 bt207.2 8).bind fun bt209 => ((some (([bt207.1, bt209.1] : List Int) : List Int)).bind fun y211 => ((spec_l20Rd_pick.f kj35 s0_0 bt209.2 2).bind fun bt214 => (if 0 ≤ bt214.1 then (if bt214.1 < (y211.length : Int) then (spec_l20Inst.j2 kj35 a1 t185 t186 s0_0 bt214.2 (rd y175 t178) z1 z2 (rd y211 bt214.1) 0 0) else (none)) else (none)))))) = some (r1, r2, r3, r4, r5, r6, r7) := by rw [if_pos rfl] at H; exact H
         clear H
         have H := H1
         clear H1
         replace H := Option.bind_eq_some_iff.mp H
         obtain ⟨⟨t207, t208⟩, A540, H⟩ := H
         replace H : ((spec_l20Rd_pick.f kj35 s0_0 t208 8).bind fun bt209 => ((some (([t207, bt209.1] : List Int) : List Int)).bind fun y211 => ((spec_l20Rd_pick.f kj35 s0_0 bt209.2 2).bind fun bt214 => (if 0 ≤ bt214.1 then (if bt214.1 < (y211.length : Int) then (spec_l20Inst.j2 kj35 a1 t185 t186 s0_0 bt214.2 (rd y175 t178) z1 z2 (rd y211 bt214.1) 0 0) else (none)) else (none))))) = some (r1, r2, r3, r4, r5, r6, r7) := H
         have A54 := A_ A540
         clear A540
         replace H := Option.bind_eq_some_iff.mp H
         obtain ⟨⟨t209, t210⟩, A550, H⟩ := H
         replace H : ((some (([t207, t209] : List Int) : List Int)).bind fun y211 => ((spec_l20Rd_pick.f kj35 s0_0 t210 2).bind fun bt214 => (if 0 ≤ bt214.1 then (if bt214.1 < (y211.length : Int) then (spec_l20Inst.j2 kj35 a1 t185 t186 s0_0 bt214.2 (rd y175 t178) z1 z2 (rd y211 bt214.1) 0 0) else (none)) else (none)))) = some (r1, r2, r3, r4, r5, r6, r7) := H
         have A55 := A_ A550
         clear A550
         obtain ⟨y211, hy211⟩ : ∃ y_ : List Int, y_ = (([t207, t209] : List Int)) := ⟨_, rfl⟩
         replace H : ((spec_l20Rd_pick.f kj35 s0_0 t210 2).bind fun bt214 => (if 0 ≤ bt214.1 then (if bt214.1 < (y211.length : Int) then (spec_l20Inst.j2 kj35 a1 t185 t186 s0_0 bt214.2 (rd y175 t178) z1 z2 (rd y211 bt214.1) 0 0) else (none)) else (none))) = some (r1, r2, r3, r4, r5, r6, r7) := by first | (rw [hy211]; with_reducible exact H) | (have H2_ := (Option.bind_some _ _).symm.trans H; rw [hy211]; with_reducible exact H2_) | (have H2_ := (Option.bind_some _ _).symm.trans H; with_reducible exact H2_) | with_reducible exact H | (rw [hy211]; exact H) | exact H
         have qb := A_ hy211
         clear hy211
         replace H := Option.bind_eq_some_iff.mp H
         obtain ⟨⟨t214, t215⟩, A560, H⟩ := H
         replace H : (if 0 ≤ t214 then (if t214 < (y211.length : Int) then (spec_l20Inst.j2 kj35 a1 t185 t186 s0_0 t215 (rd y175 t178) z1 z2 (rd y211 t214) 0 0) else (none)) else (none)) = some (r1, r2, r3, r4, r5, r6, r7) := H
         have A56 := A_ A560
         clear A560
         by_cases c57 : 0 ≤ t214
         ·rw [if_pos c57] at H
          have c57b0 : decide (0 ≤ t214) = true := decide_eq_true c57
          clear c57
          (first | rw [c57b0] | (simp only [i64_w, i32_w]; rw [c57b0]) | skip)
          by_cases c58 : t214 < (y211.length : Int)
          ·rw [if_pos c58] at H
           have c58b0 : decide (t214 < (y211.length : Int)) = true := decide_eq_true c58
           clear c58
           have H' := A_ H
           clear H
           go_wp2_with (first | ((yae_); refine goesL_ (some 55) rfl rfl Try.func45 (by kernel_rfl) rfl #[.pointer (some ⟨g, 0, none⟩), .int .i64 4] rfl (yad_) ?_; (with_reducible refine (spec_l20Rd_pick.calls kj35 g s0_0 zx 4 t207 t208 w0 _ ?side1 ?side2 A54.out).mono ?_); (case side1 => repeat (yaa_)); (case side2 => repeat (yac_)); rintro e w59 ⟨rfl, hi, hb, hk⟩; refine ⟨_, rfl, ?_⟩; have n0_ := A_ (kB_ hk (g' := gb170) (o := .cells #[.int .i64 0, .int .i64 0, .int .i64 0, .int .i64 0, .int .i64 0, .int .i64 0] 75 (0, 0)) (by (ya_); exact z0.out) zc.out (by simp)); have n1_ := A_ (kB_ hk (g' := gb181) (o := .cells #[.int .i64 (rd y175 t178), .int .i64 z1, .int .i64 z2, .int .i64 0, .int .i64 0, .int .i64 0] 75 (0, 0)) (by (ya_); exact z.out) zb.out (by simp)); have n2_ := A_ (kT_ (by repeat (yab_)) hk (.inl rfl)); have n3_ := A_ (hb); have n4_ := A_ (hi); clear z0; clear z; clear HK; clear HB; clear HI0; have z0 := n0_; have z := n1_; have HK := n2_; have HB := n3_; have HI0 := n4_; clear n0_ n1_ n2_ n3_ n4_; (try clear hb); (try clear hb2); (try clear hk); (try clear hi)) | ((yae_); refine goesL_ (some 57) rfl rfl Try.func45 (by kernel_rfl) rfl #[.pointer (some ⟨g, 0, none⟩), .int .i64 8] rfl (yad_) ?_; (with_reducible refine (spec_l20Rd_pick.calls kj35 g s0_0 t208 8 t209 t210 w0 _ ?side1 ?side2 A55.out).mono ?_); (case side1 => repeat (yaa_)); (case side2 => repeat (yac_)); rintro e w60 ⟨rfl, hi, hb, hk⟩; refine ⟨_, rfl, ?_⟩; have n0_ := A_ (kB_ hk (g' := gb170) (o := .cells #[.int .i64 0, .int .i64 0, .int .i64 0, .int .i64 0, .int .i64 0, .int .i64 0] 75 (0, 0)) (by (ya_); exact z0.out) zc.out (by simp)); have n1_ := A_ (kB_ hk (g' := gb181) (o := .cells #[.int .i64 (rd y175 t178), .int .i64 z1, .int .i64 z2, .int .i64 0, .int .i64 0, .int .i64 0] 75 (0, 0)) (by (ya_); exact z.out) zb.out (by simp)); have n2_ := A_ (kT_ (by repeat (yab_)) hk (.inl rfl)); have n3_ := A_ (hb); have n4_ := A_ (hi); clear z0; clear z; clear HK; clear HB; clear HI0; have z0 := n0_; have z := n1_; have HK := n2_; have HB := n3_; have HI0 := n4_; clear n0_ n1_ n2_ n3_ n4_; (try clear hb); (try clear hb2); (try clear hk); (try clear hi)) | ((with_reducible refine gate_dst (N := 58) rfl ?_); refine Kd.R_lit (Kd.int .i64) _ 3 ?hg (N := 58) ?hd (xs := ([t207, t209] : List Int)) (inner := [.int .i64 t207, .int .i64 t209]) (ok := fun _ => True) (okp := fun _ => True) ?hr ?hp (fun _ hk => hk) trivial (Below.refl _ _) (Nat.le_refl _) (by simp) ?_; (case hd => rfl); (case hg => rfl); (yak_); (case hp => exact (Reps.one (show Kd.M (Kd.int .i64) _ _ _ t207 [.int .i64 t207] from rfl) (Reps.one (show Kd.M (Kd.int .i64) _ _ _ t209 [.int .i64 t209] from rfl) (Reps.none _ _)))); intro v212 w61 ho62 hb hg_ hnew_; clear hg_ hnew_; (first | rw [← qb.out] at ho62 | (simp only [Int.reduceToNat] at ho62; rw [← qb.out] at ho62)); have n0_ := A_ (Kd.R_lower ho62 (keep_size (w := w) (g := g) (row := none) (by repeat (yab_)))); have n1_ := A_ (bB_ (g := gb170) (o := .cells #[.int .i64 0, .int .i64 0, .int .i64 0, .int .i64 0, .int .i64 0, .int .i64 0] 75 (0, 0)) (by (ya_); exact z0.out) hb); have n2_ := A_ (bB_ (g := gb181) (o := .cells #[.int .i64 (rd y175 t178), .int .i64 z1, .int .i64 z2, .int .i64 0, .int .i64 0, .int .i64 0] 75 (0, 0)) (by (ya_); exact z.out) hb); have n3_ := A_ (IsS69.below (by repeat (yaa_)) hb); have n4_ := A_ (kT_ (by repeat (yab_)) (kO_ hb g none) (.inl rfl)); have n5_ := A_ (wT_ (by repeat (yac_)) hb); clear z0; clear z; clear HI0; clear HK; clear HB; have q := n0_; have z0 := n1_; have z := n2_; have HI0 := n3_; have HK := n4_; have HB := n5_; clear n0_ n1_ n2_ n3_ n4_ n5_; clear hb ho62) | ((yae_); refine goesL_ (some 60) rfl rfl Try.func45 (by kernel_rfl) rfl #[.pointer (some ⟨g, 0, none⟩), .int .i64 2] rfl (yad_) ?_; (with_reducible refine (spec_l20Rd_pick.calls kj35 g s0_0 t210 2 t214 t215 w0 _ ?side1 ?side2 A56.out).mono ?_); (case side1 => repeat (yaa_)); (case side2 => repeat (yac_)); rintro e w63 ⟨rfl, hi, hb, hk⟩; refine ⟨_, rfl, ?_⟩; have n0_ := A_ (kB_ hk (g' := gb170) (o := .cells #[.int .i64 0, .int .i64 0, .int .i64 0, .int .i64 0, .int .i64 0, .int .i64 0] 75 (0, 0)) (by (ya_); exact z0.out) zc.out (by simp)); have n1_ := A_ (kB_ hk (g' := gb181) (o := .cells #[.int .i64 (rd y175 t178), .int .i64 z1, .int .i64 z2, .int .i64 0, .int .i64 0, .int .i64 0] 75 (0, 0)) (by (ya_); exact z.out) zb.out (by simp)); have n2_ := A_ (rM_ (Kd.R_keep (IsS69.apart (show IsS69 w0 _ g s0_0 t210 from by repeat (yaa_)) (by (yaf_); exact q.out) (by decide)) hk (fun _ h => h.2)) (fun _ h => h.1)); have n3_ := A_ (kT_ (by repeat (yab_)) hk (.inl rfl)); have n4_ := A_ (hb); have n5_ := A_ (hi); clear z0; clear z; clear q; clear HK; clear HB; clear HI0; have z0 := n0_; have z := n1_; have q := n2_; have HK := n3_; have HB := n4_; have HI0 := n5_; clear n0_ n1_ n2_ n3_ n4_ n5_; (try clear hb); (try clear hb2); (try clear hk); (try clear hi); obtain ⟨Ao64, co64, eo64⟩ := Kd.R_slice q.out; subst eo64; have p216 : 0 ≤ (t214 : Int) := of_decide_eq_true (yag_); have q216 : t214 < (y211.length : Int) := of_decide_eq_true (yag_); obtain ⟨ad216, e216, hx216_0⟩ := Kd.at_int (Kd.R_reads' q.out).2.2 t214 p216 q216; cases e216; replace p216 := eq_true p216; replace q216 := eq_true q216; have hnb65 := zo.out; have hnc65 := ze.out; have hnb66 := zb.out; have hnc66 := z5.out; have hcz67_0 : w63.cell? ⟨gb181, 0, none⟩ = some (.int .i64 (rd y175 t178)) := (bC_ z.out 0).trans rfl; have hcz67_1 : w63.cell? ⟨gb181, 1, none⟩ = some (.int .i64 z1) := (bC_ z.out 1).trans rfl; have hcz67_2 : w63.cell? ⟨gb181, 2, none⟩ = some (.int .i64 z2) := (bC_ z.out 2).trans rfl; have hcz67_3 : w63.cell? ⟨gb181, 3, none⟩ = some (.int .i64 0) := (bC_ z.out 3).trans rfl; have hcz67_4 : w63.cell? ⟨gb181, 4, none⟩ = some (.int .i64 0) := (bC_ z.out 4).trans rfl; have hcz67_5 : w63.cell? ⟨gb181, 5, none⟩ = some (.int .i64 0) := (bC_ z.out 5).trans rfl; have hfz67_0 := bF_ z.out 0; have hfz67_1 := bF_ z.out 1; have hfz67_2 := bF_ z.out 2; have hfz67_3 := bF_ z.out 3; have hfz67_4 := bF_ z.out 4; have hfz67_5 := bF_ z.out 5))
           go_meet
           case rel => exact ⟨_, (t215), (rd y211 t214), H', ⟨by have := HJ8.out; have := zq.out; first | omega | exact Nat.le_refl _⟩, ⟨by (ya_); refine blk_far ?_ ze.out _; (ya_); exact z0.out⟩, ⟨by (ya_); refine blk_put (cs := #[.int .i64 (rd y175 t178), .int .i64 z1, .int .i64 z2, .int .i64 0, .int .i64 0, .int .i64 0]) ?_ 3 _ rfl; (ya_); exact z.out⟩, ⟨by repeat (yaa_)⟩, ⟨by repeat (yab_)⟩, ⟨by repeat (yac_)⟩⟩
          ·rw [if_neg c58] at H
           exact absurd H (by simp)
         ·rw [if_neg c57] at H
          exact absurd H (by simp)
        ·replace c53 := Bool.eq_false_iff.mpr c53
         subst c53
         have H1 : (spec_l20Inst.j2 kj35 a1 t185 t186 s0_0 zx (rd y175 t178) z1 z2 0 0 0) = some (r1, r2, r3, r4, r5, r6, r7) := by rw [if_neg (show ¬ (false = true) by decide)] at H; exact H
         clear H
         have H := H1
         clear H1
         have H' := A_ H
         clear H
         go_wp2
         go_meet
         case rel => exact ⟨_, (zx), (0), H', ⟨by have := HJ8.out; have := zq.out; first | omega | exact Nat.le_refl _⟩, ⟨by (ya_); exact z0.out⟩, ⟨by (ya_); exact z.out⟩, ⟨by repeat (yaa_)⟩, ⟨by repeat (yab_)⟩, ⟨by repeat (yac_)⟩⟩
       case rest =>
        clear HC52
        try clear c1
        try clear p1
        try clear q1
        try clear hx1
        try clear c2
        try clear p2
        try clear q2
        try clear hx2
        try clear c3
        try clear c4
        try clear c5
        try clear c6
        try clear c6b0
        try clear p6
        try clear c7
        try clear c7b0
        try clear c18
        try clear p18
        try clear q18
        try clear hx18
        try clear c19
        try clear p19
        try clear q19
        try clear hx19
        try clear p20
        try clear q20
        try clear hx20
        try clear c21
        try clear p21
        try clear q21
        try clear hx21
        try clear c25
        try clear c25b0
        try clear c26
        try clear c26b0
        try clear c33
        try clear c34
        try clear c37
        try clear c41
        try clear c41b0
        try clear c42
        try clear c42b0
        try clear c45
        try clear c49
        try clear c50
        try clear c53
        try clear c57
        try clear c57b0
        try clear c58
        try clear c58b0
        try clear c61
        try clear p64
        try clear c65
        try clear c66
        try clear hcz20_0
        try clear hcz20_1
        try clear hcz20_2
        try clear hcz20_3
        try clear hcz20_4
        try clear hcz20_5
        try clear hcz35_0
        try clear hcz35_1
        try clear hcz35_2
        try clear hcz35_3
        try clear hcz35_4
        try clear hcz35_5
        try clear hcz51_0
        try clear hcz51_1
        try clear hcz51_2
        try clear hcz51_3
        try clear hcz51_4
        try clear hcz51_5
        try clear hcz67_0
        try clear hcz67_1
        try clear hcz67_2
        try clear hcz67_3
        try clear hcz67_4
        try clear hcz67_5
        try clear hfz20_0
        try clear hfz20_1
        try clear hfz20_2
        try clear hfz20_3
        try clear hfz20_4
        try clear hfz20_5
        try clear hfz35_0
        try clear hfz35_1
        try clear hfz35_2
        try clear hfz35_3
        try clear hfz35_4
        try clear hfz35_5
        try clear hfz51_0
        try clear hfz51_1
        try clear hfz51_2
        try clear hfz51_3
        try clear hfz51_4
        try clear hfz51_5
        try clear hfz67_0
        try clear hfz67_1
        try clear hfz67_2
        try clear hfz67_3
        try clear hfz67_4
        try clear hfz67_5
        try clear hx180_0
        try clear hx196_0
        try clear hx206_0
        try clear hx216_0
        try clear p1
        try clear p18
        try clear p180
        try clear p19
        try clear p196
        try clear p2
        try clear p20
        try clear p206
        try clear p216
        try clear p6
        try clear q1
        try clear q18
        try clear q180
        try clear q19
        try clear q196
        try clear q2
        try clear q20
        try clear q206
        try clear q216
        obtain ⟨kq, zr, z3, HA, zs, z0, z, HI0, HK, HB⟩ := hcut
        cases kq with
        | zero => exact absurd HA.out (by simp [spec_l20Inst.j2])
        | succ kj51 =>
         have H := HA.out
         clear HA
         simp only [spec_l20Inst.j2] at H
         have HC68 := A_ H
         clear H
         go_upto_if 64 with (fail)
         go_cut [] (fun wc => ∃ (kq : Nat) (zu : Int) (z4 : Int), Aside0 (spec_l20Inst.j3 kq a1 t186 s0_0 zu (rd y175 t178) z1 z2 z3 z4 0 = some (r1, r2, r3, r4, r5, r6, r7)) ∧ Aside0 (kq ≤ kj51) ∧ Aside0 (wc.heap[gb170]? = some (.cells #[.int .i64 0, .int .i64 0, .int .i64 0, .int .i64 0, .int .i64 0, .int .i64 0] 75 (0, 0))) ∧ Aside0 (wc.heap[gb181]? = some (.cells #[.int .i64 (rd y175 t178), .int .i64 z1, .int .i64 z2, .int .i64 z3, .int .i64 z4, .int .i64 0] 75 (0, 0))) ∧ Aside0 (IsS69 w0 wc g s0_0 zu) ∧ Aside0 (KeepBut w wc g none) ∧ Aside0 (Below w0.heap.size w0 wc))
         case first =>
          have H := HC68.out
          clear HC68
          by_cases c69 : t185 = true
          ·subst c69
           have H1 : ((spec_l20Rd_pick.f kj51 s0_0 zr 8).bind fun bt217 => (if (rd y175 t178) = 14 then ((spec_l20Rd_pick.f kj51 s0_0 bt217.2 5).bind fun bt219 => (spec_l20Inst.j3 kj51 a1 t186 s0_0 bt219.2 (rd y175 t178) z1 z2 z3 bt219.1 0)) else (if (rd y175 t178) = 15 then ((spec_l20Rd_pick.f kj51 s0_0 bt217.2 5).bind fun bt221 => (spec_l20Inst.j3 kj51 a1 t186 s0_0 bt221.2 (rd y175 t178) z1 z2 z3 bt221.1 0)) else (spec_l20Inst.j3 kj51 a1 t186 s0_0 bt217.2 (rd y175 t178) z1 z2 z3 bt217.1 0)))) = some (r1, r2, r3, r4, r5, r6, r7) := by rw [if_pos rfl] at H; exact H
           clear H
           have H := H1
           clear H1
           replace H := Option.bind_eq_some_iff.mp H
           obtain ⟨⟨t217, t218⟩, A700, H⟩ := H
           replace H : (if (rd y175 t178) = 14 then ((spec_l20Rd_pick.f kj51 s0_0 t218 5).bind fun bt219 => (spec_l20Inst.j3 kj51 a1 t186 s0_0 bt219.2 (rd y175 t178) z1 z2 z3 bt219.1 0)) else (if (rd y175 t178) = 15 then ((spec_l20Rd_pick.f kj51 s0_0 t218 5).bind fun bt221 => (spec_l20Inst.j3 kj51 a1 t186 s0_0 bt221.2 (rd y175 t178) z1 z2 z3 bt221.1 0)) else (spec_l20Inst.j3 kj51 a1 t186 s0_0 t218 (rd y175 t178) z1 z2 z3 t217 0))) = some (r1, r2, r3, r4, r5, r6, r7) := H
           have A70 := A_ A700
           clear A700
           by_cases c71 : (rd y175 t178) = 14
           ·rw [if_pos c71] at H
            have c71b0 : ((rd y175 t178) == 14) = true := beq_iff_eq.mpr c71
            have c71b1 : ((rd y175 t178) != 14) = false := bne_eq_false_iff_eq.mpr c71
            clear c71
            (first | rw [c71b0] | (simp only [i64_w, i32_w]; rw [c71b0]) | skip)
            replace H := Option.bind_eq_some_iff.mp H
            obtain ⟨⟨t219, t220⟩, A720, H⟩ := H
            replace H : (spec_l20Inst.j3 kj51 a1 t186 s0_0 t220 (rd y175 t178) z1 z2 z3 t219 0) = some (r1, r2, r3, r4, r5, r6, r7) := H
            have A72 := A_ A720
            clear A720
            have H' := A_ H
            clear H
            go_wp2_with (first | ((yae_); refine goesL_ (some 66) rfl rfl Try.func45 (by kernel_rfl) rfl #[.pointer (some ⟨g, 0, none⟩), .int .i64 8] rfl (yad_) ?_; (with_reducible refine (spec_l20Rd_pick.calls kj51 g s0_0 zr 8 t217 t218 w0 _ ?side1 ?side2 A70.out).mono ?_); (case side1 => repeat (yaa_)); (case side2 => repeat (yac_)); rintro e w73 ⟨rfl, hi, hb, hk⟩; refine ⟨_, rfl, ?_⟩; have n0_ := A_ (kB_ hk (g' := gb170) (o := .cells #[.int .i64 0, .int .i64 0, .int .i64 0, .int .i64 0, .int .i64 0, .int .i64 0] 75 (0, 0)) (by (ya_); exact z0.out) zc.out (by simp)); have n1_ := A_ (kB_ hk (g' := gb181) (o := .cells #[.int .i64 (rd y175 t178), .int .i64 z1, .int .i64 z2, .int .i64 z3, .int .i64 0, .int .i64 0] 75 (0, 0)) (by (ya_); exact z.out) zb.out (by simp)); have n2_ := A_ (kT_ (by repeat (yab_)) hk (.inl rfl)); have n3_ := A_ (hb); have n4_ := A_ (hi); clear z0; clear z; clear HK; clear HB; clear HI0; have z0 := n0_; have z := n1_; have HK := n2_; have HB := n3_; have HI0 := n4_; clear n0_ n1_ n2_ n3_ n4_; (try clear hb); (try clear hb2); (try clear hk); (try clear hi); have hnb74 := zo.out; have hnc74 := ze.out; have hnb75 := zb.out; have hnc75 := z5.out; have hcz76_0 : w73.cell? ⟨gb181, 0, none⟩ = some (.int .i64 (rd y175 t178)) := (bC_ z.out 0).trans rfl; have hcz76_1 : w73.cell? ⟨gb181, 1, none⟩ = some (.int .i64 z1) := (bC_ z.out 1).trans rfl; have hcz76_2 : w73.cell? ⟨gb181, 2, none⟩ = some (.int .i64 z2) := (bC_ z.out 2).trans rfl; have hcz76_3 : w73.cell? ⟨gb181, 3, none⟩ = some (.int .i64 z3) := (bC_ z.out 3).trans rfl; have hcz76_4 : w73.cell? ⟨gb181, 4, none⟩ = some (.int .i64 0) := (bC_ z.out 4).trans rfl; have hcz76_5 : w73.cell? ⟨gb181, 5, none⟩ = some (.int .i64 0) := (bC_ z.out 5).trans rfl; have hfz76_0 := bF_ z.out 0; have hfz76_1 := bF_ z.out 1; have hfz76_2 := bF_ z.out 2; have hfz76_3 := bF_ z.out 3; have hfz76_4 := bF_ z.out 4; have hfz76_5 := bF_ z.out 5) | ((yae_); refine goesL_ (some 77) rfl rfl Try.func45 (by kernel_rfl) rfl #[.pointer (some ⟨g, 0, none⟩), .int .i64 5] rfl (yad_) ?_; (with_reducible refine (spec_l20Rd_pick.calls kj51 g s0_0 t218 5 t219 t220 w0 _ ?side1 ?side2 A72.out).mono ?_); (case side1 => repeat (yaa_)); (case side2 => repeat (yac_)); rintro e w77 ⟨rfl, hi, hb, hk⟩; refine ⟨_, rfl, ?_⟩; have n0_ := A_ (kB_ hk (g' := gb170) (o := .cells #[.int .i64 0, .int .i64 0, .int .i64 0, .int .i64 0, .int .i64 0, .int .i64 0] 75 (0, 0)) (by (ya_); refine blk_far ?_ ze.out _; (ya_); exact z0.out) zc.out (by simp)); have n1_ := A_ (kB_ hk (g' := gb181) (o := .cells #[.int .i64 (rd y175 t178), .int .i64 z1, .int .i64 z2, .int .i64 z3, .int .i64 t217, .int .i64 0] 75 (0, 0)) (by (ya_); refine blk_put (cs := #[.int .i64 (rd y175 t178), .int .i64 z1, .int .i64 z2, .int .i64 z3, .int .i64 0, .int .i64 0]) ?_ 4 _ rfl; (ya_); exact z.out) zb.out (by simp)); have n2_ := A_ (kT_ (by repeat (yab_)) hk (.inl rfl)); have n3_ := A_ (hb); have n4_ := A_ (hi); clear z0; clear z; clear HK; clear HB; clear HI0; have z0 := n0_; have z := n1_; have HK := n2_; have HB := n3_; have HI0 := n4_; clear n0_ n1_ n2_ n3_ n4_; (try clear hb); (try clear hb2); (try clear hk); (try clear hi); have hcz78_0 : w77.cell? ⟨gb181, 0, none⟩ = some (.int .i64 (rd y175 t178)) := (bC_ z.out 0).trans rfl; have hcz78_1 : w77.cell? ⟨gb181, 1, none⟩ = some (.int .i64 z1) := (bC_ z.out 1).trans rfl; have hcz78_2 : w77.cell? ⟨gb181, 2, none⟩ = some (.int .i64 z2) := (bC_ z.out 2).trans rfl; have hcz78_3 : w77.cell? ⟨gb181, 3, none⟩ = some (.int .i64 z3) := (bC_ z.out 3).trans rfl; have hcz78_4 : w77.cell? ⟨gb181, 4, none⟩ = some (.int .i64 t217) := (bC_ z.out 4).trans rfl; have hcz78_5 : w77.cell? ⟨gb181, 5, none⟩ = some (.int .i64 0) := (bC_ z.out 5).trans rfl; have hfz78_0 := bF_ z.out 0; have hfz78_1 := bF_ z.out 1; have hfz78_2 := bF_ z.out 2; have hfz78_3 := bF_ z.out 3; have hfz78_4 := bF_ z.out 4; have hfz78_5 := bF_ z.out 5))
            go_meet
            case rel => exact ⟨_, (t220), (t219), H', ⟨by have := HJ8.out; have := zq.out; have := zs.out; first | omega | exact Nat.le_refl _⟩, ⟨by (ya_); refine blk_far ?_ ze.out _; (ya_); exact z0.out⟩, ⟨by (ya_); refine blk_put (cs := #[.int .i64 (rd y175 t178), .int .i64 z1, .int .i64 z2, .int .i64 z3, .int .i64 t217, .int .i64 0]) ?_ 4 _ rfl; (ya_); exact z.out⟩, ⟨by repeat (yaa_)⟩, ⟨by repeat (yab_)⟩, ⟨by repeat (yac_)⟩⟩
           ·rw [if_neg c71] at H
            have c71b0 : ((rd y175 t178) == 14) = false := beq_eq_false_iff_ne.mpr c71
            have c71b1 : ((rd y175 t178) != 14) = true := bne_iff_ne.mpr c71
            (first | rw [c71b0] | (simp only [i64_w, i32_w]; rw [c71b0]) | skip)
            by_cases c79 : (rd y175 t178) = 15
            ·rw [if_pos c79] at H
             have c79b0 : ((rd y175 t178) == 15) = true := beq_iff_eq.mpr c79
             have c79b1 : ((rd y175 t178) != 15) = false := bne_eq_false_iff_eq.mpr c79
             clear c79
             replace H := Option.bind_eq_some_iff.mp H
             obtain ⟨⟨t221, t222⟩, A800, H⟩ := H
             replace H : (spec_l20Inst.j3 kj51 a1 t186 s0_0 t222 (rd y175 t178) z1 z2 z3 t221 0) = some (r1, r2, r3, r4, r5, r6, r7) := H
             have A80 := A_ A800
             clear A800
             have H' := A_ H
             clear H
             go_wp2_with (first | ((yae_); refine goesL_ (some 66) rfl rfl Try.func45 (by kernel_rfl) rfl #[.pointer (some ⟨g, 0, none⟩), .int .i64 8] rfl (yad_) ?_; (with_reducible refine (spec_l20Rd_pick.calls kj51 g s0_0 zr 8 t217 t218 w0 _ ?side1 ?side2 A70.out).mono ?_); (case side1 => repeat (yaa_)); (case side2 => repeat (yac_)); rintro e w81 ⟨rfl, hi, hb, hk⟩; refine ⟨_, rfl, ?_⟩; have n0_ := A_ (kB_ hk (g' := gb170) (o := .cells #[.int .i64 0, .int .i64 0, .int .i64 0, .int .i64 0, .int .i64 0, .int .i64 0] 75 (0, 0)) (by (ya_); exact z0.out) zc.out (by simp)); have n1_ := A_ (kB_ hk (g' := gb181) (o := .cells #[.int .i64 (rd y175 t178), .int .i64 z1, .int .i64 z2, .int .i64 z3, .int .i64 0, .int .i64 0] 75 (0, 0)) (by (ya_); exact z.out) zb.out (by simp)); have n2_ := A_ (kT_ (by repeat (yab_)) hk (.inl rfl)); have n3_ := A_ (hb); have n4_ := A_ (hi); clear z0; clear z; clear HK; clear HB; clear HI0; have z0 := n0_; have z := n1_; have HK := n2_; have HB := n3_; have HI0 := n4_; clear n0_ n1_ n2_ n3_ n4_; (try clear hb); (try clear hb2); (try clear hk); (try clear hi); have hnb82 := zo.out; have hnc82 := ze.out; have hnb83 := zb.out; have hnc83 := z5.out; have hcz84_0 : w81.cell? ⟨gb181, 0, none⟩ = some (.int .i64 (rd y175 t178)) := (bC_ z.out 0).trans rfl; have hcz84_1 : w81.cell? ⟨gb181, 1, none⟩ = some (.int .i64 z1) := (bC_ z.out 1).trans rfl; have hcz84_2 : w81.cell? ⟨gb181, 2, none⟩ = some (.int .i64 z2) := (bC_ z.out 2).trans rfl; have hcz84_3 : w81.cell? ⟨gb181, 3, none⟩ = some (.int .i64 z3) := (bC_ z.out 3).trans rfl; have hcz84_4 : w81.cell? ⟨gb181, 4, none⟩ = some (.int .i64 0) := (bC_ z.out 4).trans rfl; have hcz84_5 : w81.cell? ⟨gb181, 5, none⟩ = some (.int .i64 0) := (bC_ z.out 5).trans rfl; have hfz84_0 := bF_ z.out 0; have hfz84_1 := bF_ z.out 1; have hfz84_2 := bF_ z.out 2; have hfz84_3 := bF_ z.out 3; have hfz84_4 := bF_ z.out 4; have hfz84_5 := bF_ z.out 5) | ((yae_); refine goesL_ (some 77) rfl rfl Try.func45 (by kernel_rfl) rfl #[.pointer (some ⟨g, 0, none⟩), .int .i64 5] rfl (yad_) ?_; (with_reducible refine (spec_l20Rd_pick.calls kj51 g s0_0 t218 5 t221 t222 w0 _ ?side1 ?side2 A80.out).mono ?_); (case side1 => repeat (yaa_)); (case side2 => repeat (yac_)); rintro e w85 ⟨rfl, hi, hb, hk⟩; refine ⟨_, rfl, ?_⟩; have n0_ := A_ (kB_ hk (g' := gb170) (o := .cells #[.int .i64 0, .int .i64 0, .int .i64 0, .int .i64 0, .int .i64 0, .int .i64 0] 75 (0, 0)) (by (ya_); refine blk_far ?_ ze.out _; (ya_); exact z0.out) zc.out (by simp)); have n1_ := A_ (kB_ hk (g' := gb181) (o := .cells #[.int .i64 (rd y175 t178), .int .i64 z1, .int .i64 z2, .int .i64 z3, .int .i64 t217, .int .i64 0] 75 (0, 0)) (by (ya_); refine blk_put (cs := #[.int .i64 (rd y175 t178), .int .i64 z1, .int .i64 z2, .int .i64 z3, .int .i64 0, .int .i64 0]) ?_ 4 _ rfl; (ya_); exact z.out) zb.out (by simp)); have n2_ := A_ (kT_ (by repeat (yab_)) hk (.inl rfl)); have n3_ := A_ (hb); have n4_ := A_ (hi); clear z0; clear z; clear HK; clear HB; clear HI0; have z0 := n0_; have z := n1_; have HK := n2_; have HB := n3_; have HI0 := n4_; clear n0_ n1_ n2_ n3_ n4_; (try clear hb); (try clear hb2); (try clear hk); (try clear hi); have hcz86_0 : w85.cell? ⟨gb181, 0, none⟩ = some (.int .i64 (rd y175 t178)) := (bC_ z.out 0).trans rfl; have hcz86_1 : w85.cell? ⟨gb181, 1, none⟩ = some (.int .i64 z1) := (bC_ z.out 1).trans rfl; have hcz86_2 : w85.cell? ⟨gb181, 2, none⟩ = some (.int .i64 z2) := (bC_ z.out 2).trans rfl; have hcz86_3 : w85.cell? ⟨gb181, 3, none⟩ = some (.int .i64 z3) := (bC_ z.out 3).trans rfl; have hcz86_4 : w85.cell? ⟨gb181, 4, none⟩ = some (.int .i64 t217) := (bC_ z.out 4).trans rfl; have hcz86_5 : w85.cell? ⟨gb181, 5, none⟩ = some (.int .i64 0) := (bC_ z.out 5).trans rfl; have hfz86_0 := bF_ z.out 0; have hfz86_1 := bF_ z.out 1; have hfz86_2 := bF_ z.out 2; have hfz86_3 := bF_ z.out 3; have hfz86_4 := bF_ z.out 4; have hfz86_5 := bF_ z.out 5))
             go_meet
             case rel => exact ⟨_, (t222), (t221), H', ⟨by have := HJ8.out; have := zq.out; have := zs.out; first | omega | exact Nat.le_refl _⟩, ⟨by (ya_); refine blk_far ?_ ze.out _; (ya_); exact z0.out⟩, ⟨by (ya_); refine blk_put (cs := #[.int .i64 (rd y175 t178), .int .i64 z1, .int .i64 z2, .int .i64 z3, .int .i64 t217, .int .i64 0]) ?_ 4 _ rfl; (ya_); exact z.out⟩, ⟨by repeat (yaa_)⟩, ⟨by repeat (yab_)⟩, ⟨by repeat (yac_)⟩⟩
            ·rw [if_neg c79] at H
             have c79b0 : ((rd y175 t178) == 15) = false := beq_eq_false_iff_ne.mpr c79
             have c79b1 : ((rd y175 t178) != 15) = true := bne_iff_ne.mpr c79
             have H' := A_ H
             clear H
             go_wp2_with (first | ((yae_); refine goesL_ (some 66) rfl rfl Try.func45 (by kernel_rfl) rfl #[.pointer (some ⟨g, 0, none⟩), .int .i64 8] rfl (yad_) ?_; (with_reducible refine (spec_l20Rd_pick.calls kj51 g s0_0 zr 8 t217 t218 w0 _ ?side1 ?side2 A70.out).mono ?_); (case side1 => repeat (yaa_)); (case side2 => repeat (yac_)); rintro e w87 ⟨rfl, hi, hb, hk⟩; refine ⟨_, rfl, ?_⟩; have n0_ := A_ (kB_ hk (g' := gb170) (o := .cells #[.int .i64 0, .int .i64 0, .int .i64 0, .int .i64 0, .int .i64 0, .int .i64 0] 75 (0, 0)) (by (ya_); exact z0.out) zc.out (by simp)); have n1_ := A_ (kB_ hk (g' := gb181) (o := .cells #[.int .i64 (rd y175 t178), .int .i64 z1, .int .i64 z2, .int .i64 z3, .int .i64 0, .int .i64 0] 75 (0, 0)) (by (ya_); exact z.out) zb.out (by simp)); have n2_ := A_ (kT_ (by repeat (yab_)) hk (.inl rfl)); have n3_ := A_ (hb); have n4_ := A_ (hi); clear z0; clear z; clear HK; clear HB; clear HI0; have z0 := n0_; have z := n1_; have HK := n2_; have HB := n3_; have HI0 := n4_; clear n0_ n1_ n2_ n3_ n4_; (try clear hb); (try clear hb2); (try clear hk); (try clear hi); have hnb88 := zo.out; have hnc88 := ze.out; have hnb89 := zb.out; have hnc89 := z5.out; have hcz90_0 : w87.cell? ⟨gb181, 0, none⟩ = some (.int .i64 (rd y175 t178)) := (bC_ z.out 0).trans rfl; have hcz90_1 : w87.cell? ⟨gb181, 1, none⟩ = some (.int .i64 z1) := (bC_ z.out 1).trans rfl; have hcz90_2 : w87.cell? ⟨gb181, 2, none⟩ = some (.int .i64 z2) := (bC_ z.out 2).trans rfl; have hcz90_3 : w87.cell? ⟨gb181, 3, none⟩ = some (.int .i64 z3) := (bC_ z.out 3).trans rfl; have hcz90_4 : w87.cell? ⟨gb181, 4, none⟩ = some (.int .i64 0) := (bC_ z.out 4).trans rfl; have hcz90_5 : w87.cell? ⟨gb181, 5, none⟩ = some (.int .i64 0) := (bC_ z.out 5).trans rfl; have hfz90_0 := bF_ z.out 0; have hfz90_1 := bF_ z.out 1; have hfz90_2 := bF_ z.out 2; have hfz90_3 := bF_ z.out 3; have hfz90_4 := bF_ z.out 4; have hfz90_5 := bF_ z.out 5))
             go_meet
             case rel => exact ⟨_, (t218), (t217), H', ⟨by have := HJ8.out; have := zq.out; have := zs.out; first | omega | exact Nat.le_refl _⟩, ⟨by (ya_); refine blk_far ?_ ze.out _; (ya_); exact z0.out⟩, ⟨by (ya_); refine blk_put (cs := #[.int .i64 (rd y175 t178), .int .i64 z1, .int .i64 z2, .int .i64 z3, .int .i64 0, .int .i64 0]) ?_ 4 _ rfl; (ya_); exact z.out⟩, ⟨by repeat (yaa_)⟩, ⟨by repeat (yab_)⟩, ⟨by repeat (yac_)⟩⟩
          ·replace c69 := Bool.eq_false_iff.mpr c69
           subst c69
           have H1 : (spec_l20Inst.j3 kj51 a1 t186 s0_0 zr (rd y175 t178) z1 z2 z3 0 0) = some (r1, r2, r3, r4, r5, r6, r7) := by rw [if_neg (show ¬ (false = true) by decide)] at H; exact H
           clear H
           have H := H1
           clear H1
           have H' := A_ H
           clear H
           go_wp2
           go_meet
           case rel => exact ⟨_, (zr), (0), H', ⟨by have := HJ8.out; have := zq.out; have := zs.out; first | omega | exact Nat.le_refl _⟩, ⟨by (ya_); exact z0.out⟩, ⟨by (ya_); exact z.out⟩, ⟨by repeat (yaa_)⟩, ⟨by repeat (yab_)⟩, ⟨by repeat (yac_)⟩⟩
         case rest =>
          clear HC68
          try clear c1
          try clear p1
          try clear q1
          try clear hx1
          try clear c2
          try clear p2
          try clear q2
          try clear hx2
          try clear c3
          try clear c4
          try clear c5
          try clear c6
          try clear c6b0
          try clear p6
          try clear c7
          try clear c7b0
          try clear c8
          try clear c18
          try clear p18
          try clear q18
          try clear hx18
          try clear c19
          try clear p19
          try clear q19
          try clear hx19
          try clear p20
          try clear q20
          try clear hx20
          try clear c21
          try clear p21
          try clear q21
          try clear hx21
          try clear c25
          try clear c25b0
          try clear c26
          try clear c26b0
          try clear c33
          try clear c34
          try clear c37
          try clear c41
          try clear c41b0
          try clear c42
          try clear c42b0
          try clear c45
          try clear c49
          try clear c50
          try clear c53
          try clear c57
          try clear c57b0
          try clear c58
          try clear c58b0
          try clear c61
          try clear p64
          try clear c65
          try clear c66
          try clear c69
          try clear c71
          try clear c71b0
          try clear c71b1
          try clear c74
          try clear c75
          try clear c79
          try clear c79b0
          try clear c79b1
          try clear c82
          try clear c83
          try clear c88
          try clear c89
          try clear hcz20_0
          try clear hcz20_1
          try clear hcz20_2
          try clear hcz20_3
          try clear hcz20_4
          try clear hcz20_5
          try clear hcz35_0
          try clear hcz35_1
          try clear hcz35_2
          try clear hcz35_3
          try clear hcz35_4
          try clear hcz35_5
          try clear hcz51_0
          try clear hcz51_1
          try clear hcz51_2
          try clear hcz51_3
          try clear hcz51_4
          try clear hcz51_5
          try clear hcz67_0
          try clear hcz67_1
          try clear hcz67_2
          try clear hcz67_3
          try clear hcz67_4
          try clear hcz67_5
          try clear hcz76_0
          try clear hcz76_1
          try clear hcz76_2
          try clear hcz76_3
          try clear hcz76_4
          try clear hcz76_5
          try clear hcz78_0
          try clear hcz78_1
          try clear hcz78_2
          try clear hcz78_3
          try clear hcz78_4
          try clear hcz78_5
          try clear hcz84_0
          try clear hcz84_1
          try clear hcz84_2
          try clear hcz84_3
          try clear hcz84_4
          try clear hcz84_5
          try clear hcz86_0
          try clear hcz86_1
          try clear hcz86_2
          try clear hcz86_3
          try clear hcz86_4
          try clear hcz86_5
          try clear hcz90_0
          try clear hcz90_1
          try clear hcz90_2
          try clear hcz90_3
          try clear hcz90_4
          try clear hcz90_5
          try clear hfz20_0
          try clear hfz20_1
          try clear hfz20_2
          try clear hfz20_3
          try clear hfz20_4
          try clear hfz20_5
          try clear hfz35_0
          try clear hfz35_1
          try clear hfz35_2
          try clear hfz35_3
          try clear hfz35_4
          try clear hfz35_5
          try clear hfz51_0
          try clear hfz51_1
          try clear hfz51_2
          try clear hfz51_3
          try clear hfz51_4
          try clear hfz51_5
          try clear hfz67_0
          try clear hfz67_1
          try clear hfz67_2
          try clear hfz67_3
          try clear hfz67_4
          try clear hfz67_5
          try clear hfz76_0
          try clear hfz76_1
          try clear hfz76_2
          try clear hfz76_3
          try clear hfz76_4
          try clear hfz76_5
          try clear hfz78_0
          try clear hfz78_1
          try clear hfz78_2
          try clear hfz78_3
          try clear hfz78_4
          try clear hfz78_5
          try clear hfz84_0
          try clear hfz84_1
          try clear hfz84_2
          try clear hfz84_3
          try clear hfz84_4
          try clear hfz84_5
          try clear hfz86_0
          try clear hfz86_1
          try clear hfz86_2
          try clear hfz86_3
          try clear hfz86_4
          try clear hfz86_5
          try clear hfz90_0
          try clear hfz90_1
          try clear hfz90_2
          try clear hfz90_3
          try clear hfz90_4
          try clear hfz90_5
          try clear hx180_0
          try clear hx196_0
          try clear hx206_0
          try clear hx216_0
          try clear p1
          try clear p18
          try clear p180
          try clear p19
          try clear p196
          try clear p2
          try clear p20
          try clear p206
          try clear p21
          try clear p216
          try clear p6
          try clear p64
          try clear q1
          try clear q18
          try clear q180
          try clear q19
          try clear q196
          try clear q2
          try clear q20
          try clear q206
          try clear q21
          try clear q216
          obtain ⟨kq, zu, z4, HA, q0, z0, z, HI0, HK, HB⟩ := hcut
          cases kq with
          | zero => exact absurd HA.out (by simp [spec_l20Inst.j3])
          | succ kj67 =>
           have H := HA.out
           clear HA
           simp only [spec_l20Inst.j3] at H
           have HC91 := A_ H
           clear H
           go_upto_if 80 with (fail)
           go_cut [] (fun wc => ∃ (kq : Nat) (zt : Int) (zd : Int), Aside0 (spec_l20Inst.j4 kq a1 s0_0 zt (rd y175 t178) z1 z2 z3 z4 zd = some (r1, r2, r3, r4, r5, r6, r7)) ∧ Aside0 (kq ≤ kj67) ∧ Aside0 (wc.heap[gb170]? = some (.cells #[.int .i64 0, .int .i64 0, .int .i64 0, .int .i64 0, .int .i64 0, .int .i64 0] 75 (0, 0))) ∧ Aside0 (wc.heap[gb181]? = some (.cells #[.int .i64 (rd y175 t178), .int .i64 z1, .int .i64 z2, .int .i64 z3, .int .i64 z4, .int .i64 zd] 75 (0, 0))) ∧ Aside0 (IsS69 w0 wc g s0_0 zt) ∧ Aside0 (KeepBut w wc g none) ∧ Aside0 (Below w0.heap.size w0 wc))
           case first =>
            have H := HC91.out
            clear HC91
            by_cases c92 : t186 > 0
            ·rw [if_pos c92] at H
             have c92b0 : decide (0 < t186) = true := decide_eq_true c92
             clear c92
             (first | rw [c92b0] | (simp only [i64_w, i32_w]; rw [c92b0]) | skip)
             replace H := Option.bind_eq_some_iff.mp H
             obtain ⟨⟨t223, t224⟩, A930, H⟩ := H
             replace H : ((spec_l20Rd_pick.f kj67 s0_0 t224 32).bind fun bt225 => ((spec_l20Rd_pick.f kj67 s0_0 bt225.2 5).bind fun bt227 => ((some (([t223, bt225.1, bt227.1] : List Int) : List Int)).bind fun y229 => ((spec_l20Rd_pick.f kj67 s0_0 bt227.2 3).bind fun bt232 => (if 0 ≤ bt232.1 then (if bt232.1 < (y229.length : Int) then (if (rd y175 t178) = 12 then (spec_l20Inst.j4 kj67 a1 s0_0 bt232.2 (rd y175 t178) z1 z2 z3 z4 (rd y229 bt232.1)) else (if (rd y175 t178) = 2 then (spec_l20Inst.j4 kj67 a1 s0_0 bt232.2 (rd y175 t178) z1 z2 z3 z4 (rd y229 bt232.1)) else ((spec_l20Rd_pick.f kj67 s0_0 bt232.2 3).bind fun bt235 => (if bt235.1 = 0 then ((spec_l20Rd_pick.f kj67 s0_0 bt235.2 4).bind fun bt237 => (spec_l20Inst.j4 kj67 a1 s0_0 bt237.2 (rd y175 t178) z1 z2 z3 z4 (wrap64 ((-1) - bt237.1)))) else (spec_l20Inst.j4 kj67 a1 s0_0 bt235.2 (rd y175 t178) z1 z2 z3 z4 (rd y229 bt232.1)))))) else (none)) else (none)))))) = some (r1, r2, r3, r4, r5, r6, r7) := H
             have A93 := A_ A930
             clear A930
             replace H := Option.bind_eq_some_iff.mp H
             obtain ⟨⟨t225, t226⟩, A940, H⟩ := H
             replace H : ((spec_l20Rd_pick.f kj67 s0_0 t226 5).bind fun bt227 => ((some (([t223, t225, bt227.1] : List Int) : List Int)).bind fun y229 => ((spec_l20Rd_pick.f kj67 s0_0 bt227.2 3).bind fun bt232 => (if 0 ≤ bt232.1 then (if bt232.1 < (y229.length : Int) then (if (rd y175 t178) = 12 then (spec_l20Inst.j4 kj67 a1 s0_0 bt232.2 (rd y175 t178) z1 z2 z3 z4 (rd y229 bt232.1)) else (if (rd y175 t178) = 2 then (spec_l20Inst.j4 kj67 a1 s0_0 bt232.2 (rd y175 t178) z1 z2 z3 z4 (rd y229 bt232.1)) else ((spec_l20Rd_pick.f kj67 s0_0 bt232.2 3).bind fun bt235 => (if bt235.1 = 0 then ((spec_l20Rd_pick.f kj67 s0_0 bt235.2 4).bind fun bt237 => (spec_l20Inst.j4 kj67 a1 s0_0 bt237.2 (rd y175 t178) z1 z2 z3 z4 (wrap64 ((-1) - bt237.1)))) else (spec_l20Inst.j4 kj67 a1 s0_0 bt235.2 (rd y175 t178) z1 z2 z3 z4 (rd y229 bt232.1)))))) else (none)) else (none))))) = some (r1, r2, r3, r4, r5, r6, r7) := H
             have A94 := A_ A940
             clear A940
             replace H := Option.bind_eq_some_iff.mp H
             obtain ⟨⟨t227, t228⟩, A950, H⟩ := H
             replace H : ((some (([t223, t225, t227] : List Int) : List Int)).bind fun y229 => ((spec_l20Rd_pick.f kj67 s0_0 t228 3).bind fun bt232 => (if 0 ≤ bt232.1 then (if bt232.1 < (y229.length : Int) then (if (rd y175 t178) = 12 then (spec_l20Inst.j4 kj67 a1 s0_0 bt232.2 (rd y175 t178) z1 z2 z3 z4 (rd y229 bt232.1)) else (if (rd y175 t178) = 2 then (spec_l20Inst.j4 kj67 a1 s0_0 bt232.2 (rd y175 t178) z1 z2 z3 z4 (rd y229 bt232.1)) else ((spec_l20Rd_pick.f kj67 s0_0 bt232.2 3).bind fun bt235 => (if bt235.1 = 0 then ((spec_l20Rd_pick.f kj67 s0_0 bt235.2 4).bind fun bt237 => (spec_l20Inst.j4 kj67 a1 s0_0 bt237.2 (rd y175 t178) z1 z2 z3 z4 (wrap64 ((-1) - bt237.1)))) else (spec_l20Inst.j4 kj67 a1 s0_0 bt235.2 (rd y175 t178) z1 z2 z3 z4 (rd y229 bt232.1)))))) else (none)) else (none)))) = some (r1, r2, r3, r4, r5, r6, r7) := H
             have A95 := A_ A950
             clear A950
             obtain ⟨y229, hy229⟩ : ∃ y_ : List Int, y_ = (([t223, t225, t227] : List Int)) := ⟨_, rfl⟩
             replace H : ((spec_l20Rd_pick.f kj67 s0_0 t228 3).bind fun bt232 => (if 0 ≤ bt232.1 then (if bt232.1 < (y229.length : Int) then (if (rd y175 t178) = 12 then (spec_l20Inst.j4 kj67 a1 s0_0 bt232.2 (rd y175 t178) z1 z2 z3 z4 (rd y229 bt232.1)) else (if (rd y175 t178) = 2 then (spec_l20Inst.j4 kj67 a1 s0_0 bt232.2 (rd y175 t178) z1 z2 z3 z4 (rd y229 bt232.1)) else ((spec_l20Rd_pick.f kj67 s0_0 bt232.2 3).bind fun bt235 => (if bt235.1 = 0 then ((spec_l20Rd_pick.f kj67 s0_0 bt235.2 4).bind fun bt237 => (spec_l20Inst.j4 kj67 a1 s0_0 bt237.2 (rd y175 t178) z1 z2 z3 z4 (wrap64 ((-1) - bt237.1)))) else (spec_l20Inst.j4 kj67 a1 s0_0 bt235.2 (rd y175 t178) z1 z2 z3 z4 (rd y229 bt232.1)))))) else (none)) else (none))) = some (r1, r2, r3, r4, r5, r6, r7) := by first | (rw [hy229]; with_reducible exact H) | (have H2_ := (Option.bind_some _ _).symm.trans H; rw [hy229]; with_reducible exact H2_) | (have H2_ := (Option.bind_some _ _).symm.trans H; with_reducible exact H2_) | with_reducible exact H | (rw [hy229]; exact H) | exact H
             have zv := A_ hy229
             clear hy229
             replace H := Option.bind_eq_some_iff.mp H
             obtain ⟨⟨t232, t233⟩, A960, H⟩ := H
             replace H : (if 0 ≤ t232 then (if t232 < (y229.length : Int) then (if (rd y175 t178) = 12 then (spec_l20Inst.j4 kj67 a1 s0_0 t233 (rd y175 t178) z1 z2 z3 z4 (rd y229 t232)) else (if (rd y175 t178) = 2 then (spec_l20Inst.j4 kj67 a1 s0_0 t233 (rd y175 t178) z1 z2 z3 z4 (rd y229 t232)) else ((spec_l20Rd_pick.f kj67 s0_0 t233 3).bind fun bt235 => (if bt235.1 = 0 then ((spec_l20Rd_pick.f kj67 s0_0 bt235.2 4).bind fun bt237 => (spec_l20Inst.j4 kj67 a1 s0_0 bt237.2 (rd y175 t178) z1 z2 z3 z4 (wrap64 ((-1) - bt237.1)))) else (spec_l20Inst.j4 kj67 a1 s0_0 bt235.2 (rd y175 t178) z1 z2 z3 z4 (rd y229 t232)))))) else (none)) else (none)) = some (r1, r2, r3, r4, r5, r6, r7) := H
             have A96 := A_ A960
             clear A960
             by_cases c97 : 0 ≤ t232
             ·rw [if_pos c97] at H
              have c97b0 : decide (0 ≤ t232) = true := decide_eq_true c97
              clear c97
              by_cases c98 : t232 < (y229.length : Int)
              ·rw [if_pos c98] at H
               have c98b0 : decide (t232 < (y229.length : Int)) = true := decide_eq_true c98
               clear c98
               by_cases c99 : (rd y175 t178) = 12
               ·rw [if_pos c99] at H
                have c99b0 : ((rd y175 t178) == 12) = true := beq_iff_eq.mpr c99
                have c99b1 : ((rd y175 t178) != 12) = false := bne_eq_false_iff_eq.mpr c99
                clear c99
                have H' := A_ H
                clear H
                go_wp2_with (first | ((yae_); refine goesL_ (some 82) rfl rfl Try.func45 (by kernel_rfl) rfl #[.pointer (some ⟨g, 0, none⟩), .int .i64 8] rfl (yad_) ?_; (with_reducible refine (spec_l20Rd_pick.calls kj67 g s0_0 zu 8 t223 t224 w0 _ ?side1 ?side2 A93.out).mono ?_); (case side1 => repeat (yaa_)); (case side2 => repeat (yac_)); rintro e w100 ⟨rfl, hi, hb, hk⟩; refine ⟨_, rfl, ?_⟩; have n0_ := A_ (kB_ hk (g' := gb170) (o := .cells #[.int .i64 0, .int .i64 0, .int .i64 0, .int .i64 0, .int .i64 0, .int .i64 0] 75 (0, 0)) (by (ya_); exact z0.out) zc.out (by simp)); have n1_ := A_ (kB_ hk (g' := gb181) (o := .cells #[.int .i64 (rd y175 t178), .int .i64 z1, .int .i64 z2, .int .i64 z3, .int .i64 z4, .int .i64 0] 75 (0, 0)) (by (ya_); exact z.out) zb.out (by simp)); have n2_ := A_ (kT_ (by repeat (yab_)) hk (.inl rfl)); have n3_ := A_ (hb); have n4_ := A_ (hi); clear z0; clear z; clear HK; clear HB; clear HI0; have z0 := n0_; have z := n1_; have HK := n2_; have HB := n3_; have HI0 := n4_; clear n0_ n1_ n2_ n3_ n4_; (try clear hb); (try clear hb2); (try clear hk); (try clear hi)) | ((yae_); refine goesL_ (some 84) rfl rfl Try.func45 (by kernel_rfl) rfl #[.pointer (some ⟨g, 0, none⟩), .int .i64 32] rfl (yad_) ?_; (with_reducible refine (spec_l20Rd_pick.calls kj67 g s0_0 t224 32 t225 t226 w0 _ ?side1 ?side2 A94.out).mono ?_); (case side1 => repeat (yaa_)); (case side2 => repeat (yac_)); rintro e w101 ⟨rfl, hi, hb, hk⟩; refine ⟨_, rfl, ?_⟩; have n0_ := A_ (kB_ hk (g' := gb170) (o := .cells #[.int .i64 0, .int .i64 0, .int .i64 0, .int .i64 0, .int .i64 0, .int .i64 0] 75 (0, 0)) (by (ya_); exact z0.out) zc.out (by simp)); have n1_ := A_ (kB_ hk (g' := gb181) (o := .cells #[.int .i64 (rd y175 t178), .int .i64 z1, .int .i64 z2, .int .i64 z3, .int .i64 z4, .int .i64 0] 75 (0, 0)) (by (ya_); exact z.out) zb.out (by simp)); have n2_ := A_ (kT_ (by repeat (yab_)) hk (.inl rfl)); have n3_ := A_ (hb); have n4_ := A_ (hi); clear z0; clear z; clear HK; clear HB; clear HI0; have z0 := n0_; have z := n1_; have HK := n2_; have HB := n3_; have HI0 := n4_; clear n0_ n1_ n2_ n3_ n4_; (try clear hb); (try clear hb2); (try clear hk); (try clear hi)) | ((yae_); refine goesL_ (some 86) rfl rfl Try.func45 (by kernel_rfl) rfl #[.pointer (some ⟨g, 0, none⟩), .int .i64 5] rfl (yad_) ?_; (with_reducible refine (spec_l20Rd_pick.calls kj67 g s0_0 t226 5 t227 t228 w0 _ ?side1 ?side2 A95.out).mono ?_); (case side1 => repeat (yaa_)); (case side2 => repeat (yac_)); rintro e w102 ⟨rfl, hi, hb, hk⟩; refine ⟨_, rfl, ?_⟩; have n0_ := A_ (kB_ hk (g' := gb170) (o := .cells #[.int .i64 0, .int .i64 0, .int .i64 0, .int .i64 0, .int .i64 0, .int .i64 0] 75 (0, 0)) (by (ya_); exact z0.out) zc.out (by simp)); have n1_ := A_ (kB_ hk (g' := gb181) (o := .cells #[.int .i64 (rd y175 t178), .int .i64 z1, .int .i64 z2, .int .i64 z3, .int .i64 z4, .int .i64 0] 75 (0, 0)) (by (ya_); exact z.out) zb.out (by simp)); have n2_ := A_ (kT_ (by repeat (yab_)) hk (.inl rfl)); have n3_ := A_ (hb); have n4_ := A_ (hi); clear z0; clear z; clear HK; clear HB; clear HI0; have z0 := n0_; have z := n1_; have HK := n2_; have HB := n3_; have HI0 := n4_; clear n0_ n1_ n2_ n3_ n4_; (try clear hb); (try clear hb2); (try clear hk); (try clear hi)) | ((with_reducible refine gate_dst (N := 87) rfl ?_); refine Kd.R_lit (Kd.int .i64) _ 3 ?hg (N := 87) ?hd (xs := ([t223, t225, t227] : List Int)) (inner := [.int .i64 t223, .int .i64 t225, .int .i64 t227]) (ok := fun _ => True) (okp := fun _ => True) ?hr ?hp (fun _ hk => hk) trivial (Below.refl _ _) (Nat.le_refl _) (by simp) ?_; (case hd => rfl); (case hg => rfl); (yak_); (yaj_); intro v230 w103 ho104 hb hg_ hnew_; clear hg_ hnew_; (first | rw [← zv.out] at ho104 | (simp only [Int.reduceToNat] at ho104; rw [← zv.out] at ho104)); have n0_ := A_ (Kd.R_lower ho104 (keep_size (w := w) (g := g) (row := none) (by repeat (yab_)))); have n1_ := A_ (bB_ (g := gb170) (o := .cells #[.int .i64 0, .int .i64 0, .int .i64 0, .int .i64 0, .int .i64 0, .int .i64 0] 75 (0, 0)) (by (ya_); exact z0.out) hb); have n2_ := A_ (bB_ (g := gb181) (o := .cells #[.int .i64 (rd y175 t178), .int .i64 z1, .int .i64 z2, .int .i64 z3, .int .i64 z4, .int .i64 0] 75 (0, 0)) (by (ya_); exact z.out) hb); have n3_ := A_ (IsS69.below (by repeat (yaa_)) hb); have n4_ := A_ (kT_ (by repeat (yab_)) (kO_ hb g none) (.inl rfl)); have n5_ := A_ (wT_ (by repeat (yac_)) hb); clear z0; clear z; clear HI0; clear HK; clear HB; have zg := n0_; have z0 := n1_; have z := n2_; have HI0 := n3_; have HK := n4_; have HB := n5_; clear n0_ n1_ n2_ n3_ n4_ n5_; clear hb ho104) | ((yae_); refine goesL_ (some 89) rfl rfl Try.func45 (by kernel_rfl) rfl #[.pointer (some ⟨g, 0, none⟩), .int .i64 3] rfl (yad_) ?_; (with_reducible refine (spec_l20Rd_pick.calls kj67 g s0_0 t228 3 t232 t233 w0 _ ?side1 ?side2 A96.out).mono ?_); (case side1 => repeat (yaa_)); (case side2 => repeat (yac_)); rintro e w105 ⟨rfl, hi, hb, hk⟩; refine ⟨_, rfl, ?_⟩; have n0_ := A_ (kB_ hk (g' := gb170) (o := .cells #[.int .i64 0, .int .i64 0, .int .i64 0, .int .i64 0, .int .i64 0, .int .i64 0] 75 (0, 0)) (by (ya_); exact z0.out) zc.out (by simp)); have n1_ := A_ (kB_ hk (g' := gb181) (o := .cells #[.int .i64 (rd y175 t178), .int .i64 z1, .int .i64 z2, .int .i64 z3, .int .i64 z4, .int .i64 0] 75 (0, 0)) (by (ya_); exact z.out) zb.out (by simp)); have n2_ := A_ (rM_ (Kd.R_keep (IsS69.apart (show IsS69 w0 _ g s0_0 t228 from by repeat (yaa_)) (by (yaf_); exact zg.out) (by decide)) hk (fun _ h => h.2)) (fun _ h => h.1)); have n3_ := A_ (kT_ (by repeat (yab_)) hk (.inl rfl)); have n4_ := A_ (hb); have n5_ := A_ (hi); clear z0; clear z; clear zg; clear HK; clear HB; clear HI0; have z0 := n0_; have z := n1_; have zg := n2_; have HK := n3_; have HB := n4_; have HI0 := n5_; clear n0_ n1_ n2_ n3_ n4_ n5_; (try clear hb); (try clear hb2); (try clear hk); (try clear hi); obtain ⟨Ao106, co106, eo106⟩ := Kd.R_slice zg.out; subst eo106; have p234 : 0 ≤ (t232 : Int) := of_decide_eq_true (yag_); have q234 : t232 < (y229.length : Int) := of_decide_eq_true (yag_); obtain ⟨ad234, e234, hx234_0⟩ := Kd.at_int (Kd.R_reads' zg.out).2.2 t232 p234 q234; cases e234; replace p234 := eq_true p234; replace q234 := eq_true q234; have hnb107 := zo.out; have hnc107 := ze.out; have hnb108 := zb.out; have hnc108 := z5.out; have hcz109_0 : w105.cell? ⟨gb181, 0, none⟩ = some (.int .i64 (rd y175 t178)) := (bC_ z.out 0).trans rfl; have hcz109_1 : w105.cell? ⟨gb181, 1, none⟩ = some (.int .i64 z1) := (bC_ z.out 1).trans rfl; have hcz109_2 : w105.cell? ⟨gb181, 2, none⟩ = some (.int .i64 z2) := (bC_ z.out 2).trans rfl; have hcz109_3 : w105.cell? ⟨gb181, 3, none⟩ = some (.int .i64 z3) := (bC_ z.out 3).trans rfl; have hcz109_4 : w105.cell? ⟨gb181, 4, none⟩ = some (.int .i64 z4) := (bC_ z.out 4).trans rfl; have hcz109_5 : w105.cell? ⟨gb181, 5, none⟩ = some (.int .i64 0) := (bC_ z.out 5).trans rfl; have hfz109_0 := bF_ z.out 0; have hfz109_1 := bF_ z.out 1; have hfz109_2 := bF_ z.out 2; have hfz109_3 := bF_ z.out 3; have hfz109_4 := bF_ z.out 4; have hfz109_5 := bF_ z.out 5))
                go_meet
                case rel => exact ⟨_, (t233), (rd y229 t232), H', ⟨by have := HJ8.out; have := zq.out; have := zs.out; have := q0.out; first | omega | exact Nat.le_refl _⟩, ⟨by (ya_); refine blk_far ?_ ze.out _; (ya_); exact z0.out⟩, ⟨by (ya_); refine blk_put (cs := #[.int .i64 (rd y175 t178), .int .i64 z1, .int .i64 z2, .int .i64 z3, .int .i64 z4, .int .i64 0]) ?_ 5 _ rfl; (ya_); exact z.out⟩, ⟨by repeat (yaa_)⟩, ⟨by repeat (yab_)⟩, ⟨by repeat (yac_)⟩⟩
               ·rw [if_neg c99] at H
                have c99b0 : ((rd y175 t178) == 12) = false := beq_eq_false_iff_ne.mpr c99
                have c99b1 : ((rd y175 t178) != 12) = true := bne_iff_ne.mpr c99
                by_cases c110 : (rd y175 t178) = 2
                ·rw [if_pos c110] at H
                 have c110b0 : ((rd y175 t178) == 2) = true := beq_iff_eq.mpr c110
                 have c110b1 : ((rd y175 t178) != 2) = false := bne_eq_false_iff_eq.mpr c110
                 clear c110
                 have H' := A_ H
                 clear H
                 go_wp2_with (first | ((yae_); refine goesL_ (some 82) rfl rfl Try.func45 (by kernel_rfl) rfl #[.pointer (some ⟨g, 0, none⟩), .int .i64 8] rfl (yad_) ?_; (with_reducible refine (spec_l20Rd_pick.calls kj67 g s0_0 zu 8 t223 t224 w0 _ ?side1 ?side2 A93.out).mono ?_); (case side1 => repeat (yaa_)); (case side2 => repeat (yac_)); rintro e w111 ⟨rfl, hi, hb, hk⟩; refine ⟨_, rfl, ?_⟩; have n0_ := A_ (kB_ hk (g' := gb170) (o := .cells #[.int .i64 0, .int .i64 0, .int .i64 0, .int .i64 0, .int .i64 0, .int .i64 0] 75 (0, 0)) (by (ya_); exact z0.out) zc.out (by simp)); have n1_ := A_ (kB_ hk (g' := gb181) (o := .cells #[.int .i64 (rd y175 t178), .int .i64 z1, .int .i64 z2, .int .i64 z3, .int .i64 z4, .int .i64 0] 75 (0, 0)) (by (ya_); exact z.out) zb.out (by simp)); have n2_ := A_ (kT_ (by repeat (yab_)) hk (.inl rfl)); have n3_ := A_ (hb); have n4_ := A_ (hi); clear z0; clear z; clear HK; clear HB; clear HI0; have z0 := n0_; have z := n1_; have HK := n2_; have HB := n3_; have HI0 := n4_; clear n0_ n1_ n2_ n3_ n4_; (try clear hb); (try clear hb2); (try clear hk); (try clear hi)) | ((yae_); refine goesL_ (some 84) rfl rfl Try.func45 (by kernel_rfl) rfl #[.pointer (some ⟨g, 0, none⟩), .int .i64 32] rfl (yad_) ?_; (with_reducible refine (spec_l20Rd_pick.calls kj67 g s0_0 t224 32 t225 t226 w0 _ ?side1 ?side2 A94.out).mono ?_); (case side1 => repeat (yaa_)); (case side2 => repeat (yac_)); rintro e w112 ⟨rfl, hi, hb, hk⟩; refine ⟨_, rfl, ?_⟩; have n0_ := A_ (kB_ hk (g' := gb170) (o := .cells #[.int .i64 0, .int .i64 0, .int .i64 0, .int .i64 0, .int .i64 0, .int .i64 0] 75 (0, 0)) (by (ya_); exact z0.out) zc.out (by simp)); have n1_ := A_ (kB_ hk (g' := gb181) (o := .cells #[.int .i64 (rd y175 t178), .int .i64 z1, .int .i64 z2, .int .i64 z3, .int .i64 z4, .int .i64 0] 75 (0, 0)) (by (ya_); exact z.out) zb.out (by simp)); have n2_ := A_ (kT_ (by repeat (yab_)) hk (.inl rfl)); have n3_ := A_ (hb); have n4_ := A_ (hi); clear z0; clear z; clear HK; clear HB; clear HI0; have z0 := n0_; have z := n1_; have HK := n2_; have HB := n3_; have HI0 := n4_; clear n0_ n1_ n2_ n3_ n4_; (try clear hb); (try clear hb2); (try clear hk); (try clear hi)) | ((yae_); refine goesL_ (some 86) rfl rfl Try.func45 (by kernel_rfl) rfl #[.pointer (some ⟨g, 0, none⟩), .int .i64 5] rfl (yad_) ?_; (with_reducible refine (spec_l20Rd_pick.calls kj67 g s0_0 t226 5 t227 t228 w0 _ ?side1 ?side2 A95.out).mono ?_); (case side1 => repeat (yaa_)); (case side2 => repeat (yac_)); rintro e w113 ⟨rfl, hi, hb, hk⟩; refine ⟨_, rfl, ?_⟩; have n0_ := A_ (kB_ hk (g' := gb170) (o := .cells #[.int .i64 0, .int .i64 0, .int .i64 0, .int .i64 0, .int .i64 0, .int .i64 0] 75 (0, 0)) (by (ya_); exact z0.out) zc.out (by simp)); have n1_ := A_ (kB_ hk (g' := gb181) (o := .cells #[.int .i64 (rd y175 t178), .int .i64 z1, .int .i64 z2, .int .i64 z3, .int .i64 z4, .int .i64 0] 75 (0, 0)) (by (ya_); exact z.out) zb.out (by simp)); have n2_ := A_ (kT_ (by repeat (yab_)) hk (.inl rfl)); have n3_ := A_ (hb); have n4_ := A_ (hi); clear z0; clear z; clear HK; clear HB; clear HI0; have z0 := n0_; have z := n1_; have HK := n2_; have HB := n3_; have HI0 := n4_; clear n0_ n1_ n2_ n3_ n4_; (try clear hb); (try clear hb2); (try clear hk); (try clear hi)) | ((with_reducible refine gate_dst (N := 87) rfl ?_); refine Kd.R_lit (Kd.int .i64) _ 3 ?hg (N := 87) ?hd (xs := ([t223, t225, t227] : List Int)) (inner := [.int .i64 t223, .int .i64 t225, .int .i64 t227]) (ok := fun _ => True) (okp := fun _ => True) ?hr ?hp (fun _ hk => hk) trivial (Below.refl _ _) (Nat.le_refl _) (by simp) ?_; (case hd => rfl); (case hg => rfl); (yak_); (yaj_); intro v230 w114 ho115 hb hg_ hnew_; clear hg_ hnew_; (first | rw [← zv.out] at ho115 | (simp only [Int.reduceToNat] at ho115; rw [← zv.out] at ho115)); have n0_ := A_ (Kd.R_lower ho115 (keep_size (w := w) (g := g) (row := none) (by repeat (yab_)))); have n1_ := A_ (bB_ (g := gb170) (o := .cells #[.int .i64 0, .int .i64 0, .int .i64 0, .int .i64 0, .int .i64 0, .int .i64 0] 75 (0, 0)) (by (ya_); exact z0.out) hb); have n2_ := A_ (bB_ (g := gb181) (o := .cells #[.int .i64 (rd y175 t178), .int .i64 z1, .int .i64 z2, .int .i64 z3, .int .i64 z4, .int .i64 0] 75 (0, 0)) (by (ya_); exact z.out) hb); have n3_ := A_ (IsS69.below (by repeat (yaa_)) hb); have n4_ := A_ (kT_ (by repeat (yab_)) (kO_ hb g none) (.inl rfl)); have n5_ := A_ (wT_ (by repeat (yac_)) hb); clear z0; clear z; clear HI0; clear HK; clear HB; have zg := n0_; have z0 := n1_; have z := n2_; have HI0 := n3_; have HK := n4_; have HB := n5_; clear n0_ n1_ n2_ n3_ n4_ n5_; clear hb ho115) | ((yae_); refine goesL_ (some 89) rfl rfl Try.func45 (by kernel_rfl) rfl #[.pointer (some ⟨g, 0, none⟩), .int .i64 3] rfl (yad_) ?_; (with_reducible refine (spec_l20Rd_pick.calls kj67 g s0_0 t228 3 t232 t233 w0 _ ?side1 ?side2 A96.out).mono ?_); (case side1 => repeat (yaa_)); (case side2 => repeat (yac_)); rintro e w116 ⟨rfl, hi, hb, hk⟩; refine ⟨_, rfl, ?_⟩; have n0_ := A_ (kB_ hk (g' := gb170) (o := .cells #[.int .i64 0, .int .i64 0, .int .i64 0, .int .i64 0, .int .i64 0, .int .i64 0] 75 (0, 0)) (by (ya_); exact z0.out) zc.out (by simp)); have n1_ := A_ (kB_ hk (g' := gb181) (o := .cells #[.int .i64 (rd y175 t178), .int .i64 z1, .int .i64 z2, .int .i64 z3, .int .i64 z4, .int .i64 0] 75 (0, 0)) (by (ya_); exact z.out) zb.out (by simp)); have n2_ := A_ (rM_ (Kd.R_keep (IsS69.apart (show IsS69 w0 _ g s0_0 t228 from by repeat (yaa_)) (by (yaf_); exact zg.out) (by decide)) hk (fun _ h => h.2)) (fun _ h => h.1)); have n3_ := A_ (kT_ (by repeat (yab_)) hk (.inl rfl)); have n4_ := A_ (hb); have n5_ := A_ (hi); clear z0; clear z; clear zg; clear HK; clear HB; clear HI0; have z0 := n0_; have z := n1_; have zg := n2_; have HK := n3_; have HB := n4_; have HI0 := n5_; clear n0_ n1_ n2_ n3_ n4_ n5_; (try clear hb); (try clear hb2); (try clear hk); (try clear hi); obtain ⟨Ao117, co117, eo117⟩ := Kd.R_slice zg.out; subst eo117; have p234 : 0 ≤ (t232 : Int) := of_decide_eq_true (yag_); have q234 : t232 < (y229.length : Int) := of_decide_eq_true (yag_); obtain ⟨ad234, e234, hx234_0⟩ := Kd.at_int (Kd.R_reads' zg.out).2.2 t232 p234 q234; cases e234; replace p234 := eq_true p234; replace q234 := eq_true q234; have hnb118 := zo.out; have hnc118 := ze.out; have hnb119 := zb.out; have hnc119 := z5.out; have hcz120_0 : w116.cell? ⟨gb181, 0, none⟩ = some (.int .i64 (rd y175 t178)) := (bC_ z.out 0).trans rfl; have hcz120_1 : w116.cell? ⟨gb181, 1, none⟩ = some (.int .i64 z1) := (bC_ z.out 1).trans rfl; have hcz120_2 : w116.cell? ⟨gb181, 2, none⟩ = some (.int .i64 z2) := (bC_ z.out 2).trans rfl; have hcz120_3 : w116.cell? ⟨gb181, 3, none⟩ = some (.int .i64 z3) := (bC_ z.out 3).trans rfl; have hcz120_4 : w116.cell? ⟨gb181, 4, none⟩ = some (.int .i64 z4) := (bC_ z.out 4).trans rfl; have hcz120_5 : w116.cell? ⟨gb181, 5, none⟩ = some (.int .i64 0) := (bC_ z.out 5).trans rfl; have hfz120_0 := bF_ z.out 0; have hfz120_1 := bF_ z.out 1; have hfz120_2 := bF_ z.out 2; have hfz120_3 := bF_ z.out 3; have hfz120_4 := bF_ z.out 4; have hfz120_5 := bF_ z.out 5))
                 go_meet
                 case rel => exact ⟨_, (t233), (rd y229 t232), H', ⟨by have := HJ8.out; have := zq.out; have := zs.out; have := q0.out; first | omega | exact Nat.le_refl _⟩, ⟨by (ya_); refine blk_far ?_ ze.out _; (ya_); exact z0.out⟩, ⟨by (ya_); refine blk_put (cs := #[.int .i64 (rd y175 t178), .int .i64 z1, .int .i64 z2, .int .i64 z3, .int .i64 z4, .int .i64 0]) ?_ 5 _ rfl; (ya_); exact z.out⟩, ⟨by repeat (yaa_)⟩, ⟨by repeat (yab_)⟩, ⟨by repeat (yac_)⟩⟩
                ·rw [if_neg c110] at H
                 have c110b0 : ((rd y175 t178) == 2) = false := beq_eq_false_iff_ne.mpr c110
                 have c110b1 : ((rd y175 t178) != 2) = true := bne_iff_ne.mpr c110
                 replace H := Option.bind_eq_some_iff.mp H
                 obtain ⟨⟨t235, t236⟩, A1210, H⟩ := H
                 replace H : (if t235 = 0 then ((spec_l20Rd_pick.f kj67 s0_0 t236 4).bind fun bt237 => (spec_l20Inst.j4 kj67 a1 s0_0 bt237.2 (rd y175 t178) z1 z2 z3 z4 (wrap64 ((-1) - bt237.1)))) else (spec_l20Inst.j4 kj67 a1 s0_0 t236 (rd y175 t178) z1 z2 z3 z4 (rd y229 t232))) = some (r1, r2, r3, r4, r5, r6, r7) := H
                 have A121 := A_ A1210
                 clear A1210
                 by_cases c122 : t235 = 0
                 ·rw [if_pos c122] at H
                  have c122b0 : (t235 == 0) = true := beq_iff_eq.mpr c122
                  have c122b1 : (t235 != 0) = false := bne_eq_false_iff_eq.mpr c122
                  clear c122
                  replace H := Option.bind_eq_some_iff.mp H
                  obtain ⟨⟨t237, t238⟩, A1230, H⟩ := H
                  replace H : (spec_l20Inst.j4 kj67 a1 s0_0 t238 (rd y175 t178) z1 z2 z3 z4 (wrap64 ((-1) - t237))) = some (r1, r2, r3, r4, r5, r6, r7) := H
                  have A123 := A_ A1230
                  clear A1230
                  have H' := A_ H
                  clear H
                  go_wp2_with (first | ((yae_); refine goesL_ (some 82) rfl rfl Try.func45 (by kernel_rfl) rfl #[.pointer (some ⟨g, 0, none⟩), .int .i64 8] rfl (yad_) ?_; (with_reducible refine (spec_l20Rd_pick.calls kj67 g s0_0 zu 8 t223 t224 w0 _ ?side1 ?side2 A93.out).mono ?_); (case side1 => repeat (yaa_)); (case side2 => repeat (yac_)); rintro e w124 ⟨rfl, hi, hb, hk⟩; refine ⟨_, rfl, ?_⟩; have n0_ := A_ (kB_ hk (g' := gb170) (o := .cells #[.int .i64 0, .int .i64 0, .int .i64 0, .int .i64 0, .int .i64 0, .int .i64 0] 75 (0, 0)) (by (ya_); exact z0.out) zc.out (by simp)); have n1_ := A_ (kB_ hk (g' := gb181) (o := .cells #[.int .i64 (rd y175 t178), .int .i64 z1, .int .i64 z2, .int .i64 z3, .int .i64 z4, .int .i64 0] 75 (0, 0)) (by (ya_); exact z.out) zb.out (by simp)); have n2_ := A_ (kT_ (by repeat (yab_)) hk (.inl rfl)); have n3_ := A_ (hb); have n4_ := A_ (hi); clear z0; clear z; clear HK; clear HB; clear HI0; have z0 := n0_; have z := n1_; have HK := n2_; have HB := n3_; have HI0 := n4_; clear n0_ n1_ n2_ n3_ n4_; (try clear hb); (try clear hb2); (try clear hk); (try clear hi)) | ((yae_); refine goesL_ (some 84) rfl rfl Try.func45 (by kernel_rfl) rfl #[.pointer (some ⟨g, 0, none⟩), .int .i64 32] rfl (yad_) ?_; (with_reducible refine (spec_l20Rd_pick.calls kj67 g s0_0 t224 32 t225 t226 w0 _ ?side1 ?side2 A94.out).mono ?_); (case side1 => repeat (yaa_)); (case side2 => repeat (yac_)); rintro e w125 ⟨rfl, hi, hb, hk⟩; refine ⟨_, rfl, ?_⟩; have n0_ := A_ (kB_ hk (g' := gb170) (o := .cells #[.int .i64 0, .int .i64 0, .int .i64 0, .int .i64 0, .int .i64 0, .int .i64 0] 75 (0, 0)) (by (ya_); exact z0.out) zc.out (by simp)); have n1_ := A_ (kB_ hk (g' := gb181) (o := .cells #[.int .i64 (rd y175 t178), .int .i64 z1, .int .i64 z2, .int .i64 z3, .int .i64 z4, .int .i64 0] 75 (0, 0)) (by (ya_); exact z.out) zb.out (by simp)); have n2_ := A_ (kT_ (by repeat (yab_)) hk (.inl rfl)); have n3_ := A_ (hb); have n4_ := A_ (hi); clear z0; clear z; clear HK; clear HB; clear HI0; have z0 := n0_; have z := n1_; have HK := n2_; have HB := n3_; have HI0 := n4_; clear n0_ n1_ n2_ n3_ n4_; (try clear hb); (try clear hb2); (try clear hk); (try clear hi)) | ((yae_); refine goesL_ (some 86) rfl rfl Try.func45 (by kernel_rfl) rfl #[.pointer (some ⟨g, 0, none⟩), .int .i64 5] rfl (yad_) ?_; (with_reducible refine (spec_l20Rd_pick.calls kj67 g s0_0 t226 5 t227 t228 w0 _ ?side1 ?side2 A95.out).mono ?_); (case side1 => repeat (yaa_)); (case side2 => repeat (yac_)); rintro e w126 ⟨rfl, hi, hb, hk⟩; refine ⟨_, rfl, ?_⟩; have n0_ := A_ (kB_ hk (g' := gb170) (o := .cells #[.int .i64 0, .int .i64 0, .int .i64 0, .int .i64 0, .int .i64 0, .int .i64 0] 75 (0, 0)) (by (ya_); exact z0.out) zc.out (by simp)); have n1_ := A_ (kB_ hk (g' := gb181) (o := .cells #[.int .i64 (rd y175 t178), .int .i64 z1, .int .i64 z2, .int .i64 z3, .int .i64 z4, .int .i64 0] 75 (0, 0)) (by (ya_); exact z.out) zb.out (by simp)); have n2_ := A_ (kT_ (by repeat (yab_)) hk (.inl rfl)); have n3_ := A_ (hb); have n4_ := A_ (hi); clear z0; clear z; clear HK; clear HB; clear HI0; have z0 := n0_; have z := n1_; have HK := n2_; have HB := n3_; have HI0 := n4_; clear n0_ n1_ n2_ n3_ n4_; (try clear hb); (try clear hb2); (try clear hk); (try clear hi)) | ((with_reducible refine gate_dst (N := 87) rfl ?_); refine Kd.R_lit (Kd.int .i64) _ 3 ?hg (N := 87) ?hd (xs := ([t223, t225, t227] : List Int)) (inner := [.int .i64 t223, .int .i64 t225, .int .i64 t227]) (ok := fun _ => True) (okp := fun _ => True) ?hr ?hp (fun _ hk => hk) trivial (Below.refl _ _) (Nat.le_refl _) (by simp) ?_; (case hd => rfl); (case hg => rfl); (yak_); (yaj_); intro v230 w127 ho128 hb hg_ hnew_; clear hg_ hnew_; (first | rw [← zv.out] at ho128 | (simp only [Int.reduceToNat] at ho128; rw [← zv.out] at ho128)); have n0_ := A_ (Kd.R_lower ho128 (keep_size (w := w) (g := g) (row := none) (by repeat (yab_)))); have n1_ := A_ (bB_ (g := gb170) (o := .cells #[.int .i64 0, .int .i64 0, .int .i64 0, .int .i64 0, .int .i64 0, .int .i64 0] 75 (0, 0)) (by (ya_); exact z0.out) hb); have n2_ := A_ (bB_ (g := gb181) (o := .cells #[.int .i64 (rd y175 t178), .int .i64 z1, .int .i64 z2, .int .i64 z3, .int .i64 z4, .int .i64 0] 75 (0, 0)) (by (ya_); exact z.out) hb); have n3_ := A_ (IsS69.below (by repeat (yaa_)) hb); have n4_ := A_ (kT_ (by repeat (yab_)) (kO_ hb g none) (.inl rfl)); have n5_ := A_ (wT_ (by repeat (yac_)) hb); clear z0; clear z; clear HI0; clear HK; clear HB; have zg := n0_; have z0 := n1_; have z := n2_; have HI0 := n3_; have HK := n4_; have HB := n5_; clear n0_ n1_ n2_ n3_ n4_ n5_; clear hb ho128) | ((yae_); refine goesL_ (some 89) rfl rfl Try.func45 (by kernel_rfl) rfl #[.pointer (some ⟨g, 0, none⟩), .int .i64 3] rfl (yad_) ?_; (with_reducible refine (spec_l20Rd_pick.calls kj67 g s0_0 t228 3 t232 t233 w0 _ ?side1 ?side2 A96.out).mono ?_); (case side1 => repeat (yaa_)); (case side2 => repeat (yac_)); rintro e w129 ⟨rfl, hi, hb, hk⟩; refine ⟨_, rfl, ?_⟩; have n0_ := A_ (kB_ hk (g' := gb170) (o := .cells #[.int .i64 0, .int .i64 0, .int .i64 0, .int .i64 0, .int .i64 0, .int .i64 0] 75 (0, 0)) (by (ya_); exact z0.out) zc.out (by simp)); have n1_ := A_ (kB_ hk (g' := gb181) (o := .cells #[.int .i64 (rd y175 t178), .int .i64 z1, .int .i64 z2, .int .i64 z3, .int .i64 z4, .int .i64 0] 75 (0, 0)) (by (ya_); exact z.out) zb.out (by simp)); have n2_ := A_ (rM_ (Kd.R_keep (IsS69.apart (show IsS69 w0 _ g s0_0 t228 from by repeat (yaa_)) (by (yaf_); exact zg.out) (by decide)) hk (fun _ h => h.2)) (fun _ h => h.1)); have n3_ := A_ (kT_ (by repeat (yab_)) hk (.inl rfl)); have n4_ := A_ (hb); have n5_ := A_ (hi); clear z0; clear z; clear zg; clear HK; clear HB; clear HI0; have z0 := n0_; have z := n1_; have zg := n2_; have HK := n3_; have HB := n4_; have HI0 := n5_; clear n0_ n1_ n2_ n3_ n4_ n5_; (try clear hb); (try clear hb2); (try clear hk); (try clear hi); obtain ⟨Ao130, co130, eo130⟩ := Kd.R_slice zg.out; subst eo130; have p234 : 0 ≤ (t232 : Int) := of_decide_eq_true (yag_); have q234 : t232 < (y229.length : Int) := of_decide_eq_true (yag_); obtain ⟨ad234, e234, hx234_0⟩ := Kd.at_int (Kd.R_reads' zg.out).2.2 t232 p234 q234; cases e234; replace p234 := eq_true p234; replace q234 := eq_true q234; have hnb131 := zo.out; have hnc131 := ze.out; have hnb132 := zb.out; have hnc132 := z5.out; have hcz133_0 : w129.cell? ⟨gb181, 0, none⟩ = some (.int .i64 (rd y175 t178)) := (bC_ z.out 0).trans rfl; have hcz133_1 : w129.cell? ⟨gb181, 1, none⟩ = some (.int .i64 z1) := (bC_ z.out 1).trans rfl; have hcz133_2 : w129.cell? ⟨gb181, 2, none⟩ = some (.int .i64 z2) := (bC_ z.out 2).trans rfl; have hcz133_3 : w129.cell? ⟨gb181, 3, none⟩ = some (.int .i64 z3) := (bC_ z.out 3).trans rfl; have hcz133_4 : w129.cell? ⟨gb181, 4, none⟩ = some (.int .i64 z4) := (bC_ z.out 4).trans rfl; have hcz133_5 : w129.cell? ⟨gb181, 5, none⟩ = some (.int .i64 0) := (bC_ z.out 5).trans rfl; have hfz133_0 := bF_ z.out 0; have hfz133_1 := bF_ z.out 1; have hfz133_2 := bF_ z.out 2; have hfz133_3 := bF_ z.out 3; have hfz133_4 := bF_ z.out 4; have hfz133_5 := bF_ z.out 5) | (go_at_call 45; (with_reducible refine (spec_l20Rd_pick.calls kj67 g s0_0 t233 3 t235 t236 w0 _ ?side1 ?side2 A121.out).mono ?_); (case side1 => repeat (yaa_)); (case side2 => repeat (yac_)); rintro e w134 ⟨rfl, hi, hb, hk⟩; have n0_ := A_ (kB_ hk (g' := gb170) (o := .cells #[.int .i64 0, .int .i64 0, .int .i64 0, .int .i64 0, .int .i64 0, .int .i64 0] 75 (0, 0)) (by (ya_); refine blk_far ?_ ze.out _; (ya_); exact z0.out) zc.out (by simp)); have n1_ := A_ (kB_ hk (g' := gb181) (o := .cells #[.int .i64 (rd y175 t178), .int .i64 z1, .int .i64 z2, .int .i64 z3, .int .i64 z4, .int .i64 (rd y229 t232)] 75 (0, 0)) (by (ya_); refine blk_put (cs := #[.int .i64 (rd y175 t178), .int .i64 z1, .int .i64 z2, .int .i64 z3, .int .i64 z4, .int .i64 0]) ?_ 5 _ rfl; (ya_); exact z.out) zb.out (by simp)); have n2_ := A_ (rM_ (Kd.R_keep (IsS69.apart (show IsS69 w0 _ g s0_0 t233 from by repeat (yaa_)) (by (yaf_); exact (rM_ (Kd.R_far (p := ⟨gb181, 5, none⟩) (Kd.R_types zg.out z.out (by decide)) (fun _ hk => hk.2) (.int .i64 (rd y229 t232))) (fun _ h_ => h_.1))) (by decide)) hk (fun _ h => h.2)) (fun _ h => h.1)); have n3_ := A_ (kT_ (by repeat (yab_)) hk (.inl rfl)); have n4_ := A_ (hb); have n5_ := A_ (hi); clear z0; clear z; clear zg; clear HK; clear HB; clear HI0; have z0 := n0_; have z := n1_; have zg := n2_; have HK := n3_; have HB := n4_; have HI0 := n5_; clear n0_ n1_ n2_ n3_ n4_ n5_; (try clear hb); (try clear hb2); (try clear hk); (try clear hi)) | ((yae_); refine goesL_ (some 107) rfl rfl Try.func45 (by kernel_rfl) rfl #[.pointer (some ⟨g, 0, none⟩), .int .i64 4] rfl (yad_) ?_; (with_reducible refine (spec_l20Rd_pick.calls kj67 g s0_0 t236 4 t237 t238 w0 _ ?side1 ?side2 A123.out).mono ?_); (case side1 => repeat (yaa_)); (case side2 => repeat (yac_)); rintro e w135 ⟨rfl, hi, hb, hk⟩; refine ⟨_, rfl, ?_⟩; have n0_ := A_ (kB_ hk (g' := gb170) (o := .cells #[.int .i64 0, .int .i64 0, .int .i64 0, .int .i64 0, .int .i64 0, .int .i64 0] 75 (0, 0)) (by (ya_); exact z0.out) zc.out (by simp)); have n1_ := A_ (kB_ hk (g' := gb181) (o := .cells #[.int .i64 (rd y175 t178), .int .i64 z1, .int .i64 z2, .int .i64 z3, .int .i64 z4, .int .i64 (rd y229 t232)] 75 (0, 0)) (by (ya_); exact z.out) zb.out (by simp)); have n2_ := A_ (rM_ (Kd.R_keep (IsS69.apart (show IsS69 w0 _ g s0_0 t236 from by repeat (yaa_)) (by (yaf_); exact zg.out) (by decide)) hk (fun _ h => h.2)) (fun _ h => h.1)); have n3_ := A_ (kT_ (by repeat (yab_)) hk (.inl rfl)); have n4_ := A_ (hb); have n5_ := A_ (hi); clear z0; clear z; clear zg; clear HK; clear HB; clear HI0; have z0 := n0_; have z := n1_; have zg := n2_; have HK := n3_; have HB := n4_; have HI0 := n5_; clear n0_ n1_ n2_ n3_ n4_ n5_; (try clear hb); (try clear hb2); (try clear hk); (try clear hi); have hcz136_0 : w135.cell? ⟨gb181, 0, none⟩ = some (.int .i64 (rd y175 t178)) := (bC_ z.out 0).trans rfl; have hcz136_1 : w135.cell? ⟨gb181, 1, none⟩ = some (.int .i64 z1) := (bC_ z.out 1).trans rfl; have hcz136_2 : w135.cell? ⟨gb181, 2, none⟩ = some (.int .i64 z2) := (bC_ z.out 2).trans rfl; have hcz136_3 : w135.cell? ⟨gb181, 3, none⟩ = some (.int .i64 z3) := (bC_ z.out 3).trans rfl; have hcz136_4 : w135.cell? ⟨gb181, 4, none⟩ = some (.int .i64 z4) := (bC_ z.out 4).trans rfl; have hcz136_5 : w135.cell? ⟨gb181, 5, none⟩ = some (.int .i64 (rd y229 t232)) := (bC_ z.out 5).trans rfl; have hfz136_0 := bF_ z.out 0; have hfz136_1 := bF_ z.out 1; have hfz136_2 := bF_ z.out 2; have hfz136_3 := bF_ z.out 3; have hfz136_4 := bF_ z.out 4; have hfz136_5 := bF_ z.out 5))
                  go_meet
                  case rel => exact ⟨_, (t238), (wrap64 ((-1) - t237)), H', ⟨by have := HJ8.out; have := zq.out; have := zs.out; have := q0.out; first | omega | exact Nat.le_refl _⟩, ⟨by (ya_); refine blk_far ?_ ze.out _; (ya_); exact z0.out⟩, ⟨by (ya_); refine blk_put (cs := #[.int .i64 (rd y175 t178), .int .i64 z1, .int .i64 z2, .int .i64 z3, .int .i64 z4, .int .i64 (rd y229 t232)]) ?_ 5 _ rfl; (ya_); exact z.out⟩, ⟨by repeat (yaa_)⟩, ⟨by repeat (yab_)⟩, ⟨by repeat (yac_)⟩⟩
                 ·rw [if_neg c122] at H
                  have c122b0 : (t235 == 0) = false := beq_eq_false_iff_ne.mpr c122
                  have c122b1 : (t235 != 0) = true := bne_iff_ne.mpr c122
                  have H' := A_ H
                  clear H
                  go_wp2_with (first | ((yae_); refine goesL_ (some 82) rfl rfl Try.func45 (by kernel_rfl) rfl #[.pointer (some ⟨g, 0, none⟩), .int .i64 8] rfl (yad_) ?_; (with_reducible refine (spec_l20Rd_pick.calls kj67 g s0_0 zu 8 t223 t224 w0 _ ?side1 ?side2 A93.out).mono ?_); (case side1 => repeat (yaa_)); (case side2 => repeat (yac_)); rintro e w137 ⟨rfl, hi, hb, hk⟩; refine ⟨_, rfl, ?_⟩; have n0_ := A_ (kB_ hk (g' := gb170) (o := .cells #[.int .i64 0, .int .i64 0, .int .i64 0, .int .i64 0, .int .i64 0, .int .i64 0] 75 (0, 0)) (by (ya_); exact z0.out) zc.out (by simp)); have n1_ := A_ (kB_ hk (g' := gb181) (o := .cells #[.int .i64 (rd y175 t178), .int .i64 z1, .int .i64 z2, .int .i64 z3, .int .i64 z4, .int .i64 0] 75 (0, 0)) (by (ya_); exact z.out) zb.out (by simp)); have n2_ := A_ (kT_ (by repeat (yab_)) hk (.inl rfl)); have n3_ := A_ (hb); have n4_ := A_ (hi); clear z0; clear z; clear HK; clear HB; clear HI0; have z0 := n0_; have z := n1_; have HK := n2_; have HB := n3_; have HI0 := n4_; clear n0_ n1_ n2_ n3_ n4_; (try clear hb); (try clear hb2); (try clear hk); (try clear hi)) | ((yae_); refine goesL_ (some 84) rfl rfl Try.func45 (by kernel_rfl) rfl #[.pointer (some ⟨g, 0, none⟩), .int .i64 32] rfl (yad_) ?_; (with_reducible refine (spec_l20Rd_pick.calls kj67 g s0_0 t224 32 t225 t226 w0 _ ?side1 ?side2 A94.out).mono ?_); (case side1 => repeat (yaa_)); (case side2 => repeat (yac_)); rintro e w138 ⟨rfl, hi, hb, hk⟩; refine ⟨_, rfl, ?_⟩; have n0_ := A_ (kB_ hk (g' := gb170) (o := .cells #[.int .i64 0, .int .i64 0, .int .i64 0, .int .i64 0, .int .i64 0, .int .i64 0] 75 (0, 0)) (by (ya_); exact z0.out) zc.out (by simp)); have n1_ := A_ (kB_ hk (g' := gb181) (o := .cells #[.int .i64 (rd y175 t178), .int .i64 z1, .int .i64 z2, .int .i64 z3, .int .i64 z4, .int .i64 0] 75 (0, 0)) (by (ya_); exact z.out) zb.out (by simp)); have n2_ := A_ (kT_ (by repeat (yab_)) hk (.inl rfl)); have n3_ := A_ (hb); have n4_ := A_ (hi); clear z0; clear z; clear HK; clear HB; clear HI0; have z0 := n0_; have z := n1_; have HK := n2_; have HB := n3_; have HI0 := n4_; clear n0_ n1_ n2_ n3_ n4_; (try clear hb); (try clear hb2); (try clear hk); (try clear hi)) | ((yae_); refine goesL_ (some 86) rfl rfl Try.func45 (by kernel_rfl) rfl #[.pointer (some ⟨g, 0, none⟩), .int .i64 5] rfl (yad_) ?_; (with_reducible refine (spec_l20Rd_pick.calls kj67 g s0_0 t226 5 t227 t228 w0 _ ?side1 ?side2 A95.out).mono ?_); (case side1 => repeat (yaa_)); (case side2 => repeat (yac_)); rintro e w139 ⟨rfl, hi, hb, hk⟩; refine ⟨_, rfl, ?_⟩; have n0_ := A_ (kB_ hk (g' := gb170) (o := .cells #[.int .i64 0, .int .i64 0, .int .i64 0, .int .i64 0, .int .i64 0, .int .i64 0] 75 (0, 0)) (by (ya_); exact z0.out) zc.out (by simp)); have n1_ := A_ (kB_ hk (g' := gb181) (o := .cells #[.int .i64 (rd y175 t178), .int .i64 z1, .int .i64 z2, .int .i64 z3, .int .i64 z4, .int .i64 0] 75 (0, 0)) (by (ya_); exact z.out) zb.out (by simp)); have n2_ := A_ (kT_ (by repeat (yab_)) hk (.inl rfl)); have n3_ := A_ (hb); have n4_ := A_ (hi); clear z0; clear z; clear HK; clear HB; clear HI0; have z0 := n0_; have z := n1_; have HK := n2_; have HB := n3_; have HI0 := n4_; clear n0_ n1_ n2_ n3_ n4_; (try clear hb); (try clear hb2); (try clear hk); (try clear hi)) | ((with_reducible refine gate_dst (N := 87) rfl ?_); refine Kd.R_lit (Kd.int .i64) _ 3 ?hg (N := 87) ?hd (xs := ([t223, t225, t227] : List Int)) (inner := [.int .i64 t223, .int .i64 t225, .int .i64 t227]) (ok := fun _ => True) (okp := fun _ => True) ?hr ?hp (fun _ hk => hk) trivial (Below.refl _ _) (Nat.le_refl _) (by simp) ?_; (case hd => rfl); (case hg => rfl); (yak_); (yaj_); intro v230 w140 ho141 hb hg_ hnew_; clear hg_ hnew_; (first | rw [← zv.out] at ho141 | (simp only [Int.reduceToNat] at ho141; rw [← zv.out] at ho141)); have n0_ := A_ (Kd.R_lower ho141 (keep_size (w := w) (g := g) (row := none) (by repeat (yab_)))); have n1_ := A_ (bB_ (g := gb170) (o := .cells #[.int .i64 0, .int .i64 0, .int .i64 0, .int .i64 0, .int .i64 0, .int .i64 0] 75 (0, 0)) (by (ya_); exact z0.out) hb); have n2_ := A_ (bB_ (g := gb181) (o := .cells #[.int .i64 (rd y175 t178), .int .i64 z1, .int .i64 z2, .int .i64 z3, .int .i64 z4, .int .i64 0] 75 (0, 0)) (by (ya_); exact z.out) hb); have n3_ := A_ (IsS69.below (by repeat (yaa_)) hb); have n4_ := A_ (kT_ (by repeat (yab_)) (kO_ hb g none) (.inl rfl)); have n5_ := A_ (wT_ (by repeat (yac_)) hb); clear z0; clear z; clear HI0; clear HK; clear HB; have zg := n0_; have z0 := n1_; have z := n2_; have HI0 := n3_; have HK := n4_; have HB := n5_; clear n0_ n1_ n2_ n3_ n4_ n5_; clear hb ho141) | ((yae_); refine goesL_ (some 89) rfl rfl Try.func45 (by kernel_rfl) rfl #[.pointer (some ⟨g, 0, none⟩), .int .i64 3] rfl (yad_) ?_; (with_reducible refine (spec_l20Rd_pick.calls kj67 g s0_0 t228 3 t232 t233 w0 _ ?side1 ?side2 A96.out).mono ?_); (case side1 => repeat (yaa_)); (case side2 => repeat (yac_)); rintro e w142 ⟨rfl, hi, hb, hk⟩; refine ⟨_, rfl, ?_⟩; have n0_ := A_ (kB_ hk (g' := gb170) (o := .cells #[.int .i64 0, .int .i64 0, .int .i64 0, .int .i64 0, .int .i64 0, .int .i64 0] 75 (0, 0)) (by (ya_); exact z0.out) zc.out (by simp)); have n1_ := A_ (kB_ hk (g' := gb181) (o := .cells #[.int .i64 (rd y175 t178), .int .i64 z1, .int .i64 z2, .int .i64 z3, .int .i64 z4, .int .i64 0] 75 (0, 0)) (by (ya_); exact z.out) zb.out (by simp)); have n2_ := A_ (rM_ (Kd.R_keep (IsS69.apart (show IsS69 w0 _ g s0_0 t228 from by repeat (yaa_)) (by (yaf_); exact zg.out) (by decide)) hk (fun _ h => h.2)) (fun _ h => h.1)); have n3_ := A_ (kT_ (by repeat (yab_)) hk (.inl rfl)); have n4_ := A_ (hb); have n5_ := A_ (hi); clear z0; clear z; clear zg; clear HK; clear HB; clear HI0; have z0 := n0_; have z := n1_; have zg := n2_; have HK := n3_; have HB := n4_; have HI0 := n5_; clear n0_ n1_ n2_ n3_ n4_ n5_; (try clear hb); (try clear hb2); (try clear hk); (try clear hi); obtain ⟨Ao143, co143, eo143⟩ := Kd.R_slice zg.out; subst eo143; have p234 : 0 ≤ (t232 : Int) := of_decide_eq_true (yag_); have q234 : t232 < (y229.length : Int) := of_decide_eq_true (yag_); obtain ⟨ad234, e234, hx234_0⟩ := Kd.at_int (Kd.R_reads' zg.out).2.2 t232 p234 q234; cases e234; replace p234 := eq_true p234; replace q234 := eq_true q234; have hnb144 := zo.out; have hnc144 := ze.out; have hnb145 := zb.out; have hnc145 := z5.out; have hcz146_0 : w142.cell? ⟨gb181, 0, none⟩ = some (.int .i64 (rd y175 t178)) := (bC_ z.out 0).trans rfl; have hcz146_1 : w142.cell? ⟨gb181, 1, none⟩ = some (.int .i64 z1) := (bC_ z.out 1).trans rfl; have hcz146_2 : w142.cell? ⟨gb181, 2, none⟩ = some (.int .i64 z2) := (bC_ z.out 2).trans rfl; have hcz146_3 : w142.cell? ⟨gb181, 3, none⟩ = some (.int .i64 z3) := (bC_ z.out 3).trans rfl; have hcz146_4 : w142.cell? ⟨gb181, 4, none⟩ = some (.int .i64 z4) := (bC_ z.out 4).trans rfl; have hcz146_5 : w142.cell? ⟨gb181, 5, none⟩ = some (.int .i64 0) := (bC_ z.out 5).trans rfl; have hfz146_0 := bF_ z.out 0; have hfz146_1 := bF_ z.out 1; have hfz146_2 := bF_ z.out 2; have hfz146_3 := bF_ z.out 3; have hfz146_4 := bF_ z.out 4; have hfz146_5 := bF_ z.out 5) | (go_at_call 45; (with_reducible refine (spec_l20Rd_pick.calls kj67 g s0_0 t233 3 t235 t236 w0 _ ?side1 ?side2 A121.out).mono ?_); (case side1 => repeat (yaa_)); (case side2 => repeat (yac_)); rintro e w147 ⟨rfl, hi, hb, hk⟩; have n0_ := A_ (kB_ hk (g' := gb170) (o := .cells #[.int .i64 0, .int .i64 0, .int .i64 0, .int .i64 0, .int .i64 0, .int .i64 0] 75 (0, 0)) (by (ya_); refine blk_far ?_ ze.out _; (ya_); exact z0.out) zc.out (by simp)); have n1_ := A_ (kB_ hk (g' := gb181) (o := .cells #[.int .i64 (rd y175 t178), .int .i64 z1, .int .i64 z2, .int .i64 z3, .int .i64 z4, .int .i64 (rd y229 t232)] 75 (0, 0)) (by (ya_); refine blk_put (cs := #[.int .i64 (rd y175 t178), .int .i64 z1, .int .i64 z2, .int .i64 z3, .int .i64 z4, .int .i64 0]) ?_ 5 _ rfl; (ya_); exact z.out) zb.out (by simp)); have n2_ := A_ (rM_ (Kd.R_keep (IsS69.apart (show IsS69 w0 _ g s0_0 t233 from by repeat (yaa_)) (by (yaf_); exact (rM_ (Kd.R_far (p := ⟨gb181, 5, none⟩) (Kd.R_types zg.out z.out (by decide)) (fun _ hk => hk.2) (.int .i64 (rd y229 t232))) (fun _ h_ => h_.1))) (by decide)) hk (fun _ h => h.2)) (fun _ h => h.1)); have n3_ := A_ (kT_ (by repeat (yab_)) hk (.inl rfl)); have n4_ := A_ (hb); have n5_ := A_ (hi); clear z0; clear z; clear zg; clear HK; clear HB; clear HI0; have z0 := n0_; have z := n1_; have zg := n2_; have HK := n3_; have HB := n4_; have HI0 := n5_; clear n0_ n1_ n2_ n3_ n4_ n5_; (try clear hb); (try clear hb2); (try clear hk); (try clear hi)))
                  go_meet
                  case rel => exact ⟨_, (t236), (rd y229 t232), H', ⟨by have := HJ8.out; have := zq.out; have := zs.out; have := q0.out; first | omega | exact Nat.le_refl _⟩, ⟨by (ya_); exact z0.out⟩, ⟨by (ya_); exact z.out⟩, ⟨by repeat (yaa_)⟩, ⟨by repeat (yab_)⟩, ⟨by repeat (yac_)⟩⟩
              ·rw [if_neg c98] at H
               exact absurd H (by simp)
             ·rw [if_neg c97] at H
              exact absurd H (by simp)
            ·rw [if_neg c92] at H
             have c92b0 : decide (0 < t186) = false := decide_eq_false c92
             clear c92
             (first | rw [c92b0] | (simp only [i64_w, i32_w]; rw [c92b0]) | skip)
             have H' := A_ H
             clear H
             go_wp2
             go_meet
             case rel => exact ⟨_, (zu), (0), H', ⟨by have := HJ8.out; have := zq.out; have := zs.out; have := q0.out; first | omega | exact Nat.le_refl _⟩, ⟨by (ya_); exact z0.out⟩, ⟨by (ya_); exact z.out⟩, ⟨by repeat (yaa_)⟩, ⟨by repeat (yab_)⟩, ⟨by repeat (yac_)⟩⟩
           case rest =>
            clear HC91
            try clear c1
            try clear p1
            try clear q1
            try clear hx1
            try clear c2
            try clear p2
            try clear q2
            try clear hx2
            try clear c3
            try clear c4
            try clear c5
            try clear c6
            try clear c6b0
            try clear p6
            try clear c7
            try clear c7b0
            try clear c8
            try clear c9
            try clear c10
            try clear c11
            try clear c12
            try clear c13
            try clear c14
            try clear c18
            try clear p18
            try clear q18
            try clear hx18
            try clear c19
            try clear p19
            try clear q19
            try clear hx19
            try clear p20
            try clear q20
            try clear hx20
            try clear c21
            try clear p21
            try clear q21
            try clear hx21
            try clear p23
            try clear q23
            try clear hx23
            try clear c25
            try clear c25b0
            try clear c26
            try clear c26b0
            try clear c33
            try clear c34
            try clear c37
            try clear c41
            try clear c41b0
            try clear c42
            try clear c42b0
            try clear c45
            try clear c49
            try clear c50
            try clear c53
            try clear c57
            try clear c57b0
            try clear c58
            try clear c58b0
            try clear c61
            try clear p64
            try clear c65
            try clear c66
            try clear c69
            try clear c71
            try clear c71b0
            try clear c71b1
            try clear c74
            try clear c75
            try clear c79
            try clear c79b0
            try clear c79b1
            try clear c82
            try clear c83
            try clear c88
            try clear c89
            try clear c92
            try clear c92b0
            try clear c97
            try clear c97b0
            try clear c98
            try clear c98b0
            try clear c99
            try clear c99b0
            try clear c99b1
            try clear c107
            try clear c108
            try clear c110
            try clear c110b0
            try clear c110b1
            try clear c118
            try clear c119
            try clear c122
            try clear c122b0
            try clear c122b1
            try clear c131
            try clear c132
            try clear c144
            try clear c145
            try clear hcz109_0
            try clear hcz109_1
            try clear hcz109_2
            try clear hcz109_3
            try clear hcz109_4
            try clear hcz109_5
            try clear hcz120_0
            try clear hcz120_1
            try clear hcz120_2
            try clear hcz120_3
            try clear hcz120_4
            try clear hcz120_5
            try clear hcz133_0
            try clear hcz133_1
            try clear hcz133_2
            try clear hcz133_3
            try clear hcz133_4
            try clear hcz133_5
            try clear hcz136_0
            try clear hcz136_1
            try clear hcz136_2
            try clear hcz136_3
            try clear hcz136_4
            try clear hcz136_5
            try clear hcz146_0
            try clear hcz146_1
            try clear hcz146_2
            try clear hcz146_3
            try clear hcz146_4
            try clear hcz146_5
            try clear hcz20_0
            try clear hcz20_1
            try clear hcz20_2
            try clear hcz20_3
            try clear hcz20_4
            try clear hcz20_5
            try clear hcz35_0
            try clear hcz35_1
            try clear hcz35_2
            try clear hcz35_3
            try clear hcz35_4
            try clear hcz35_5
            try clear hcz51_0
            try clear hcz51_1
            try clear hcz51_2
            try clear hcz51_3
            try clear hcz51_4
            try clear hcz51_5
            try clear hcz67_0
            try clear hcz67_1
            try clear hcz67_2
            try clear hcz67_3
            try clear hcz67_4
            try clear hcz67_5
            try clear hcz76_0
            try clear hcz76_1
            try clear hcz76_2
            try clear hcz76_3
            try clear hcz76_4
            try clear hcz76_5
            try clear hcz78_0
            try clear hcz78_1
            try clear hcz78_2
            try clear hcz78_3
            try clear hcz78_4
            try clear hcz78_5
            try clear hcz84_0
            try clear hcz84_1
            try clear hcz84_2
            try clear hcz84_3
            try clear hcz84_4
            try clear hcz84_5
            try clear hcz86_0
            try clear hcz86_1
            try clear hcz86_2
            try clear hcz86_3
            try clear hcz86_4
            try clear hcz86_5
            try clear hcz90_0
            try clear hcz90_1
            try clear hcz90_2
            try clear hcz90_3
            try clear hcz90_4
            try clear hcz90_5
            try clear hfz109_0
            try clear hfz109_1
            try clear hfz109_2
            try clear hfz109_3
            try clear hfz109_4
            try clear hfz109_5
            try clear hfz120_0
            try clear hfz120_1
            try clear hfz120_2
            try clear hfz120_3
            try clear hfz120_4
            try clear hfz120_5
            try clear hfz133_0
            try clear hfz133_1
            try clear hfz133_2
            try clear hfz133_3
            try clear hfz133_4
            try clear hfz133_5
            try clear hfz136_0
            try clear hfz136_1
            try clear hfz136_2
            try clear hfz136_3
            try clear hfz136_4
            try clear hfz136_5
            try clear hfz146_0
            try clear hfz146_1
            try clear hfz146_2
            try clear hfz146_3
            try clear hfz146_4
            try clear hfz146_5
            try clear hfz20_0
            try clear hfz20_1
            try clear hfz20_2
            try clear hfz20_3
            try clear hfz20_4
            try clear hfz20_5
            try clear hfz35_0
            try clear hfz35_1
            try clear hfz35_2
            try clear hfz35_3
            try clear hfz35_4
            try clear hfz35_5
            try clear hfz51_0
            try clear hfz51_1
            try clear hfz51_2
            try clear hfz51_3
            try clear hfz51_4
            try clear hfz51_5
            try clear hfz67_0
            try clear hfz67_1
            try clear hfz67_2
            try clear hfz67_3
            try clear hfz67_4
            try clear hfz67_5
            try clear hfz76_0
            try clear hfz76_1
            try clear hfz76_2
            try clear hfz76_3
            try clear hfz76_4
            try clear hfz76_5
            try clear hfz78_0
            try clear hfz78_1
            try clear hfz78_2
            try clear hfz78_3
            try clear hfz78_4
            try clear hfz78_5
            try clear hfz84_0
            try clear hfz84_1
            try clear hfz84_2
            try clear hfz84_3
            try clear hfz84_4
            try clear hfz84_5
            try clear hfz86_0
            try clear hfz86_1
            try clear hfz86_2
            try clear hfz86_3
            try clear hfz86_4
            try clear hfz86_5
            try clear hfz90_0
            try clear hfz90_1
            try clear hfz90_2
            try clear hfz90_3
            try clear hfz90_4
            try clear hfz90_5
            try clear hx180_0
            try clear hx196_0
            try clear hx206_0
            try clear hx216_0
            try clear hx234_0
            try clear p1
            try clear p18
            try clear p180
            try clear p19
            try clear p196
            try clear p2
            try clear p20
            try clear p206
            try clear p21
            try clear p216
            try clear p234
            try clear p6
            try clear p64
            try clear q1
            try clear q18
            try clear q180
            try clear q19
            try clear q196
            try clear q2
            try clear q20
            try clear q206
            try clear q21
            try clear q216
            try clear q234
            obtain ⟨kq, zt, zd, HA, HJ90, z0, z, HI0, HK, HB⟩ := hcut
            cases kq with
            | zero => exact absurd HA.out (by simp [spec_l20Inst.j4])
            | succ kj90 =>
             have H := HA.out
             clear HA
             simp only [spec_l20Inst.j4] at H
             replace H := Option.bind_eq_some_iff.mp H
             obtain ⟨⟨t239, t240⟩, A1480, H⟩ := H
             replace H : (if t239 = true then ((spec_l20Rd_pick.f kj90 s0_0 t240 5).bind fun bt241 => (if bt241.1 = 0 then ((some (([(-1), 16] : List Int) : List Int)).bind fun y243 => ((spec_l20Rd_pick.f kj90 s0_0 bt241.2 2).bind fun bt246 => (if 0 ≤ bt246.1 then (if bt246.1 < (y243.length : Int) then (some (rd y243 bt246.1, z1, z2, z3, z4, zd, bt246.2)) else (none)) else (none)))) else (if bt241.1 = 1 then ((some (([(-1), 8, 1] : List Int) : List Int)).bind fun y249 => ((spec_l20Rd_pick.f kj90 s0_0 bt241.2 3).bind fun bt252 => (if 0 ≤ bt252.1 then (if bt252.1 < (y249.length : Int) then (some ((rd y175 t178), rd y249 bt252.1, z2, z3, z4, zd, bt252.2)) else (none)) else (none)))) else (if bt241.1 = 2 then ((some (([(-1), 8, 1] : List Int) : List Int)).bind fun y255 => ((spec_l20Rd_pick.f kj90 s0_0 bt241.2 3).bind fun bt258 => (if 0 ≤ bt258.1 then (if bt258.1 < (y255.length : Int) then (some ((rd y175 t178), z1, z2, rd y255 bt258.1, z4, zd, bt258.2)) else (none)) else (none)))) else (if bt241.1 = 3 then ((some (([(-1), 8, 6] : List Int) : List Int)).bind fun y261 => ((spec_l20Rd_pick.f kj90 s0_0 bt241.2 3).bind fun bt264 => (if 0 ≤ bt264.1 then (if bt264.1 < (y261.length : Int) then (some ((rd y175 t178), z1, z2, z3, rd y261 bt264.1, zd, bt264.2)) else (none)) else (none)))) else ((some (([(-33), 512, 32, 1] : List Int) : List Int)).bind fun y267 => ((spec_l20Rd_pick.f kj90 s0_0 bt241.2 4).bind fun bt270 => (if 0 ≤ bt270.1 then (if bt270.1 < (y267.length : Int) then (some ((rd y175 t178), z1, z2, z3, z4, rd y267 bt270.1, bt270.2)) else (none)) else (none))))))))) else (some ((rd y175 t178), z1, z2, z3, z4, zd, t240))) = some (r1, r2, r3, r4, r5, r6, r7) := H
             have A148 := A_ A1480
             clear A1480
             by_cases c149 : t239 = true
             ·subst c149
              have H1 : ((spec_l20Rd_pick.f kj90 s0_0 t240 5).bind fun bt241 => (if bt241.1 = 0 then ((some (([(-1), 16] : List Int) : List Int)).bind fun y243 => ((spec_l20Rd_pick.f kj90 s0_0 bt241.2 2).bind fun bt246 => (if 0 ≤ bt246.1 then (if bt246.1 < (y243.length : Int) then (some (rd y243 bt246.1, z1, z2, z3, z4, zd, bt246.2)) else (none)) else (none)))) else (if bt241.1 = 1 then ((some (([(-1), 8, 1] : List Int) : List Int)).bind fun y249 => ((spec_l20Rd_pick.f kj90 s0_0 bt241.2 3).bind fun bt252 => (if 0 ≤ bt252.1 then (if bt252.1 < (y249.length : Int) then (some ((rd y175 t178), rd y249 bt252.1, z2, z3, z4, zd, bt252.2)) else (none)) else (none)))) else (if bt241.1 = 2 then ((some (([(-1), 8, 1] : List Int) : List Int)).bind fun y255 => ((spec_l20Rd_pick.f kj90 s0_0 bt241.2 3).bind fun bt258 => (if 0 ≤ bt258.1 then (if bt258.1 < (y255.length : Int) then (some ((rd y175 t178), z1, z2, rd y255 bt258.1, z4, zd, bt258.2)) else (none)) else (none)))) else (if bt241.1 = 3 then ((some (([(-1), 8, 6] : List Int) : List Int)).bind fun y261 => ((spec_l20Rd_pick.f kj90 s0_0 bt241.2 3).bind fun bt264 => (if 0 ≤ bt264.1 then (if bt264.1 < (y261.length : Int) then (some ((rd y175 t178), z1, z2, z3, rd y261 bt264.1, zd, bt264.2)) else (none)) else (none)))) else ((some (([(-33), 512, 32, 1] : List Int) : List Int)).bind fun y267 => ((spec_l20Rd_pick.f kj90 s0_0 bt241.2 4).bind fun bt270 => (if 0 ≤ bt270.1 then (if bt270.1 < (y267.length : Int) then (some ((rd y175 t178), z1, z2, z3, z4, rd y267 bt270.1, bt270.2)) else (none)) else (none))))))))) = some (r1, r2, r3, r4, r5, r6, r7) := by rw [if_pos rfl] at H; exact H
              clear H
              have H := H1
              clear H1
              replace H := Option.bind_eq_some_iff.mp H
              obtain ⟨⟨t241, t242⟩, A1500, H⟩ := H
              replace H : (if t241 = 0 then ((some (([(-1), 16] : List Int) : List Int)).bind fun y243 => ((spec_l20Rd_pick.f kj90 s0_0 t242 2).bind fun bt246 => (if 0 ≤ bt246.1 then (if bt246.1 < (y243.length : Int) then (some (rd y243 bt246.1, z1, z2, z3, z4, zd, bt246.2)) else (none)) else (none)))) else (if t241 = 1 then ((some (([(-1), 8, 1] : List Int) : List Int)).bind fun y249 => ((spec_l20Rd_pick.f kj90 s0_0 t242 3).bind fun bt252 => (if 0 ≤ bt252.1 then (if bt252.1 < (y249.length : Int) then (some ((rd y175 t178), rd y249 bt252.1, z2, z3, z4, zd, bt252.2)) else (none)) else (none)))) else (if t241 = 2 then ((some (([(-1), 8, 1] : List Int) : List Int)).bind fun y255 => ((spec_l20Rd_pick.f kj90 s0_0 t242 3).bind fun bt258 => (if 0 ≤ bt258.1 then (if bt258.1 < (y255.length : Int) then (some ((rd y175 t178), z1, z2, rd y255 bt258.1, z4, zd, bt258.2)) else (none)) else (none)))) else (if t241 = 3 then ((some (([(-1), 8, 6] : List Int) : List Int)).bind fun y261 => ((spec_l20Rd_pick.f kj90 s0_0 t242 3).bind fun bt264 => (if 0 ≤ bt264.1 then (if bt264.1 < (y261.length : Int) then (some ((rd y175 t178), z1, z2, z3, rd y261 bt264.1, zd, bt264.2)) else (none)) else (none)))) else ((some (([(-33), 512, 32, 1] : List Int) : List Int)).bind fun y267 => ((spec_l20Rd_pick.f kj90 s0_0 t242 4).bind fun bt270 => (if 0 ≤ bt270.1 then (if bt270.1 < (y267.length : Int) then (some ((rd y175 t178), z1, z2, z3, z4, rd y267 bt270.1, bt270.2)) else (none)) else (none)))))))) = some (r1, r2, r3, r4, r5, r6, r7) := H
              have A150 := A_ A1500
              clear A1500
              by_cases c151 : t241 = 0
              ·rw [if_pos c151] at H
               have c151b0 : (t241 == 0) = true := beq_iff_eq.mpr c151
               have c151b1 : (t241 != 0) = false := bne_eq_false_iff_eq.mpr c151
               clear c151
               obtain ⟨y243, hy243⟩ : ∃ y_ : List Int, y_ = (([(-1), 16] : List Int)) := ⟨_, rfl⟩
               replace H : ((spec_l20Rd_pick.f kj90 s0_0 t242 2).bind fun bt246 => (if 0 ≤ bt246.1 then (if bt246.1 < (y243.length : Int) then (some (rd y243 bt246.1, z1, z2, z3, z4, zd, bt246.2)) else (none)) else (none))) = some (r1, r2, r3, r4, r5, r6, r7) := by first | (rw [hy243]; with_reducible exact H) | (have H2_ := (Option.bind_some _ _).symm.trans H; rw [hy243]; with_reducible exact H2_) | (have H2_ := (Option.bind_some _ _).symm.trans H; with_reducible exact H2_) | with_reducible exact H | (rw [hy243]; exact H) | exact H
               have qc := A_ hy243
               clear hy243
               replace H := Option.bind_eq_some_iff.mp H
               obtain ⟨⟨t246, t247⟩, A1520, H⟩ := H
               replace H : (if 0 ≤ t246 then (if t246 < (y243.length : Int) then (some (rd y243 t246, z1, z2, z3, z4, zd, t247)) else (none)) else (none)) = some (r1, r2, r3, r4, r5, r6, r7) := H
               have A152 := A_ A1520
               clear A1520
               by_cases c153 : 0 ≤ t246
               ·rw [if_pos c153] at H
                have c153b0 : decide (0 ≤ t246) = true := decide_eq_true c153
                clear c153
                by_cases c154 : t246 < (y243.length : Int)
                ·rw [if_pos c154] at H
                 have c154b0 : decide (t246 < (y243.length : Int)) = true := decide_eq_true c154
                 clear c154
                 simp only [Option.some.injEq, Prod.mk.injEq] at H
                 obtain ⟨rfl, rfl, rfl, rfl, rfl, rfl, rfl⟩ := H
                 go_wp2_with (first | ((with_reducible refine gate_callee (f := 44) rfl ?_); refine goesL_ (some 112) rfl rfl Try.func44 (by kernel_rfl) rfl #[.pointer (some ⟨g, 0, none⟩), .int .i64 a1] rfl (yad_) ?_; (yan_); (case side1 => repeat (yaa_)); (case side2 => repeat (yac_)); rintro e w155 ⟨rfl, hi, hb, hk⟩; refine ⟨_, rfl, ?_⟩; have n0_ := A_ (kB_ hk (g' := gb170) (o := .cells #[.int .i64 0, .int .i64 0, .int .i64 0, .int .i64 0, .int .i64 0, .int .i64 0] 75 (0, 0)) (by (ya_); exact z0.out) zc.out (by simp)); have n1_ := A_ (kB_ hk (g' := gb181) (o := .cells #[.int .i64 (rd y175 t178), .int .i64 z1, .int .i64 z2, .int .i64 z3, .int .i64 z4, .int .i64 zd] 75 (0, 0)) (by (ya_); exact z.out) zb.out (by simp)); have n2_ := A_ (kT_ (by repeat (yab_)) hk (.inl rfl)); have n3_ := A_ (hb); have n4_ := A_ (hi); clear z0; clear z; clear HK; clear HB; clear HI0; have z0 := n0_; have z := n1_; have HK := n2_; have HB := n3_; have HI0 := n4_; clear n0_ n1_ n2_ n3_ n4_; (try clear hb); (try clear hb2); (try clear hk); (try clear hi)) | ((yae_); refine goesL_ (some 114) rfl rfl Try.func45 (by kernel_rfl) rfl #[.pointer (some ⟨g, 0, none⟩), .int .i64 5] rfl (yad_) ?_; (yam_); (case side1 => repeat (yaa_)); (case side2 => repeat (yac_)); rintro e w156 ⟨rfl, hi, hb, hk⟩; refine ⟨_, rfl, ?_⟩; have n0_ := A_ (kB_ hk (g' := gb170) (o := .cells #[.int .i64 0, .int .i64 0, .int .i64 0, .int .i64 0, .int .i64 0, .int .i64 0] 75 (0, 0)) (by (ya_); exact z0.out) zc.out (by simp)); have n1_ := A_ (kB_ hk (g' := gb181) (o := .cells #[.int .i64 (rd y175 t178), .int .i64 z1, .int .i64 z2, .int .i64 z3, .int .i64 z4, .int .i64 zd] 75 (0, 0)) (by (ya_); exact z.out) zb.out (by simp)); have n2_ := A_ (kT_ (by repeat (yab_)) hk (.inl rfl)); have n3_ := A_ (hb); have n4_ := A_ (hi); clear z0; clear z; clear HK; clear HB; clear HI0; have z0 := n0_; have z := n1_; have HK := n2_; have HB := n3_; have HI0 := n4_; clear n0_ n1_ n2_ n3_ n4_; (try clear hb); (try clear hb2); (try clear hk); (try clear hi)) | ((with_reducible refine gate_dst (N := 123) rfl ?_); refine Kd.R_lit (Kd.int .i64) _ 3 ?hg (N := 123) ?hd (xs := ([(-1), 16] : List Int)) (inner := [.int .i64 (-1), .int .i64 16]) (ok := fun _ => True) (okp := fun _ => True) ?hr ?hp (fun _ hk => hk) trivial (Below.refl _ _) (Nat.le_refl _) (by simp) ?_; (case hd => rfl); (case hg => rfl); (yak_); (case hp => exact (Reps.one (show Kd.M (Kd.int .i64) _ _ _ (-1) [.int .i64 (-1)] from rfl) (Reps.one (show Kd.M (Kd.int .i64) _ _ _ 16 [.int .i64 16] from rfl) (Reps.none _ _)))); intro v244 w157 ho158 hb hg_ hnew_; clear hg_ hnew_; (first | rw [← qc.out] at ho158 | (simp only [Int.reduceToNat] at ho158; rw [← qc.out] at ho158)); have n0_ := A_ (Kd.R_lower ho158 (keep_size (w := w) (g := g) (row := none) (by repeat (yab_)))); have n1_ := A_ (bB_ (g := gb170) (o := .cells #[.int .i64 0, .int .i64 0, .int .i64 0, .int .i64 0, .int .i64 0, .int .i64 0] 75 (0, 0)) (by (ya_); exact z0.out) hb); have n2_ := A_ (bB_ (g := gb181) (o := .cells #[.int .i64 (rd y175 t178), .int .i64 z1, .int .i64 z2, .int .i64 z3, .int .i64 z4, .int .i64 zd] 75 (0, 0)) (by (ya_); exact z.out) hb); have n3_ := A_ (IsS69.below (by repeat (yaa_)) hb); have n4_ := A_ (kT_ (by repeat (yab_)) (kO_ hb g none) (.inl rfl)); have n5_ := A_ (wT_ (by repeat (yac_)) hb); clear z0; clear z; clear HI0; clear HK; clear HB; have q3 := n0_; have z0 := n1_; have z := n2_; have HI0 := n3_; have HK := n4_; have HB := n5_; clear n0_ n1_ n2_ n3_ n4_ n5_; clear hb ho158) | ((yae_); refine goesL_ (some 125) rfl rfl Try.func45 (by kernel_rfl) rfl #[.pointer (some ⟨g, 0, none⟩), .int .i64 2] rfl (yad_) ?_; (with_reducible refine (spec_l20Rd_pick.calls kj90 g s0_0 t242 2 t246 t247 w0 _ ?side1 ?side2 A152.out).mono ?_); (case side1 => repeat (yaa_)); (case side2 => repeat (yac_)); rintro e w159 ⟨rfl, hi, hb, hk⟩; refine ⟨_, rfl, ?_⟩; have n0_ := A_ (kB_ hk (g' := gb170) (o := .cells #[.int .i64 0, .int .i64 0, .int .i64 0, .int .i64 0, .int .i64 0, .int .i64 0] 75 (0, 0)) (by (ya_); exact z0.out) zc.out (by simp)); have n1_ := A_ (kB_ hk (g' := gb181) (o := .cells #[.int .i64 (rd y175 t178), .int .i64 z1, .int .i64 z2, .int .i64 z3, .int .i64 z4, .int .i64 zd] 75 (0, 0)) (by (ya_); exact z.out) zb.out (by simp)); have n2_ := A_ (rM_ (Kd.R_keep (IsS69.apart (show IsS69 w0 _ g s0_0 t242 from by repeat (yaa_)) (by (yaf_); exact q3.out) (by decide)) hk (fun _ h => h.2)) (fun _ h => h.1)); have n3_ := A_ (kT_ (by repeat (yab_)) hk (.inl rfl)); have n4_ := A_ (hb); have n5_ := A_ (hi); clear z0; clear z; clear q3; clear HK; clear HB; clear HI0; have z0 := n0_; have z := n1_; have q3 := n2_; have HK := n3_; have HB := n4_; have HI0 := n5_; clear n0_ n1_ n2_ n3_ n4_ n5_; (try clear hb); (try clear hb2); (try clear hk); (try clear hi); obtain ⟨Ao160, co160, eo160⟩ := Kd.R_slice q3.out; subst eo160; have p248 : 0 ≤ (t246 : Int) := of_decide_eq_true (yag_); have q248 : t246 < (y243.length : Int) := of_decide_eq_true (yag_); obtain ⟨ad248, e248, hx248_0⟩ := Kd.at_int (Kd.R_reads' q3.out).2.2 t246 p248 q248; cases e248; replace p248 := eq_true p248; replace q248 := eq_true q248; have hnb161 := zo.out; have hnc161 := ze.out; have hnb162 := zb.out; have hnc162 := z5.out; have hcz163_0 : w159.cell? ⟨gb181, 0, none⟩ = some (.int .i64 (rd y175 t178)) := (bC_ z.out 0).trans rfl; have hcz163_1 : w159.cell? ⟨gb181, 1, none⟩ = some (.int .i64 z1) := (bC_ z.out 1).trans rfl; have hcz163_2 : w159.cell? ⟨gb181, 2, none⟩ = some (.int .i64 z2) := (bC_ z.out 2).trans rfl; have hcz163_3 : w159.cell? ⟨gb181, 3, none⟩ = some (.int .i64 z3) := (bC_ z.out 3).trans rfl; have hcz163_4 : w159.cell? ⟨gb181, 4, none⟩ = some (.int .i64 z4) := (bC_ z.out 4).trans rfl; have hcz163_5 : w159.cell? ⟨gb181, 5, none⟩ = some (.int .i64 zd) := (bC_ z.out 5).trans rfl; have hfz163_0 := bF_ z.out 0; have hfz163_1 := bF_ z.out 1; have hfz163_2 := bF_ z.out 2; have hfz163_3 := bF_ z.out 3; have hfz163_4 := bF_ z.out 4; have hfz163_5 := bF_ z.out 5; have hnb164 := zc.out; have hnc164 := z6.out; have hcz165_0 : w159.cell? ⟨gb170, 0, none⟩ = some (.int .i64 0) := (bC_ z0.out 0).trans rfl; have hcz165_1 : w159.cell? ⟨gb170, 1, none⟩ = some (.int .i64 0) := (bC_ z0.out 1).trans rfl; have hcz165_2 : w159.cell? ⟨gb170, 2, none⟩ = some (.int .i64 0) := (bC_ z0.out 2).trans rfl; have hcz165_3 : w159.cell? ⟨gb170, 3, none⟩ = some (.int .i64 0) := (bC_ z0.out 3).trans rfl; have hcz165_4 : w159.cell? ⟨gb170, 4, none⟩ = some (.int .i64 0) := (bC_ z0.out 4).trans rfl; have hcz165_5 : w159.cell? ⟨gb170, 5, none⟩ = some (.int .i64 0) := (bC_ z0.out 5).trans rfl; have hfz165_0 := bF_ z0.out 0; have hfz165_1 := bF_ z0.out 1; have hfz165_2 := bF_ z0.out 2; have hfz165_3 := bF_ z0.out 3; have hfz165_4 := bF_ z0.out 4; have hfz165_5 := bF_ z0.out 5))
                 refine bodyPost_ret (results_cell_row rfl _ _ gb170 75 #[.int .i64 (rd y243 t246), .int .i64 z1, .int .i64 z2, .int .i64 z3, .int .i64 z4, .int .i64 zd] (0, 0) _ rfl (by (ya_); refine blk_put (cs := #[.int .i64 (rd y243 t246), .int .i64 z1, .int .i64 z2, .int .i64 z3, .int .i64 z4, .int .i64 0]) ?_ 5 _ rfl; (ya_); refine blk_put (cs := #[.int .i64 (rd y243 t246), .int .i64 z1, .int .i64 z2, .int .i64 z3, .int .i64 0, .int .i64 0]) ?_ 4 _ rfl; (ya_); refine blk_put (cs := #[.int .i64 (rd y243 t246), .int .i64 z1, .int .i64 z2, .int .i64 0, .int .i64 0, .int .i64 0]) ?_ 3 _ rfl; (ya_); refine blk_put (cs := #[.int .i64 (rd y243 t246), .int .i64 z1, .int .i64 0, .int .i64 0, .int .i64 0, .int .i64 0]) ?_ 2 _ rfl; (ya_); refine blk_put (cs := #[.int .i64 (rd y243 t246), .int .i64 0, .int .i64 0, .int .i64 0, .int .i64 0, .int .i64 0]) ?_ 1 _ rfl; (ya_); refine blk_put (cs := #[.int .i64 0, .int .i64 0, .int .i64 0, .int .i64 0, .int .i64 0, .int .i64 0]) ?_ 0 _ rfl; (ya_); refine blk_far ?_ ze.out _; (ya_); exact z0.out) Try.underlying75 rfl (by kernel_rfl)) rfl ?_
                 exact ⟨by first | rfl | (simp [errW_none, errW_some] <;> rfl) | (simp [*, errW_none, errW_some] <;> rfl), by repeat (yaa_), by repeat (yac_), by repeat (yab_)⟩
                ·rw [if_neg c154] at H
                 exact absurd H (by simp)
               ·rw [if_neg c153] at H
                exact absurd H (by simp)
              ·rw [if_neg c151] at H
               have c151b0 : (t241 == 0) = false := beq_eq_false_iff_ne.mpr c151
               have c151b1 : (t241 != 0) = true := bne_iff_ne.mpr c151
               by_cases c166 : t241 = 1
               ·rw [if_pos c166] at H
                have c166b0 : (t241 == 1) = true := beq_iff_eq.mpr c166
                have c166b1 : (t241 != 1) = false := bne_eq_false_iff_eq.mpr c166
                clear c166
                obtain ⟨y249, hy249⟩ : ∃ y_ : List Int, y_ = (([(-1), 8, 1] : List Int)) := ⟨_, rfl⟩
                replace H : ((spec_l20Rd_pick.f kj90 s0_0 t242 3).bind fun bt252 => (if 0 ≤ bt252.1 then (if bt252.1 < (y249.length : Int) then (some ((rd y175 t178), rd y249 bt252.1, z2, z3, z4, zd, bt252.2)) else (none)) else (none))) = some (r1, r2, r3, r4, r5, r6, r7) := by first | (rw [hy249]; with_reducible exact H) | (have H2_ := (Option.bind_some _ _).symm.trans H; rw [hy249]; with_reducible exact H2_) | (have H2_ := (Option.bind_some _ _).symm.trans H; with_reducible exact H2_) | with_reducible exact H | (rw [hy249]; exact H) | exact H
                have qd := A_ hy249
                clear hy249
                replace H := Option.bind_eq_some_iff.mp H
                obtain ⟨⟨t252, t253⟩, A1670, H⟩ := H
                replace H : (if 0 ≤ t252 then (if t252 < (y249.length : Int) then (some ((rd y175 t178), rd y249 t252, z2, z3, z4, zd, t253)) else (none)) else (none)) = some (r1, r2, r3, r4, r5, r6, r7) := H
                have A167 := A_ A1670
                clear A1670
                by_cases c168 : 0 ≤ t252
                ·rw [if_pos c168] at H
                 have c168b0 : decide (0 ≤ t252) = true := decide_eq_true c168
                 clear c168
                 by_cases c169 : t252 < (y249.length : Int)
                 ·rw [if_pos c169] at H
                  have c169b0 : decide (t252 < (y249.length : Int)) = true := decide_eq_true c169
                  clear c169
                  simp only [Option.some.injEq, Prod.mk.injEq] at H
                  obtain ⟨rfl, rfl, rfl, rfl, rfl, rfl, rfl⟩ := H
                  go_wp2_with (first | ((with_reducible refine gate_callee (f := 44) rfl ?_); refine goesL_ (some 112) rfl rfl Try.func44 (by kernel_rfl) rfl #[.pointer (some ⟨g, 0, none⟩), .int .i64 a1] rfl (yad_) ?_; (yan_); (case side1 => repeat (yaa_)); (case side2 => repeat (yac_)); rintro e w170 ⟨rfl, hi, hb, hk⟩; refine ⟨_, rfl, ?_⟩; have n0_ := A_ (kB_ hk (g' := gb170) (o := .cells #[.int .i64 0, .int .i64 0, .int .i64 0, .int .i64 0, .int .i64 0, .int .i64 0] 75 (0, 0)) (by (ya_); exact z0.out) zc.out (by simp)); have n1_ := A_ (kB_ hk (g' := gb181) (o := .cells #[.int .i64 (rd y175 t178), .int .i64 z1, .int .i64 z2, .int .i64 z3, .int .i64 z4, .int .i64 zd] 75 (0, 0)) (by (ya_); exact z.out) zb.out (by simp)); have n2_ := A_ (kT_ (by repeat (yab_)) hk (.inl rfl)); have n3_ := A_ (hb); have n4_ := A_ (hi); clear z0; clear z; clear HK; clear HB; clear HI0; have z0 := n0_; have z := n1_; have HK := n2_; have HB := n3_; have HI0 := n4_; clear n0_ n1_ n2_ n3_ n4_; (try clear hb); (try clear hb2); (try clear hk); (try clear hi)) | ((yae_); refine goesL_ (some 114) rfl rfl Try.func45 (by kernel_rfl) rfl #[.pointer (some ⟨g, 0, none⟩), .int .i64 5] rfl (yad_) ?_; (yam_); (case side1 => repeat (yaa_)); (case side2 => repeat (yac_)); rintro e w171 ⟨rfl, hi, hb, hk⟩; refine ⟨_, rfl, ?_⟩; have n0_ := A_ (kB_ hk (g' := gb170) (o := .cells #[.int .i64 0, .int .i64 0, .int .i64 0, .int .i64 0, .int .i64 0, .int .i64 0] 75 (0, 0)) (by (ya_); exact z0.out) zc.out (by simp)); have n1_ := A_ (kB_ hk (g' := gb181) (o := .cells #[.int .i64 (rd y175 t178), .int .i64 z1, .int .i64 z2, .int .i64 z3, .int .i64 z4, .int .i64 zd] 75 (0, 0)) (by (ya_); exact z.out) zb.out (by simp)); have n2_ := A_ (kT_ (by repeat (yab_)) hk (.inl rfl)); have n3_ := A_ (hb); have n4_ := A_ (hi); clear z0; clear z; clear HK; clear HB; clear HI0; have z0 := n0_; have z := n1_; have HK := n2_; have HB := n3_; have HI0 := n4_; clear n0_ n1_ n2_ n3_ n4_; (try clear hb); (try clear hb2); (try clear hk); (try clear hi)) | ((with_reducible refine gate_dst (N := 131) rfl ?_); refine Kd.R_lit (Kd.int .i64) _ 3 ?hg (N := 131) ?hd (xs := ([(-1), 8, 1] : List Int)) (inner := [.int .i64 (-1), .int .i64 8, .int .i64 1]) (ok := fun _ => True) (okp := fun _ => True) ?hr ?hp (fun _ hk => hk) trivial (Below.refl _ _) (Nat.le_refl _) (by simp) ?_; (case hd => rfl); (case hg => rfl); (yak_); (case hp => exact (Reps.one (show Kd.M (Kd.int .i64) _ _ _ (-1) [.int .i64 (-1)] from rfl) (Reps.one (show Kd.M (Kd.int .i64) _ _ _ 8 [.int .i64 8] from rfl) (Reps.one (show Kd.M (Kd.int .i64) _ _ _ 1 [.int .i64 1] from rfl) (Reps.none _ _))))); intro v250 w172 ho173 hb hg_ hnew_; clear hg_ hnew_; (first | rw [← qd.out] at ho173 | (simp only [Int.reduceToNat] at ho173; rw [← qd.out] at ho173)); have n0_ := A_ (Kd.R_lower ho173 (keep_size (w := w) (g := g) (row := none) (by repeat (yab_)))); have n1_ := A_ (bB_ (g := gb170) (o := .cells #[.int .i64 0, .int .i64 0, .int .i64 0, .int .i64 0, .int .i64 0, .int .i64 0] 75 (0, 0)) (by (ya_); exact z0.out) hb); have n2_ := A_ (bB_ (g := gb181) (o := .cells #[.int .i64 (rd y175 t178), .int .i64 z1, .int .i64 z2, .int .i64 z3, .int .i64 z4, .int .i64 zd] 75 (0, 0)) (by (ya_); exact z.out) hb); have n3_ := A_ (IsS69.below (by repeat (yaa_)) hb); have n4_ := A_ (kT_ (by repeat (yab_)) (kO_ hb g none) (.inl rfl)); have n5_ := A_ (wT_ (by repeat (yac_)) hb); clear z0; clear z; clear HI0; clear HK; clear HB; have q4 := n0_; have z0 := n1_; have z := n2_; have HI0 := n3_; have HK := n4_; have HB := n5_; clear n0_ n1_ n2_ n3_ n4_ n5_; clear hb ho173) | ((yae_); refine goesL_ (some 133) rfl rfl Try.func45 (by kernel_rfl) rfl #[.pointer (some ⟨g, 0, none⟩), .int .i64 3] rfl (yad_) ?_; (with_reducible refine (spec_l20Rd_pick.calls kj90 g s0_0 t242 3 t252 t253 w0 _ ?side1 ?side2 A167.out).mono ?_); (case side1 => repeat (yaa_)); (case side2 => repeat (yac_)); rintro e w174 ⟨rfl, hi, hb, hk⟩; refine ⟨_, rfl, ?_⟩; have n0_ := A_ (kB_ hk (g' := gb170) (o := .cells #[.int .i64 0, .int .i64 0, .int .i64 0, .int .i64 0, .int .i64 0, .int .i64 0] 75 (0, 0)) (by (ya_); exact z0.out) zc.out (by simp)); have n1_ := A_ (kB_ hk (g' := gb181) (o := .cells #[.int .i64 (rd y175 t178), .int .i64 z1, .int .i64 z2, .int .i64 z3, .int .i64 z4, .int .i64 zd] 75 (0, 0)) (by (ya_); exact z.out) zb.out (by simp)); have n2_ := A_ (rM_ (Kd.R_keep (IsS69.apart (show IsS69 w0 _ g s0_0 t242 from by repeat (yaa_)) (by (yaf_); exact q4.out) (by decide)) hk (fun _ h => h.2)) (fun _ h => h.1)); have n3_ := A_ (kT_ (by repeat (yab_)) hk (.inl rfl)); have n4_ := A_ (hb); have n5_ := A_ (hi); clear z0; clear z; clear q4; clear HK; clear HB; clear HI0; have z0 := n0_; have z := n1_; have q4 := n2_; have HK := n3_; have HB := n4_; have HI0 := n5_; clear n0_ n1_ n2_ n3_ n4_ n5_; (try clear hb); (try clear hb2); (try clear hk); (try clear hi); obtain ⟨Ao175, co175, eo175⟩ := Kd.R_slice q4.out; subst eo175; have p254 : 0 ≤ (t252 : Int) := of_decide_eq_true (yag_); have q254 : t252 < (y249.length : Int) := of_decide_eq_true (yag_); obtain ⟨ad254, e254, hx254_0⟩ := Kd.at_int (Kd.R_reads' q4.out).2.2 t252 p254 q254; cases e254; replace p254 := eq_true p254; replace q254 := eq_true q254; have hnb176 := zo.out; have hnc176 := ze.out; have hnb177 := zb.out; have hnc177 := z5.out; have hcz178_0 : w174.cell? ⟨gb181, 0, none⟩ = some (.int .i64 (rd y175 t178)) := (bC_ z.out 0).trans rfl; have hcz178_1 : w174.cell? ⟨gb181, 1, none⟩ = some (.int .i64 z1) := (bC_ z.out 1).trans rfl; have hcz178_2 : w174.cell? ⟨gb181, 2, none⟩ = some (.int .i64 z2) := (bC_ z.out 2).trans rfl; have hcz178_3 : w174.cell? ⟨gb181, 3, none⟩ = some (.int .i64 z3) := (bC_ z.out 3).trans rfl; have hcz178_4 : w174.cell? ⟨gb181, 4, none⟩ = some (.int .i64 z4) := (bC_ z.out 4).trans rfl; have hcz178_5 : w174.cell? ⟨gb181, 5, none⟩ = some (.int .i64 zd) := (bC_ z.out 5).trans rfl; have hfz178_0 := bF_ z.out 0; have hfz178_1 := bF_ z.out 1; have hfz178_2 := bF_ z.out 2; have hfz178_3 := bF_ z.out 3; have hfz178_4 := bF_ z.out 4; have hfz178_5 := bF_ z.out 5; have hnb179 := zc.out; have hnc179 := z6.out; have hcz180_0 : w174.cell? ⟨gb170, 0, none⟩ = some (.int .i64 0) := (bC_ z0.out 0).trans rfl; have hcz180_1 : w174.cell? ⟨gb170, 1, none⟩ = some (.int .i64 0) := (bC_ z0.out 1).trans rfl; have hcz180_2 : w174.cell? ⟨gb170, 2, none⟩ = some (.int .i64 0) := (bC_ z0.out 2).trans rfl; have hcz180_3 : w174.cell? ⟨gb170, 3, none⟩ = some (.int .i64 0) := (bC_ z0.out 3).trans rfl; have hcz180_4 : w174.cell? ⟨gb170, 4, none⟩ = some (.int .i64 0) := (bC_ z0.out 4).trans rfl; have hcz180_5 : w174.cell? ⟨gb170, 5, none⟩ = some (.int .i64 0) := (bC_ z0.out 5).trans rfl; have hfz180_0 := bF_ z0.out 0; have hfz180_1 := bF_ z0.out 1; have hfz180_2 := bF_ z0.out 2; have hfz180_3 := bF_ z0.out 3; have hfz180_4 := bF_ z0.out 4; have hfz180_5 := bF_ z0.out 5))
                  refine bodyPost_ret (results_cell_row rfl _ _ gb170 75 #[.int .i64 (rd y175 t178), .int .i64 (rd y249 t252), .int .i64 z2, .int .i64 z3, .int .i64 z4, .int .i64 zd] (0, 0) _ rfl (by (ya_); refine blk_put (cs := #[.int .i64 (rd y175 t178), .int .i64 (rd y249 t252), .int .i64 z2, .int .i64 z3, .int .i64 z4, .int .i64 0]) ?_ 5 _ rfl; (ya_); refine blk_put (cs := #[.int .i64 (rd y175 t178), .int .i64 (rd y249 t252), .int .i64 z2, .int .i64 z3, .int .i64 0, .int .i64 0]) ?_ 4 _ rfl; (ya_); refine blk_put (cs := #[.int .i64 (rd y175 t178), .int .i64 (rd y249 t252), .int .i64 z2, .int .i64 0, .int .i64 0, .int .i64 0]) ?_ 3 _ rfl; (ya_); refine blk_put (cs := #[.int .i64 (rd y175 t178), .int .i64 (rd y249 t252), .int .i64 0, .int .i64 0, .int .i64 0, .int .i64 0]) ?_ 2 _ rfl; (ya_); refine blk_put (cs := #[.int .i64 (rd y175 t178), .int .i64 0, .int .i64 0, .int .i64 0, .int .i64 0, .int .i64 0]) ?_ 1 _ rfl; (ya_); refine blk_put (cs := #[.int .i64 0, .int .i64 0, .int .i64 0, .int .i64 0, .int .i64 0, .int .i64 0]) ?_ 0 _ rfl; (ya_); refine blk_far ?_ ze.out _; (ya_); exact z0.out) Try.underlying75 rfl (by kernel_rfl)) rfl ?_
                  exact ⟨by first | rfl | (simp [errW_none, errW_some] <;> rfl) | (simp [*, errW_none, errW_some] <;> rfl), by repeat (yaa_), by repeat (yac_), by repeat (yab_)⟩
                 ·rw [if_neg c169] at H
                  exact absurd H (by simp)
                ·rw [if_neg c168] at H
                 exact absurd H (by simp)
               ·rw [if_neg c166] at H
                have c166b0 : (t241 == 1) = false := beq_eq_false_iff_ne.mpr c166
                have c166b1 : (t241 != 1) = true := bne_iff_ne.mpr c166
                by_cases c181 : t241 = 2
                ·rw [if_pos c181] at H
                 have c181b0 : (t241 == 2) = true := beq_iff_eq.mpr c181
                 have c181b1 : (t241 != 2) = false := bne_eq_false_iff_eq.mpr c181
                 clear c181
                 obtain ⟨y255, hy255⟩ : ∃ y_ : List Int, y_ = (([(-1), 8, 1] : List Int)) := ⟨_, rfl⟩
                 replace H : ((spec_l20Rd_pick.f kj90 s0_0 t242 3).bind fun bt258 => (if 0 ≤ bt258.1 then (if bt258.1 < (y255.length : Int) then (some ((rd y175 t178), z1, z2, rd y255 bt258.1, z4, zd, bt258.2)) else (none)) else (none))) = some (r1, r2, r3, r4, r5, r6, r7) := by first | (rw [hy255]; with_reducible exact H) | (have H2_ := (Option.bind_some _ _).symm.trans H; rw [hy255]; with_reducible exact H2_) | (have H2_ := (Option.bind_some _ _).symm.trans H; with_reducible exact H2_) | with_reducible exact H | (rw [hy255]; exact H) | exact H
                 have qe := A_ hy255
                 clear hy255
                 replace H := Option.bind_eq_some_iff.mp H
                 obtain ⟨⟨t258, t259⟩, A1820, H⟩ := H
                 replace H : (if 0 ≤ t258 then (if t258 < (y255.length : Int) then (some ((rd y175 t178), z1, z2, rd y255 t258, z4, zd, t259)) else (none)) else (none)) = some (r1, r2, r3, r4, r5, r6, r7) := H
                 have A182 := A_ A1820
                 clear A1820
                 by_cases c183 : 0 ≤ t258
                 ·rw [if_pos c183] at H
                  have c183b0 : decide (0 ≤ t258) = true := decide_eq_true c183
                  clear c183
                  by_cases c184 : t258 < (y255.length : Int)
                  ·rw [if_pos c184] at H
                   have c184b0 : decide (t258 < (y255.length : Int)) = true := decide_eq_true c184
                   clear c184
                   simp only [Option.some.injEq, Prod.mk.injEq] at H
                   obtain ⟨rfl, rfl, rfl, rfl, rfl, rfl, rfl⟩ := H
                   go_wp2_with (first | ((with_reducible refine gate_callee (f := 44) rfl ?_); refine goesL_ (some 112) rfl rfl Try.func44 (by kernel_rfl) rfl #[.pointer (some ⟨g, 0, none⟩), .int .i64 a1] rfl (yad_) ?_; (yan_); (case side1 => repeat (yaa_)); (case side2 => repeat (yac_)); rintro e w185 ⟨rfl, hi, hb, hk⟩; refine ⟨_, rfl, ?_⟩; have n0_ := A_ (kB_ hk (g' := gb170) (o := .cells #[.int .i64 0, .int .i64 0, .int .i64 0, .int .i64 0, .int .i64 0, .int .i64 0] 75 (0, 0)) (by (ya_); exact z0.out) zc.out (by simp)); have n1_ := A_ (kB_ hk (g' := gb181) (o := .cells #[.int .i64 (rd y175 t178), .int .i64 z1, .int .i64 z2, .int .i64 z3, .int .i64 z4, .int .i64 zd] 75 (0, 0)) (by (ya_); exact z.out) zb.out (by simp)); have n2_ := A_ (kT_ (by repeat (yab_)) hk (.inl rfl)); have n3_ := A_ (hb); have n4_ := A_ (hi); clear z0; clear z; clear HK; clear HB; clear HI0; have z0 := n0_; have z := n1_; have HK := n2_; have HB := n3_; have HI0 := n4_; clear n0_ n1_ n2_ n3_ n4_; (try clear hb); (try clear hb2); (try clear hk); (try clear hi)) | ((yae_); refine goesL_ (some 114) rfl rfl Try.func45 (by kernel_rfl) rfl #[.pointer (some ⟨g, 0, none⟩), .int .i64 5] rfl (yad_) ?_; (yam_); (case side1 => repeat (yaa_)); (case side2 => repeat (yac_)); rintro e w186 ⟨rfl, hi, hb, hk⟩; refine ⟨_, rfl, ?_⟩; have n0_ := A_ (kB_ hk (g' := gb170) (o := .cells #[.int .i64 0, .int .i64 0, .int .i64 0, .int .i64 0, .int .i64 0, .int .i64 0] 75 (0, 0)) (by (ya_); exact z0.out) zc.out (by simp)); have n1_ := A_ (kB_ hk (g' := gb181) (o := .cells #[.int .i64 (rd y175 t178), .int .i64 z1, .int .i64 z2, .int .i64 z3, .int .i64 z4, .int .i64 zd] 75 (0, 0)) (by (ya_); exact z.out) zb.out (by simp)); have n2_ := A_ (kT_ (by repeat (yab_)) hk (.inl rfl)); have n3_ := A_ (hb); have n4_ := A_ (hi); clear z0; clear z; clear HK; clear HB; clear HI0; have z0 := n0_; have z := n1_; have HK := n2_; have HB := n3_; have HI0 := n4_; clear n0_ n1_ n2_ n3_ n4_; (try clear hb); (try clear hb2); (try clear hk); (try clear hi)) | ((with_reducible refine gate_dst (N := 139) rfl ?_); refine Kd.R_lit (Kd.int .i64) _ 3 ?hg (N := 139) ?hd (xs := ([(-1), 8, 1] : List Int)) (inner := [.int .i64 (-1), .int .i64 8, .int .i64 1]) (ok := fun _ => True) (okp := fun _ => True) ?hr ?hp (fun _ hk => hk) trivial (Below.refl _ _) (Nat.le_refl _) (by simp) ?_; (case hd => rfl); (case hg => rfl); (yak_); (case hp => exact (Reps.one (show Kd.M (Kd.int .i64) _ _ _ (-1) [.int .i64 (-1)] from rfl) (Reps.one (show Kd.M (Kd.int .i64) _ _ _ 8 [.int .i64 8] from rfl) (Reps.one (show Kd.M (Kd.int .i64) _ _ _ 1 [.int .i64 1] from rfl) (Reps.none _ _))))); intro v256 w187 ho188 hb hg_ hnew_; clear hg_ hnew_; (first | rw [← qe.out] at ho188 | (simp only [Int.reduceToNat] at ho188; rw [← qe.out] at ho188)); have n0_ := A_ (Kd.R_lower ho188 (keep_size (w := w) (g := g) (row := none) (by repeat (yab_)))); have n1_ := A_ (bB_ (g := gb170) (o := .cells #[.int .i64 0, .int .i64 0, .int .i64 0, .int .i64 0, .int .i64 0, .int .i64 0] 75 (0, 0)) (by (ya_); exact z0.out) hb); have n2_ := A_ (bB_ (g := gb181) (o := .cells #[.int .i64 (rd y175 t178), .int .i64 z1, .int .i64 z2, .int .i64 z3, .int .i64 z4, .int .i64 zd] 75 (0, 0)) (by (ya_); exact z.out) hb); have n3_ := A_ (IsS69.below (by repeat (yaa_)) hb); have n4_ := A_ (kT_ (by repeat (yab_)) (kO_ hb g none) (.inl rfl)); have n5_ := A_ (wT_ (by repeat (yac_)) hb); clear z0; clear z; clear HI0; clear HK; clear HB; have q5 := n0_; have z0 := n1_; have z := n2_; have HI0 := n3_; have HK := n4_; have HB := n5_; clear n0_ n1_ n2_ n3_ n4_ n5_; clear hb ho188) | ((yae_); refine goesL_ (some 141) rfl rfl Try.func45 (by kernel_rfl) rfl #[.pointer (some ⟨g, 0, none⟩), .int .i64 3] rfl (yad_) ?_; (with_reducible refine (spec_l20Rd_pick.calls kj90 g s0_0 t242 3 t258 t259 w0 _ ?side1 ?side2 A182.out).mono ?_); (case side1 => repeat (yaa_)); (case side2 => repeat (yac_)); rintro e w189 ⟨rfl, hi, hb, hk⟩; refine ⟨_, rfl, ?_⟩; have n0_ := A_ (kB_ hk (g' := gb170) (o := .cells #[.int .i64 0, .int .i64 0, .int .i64 0, .int .i64 0, .int .i64 0, .int .i64 0] 75 (0, 0)) (by (ya_); exact z0.out) zc.out (by simp)); have n1_ := A_ (kB_ hk (g' := gb181) (o := .cells #[.int .i64 (rd y175 t178), .int .i64 z1, .int .i64 z2, .int .i64 z3, .int .i64 z4, .int .i64 zd] 75 (0, 0)) (by (ya_); exact z.out) zb.out (by simp)); have n2_ := A_ (rM_ (Kd.R_keep (IsS69.apart (show IsS69 w0 _ g s0_0 t242 from by repeat (yaa_)) (by (yaf_); exact q5.out) (by decide)) hk (fun _ h => h.2)) (fun _ h => h.1)); have n3_ := A_ (kT_ (by repeat (yab_)) hk (.inl rfl)); have n4_ := A_ (hb); have n5_ := A_ (hi); clear z0; clear z; clear q5; clear HK; clear HB; clear HI0; have z0 := n0_; have z := n1_; have q5 := n2_; have HK := n3_; have HB := n4_; have HI0 := n5_; clear n0_ n1_ n2_ n3_ n4_ n5_; (try clear hb); (try clear hb2); (try clear hk); (try clear hi); obtain ⟨Ao190, co190, eo190⟩ := Kd.R_slice q5.out; subst eo190; have p260 : 0 ≤ (t258 : Int) := of_decide_eq_true (yag_); have q260 : t258 < (y255.length : Int) := of_decide_eq_true (yag_); obtain ⟨ad260, e260, hx260_0⟩ := Kd.at_int (Kd.R_reads' q5.out).2.2 t258 p260 q260; cases e260; replace p260 := eq_true p260; replace q260 := eq_true q260; have hnb191 := zo.out; have hnc191 := ze.out; have hnb192 := zb.out; have hnc192 := z5.out; have hcz193_0 : w189.cell? ⟨gb181, 0, none⟩ = some (.int .i64 (rd y175 t178)) := (bC_ z.out 0).trans rfl; have hcz193_1 : w189.cell? ⟨gb181, 1, none⟩ = some (.int .i64 z1) := (bC_ z.out 1).trans rfl; have hcz193_2 : w189.cell? ⟨gb181, 2, none⟩ = some (.int .i64 z2) := (bC_ z.out 2).trans rfl; have hcz193_3 : w189.cell? ⟨gb181, 3, none⟩ = some (.int .i64 z3) := (bC_ z.out 3).trans rfl; have hcz193_4 : w189.cell? ⟨gb181, 4, none⟩ = some (.int .i64 z4) := (bC_ z.out 4).trans rfl; have hcz193_5 : w189.cell? ⟨gb181, 5, none⟩ = some (.int .i64 zd) := (bC_ z.out 5).trans rfl; have hfz193_0 := bF_ z.out 0; have hfz193_1 := bF_ z.out 1; have hfz193_2 := bF_ z.out 2; have hfz193_3 := bF_ z.out 3; have hfz193_4 := bF_ z.out 4; have hfz193_5 := bF_ z.out 5; have hnb194 := zc.out; have hnc194 := z6.out; have hcz195_0 : w189.cell? ⟨gb170, 0, none⟩ = some (.int .i64 0) := (bC_ z0.out 0).trans rfl; have hcz195_1 : w189.cell? ⟨gb170, 1, none⟩ = some (.int .i64 0) := (bC_ z0.out 1).trans rfl; have hcz195_2 : w189.cell? ⟨gb170, 2, none⟩ = some (.int .i64 0) := (bC_ z0.out 2).trans rfl; have hcz195_3 : w189.cell? ⟨gb170, 3, none⟩ = some (.int .i64 0) := (bC_ z0.out 3).trans rfl; have hcz195_4 : w189.cell? ⟨gb170, 4, none⟩ = some (.int .i64 0) := (bC_ z0.out 4).trans rfl; have hcz195_5 : w189.cell? ⟨gb170, 5, none⟩ = some (.int .i64 0) := (bC_ z0.out 5).trans rfl; have hfz195_0 := bF_ z0.out 0; have hfz195_1 := bF_ z0.out 1; have hfz195_2 := bF_ z0.out 2; have hfz195_3 := bF_ z0.out 3; have hfz195_4 := bF_ z0.out 4; have hfz195_5 := bF_ z0.out 5))
                   refine bodyPost_ret (results_cell_row rfl _ _ gb170 75 #[.int .i64 (rd y175 t178), .int .i64 z1, .int .i64 z2, .int .i64 (rd y255 t258), .int .i64 z4, .int .i64 zd] (0, 0) _ rfl (by (ya_); refine blk_put (cs := #[.int .i64 (rd y175 t178), .int .i64 z1, .int .i64 z2, .int .i64 (rd y255 t258), .int .i64 z4, .int .i64 0]) ?_ 5 _ rfl; (ya_); refine blk_put (cs := #[.int .i64 (rd y175 t178), .int .i64 z1, .int .i64 z2, .int .i64 (rd y255 t258), .int .i64 0, .int .i64 0]) ?_ 4 _ rfl; (ya_); refine blk_put (cs := #[.int .i64 (rd y175 t178), .int .i64 z1, .int .i64 z2, .int .i64 0, .int .i64 0, .int .i64 0]) ?_ 3 _ rfl; (ya_); refine blk_put (cs := #[.int .i64 (rd y175 t178), .int .i64 z1, .int .i64 0, .int .i64 0, .int .i64 0, .int .i64 0]) ?_ 2 _ rfl; (ya_); refine blk_put (cs := #[.int .i64 (rd y175 t178), .int .i64 0, .int .i64 0, .int .i64 0, .int .i64 0, .int .i64 0]) ?_ 1 _ rfl; (ya_); refine blk_put (cs := #[.int .i64 0, .int .i64 0, .int .i64 0, .int .i64 0, .int .i64 0, .int .i64 0]) ?_ 0 _ rfl; (ya_); refine blk_far ?_ ze.out _; (ya_); exact z0.out) Try.underlying75 rfl (by kernel_rfl)) rfl ?_
                   exact ⟨by first | rfl | (simp [errW_none, errW_some] <;> rfl) | (simp [*, errW_none, errW_some] <;> rfl), by repeat (yaa_), by repeat (yac_), by repeat (yab_)⟩
                  ·rw [if_neg c184] at H
                   exact absurd H (by simp)
                 ·rw [if_neg c183] at H
                  exact absurd H (by simp)
                ·rw [if_neg c181] at H
                 have c181b0 : (t241 == 2) = false := beq_eq_false_iff_ne.mpr c181
                 have c181b1 : (t241 != 2) = true := bne_iff_ne.mpr c181
                 by_cases c196 : t241 = 3
                 ·rw [if_pos c196] at H
                  have c196b0 : (t241 == 3) = true := beq_iff_eq.mpr c196
                  have c196b1 : (t241 != 3) = false := bne_eq_false_iff_eq.mpr c196
                  clear c196
                  obtain ⟨y261, hy261⟩ : ∃ y_ : List Int, y_ = (([(-1), 8, 6] : List Int)) := ⟨_, rfl⟩
                  replace H : ((spec_l20Rd_pick.f kj90 s0_0 t242 3).bind fun bt264 => (if 0 ≤ bt264.1 then (if bt264.1 < (y261.length : Int) then (some ((rd y175 t178), z1, z2, z3, rd y261 bt264.1, zd, bt264.2)) else (none)) else (none))) = some (r1, r2, r3, r4, r5, r6, r7) := by first | (rw [hy261]; with_reducible exact H) | (have H2_ := (Option.bind_some _ _).symm.trans H; rw [hy261]; with_reducible exact H2_) | (have H2_ := (Option.bind_some _ _).symm.trans H; with_reducible exact H2_) | with_reducible exact H | (rw [hy261]; exact H) | exact H
                  have qf := A_ hy261
                  clear hy261
                  replace H := Option.bind_eq_some_iff.mp H
                  obtain ⟨⟨t264, t265⟩, A1970, H⟩ := H
                  replace H : (if 0 ≤ t264 then (if t264 < (y261.length : Int) then (some ((rd y175 t178), z1, z2, z3, rd y261 t264, zd, t265)) else (none)) else (none)) = some (r1, r2, r3, r4, r5, r6, r7) := H
                  have A197 := A_ A1970
                  clear A1970
                  by_cases c198 : 0 ≤ t264
                  ·rw [if_pos c198] at H
                   have c198b0 : decide (0 ≤ t264) = true := decide_eq_true c198
                   clear c198
                   by_cases c199 : t264 < (y261.length : Int)
                   ·rw [if_pos c199] at H
                    have c199b0 : decide (t264 < (y261.length : Int)) = true := decide_eq_true c199
                    clear c199
                    simp only [Option.some.injEq, Prod.mk.injEq] at H
                    obtain ⟨rfl, rfl, rfl, rfl, rfl, rfl, rfl⟩ := H
                    go_wp2_with (first | ((with_reducible refine gate_callee (f := 44) rfl ?_); refine goesL_ (some 112) rfl rfl Try.func44 (by kernel_rfl) rfl #[.pointer (some ⟨g, 0, none⟩), .int .i64 a1] rfl (yad_) ?_; (yan_); (case side1 => repeat (yaa_)); (case side2 => repeat (yac_)); rintro e w200 ⟨rfl, hi, hb, hk⟩; refine ⟨_, rfl, ?_⟩; have n0_ := A_ (kB_ hk (g' := gb170) (o := .cells #[.int .i64 0, .int .i64 0, .int .i64 0, .int .i64 0, .int .i64 0, .int .i64 0] 75 (0, 0)) (by (ya_); exact z0.out) zc.out (by simp)); have n1_ := A_ (kB_ hk (g' := gb181) (o := .cells #[.int .i64 (rd y175 t178), .int .i64 z1, .int .i64 z2, .int .i64 z3, .int .i64 z4, .int .i64 zd] 75 (0, 0)) (by (ya_); exact z.out) zb.out (by simp)); have n2_ := A_ (kT_ (by repeat (yab_)) hk (.inl rfl)); have n3_ := A_ (hb); have n4_ := A_ (hi); clear z0; clear z; clear HK; clear HB; clear HI0; have z0 := n0_; have z := n1_; have HK := n2_; have HB := n3_; have HI0 := n4_; clear n0_ n1_ n2_ n3_ n4_; (try clear hb); (try clear hb2); (try clear hk); (try clear hi)) | ((yae_); refine goesL_ (some 114) rfl rfl Try.func45 (by kernel_rfl) rfl #[.pointer (some ⟨g, 0, none⟩), .int .i64 5] rfl (yad_) ?_; (yam_); (case side1 => repeat (yaa_)); (case side2 => repeat (yac_)); rintro e w201 ⟨rfl, hi, hb, hk⟩; refine ⟨_, rfl, ?_⟩; have n0_ := A_ (kB_ hk (g' := gb170) (o := .cells #[.int .i64 0, .int .i64 0, .int .i64 0, .int .i64 0, .int .i64 0, .int .i64 0] 75 (0, 0)) (by (ya_); exact z0.out) zc.out (by simp)); have n1_ := A_ (kB_ hk (g' := gb181) (o := .cells #[.int .i64 (rd y175 t178), .int .i64 z1, .int .i64 z2, .int .i64 z3, .int .i64 z4, .int .i64 zd] 75 (0, 0)) (by (ya_); exact z.out) zb.out (by simp)); have n2_ := A_ (kT_ (by repeat (yab_)) hk (.inl rfl)); have n3_ := A_ (hb); have n4_ := A_ (hi); clear z0; clear z; clear HK; clear HB; clear HI0; have z0 := n0_; have z := n1_; have HK := n2_; have HB := n3_; have HI0 := n4_; clear n0_ n1_ n2_ n3_ n4_; (try clear hb); (try clear hb2); (try clear hk); (try clear hi)) | ((with_reducible refine gate_dst (N := 147) rfl ?_); refine Kd.R_lit (Kd.int .i64) _ 3 ?hg (N := 147) ?hd (xs := ([(-1), 8, 6] : List Int)) (inner := [.int .i64 (-1), .int .i64 8, .int .i64 6]) (ok := fun _ => True) (okp := fun _ => True) ?hr ?hp (fun _ hk => hk) trivial (Below.refl _ _) (Nat.le_refl _) (by simp) ?_; (case hd => rfl); (case hg => rfl); (yak_); (case hp => exact (Reps.one (show Kd.M (Kd.int .i64) _ _ _ (-1) [.int .i64 (-1)] from rfl) (Reps.one (show Kd.M (Kd.int .i64) _ _ _ 8 [.int .i64 8] from rfl) (Reps.one (show Kd.M (Kd.int .i64) _ _ _ 6 [.int .i64 6] from rfl) (Reps.none _ _))))); intro v262 w202 ho203 hb hg_ hnew_; clear hg_ hnew_; (first | rw [← qf.out] at ho203 | (simp only [Int.reduceToNat] at ho203; rw [← qf.out] at ho203)); have n0_ := A_ (Kd.R_lower ho203 (keep_size (w := w) (g := g) (row := none) (by repeat (yab_)))); have n1_ := A_ (bB_ (g := gb170) (o := .cells #[.int .i64 0, .int .i64 0, .int .i64 0, .int .i64 0, .int .i64 0, .int .i64 0] 75 (0, 0)) (by (ya_); exact z0.out) hb); have n2_ := A_ (bB_ (g := gb181) (o := .cells #[.int .i64 (rd y175 t178), .int .i64 z1, .int .i64 z2, .int .i64 z3, .int .i64 z4, .int .i64 zd] 75 (0, 0)) (by (ya_); exact z.out) hb); have n3_ := A_ (IsS69.below (by repeat (yaa_)) hb); have n4_ := A_ (kT_ (by repeat (yab_)) (kO_ hb g none) (.inl rfl)); have n5_ := A_ (wT_ (by repeat (yac_)) hb); clear z0; clear z; clear HI0; clear HK; clear HB; have q6 := n0_; have z0 := n1_; have z := n2_; have HI0 := n3_; have HK := n4_; have HB := n5_; clear n0_ n1_ n2_ n3_ n4_ n5_; clear hb ho203) | ((yae_); refine goesL_ (some 149) rfl rfl Try.func45 (by kernel_rfl) rfl #[.pointer (some ⟨g, 0, none⟩), .int .i64 3] rfl (yad_) ?_; (with_reducible refine (spec_l20Rd_pick.calls kj90 g s0_0 t242 3 t264 t265 w0 _ ?side1 ?side2 A197.out).mono ?_); (case side1 => repeat (yaa_)); (case side2 => repeat (yac_)); rintro e w204 ⟨rfl, hi, hb, hk⟩; refine ⟨_, rfl, ?_⟩; have n0_ := A_ (kB_ hk (g' := gb170) (o := .cells #[.int .i64 0, .int .i64 0, .int .i64 0, .int .i64 0, .int .i64 0, .int .i64 0] 75 (0, 0)) (by (ya_); exact z0.out) zc.out (by simp)); have n1_ := A_ (kB_ hk (g' := gb181) (o := .cells #[.int .i64 (rd y175 t178), .int .i64 z1, .int .i64 z2, .int .i64 z3, .int .i64 z4, .int .i64 zd] 75 (0, 0)) (by (ya_); exact z.out) zb.out (by simp)); have n2_ := A_ (rM_ (Kd.R_keep (IsS69.apart (show IsS69 w0 _ g s0_0 t242 from by repeat (yaa_)) (by (yaf_); exact q6.out) (by decide)) hk (fun _ h => h.2)) (fun _ h => h.1)); have n3_ := A_ (kT_ (by repeat (yab_)) hk (.inl rfl)); have n4_ := A_ (hb); have n5_ := A_ (hi); clear z0; clear z; clear q6; clear HK; clear HB; clear HI0; have z0 := n0_; have z := n1_; have q6 := n2_; have HK := n3_; have HB := n4_; have HI0 := n5_; clear n0_ n1_ n2_ n3_ n4_ n5_; (try clear hb); (try clear hb2); (try clear hk); (try clear hi); obtain ⟨Ao205, co205, eo205⟩ := Kd.R_slice q6.out; subst eo205; have p266 : 0 ≤ (t264 : Int) := of_decide_eq_true (yag_); have q266 : t264 < (y261.length : Int) := of_decide_eq_true (yag_); obtain ⟨ad266, e266, hx266_0⟩ := Kd.at_int (Kd.R_reads' q6.out).2.2 t264 p266 q266; cases e266; replace p266 := eq_true p266; replace q266 := eq_true q266; have hnb206 := zo.out; have hnc206 := ze.out; have hnb207 := zb.out; have hnc207 := z5.out; have hcz208_0 : w204.cell? ⟨gb181, 0, none⟩ = some (.int .i64 (rd y175 t178)) := (bC_ z.out 0).trans rfl; have hcz208_1 : w204.cell? ⟨gb181, 1, none⟩ = some (.int .i64 z1) := (bC_ z.out 1).trans rfl; have hcz208_2 : w204.cell? ⟨gb181, 2, none⟩ = some (.int .i64 z2) := (bC_ z.out 2).trans rfl; have hcz208_3 : w204.cell? ⟨gb181, 3, none⟩ = some (.int .i64 z3) := (bC_ z.out 3).trans rfl; have hcz208_4 : w204.cell? ⟨gb181, 4, none⟩ = some (.int .i64 z4) := (bC_ z.out 4).trans rfl; have hcz208_5 : w204.cell? ⟨gb181, 5, none⟩ = some (.int .i64 zd) := (bC_ z.out 5).trans rfl; have hfz208_0 := bF_ z.out 0; have hfz208_1 := bF_ z.out 1; have hfz208_2 := bF_ z.out 2; have hfz208_3 := bF_ z.out 3; have hfz208_4 := bF_ z.out 4; have hfz208_5 := bF_ z.out 5; have hnb209 := zc.out; have hnc209 := z6.out; have hcz210_0 : w204.cell? ⟨gb170, 0, none⟩ = some (.int .i64 0) := (bC_ z0.out 0).trans rfl; have hcz210_1 : w204.cell? ⟨gb170, 1, none⟩ = some (.int .i64 0) := (bC_ z0.out 1).trans rfl; have hcz210_2 : w204.cell? ⟨gb170, 2, none⟩ = some (.int .i64 0) := (bC_ z0.out 2).trans rfl; have hcz210_3 : w204.cell? ⟨gb170, 3, none⟩ = some (.int .i64 0) := (bC_ z0.out 3).trans rfl; have hcz210_4 : w204.cell? ⟨gb170, 4, none⟩ = some (.int .i64 0) := (bC_ z0.out 4).trans rfl; have hcz210_5 : w204.cell? ⟨gb170, 5, none⟩ = some (.int .i64 0) := (bC_ z0.out 5).trans rfl; have hfz210_0 := bF_ z0.out 0; have hfz210_1 := bF_ z0.out 1; have hfz210_2 := bF_ z0.out 2; have hfz210_3 := bF_ z0.out 3; have hfz210_4 := bF_ z0.out 4; have hfz210_5 := bF_ z0.out 5))
                    refine bodyPost_ret (results_cell_row rfl _ _ gb170 75 #[.int .i64 (rd y175 t178), .int .i64 z1, .int .i64 z2, .int .i64 z3, .int .i64 (rd y261 t264), .int .i64 zd] (0, 0) _ rfl (by (ya_); refine blk_put (cs := #[.int .i64 (rd y175 t178), .int .i64 z1, .int .i64 z2, .int .i64 z3, .int .i64 (rd y261 t264), .int .i64 0]) ?_ 5 _ rfl; (ya_); refine blk_put (cs := #[.int .i64 (rd y175 t178), .int .i64 z1, .int .i64 z2, .int .i64 z3, .int .i64 0, .int .i64 0]) ?_ 4 _ rfl; (ya_); refine blk_put (cs := #[.int .i64 (rd y175 t178), .int .i64 z1, .int .i64 z2, .int .i64 0, .int .i64 0, .int .i64 0]) ?_ 3 _ rfl; (ya_); refine blk_put (cs := #[.int .i64 (rd y175 t178), .int .i64 z1, .int .i64 0, .int .i64 0, .int .i64 0, .int .i64 0]) ?_ 2 _ rfl; (ya_); refine blk_put (cs := #[.int .i64 (rd y175 t178), .int .i64 0, .int .i64 0, .int .i64 0, .int .i64 0, .int .i64 0]) ?_ 1 _ rfl; (ya_); refine blk_put (cs := #[.int .i64 0, .int .i64 0, .int .i64 0, .int .i64 0, .int .i64 0, .int .i64 0]) ?_ 0 _ rfl; (ya_); refine blk_far ?_ ze.out _; (ya_); exact z0.out) Try.underlying75 rfl (by kernel_rfl)) rfl ?_
                    exact ⟨by first | rfl | (simp [errW_none, errW_some] <;> rfl) | (simp [*, errW_none, errW_some] <;> rfl), by repeat (yaa_), by repeat (yac_), by repeat (yab_)⟩
                   ·rw [if_neg c199] at H
                    exact absurd H (by simp)
                  ·rw [if_neg c198] at H
                   exact absurd H (by simp)
                 ·rw [if_neg c196] at H
                  have c196b0 : (t241 == 3) = false := beq_eq_false_iff_ne.mpr c196
                  have c196b1 : (t241 != 3) = true := bne_iff_ne.mpr c196
                  obtain ⟨y267, hy267⟩ : ∃ y_ : List Int, y_ = (([(-33), 512, 32, 1] : List Int)) := ⟨_, rfl⟩
                  replace H : ((spec_l20Rd_pick.f kj90 s0_0 t242 4).bind fun bt270 => (if 0 ≤ bt270.1 then (if bt270.1 < (y267.length : Int) then (some ((rd y175 t178), z1, z2, z3, z4, rd y267 bt270.1, bt270.2)) else (none)) else (none))) = some (r1, r2, r3, r4, r5, r6, r7) := by first | (rw [hy267]; with_reducible exact H) | (have H2_ := (Option.bind_some _ _).symm.trans H; rw [hy267]; with_reducible exact H2_) | (have H2_ := (Option.bind_some _ _).symm.trans H; with_reducible exact H2_) | with_reducible exact H | (rw [hy267]; exact H) | exact H
                  have qg := A_ hy267
                  clear hy267
                  replace H := Option.bind_eq_some_iff.mp H
                  obtain ⟨⟨t270, t271⟩, A2110, H⟩ := H
                  replace H : (if 0 ≤ t270 then (if t270 < (y267.length : Int) then (some ((rd y175 t178), z1, z2, z3, z4, rd y267 t270, t271)) else (none)) else (none)) = some (r1, r2, r3, r4, r5, r6, r7) := H
                  have A211 := A_ A2110
                  clear A2110
                  by_cases c212 : 0 ≤ t270
                  ·rw [if_pos c212] at H
                   have c212b0 : decide (0 ≤ t270) = true := decide_eq_true c212
                   clear c212
                   by_cases c213 : t270 < (y267.length : Int)
                   ·rw [if_pos c213] at H
                    have c213b0 : decide (t270 < (y267.length : Int)) = true := decide_eq_true c213
                    clear c213
                    simp only [Option.some.injEq, Prod.mk.injEq] at H
                    obtain ⟨rfl, rfl, rfl, rfl, rfl, rfl, rfl⟩ := H
                    go_wp2_with (first | ((with_reducible refine gate_callee (f := 44) rfl ?_); refine goesL_ (some 112) rfl rfl Try.func44 (by kernel_rfl) rfl #[.pointer (some ⟨g, 0, none⟩), .int .i64 a1] rfl (yad_) ?_; (yan_); (case side1 => repeat (yaa_)); (case side2 => repeat (yac_)); rintro e w214 ⟨rfl, hi, hb, hk⟩; refine ⟨_, rfl, ?_⟩; have n0_ := A_ (kB_ hk (g' := gb170) (o := .cells #[.int .i64 0, .int .i64 0, .int .i64 0, .int .i64 0, .int .i64 0, .int .i64 0] 75 (0, 0)) (by (ya_); exact z0.out) zc.out (by simp)); have n1_ := A_ (kB_ hk (g' := gb181) (o := .cells #[.int .i64 (rd y175 t178), .int .i64 z1, .int .i64 z2, .int .i64 z3, .int .i64 z4, .int .i64 zd] 75 (0, 0)) (by (ya_); exact z.out) zb.out (by simp)); have n2_ := A_ (kT_ (by repeat (yab_)) hk (.inl rfl)); have n3_ := A_ (hb); have n4_ := A_ (hi); clear z0; clear z; clear HK; clear HB; clear HI0; have z0 := n0_; have z := n1_; have HK := n2_; have HB := n3_; have HI0 := n4_; clear n0_ n1_ n2_ n3_ n4_; (try clear hb); (try clear hb2); (try clear hk); (try clear hi)) | ((yae_); refine goesL_ (some 114) rfl rfl Try.func45 (by kernel_rfl) rfl #[.pointer (some ⟨g, 0, none⟩), .int .i64 5] rfl (yad_) ?_; (yam_); (case side1 => repeat (yaa_)); (case side2 => repeat (yac_)); rintro e w215 ⟨rfl, hi, hb, hk⟩; refine ⟨_, rfl, ?_⟩; have n0_ := A_ (kB_ hk (g' := gb170) (o := .cells #[.int .i64 0, .int .i64 0, .int .i64 0, .int .i64 0, .int .i64 0, .int .i64 0] 75 (0, 0)) (by (ya_); exact z0.out) zc.out (by simp)); have n1_ := A_ (kB_ hk (g' := gb181) (o := .cells #[.int .i64 (rd y175 t178), .int .i64 z1, .int .i64 z2, .int .i64 z3, .int .i64 z4, .int .i64 zd] 75 (0, 0)) (by (ya_); exact z.out) zb.out (by simp)); have n2_ := A_ (kT_ (by repeat (yab_)) hk (.inl rfl)); have n3_ := A_ (hb); have n4_ := A_ (hi); clear z0; clear z; clear HK; clear HB; clear HI0; have z0 := n0_; have z := n1_; have HK := n2_; have HB := n3_; have HI0 := n4_; clear n0_ n1_ n2_ n3_ n4_; (try clear hb); (try clear hb2); (try clear hk); (try clear hi)) | ((with_reducible refine gate_dst (N := 115) rfl ?_); refine Kd.R_lit (Kd.int .i64) _ 3 ?hg (N := 115) ?hd (xs := ([(-33), 512, 32, 1] : List Int)) (inner := [.int .i64 (-33), .int .i64 512, .int .i64 32, .int .i64 1]) (ok := fun _ => True) (okp := fun _ => True) ?hr ?hp (fun _ hk => hk) trivial (Below.refl _ _) (Nat.le_refl _) (by simp) ?_; (case hd => rfl); (case hg => rfl); (yak_); (case hp => exact (Reps.one (show Kd.M (Kd.int .i64) _ _ _ (-33) [.int .i64 (-33)] from rfl) (Reps.one (show Kd.M (Kd.int .i64) _ _ _ 512 [.int .i64 512] from rfl) (Reps.one (show Kd.M (Kd.int .i64) _ _ _ 32 [.int .i64 32] from rfl) (Reps.one (show Kd.M (Kd.int .i64) _ _ _ 1 [.int .i64 1] from rfl) (Reps.none _ _)))))); intro v268 w216 ho217 hb hg_ hnew_; clear hg_ hnew_; (first | rw [← qg.out] at ho217 | (simp only [Int.reduceToNat] at ho217; rw [← qg.out] at ho217)); have n0_ := A_ (Kd.R_lower ho217 (keep_size (w := w) (g := g) (row := none) (by repeat (yab_)))); have n1_ := A_ (bB_ (g := gb170) (o := .cells #[.int .i64 0, .int .i64 0, .int .i64 0, .int .i64 0, .int .i64 0, .int .i64 0] 75 (0, 0)) (by (ya_); exact z0.out) hb); have n2_ := A_ (bB_ (g := gb181) (o := .cells #[.int .i64 (rd y175 t178), .int .i64 z1, .int .i64 z2, .int .i64 z3, .int .i64 z4, .int .i64 zd] 75 (0, 0)) (by (ya_); exact z.out) hb); have n3_ := A_ (IsS69.below (by repeat (yaa_)) hb); have n4_ := A_ (kT_ (by repeat (yab_)) (kO_ hb g none) (.inl rfl)); have n5_ := A_ (wT_ (by repeat (yac_)) hb); clear z0; clear z; clear HI0; clear HK; clear HB; have q7 := n0_; have z0 := n1_; have z := n2_; have HI0 := n3_; have HK := n4_; have HB := n5_; clear n0_ n1_ n2_ n3_ n4_ n5_; clear hb ho217) | ((yae_); refine goesL_ (some 117) rfl rfl Try.func45 (by kernel_rfl) rfl #[.pointer (some ⟨g, 0, none⟩), .int .i64 4] rfl (yad_) ?_; (with_reducible refine (spec_l20Rd_pick.calls kj90 g s0_0 t242 4 t270 t271 w0 _ ?side1 ?side2 A211.out).mono ?_); (case side1 => repeat (yaa_)); (case side2 => repeat (yac_)); rintro e w218 ⟨rfl, hi, hb, hk⟩; refine ⟨_, rfl, ?_⟩; have n0_ := A_ (kB_ hk (g' := gb170) (o := .cells #[.int .i64 0, .int .i64 0, .int .i64 0, .int .i64 0, .int .i64 0, .int .i64 0] 75 (0, 0)) (by (ya_); exact z0.out) zc.out (by simp)); have n1_ := A_ (kB_ hk (g' := gb181) (o := .cells #[.int .i64 (rd y175 t178), .int .i64 z1, .int .i64 z2, .int .i64 z3, .int .i64 z4, .int .i64 zd] 75 (0, 0)) (by (ya_); exact z.out) zb.out (by simp)); have n2_ := A_ (rM_ (Kd.R_keep (IsS69.apart (show IsS69 w0 _ g s0_0 t242 from by repeat (yaa_)) (by (yaf_); exact q7.out) (by decide)) hk (fun _ h => h.2)) (fun _ h => h.1)); have n3_ := A_ (kT_ (by repeat (yab_)) hk (.inl rfl)); have n4_ := A_ (hb); have n5_ := A_ (hi); clear z0; clear z; clear q7; clear HK; clear HB; clear HI0; have z0 := n0_; have z := n1_; have q7 := n2_; have HK := n3_; have HB := n4_; have HI0 := n5_; clear n0_ n1_ n2_ n3_ n4_ n5_; (try clear hb); (try clear hb2); (try clear hk); (try clear hi); obtain ⟨Ao219, co219, eo219⟩ := Kd.R_slice q7.out; subst eo219; have p272 : 0 ≤ (t270 : Int) := of_decide_eq_true (yag_); have q272 : t270 < (y267.length : Int) := of_decide_eq_true (yag_); obtain ⟨ad272, e272, hx272_0⟩ := Kd.at_int (Kd.R_reads' q7.out).2.2 t270 p272 q272; cases e272; replace p272 := eq_true p272; replace q272 := eq_true q272; have hnb220 := zo.out; have hnc220 := ze.out; have hnb221 := zb.out; have hnc221 := z5.out; have hcz222_0 : w218.cell? ⟨gb181, 0, none⟩ = some (.int .i64 (rd y175 t178)) := (bC_ z.out 0).trans rfl; have hcz222_1 : w218.cell? ⟨gb181, 1, none⟩ = some (.int .i64 z1) := (bC_ z.out 1).trans rfl; have hcz222_2 : w218.cell? ⟨gb181, 2, none⟩ = some (.int .i64 z2) := (bC_ z.out 2).trans rfl; have hcz222_3 : w218.cell? ⟨gb181, 3, none⟩ = some (.int .i64 z3) := (bC_ z.out 3).trans rfl; have hcz222_4 : w218.cell? ⟨gb181, 4, none⟩ = some (.int .i64 z4) := (bC_ z.out 4).trans rfl; have hcz222_5 : w218.cell? ⟨gb181, 5, none⟩ = some (.int .i64 zd) := (bC_ z.out 5).trans rfl; have hfz222_0 := bF_ z.out 0; have hfz222_1 := bF_ z.out 1; have hfz222_2 := bF_ z.out 2; have hfz222_3 := bF_ z.out 3; have hfz222_4 := bF_ z.out 4; have hfz222_5 := bF_ z.out 5; have hnb223 := zc.out; have hnc223 := z6.out; have hcz224_0 : w218.cell? ⟨gb170, 0, none⟩ = some (.int .i64 0) := (bC_ z0.out 0).trans rfl; have hcz224_1 : w218.cell? ⟨gb170, 1, none⟩ = some (.int .i64 0) := (bC_ z0.out 1).trans rfl; have hcz224_2 : w218.cell? ⟨gb170, 2, none⟩ = some (.int .i64 0) := (bC_ z0.out 2).trans rfl; have hcz224_3 : w218.cell? ⟨gb170, 3, none⟩ = some (.int .i64 0) := (bC_ z0.out 3).trans rfl; have hcz224_4 : w218.cell? ⟨gb170, 4, none⟩ = some (.int .i64 0) := (bC_ z0.out 4).trans rfl; have hcz224_5 : w218.cell? ⟨gb170, 5, none⟩ = some (.int .i64 0) := (bC_ z0.out 5).trans rfl; have hfz224_0 := bF_ z0.out 0; have hfz224_1 := bF_ z0.out 1; have hfz224_2 := bF_ z0.out 2; have hfz224_3 := bF_ z0.out 3; have hfz224_4 := bF_ z0.out 4; have hfz224_5 := bF_ z0.out 5))
                    refine bodyPost_ret (results_cell_row rfl _ _ gb170 75 #[.int .i64 (rd y175 t178), .int .i64 z1, .int .i64 z2, .int .i64 z3, .int .i64 z4, .int .i64 (rd y267 t270)] (0, 0) _ rfl (by (ya_); refine blk_put (cs := #[.int .i64 (rd y175 t178), .int .i64 z1, .int .i64 z2, .int .i64 z3, .int .i64 z4, .int .i64 0]) ?_ 5 _ rfl; (ya_); refine blk_put (cs := #[.int .i64 (rd y175 t178), .int .i64 z1, .int .i64 z2, .int .i64 z3, .int .i64 0, .int .i64 0]) ?_ 4 _ rfl; (ya_); refine blk_put (cs := #[.int .i64 (rd y175 t178), .int .i64 z1, .int .i64 z2, .int .i64 0, .int .i64 0, .int .i64 0]) ?_ 3 _ rfl; (ya_); refine blk_put (cs := #[.int .i64 (rd y175 t178), .int .i64 z1, .int .i64 0, .int .i64 0, .int .i64 0, .int .i64 0]) ?_ 2 _ rfl; (ya_); refine blk_put (cs := #[.int .i64 (rd y175 t178), .int .i64 0, .int .i64 0, .int .i64 0, .int .i64 0, .int .i64 0]) ?_ 1 _ rfl; (ya_); refine blk_put (cs := #[.int .i64 0, .int .i64 0, .int .i64 0, .int .i64 0, .int .i64 0, .int .i64 0]) ?_ 0 _ rfl; (ya_); refine blk_far ?_ ze.out _; (ya_); exact z0.out) Try.underlying75 rfl (by kernel_rfl)) rfl ?_
                    exact ⟨by first | rfl | (simp [errW_none, errW_some] <;> rfl) | (simp [*, errW_none, errW_some] <;> rfl), by repeat (yaa_), by repeat (yac_), by repeat (yab_)⟩
                   ·rw [if_neg c213] at H
                    exact absurd H (by simp)
                  ·rw [if_neg c212] at H
                   exact absurd H (by simp)
             ·replace c149 := Bool.eq_false_iff.mpr c149
              subst c149
              have H1 : (some ((rd y175 t178), z1, z2, z3, z4, zd, t240)) = some (r1, r2, r3, r4, r5, r6, r7) := by rw [if_neg (show ¬ (false = true) by decide)] at H; exact H
              clear H
              have H := H1
              clear H1
              simp only [Option.some.injEq, Prod.mk.injEq] at H
              obtain ⟨rfl, rfl, rfl, rfl, rfl, rfl, rfl⟩ := H
              go_wp2_with (first | ((with_reducible refine gate_callee (f := 44) rfl ?_); refine goesL_ (some 112) rfl rfl Try.func44 (by kernel_rfl) rfl #[.pointer (some ⟨g, 0, none⟩), .int .i64 a1] rfl (yad_) ?_; (with_reducible refine (spec_l20Rd_odd.calls kj90 g s0_0 zt a1 false t240 w0 _ ?side1 ?side2 A148.out).mono ?_); (case side1 => repeat (yaa_)); (case side2 => repeat (yac_)); rintro e w225 ⟨rfl, hi, hb, hk⟩; refine ⟨_, rfl, ?_⟩; have n0_ := A_ (kB_ hk (g' := gb170) (o := .cells #[.int .i64 0, .int .i64 0, .int .i64 0, .int .i64 0, .int .i64 0, .int .i64 0] 75 (0, 0)) (by (ya_); exact z0.out) zc.out (by simp)); have n1_ := A_ (kB_ hk (g' := gb181) (o := .cells #[.int .i64 (rd y175 t178), .int .i64 z1, .int .i64 z2, .int .i64 z3, .int .i64 z4, .int .i64 zd] 75 (0, 0)) (by (ya_); exact z.out) zb.out (by simp)); have n2_ := A_ (kT_ (by repeat (yab_)) hk (.inl rfl)); have n3_ := A_ (hb); have n4_ := A_ (hi); clear z0; clear z; clear HK; clear HB; clear HI0; have z0 := n0_; have z := n1_; have HK := n2_; have HB := n3_; have HI0 := n4_; clear n0_ n1_ n2_ n3_ n4_; (try clear hb); (try clear hb2); (try clear hk); (try clear hi); have hnb226 := zo.out; have hnc226 := ze.out; have hnb227 := zb.out; have hnc227 := z5.out; have hcz228_0 : w225.cell? ⟨gb181, 0, none⟩ = some (.int .i64 (rd y175 t178)) := (bC_ z.out 0).trans rfl; have hcz228_1 : w225.cell? ⟨gb181, 1, none⟩ = some (.int .i64 z1) := (bC_ z.out 1).trans rfl; have hcz228_2 : w225.cell? ⟨gb181, 2, none⟩ = some (.int .i64 z2) := (bC_ z.out 2).trans rfl; have hcz228_3 : w225.cell? ⟨gb181, 3, none⟩ = some (.int .i64 z3) := (bC_ z.out 3).trans rfl; have hcz228_4 : w225.cell? ⟨gb181, 4, none⟩ = some (.int .i64 z4) := (bC_ z.out 4).trans rfl; have hcz228_5 : w225.cell? ⟨gb181, 5, none⟩ = some (.int .i64 zd) := (bC_ z.out 5).trans rfl; have hfz228_0 := bF_ z.out 0; have hfz228_1 := bF_ z.out 1; have hfz228_2 := bF_ z.out 2; have hfz228_3 := bF_ z.out 3; have hfz228_4 := bF_ z.out 4; have hfz228_5 := bF_ z.out 5; have hnb229 := zc.out; have hnc229 := z6.out; have hcz230_0 : w225.cell? ⟨gb170, 0, none⟩ = some (.int .i64 0) := (bC_ z0.out 0).trans rfl; have hcz230_1 : w225.cell? ⟨gb170, 1, none⟩ = some (.int .i64 0) := (bC_ z0.out 1).trans rfl; have hcz230_2 : w225.cell? ⟨gb170, 2, none⟩ = some (.int .i64 0) := (bC_ z0.out 2).trans rfl; have hcz230_3 : w225.cell? ⟨gb170, 3, none⟩ = some (.int .i64 0) := (bC_ z0.out 3).trans rfl; have hcz230_4 : w225.cell? ⟨gb170, 4, none⟩ = some (.int .i64 0) := (bC_ z0.out 4).trans rfl; have hcz230_5 : w225.cell? ⟨gb170, 5, none⟩ = some (.int .i64 0) := (bC_ z0.out 5).trans rfl; have hfz230_0 := bF_ z0.out 0; have hfz230_1 := bF_ z0.out 1; have hfz230_2 := bF_ z0.out 2; have hfz230_3 := bF_ z0.out 3; have hfz230_4 := bF_ z0.out 4; have hfz230_5 := bF_ z0.out 5))
              refine bodyPost_ret (results_cell_row rfl _ _ gb170 75 #[.int .i64 (rd y175 t178), .int .i64 z1, .int .i64 z2, .int .i64 z3, .int .i64 z4, .int .i64 zd] (0, 0) _ rfl (by (ya_); refine blk_put (cs := #[.int .i64 (rd y175 t178), .int .i64 z1, .int .i64 z2, .int .i64 z3, .int .i64 z4, .int .i64 0]) ?_ 5 _ rfl; (ya_); refine blk_put (cs := #[.int .i64 (rd y175 t178), .int .i64 z1, .int .i64 z2, .int .i64 z3, .int .i64 0, .int .i64 0]) ?_ 4 _ rfl; (ya_); refine blk_put (cs := #[.int .i64 (rd y175 t178), .int .i64 z1, .int .i64 z2, .int .i64 0, .int .i64 0, .int .i64 0]) ?_ 3 _ rfl; (ya_); refine blk_put (cs := #[.int .i64 (rd y175 t178), .int .i64 z1, .int .i64 0, .int .i64 0, .int .i64 0, .int .i64 0]) ?_ 2 _ rfl; (ya_); refine blk_put (cs := #[.int .i64 (rd y175 t178), .int .i64 0, .int .i64 0, .int .i64 0, .int .i64 0, .int .i64 0]) ?_ 1 _ rfl; (ya_); refine blk_put (cs := #[.int .i64 0, .int .i64 0, .int .i64 0, .int .i64 0, .int .i64 0, .int .i64 0]) ?_ 0 _ rfl; (ya_); exact z0.out) Try.underlying75 rfl (by kernel_rfl)) rfl ?_
              exact ⟨by first | rfl | (simp [errW_none, errW_some] <;> rfl) | (simp [*, errW_none, errW_some] <;> rfl), by repeat (yaa_), by repeat (yac_), by repeat (yab_)⟩
  ·rw [if_neg c7] at H
   exact absurd H (by simp)
 ·rw [if_neg c6] at H
  exact absurd H (by simp)
end
end

end Go.Proofs.Ytdpgomcdacmhkaa.QFnInOk
