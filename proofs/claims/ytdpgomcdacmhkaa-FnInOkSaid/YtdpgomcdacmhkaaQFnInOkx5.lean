/- Walks of laws_FnInOk: each returns what its Lean function says, for all arguments that read as stated. -/
import Derived.Test.YtdpgomcdacmhkaaQFnInOkx4
namespace Go.Proofs.Ytdpgomcdacmhkaa.QFnInOk
open Go.RowKit Go.Proofs.YtdpgomcdacmhkaaW.PrintWords Go.Proofs.YtdpgomcdacmhkaaW.PrintLast Go.Proofs.YtdpgomcdacmhkaaW.PrintMore
attribute [local go_sem] max2_int min2_int max_two min_two max_three min_three max_four min_four   -- for this text's walks alone
set_option linter.unusedVariables false
set_option linter.unusedSimpArgs false

/-! ### laws_FnInOk: function 10 -/
section
set_option hygiene false in
local macro "ya_" : tactic => `(tactic| (with_reducible repeat (first | refine bN_ ?_ _ | refine bD_ ?_ | refine bA_ ?_ _)))
set_option hygiene false in
local macro "yaa_" : tactic => `(tactic| (with_reducible repeat (first | apply Kd.Q_alloc | apply Kd.Q_drewN | apply Kd.Q_drew)))
set_option hygiene false in
local macro "yab_" : tactic => `(tactic| (first | (with_reducible first | exact HB.out | apply wA_ | apply wN_ | apply wD_ | refine wS_ ?_ z7.out | refine wS_ ?_ z8.out) | exact HB.out))
set_option hygiene false in
local macro "yac_" : term => `((by repeat (first | (with_reducible first | exact HB.out | apply wA_ | apply wN_ | apply wD_ | refine wS_ ?_ z7.out | refine wS_ ?_ z8.out | refine wS_ ?_ zb.out) | exact HB.out)))
set_option hygiene false in
local macro "yad_" : term => `(((((((w129.setCell ⟨gb404, 0, none⟩ (.bool t381)).setCell ⟨gb404, 1, none⟩ (.bool false)).setCell ⟨gb404, 2, none⟩ (.int .i64 t383)).setCell ⟨gb404, 3, none⟩ (.int .i64 t384)).setCell ⟨gb404, 4, none⟩ (.slice Ao10 t385.length co10)).setCell ⟨gb404, 1, none⟩ (.bool false)))
set_option hygiene false in
local macro "yae_" : term => `(((((((w106.setCell ⟨gb404, 0, none⟩ (.bool t381)).setCell ⟨gb404, 1, none⟩ (.bool true)).setCell ⟨gb404, 2, none⟩ (.int .i64 t383)).setCell ⟨gb404, 3, none⟩ (.int .i64 t384)).setCell ⟨gb404, 4, none⟩ (.slice Ao10 t385.length co10)).setCell ⟨gb404, 1, none⟩ (.bool false)))
set_option hygiene false in
local macro "yaf_" : term => `(((((((w86.setCell ⟨gb404, 0, none⟩ (.bool t381)).setCell ⟨gb404, 1, none⟩ (.bool true)).setCell ⟨gb404, 2, none⟩ (.int .i64 t383)).setCell ⟨gb404, 3, none⟩ (.int .i64 t384)).setCell ⟨gb404, 4, none⟩ (.slice Ao10 t385.length co10)).setCell ⟨gb404, 1, none⟩ (.bool false)))
set_option hygiene false in
local macro "yag_" : tactic => `(tactic| (first | (with_reducible first | exact HB.out | apply wA_ | apply wN_ | apply wD_ | refine wS_ ?_ z7.out | refine wS_ ?_ z8.out | refine wS_ ?_ zb.out | refine wS_ ?_ zh.out) | exact HB.out))
set_option hygiene false in
local macro "yah_" : tactic => `(tactic| (with_reducible repeat (first | apply rA_ | apply rN_ | apply rD_)))
set_option hygiene false in
local macro "yai_" : term => `((by (yaa_); exact (Kd.Q_mono (Kd.Q_far (p := ⟨gb397, 4, none⟩) (Kd.Q_far (p := ⟨gb397, 3, none⟩) (Kd.Q_far (p := ⟨gb397, 2, none⟩) (Kd.Q_far (p := ⟨gb397, 1, none⟩) (Kd.Q_far (p := ⟨gb397, 0, none⟩) (Kd.Q_types z6.out z0.out (by decide)) (fun _ hk => hk.2) (.bool t390)) (fun _ hk => hk.2) (.bool t391)) (fun _ hk => hk.2) (.int .i64 t392)) (fun _ hk => hk.2) (.int .i64 t393)) (fun _ hk => hk.2) (.slice Ao16 t394.length co16)) (fun _ h_ => h_.1))))
set_option hygiene false in
local macro "yaj_" : term => `((by (yaa_); exact (Kd.Q_mono (Kd.Q_far (p := ⟨gb400, 4, none⟩) (Kd.Q_far (p := ⟨gb400, 3, none⟩) (Kd.Q_far (p := ⟨gb400, 2, none⟩) (Kd.Q_far (p := ⟨gb400, 1, none⟩) (Kd.Q_far (p := ⟨gb400, 0, none⟩) (Kd.Q_types z3.out z1.out (by decide)) (fun _ hk => hk.2) (.bool t381)) (fun _ hk => hk.2) (.bool true)) (fun _ hk => hk.2) (.int .i64 t383)) (fun _ hk => hk.2) (.int .i64 t384)) (fun _ hk => hk.2) (.slice Ao10 t385.length co10)) (fun _ h_ => h_.1))))
set_option hygiene false in
local macro "yak_" : term => `((by (yaa_); exact (Kd.Q_mono (Kd.Q_far (p := ⟨gb400, 4, none⟩) (Kd.Q_far (p := ⟨gb400, 3, none⟩) (Kd.Q_far (p := ⟨gb400, 2, none⟩) (Kd.Q_far (p := ⟨gb400, 1, none⟩) (Kd.Q_far (p := ⟨gb400, 0, none⟩) (Kd.Q_types z4.out z1.out (by decide)) (fun _ hk => hk.2) (.bool t381)) (fun _ hk => hk.2) (.bool true)) (fun _ hk => hk.2) (.int .i64 t383)) (fun _ hk => hk.2) (.int .i64 t384)) (fun _ hk => hk.2) (.slice Ao10 t385.length co10)) (fun _ h_ => h_.1))))
set_option hygiene false in
local macro "yal_" : term => `((by (try simp only [mT_, mC_, mN_]); first | done | rfl | (simp only [lD_, lT_]; rfl)))
set_option hygiene false in
local macro "yam_" : term => `((by (ya_); refine blk_far ?_ za.out _; (ya_); refine blk_far ?_ za.out _; (ya_); refine blk_far ?_ za.out _; (ya_); refine blk_far ?_ za.out _; (ya_); refine blk_far ?_ za.out _; (ya_); exact z.out))
set_option hygiene false in
local macro "yan_" : term => `((by (ya_); refine blk_put (cs := #[.bool t381, .bool true, .int .i64 t383, .int .i64 t384, .slice Ao10 t385.length co10]) ?_ 4 _ rfl; (ya_); exact z1.out))
set_option hygiene false in
local macro "yao_" : term => `((by repeat (first | (with_reducible first | exact HB.out | apply wA_ | apply wN_ | apply wD_ | refine wS_ ?_ z7.out) | exact HB.out)))
set_option hygiene false in
local macro "yap_" : term => `((by (ya_); refine blk_put (cs := #[.bool t390, .bool t391, .int .i64 t392, .int .i64 t393, .slice none 0 0]) ?_ 4 _ rfl; (ya_); refine blk_put (cs := #[.bool t390, .bool t391, .int .i64 t392, .int .i64 0, .slice none 0 0]) ?_ 3 _ rfl; (ya_); refine blk_put (cs := #[.bool t390, .bool t391, .int .i64 0, .int .i64 0, .slice none 0 0]) ?_ 2 _ rfl; (ya_); refine blk_put (cs := #[.bool t390, .bool false, .int .i64 0, .int .i64 0, .slice none 0 0]) ?_ 1 _ rfl; (ya_); refine blk_put (cs := #[.bool false, .bool false, .int .i64 0, .int .i64 0, .slice none 0 0]) ?_ 0 _ rfl; (ya_); exact z0.out))
set_option hygiene false in
local macro "yaq_" : term => `((by (ya_); refine blk_put (cs := #[.bool t381, .bool true, .int .i64 t383, .int .i64 t384, .slice none 0 0]) ?_ 4 _ rfl; (ya_); refine blk_put (cs := #[.bool t381, .bool true, .int .i64 t383, .int .i64 0, .slice none 0 0]) ?_ 3 _ rfl; (ya_); refine blk_put (cs := #[.bool t381, .bool true, .int .i64 0, .int .i64 0, .slice none 0 0]) ?_ 2 _ rfl; (ya_); refine blk_put (cs := #[.bool t381, .bool false, .int .i64 0, .int .i64 0, .slice none 0 0]) ?_ 1 _ rfl; (ya_); refine blk_put (cs := #[.bool false, .bool false, .int .i64 0, .int .i64 0, .slice none 0 0]) ?_ 0 _ rfl; (ya_); exact z1.out))
set_option hygiene false in
local macro "yar_" : tactic => `(tactic| (case side1 => repeat (first | exact (Kd.R_reads' z9.out).2.2 | (with_reducible refine Kd.C_alloc ?_ _) | (with_reducible refine Kd.C_drewN ?_ _) | (with_reducible refine Kd.C_drew ?_))))
set_option hygiene false in
local macro "yas_" : tactic => `(tactic| (case hr => first | (go_simp; done) | (go_simp; rfl)))
set_option hygiene false in
local macro "yat_" : term => `((by rw [hg]; exact Nat.ne_of_lt (blk_lt (g := gb397) (o := .cells #[.bool t390, .bool t391, .int .i64 t392, .int .i64 t393, .slice Ao16 t394.length co16] 47 (0, 0)) (by (ya_); refine blk_far ?_ zd.out _; (ya_); exact z0.out)) : gb397 ≠ gb404))
set_option hygiene false in
local macro "yau_" : term => `((by rw [hg]; exact Nat.ne_of_gt (blk_lt (g := gb397) (o := .cells #[.bool t390, .bool t391, .int .i64 t392, .int .i64 t393, .slice Ao16 t394.length co16] 47 (0, 0)) (by (ya_); refine blk_far ?_ zd.out _; (ya_); exact z0.out)) : gb404 ≠ gb397))
set_option hygiene false in
local macro "yav_" : term => `((by (yaa_); exact (Kd.Q_mono (Kd.Q_far (p := ⟨gb397, 4, none⟩) (Kd.Q_far (p := ⟨gb397, 3, none⟩) (Kd.Q_far (p := ⟨gb397, 2, none⟩) (Kd.Q_far (p := ⟨gb397, 1, none⟩) (Kd.Q_far (p := ⟨gb397, 0, none⟩) (Kd.Q_types z6.out z0.out (by decide)) (fun _ hk => hk.2) (.bool false)) (fun _ hk => hk.2) (.bool false)) (fun _ hk => hk.2) (.int .i64 t392)) (fun _ hk => hk.2) (.int .i64 t393)) (fun _ hk => hk.2) (.slice Ao16 t394.length co16)) (fun _ h_ => h_.1))))
set_option hygiene false in
local macro "yaw_" : tactic => `(tactic| (case hp => exact (Reps.one (show Kd.M (Kd.int .i64) _ _ _ 0 [.int .i64 0] from rfl) (Reps.one (show Kd.M (Kd.int .i64) _ _ _ 0 [.int .i64 0] from rfl) (Reps.one (show Kd.M (Kd.int .i64) _ _ _ 0 [.int .i64 0] from rfl) (Reps.none _ _))))))
set_option hygiene false in
local macro "yax_" : tactic => `(tactic| (first | (with_reducible first | exact HB.out | apply wA_ | apply wN_ | apply wD_) | exact HB.out))
set_option hygiene false in
local macro "yay_" : term => `((by (yaa_); exact (Kd.Q_mono (Kd.Q_far (p := ⟨gb397, 4, none⟩) (Kd.Q_far (p := ⟨gb397, 3, none⟩) (Kd.Q_far (p := ⟨gb397, 2, none⟩) (Kd.Q_far (p := ⟨gb397, 1, none⟩) (Kd.Q_far (p := ⟨gb397, 0, none⟩) (Kd.Q_types z6.out z0.out (by decide)) (fun _ hk => hk.2) (.bool true)) (fun _ hk => hk.2) (.bool false)) (fun _ hk => hk.2) (.int .i64 t392)) (fun _ hk => hk.2) (.int .i64 t393)) (fun _ hk => hk.2) (.slice Ao16 t394.length co16)) (fun _ h_ => h_.1))))
set_option hygiene false in
local macro "yaz_" : term => `((by (yaa_); exact (Kd.Q_mono (Kd.Q_far (p := ⟨gb400, 4, none⟩) (Kd.Q_far (p := ⟨gb400, 3, none⟩) (Kd.Q_far (p := ⟨gb400, 2, none⟩) (Kd.Q_far (p := ⟨gb400, 1, none⟩) (Kd.Q_far (p := ⟨gb400, 0, none⟩) (Kd.Q_types z3.out z1.out (by decide)) (fun _ hk => hk.2) (.bool t381)) (fun _ hk => hk.2) (.bool false)) (fun _ hk => hk.2) (.int .i64 t383)) (fun _ hk => hk.2) (.int .i64 t384)) (fun _ hk => hk.2) (.slice Ao10 t385.length co10)) (fun _ h_ => h_.1))))
set_option hygiene false in
local macro "yb_" : term => `((by (yaa_); exact (Kd.Q_mono (Kd.Q_far (p := ⟨gb400, 4, none⟩) (Kd.Q_far (p := ⟨gb400, 3, none⟩) (Kd.Q_far (p := ⟨gb400, 2, none⟩) (Kd.Q_far (p := ⟨gb400, 1, none⟩) (Kd.Q_far (p := ⟨gb400, 0, none⟩) (Kd.Q_types z4.out z1.out (by decide)) (fun _ hk => hk.2) (.bool t381)) (fun _ hk => hk.2) (.bool false)) (fun _ hk => hk.2) (.int .i64 t383)) (fun _ hk => hk.2) (.int .i64 t384)) (fun _ hk => hk.2) (.slice Ao10 t385.length co10)) (fun _ h_ => h_.1))))
set_option hygiene false in
local macro "yba_" : term => `((by (yaa_); exact (Kd.Q_mono (Kd.Q_far (p := ⟨gb397, 4, none⟩) (Kd.Q_far (p := ⟨gb397, 3, none⟩) (Kd.Q_far (p := ⟨gb397, 2, none⟩) (Kd.Q_far (p := ⟨gb397, 1, none⟩) (Kd.Q_far (p := ⟨gb397, 0, none⟩) (Kd.Q_types z6.out z0.out (by decide)) (fun _ hk => hk.2) (.bool t390)) (fun _ hk => hk.2) (.bool true)) (fun _ hk => hk.2) (.int .i64 t392)) (fun _ hk => hk.2) (.int .i64 t393)) (fun _ hk => hk.2) (.slice Ao16 t394.length co16)) (fun _ h_ => h_.1))))
set_option hygiene false in
local macro "ybb_" : term => `((by (yaa_); exact (Kd.Q_mono (Kd.Q_far (p := ⟨gb388, 4, none⟩) (Kd.Q_far (p := ⟨gb388, 3, none⟩) (Kd.Q_far (p := ⟨gb388, 2, none⟩) (Kd.Q_far (p := ⟨gb388, 1, none⟩) (Kd.Q_far (p := ⟨gb388, 0, none⟩) (Kd.Q_types z6.out z.out (by decide)) (fun _ hk => hk.2) (.bool t381)) (fun _ hk => hk.2) (.bool t382)) (fun _ hk => hk.2) (.int .i64 t383)) (fun _ hk => hk.2) (.int .i64 t384)) (fun _ hk => hk.2) (.slice Ao10 t385.length co10)) (fun _ h_ => h_.1))))
set_option hygiene false in
local macro "ybc_" : term => `((by (yah_); exact (rM_ (Kd.R_far (p := ⟨gb397, 4, none⟩) (Kd.R_far (p := ⟨gb397, 3, none⟩) (Kd.R_far (p := ⟨gb397, 2, none⟩) (Kd.R_far (p := ⟨gb397, 1, none⟩) (Kd.R_far (p := ⟨gb397, 0, none⟩) (Kd.R_types z9.out z0.out (by decide)) (fun _ hk => hk.2) (.bool t390)) (fun _ hk => hk.2) (.bool t391)) (fun _ hk => hk.2) (.int .i64 t392)) (fun _ hk => hk.2) (.int .i64 t393)) (fun _ hk => hk.2) (.slice Ao16 t394.length co16)) (fun _ h_ => h_.1))))
set_option hygiene false in
local macro "ybd_" : tactic => `(tactic| (try (refine gate_guard (by rfl) ?_; dsimp only)))
set_option hygiene false in
local macro "ybe_" : term => `(#[false, false, false, false, false, false, false, false, false, false, false, false, false, false, false, false, false, false, false, false, false, false, false, false, false, false, false, false, false, false, false])
set_option hygiene false in
local macro "ybf_" : term => `((by (ya_); refine blk_far ?_ zc.out _; (ya_); exact z.out))
set_option hygiene false in
local macro "ybg_" : term => `(#[true, false, false, false, false, false, false, false, false, false, false, false, false, false, false, false, false, false, false, false, false, false, false, false, false, false, false, false, false, false, false])
set_option hygiene false in
local macro "ybh_" : term => `(#[true, true, false, false, false, false, false, false, false, false, false, false, false, false, false, false, false, false, false, false, false, false, false, false, false, false, false, false, false, false, false])
set_option hygiene false in
local macro "ybi_" : term => `(#[true, true, true, false, false, false, false, false, false, false, false, false, false, false, false, false, false, false, false, false, false, false, false, false, false, false, false, false, false, false, false])
set_option hygiene false in
local macro "ybj_" : term => `(#[true, true, true, true, false, false, false, false, false, false, false, false, false, false, false, false, false, false, false, false, false, false, false, false, false, false, false, false, false, false, false])
set_option hygiene false in
local macro "ybk_" : tactic => `(tactic| (with_reducible refine (spec_InOk.calls k t381 t382 t383 t384 _ _ t385 t398 _ ?side1 ?side2 A17.out).mono ?_))
set_option hygiene false in
local macro "ybl_" : term => `(#[true, true, true, true, true, false, false, false, false, false, false, false, false, false, false, false, false, false, false, false, false, false, false, false, false, false, false, false, false, false, false])
set_option hygiene false in
local macro "ybm_" : term => `(#[true, true, true, true, true, true, false, false, false, false, false, false, false, false, false, false, false, false, false, false, false, false, false, false, false, false, false, false, false, false, false])
set_option hygiene false in
local macro "ybn_" : term => `(#[true, true, true, true, true, true, true, false, false, false, false, false, false, false, false, false, false, false, false, false, false, false, false, false, false, false, false, false, false, false, false])
set_option hygiene false in
local macro "ybo_" : term => `(#[true, true, true, true, true, true, true, true, false, false, false, false, false, false, false, false, false, false, false, false, false, false, false, false, false, false, false, false, false, false, false])
set_option hygiene false in
local macro "ybp_" : term => `((by rw [hg]; exact Nat.ne_of_lt (blk_lt (g := gb397) (o := .cells #[.bool t390, .bool t391, .int .i64 t392, .int .i64 t393, .slice Ao16 t394.length co16] 47 (0, 0)) (by (ya_); exact z0.out)) : gb397 ≠ gb400))
set_option hygiene false in
local macro "ybq_" : term => `((by rw [hg]; exact Nat.ne_of_gt (blk_lt (g := gb397) (o := .cells #[.bool t390, .bool t391, .int .i64 t392, .int .i64 t393, .slice Ao16 t394.length co16] 47 (0, 0)) (by (ya_); exact z0.out)) : gb400 ≠ gb397))
set_option hygiene false in
local macro "ybr_" : term => `(#[true, true, true, true, true, true, true, true, true, false, false, false, false, false, false, false, false, false, false, false, false, false, false, false, false, false, false, false, false, false, false])
set_option hygiene false in
local macro "ybs_" : term => `(#[true, true, true, true, true, true, true, true, true, true, false, false, false, false, false, false, false, false, false, false, false, false, false, false, false, false, false, false, false, false, false])
set_option hygiene false in
local macro "ybt_" : term => `(#[true, true, true, true, true, true, true, true, true, true, true, false, false, false, false, false, false, false, false, false, false, false, false, false, false, false, false, false, false, false, false])
set_option hygiene false in
local macro "ybu_" : term => `(#[true, true, true, true, true, true, true, true, true, true, true, true, false, false, false, false, false, false, false, false, false, false, false, false, false, false, false, false, false, false, false])
set_option hygiene false in
local macro "ybv_" : term => `(#[true, true, true, true, true, true, true, true, true, true, true, true, true, false, false, false, false, false, false, false, false, false, false, false, false, false, false, false, false, false, false])
section
open Go.Proofs.YtdpgomcdacmhkaaW.PrintWords renaming blk_drewN → bN_, blk_alloc → bA_, blk_drew → bD_, blk_below → bB_, blk_frozen → bF_, blk_cell → bC_, below_set → wS_, pw_below_drewN → wN_, below_alloc → wA_, below_drew1 → wD_, below_step → wT_, below_size → wZ_
open Go.Proofs.YtdpgomcdacmhkaaW.PrintWords.Aside0 renaming mk → A_
open Go.Proofs.YtdpgomcdacmhkaaW.PrintWords.Kd renaming R_drewN → rN_, R_drew → rD_, R_alloc → rA_, R_below → rB_, R_mono → rM_
open List renaming map_toArray → mT_, map_cons → mC_, map_nil → mN_, length_drop → lD_, length_take → lT_, setIfInBounds_toArray → sT_, set_cons_zero → s0_, set_cons_succ → s1_
def laws_FnInOk.j0 : Nat → Bool → Bool → Bool → Bool → Int → Int → List Int → Option (Bool)
 | 0, _, _, _, _, _, _, _ => none
 | k + 1, x4, x38, zs, zt, zl, zj, zu => if x38 = true then (some false) else (if x4 = true then ((impl_InOk.f k zs zt zl zj (([0, 0, 0] : List Int))).bind fun t405 => (if t405 = true then (some false) else (if zt = true then ((impl_InOk.f k zs false zl zj zu).bind fun t406 => (if zl = 0 then (some (t406 == (zj == 0))) else (some (t406 == false)))) else (if zl = 0 then (if zj = 0 then ((impl_InOk.f k zs false zl zj zu).bind fun t407 => (some (t407 == (zj == 0)))) else (some false)) else (some false))))) else (some true))
def laws_FnInOk.f (k : Nat) (l0 : List Int) : Option (Bool) := if (l0.length : Int) > 1048576 then (some true) else ((spec_DrawInOk.f k l0).bind fun bt381 => ((impl_InOk.f k bt381.1 bt381.2.1 bt381.2.2.1 bt381.2.2.2.1 bt381.2.2.2.2).bind fun t389 => ((impl_InAll.f).bind fun bt390 => ((spec_InOk.f k bt381.1 bt381.2.1 bt381.2.2.1 bt381.2.2.2.1 bt381.2.2.2.2).bind fun t398 => (if (t389 != t398) = true then (laws_FnInOk.j0 k t389 true bt381.1 bt381.2.1 bt381.2.2.1 bt381.2.2.2.1 bt381.2.2.2.2) else ((impl_InOk.f k bt390.1 bt390.2.1 bt390.2.2.1 bt390.2.2.2.1 bt390.2.2.2.2).bind fun t399 => (if t399 = true then (if bt390.2.1 = true then (laws_FnInOk.j0 k t389 true bt381.1 bt381.2.1 bt381.2.2.1 bt381.2.2.2.1 bt381.2.2.2.2) else (if bt390.1 = true then (laws_FnInOk.j0 k t389 true bt381.1 bt381.2.1 bt381.2.2.1 bt381.2.2.2.1 bt381.2.2.2.2) else (laws_FnInOk.j0 k t389 ((bt390.2.2.2.2.length : Int) != 2) bt381.1 bt381.2.1 bt381.2.2.1 bt381.2.2.2.1 bt381.2.2.2.2))) else (laws_FnInOk.j0 k t389 true bt381.1 bt381.2.1 bt381.2.2.1 bt381.2.2.2.1 bt381.2.2.2.2))))))))
theorem laws_FnInOk.mono_l : ∀ k, (∀ y0 y1 y2 y3 y4 y5 y6, LeO (laws_FnInOk.j0 k y0 y1 y2 y3 y4 y5 y6) (laws_FnInOk.j0 (k + 1) y0 y1 y2 y3 y4 y5 y6))
 | 0 => fun _ _ _ _ _ _ _ r h => by simp [laws_FnInOk.j0] at h
 | k + 1 => by
  have ih0 := laws_FnInOk.mono_l k
  ·intro y0 y1 y2 y3 y4 y5 y6
   unfold laws_FnInOk.j0
   repeat' first
   | (with_reducible exact ih0 _ _ _ _ _ _ _)
   | (with_reducible exact impl_InOk.mono _ _ _ _ _ _)
   | (with_reducible exact spec_DrawInOk.mono _ _)
   | (with_reducible exact spec_InOk.mono _ _ _ _ _ _)
   | (with_reducible exact LeO.refl _)
   | (with_reducible exact LeO.none _)
   | (with_reducible refine LeO.ite ?_ ?_)
   | (with_reducible refine LeO.bind ?_ (fun _ => ?_))
   | exact ih0 _ _ _ _ _ _ _
   | exact impl_InOk.mono _ _ _ _ _ _
   | exact spec_DrawInOk.mono _ _
   | exact spec_InOk.mono _ _ _ _ _ _
   | exact LeO.none _
   | refine LeO.ite ?_ ?_
   | refine LeO.bind ?_ (fun _ => ?_)
theorem laws_FnInOk.mono : ∀ a0 k, LeO (laws_FnInOk.f k a0) (laws_FnInOk.f (k + 1) a0) := by
 intro a0 k
 have ih0 := laws_FnInOk.mono_l k
 unfold laws_FnInOk.f
 repeat' first
   | (with_reducible exact ih0 _ _ _ _ _ _ _)
   | (with_reducible exact impl_InOk.mono _ _ _ _ _ _)
   | (with_reducible exact spec_DrawInOk.mono _ _)
   | (with_reducible exact spec_InOk.mono _ _ _ _ _ _)
   | (with_reducible exact LeO.refl _)
   | (with_reducible exact LeO.none _)
   | (with_reducible refine LeO.ite ?_ ?_)
   | (with_reducible refine LeO.bind ?_ (fun _ => ?_))
   | exact ih0 _ _ _ _ _ _ _
   | exact impl_InOk.mono _ _ _ _ _ _
   | exact spec_DrawInOk.mono _ _
   | exact spec_InOk.mono _ _ _ _ _ _
   | exact LeO.none _
   | refine LeO.ite ?_ ?_
   | refine LeO.bind ?_ (fun _ => ?_)
def laws_FnInOk.T14 : Bool × List (List Nat × List Nat) := (true, [([], []), ([0], [0]), ([1], [1]), ([2, 1], [2]), ([3], [3]), ([4, 3], [3, 4]), ([5, 3, 3], [3, 5]), ([6], [6]), ([7, 6], [6, 7]), ([8, 6], [6, 8]), ([9, 6, 6], [6, 9]), ([10], [10]), ([11, 10], [10, 11]), ([12, 10], [10, 12]), ([10, 13, 6], [6, 10, 13]), ([6, 14, 3], [3, 6, 14]), ([3, 15], [3, 15]), ([16, 10], [16]), ([17], [17]), ([18, 17, 17], [17, 18]), ([17], [17]), ([20, 17], [17, 20]), ([21, 17], [17, 21]), ([22, 19, 17], [17, 22]), ([23], [23]), ([24, 23], [23, 24]), ([25, 23], [23, 25]), ([23, 26, 17], [17, 23, 26]), ([19, 27, 17], [17, 19, 27]), ([17, 28], [17, 28]), ([29, 23, 0, 1, 2, 3, 4, 5, 6, 7, 8, 9, 10, 11, 12, 13, 14, 15, 16, 17, 18, 19, 20, 21, 22, 23, 24, 25, 26, 27, 28, 29], [29])])
def laws_FnInOk.B14 : List Nat := [0, 1, 3, 7, 15, 31, 63, 127, 255, 511, 1023, 2047, 4095, 8191, 16383, 32767, 65535, 131071, 262143, 524287, 262143, 1310719, 3407871, 8388607, 16777215, 33554431, 67108863, 134217727, 268435455, 536870911, 1073741823]
theorem laws_FnInOk.tab14 : rtab .any (opsOf Try.f10 14) = laws_FnInOk.T14 := by kernel_rfl
theorem laws_FnInOk.bits14 : waitsOk laws_FnInOk.T14.2 laws_FnInOk.B14 = true := by kernel_rfl
set_option maxHeartbeats 8000000 in
set_option maxRecDepth 100000 in
theorem laws_FnInOk.callsT (k : Nat) (A0 : Option Addr) (c0 : Nat) (l0 : List Int) (r : Bool) (w : World) (hr0 : Kd.C (Kd.int .u8) w A0 l0.length l0) (hc0 : l0.length ≤ c0) (h : laws_FnInOk.f k l0 = some r) (hr_ : r = true) :
  Calls Try.prog 10 #[.slice A0 l0.length c0] w fun e w' => e = .returned (.bool r) ∧ Below w.heap.size w w' := by
 have HR_ := A_ hr_
 clear hr_
 have hu47 := Try.underlying47
 have HR0 := A_ hr0
 have HC0 := A_ hc0
 clear hr0 hc0
 have HB := A_ (Below.refl w.heap.size w)
 have H : (if (l0.length : Int) > 1048576 then (some true) else ((spec_DrawInOk.f k l0).bind fun bt381 => ((impl_InOk.f k bt381.1 bt381.2.1 bt381.2.2.1 bt381.2.2.2.1 bt381.2.2.2.2).bind fun t389 => ((impl_InAll.f).bind fun bt390 => ((spec_InOk.f k bt381.1 bt381.2.1 bt381.2.2.1 bt381.2.2.2.1 bt381.2.2.2.2).bind fun t398 => (if (t389 != t398) = true then (laws_FnInOk.j0 k t389 true bt381.1 bt381.2.1 bt381.2.2.1 bt381.2.2.2.1 bt381.2.2.2.2) else ((impl_InOk.f k bt390.1 bt390.2.1 bt390.2.2.1 bt390.2.2.2.1 bt390.2.2.2.2).bind fun t399 => (if t399 = true then (if bt390.2.1 = true then (laws_FnInOk.j0 k t389 true bt381.1 bt381.2.1 bt381.2.2.1 bt381.2.2.2.1 bt381.2.2.2.2) else (if bt390.1 = true then (laws_FnInOk.j0 k t389 true bt381.1 bt381.2.1 bt381.2.2.1 bt381.2.2.2.1 bt381.2.2.2.2) else (laws_FnInOk.j0 k t389 ((bt390.2.2.2.2.length : Int) != 2) bt381.1 bt381.2.1 bt381.2.2.1 bt381.2.2.2.1 bt381.2.2.2.2))) else (laws_FnInOk.j0 k t389 true bt381.1 bt381.2.1 bt381.2.2.1 bt381.2.2.2.1 bt381.2.2.2.2))))))))) = some r := h
 clear h
 by_cases c2 : (l0.length : Int) > 1048576
 ·rw [if_pos c2] at H
  have c2b0 : decide (1048576 < (l0.length : Int)) = true := decide_eq_true c2
  have c2b1 : decide (1048576 < l0.length) = true := decide_eq_true (by omega)
  clear c2
  obtain rfl := Option.some.inj H
  go_enter Try.func10, Try.ntmps10
  go_wp2
  go_ret
  exact ⟨by first | rfl | (simp [errW_none, errW_some] <;> rfl) | (simp [*, errW_none, errW_some] <;> rfl), by repeat (yax_)⟩
 ·rw [if_neg c2] at H
  have c2b0 : decide (1048576 < (l0.length : Int)) = false := decide_eq_false c2
  have c2b1 : decide (1048576 < l0.length) = false := decide_eq_false (by omega)
  clear c2
  replace H := Option.bind_eq_some_iff.mp H
  obtain ⟨⟨t381, t382, t383, t384, t385⟩, A30, H⟩ := H
  replace H : ((impl_InOk.f k t381 t382 t383 t384 t385).bind fun t389 => ((impl_InAll.f).bind fun bt390 => ((spec_InOk.f k t381 t382 t383 t384 t385).bind fun t398 => (if (t389 != t398) = true then (laws_FnInOk.j0 k t389 true t381 t382 t383 t384 t385) else ((impl_InOk.f k bt390.1 bt390.2.1 bt390.2.2.1 bt390.2.2.2.1 bt390.2.2.2.2).bind fun t399 => (if t399 = true then (if bt390.2.1 = true then (laws_FnInOk.j0 k t389 true t381 t382 t383 t384 t385) else (if bt390.1 = true then (laws_FnInOk.j0 k t389 true t381 t382 t383 t384 t385) else (laws_FnInOk.j0 k t389 ((bt390.2.2.2.2.length : Int) != 2) t381 t382 t383 t384 t385))) else (laws_FnInOk.j0 k t389 true t381 t382 t383 t384 t385))))))) = some r := H
  have A3 := A_ A30
  clear A30
  replace H := Option.bind_eq_some_iff.mp H
  obtain ⟨t389, A40, H⟩ := H
  replace H : ((impl_InAll.f).bind fun bt390 => ((spec_InOk.f k t381 t382 t383 t384 t385).bind fun t398 => (if (t389 != t398) = true then (laws_FnInOk.j0 k t389 true t381 t382 t383 t384 t385) else ((impl_InOk.f k bt390.1 bt390.2.1 bt390.2.2.1 bt390.2.2.2.1 bt390.2.2.2.2).bind fun t399 => (if t399 = true then (if bt390.2.1 = true then (laws_FnInOk.j0 k t389 true t381 t382 t383 t384 t385) else (if bt390.1 = true then (laws_FnInOk.j0 k t389 true t381 t382 t383 t384 t385) else (laws_FnInOk.j0 k t389 ((bt390.2.2.2.2.length : Int) != 2) t381 t382 t383 t384 t385))) else (laws_FnInOk.j0 k t389 true t381 t382 t383 t384 t385)))))) = some r := H
  have A4 := A_ A40
  clear A40
  replace H := Option.bind_eq_some_iff.mp H
  obtain ⟨⟨t390, t391, t392, t393, t394⟩, A50, H⟩ := H
  replace H : ((spec_InOk.f k t381 t382 t383 t384 t385).bind fun t398 => (if (t389 != t398) = true then (laws_FnInOk.j0 k t389 true t381 t382 t383 t384 t385) else ((impl_InOk.f k t390 t391 t392 t393 t394).bind fun t399 => (if t399 = true then (if t391 = true then (laws_FnInOk.j0 k t389 true t381 t382 t383 t384 t385) else (if t390 = true then (laws_FnInOk.j0 k t389 true t381 t382 t383 t384 t385) else (laws_FnInOk.j0 k t389 ((t394.length : Int) != 2) t381 t382 t383 t384 t385))) else (laws_FnInOk.j0 k t389 true t381 t382 t383 t384 t385))))) = some r := H
  have A5 := A_ A50
  clear A50
  have HC6 := A_ H
  clear H
  go_enter Try.func10, Try.ntmps10
  go_upto_region 6 with (first | ((with_reducible refine gate_callee (f := 41) rfl ?_); refine goesL_ (some 12) rfl rfl Try.func41 (by kernel_rfl) rfl #[.slice A0 l0.length c0] rfl (yal_) ?_; (with_reducible refine (spec_DrawInOk.calls k _ _ l0 t381 t382 t383 t384 t385 _ ?side1 ?side2 A3.out).mono ?_); (case side1 => repeat (first | exact HR0.out | (with_reducible refine Kd.C_alloc ?_ _) | (with_reducible refine Kd.C_drewN ?_ _) | (with_reducible refine Kd.C_drew ?_))); (case side2 => exact HC0.out); rintro e w7 ⟨v386, rfl, ho0, hb⟩; refine ⟨_, rfl, ?_⟩; have n0_ := A_ (Kd.Q_lower ho0 (wZ_ (by repeat (yax_)))); have n1_ := A_ (wT_ (by repeat (yax_)) hb); clear HB; have z6 := n0_; have HB := n1_; clear n0_ n1_; (try clear hb); (try clear hb2); (try clear hk); (try clear hi); (try clear ho0)) | ((with_reducible refine gate_dst (N := 3) rfl ?_); (ybd_); refine box_event ?hg (N := 3) ?hd (cs := #[.bool false, .bool false, .int .i64 0, .int .i64 0, .slice none 0 0]) (t := 47) ?hr ?_; (case hd => rfl); (case hg => rfl); (yas_); intro gb388 hg w8 hbox hb; have n0_ := A_ (Kd.Q_below (by (yaa_); exact z6.out) hb); have n1_ := A_ (wT_ (by repeat (yax_)) hb); have n2_ := A_ (hbox); have n3_ := A_ ((by rw [hg]; exact (wZ_ (by repeat (yax_))) : w.heap.size ≤ gb388)); have n4_ := A_ ((by rw [hg]; exact (wZ_ (by repeat (yax_))) : w.heap.size ≤ gb388)); clear z6; clear HB; have z6 := n0_; have HB := n1_; have z := n2_; have GW388 := n3_; have z7 := n4_; clear n0_ n1_ n2_ n3_ n4_; clear hb hbox hg; have hcz9_0 : w8.cell? ⟨gb388, 0, none⟩ = some (.bool false) := (bC_ z.out 0).trans rfl; have hcz9_1 : w8.cell? ⟨gb388, 1, none⟩ = some (.bool false) := (bC_ z.out 1).trans rfl; have hcz9_2 : w8.cell? ⟨gb388, 2, none⟩ = some (.int .i64 0) := (bC_ z.out 2).trans rfl; have hcz9_3 : w8.cell? ⟨gb388, 3, none⟩ = some (.int .i64 0) := (bC_ z.out 3).trans rfl; have hcz9_4 : w8.cell? ⟨gb388, 4, none⟩ = some (.slice none 0 0) := (bC_ z.out 4).trans rfl; have hfz9_0 := bF_ z.out 0; have hfz9_1 := bF_ z.out 1; have hfz9_2 := bF_ z.out 2; have hfz9_3 := bF_ z.out 3; have hfz9_4 := bF_ z.out 4; obtain ⟨Ao10, co10, eo10, _⟩ := Kd.Q_slice z6.out; subst eo10) | ((with_reducible refine gate_callee (f := 40) rfl ?_); refine goesL_ (some 14) rfl rfl Try.func40 (by kernel_rfl) rfl #[.agg #[.bool t381, .bool t382, .int .i64 t383, .int .i64 t384, .slice Ao10 t385.length co10]] rfl (yal_) ?_; (with_reducible refine (impl_InOk.calls k t381 t382 t383 t384 _ _ t385 t389 _ ?side1 ?side2 A4.out).mono ?_); (case side1 => refine (Kd.Q_reads' (e := 3) (base := w.heap.size) (ok := fun k_ => True) (n := t385.length) (c := co10) ?_).2.2; exact (ybb_)); (case side2 => exact (Kd.Q_reads' z6.out).2.1); rintro e w11 ⟨rfl, hb⟩; refine ⟨_, rfl, ?_⟩; have n0_ := A_ (Kd.Q_below (ybb_) hb); have n1_ := A_ (bB_ (g := gb388) (o := .cells #[.bool t381, .bool t382, .int .i64 t383, .int .i64 t384, .slice Ao10 t385.length co10] 47 (0, 0)) (by (ya_); refine blk_put (cs := #[.bool t381, .bool t382, .int .i64 t383, .int .i64 t384, .slice none 0 0]) ?_ 4 _ rfl; (ya_); refine blk_put (cs := #[.bool t381, .bool t382, .int .i64 t383, .int .i64 0, .slice none 0 0]) ?_ 3 _ rfl; (ya_); refine blk_put (cs := #[.bool t381, .bool t382, .int .i64 0, .int .i64 0, .slice none 0 0]) ?_ 2 _ rfl; (ya_); refine blk_put (cs := #[.bool t381, .bool false, .int .i64 0, .int .i64 0, .slice none 0 0]) ?_ 1 _ rfl; (ya_); refine blk_put (cs := #[.bool false, .bool false, .int .i64 0, .int .i64 0, .slice none 0 0]) ?_ 0 _ rfl; (ya_); exact z.out) hb); have n2_ := A_ (wT_ (yao_) hb); clear z6; clear z; clear HB; have z6 := n0_; have z := n1_; have HB := n2_; clear n0_ n1_ n2_; (try clear hb); (try clear hb2); (try clear hk); (try clear hi)) | ((with_reducible refine gate_callee (f := 33) rfl ?_); refine goesL_ (some 15) rfl rfl Try.func33 (by kernel_rfl) rfl #[] rfl (yal_) ?_; (with_reducible refine (impl_InAll.calls  t390 t391 t392 t393 t394 _ A5.out).mono ?_); rintro e w12 ⟨v395, rfl, ho0, hb⟩; refine ⟨_, rfl, ?_⟩; have n0_ := A_ (Kd.Q_elder' (by (yaa_); exact z6.out) (Kd.R_base ho0) hb); have n1_ := A_ (Kd.R_lower (Kd.R_new' ho0 (Kd.Q_lt (by (yaa_); exact z6.out))) (wZ_ (yao_))); have n2_ := A_ (bB_ (g := gb388) (o := .cells #[.bool t381, .bool t382, .int .i64 t383, .int .i64 t384, .slice Ao10 t385.length co10] 47 (0, 0)) (by (ya_); exact z.out) hb); have n3_ := A_ (wT_ (yao_) hb); clear z6; clear z; clear HB; have z6 := n0_; have z9 := n1_; have z := n2_; have HB := n3_; clear n0_ n1_ n2_ n3_; (try clear hb); (try clear hb2); (try clear hk); (try clear hi); (try clear ho0)) | ((with_reducible refine gate_dst (N := 5) rfl ?_); (ybd_); refine box_event ?hg (N := 5) ?hd (cs := #[.bool false, .bool false, .int .i64 0, .int .i64 0, .slice none 0 0]) (t := 47) ?hr ?_; (case hd => rfl); (case hg => rfl); (yas_); intro gb397 hg w13 hbox hb; have n0_ := A_ (Kd.Q_below (by (yaa_); exact z6.out) hb); have n1_ := A_ (rB_ (by (yah_); exact z9.out) hb); have n2_ := A_ (bB_ (g := gb388) (o := .cells #[.bool t381, .bool t382, .int .i64 t383, .int .i64 t384, .slice Ao10 t385.length co10] 47 (0, 0)) (by (ya_); exact z.out) hb); have n3_ := A_ (wT_ (yao_) hb); have n4_ := A_ (hbox); have n5_ := A_ ((by rw [hg]; exact (wZ_ (yao_)) : w.heap.size ≤ gb397)); have n6_ := A_ ((by rw [hg]; exact (wZ_ (yao_)) : w.heap.size ≤ gb397)); have n7_ := A_ ((by rw [hg]; exact Nat.ne_of_lt (blk_lt (g := gb388) (o := .cells #[.bool t381, .bool t382, .int .i64 t383, .int .i64 t384, .slice Ao10 t385.length co10] 47 (0, 0)) (by (ya_); exact z.out)) : gb388 ≠ gb397)); have n8_ := A_ ((by rw [hg]; exact Nat.ne_of_gt (blk_lt (g := gb388) (o := .cells #[.bool t381, .bool t382, .int .i64 t383, .int .i64 t384, .slice Ao10 t385.length co10] 47 (0, 0)) (by (ya_); exact z.out)) : gb397 ≠ gb388)); clear z6; clear z9; clear z; clear HB; have z6 := n0_; have z9 := n1_; have z := n2_; have HB := n3_; have z0 := n4_; have GW397 := n5_; have z8 := n6_; have za := n7_; have zi := n8_; clear n0_ n1_ n2_ n3_ n4_ n5_ n6_ n7_ n8_; clear hb hbox hg; have hnb14 := zi.out; have hnc14 := za.out; have hcz15_0 : w13.cell? ⟨gb397, 0, none⟩ = some (.bool false) := (bC_ z0.out 0).trans rfl; have hcz15_1 : w13.cell? ⟨gb397, 1, none⟩ = some (.bool false) := (bC_ z0.out 1).trans rfl; have hcz15_2 : w13.cell? ⟨gb397, 2, none⟩ = some (.int .i64 0) := (bC_ z0.out 2).trans rfl; have hcz15_3 : w13.cell? ⟨gb397, 3, none⟩ = some (.int .i64 0) := (bC_ z0.out 3).trans rfl; have hcz15_4 : w13.cell? ⟨gb397, 4, none⟩ = some (.slice none 0 0) := (bC_ z0.out 4).trans rfl; have hfz15_0 := bF_ z0.out 0; have hfz15_1 := bF_ z0.out 1; have hfz15_2 := bF_ z0.out 2; have hfz15_3 := bF_ z0.out 3; have hfz15_4 := bF_ z0.out 4; obtain ⟨Ao16, co16, eo16⟩ := Kd.R_slice z9.out; subst eo16))
  (try simp only [Act.put, sT_, s0_, s1_])
  go_cut [38] (fun v38 wc => ∃ (kq : Nat) (zr : Bool), v38 = .bool zr ∧ Aside0 (laws_FnInOk.j0 kq t389 zr t381 t382 t383 t384 t385 = some r) ∧ Aside0 (kq ≤ k) ∧ Aside0 (Kd.Q (Kd.int .i64) 3 wc w.heap.size (fun k_ => some k_ ≠ ((.slice Ao16 t394.length co16) : Value).ownBlock) (.slice Ao10 t385.length co10) t385) ∧ Aside0 (Kd.Q (Kd.int .i64) 3 wc w.heap.size (fun k_ => some k_ ≠ ((.slice Ao10 t385.length co10) : Value).ownBlock) (.slice Ao16 t394.length co16) t394) ∧ Aside0 (wc.heap[gb388]? = some (.cells #[.bool t381, .bool t382, .int .i64 t383, .int .i64 t384, (.slice Ao10 t385.length co10)] 47 (0, 0))) ∧ Aside0 (wc.heap[gb397]? = some (.cells #[.bool t390, .bool t391, .int .i64 t392, .int .i64 t393, (.slice Ao16 t394.length co16)] 47 (0, 0))) ∧ Aside0 (Below w.heap.size w wc))
  case first =>
   have H := HC6.out
   clear HC6
   replace H := Option.bind_eq_some_iff.mp H
   obtain ⟨t398, A170, H⟩ := H
   replace H : (if (t389 != t398) = true then (laws_FnInOk.j0 k t389 true t381 t382 t383 t384 t385) else ((impl_InOk.f k t390 t391 t392 t393 t394).bind fun t399 => (if t399 = true then (if t391 = true then (laws_FnInOk.j0 k t389 true t381 t382 t383 t384 t385) else (if t390 = true then (laws_FnInOk.j0 k t389 true t381 t382 t383 t384 t385) else (laws_FnInOk.j0 k t389 ((t394.length : Int) != 2) t381 t382 t383 t384 t385))) else (laws_FnInOk.j0 k t389 true t381 t382 t383 t384 t385)))) = some r := H
   have A17 := A_ A170
   clear A170
   by_cases c18 : (t389 != t398) = true
   ·rw [if_pos c18] at H
    have c18b0 : (t389 != t398) = true := c18
    (try (have c18b1 : decide (t389 = t398) = false := by simpa using c18))
    (try (have c18b2 : (t389 == t398) = false := by simpa using c18))
    (try (have c18b3 : ¬ (t389 = t398) := by simpa using c18))
    clear c18
    (first | rw [c18b0] | (simp only [i64_w, i32_w]; rw [c18b0]) | skip)
    have H' := A_ H
    clear H
    have hnb19 := za.out
    have hnc19 := zi.out
    have hcz20_0 : w13.cell? ⟨gb388, 0, none⟩ = some (.bool t381) := (bC_ z.out 0).trans rfl
    have hcz20_1 : w13.cell? ⟨gb388, 1, none⟩ = some (.bool t382) := (bC_ z.out 1).trans rfl
    have hcz20_2 : w13.cell? ⟨gb388, 2, none⟩ = some (.int .i64 t383) := (bC_ z.out 2).trans rfl
    have hcz20_3 : w13.cell? ⟨gb388, 3, none⟩ = some (.int .i64 t384) := (bC_ z.out 3).trans rfl
    have hcz20_4 : w13.cell? ⟨gb388, 4, none⟩ = some (.slice Ao10 t385.length co10) := (bC_ z.out 4).trans rfl
    have hfz20_0 := bF_ z.out 0
    have hfz20_1 := bF_ z.out 1
    have hfz20_2 := bF_ z.out 2
    have hfz20_3 := bF_ z.out 3
    have hfz20_4 := bF_ z.out 4
    go_wp2_with (first | ((with_reducible refine gate_callee (f := 38) rfl ?_); refine goesL_ (some 18) rfl rfl Try.func38 (by kernel_rfl) rfl #[.agg #[.bool t381, .bool t382, .int .i64 t383, .int .i64 t384, .slice Ao10 t385.length co10]] rfl (yal_) ?_; (ybk_); (case side1 => refine (Kd.Q_reads' (e := 3) (base := w.heap.size) (ok := fun k_ => (True ∧ some k_ ≠ (.slice Ao16 t394.length co16 : Value).ownBlock)) (n := t385.length) (c := co10) ?_).2.2; exact (yai_)); (case side2 => exact (Kd.Q_reads' z6.out).2.1); rintro e w21 ⟨rfl, hb⟩; refine ⟨_, rfl, ?_⟩; have n0_ := A_ (Kd.Q_below (yai_) hb); have n1_ := A_ (rB_ (ybc_) hb); have n2_ := A_ (bB_ (g := gb388) (o := .cells #[.bool t381, .bool t382, .int .i64 t383, .int .i64 t384, .slice Ao10 t385.length co10] 47 (0, 0)) (yam_) hb); have n3_ := A_ (bB_ (g := gb397) (o := .cells #[.bool t390, .bool t391, .int .i64 t392, .int .i64 t393, .slice Ao16 t394.length co16] 47 (0, 0)) (yap_) hb); have n4_ := A_ (wT_ (by repeat (yab_)) hb); clear z6; clear z9; clear z; clear z0; clear HB; have z6 := n0_; have z9 := n1_; have z := n2_; have z0 := n3_; have HB := n4_; clear n0_ n1_ n2_ n3_ n4_; (try clear hb); (try clear hb2); (try clear hk); (try clear hi)))
    go_meet
    case rel => exact ⟨_, (true), (by first | rfl | (simp; done) | (simp [*]; done)), H', ⟨by first | omega | exact Nat.le_refl _⟩, ⟨by (yaa_); exact Kd.Q_mono z6.out (fun _ hk => hk.2)⟩, ⟨Kd.Q_of_R (by (yah_); exact rM_ z9.out (fun _ hk => hk.2))⟩, ⟨by (ya_); exact z.out⟩, ⟨by (ya_); exact z0.out⟩, ⟨by repeat (yab_)⟩⟩
   ·rw [if_neg c18] at H
    have c18b0 : (t389 != t398) = false := by simpa using c18
    (try (have c18b1 : decide (t389 = t398) = true := by simpa using c18))
    (try (have c18b2 : (t389 == t398) = true := by simpa using c18))
    clear c18
    (first | rw [c18b0] | (simp only [i64_w, i32_w]; rw [c18b0]) | skip)
    replace H := Option.bind_eq_some_iff.mp H
    obtain ⟨t399, A220, H⟩ := H
    replace H : (if t399 = true then (if t391 = true then (laws_FnInOk.j0 k t389 true t381 t382 t383 t384 t385) else (if t390 = true then (laws_FnInOk.j0 k t389 true t381 t382 t383 t384 t385) else (laws_FnInOk.j0 k t389 ((t394.length : Int) != 2) t381 t382 t383 t384 t385))) else (laws_FnInOk.j0 k t389 true t381 t382 t383 t384 t385)) = some r := H
    have A22 := A_ A220
    clear A220
    by_cases c23 : t399 = true
    ·subst c23
     have H1 : (if t391 = true then (laws_FnInOk.j0 k t389 true t381 t382 t383 t384 t385) else (if t390 = true then (laws_FnInOk.j0 k t389 true t381 t382 t383 t384 t385) else (laws_FnInOk.j0 k t389 ((t394.length : Int) != 2) t381 t382 t383 t384 t385))) = some r := by rw [if_pos rfl] at H; exact H
     clear H
     have H := H1
     clear H1
     by_cases c24 : t391 = true
     ·subst c24
      have H1 : (laws_FnInOk.j0 k t389 true t381 t382 t383 t384 t385) = some r := by rw [if_pos rfl] at H; exact H
      clear H
      have H := H1
      clear H1
      have H' := A_ H
      clear H
      have hnb25 := za.out
      have hnc25 := zi.out
      have hcz26_0 : w13.cell? ⟨gb388, 0, none⟩ = some (.bool t381) := (bC_ z.out 0).trans rfl
      have hcz26_1 : w13.cell? ⟨gb388, 1, none⟩ = some (.bool t382) := (bC_ z.out 1).trans rfl
      have hcz26_2 : w13.cell? ⟨gb388, 2, none⟩ = some (.int .i64 t383) := (bC_ z.out 2).trans rfl
      have hcz26_3 : w13.cell? ⟨gb388, 3, none⟩ = some (.int .i64 t384) := (bC_ z.out 3).trans rfl
      have hcz26_4 : w13.cell? ⟨gb388, 4, none⟩ = some (.slice Ao10 t385.length co10) := (bC_ z.out 4).trans rfl
      have hfz26_0 := bF_ z.out 0
      have hfz26_1 := bF_ z.out 1
      have hfz26_2 := bF_ z.out 2
      have hfz26_3 := bF_ z.out 3
      have hfz26_4 := bF_ z.out 4
      go_wp2_with (first | ((with_reducible refine gate_callee (f := 38) rfl ?_); refine goesL_ (some 18) rfl rfl Try.func38 (by kernel_rfl) rfl #[.agg #[.bool t381, .bool t382, .int .i64 t383, .int .i64 t384, .slice Ao10 t385.length co10]] rfl (yal_) ?_; (ybk_); (case side1 => refine (Kd.Q_reads' (e := 3) (base := w.heap.size) (ok := fun k_ => (True ∧ some k_ ≠ (.slice Ao16 t394.length co16 : Value).ownBlock)) (n := t385.length) (c := co10) ?_).2.2; exact (yba_)); (case side2 => exact (Kd.Q_reads' z6.out).2.1); rintro e w27 ⟨rfl, hb⟩; refine ⟨_, rfl, ?_⟩; have n0_ := A_ (Kd.Q_below (yba_) hb); have n1_ := A_ (rB_ (by (yah_); exact (rM_ (Kd.R_far (p := ⟨gb397, 4, none⟩) (Kd.R_far (p := ⟨gb397, 3, none⟩) (Kd.R_far (p := ⟨gb397, 2, none⟩) (Kd.R_far (p := ⟨gb397, 1, none⟩) (Kd.R_far (p := ⟨gb397, 0, none⟩) (Kd.R_types z9.out z0.out (by decide)) (fun _ hk => hk.2) (.bool t390)) (fun _ hk => hk.2) (.bool true)) (fun _ hk => hk.2) (.int .i64 t392)) (fun _ hk => hk.2) (.int .i64 t393)) (fun _ hk => hk.2) (.slice Ao16 t394.length co16)) (fun _ h_ => h_.1))) hb); have n2_ := A_ (bB_ (g := gb388) (o := .cells #[.bool t381, .bool t382, .int .i64 t383, .int .i64 t384, .slice Ao10 t385.length co10] 47 (0, 0)) (yam_) hb); have n3_ := A_ (bB_ (g := gb397) (o := .cells #[.bool t390, .bool true, .int .i64 t392, .int .i64 t393, .slice Ao16 t394.length co16] 47 (0, 0)) (by (ya_); refine blk_put (cs := #[.bool t390, .bool true, .int .i64 t392, .int .i64 t393, .slice none 0 0]) ?_ 4 _ rfl; (ya_); refine blk_put (cs := #[.bool t390, .bool true, .int .i64 t392, .int .i64 0, .slice none 0 0]) ?_ 3 _ rfl; (ya_); refine blk_put (cs := #[.bool t390, .bool true, .int .i64 0, .int .i64 0, .slice none 0 0]) ?_ 2 _ rfl; (ya_); refine blk_put (cs := #[.bool t390, .bool false, .int .i64 0, .int .i64 0, .slice none 0 0]) ?_ 1 _ rfl; (ya_); refine blk_put (cs := #[.bool false, .bool false, .int .i64 0, .int .i64 0, .slice none 0 0]) ?_ 0 _ rfl; (ya_); exact z0.out) hb); have n4_ := A_ (wT_ (by repeat (yab_)) hb); clear z6; clear z9; clear z; clear z0; clear HB; have z6 := n0_; have z9 := n1_; have z := n2_; have z0 := n3_; have HB := n4_; clear n0_ n1_ n2_ n3_ n4_; (try clear hb); (try clear hb2); (try clear hk); (try clear hi); have hcz28_0 : w27.cell? ⟨gb397, 0, none⟩ = some (.bool t390) := (bC_ z0.out 0).trans rfl; have hcz28_1 : w27.cell? ⟨gb397, 1, none⟩ = some (.bool true) := (bC_ z0.out 1).trans rfl; have hcz28_2 : w27.cell? ⟨gb397, 2, none⟩ = some (.int .i64 t392) := (bC_ z0.out 2).trans rfl; have hcz28_3 : w27.cell? ⟨gb397, 3, none⟩ = some (.int .i64 t393) := (bC_ z0.out 3).trans rfl; have hcz28_4 : w27.cell? ⟨gb397, 4, none⟩ = some (.slice Ao16 t394.length co16) := (bC_ z0.out 4).trans rfl; have hfz28_0 := bF_ z0.out 0; have hfz28_1 := bF_ z0.out 1; have hfz28_2 := bF_ z0.out 2; have hfz28_3 := bF_ z0.out 3; have hfz28_4 := bF_ z0.out 4) | (go_at_call 40; (with_reducible refine (impl_InOk.calls k t390 true t392 t393 _ _ t394 true _ ?side1 ?side2 A22.out).mono ?_); (yar_); (case side2 => exact (Kd.R_reads' z9.out).2.1); rintro e w29 ⟨rfl, hb⟩; have n0_ := A_ (Kd.Q_below (by (yaa_); exact z6.out) hb); have n1_ := A_ (rB_ (by (yah_); exact z9.out) hb); have n2_ := A_ (bB_ (g := gb388) (o := .cells #[.bool t381, .bool t382, .int .i64 t383, .int .i64 t384, .slice Ao10 t385.length co10] 47 (0, 0)) (by (ya_); exact z.out) hb); have n3_ := A_ (bB_ (g := gb397) (o := .cells #[.bool t390, .bool true, .int .i64 t392, .int .i64 t393, .slice Ao16 t394.length co16] 47 (0, 0)) (by (ya_); exact z0.out) hb); have n4_ := A_ (wT_ (by repeat (yab_)) hb); clear z6; clear z9; clear z; clear z0; clear HB; have z6 := n0_; have z9 := n1_; have z := n2_; have z0 := n3_; have HB := n4_; clear n0_ n1_ n2_ n3_ n4_; (try clear hb); (try clear hb2); (try clear hk); (try clear hi); have hcz30_0 : w29.cell? ⟨gb397, 0, none⟩ = some (.bool t390) := (bC_ z0.out 0).trans rfl; have hcz30_1 : w29.cell? ⟨gb397, 1, none⟩ = some (.bool true) := (bC_ z0.out 1).trans rfl; have hcz30_2 : w29.cell? ⟨gb397, 2, none⟩ = some (.int .i64 t392) := (bC_ z0.out 2).trans rfl; have hcz30_3 : w29.cell? ⟨gb397, 3, none⟩ = some (.int .i64 t393) := (bC_ z0.out 3).trans rfl; have hcz30_4 : w29.cell? ⟨gb397, 4, none⟩ = some (.slice Ao16 t394.length co16) := (bC_ z0.out 4).trans rfl; have hfz30_0 := bF_ z0.out 0; have hfz30_1 := bF_ z0.out 1; have hfz30_2 := bF_ z0.out 2; have hfz30_3 := bF_ z0.out 3; have hfz30_4 := bF_ z0.out 4))
      go_meet
      case rel => exact ⟨_, (true), (by first | rfl | (simp; done) | (simp [*]; done)), H', ⟨by first | omega | exact Nat.le_refl _⟩, ⟨by (yaa_); exact Kd.Q_mono z6.out (fun _ hk => hk.2)⟩, ⟨Kd.Q_of_R (by (yah_); exact rM_ z9.out (fun _ hk => hk.2))⟩, ⟨by (ya_); exact z.out⟩, ⟨by (ya_); exact z0.out⟩, ⟨by repeat (yab_)⟩⟩
     ·replace c24 := Bool.eq_false_iff.mpr c24
      subst c24
      have H1 : (if t390 = true then (laws_FnInOk.j0 k t389 true t381 t382 t383 t384 t385) else (laws_FnInOk.j0 k t389 ((t394.length : Int) != 2) t381 t382 t383 t384 t385)) = some r := by rw [if_neg (show ¬ (false = true) by decide)] at H; exact H
      clear H
      have H := H1
      clear H1
      by_cases c31 : t390 = true
      ·subst c31
       have H1 : (laws_FnInOk.j0 k t389 true t381 t382 t383 t384 t385) = some r := by rw [if_pos rfl] at H; exact H
       clear H
       have H := H1
       clear H1
       have H' := A_ H
       clear H
       have hnb32 := za.out
       have hnc32 := zi.out
       have hcz33_0 : w13.cell? ⟨gb388, 0, none⟩ = some (.bool t381) := (bC_ z.out 0).trans rfl
       have hcz33_1 : w13.cell? ⟨gb388, 1, none⟩ = some (.bool t382) := (bC_ z.out 1).trans rfl
       have hcz33_2 : w13.cell? ⟨gb388, 2, none⟩ = some (.int .i64 t383) := (bC_ z.out 2).trans rfl
       have hcz33_3 : w13.cell? ⟨gb388, 3, none⟩ = some (.int .i64 t384) := (bC_ z.out 3).trans rfl
       have hcz33_4 : w13.cell? ⟨gb388, 4, none⟩ = some (.slice Ao10 t385.length co10) := (bC_ z.out 4).trans rfl
       have hfz33_0 := bF_ z.out 0
       have hfz33_1 := bF_ z.out 1
       have hfz33_2 := bF_ z.out 2
       have hfz33_3 := bF_ z.out 3
       have hfz33_4 := bF_ z.out 4
       go_wp2_with (first | ((with_reducible refine gate_callee (f := 38) rfl ?_); refine goesL_ (some 18) rfl rfl Try.func38 (by kernel_rfl) rfl #[.agg #[.bool t381, .bool t382, .int .i64 t383, .int .i64 t384, .slice Ao10 t385.length co10]] rfl (yal_) ?_; (ybk_); (case side1 => refine (Kd.Q_reads' (e := 3) (base := w.heap.size) (ok := fun k_ => (True ∧ some k_ ≠ (.slice Ao16 t394.length co16 : Value).ownBlock)) (n := t385.length) (c := co10) ?_).2.2; exact (yay_)); (case side2 => exact (Kd.Q_reads' z6.out).2.1); rintro e w34 ⟨rfl, hb⟩; refine ⟨_, rfl, ?_⟩; have n0_ := A_ (Kd.Q_below (yay_) hb); have n1_ := A_ (rB_ (by (yah_); exact (rM_ (Kd.R_far (p := ⟨gb397, 4, none⟩) (Kd.R_far (p := ⟨gb397, 3, none⟩) (Kd.R_far (p := ⟨gb397, 2, none⟩) (Kd.R_far (p := ⟨gb397, 1, none⟩) (Kd.R_far (p := ⟨gb397, 0, none⟩) (Kd.R_types z9.out z0.out (by decide)) (fun _ hk => hk.2) (.bool true)) (fun _ hk => hk.2) (.bool false)) (fun _ hk => hk.2) (.int .i64 t392)) (fun _ hk => hk.2) (.int .i64 t393)) (fun _ hk => hk.2) (.slice Ao16 t394.length co16)) (fun _ h_ => h_.1))) hb); have n2_ := A_ (bB_ (g := gb388) (o := .cells #[.bool t381, .bool t382, .int .i64 t383, .int .i64 t384, .slice Ao10 t385.length co10] 47 (0, 0)) (yam_) hb); have n3_ := A_ (bB_ (g := gb397) (o := .cells #[.bool true, .bool false, .int .i64 t392, .int .i64 t393, .slice Ao16 t394.length co16] 47 (0, 0)) (by (ya_); refine blk_put (cs := #[.bool true, .bool false, .int .i64 t392, .int .i64 t393, .slice none 0 0]) ?_ 4 _ rfl; (ya_); refine blk_put (cs := #[.bool true, .bool false, .int .i64 t392, .int .i64 0, .slice none 0 0]) ?_ 3 _ rfl; (ya_); refine blk_put (cs := #[.bool true, .bool false, .int .i64 0, .int .i64 0, .slice none 0 0]) ?_ 2 _ rfl; (ya_); refine blk_put (cs := #[.bool true, .bool false, .int .i64 0, .int .i64 0, .slice none 0 0]) ?_ 1 _ rfl; (ya_); refine blk_put (cs := #[.bool false, .bool false, .int .i64 0, .int .i64 0, .slice none 0 0]) ?_ 0 _ rfl; (ya_); exact z0.out) hb); have n4_ := A_ (wT_ (by repeat (yab_)) hb); clear z6; clear z9; clear z; clear z0; clear HB; have z6 := n0_; have z9 := n1_; have z := n2_; have z0 := n3_; have HB := n4_; clear n0_ n1_ n2_ n3_ n4_; (try clear hb); (try clear hb2); (try clear hk); (try clear hi); have hcz35_0 : w34.cell? ⟨gb397, 0, none⟩ = some (.bool true) := (bC_ z0.out 0).trans rfl; have hcz35_1 : w34.cell? ⟨gb397, 1, none⟩ = some (.bool false) := (bC_ z0.out 1).trans rfl; have hcz35_2 : w34.cell? ⟨gb397, 2, none⟩ = some (.int .i64 t392) := (bC_ z0.out 2).trans rfl; have hcz35_3 : w34.cell? ⟨gb397, 3, none⟩ = some (.int .i64 t393) := (bC_ z0.out 3).trans rfl; have hcz35_4 : w34.cell? ⟨gb397, 4, none⟩ = some (.slice Ao16 t394.length co16) := (bC_ z0.out 4).trans rfl; have hfz35_0 := bF_ z0.out 0; have hfz35_1 := bF_ z0.out 1; have hfz35_2 := bF_ z0.out 2; have hfz35_3 := bF_ z0.out 3; have hfz35_4 := bF_ z0.out 4) | (go_at_call 40; (with_reducible refine (impl_InOk.calls k true false t392 t393 _ _ t394 true _ ?side1 ?side2 A22.out).mono ?_); (yar_); (case side2 => exact (Kd.R_reads' z9.out).2.1); rintro e w36 ⟨rfl, hb⟩; have n0_ := A_ (Kd.Q_below (by (yaa_); exact z6.out) hb); have n1_ := A_ (rB_ (by (yah_); exact z9.out) hb); have n2_ := A_ (bB_ (g := gb388) (o := .cells #[.bool t381, .bool t382, .int .i64 t383, .int .i64 t384, .slice Ao10 t385.length co10] 47 (0, 0)) (by (ya_); exact z.out) hb); have n3_ := A_ (bB_ (g := gb397) (o := .cells #[.bool true, .bool false, .int .i64 t392, .int .i64 t393, .slice Ao16 t394.length co16] 47 (0, 0)) (by (ya_); exact z0.out) hb); have n4_ := A_ (wT_ (by repeat (yab_)) hb); clear z6; clear z9; clear z; clear z0; clear HB; have z6 := n0_; have z9 := n1_; have z := n2_; have z0 := n3_; have HB := n4_; clear n0_ n1_ n2_ n3_ n4_; (try clear hb); (try clear hb2); (try clear hk); (try clear hi); have hcz37_0 : w36.cell? ⟨gb397, 0, none⟩ = some (.bool true) := (bC_ z0.out 0).trans rfl; have hcz37_1 : w36.cell? ⟨gb397, 1, none⟩ = some (.bool false) := (bC_ z0.out 1).trans rfl; have hcz37_2 : w36.cell? ⟨gb397, 2, none⟩ = some (.int .i64 t392) := (bC_ z0.out 2).trans rfl; have hcz37_3 : w36.cell? ⟨gb397, 3, none⟩ = some (.int .i64 t393) := (bC_ z0.out 3).trans rfl; have hcz37_4 : w36.cell? ⟨gb397, 4, none⟩ = some (.slice Ao16 t394.length co16) := (bC_ z0.out 4).trans rfl; have hfz37_0 := bF_ z0.out 0; have hfz37_1 := bF_ z0.out 1; have hfz37_2 := bF_ z0.out 2; have hfz37_3 := bF_ z0.out 3; have hfz37_4 := bF_ z0.out 4))
       go_meet
       case rel => exact ⟨_, (true), (by first | rfl | (simp; done) | (simp [*]; done)), H', ⟨by first | omega | exact Nat.le_refl _⟩, ⟨by (yaa_); exact Kd.Q_mono z6.out (fun _ hk => hk.2)⟩, ⟨Kd.Q_of_R (by (yah_); exact rM_ z9.out (fun _ hk => hk.2))⟩, ⟨by (ya_); exact z.out⟩, ⟨by (ya_); exact z0.out⟩, ⟨by repeat (yab_)⟩⟩
      ·replace c31 := Bool.eq_false_iff.mpr c31
       subst c31
       have H1 : (laws_FnInOk.j0 k t389 ((t394.length : Int) != 2) t381 t382 t383 t384 t385) = some r := by rw [if_neg (show ¬ (false = true) by decide)] at H; exact H
       clear H
       have H := H1
       clear H1
       have H' := A_ H
       clear H
       have hnb38 := za.out
       have hnc38 := zi.out
       have hcz39_0 : w13.cell? ⟨gb388, 0, none⟩ = some (.bool t381) := (bC_ z.out 0).trans rfl
       have hcz39_1 : w13.cell? ⟨gb388, 1, none⟩ = some (.bool t382) := (bC_ z.out 1).trans rfl
       have hcz39_2 : w13.cell? ⟨gb388, 2, none⟩ = some (.int .i64 t383) := (bC_ z.out 2).trans rfl
       have hcz39_3 : w13.cell? ⟨gb388, 3, none⟩ = some (.int .i64 t384) := (bC_ z.out 3).trans rfl
       have hcz39_4 : w13.cell? ⟨gb388, 4, none⟩ = some (.slice Ao10 t385.length co10) := (bC_ z.out 4).trans rfl
       have hfz39_0 := bF_ z.out 0
       have hfz39_1 := bF_ z.out 1
       have hfz39_2 := bF_ z.out 2
       have hfz39_3 := bF_ z.out 3
       have hfz39_4 := bF_ z.out 4
       go_wp2_with (first | ((with_reducible refine gate_callee (f := 38) rfl ?_); refine goesL_ (some 18) rfl rfl Try.func38 (by kernel_rfl) rfl #[.agg #[.bool t381, .bool t382, .int .i64 t383, .int .i64 t384, .slice Ao10 t385.length co10]] rfl (yal_) ?_; (ybk_); (case side1 => refine (Kd.Q_reads' (e := 3) (base := w.heap.size) (ok := fun k_ => (True ∧ some k_ ≠ (.slice Ao16 t394.length co16 : Value).ownBlock)) (n := t385.length) (c := co10) ?_).2.2; exact (yav_)); (case side2 => exact (Kd.Q_reads' z6.out).2.1); rintro e w40 ⟨rfl, hb⟩; refine ⟨_, rfl, ?_⟩; have n0_ := A_ (Kd.Q_below (yav_) hb); have n1_ := A_ (rB_ (by (yah_); exact (rM_ (Kd.R_far (p := ⟨gb397, 4, none⟩) (Kd.R_far (p := ⟨gb397, 3, none⟩) (Kd.R_far (p := ⟨gb397, 2, none⟩) (Kd.R_far (p := ⟨gb397, 1, none⟩) (Kd.R_far (p := ⟨gb397, 0, none⟩) (Kd.R_types z9.out z0.out (by decide)) (fun _ hk => hk.2) (.bool false)) (fun _ hk => hk.2) (.bool false)) (fun _ hk => hk.2) (.int .i64 t392)) (fun _ hk => hk.2) (.int .i64 t393)) (fun _ hk => hk.2) (.slice Ao16 t394.length co16)) (fun _ h_ => h_.1))) hb); have n2_ := A_ (bB_ (g := gb388) (o := .cells #[.bool t381, .bool t382, .int .i64 t383, .int .i64 t384, .slice Ao10 t385.length co10] 47 (0, 0)) (yam_) hb); have n3_ := A_ (bB_ (g := gb397) (o := .cells #[.bool false, .bool false, .int .i64 t392, .int .i64 t393, .slice Ao16 t394.length co16] 47 (0, 0)) (by (ya_); refine blk_put (cs := #[.bool false, .bool false, .int .i64 t392, .int .i64 t393, .slice none 0 0]) ?_ 4 _ rfl; (ya_); refine blk_put (cs := #[.bool false, .bool false, .int .i64 t392, .int .i64 0, .slice none 0 0]) ?_ 3 _ rfl; (ya_); refine blk_put (cs := #[.bool false, .bool false, .int .i64 0, .int .i64 0, .slice none 0 0]) ?_ 2 _ rfl; (ya_); refine blk_put (cs := #[.bool false, .bool false, .int .i64 0, .int .i64 0, .slice none 0 0]) ?_ 1 _ rfl; (ya_); refine blk_put (cs := #[.bool false, .bool false, .int .i64 0, .int .i64 0, .slice none 0 0]) ?_ 0 _ rfl; (ya_); exact z0.out) hb); have n4_ := A_ (wT_ (by repeat (yab_)) hb); clear z6; clear z9; clear z; clear z0; clear HB; have z6 := n0_; have z9 := n1_; have z := n2_; have z0 := n3_; have HB := n4_; clear n0_ n1_ n2_ n3_ n4_; (try clear hb); (try clear hb2); (try clear hk); (try clear hi); have hcz41_0 : w40.cell? ⟨gb397, 0, none⟩ = some (.bool false) := (bC_ z0.out 0).trans rfl; have hcz41_1 : w40.cell? ⟨gb397, 1, none⟩ = some (.bool false) := (bC_ z0.out 1).trans rfl; have hcz41_2 : w40.cell? ⟨gb397, 2, none⟩ = some (.int .i64 t392) := (bC_ z0.out 2).trans rfl; have hcz41_3 : w40.cell? ⟨gb397, 3, none⟩ = some (.int .i64 t393) := (bC_ z0.out 3).trans rfl; have hcz41_4 : w40.cell? ⟨gb397, 4, none⟩ = some (.slice Ao16 t394.length co16) := (bC_ z0.out 4).trans rfl; have hfz41_0 := bF_ z0.out 0; have hfz41_1 := bF_ z0.out 1; have hfz41_2 := bF_ z0.out 2; have hfz41_3 := bF_ z0.out 3; have hfz41_4 := bF_ z0.out 4) | (go_at_call 40; (with_reducible refine (impl_InOk.calls k false false t392 t393 _ _ t394 true _ ?side1 ?side2 A22.out).mono ?_); (yar_); (case side2 => exact (Kd.R_reads' z9.out).2.1); rintro e w42 ⟨rfl, hb⟩; have n0_ := A_ (Kd.Q_below (by (yaa_); exact z6.out) hb); have n1_ := A_ (rB_ (by (yah_); exact z9.out) hb); have n2_ := A_ (bB_ (g := gb388) (o := .cells #[.bool t381, .bool t382, .int .i64 t383, .int .i64 t384, .slice Ao10 t385.length co10] 47 (0, 0)) (by (ya_); exact z.out) hb); have n3_ := A_ (bB_ (g := gb397) (o := .cells #[.bool false, .bool false, .int .i64 t392, .int .i64 t393, .slice Ao16 t394.length co16] 47 (0, 0)) (by (ya_); exact z0.out) hb); have n4_ := A_ (wT_ (by repeat (yab_)) hb); clear z6; clear z9; clear z; clear z0; clear HB; have z6 := n0_; have z9 := n1_; have z := n2_; have z0 := n3_; have HB := n4_; clear n0_ n1_ n2_ n3_ n4_; (try clear hb); (try clear hb2); (try clear hk); (try clear hi); have hcz43_0 : w42.cell? ⟨gb397, 0, none⟩ = some (.bool false) := (bC_ z0.out 0).trans rfl; have hcz43_1 : w42.cell? ⟨gb397, 1, none⟩ = some (.bool false) := (bC_ z0.out 1).trans rfl; have hcz43_2 : w42.cell? ⟨gb397, 2, none⟩ = some (.int .i64 t392) := (bC_ z0.out 2).trans rfl; have hcz43_3 : w42.cell? ⟨gb397, 3, none⟩ = some (.int .i64 t393) := (bC_ z0.out 3).trans rfl; have hcz43_4 : w42.cell? ⟨gb397, 4, none⟩ = some (.slice Ao16 t394.length co16) := (bC_ z0.out 4).trans rfl; have hfz43_0 := bF_ z0.out 0; have hfz43_1 := bF_ z0.out 1; have hfz43_2 := bF_ z0.out 2; have hfz43_3 := bF_ z0.out 3; have hfz43_4 := bF_ z0.out 4))
       go_meet
       case rel => exact ⟨_, (((t394.length : Int) != 2)), (by first | rfl | (simp; done) | (simp [*]; done)), H', ⟨by first | omega | exact Nat.le_refl _⟩, ⟨by (yaa_); exact Kd.Q_mono z6.out (fun _ hk => hk.2)⟩, ⟨Kd.Q_of_R (by (yah_); exact rM_ z9.out (fun _ hk => hk.2))⟩, ⟨by (ya_); exact z.out⟩, ⟨by (ya_); exact z0.out⟩, ⟨by repeat (yab_)⟩⟩
    ·replace c23 := Bool.eq_false_iff.mpr c23
     subst c23
     have H1 : (laws_FnInOk.j0 k t389 true t381 t382 t383 t384 t385) = some r := by rw [if_neg (show ¬ (false = true) by decide)] at H; exact H
     clear H
     have H := H1
     clear H1
     have H' := A_ H
     clear H
     have hnb44 := za.out
     have hnc44 := zi.out
     have hcz45_0 : w13.cell? ⟨gb388, 0, none⟩ = some (.bool t381) := (bC_ z.out 0).trans rfl
     have hcz45_1 : w13.cell? ⟨gb388, 1, none⟩ = some (.bool t382) := (bC_ z.out 1).trans rfl
     have hcz45_2 : w13.cell? ⟨gb388, 2, none⟩ = some (.int .i64 t383) := (bC_ z.out 2).trans rfl
     have hcz45_3 : w13.cell? ⟨gb388, 3, none⟩ = some (.int .i64 t384) := (bC_ z.out 3).trans rfl
     have hcz45_4 : w13.cell? ⟨gb388, 4, none⟩ = some (.slice Ao10 t385.length co10) := (bC_ z.out 4).trans rfl
     have hfz45_0 := bF_ z.out 0
     have hfz45_1 := bF_ z.out 1
     have hfz45_2 := bF_ z.out 2
     have hfz45_3 := bF_ z.out 3
     have hfz45_4 := bF_ z.out 4
     go_wp2_with (first | ((with_reducible refine gate_callee (f := 38) rfl ?_); refine goesL_ (some 18) rfl rfl Try.func38 (by kernel_rfl) rfl #[.agg #[.bool t381, .bool t382, .int .i64 t383, .int .i64 t384, .slice Ao10 t385.length co10]] rfl (yal_) ?_; (ybk_); (case side1 => refine (Kd.Q_reads' (e := 3) (base := w.heap.size) (ok := fun k_ => (True ∧ some k_ ≠ (.slice Ao16 t394.length co16 : Value).ownBlock)) (n := t385.length) (c := co10) ?_).2.2; exact (yai_)); (case side2 => exact (Kd.Q_reads' z6.out).2.1); rintro e w46 ⟨rfl, hb⟩; refine ⟨_, rfl, ?_⟩; have n0_ := A_ (Kd.Q_below (yai_) hb); have n1_ := A_ (rB_ (ybc_) hb); have n2_ := A_ (bB_ (g := gb388) (o := .cells #[.bool t381, .bool t382, .int .i64 t383, .int .i64 t384, .slice Ao10 t385.length co10] 47 (0, 0)) (yam_) hb); have n3_ := A_ (bB_ (g := gb397) (o := .cells #[.bool t390, .bool t391, .int .i64 t392, .int .i64 t393, .slice Ao16 t394.length co16] 47 (0, 0)) (yap_) hb); have n4_ := A_ (wT_ (by repeat (yab_)) hb); clear z6; clear z9; clear z; clear z0; clear HB; have z6 := n0_; have z9 := n1_; have z := n2_; have z0 := n3_; have HB := n4_; clear n0_ n1_ n2_ n3_ n4_; (try clear hb); (try clear hb2); (try clear hk); (try clear hi); have hcz47_0 : w46.cell? ⟨gb397, 0, none⟩ = some (.bool t390) := (bC_ z0.out 0).trans rfl; have hcz47_1 : w46.cell? ⟨gb397, 1, none⟩ = some (.bool t391) := (bC_ z0.out 1).trans rfl; have hcz47_2 : w46.cell? ⟨gb397, 2, none⟩ = some (.int .i64 t392) := (bC_ z0.out 2).trans rfl; have hcz47_3 : w46.cell? ⟨gb397, 3, none⟩ = some (.int .i64 t393) := (bC_ z0.out 3).trans rfl; have hcz47_4 : w46.cell? ⟨gb397, 4, none⟩ = some (.slice Ao16 t394.length co16) := (bC_ z0.out 4).trans rfl; have hfz47_0 := bF_ z0.out 0; have hfz47_1 := bF_ z0.out 1; have hfz47_2 := bF_ z0.out 2; have hfz47_3 := bF_ z0.out 3; have hfz47_4 := bF_ z0.out 4) | (go_at_call 40; (with_reducible refine (impl_InOk.calls k t390 t391 t392 t393 _ _ t394 false _ ?side1 ?side2 A22.out).mono ?_); (yar_); (case side2 => exact (Kd.R_reads' z9.out).2.1); rintro e w48 ⟨rfl, hb⟩; have n0_ := A_ (Kd.Q_below (by (yaa_); exact z6.out) hb); have n1_ := A_ (rB_ (by (yah_); exact z9.out) hb); have n2_ := A_ (bB_ (g := gb388) (o := .cells #[.bool t381, .bool t382, .int .i64 t383, .int .i64 t384, .slice Ao10 t385.length co10] 47 (0, 0)) (by (ya_); exact z.out) hb); have n3_ := A_ (bB_ (g := gb397) (o := .cells #[.bool t390, .bool t391, .int .i64 t392, .int .i64 t393, .slice Ao16 t394.length co16] 47 (0, 0)) (by (ya_); exact z0.out) hb); have n4_ := A_ (wT_ (by repeat (yab_)) hb); clear z6; clear z9; clear z; clear z0; clear HB; have z6 := n0_; have z9 := n1_; have z := n2_; have z0 := n3_; have HB := n4_; clear n0_ n1_ n2_ n3_ n4_; (try clear hb); (try clear hb2); (try clear hk); (try clear hi)))
     go_meet
     case rel => exact ⟨_, (true), (by first | rfl | (simp; done) | (simp [*]; done)), H', ⟨by first | omega | exact Nat.le_refl _⟩, ⟨by (yaa_); exact Kd.Q_mono z6.out (fun _ hk => hk.2)⟩, ⟨Kd.Q_of_R (by (yah_); exact rM_ z9.out (fun _ hk => hk.2))⟩, ⟨by (ya_); exact z.out⟩, ⟨by (ya_); exact z0.out⟩, ⟨by repeat (yab_)⟩⟩
  case rest =>
   clear HC6
   try clear c1
   try clear c2
   try clear c2b0
   try clear c2b1
   try clear p2
   try clear c3
   try clear c4
   try clear c10
   try clear c14
   try clear c18
   try clear c18b0
   try clear c18b1
   try clear c18b2
   try clear c19
   try clear c23
   try clear c24
   try clear c25
   try clear c31
   try clear c32
   try clear c33
   try clear c38
   try clear c40
   try clear c41
   try clear c44
   try clear hcz15_0
   try clear hcz15_1
   try clear hcz15_2
   try clear hcz15_3
   try clear hcz15_4
   try clear hcz20_0
   try clear hcz20_1
   try clear hcz20_2
   try clear hcz20_3
   try clear hcz20_4
   try clear hcz26_0
   try clear hcz26_1
   try clear hcz26_2
   try clear hcz26_3
   try clear hcz26_4
   try clear hcz28_0
   try clear hcz28_1
   try clear hcz28_2
   try clear hcz28_3
   try clear hcz28_4
   try clear hcz30_0
   try clear hcz30_1
   try clear hcz30_2
   try clear hcz30_3
   try clear hcz30_4
   try clear hcz33_0
   try clear hcz33_1
   try clear hcz33_2
   try clear hcz33_3
   try clear hcz33_4
   try clear hcz35_0
   try clear hcz35_1
   try clear hcz35_2
   try clear hcz35_3
   try clear hcz35_4
   try clear hcz37_0
   try clear hcz37_1
   try clear hcz37_2
   try clear hcz37_3
   try clear hcz37_4
   try clear hcz39_0
   try clear hcz39_1
   try clear hcz39_2
   try clear hcz39_3
   try clear hcz39_4
   try clear hcz41_0
   try clear hcz41_1
   try clear hcz41_2
   try clear hcz41_3
   try clear hcz41_4
   try clear hcz43_0
   try clear hcz43_1
   try clear hcz43_2
   try clear hcz43_3
   try clear hcz43_4
   try clear hcz45_0
   try clear hcz45_1
   try clear hcz45_2
   try clear hcz45_3
   try clear hcz45_4
   try clear hcz47_0
   try clear hcz47_1
   try clear hcz47_2
   try clear hcz47_3
   try clear hcz47_4
   try clear hcz9_0
   try clear hcz9_1
   try clear hcz9_2
   try clear hcz9_3
   try clear hcz9_4
   try clear hfz15_0
   try clear hfz15_1
   try clear hfz15_2
   try clear hfz15_3
   try clear hfz15_4
   try clear hfz20_0
   try clear hfz20_1
   try clear hfz20_2
   try clear hfz20_3
   try clear hfz20_4
   try clear hfz26_0
   try clear hfz26_1
   try clear hfz26_2
   try clear hfz26_3
   try clear hfz26_4
   try clear hfz28_0
   try clear hfz28_1
   try clear hfz28_2
   try clear hfz28_3
   try clear hfz28_4
   try clear hfz30_0
   try clear hfz30_1
   try clear hfz30_2
   try clear hfz30_3
   try clear hfz30_4
   try clear hfz33_0
   try clear hfz33_1
   try clear hfz33_2
   try clear hfz33_3
   try clear hfz33_4
   try clear hfz35_0
   try clear hfz35_1
   try clear hfz35_2
   try clear hfz35_3
   try clear hfz35_4
   try clear hfz37_0
   try clear hfz37_1
   try clear hfz37_2
   try clear hfz37_3
   try clear hfz37_4
   try clear hfz39_0
   try clear hfz39_1
   try clear hfz39_2
   try clear hfz39_3
   try clear hfz39_4
   try clear hfz41_0
   try clear hfz41_1
   try clear hfz41_2
   try clear hfz41_3
   try clear hfz41_4
   try clear hfz43_0
   try clear hfz43_1
   try clear hfz43_2
   try clear hfz43_3
   try clear hfz43_4
   try clear hfz45_0
   try clear hfz45_1
   try clear hfz45_2
   try clear hfz45_3
   try clear hfz45_4
   try clear hfz47_0
   try clear hfz47_1
   try clear hfz47_2
   try clear hfz47_3
   try clear hfz47_4
   try clear hfz9_0
   try clear hfz9_1
   try clear hfz9_2
   try clear hfz9_3
   try clear hfz9_4
   obtain ⟨kq, zr, rfl, HA, HJ5, z3, z4, z, z0, HB⟩ := hcut
   cases kq with
   | zero => exact absurd HA.out (by simp [laws_FnInOk.j0])
   | succ kj5 =>
    have H := HA.out
    clear HA
    simp only [laws_FnInOk.j0] at H
    by_cases c49 : zr = true
    ·subst c49
     have H1 : (some false) = some r := by rw [if_pos rfl] at H; exact H
     clear H
     have H := H1
     clear H1
     exact absurd (HR_.out.symm.trans (Option.some.inj H).symm) (by decide)
    ·replace c49 := Bool.eq_false_iff.mpr c49
     subst c49
     have H1 : (if t389 = true then ((impl_InOk.f kj5 t381 t382 t383 t384 (([0, 0, 0] : List Int))).bind fun t405 => (if t405 = true then (some false) else (if t382 = true then ((impl_InOk.f kj5 t381 false t383 t384 t385).bind fun t406 => (if t383 = 0 then (some (t406 == (t384 == 0))) else (some (t406 == false)))) else (if t383 = 0 then (if t384 = 0 then ((impl_InOk.f kj5 t381 false t383 t384 t385).bind fun t407 => (some (t407 == (t384 == 0)))) else (some false)) else (some false))))) else (some true)) = some r := by rw [if_neg (show ¬ (false = true) by decide)] at H; exact H
     clear H
     have H := H1
     clear H1
     by_cases c50 : t389 = true
     ·subst c50
      have H1 : ((impl_InOk.f kj5 t381 t382 t383 t384 (([0, 0, 0] : List Int))).bind fun t405 => (if t405 = true then (some false) else (if t382 = true then ((impl_InOk.f kj5 t381 false t383 t384 t385).bind fun t406 => (if t383 = 0 then (some (t406 == (t384 == 0))) else (some (t406 == false)))) else (if t383 = 0 then (if t384 = 0 then ((impl_InOk.f kj5 t381 false t383 t384 t385).bind fun t407 => (some (t407 == (t384 == 0)))) else (some false)) else (some false))))) = some r := by rw [if_pos rfl] at H; exact H
      clear H
      have H := H1
      clear H1
      obtain ⟨y401, hy401⟩ : ∃ y_ : List Int, y_ = (([0, 0, 0] : List Int)) := ⟨_, rfl⟩
      replace H : ((impl_InOk.f kj5 t381 t382 t383 t384 y401).bind fun t405 => (if t405 = true then (some false) else (if t382 = true then ((impl_InOk.f kj5 t381 false t383 t384 t385).bind fun t406 => (if t383 = 0 then (some (t406 == (t384 == 0))) else (some (t406 == false)))) else (if t383 = 0 then (if t384 = 0 then ((impl_InOk.f kj5 t381 false t383 t384 t385).bind fun t407 => (some (t407 == (t384 == 0)))) else (some false)) else (some false))))) = some r := by first | (rw [hy401]; with_reducible exact H) | (have H2_ := (Option.bind_some _ _).symm.trans H; rw [hy401]; with_reducible exact H2_) | (have H2_ := (Option.bind_some _ _).symm.trans H; with_reducible exact H2_) | with_reducible exact H | (rw [hy401]; exact H) | exact H
      have zk := A_ hy401
      clear hy401
      replace H := Option.bind_eq_some_iff.mp H
      obtain ⟨t405, A510, H⟩ := H
      replace H : (if t405 = true then (some false) else (if t382 = true then ((impl_InOk.f kj5 t381 false t383 t384 t385).bind fun t406 => (if t383 = 0 then (some (t406 == (t384 == 0))) else (some (t406 == false)))) else (if t383 = 0 then (if t384 = 0 then ((impl_InOk.f kj5 t381 false t383 t384 t385).bind fun t407 => (some (t407 == (t384 == 0)))) else (some false)) else (some false)))) = some r := H
      have A51 := A_ A510
      clear A510
      by_cases c52 : t405 = true
      ·subst c52
       have H1 : (some false) = some r := by rw [if_pos rfl] at H; exact H
       clear H
       have H := H1
       clear H1
       exact absurd (HR_.out.symm.trans (Option.some.inj H).symm) (by decide)
      ·replace c52 := Bool.eq_false_iff.mpr c52
       subst c52
       have H1 : (if t382 = true then ((impl_InOk.f kj5 t381 false t383 t384 t385).bind fun t406 => (if t383 = 0 then (some (t406 == (t384 == 0))) else (some (t406 == false)))) else (if t383 = 0 then (if t384 = 0 then ((impl_InOk.f kj5 t381 false t383 t384 t385).bind fun t407 => (some (t407 == (t384 == 0)))) else (some false)) else (some false))) = some r := by rw [if_neg (show ¬ (false = true) by decide)] at H; exact H
       clear H
       have H := H1
       clear H1
       by_cases c72 : t382 = true
       ·subst c72
        have H1 : ((impl_InOk.f kj5 t381 false t383 t384 t385).bind fun t406 => (if t383 = 0 then (some (t406 == (t384 == 0))) else (some (t406 == false)))) = some r := by rw [if_pos rfl] at H; exact H
        clear H
        have H := H1
        clear H1
        replace H := Option.bind_eq_some_iff.mp H
        obtain ⟨t406, A730, H⟩ := H
        replace H : (if t383 = 0 then (some (t406 == (t384 == 0))) else (some (t406 == false))) = some r := H
        have A73 := A_ A730
        clear A730
        by_cases c74 : t383 = 0
        ·rw [if_pos c74] at H
         have c74b0 : (t383 == 0) = true := beq_iff_eq.mpr c74
         have c74b1 : (t383 != 0) = false := bne_eq_false_iff_eq.mpr c74
         clear c74
         obtain rfl := Option.some.inj H
         first
         | (exact absurd HR_.out (by decide))
         | (
           have hnb75 := za.out
           have hnc75 := zi.out
           have hcz76_0 : wc.cell? ⟨gb388, 0, none⟩ = some (.bool t381) := (bC_ z.out 0).trans rfl
           have hcz76_1 : wc.cell? ⟨gb388, 1, none⟩ = some (.bool true) := (bC_ z.out 1).trans rfl
           have hcz76_2 : wc.cell? ⟨gb388, 2, none⟩ = some (.int .i64 t383) := (bC_ z.out 2).trans rfl
           have hcz76_3 : wc.cell? ⟨gb388, 3, none⟩ = some (.int .i64 t384) := (bC_ z.out 3).trans rfl
           have hcz76_4 : wc.cell? ⟨gb388, 4, none⟩ = some (.slice Ao10 t385.length co10) := (bC_ z.out 4).trans rfl
           have hfz76_0 := bF_ z.out 0
           have hfz76_1 := bF_ z.out 1
           have hfz76_2 := bF_ z.out 2
           have hfz76_3 := bF_ z.out 3
           have hfz76_4 := bF_ z.out 4
           try go_wp2_with (first | ((with_reducible refine gate_dst (N := 6) rfl ?_); (ybd_); refine box_event ?hg (N := 6) ?hd (cs := #[.bool false, .bool false, .int .i64 0, .int .i64 0, .slice none 0 0]) (t := 47) ?hr ?_; (case hd => rfl); (case hg => rfl); (yas_); intro gb400 hg w77 hbox hb; have n0_ := A_ (Kd.Q_below (by (yaa_); exact z3.out) hb); have n1_ := A_ (Kd.Q_below (by (yaa_); exact z4.out) hb); have n2_ := A_ (bB_ (g := gb388) (o := .cells #[.bool t381, .bool true, .int .i64 t383, .int .i64 t384, .slice Ao10 t385.length co10] 47 (0, 0)) (by (ya_); exact z.out) hb); have n3_ := A_ (bB_ (g := gb397) (o := .cells #[.bool t390, .bool t391, .int .i64 t392, .int .i64 t393, .slice Ao16 t394.length co16] 47 (0, 0)) (by (ya_); exact z0.out) hb); have n4_ := A_ (wT_ (by repeat (yab_)) hb); have n5_ := A_ (hbox); have n6_ := A_ ((by rw [hg]; exact (wZ_ (by repeat (yab_))) : w.heap.size ≤ gb400)); have n7_ := A_ ((by rw [hg]; exact (wZ_ (by repeat (yab_))) : w.heap.size ≤ gb400)); have n8_ := A_ ((by rw [hg]; exact Nat.ne_of_lt (blk_lt (g := gb388) (o := .cells #[.bool t381, .bool true, .int .i64 t383, .int .i64 t384, .slice Ao10 t385.length co10] 47 (0, 0)) (by (ya_); exact z.out)) : gb388 ≠ gb400)); have n9_ := A_ ((by rw [hg]; exact Nat.ne_of_gt (blk_lt (g := gb388) (o := .cells #[.bool t381, .bool true, .int .i64 t383, .int .i64 t384, .slice Ao10 t385.length co10] 47 (0, 0)) (by (ya_); exact z.out)) : gb400 ≠ gb388)); have n10_ := A_ ((ybp_)); have n11_ := A_ ((ybq_)); clear z3; clear z4; clear z; clear z0; clear HB; have z3 := n0_; have z4 := n1_; have z := n2_; have z0 := n3_; have HB := n4_; have z1 := n5_; have zv := n6_; have zb := n7_; have zc := n8_; have zm := n9_; have zd := n10_; have zn := n11_; clear n0_ n1_ n2_ n3_ n4_ n5_ n6_ n7_ n8_ n9_ n10_ n11_; clear hb hbox hg; have hnb78 := zm.out; have hnc78 := zc.out; have hnb79 := zn.out; have hnc79 := zd.out; have hcz80_0 : w77.cell? ⟨gb400, 0, none⟩ = some (.bool false) := (bC_ z1.out 0).trans rfl; have hcz80_1 : w77.cell? ⟨gb400, 1, none⟩ = some (.bool false) := (bC_ z1.out 1).trans rfl; have hcz80_2 : w77.cell? ⟨gb400, 2, none⟩ = some (.int .i64 0) := (bC_ z1.out 2).trans rfl; have hcz80_3 : w77.cell? ⟨gb400, 3, none⟩ = some (.int .i64 0) := (bC_ z1.out 3).trans rfl; have hcz80_4 : w77.cell? ⟨gb400, 4, none⟩ = some (.slice none 0 0) := (bC_ z1.out 4).trans rfl; have hfz80_0 := bF_ z1.out 0; have hfz80_1 := bF_ z1.out 1; have hfz80_2 := bF_ z1.out 2; have hfz80_3 := bF_ z1.out 3; have hfz80_4 := bF_ z1.out 4) | ((with_reducible refine gate_dst (N := 42) rfl ?_); (ybd_); refine Kd.R_lit (Kd.int .i64) _ 3 ?hg (N := 42) ?hd (xs := ([0, 0, 0] : List Int)) (inner := [.int .i64 0, .int .i64 0, .int .i64 0]) (ok := fun _ => True) (okp := fun _ => True) ?hr ?hp (fun _ hk => hk) trivial (Below.refl _ _) (Nat.le_refl _) (by simp) ?_; (case hd => rfl); (case hg => rfl); (yas_); (yaw_); intro v402 w81 ho82 hb hg_ hnew_; clear hg_ hnew_; (first | rw [← zk.out] at ho82 | (simp only [Int.reduceToNat] at ho82; rw [← zk.out] at ho82)); have n0_ := A_ (Kd.Q_elder' (yaj_) (Kd.R_base ho82) hb); have n1_ := A_ (Kd.Q_elder' (yak_) (Kd.R_base ho82) hb); have n2_ := A_ (Kd.R_lower (Kd.R_new' (Kd.R_new' ho82 (Kd.Q_lt (yaj_))) (Kd.Q_lt (yak_))) (wZ_ (yac_))); have n3_ := A_ (bB_ (g := gb388) (o := .cells #[.bool t381, .bool true, .int .i64 t383, .int .i64 t384, .slice Ao10 t385.length co10] 47 (0, 0)) (by (ya_); refine blk_far ?_ zc.out _; (ya_); refine blk_far ?_ zc.out _; (ya_); refine blk_far ?_ zc.out _; (ya_); refine blk_far ?_ zc.out _; (ya_); refine blk_far ?_ zc.out _; (ya_); exact z.out) hb); have n4_ := A_ (bB_ (g := gb397) (o := .cells #[.bool t390, .bool t391, .int .i64 t392, .int .i64 t393, .slice Ao16 t394.length co16] 47 (0, 0)) (by (ya_); refine blk_far ?_ zd.out _; (ya_); refine blk_far ?_ zd.out _; (ya_); refine blk_far ?_ zd.out _; (ya_); refine blk_far ?_ zd.out _; (ya_); refine blk_far ?_ zd.out _; (ya_); exact z0.out) hb); have n5_ := A_ (bB_ (g := gb400) (o := .cells #[.bool t381, .bool true, .int .i64 t383, .int .i64 t384, .slice Ao10 t385.length co10] 47 (0, 0)) (yaq_) hb); have n6_ := A_ (wT_ (yac_) hb); clear z3; clear z4; clear z; clear z0; clear z1; clear HB; have z3 := n0_; have z4 := n1_; have z5 := n2_; have z := n3_; have z0 := n4_; have z1 := n5_; have HB := n6_; clear n0_ n1_ n2_ n3_ n4_ n5_ n6_; clear hb ho82; obtain ⟨Ao83, co83, eo83⟩ := Kd.R_slice z5.out; subst eo83; have hcz84_0 : w81.cell? ⟨gb400, 0, none⟩ = some (.bool t381) := (bC_ z1.out 0).trans rfl; have hcz84_1 : w81.cell? ⟨gb400, 1, none⟩ = some (.bool true) := (bC_ z1.out 1).trans rfl; have hcz84_2 : w81.cell? ⟨gb400, 2, none⟩ = some (.int .i64 t383) := (bC_ z1.out 2).trans rfl; have hcz84_3 : w81.cell? ⟨gb400, 3, none⟩ = some (.int .i64 t384) := (bC_ z1.out 3).trans rfl; have hcz84_4 : w81.cell? ⟨gb400, 4, none⟩ = some (.slice Ao10 t385.length co10) := (bC_ z1.out 4).trans rfl; have hfz84_0 := bF_ z1.out 0; have hfz84_1 := bF_ z1.out 1; have hfz84_2 := bF_ z1.out 2; have hfz84_3 := bF_ z1.out 3; have hfz84_4 := bF_ z1.out 4; have hcz85_0 : w81.cell? ⟨gb388, 0, none⟩ = some (.bool t381) := (bC_ z.out 0).trans rfl; have hcz85_1 : w81.cell? ⟨gb388, 1, none⟩ = some (.bool true) := (bC_ z.out 1).trans rfl; have hcz85_2 : w81.cell? ⟨gb388, 2, none⟩ = some (.int .i64 t383) := (bC_ z.out 2).trans rfl; have hcz85_3 : w81.cell? ⟨gb388, 3, none⟩ = some (.int .i64 t384) := (bC_ z.out 3).trans rfl; have hcz85_4 : w81.cell? ⟨gb388, 4, none⟩ = some (.slice Ao10 t385.length co10) := (bC_ z.out 4).trans rfl; have hfz85_0 := bF_ z.out 0; have hfz85_1 := bF_ z.out 1; have hfz85_2 := bF_ z.out 2; have hfz85_3 := bF_ z.out 3; have hfz85_4 := bF_ z.out 4) | ((with_reducible refine gate_dst (N := 7) rfl ?_); (ybd_); refine box_event ?hg (N := 7) ?hd (cs := #[.bool false, .bool false, .int .i64 0, .int .i64 0, .slice none 0 0]) (t := 47) ?hr ?_; (case hd => rfl); (case hg => rfl); (yas_); intro gb404 hg w86 hbox hb; have n0_ := A_ (Kd.Q_below (by (yaa_); exact (Kd.Q_mono (Kd.Q_far (p := ⟨gb400, 4, none⟩) (Kd.Q_types z3.out z1.out (by decide)) (fun _ hk => hk.2) (.slice Ao83 y401.length co83)) (fun _ h_ => h_.1))) hb); have n1_ := A_ (Kd.Q_below (by (yaa_); exact (Kd.Q_mono (Kd.Q_far (p := ⟨gb400, 4, none⟩) (Kd.Q_types z4.out z1.out (by decide)) (fun _ hk => hk.2) (.slice Ao83 y401.length co83)) (fun _ h_ => h_.1))) hb); have n2_ := A_ (rB_ (by (yah_); exact (rM_ (Kd.R_far (p := ⟨gb400, 4, none⟩) (Kd.R_types z5.out z1.out (by decide)) (fun _ hk => hk.2) (.slice Ao83 y401.length co83)) (fun _ h_ => h_.1))) hb); have n3_ := A_ (bB_ (g := gb388) (o := .cells #[.bool t381, .bool true, .int .i64 t383, .int .i64 t384, .slice Ao10 t385.length co10] 47 (0, 0)) (ybf_) hb); have n4_ := A_ (bB_ (g := gb397) (o := .cells #[.bool t390, .bool t391, .int .i64 t392, .int .i64 t393, .slice Ao16 t394.length co16] 47 (0, 0)) (by (ya_); refine blk_far ?_ zd.out _; (ya_); exact z0.out) hb); have n5_ := A_ (bB_ (g := gb400) (o := .cells #[.bool t381, .bool true, .int .i64 t383, .int .i64 t384, .slice Ao83 y401.length co83] 47 (0, 0)) (yan_) hb); have n6_ := A_ (wT_ (yac_) hb); have n7_ := A_ (hbox); have n8_ := A_ ((by rw [hg]; exact (wZ_ (yac_)) : w.heap.size ≤ gb404)); have n9_ := A_ ((by rw [hg]; exact (wZ_ (yac_)) : w.heap.size ≤ gb404)); have n10_ := A_ ((by rw [hg]; exact Nat.ne_of_lt (blk_lt (g := gb388) (o := .cells #[.bool t381, .bool true, .int .i64 t383, .int .i64 t384, .slice Ao10 t385.length co10] 47 (0, 0)) (ybf_)) : gb388 ≠ gb404)); have n11_ := A_ ((by rw [hg]; exact Nat.ne_of_gt (blk_lt (g := gb388) (o := .cells #[.bool t381, .bool true, .int .i64 t383, .int .i64 t384, .slice Ao10 t385.length co10] 47 (0, 0)) (ybf_)) : gb404 ≠ gb388)); have n12_ := A_ ((yat_)); have n13_ := A_ ((yau_)); have n14_ := A_ ((by rw [hg]; exact Nat.ne_of_lt (blk_lt (g := gb400) (o := .cells #[.bool t381, .bool true, .int .i64 t383, .int .i64 t384, .slice Ao83 y401.length co83] 47 (0, 0)) (yan_)) : gb400 ≠ gb404)); have n15_ := A_ ((by rw [hg]; exact Nat.ne_of_gt (blk_lt (g := gb400) (o := .cells #[.bool t381, .bool true, .int .i64 t383, .int .i64 t384, .slice Ao83 y401.length co83] 47 (0, 0)) (yan_)) : gb404 ≠ gb400)); clear z3; clear z4; clear z5; clear z; clear z0; clear z1; clear HB; have z3 := n0_; have z4 := n1_; have z5 := n2_; have z := n3_; have z0 := n4_; have z1 := n5_; have HB := n6_; have z2 := n7_; have zw := n8_; have zh := n9_; have ze := n10_; have zo := n11_; have zf := n12_; have zp := n13_; have zg := n14_; have zq := n15_; clear n0_ n1_ n2_ n3_ n4_ n5_ n6_ n7_ n8_ n9_ n10_ n11_ n12_ n13_ n14_ n15_; clear hb hbox hg; have hnb87 := zo.out; have hnc87 := ze.out; have hnb88 := zp.out; have hnc88 := zf.out; have hnb89 := zq.out; have hnc89 := zg.out; have hcz90_0 : w86.cell? ⟨gb404, 0, none⟩ = some (.bool false) := (bC_ z2.out 0).trans rfl; have hcz90_1 : w86.cell? ⟨gb404, 1, none⟩ = some (.bool false) := (bC_ z2.out 1).trans rfl; have hcz90_2 : w86.cell? ⟨gb404, 2, none⟩ = some (.int .i64 0) := (bC_ z2.out 2).trans rfl; have hcz90_3 : w86.cell? ⟨gb404, 3, none⟩ = some (.int .i64 0) := (bC_ z2.out 3).trans rfl; have hcz90_4 : w86.cell? ⟨gb404, 4, none⟩ = some (.slice none 0 0) := (bC_ z2.out 4).trans rfl; have hfz90_0 := bF_ z2.out 0; have hfz90_1 := bF_ z2.out 1; have hfz90_2 := bF_ z2.out 2; have hfz90_3 := bF_ z2.out 3; have hfz90_4 := bF_ z2.out 4))
           have n0_ : Aside0 (Kd.Q (Kd.int .i64) 3 (yaf_) w.heap.size (fun k_ => some k_ ≠ (.slice Ao16 t394.length co16 : Value).ownBlock ∧ some k_ ≠ (.slice Ao83 y401.length co83 : Value).ownBlock) (.slice Ao10 t385.length co10) t385) := ⟨by (yaa_); exact Kd.Q_mono (Kd.Q_far (p := ⟨gb404, 1, none⟩) (Kd.Q_far (p := ⟨gb404, 4, none⟩) (Kd.Q_far (p := ⟨gb404, 3, none⟩) (Kd.Q_far (p := ⟨gb404, 2, none⟩) (Kd.Q_far (p := ⟨gb404, 1, none⟩) (Kd.Q_far (p := ⟨gb404, 0, none⟩) (Kd.Q_types z3.out z2.out (by decide)) (fun _ hk => hk.2) (.bool t381)) (fun _ hk => hk.2) (.bool true)) (fun _ hk => hk.2) (.int .i64 t383)) (fun _ hk => hk.2) (.int .i64 t384)) (fun _ hk => hk.2) (.slice Ao10 t385.length co10)) (fun _ hk => hk.2) (.bool false)) (fun _ hk => ⟨hk.1.1, hk.1.2⟩)⟩
           have n1_ : Aside0 (Kd.Q (Kd.int .i64) 3 (yaf_) w.heap.size (fun k_ => some k_ ≠ (.slice Ao10 t385.length co10 : Value).ownBlock ∧ some k_ ≠ (.slice Ao83 y401.length co83 : Value).ownBlock) (.slice Ao16 t394.length co16) t394) := ⟨by (yaa_); exact Kd.Q_mono (Kd.Q_far (p := ⟨gb404, 1, none⟩) (Kd.Q_far (p := ⟨gb404, 4, none⟩) (Kd.Q_far (p := ⟨gb404, 3, none⟩) (Kd.Q_far (p := ⟨gb404, 2, none⟩) (Kd.Q_far (p := ⟨gb404, 1, none⟩) (Kd.Q_far (p := ⟨gb404, 0, none⟩) (Kd.Q_types z4.out z2.out (by decide)) (fun _ hk => hk.2) (.bool t381)) (fun _ hk => hk.2) (.bool true)) (fun _ hk => hk.2) (.int .i64 t383)) (fun _ hk => hk.2) (.int .i64 t384)) (fun _ hk => hk.2) (.slice Ao10 t385.length co10)) (fun _ hk => hk.2) (.bool false)) (fun _ hk => ⟨hk.1.1, hk.1.2⟩)⟩
           have n2_ : Aside0 (Kd.R (Kd.int .i64) 3 (yaf_) w.heap.size (fun k_ => some k_ ≠ (.slice Ao10 t385.length co10 : Value).ownBlock ∧ some k_ ≠ (.slice Ao16 t394.length co16 : Value).ownBlock) (.slice Ao83 y401.length co83) y401) := ⟨by (yah_); exact rM_ (Kd.R_far (p := ⟨gb404, 1, none⟩) (Kd.R_far (p := ⟨gb404, 4, none⟩) (Kd.R_far (p := ⟨gb404, 3, none⟩) (Kd.R_far (p := ⟨gb404, 2, none⟩) (Kd.R_far (p := ⟨gb404, 1, none⟩) (Kd.R_far (p := ⟨gb404, 0, none⟩) (Kd.R_types z5.out z2.out (by decide)) (fun _ hk => hk.2) (.bool t381)) (fun _ hk => hk.2) (.bool true)) (fun _ hk => hk.2) (.int .i64 t383)) (fun _ hk => hk.2) (.int .i64 t384)) (fun _ hk => hk.2) (.slice Ao10 t385.length co10)) (fun _ hk => hk.2) (.bool false)) (fun _ hk => ⟨hk.1.1.2, hk.1.2⟩)⟩
           have n3_ : Aside0 ((yaf_).heap[gb388]? = some (.cells #[.bool t381, .bool true, .int .i64 t383, .int .i64 t384, .slice Ao10 t385.length co10] 47 (0, 0))) := ⟨by (ya_); refine blk_far ?_ ze.out _; (ya_); refine blk_far ?_ ze.out _; (ya_); refine blk_far ?_ ze.out _; (ya_); refine blk_far ?_ ze.out _; (ya_); refine blk_far ?_ ze.out _; (ya_); refine blk_far ?_ ze.out _; (ya_); exact z.out⟩
           have n4_ : Aside0 ((yaf_).heap[gb397]? = some (.cells #[.bool t390, .bool t391, .int .i64 t392, .int .i64 t393, .slice Ao16 t394.length co16] 47 (0, 0))) := ⟨by (ya_); refine blk_far ?_ zf.out _; (ya_); refine blk_far ?_ zf.out _; (ya_); refine blk_far ?_ zf.out _; (ya_); refine blk_far ?_ zf.out _; (ya_); refine blk_far ?_ zf.out _; (ya_); refine blk_far ?_ zf.out _; (ya_); exact z0.out⟩
           have n5_ : Aside0 ((yaf_).heap[gb400]? = some (.cells #[.bool t381, .bool true, .int .i64 t383, .int .i64 t384, .slice Ao83 y401.length co83] 47 (0, 0))) := ⟨by (ya_); refine blk_far ?_ zg.out _; (ya_); refine blk_far ?_ zg.out _; (ya_); refine blk_far ?_ zg.out _; (ya_); refine blk_far ?_ zg.out _; (ya_); refine blk_far ?_ zg.out _; (ya_); refine blk_far ?_ zg.out _; (ya_); exact z1.out⟩
           have n6_ : Aside0 ((yaf_).heap[gb404]? = some (.cells #[.bool t381, .bool false, .int .i64 t383, .int .i64 t384, .slice Ao10 t385.length co10] 47 (0, 0))) := ⟨by (ya_); refine blk_put (cs := #[.bool t381, .bool true, .int .i64 t383, .int .i64 t384, .slice Ao10 t385.length co10]) ?_ 1 _ rfl; (ya_); refine blk_put (cs := #[.bool t381, .bool true, .int .i64 t383, .int .i64 t384, .slice none 0 0]) ?_ 4 _ rfl; (ya_); refine blk_put (cs := #[.bool t381, .bool true, .int .i64 t383, .int .i64 0, .slice none 0 0]) ?_ 3 _ rfl; (ya_); refine blk_put (cs := #[.bool t381, .bool true, .int .i64 0, .int .i64 0, .slice none 0 0]) ?_ 2 _ rfl; (ya_); refine blk_put (cs := #[.bool t381, .bool false, .int .i64 0, .int .i64 0, .slice none 0 0]) ?_ 1 _ rfl; (ya_); refine blk_put (cs := #[.bool false, .bool false, .int .i64 0, .int .i64 0, .slice none 0 0]) ?_ 0 _ rfl; (ya_); exact z2.out⟩
           have n7_ : Aside0 (Below w.heap.size w (yaf_)) := ⟨by repeat (yag_)⟩
           (try clear z3)
           (try clear z4)
           (try clear z5)
           (try clear z)
           (try clear z0)
           (try clear z1)
           (try clear z2)
           (try clear HB)
           generalize (yaf_) = w91 at n0_ n1_ n2_ n3_ n4_ n5_ n6_ n7_ ⊢
           have z3 := n0_
           have z4 := n1_
           have z5 := n2_
           have z := n3_
           have z0 := n4_
           have z1 := n5_
           have z2 := n6_
           have HB := n7_
           clear n0_ n1_ n2_ n3_ n4_ n5_ n6_ n7_
           have n0_ := A_ (Kd.Q_drew z3.out)
           have n1_ := A_ (Kd.Q_drew z4.out)
           have n2_ := A_ (rD_ z5.out)
           have n3_ := A_ (bD_ z.out)
           have n4_ := A_ (bD_ z0.out)
           have n5_ := A_ (bD_ z1.out)
           have n6_ := A_ (bD_ z2.out)
           have n7_ := A_ (wD_ HB.out)
           clear z3
           clear z4
           clear z5
           clear z
           clear z0
           clear z1
           clear z2
           clear HB
           have z3 := n0_
           have z4 := n1_
           have z5 := n2_
           have z := n3_
           have z0 := n4_
           have z1 := n5_
           have z2 := n6_
           have HB := n7_
           clear n0_ n1_ n2_ n3_ n4_ n5_ n6_ n7_
           refine start_ (n := 31) (S := fun w' => w'.cell? ⟨gb400, 0, none⟩ = some (.bool t381) ∧ w'.cell? ⟨gb400, 1, none⟩ = some (.bool true) ∧ w'.cell? ⟨gb400, 2, none⟩ = some (.int .i64 t383) ∧ w'.cell? ⟨gb400, 3, none⟩ = some (.int .i64 t384) ∧ w'.cell? ⟨gb400, 4, none⟩ = some (.slice Ao83 y401.length co83) ∧ w'.cell? ⟨gb388, 0, none⟩ = some (.bool t381) ∧ w'.cell? ⟨gb388, 1, none⟩ = some (.bool true) ∧ w'.cell? ⟨gb388, 2, none⟩ = some (.int .i64 t383) ∧ w'.cell? ⟨gb388, 3, none⟩ = some (.int .i64 t384) ∧ w'.cell? ⟨gb388, 4, none⟩ = some (.slice Ao10 t385.length co10) ∧ w'.cell? ⟨gb404, 0, none⟩ = some (.bool t381) ∧ w'.cell? ⟨gb404, 1, none⟩ = some (.bool false) ∧ w'.cell? ⟨gb404, 2, none⟩ = some (.int .i64 t383) ∧ w'.cell? ⟨gb404, 3, none⟩ = some (.int .i64 t384) ∧ w'.cell? ⟨gb404, 4, none⟩ = some (.slice Ao10 t385.length co10)) (ds := []) (ybe_) (by kernel_rfl) rfl rfl ⟨(bC_ z1.out 0).trans rfl, (bC_ z1.out 1).trans rfl, (bC_ z1.out 2).trans rfl, (bC_ z1.out 3).trans rfl, (bC_ z1.out 4).trans rfl, (bC_ z.out 0).trans rfl, (bC_ z.out 1).trans rfl, (bC_ z.out 2).trans rfl, (bC_ z.out 3).trans rfl, (bC_ z.out 4).trans rfl, (bC_ z2.out 0).trans rfl, (bC_ z2.out 1).trans rfl, (bC_ z2.out 2).trans rfl, (bC_ z2.out 3).trans rfl, (bC_ z2.out 4).trans rfl⟩ (fun hHeld => ?_); refine with_tabW laws_FnInOk.tab14 laws_FnInOk.bits14 (fun HT_ HW_ => ?_)
           generalize w91.drew = w92 at z3 z4 z5 z z0 z1 z2 HB hHeld ⊢
           refine take_ (i := 0) (N := some 46) (v := ?_) (a' := ?_) (ybg_) rfl rfl (take_ofW HT_.out HW_.out (by kernel_rfl)) (fun _ _ _ h => h) (Or.inl ⟨by rfl, ?_⟩) hHeld ?_ ?_
           rotate_left
           ·rintro w' ⟨s0, s1, s2, s3, s4, s5, s6, s7, s8, s9, s10, s11, s12, s13, s14⟩
            go_simp
            with_reducible rfl
           rotate_left
           ·simp only [Act.put, sT_, s0_, s1_, i64_w, i32_w]
            rfl
           refine one_ (i := 1) (N := some 47) (ybh_) rfl rfl (one_of HT_.out (by kernel_rfl)) (by decide) (fun K hK => ?_)
           refine goes_ Try.func40 (by kernel_rfl) rfl #[.agg #[.bool t381, .bool true, .int .i64 t383, .int .i64 t384, .slice Ao83 y401.length co83]] (by rfl) rfl rfl (yal_) ?_
           with_reducible refine (impl_InOk.calls kj5 t381 true t383 t384 _ _ y401 false _ ?side1 ?side2 A51.out).mono ?_
           (case side1 => repeat (first | exact (Kd.R_reads' z5.out).2.2 | (with_reducible refine Kd.C_alloc ?_ _) | (with_reducible refine Kd.C_drewN ?_ _) | (with_reducible refine Kd.C_drew ?_)))
           (case side2 => exact (Kd.R_reads' z5.out).2.1)
           rintro e w93 ⟨rfl, hb⟩
           refine ⟨_, rfl, ?_⟩
           have n0_ := A_ (Kd.Q_below (by (yaa_); exact z3.out) hb)
           have n1_ := A_ (Kd.Q_below (by (yaa_); exact z4.out) hb)
           have n2_ := A_ (rB_ (by (yah_); exact z5.out) hb)
           have n3_ := A_ (bB_ (g := gb388) (o := .cells #[.bool t381, .bool true, .int .i64 t383, .int .i64 t384, .slice Ao10 t385.length co10] 47 (0, 0)) (by (ya_); exact z.out) hb)
           have n4_ := A_ (bB_ (g := gb397) (o := .cells #[.bool t390, .bool t391, .int .i64 t392, .int .i64 t393, .slice Ao16 t394.length co16] 47 (0, 0)) (by (ya_); exact z0.out) hb)
           have n5_ := A_ (bB_ (g := gb400) (o := .cells #[.bool t381, .bool true, .int .i64 t383, .int .i64 t384, .slice Ao83 y401.length co83] 47 (0, 0)) (by (ya_); exact z1.out) hb)
           have n6_ := A_ (bB_ (g := gb404) (o := .cells #[.bool t381, .bool false, .int .i64 t383, .int .i64 t384, .slice Ao10 t385.length co10] 47 (0, 0)) (by (ya_); exact z2.out) hb)
           have n7_ := A_ (wT_ (by repeat (yag_)) hb)
           clear z3
           clear z4
           clear z5
           clear z
           clear z0
           clear z1
           clear z2
           clear HB
           have z3 := n0_
           have z4 := n1_
           have z5 := n2_
           have z := n3_
           have z0 := n4_
           have z1 := n5_
           have z2 := n6_
           have HB := n7_
           clear n0_ n1_ n2_ n3_ n4_ n5_ n6_ n7_
           (try clear hb)
           (try clear hb2)
           (try clear hk)
           (try clear hi)
           refine hK.out _ _ ⟨(bC_ z1.out 0).trans rfl, (bC_ z1.out 1).trans rfl, (bC_ z1.out 2).trans rfl, (bC_ z1.out 3).trans rfl, (bC_ z1.out 4).trans rfl, (bC_ z.out 0).trans rfl, (bC_ z.out 1).trans rfl, (bC_ z.out 2).trans rfl, (bC_ z.out 3).trans rfl, (bC_ z.out 4).trans rfl, (bC_ z2.out 0).trans rfl, (bC_ z2.out 1).trans rfl, (bC_ z2.out 2).trans rfl, (bC_ z2.out 3).trans rfl, (bC_ z2.out 4).trans rfl⟩ (fun hHeld => ?_)
           clear hK K
           refine norm_ (a' := ?_) ?_ ?_
           rotate_left
           ·show Act.put _ (some 47) _ = _
            simp only [Act.put, sT_, s0_, s1_, i64_w, i32_w]
            rfl
           refine pure_ (i := 2) (N := some 48) (v := ?_) (a' := ?_) (ybi_) rfl rfl (any_of HT_.out (by kernel_rfl)) (fun _ _ _ h => h) (Or.inl ⟨by rfl, ?_⟩) ?_ ?_
           rotate_left
           ·intro w'
            go_simp
            with_reducible rfl
           rotate_left
           ·simp only [Act.put, sT_, s0_, s1_, i64_w, i32_w]
            rfl
           refine pure_ (i := 3) (N := some 49) (v := ?_) (a' := ?_) (ybj_) rfl rfl (any_of HT_.out (by kernel_rfl)) (fun _ _ _ h => h) (Or.inl ⟨by rfl, ?_⟩) ?_ ?_
           rotate_left
           ·intro w'
            go_simp
            with_reducible rfl
           rotate_left
           ·simp only [Act.put, sT_, s0_, s1_, i64_w, i32_w]
            rfl
           refine pure_ (i := 4) (N := some 50) (v := ?_) (a' := ?_) (ybl_) rfl rfl (any_of HT_.out (by kernel_rfl)) (fun _ _ _ h => h) (Or.inl ⟨by rfl, ?_⟩) ?_ ?_
           rotate_left
           ·intro w'
            go_simp
            with_reducible rfl
           rotate_left
           ·simp only [Act.put, sT_, s0_, s1_, i64_w, i32_w]
            rfl
           refine take_ (i := 5) (N := some 51) (v := ?_) (a' := ?_) (ybm_) rfl rfl (take_ofW HT_.out HW_.out (by kernel_rfl)) (fun _ _ _ h => h) (Or.inl ⟨by rfl, ?_⟩) hHeld ?_ ?_
           rotate_left
           ·rintro w' ⟨s0, s1, s2, s3, s4, s5, s6, s7, s8, s9, s10, s11, s12, s13, s14⟩
            go_simp
            with_reducible rfl
           rotate_left
           ·simp only [Act.put, sT_, s0_, s1_, i64_w, i32_w]
            rfl
           refine pure_ (i := 6) (N := some 52) (v := ?_) (a' := ?_) (ybn_) rfl rfl (any_of HT_.out (by kernel_rfl)) (fun _ _ _ h => h) (Or.inl ⟨by rfl, ?_⟩) ?_ ?_
           rotate_left
           ·intro w'
            go_simp
            with_reducible rfl
           rotate_left
           ·simp only [Act.put, sT_, s0_, s1_, i64_w, i32_w]
            rfl
           refine pure_ (i := 7) (N := some 53) (v := undef) (a' := ?_) (ybo_) rfl rfl (any_of HT_.out (by kernel_rfl)) (fun _ _ _ h => h) (Or.inr ⟨by rfl, rfl⟩) ?_ ?_
           rotate_left
           ·simp only [Act.put, sT_, s0_, s1_, i64_w, i32_w]
            rfl
           refine pure_ (i := 8) (N := some 54) (v := undef) (a' := ?_) (ybr_) rfl rfl (any_of HT_.out (by kernel_rfl)) (fun _ _ _ h => h) (Or.inr ⟨by rfl, rfl⟩) ?_ ?_
           rotate_left
           ·simp only [Act.put, sT_, s0_, s1_, i64_w, i32_w]
            rfl
           refine pure_ (i := 9) (N := some 55) (v := undef) (a' := ?_) (ybs_) rfl rfl (any_of HT_.out (by kernel_rfl)) (fun _ _ _ h => h) (Or.inr ⟨by rfl, rfl⟩) ?_ ?_
           rotate_left
           ·simp only [Act.put, sT_, s0_, s1_, i64_w, i32_w]
            rfl
           refine pure_ (i := 10) (N := some 56) (v := undef) (a' := ?_) (ybt_) rfl rfl (any_of HT_.out (by kernel_rfl)) (fun _ _ _ h => h) (Or.inr ⟨by rfl, rfl⟩) ?_ ?_
           rotate_left
           ·simp only [Act.put, sT_, s0_, s1_, i64_w, i32_w]
            rfl
           refine pure_ (i := 11) (N := some 57) (v := undef) (a' := ?_) (ybu_) rfl rfl (any_of HT_.out (by kernel_rfl)) (fun _ _ _ h => h) (Or.inr ⟨by rfl, rfl⟩) ?_ ?_
           rotate_left
           ·simp only [Act.put, sT_, s0_, s1_, i64_w, i32_w]
            rfl
           refine pure_ (i := 12) (N := some 58) (v := undef) (a' := ?_) (ybv_) rfl rfl (any_of HT_.out (by kernel_rfl)) (fun _ _ _ h => h) (Or.inr ⟨by rfl, rfl⟩) ?_ ?_
           rotate_left
           ·simp only [Act.put, sT_, s0_, s1_, i64_w, i32_w]
            rfl
           refine pure_ (i := 13) (N := some 59) (v := undef) (a' := ?_) #[true, true, true, true, true, true, true, true, true, true, true, true, true, true, false, false, false, false, false, false, false, false, false, false, false, false, false, false, false, false, false] rfl rfl (any_of HT_.out (by kernel_rfl)) (fun _ _ _ h => h) (Or.inr ⟨by rfl, rfl⟩) ?_ ?_
           rotate_left
           ·simp only [Act.put, sT_, s0_, s1_, i64_w, i32_w]
            rfl
           refine pure_ (i := 14) (N := some 60) (v := undef) (a' := ?_) #[true, true, true, true, true, true, true, true, true, true, true, true, true, true, true, false, false, false, false, false, false, false, false, false, false, false, false, false, false, false, false] rfl rfl (any_of HT_.out (by kernel_rfl)) (fun _ _ _ h => h) (Or.inr ⟨by rfl, rfl⟩) ?_ ?_
           rotate_left
           ·simp only [Act.put, sT_, s0_, s1_, i64_w, i32_w]
            rfl
           refine pure_ (i := 15) (N := some 61) (v := ?_) (a' := ?_) #[true, true, true, true, true, true, true, true, true, true, true, true, true, true, true, true, false, false, false, false, false, false, false, false, false, false, false, false, false, false, false] rfl rfl (any_of HT_.out (by kernel_rfl)) (fun _ _ _ h => h) (Or.inl ⟨by rfl, ?_⟩) ?_ ?_
           rotate_left
           ·intro w'
            go_simp
            with_reducible rfl
           rotate_left
           ·simp only [Act.put, sT_, s0_, s1_, i64_w, i32_w]
            rfl
           refine pure_ (i := 16) (N := some 62) (v := ?_) (a' := ?_) #[true, true, true, true, true, true, true, true, true, true, true, true, true, true, true, true, true, false, false, false, false, false, false, false, false, false, false, false, false, false, false] rfl rfl (any_of HT_.out (by kernel_rfl)) (fun _ _ _ h => h) (Or.inl ⟨by rfl, ?_⟩) ?_ ?_
           rotate_left
           ·intro w'
            go_simp
            with_reducible rfl
           rotate_left
           ·simp only [Act.put, sT_, s0_, s1_, i64_w, i32_w]
            rfl
           refine pure_ (i := 17) (N := some 63) (v := ?_) (a' := ?_) #[true, true, true, true, true, true, true, true, true, true, true, true, true, true, true, true, true, true, false, false, false, false, false, false, false, false, false, false, false, false, false] rfl rfl (any_of HT_.out (by kernel_rfl)) (fun _ _ _ h => h) (Or.inl ⟨by rfl, ?_⟩) ?_ ?_
           rotate_left
           ·intro w'
            go_simp
            with_reducible rfl
           rotate_left
           ·simp only [Act.put, sT_, s0_, s1_, i64_w, i32_w]
            rfl
           refine pure_ (i := 20) (N := some 66) (v := ?_) (a' := ?_) #[true, true, true, true, true, true, true, true, true, true, true, true, true, true, true, true, true, true, false, false, true, false, false, false, false, false, false, false, false, false, false] rfl rfl (any_of HT_.out (by kernel_rfl)) (fun _ _ _ h => h) (Or.inl ⟨by rfl, ?_⟩) ?_ ?_
           rotate_left
           ·intro w'
            go_simp
            with_reducible rfl
           rotate_left
           ·simp only [Act.put, sT_, s0_, s1_, i64_w, i32_w]
            rfl
           refine take_ (i := 18) (N := some 64) (v := ?_) (a' := ?_) #[true, true, true, true, true, true, true, true, true, true, true, true, true, true, true, true, true, true, true, false, true, false, false, false, false, false, false, false, false, false, false] rfl rfl (take_ofW HT_.out HW_.out (by kernel_rfl)) (fun _ _ _ h => h) (Or.inl ⟨by rfl, ?_⟩) hHeld ?_ ?_
           rotate_left
           ·rintro w' ⟨s0, s1, s2, s3, s4, s5, s6, s7, s8, s9, s10, s11, s12, s13, s14⟩
            go_simp
            with_reducible rfl
           rotate_left
           ·simp only [Act.put, sT_, s0_, s1_, i64_w, i32_w]
            rfl
           refine take_ (i := 21) (N := some 67) (v := ?_) (a' := ?_) #[true, true, true, true, true, true, true, true, true, true, true, true, true, true, true, true, true, true, true, false, true, true, false, false, false, false, false, false, false, false, false] rfl rfl (take_ofW HT_.out HW_.out (by kernel_rfl)) (fun _ _ _ h => h) (Or.inl ⟨by rfl, ?_⟩) hHeld ?_ ?_
           rotate_left
           ·rintro w' ⟨s0, s1, s2, s3, s4, s5, s6, s7, s8, s9, s10, s11, s12, s13, s14⟩
            go_simp
            with_reducible rfl
           rotate_left
           ·simp only [Act.put, sT_, s0_, s1_, i64_w, i32_w]
            rfl
           refine pure_ (i := 22) (N := some 68) (v := ?_) (a' := ?_) #[true, true, true, true, true, true, true, true, true, true, true, true, true, true, true, true, true, true, true, false, true, true, true, false, false, false, false, false, false, false, false] rfl rfl (any_of HT_.out (by kernel_rfl)) (fun _ _ _ h => h) (Or.inl ⟨by rfl, ?_⟩) ?_ ?_
           rotate_left
           ·intro w'
            go_simp
            with_reducible rfl
           rotate_left
           ·simp only [Act.put, sT_, s0_, s1_, i64_w, i32_w]
            rfl
           refine one_ (i := 19) (N := some 65) #[true, true, true, true, true, true, true, true, true, true, true, true, true, true, true, true, true, true, true, true, true, true, true, false, false, false, false, false, false, false, false] rfl rfl (one_of HT_.out (by kernel_rfl)) (by decide) (fun K hK => ?_)
           refine goes_ Try.func40 (by kernel_rfl) rfl #[.agg #[.bool t381, .bool false, .int .i64 t383, .int .i64 t384, .slice Ao10 t385.length co10]] (by rfl) rfl rfl (yal_) ?_
           with_reducible refine (impl_InOk.calls kj5 t381 false t383 t384 _ _ t385 t406 _ ?side1 ?side2 A73.out).mono ?_
           (case side1 => repeat (first | exact (Kd.Q_reads' z3.out).2.2 | (with_reducible refine Kd.C_alloc ?_ _) | (with_reducible refine Kd.C_drewN ?_ _) | (with_reducible refine Kd.C_drew ?_)))
           (case side2 => exact (Kd.Q_reads' z3.out).2.1)
           rintro e w94 ⟨rfl, hb⟩
           refine ⟨_, rfl, ?_⟩
           have n0_ := A_ (Kd.Q_below (by (yaa_); exact z3.out) hb)
           have n1_ := A_ (Kd.Q_below (by (yaa_); exact z4.out) hb)
           have n2_ := A_ (rB_ (by (yah_); exact z5.out) hb)
           have n3_ := A_ (bB_ (g := gb388) (o := .cells #[.bool t381, .bool true, .int .i64 t383, .int .i64 t384, .slice Ao10 t385.length co10] 47 (0, 0)) (by (ya_); exact z.out) hb)
           have n4_ := A_ (bB_ (g := gb397) (o := .cells #[.bool t390, .bool t391, .int .i64 t392, .int .i64 t393, .slice Ao16 t394.length co16] 47 (0, 0)) (by (ya_); exact z0.out) hb)
           have n5_ := A_ (bB_ (g := gb400) (o := .cells #[.bool t381, .bool true, .int .i64 t383, .int .i64 t384, .slice Ao83 y401.length co83] 47 (0, 0)) (by (ya_); exact z1.out) hb)
           have n6_ := A_ (bB_ (g := gb404) (o := .cells #[.bool t381, .bool false, .int .i64 t383, .int .i64 t384, .slice Ao10 t385.length co10] 47 (0, 0)) (by (ya_); exact z2.out) hb)
           have n7_ := A_ (wT_ (by repeat (yag_)) hb)
           clear z3
           clear z4
           clear z5
           clear z
           clear z0
           clear z1
           clear z2
           clear HB
           have z3 := n0_
           have z4 := n1_
           have z5 := n2_
           have z := n3_
           have z0 := n4_
           have z1 := n5_
           have z2 := n6_
           have HB := n7_
           clear n0_ n1_ n2_ n3_ n4_ n5_ n6_ n7_
           (try clear hb)
           (try clear hb2)
           (try clear hk)
           (try clear hi)
           refine hK.out _ _ ⟨(bC_ z1.out 0).trans rfl, (bC_ z1.out 1).trans rfl, (bC_ z1.out 2).trans rfl, (bC_ z1.out 3).trans rfl, (bC_ z1.out 4).trans rfl, (bC_ z.out 0).trans rfl, (bC_ z.out 1).trans rfl, (bC_ z.out 2).trans rfl, (bC_ z.out 3).trans rfl, (bC_ z.out 4).trans rfl, (bC_ z2.out 0).trans rfl, (bC_ z2.out 1).trans rfl, (bC_ z2.out 2).trans rfl, (bC_ z2.out 3).trans rfl, (bC_ z2.out 4).trans rfl⟩ (fun hHeld => ?_)
           clear hK K
           refine norm_ (a' := ?_) ?_ ?_
           rotate_left
           ·show Act.put _ (some 65) _ = _
            simp only [Act.put, sT_, s0_, s1_, i64_w, i32_w]
            rfl
           refine pure_ (i := 23) (N := some 69) (v := ?_) (a' := ?_) #[true, true, true, true, true, true, true, true, true, true, true, true, true, true, true, true, true, true, true, true, true, true, true, true, false, false, false, false, false, false, false] rfl rfl (any_of HT_.out (by kernel_rfl)) (fun _ _ _ h => h) (Or.inl ⟨by rfl, ?_⟩) ?_ ?_
           rotate_left
           ·intro w'
            go_simp
            with_reducible rfl
           rotate_left
           ·simp only [Act.put, sT_, s0_, s1_, i64_w, i32_w]
            rfl
           refine pure_ (i := 24) (N := some 70) (v := ?_) (a' := ?_) #[true, true, true, true, true, true, true, true, true, true, true, true, true, true, true, true, true, true, true, true, true, true, true, true, true, false, false, false, false, false, false] rfl rfl (any_of HT_.out (by kernel_rfl)) (fun _ _ _ h => h) (Or.inl ⟨by rfl, ?_⟩) ?_ ?_
           rotate_left
           ·intro w'
            go_simp
            with_reducible rfl
           rotate_left
           ·simp only [Act.put, sT_, s0_, s1_, i64_w, i32_w]
            rfl
           refine take_ (i := 25) (N := some 71) (v := ?_) (a' := ?_) #[true, true, true, true, true, true, true, true, true, true, true, true, true, true, true, true, true, true, true, true, true, true, true, true, true, true, false, false, false, false, false] rfl rfl (take_ofW HT_.out HW_.out (by kernel_rfl)) (fun _ _ _ h => h) (Or.inl ⟨by rfl, ?_⟩) hHeld ?_ ?_
           rotate_left
           ·rintro w' ⟨s0, s1, s2, s3, s4, s5, s6, s7, s8, s9, s10, s11, s12, s13, s14⟩
            go_simp
            with_reducible rfl
           rotate_left
           ·simp only [Act.put, sT_, s0_, s1_, i64_w, i32_w]
            rfl
           refine pure_ (i := 26) (N := some 72) (v := ?_) (a' := ?_) #[true, true, true, true, true, true, true, true, true, true, true, true, true, true, true, true, true, true, true, true, true, true, true, true, true, true, true, false, false, false, false] rfl rfl (any_of HT_.out (by kernel_rfl)) (fun _ _ _ h => h) (Or.inl ⟨by rfl, ?_⟩) ?_ ?_
           rotate_left
           ·intro w'
            go_simp
            with_reducible rfl
           rotate_left
           ·simp only [Act.put, sT_, s0_, s1_, i64_w, i32_w]
            rfl
           refine pure_ (i := 27) (N := some 73) (v := ?_) (a' := ?_) #[true, true, true, true, true, true, true, true, true, true, true, true, true, true, true, true, true, true, true, true, true, true, true, true, true, true, true, true, false, false, false] rfl rfl (any_of HT_.out (by kernel_rfl)) (fun _ _ _ h => h) (Or.inl ⟨by rfl, ?_⟩) ?_ ?_
           rotate_left
           ·intro w'
            go_simp
            with_reducible rfl
           rotate_left
           ·simp only [Act.put, sT_, s0_, s1_, i64_w, i32_w]
            rfl
           refine pure_ (i := 28) (N := some 74) (v := ?_) (a' := ?_) #[true, true, true, true, true, true, true, true, true, true, true, true, true, true, true, true, true, true, true, true, true, true, true, true, true, true, true, true, true, false, false] rfl rfl (any_of HT_.out (by kernel_rfl)) (fun _ _ _ h => h) (Or.inl ⟨by rfl, ?_⟩) ?_ ?_
           rotate_left
           ·intro w'
            go_simp
            with_reducible rfl
           rotate_left
           ·simp only [Act.put, sT_, s0_, s1_, i64_w, i32_w]
            rfl
           refine pure_ (i := 29) (N := some 75) (v := ?_) (a' := ?_) #[true, true, true, true, true, true, true, true, true, true, true, true, true, true, true, true, true, true, true, true, true, true, true, true, true, true, true, true, true, true, false] rfl rfl (any_of HT_.out (by kernel_rfl)) (fun _ _ _ h => h) (Or.inl ⟨by rfl, ?_⟩) ?_ ?_
           rotate_left
           ·intro w'
            go_simp
            with_reducible rfl
           rotate_left
           ·simp only [Act.put, sT_, s0_, s1_, i64_w, i32_w]
            rfl
           refine pure_ (i := 30) (N := some 2) (v := ?_) (a' := ?_) #[true, true, true, true, true, true, true, true, true, true, true, true, true, true, true, true, true, true, true, true, true, true, true, true, true, true, true, true, true, true, true] rfl rfl (any_of HT_.out (by kernel_rfl)) (fun _ _ _ h => h) (Or.inl ⟨by rfl, ?_⟩) ?_ ?_
           rotate_left
           ·intro w'
            go_simp
            with_reducible rfl
           rotate_left
           ·simp only [Act.put, sT_, s0_, s1_, i64_w, i32_w]
            rfl
           refine done_ (done_of HT_.out (by kernel_rfl)) ?_
           try go_wp2
           go_ret
           exact ⟨by first | rfl | (simp [errW_none, errW_some] <;> rfl) | (simp [*, errW_none, errW_some] <;> rfl), by repeat (yag_)⟩)
        ·rw [if_neg c74] at H
         have c74b0 : (t383 == 0) = false := beq_eq_false_iff_ne.mpr c74
         have c74b1 : (t383 != 0) = true := bne_iff_ne.mpr c74
         obtain rfl := Option.some.inj H
         first
         | (exact absurd HR_.out (by decide))
         | (
           have hnb95 := za.out
           have hnc95 := zi.out
           have hcz96_0 : wc.cell? ⟨gb388, 0, none⟩ = some (.bool t381) := (bC_ z.out 0).trans rfl
           have hcz96_1 : wc.cell? ⟨gb388, 1, none⟩ = some (.bool true) := (bC_ z.out 1).trans rfl
           have hcz96_2 : wc.cell? ⟨gb388, 2, none⟩ = some (.int .i64 t383) := (bC_ z.out 2).trans rfl
           have hcz96_3 : wc.cell? ⟨gb388, 3, none⟩ = some (.int .i64 t384) := (bC_ z.out 3).trans rfl
           have hcz96_4 : wc.cell? ⟨gb388, 4, none⟩ = some (.slice Ao10 t385.length co10) := (bC_ z.out 4).trans rfl
           have hfz96_0 := bF_ z.out 0
           have hfz96_1 := bF_ z.out 1
           have hfz96_2 := bF_ z.out 2
           have hfz96_3 := bF_ z.out 3
           have hfz96_4 := bF_ z.out 4
           try go_wp2_with (first | ((with_reducible refine gate_dst (N := 6) rfl ?_); (ybd_); refine box_event ?hg (N := 6) ?hd (cs := #[.bool false, .bool false, .int .i64 0, .int .i64 0, .slice none 0 0]) (t := 47) ?hr ?_; (case hd => rfl); (case hg => rfl); (yas_); intro gb400 hg w97 hbox hb; have n0_ := A_ (Kd.Q_below (by (yaa_); exact z3.out) hb); have n1_ := A_ (Kd.Q_below (by (yaa_); exact z4.out) hb); have n2_ := A_ (bB_ (g := gb388) (o := .cells #[.bool t381, .bool true, .int .i64 t383, .int .i64 t384, .slice Ao10 t385.length co10] 47 (0, 0)) (by (ya_); exact z.out) hb); have n3_ := A_ (bB_ (g := gb397) (o := .cells #[.bool t390, .bool t391, .int .i64 t392, .int .i64 t393, .slice Ao16 t394.length co16] 47 (0, 0)) (by (ya_); exact z0.out) hb); have n4_ := A_ (wT_ (by repeat (yab_)) hb); have n5_ := A_ (hbox); have n6_ := A_ ((by rw [hg]; exact (wZ_ (by repeat (yab_))) : w.heap.size ≤ gb400)); have n7_ := A_ ((by rw [hg]; exact (wZ_ (by repeat (yab_))) : w.heap.size ≤ gb400)); have n8_ := A_ ((by rw [hg]; exact Nat.ne_of_lt (blk_lt (g := gb388) (o := .cells #[.bool t381, .bool true, .int .i64 t383, .int .i64 t384, .slice Ao10 t385.length co10] 47 (0, 0)) (by (ya_); exact z.out)) : gb388 ≠ gb400)); have n9_ := A_ ((by rw [hg]; exact Nat.ne_of_gt (blk_lt (g := gb388) (o := .cells #[.bool t381, .bool true, .int .i64 t383, .int .i64 t384, .slice Ao10 t385.length co10] 47 (0, 0)) (by (ya_); exact z.out)) : gb400 ≠ gb388)); have n10_ := A_ ((ybp_)); have n11_ := A_ ((ybq_)); clear z3; clear z4; clear z; clear z0; clear HB; have z3 := n0_; have z4 := n1_; have z := n2_; have z0 := n3_; have HB := n4_; have z1 := n5_; have zv := n6_; have zb := n7_; have zc := n8_; have zm := n9_; have zd := n10_; have zn := n11_; clear n0_ n1_ n2_ n3_ n4_ n5_ n6_ n7_ n8_ n9_ n10_ n11_; clear hb hbox hg; have hnb98 := zm.out; have hnc98 := zc.out; have hnb99 := zn.out; have hnc99 := zd.out; have hcz100_0 : w97.cell? ⟨gb400, 0, none⟩ = some (.bool false) := (bC_ z1.out 0).trans rfl; have hcz100_1 : w97.cell? ⟨gb400, 1, none⟩ = some (.bool false) := (bC_ z1.out 1).trans rfl; have hcz100_2 : w97.cell? ⟨gb400, 2, none⟩ = some (.int .i64 0) := (bC_ z1.out 2).trans rfl; have hcz100_3 : w97.cell? ⟨gb400, 3, none⟩ = some (.int .i64 0) := (bC_ z1.out 3).trans rfl; have hcz100_4 : w97.cell? ⟨gb400, 4, none⟩ = some (.slice none 0 0) := (bC_ z1.out 4).trans rfl; have hfz100_0 := bF_ z1.out 0; have hfz100_1 := bF_ z1.out 1; have hfz100_2 := bF_ z1.out 2; have hfz100_3 := bF_ z1.out 3; have hfz100_4 := bF_ z1.out 4) | ((with_reducible refine gate_dst (N := 42) rfl ?_); (ybd_); refine Kd.R_lit (Kd.int .i64) _ 3 ?hg (N := 42) ?hd (xs := ([0, 0, 0] : List Int)) (inner := [.int .i64 0, .int .i64 0, .int .i64 0]) (ok := fun _ => True) (okp := fun _ => True) ?hr ?hp (fun _ hk => hk) trivial (Below.refl _ _) (Nat.le_refl _) (by simp) ?_; (case hd => rfl); (case hg => rfl); (yas_); (yaw_); intro v402 w101 ho102 hb hg_ hnew_; clear hg_ hnew_; (first | rw [← zk.out] at ho102 | (simp only [Int.reduceToNat] at ho102; rw [← zk.out] at ho102)); have n0_ := A_ (Kd.Q_elder' (yaj_) (Kd.R_base ho102) hb); have n1_ := A_ (Kd.Q_elder' (yak_) (Kd.R_base ho102) hb); have n2_ := A_ (Kd.R_lower (Kd.R_new' (Kd.R_new' ho102 (Kd.Q_lt (yaj_))) (Kd.Q_lt (yak_))) (wZ_ (yac_))); have n3_ := A_ (bB_ (g := gb388) (o := .cells #[.bool t381, .bool true, .int .i64 t383, .int .i64 t384, .slice Ao10 t385.length co10] 47 (0, 0)) (by (ya_); refine blk_far ?_ zc.out _; (ya_); refine blk_far ?_ zc.out _; (ya_); refine blk_far ?_ zc.out _; (ya_); refine blk_far ?_ zc.out _; (ya_); refine blk_far ?_ zc.out _; (ya_); exact z.out) hb); have n4_ := A_ (bB_ (g := gb397) (o := .cells #[.bool t390, .bool t391, .int .i64 t392, .int .i64 t393, .slice Ao16 t394.length co16] 47 (0, 0)) (by (ya_); refine blk_far ?_ zd.out _; (ya_); refine blk_far ?_ zd.out _; (ya_); refine blk_far ?_ zd.out _; (ya_); refine blk_far ?_ zd.out _; (ya_); refine blk_far ?_ zd.out _; (ya_); exact z0.out) hb); have n5_ := A_ (bB_ (g := gb400) (o := .cells #[.bool t381, .bool true, .int .i64 t383, .int .i64 t384, .slice Ao10 t385.length co10] 47 (0, 0)) (yaq_) hb); have n6_ := A_ (wT_ (yac_) hb); clear z3; clear z4; clear z; clear z0; clear z1; clear HB; have z3 := n0_; have z4 := n1_; have z5 := n2_; have z := n3_; have z0 := n4_; have z1 := n5_; have HB := n6_; clear n0_ n1_ n2_ n3_ n4_ n5_ n6_; clear hb ho102; obtain ⟨Ao103, co103, eo103⟩ := Kd.R_slice z5.out; subst eo103; have hcz104_0 : w101.cell? ⟨gb400, 0, none⟩ = some (.bool t381) := (bC_ z1.out 0).trans rfl; have hcz104_1 : w101.cell? ⟨gb400, 1, none⟩ = some (.bool true) := (bC_ z1.out 1).trans rfl; have hcz104_2 : w101.cell? ⟨gb400, 2, none⟩ = some (.int .i64 t383) := (bC_ z1.out 2).trans rfl; have hcz104_3 : w101.cell? ⟨gb400, 3, none⟩ = some (.int .i64 t384) := (bC_ z1.out 3).trans rfl; have hcz104_4 : w101.cell? ⟨gb400, 4, none⟩ = some (.slice Ao10 t385.length co10) := (bC_ z1.out 4).trans rfl; have hfz104_0 := bF_ z1.out 0; have hfz104_1 := bF_ z1.out 1; have hfz104_2 := bF_ z1.out 2; have hfz104_3 := bF_ z1.out 3; have hfz104_4 := bF_ z1.out 4; have hcz105_0 : w101.cell? ⟨gb388, 0, none⟩ = some (.bool t381) := (bC_ z.out 0).trans rfl; have hcz105_1 : w101.cell? ⟨gb388, 1, none⟩ = some (.bool true) := (bC_ z.out 1).trans rfl; have hcz105_2 : w101.cell? ⟨gb388, 2, none⟩ = some (.int .i64 t383) := (bC_ z.out 2).trans rfl; have hcz105_3 : w101.cell? ⟨gb388, 3, none⟩ = some (.int .i64 t384) := (bC_ z.out 3).trans rfl; have hcz105_4 : w101.cell? ⟨gb388, 4, none⟩ = some (.slice Ao10 t385.length co10) := (bC_ z.out 4).trans rfl; have hfz105_0 := bF_ z.out 0; have hfz105_1 := bF_ z.out 1; have hfz105_2 := bF_ z.out 2; have hfz105_3 := bF_ z.out 3; have hfz105_4 := bF_ z.out 4) | ((with_reducible refine gate_dst (N := 7) rfl ?_); (ybd_); refine box_event ?hg (N := 7) ?hd (cs := #[.bool false, .bool false, .int .i64 0, .int .i64 0, .slice none 0 0]) (t := 47) ?hr ?_; (case hd => rfl); (case hg => rfl); (yas_); intro gb404 hg w106 hbox hb; have n0_ := A_ (Kd.Q_below (by (yaa_); exact (Kd.Q_mono (Kd.Q_far (p := ⟨gb400, 4, none⟩) (Kd.Q_types z3.out z1.out (by decide)) (fun _ hk => hk.2) (.slice Ao103 y401.length co103)) (fun _ h_ => h_.1))) hb); have n1_ := A_ (Kd.Q_below (by (yaa_); exact (Kd.Q_mono (Kd.Q_far (p := ⟨gb400, 4, none⟩) (Kd.Q_types z4.out z1.out (by decide)) (fun _ hk => hk.2) (.slice Ao103 y401.length co103)) (fun _ h_ => h_.1))) hb); have n2_ := A_ (rB_ (by (yah_); exact (rM_ (Kd.R_far (p := ⟨gb400, 4, none⟩) (Kd.R_types z5.out z1.out (by decide)) (fun _ hk => hk.2) (.slice Ao103 y401.length co103)) (fun _ h_ => h_.1))) hb); have n3_ := A_ (bB_ (g := gb388) (o := .cells #[.bool t381, .bool true, .int .i64 t383, .int .i64 t384, .slice Ao10 t385.length co10] 47 (0, 0)) (ybf_) hb); have n4_ := A_ (bB_ (g := gb397) (o := .cells #[.bool t390, .bool t391, .int .i64 t392, .int .i64 t393, .slice Ao16 t394.length co16] 47 (0, 0)) (by (ya_); refine blk_far ?_ zd.out _; (ya_); exact z0.out) hb); have n5_ := A_ (bB_ (g := gb400) (o := .cells #[.bool t381, .bool true, .int .i64 t383, .int .i64 t384, .slice Ao103 y401.length co103] 47 (0, 0)) (yan_) hb); have n6_ := A_ (wT_ (yac_) hb); have n7_ := A_ (hbox); have n8_ := A_ ((by rw [hg]; exact (wZ_ (yac_)) : w.heap.size ≤ gb404)); have n9_ := A_ ((by rw [hg]; exact (wZ_ (yac_)) : w.heap.size ≤ gb404)); have n10_ := A_ ((by rw [hg]; exact Nat.ne_of_lt (blk_lt (g := gb388) (o := .cells #[.bool t381, .bool true, .int .i64 t383, .int .i64 t384, .slice Ao10 t385.length co10] 47 (0, 0)) (ybf_)) : gb388 ≠ gb404)); have n11_ := A_ ((by rw [hg]; exact Nat.ne_of_gt (blk_lt (g := gb388) (o := .cells #[.bool t381, .bool true, .int .i64 t383, .int .i64 t384, .slice Ao10 t385.length co10] 47 (0, 0)) (ybf_)) : gb404 ≠ gb388)); have n12_ := A_ ((yat_)); have n13_ := A_ ((yau_)); have n14_ := A_ ((by rw [hg]; exact Nat.ne_of_lt (blk_lt (g := gb400) (o := .cells #[.bool t381, .bool true, .int .i64 t383, .int .i64 t384, .slice Ao103 y401.length co103] 47 (0, 0)) (yan_)) : gb400 ≠ gb404)); have n15_ := A_ ((by rw [hg]; exact Nat.ne_of_gt (blk_lt (g := gb400) (o := .cells #[.bool t381, .bool true, .int .i64 t383, .int .i64 t384, .slice Ao103 y401.length co103] 47 (0, 0)) (yan_)) : gb404 ≠ gb400)); clear z3; clear z4; clear z5; clear z; clear z0; clear z1; clear HB; have z3 := n0_; have z4 := n1_; have z5 := n2_; have z := n3_; have z0 := n4_; have z1 := n5_; have HB := n6_; have z2 := n7_; have zw := n8_; have zh := n9_; have ze := n10_; have zo := n11_; have zf := n12_; have zp := n13_; have zg := n14_; have zq := n15_; clear n0_ n1_ n2_ n3_ n4_ n5_ n6_ n7_ n8_ n9_ n10_ n11_ n12_ n13_ n14_ n15_; clear hb hbox hg; have hnb107 := zo.out; have hnc107 := ze.out; have hnb108 := zp.out; have hnc108 := zf.out; have hnb109 := zq.out; have hnc109 := zg.out; have hcz110_0 : w106.cell? ⟨gb404, 0, none⟩ = some (.bool false) := (bC_ z2.out 0).trans rfl; have hcz110_1 : w106.cell? ⟨gb404, 1, none⟩ = some (.bool false) := (bC_ z2.out 1).trans rfl; have hcz110_2 : w106.cell? ⟨gb404, 2, none⟩ = some (.int .i64 0) := (bC_ z2.out 2).trans rfl; have hcz110_3 : w106.cell? ⟨gb404, 3, none⟩ = some (.int .i64 0) := (bC_ z2.out 3).trans rfl; have hcz110_4 : w106.cell? ⟨gb404, 4, none⟩ = some (.slice none 0 0) := (bC_ z2.out 4).trans rfl; have hfz110_0 := bF_ z2.out 0; have hfz110_1 := bF_ z2.out 1; have hfz110_2 := bF_ z2.out 2; have hfz110_3 := bF_ z2.out 3; have hfz110_4 := bF_ z2.out 4))
           have n0_ : Aside0 (Kd.Q (Kd.int .i64) 3 (yae_) w.heap.size (fun k_ => some k_ ≠ (.slice Ao16 t394.length co16 : Value).ownBlock ∧ some k_ ≠ (.slice Ao103 y401.length co103 : Value).ownBlock) (.slice Ao10 t385.length co10) t385) := ⟨by (yaa_); exact Kd.Q_mono (Kd.Q_far (p := ⟨gb404, 1, none⟩) (Kd.Q_far (p := ⟨gb404, 4, none⟩) (Kd.Q_far (p := ⟨gb404, 3, none⟩) (Kd.Q_far (p := ⟨gb404, 2, none⟩) (Kd.Q_far (p := ⟨gb404, 1, none⟩) (Kd.Q_far (p := ⟨gb404, 0, none⟩) (Kd.Q_types z3.out z2.out (by decide)) (fun _ hk => hk.2) (.bool t381)) (fun _ hk => hk.2) (.bool true)) (fun _ hk => hk.2) (.int .i64 t383)) (fun _ hk => hk.2) (.int .i64 t384)) (fun _ hk => hk.2) (.slice Ao10 t385.length co10)) (fun _ hk => hk.2) (.bool false)) (fun _ hk => ⟨hk.1.1, hk.1.2⟩)⟩
           have n1_ : Aside0 (Kd.Q (Kd.int .i64) 3 (yae_) w.heap.size (fun k_ => some k_ ≠ (.slice Ao10 t385.length co10 : Value).ownBlock ∧ some k_ ≠ (.slice Ao103 y401.length co103 : Value).ownBlock) (.slice Ao16 t394.length co16) t394) := ⟨by (yaa_); exact Kd.Q_mono (Kd.Q_far (p := ⟨gb404, 1, none⟩) (Kd.Q_far (p := ⟨gb404, 4, none⟩) (Kd.Q_far (p := ⟨gb404, 3, none⟩) (Kd.Q_far (p := ⟨gb404, 2, none⟩) (Kd.Q_far (p := ⟨gb404, 1, none⟩) (Kd.Q_far (p := ⟨gb404, 0, none⟩) (Kd.Q_types z4.out z2.out (by decide)) (fun _ hk => hk.2) (.bool t381)) (fun _ hk => hk.2) (.bool true)) (fun _ hk => hk.2) (.int .i64 t383)) (fun _ hk => hk.2) (.int .i64 t384)) (fun _ hk => hk.2) (.slice Ao10 t385.length co10)) (fun _ hk => hk.2) (.bool false)) (fun _ hk => ⟨hk.1.1, hk.1.2⟩)⟩
           have n2_ : Aside0 (Kd.R (Kd.int .i64) 3 (yae_) w.heap.size (fun k_ => some k_ ≠ (.slice Ao10 t385.length co10 : Value).ownBlock ∧ some k_ ≠ (.slice Ao16 t394.length co16 : Value).ownBlock) (.slice Ao103 y401.length co103) y401) := ⟨by (yah_); exact rM_ (Kd.R_far (p := ⟨gb404, 1, none⟩) (Kd.R_far (p := ⟨gb404, 4, none⟩) (Kd.R_far (p := ⟨gb404, 3, none⟩) (Kd.R_far (p := ⟨gb404, 2, none⟩) (Kd.R_far (p := ⟨gb404, 1, none⟩) (Kd.R_far (p := ⟨gb404, 0, none⟩) (Kd.R_types z5.out z2.out (by decide)) (fun _ hk => hk.2) (.bool t381)) (fun _ hk => hk.2) (.bool true)) (fun _ hk => hk.2) (.int .i64 t383)) (fun _ hk => hk.2) (.int .i64 t384)) (fun _ hk => hk.2) (.slice Ao10 t385.length co10)) (fun _ hk => hk.2) (.bool false)) (fun _ hk => ⟨hk.1.1.2, hk.1.2⟩)⟩
           have n3_ : Aside0 ((yae_).heap[gb388]? = some (.cells #[.bool t381, .bool true, .int .i64 t383, .int .i64 t384, .slice Ao10 t385.length co10] 47 (0, 0))) := ⟨by (ya_); refine blk_far ?_ ze.out _; (ya_); refine blk_far ?_ ze.out _; (ya_); refine blk_far ?_ ze.out _; (ya_); refine blk_far ?_ ze.out _; (ya_); refine blk_far ?_ ze.out _; (ya_); refine blk_far ?_ ze.out _; (ya_); exact z.out⟩
           have n4_ : Aside0 ((yae_).heap[gb397]? = some (.cells #[.bool t390, .bool t391, .int .i64 t392, .int .i64 t393, .slice Ao16 t394.length co16] 47 (0, 0))) := ⟨by (ya_); refine blk_far ?_ zf.out _; (ya_); refine blk_far ?_ zf.out _; (ya_); refine blk_far ?_ zf.out _; (ya_); refine blk_far ?_ zf.out _; (ya_); refine blk_far ?_ zf.out _; (ya_); refine blk_far ?_ zf.out _; (ya_); exact z0.out⟩
           have n5_ : Aside0 ((yae_).heap[gb400]? = some (.cells #[.bool t381, .bool true, .int .i64 t383, .int .i64 t384, .slice Ao103 y401.length co103] 47 (0, 0))) := ⟨by (ya_); refine blk_far ?_ zg.out _; (ya_); refine blk_far ?_ zg.out _; (ya_); refine blk_far ?_ zg.out _; (ya_); refine blk_far ?_ zg.out _; (ya_); refine blk_far ?_ zg.out _; (ya_); refine blk_far ?_ zg.out _; (ya_); exact z1.out⟩
           have n6_ : Aside0 ((yae_).heap[gb404]? = some (.cells #[.bool t381, .bool false, .int .i64 t383, .int .i64 t384, .slice Ao10 t385.length co10] 47 (0, 0))) := ⟨by (ya_); refine blk_put (cs := #[.bool t381, .bool true, .int .i64 t383, .int .i64 t384, .slice Ao10 t385.length co10]) ?_ 1 _ rfl; (ya_); refine blk_put (cs := #[.bool t381, .bool true, .int .i64 t383, .int .i64 t384, .slice none 0 0]) ?_ 4 _ rfl; (ya_); refine blk_put (cs := #[.bool t381, .bool true, .int .i64 t383, .int .i64 0, .slice none 0 0]) ?_ 3 _ rfl; (ya_); refine blk_put (cs := #[.bool t381, .bool true, .int .i64 0, .int .i64 0, .slice none 0 0]) ?_ 2 _ rfl; (ya_); refine blk_put (cs := #[.bool t381, .bool false, .int .i64 0, .int .i64 0, .slice none 0 0]) ?_ 1 _ rfl; (ya_); refine blk_put (cs := #[.bool false, .bool false, .int .i64 0, .int .i64 0, .slice none 0 0]) ?_ 0 _ rfl; (ya_); exact z2.out⟩
           have n7_ : Aside0 (Below w.heap.size w (yae_)) := ⟨by repeat (yag_)⟩
           (try clear z3)
           (try clear z4)
           (try clear z5)
           (try clear z)
           (try clear z0)
           (try clear z1)
           (try clear z2)
           (try clear HB)
           generalize (yae_) = w111 at n0_ n1_ n2_ n3_ n4_ n5_ n6_ n7_ ⊢
           have z3 := n0_
           have z4 := n1_
           have z5 := n2_
           have z := n3_
           have z0 := n4_
           have z1 := n5_
           have z2 := n6_
           have HB := n7_
           clear n0_ n1_ n2_ n3_ n4_ n5_ n6_ n7_
           have n0_ := A_ (Kd.Q_drew z3.out)
           have n1_ := A_ (Kd.Q_drew z4.out)
           have n2_ := A_ (rD_ z5.out)
           have n3_ := A_ (bD_ z.out)
           have n4_ := A_ (bD_ z0.out)
           have n5_ := A_ (bD_ z1.out)
           have n6_ := A_ (bD_ z2.out)
           have n7_ := A_ (wD_ HB.out)
           clear z3
           clear z4
           clear z5
           clear z
           clear z0
           clear z1
           clear z2
           clear HB
           have z3 := n0_
           have z4 := n1_
           have z5 := n2_
           have z := n3_
           have z0 := n4_
           have z1 := n5_
           have z2 := n6_
           have HB := n7_
           clear n0_ n1_ n2_ n3_ n4_ n5_ n6_ n7_
           refine start_ (n := 31) (S := fun w' => w'.cell? ⟨gb400, 0, none⟩ = some (.bool t381) ∧ w'.cell? ⟨gb400, 1, none⟩ = some (.bool true) ∧ w'.cell? ⟨gb400, 2, none⟩ = some (.int .i64 t383) ∧ w'.cell? ⟨gb400, 3, none⟩ = some (.int .i64 t384) ∧ w'.cell? ⟨gb400, 4, none⟩ = some (.slice Ao103 y401.length co103) ∧ w'.cell? ⟨gb388, 0, none⟩ = some (.bool t381) ∧ w'.cell? ⟨gb388, 1, none⟩ = some (.bool true) ∧ w'.cell? ⟨gb388, 2, none⟩ = some (.int .i64 t383) ∧ w'.cell? ⟨gb388, 3, none⟩ = some (.int .i64 t384) ∧ w'.cell? ⟨gb388, 4, none⟩ = some (.slice Ao10 t385.length co10) ∧ w'.cell? ⟨gb404, 0, none⟩ = some (.bool t381) ∧ w'.cell? ⟨gb404, 1, none⟩ = some (.bool false) ∧ w'.cell? ⟨gb404, 2, none⟩ = some (.int .i64 t383) ∧ w'.cell? ⟨gb404, 3, none⟩ = some (.int .i64 t384) ∧ w'.cell? ⟨gb404, 4, none⟩ = some (.slice Ao10 t385.length co10)) (ds := []) (ybe_) (by kernel_rfl) rfl rfl ⟨(bC_ z1.out 0).trans rfl, (bC_ z1.out 1).trans rfl, (bC_ z1.out 2).trans rfl, (bC_ z1.out 3).trans rfl, (bC_ z1.out 4).trans rfl, (bC_ z.out 0).trans rfl, (bC_ z.out 1).trans rfl, (bC_ z.out 2).trans rfl, (bC_ z.out 3).trans rfl, (bC_ z.out 4).trans rfl, (bC_ z2.out 0).trans rfl, (bC_ z2.out 1).trans rfl, (bC_ z2.out 2).trans rfl, (bC_ z2.out 3).trans rfl, (bC_ z2.out 4).trans rfl⟩ (fun hHeld => ?_); refine with_tabW laws_FnInOk.tab14 laws_FnInOk.bits14 (fun HT_ HW_ => ?_)
           generalize w111.drew = w112 at z3 z4 z5 z z0 z1 z2 HB hHeld ⊢
           refine take_ (i := 0) (N := some 46) (v := ?_) (a' := ?_) (ybg_) rfl rfl (take_ofW HT_.out HW_.out (by kernel_rfl)) (fun _ _ _ h => h) (Or.inl ⟨by rfl, ?_⟩) hHeld ?_ ?_
           rotate_left
           ·rintro w' ⟨s0, s1, s2, s3, s4, s5, s6, s7, s8, s9, s10, s11, s12, s13, s14⟩
            go_simp
            with_reducible rfl
           rotate_left
           ·simp only [Act.put, sT_, s0_, s1_, i64_w, i32_w]
            rfl
           refine one_ (i := 1) (N := some 47) (ybh_) rfl rfl (one_of HT_.out (by kernel_rfl)) (by decide) (fun K hK => ?_)
           refine goes_ Try.func40 (by kernel_rfl) rfl #[.agg #[.bool t381, .bool true, .int .i64 t383, .int .i64 t384, .slice Ao103 y401.length co103]] (by rfl) rfl rfl (yal_) ?_
           with_reducible refine (impl_InOk.calls kj5 t381 true t383 t384 _ _ y401 false _ ?side1 ?side2 A51.out).mono ?_
           (case side1 => repeat (first | exact (Kd.R_reads' z5.out).2.2 | (with_reducible refine Kd.C_alloc ?_ _) | (with_reducible refine Kd.C_drewN ?_ _) | (with_reducible refine Kd.C_drew ?_)))
           (case side2 => exact (Kd.R_reads' z5.out).2.1)
           rintro e w113 ⟨rfl, hb⟩
           refine ⟨_, rfl, ?_⟩
           have n0_ := A_ (Kd.Q_below (by (yaa_); exact z3.out) hb)
           have n1_ := A_ (Kd.Q_below (by (yaa_); exact z4.out) hb)
           have n2_ := A_ (rB_ (by (yah_); exact z5.out) hb)
           have n3_ := A_ (bB_ (g := gb388) (o := .cells #[.bool t381, .bool true, .int .i64 t383, .int .i64 t384, .slice Ao10 t385.length co10] 47 (0, 0)) (by (ya_); exact z.out) hb)
           have n4_ := A_ (bB_ (g := gb397) (o := .cells #[.bool t390, .bool t391, .int .i64 t392, .int .i64 t393, .slice Ao16 t394.length co16] 47 (0, 0)) (by (ya_); exact z0.out) hb)
           have n5_ := A_ (bB_ (g := gb400) (o := .cells #[.bool t381, .bool true, .int .i64 t383, .int .i64 t384, .slice Ao103 y401.length co103] 47 (0, 0)) (by (ya_); exact z1.out) hb)
           have n6_ := A_ (bB_ (g := gb404) (o := .cells #[.bool t381, .bool false, .int .i64 t383, .int .i64 t384, .slice Ao10 t385.length co10] 47 (0, 0)) (by (ya_); exact z2.out) hb)
           have n7_ := A_ (wT_ (by repeat (yag_)) hb)
           clear z3
           clear z4
           clear z5
           clear z
           clear z0
           clear z1
           clear z2
           clear HB
           have z3 := n0_
           have z4 := n1_
           have z5 := n2_
           have z := n3_
           have z0 := n4_
           have z1 := n5_
           have z2 := n6_
           have HB := n7_
           clear n0_ n1_ n2_ n3_ n4_ n5_ n6_ n7_
           (try clear hb)
           (try clear hb2)
           (try clear hk)
           (try clear hi)
           refine hK.out _ _ ⟨(bC_ z1.out 0).trans rfl, (bC_ z1.out 1).trans rfl, (bC_ z1.out 2).trans rfl, (bC_ z1.out 3).trans rfl, (bC_ z1.out 4).trans rfl, (bC_ z.out 0).trans rfl, (bC_ z.out 1).trans rfl, (bC_ z.out 2).trans rfl, (bC_ z.out 3).trans rfl, (bC_ z.out 4).trans rfl, (bC_ z2.out 0).trans rfl, (bC_ z2.out 1).trans rfl, (bC_ z2.out 2).trans rfl, (bC_ z2.out 3).trans rfl, (bC_ z2.out 4).trans rfl⟩ (fun hHeld => ?_)
           clear hK K
           refine norm_ (a' := ?_) ?_ ?_
           rotate_left
           ·show Act.put _ (some 47) _ = _
            simp only [Act.put, sT_, s0_, s1_, i64_w, i32_w]
            rfl
           refine pure_ (i := 2) (N := some 48) (v := ?_) (a' := ?_) (ybi_) rfl rfl (any_of HT_.out (by kernel_rfl)) (fun _ _ _ h => h) (Or.inl ⟨by rfl, ?_⟩) ?_ ?_
           rotate_left
           ·intro w'
            go_simp
            with_reducible rfl
           rotate_left
           ·simp only [Act.put, sT_, s0_, s1_, i64_w, i32_w]
            rfl
           refine pure_ (i := 3) (N := some 49) (v := ?_) (a' := ?_) (ybj_) rfl rfl (any_of HT_.out (by kernel_rfl)) (fun _ _ _ h => h) (Or.inl ⟨by rfl, ?_⟩) ?_ ?_
           rotate_left
           ·intro w'
            go_simp
            with_reducible rfl
           rotate_left
           ·simp only [Act.put, sT_, s0_, s1_, i64_w, i32_w]
            rfl
           refine pure_ (i := 4) (N := some 50) (v := ?_) (a' := ?_) (ybl_) rfl rfl (any_of HT_.out (by kernel_rfl)) (fun _ _ _ h => h) (Or.inl ⟨by rfl, ?_⟩) ?_ ?_
           rotate_left
           ·intro w'
            go_simp
            with_reducible rfl
           rotate_left
           ·simp only [Act.put, sT_, s0_, s1_, i64_w, i32_w]
            rfl
           refine take_ (i := 5) (N := some 51) (v := ?_) (a' := ?_) (ybm_) rfl rfl (take_ofW HT_.out HW_.out (by kernel_rfl)) (fun _ _ _ h => h) (Or.inl ⟨by rfl, ?_⟩) hHeld ?_ ?_
           rotate_left
           ·rintro w' ⟨s0, s1, s2, s3, s4, s5, s6, s7, s8, s9, s10, s11, s12, s13, s14⟩
            go_simp
            with_reducible rfl
           rotate_left
           ·simp only [Act.put, sT_, s0_, s1_, i64_w, i32_w]
            rfl
           refine pure_ (i := 6) (N := some 52) (v := ?_) (a' := ?_) (ybn_) rfl rfl (any_of HT_.out (by kernel_rfl)) (fun _ _ _ h => h) (Or.inl ⟨by rfl, ?_⟩) ?_ ?_
           rotate_left
           ·intro w'
            go_simp
            with_reducible rfl
           rotate_left
           ·simp only [Act.put, sT_, s0_, s1_, i64_w, i32_w]
            rfl
           refine pure_ (i := 7) (N := some 53) (v := undef) (a' := ?_) (ybo_) rfl rfl (any_of HT_.out (by kernel_rfl)) (fun _ _ _ h => h) (Or.inr ⟨by rfl, rfl⟩) ?_ ?_
           rotate_left
           ·simp only [Act.put, sT_, s0_, s1_, i64_w, i32_w]
            rfl
           refine pure_ (i := 8) (N := some 54) (v := undef) (a' := ?_) (ybr_) rfl rfl (any_of HT_.out (by kernel_rfl)) (fun _ _ _ h => h) (Or.inr ⟨by rfl, rfl⟩) ?_ ?_
           rotate_left
           ·simp only [Act.put, sT_, s0_, s1_, i64_w, i32_w]
            rfl
           refine pure_ (i := 9) (N := some 55) (v := undef) (a' := ?_) (ybs_) rfl rfl (any_of HT_.out (by kernel_rfl)) (fun _ _ _ h => h) (Or.inr ⟨by rfl, rfl⟩) ?_ ?_
           rotate_left
           ·simp only [Act.put, sT_, s0_, s1_, i64_w, i32_w]
            rfl
           refine pure_ (i := 10) (N := some 56) (v := undef) (a' := ?_) (ybt_) rfl rfl (any_of HT_.out (by kernel_rfl)) (fun _ _ _ h => h) (Or.inr ⟨by rfl, rfl⟩) ?_ ?_
           rotate_left
           ·simp only [Act.put, sT_, s0_, s1_, i64_w, i32_w]
            rfl
           refine pure_ (i := 11) (N := some 57) (v := undef) (a' := ?_) (ybu_) rfl rfl (any_of HT_.out (by kernel_rfl)) (fun _ _ _ h => h) (Or.inr ⟨by rfl, rfl⟩) ?_ ?_
           rotate_left
           ·simp only [Act.put, sT_, s0_, s1_, i64_w, i32_w]
            rfl
           refine pure_ (i := 12) (N := some 58) (v := undef) (a' := ?_) (ybv_) rfl rfl (any_of HT_.out (by kernel_rfl)) (fun _ _ _ h => h) (Or.inr ⟨by rfl, rfl⟩) ?_ ?_
           rotate_left
           ·simp only [Act.put, sT_, s0_, s1_, i64_w, i32_w]
            rfl
           refine pure_ (i := 13) (N := some 59) (v := undef) (a' := ?_) #[true, true, true, true, true, true, true, true, true, true, true, true, true, true, false, false, false, false, false, false, false, false, false, false, false, false, false, false, false, false, false] rfl rfl (any_of HT_.out (by kernel_rfl)) (fun _ _ _ h => h) (Or.inr ⟨by rfl, rfl⟩) ?_ ?_
           rotate_left
           ·simp only [Act.put, sT_, s0_, s1_, i64_w, i32_w]
            rfl
           refine pure_ (i := 14) (N := some 60) (v := undef) (a' := ?_) #[true, true, true, true, true, true, true, true, true, true, true, true, true, true, true, false, false, false, false, false, false, false, false, false, false, false, false, false, false, false, false] rfl rfl (any_of HT_.out (by kernel_rfl)) (fun _ _ _ h => h) (Or.inr ⟨by rfl, rfl⟩) ?_ ?_
           rotate_left
           ·simp only [Act.put, sT_, s0_, s1_, i64_w, i32_w]
            rfl
           refine pure_ (i := 15) (N := some 61) (v := ?_) (a' := ?_) #[true, true, true, true, true, true, true, true, true, true, true, true, true, true, true, true, false, false, false, false, false, false, false, false, false, false, false, false, false, false, false] rfl rfl (any_of HT_.out (by kernel_rfl)) (fun _ _ _ h => h) (Or.inl ⟨by rfl, ?_⟩) ?_ ?_
           rotate_left
           ·intro w'
            go_simp
            with_reducible rfl
           rotate_left
           ·simp only [Act.put, sT_, s0_, s1_, i64_w, i32_w]
            rfl
           refine pure_ (i := 16) (N := some 62) (v := ?_) (a' := ?_) #[true, true, true, true, true, true, true, true, true, true, true, true, true, true, true, true, true, false, false, false, false, false, false, false, false, false, false, false, false, false, false] rfl rfl (any_of HT_.out (by kernel_rfl)) (fun _ _ _ h => h) (Or.inl ⟨by rfl, ?_⟩) ?_ ?_
           rotate_left
           ·intro w'
            go_simp
            with_reducible rfl
           rotate_left
           ·simp only [Act.put, sT_, s0_, s1_, i64_w, i32_w]
            rfl
           refine pure_ (i := 17) (N := some 63) (v := ?_) (a' := ?_) #[true, true, true, true, true, true, true, true, true, true, true, true, true, true, true, true, true, true, false, false, false, false, false, false, false, false, false, false, false, false, false] rfl rfl (any_of HT_.out (by kernel_rfl)) (fun _ _ _ h => h) (Or.inl ⟨by rfl, ?_⟩) ?_ ?_
           rotate_left
           ·intro w'
            go_simp
            with_reducible rfl
           rotate_left
           ·simp only [Act.put, sT_, s0_, s1_, i64_w, i32_w]
            rfl
           refine pure_ (i := 20) (N := some 66) (v := ?_) (a' := ?_) #[true, true, true, true, true, true, true, true, true, true, true, true, true, true, true, true, true, true, false, false, true, false, false, false, false, false, false, false, false, false, false] rfl rfl (any_of HT_.out (by kernel_rfl)) (fun _ _ _ h => h) (Or.inl ⟨by rfl, ?_⟩) ?_ ?_
           rotate_left
           ·intro w'
            go_simp
            with_reducible rfl
           rotate_left
           ·simp only [Act.put, sT_, s0_, s1_, i64_w, i32_w]
            rfl
           refine take_ (i := 18) (N := some 64) (v := ?_) (a' := ?_) #[true, true, true, true, true, true, true, true, true, true, true, true, true, true, true, true, true, true, true, false, true, false, false, false, false, false, false, false, false, false, false] rfl rfl (take_ofW HT_.out HW_.out (by kernel_rfl)) (fun _ _ _ h => h) (Or.inl ⟨by rfl, ?_⟩) hHeld ?_ ?_
           rotate_left
           ·rintro w' ⟨s0, s1, s2, s3, s4, s5, s6, s7, s8, s9, s10, s11, s12, s13, s14⟩
            go_simp
            with_reducible rfl
           rotate_left
           ·simp only [Act.put, sT_, s0_, s1_, i64_w, i32_w]
            rfl
           refine take_ (i := 21) (N := some 67) (v := ?_) (a' := ?_) #[true, true, true, true, true, true, true, true, true, true, true, true, true, true, true, true, true, true, true, false, true, true, false, false, false, false, false, false, false, false, false] rfl rfl (take_ofW HT_.out HW_.out (by kernel_rfl)) (fun _ _ _ h => h) (Or.inl ⟨by rfl, ?_⟩) hHeld ?_ ?_
           rotate_left
           ·rintro w' ⟨s0, s1, s2, s3, s4, s5, s6, s7, s8, s9, s10, s11, s12, s13, s14⟩
            go_simp
            with_reducible rfl
           rotate_left
           ·simp only [Act.put, sT_, s0_, s1_, i64_w, i32_w]
            rfl
           refine pure_ (i := 22) (N := some 68) (v := ?_) (a' := ?_) #[true, true, true, true, true, true, true, true, true, true, true, true, true, true, true, true, true, true, true, false, true, true, true, false, false, false, false, false, false, false, false] rfl rfl (any_of HT_.out (by kernel_rfl)) (fun _ _ _ h => h) (Or.inl ⟨by rfl, ?_⟩) ?_ ?_
           rotate_left
           ·intro w'
            go_simp
            with_reducible rfl
           rotate_left
           ·simp only [Act.put, sT_, s0_, s1_, i64_w, i32_w]
            rfl
           refine one_ (i := 19) (N := some 65) #[true, true, true, true, true, true, true, true, true, true, true, true, true, true, true, true, true, true, true, true, true, true, true, false, false, false, false, false, false, false, false] rfl rfl (one_of HT_.out (by kernel_rfl)) (by decide) (fun K hK => ?_)
           refine goes_ Try.func40 (by kernel_rfl) rfl #[.agg #[.bool t381, .bool false, .int .i64 t383, .int .i64 t384, .slice Ao10 t385.length co10]] (by rfl) rfl rfl (yal_) ?_
           with_reducible refine (impl_InOk.calls kj5 t381 false t383 t384 _ _ t385 t406 _ ?side1 ?side2 A73.out).mono ?_
           (case side1 => repeat (first | exact (Kd.Q_reads' z3.out).2.2 | (with_reducible refine Kd.C_alloc ?_ _) | (with_reducible refine Kd.C_drewN ?_ _) | (with_reducible refine Kd.C_drew ?_)))
           (case side2 => exact (Kd.Q_reads' z3.out).2.1)
           rintro e w114 ⟨rfl, hb⟩
           refine ⟨_, rfl, ?_⟩
           have n0_ := A_ (Kd.Q_below (by (yaa_); exact z3.out) hb)
           have n1_ := A_ (Kd.Q_below (by (yaa_); exact z4.out) hb)
           have n2_ := A_ (rB_ (by (yah_); exact z5.out) hb)
           have n3_ := A_ (bB_ (g := gb388) (o := .cells #[.bool t381, .bool true, .int .i64 t383, .int .i64 t384, .slice Ao10 t385.length co10] 47 (0, 0)) (by (ya_); exact z.out) hb)
           have n4_ := A_ (bB_ (g := gb397) (o := .cells #[.bool t390, .bool t391, .int .i64 t392, .int .i64 t393, .slice Ao16 t394.length co16] 47 (0, 0)) (by (ya_); exact z0.out) hb)
           have n5_ := A_ (bB_ (g := gb400) (o := .cells #[.bool t381, .bool true, .int .i64 t383, .int .i64 t384, .slice Ao103 y401.length co103] 47 (0, 0)) (by (ya_); exact z1.out) hb)
           have n6_ := A_ (bB_ (g := gb404) (o := .cells #[.bool t381, .bool false, .int .i64 t383, .int .i64 t384, .slice Ao10 t385.length co10] 47 (0, 0)) (by (ya_); exact z2.out) hb)
           have n7_ := A_ (wT_ (by repeat (yag_)) hb)
           clear z3
           clear z4
           clear z5
           clear z
           clear z0
           clear z1
           clear z2
           clear HB
           have z3 := n0_
           have z4 := n1_
           have z5 := n2_
           have z := n3_
           have z0 := n4_
           have z1 := n5_
           have z2 := n6_
           have HB := n7_
           clear n0_ n1_ n2_ n3_ n4_ n5_ n6_ n7_
           (try clear hb)
           (try clear hb2)
           (try clear hk)
           (try clear hi)
           refine hK.out _ _ ⟨(bC_ z1.out 0).trans rfl, (bC_ z1.out 1).trans rfl, (bC_ z1.out 2).trans rfl, (bC_ z1.out 3).trans rfl, (bC_ z1.out 4).trans rfl, (bC_ z.out 0).trans rfl, (bC_ z.out 1).trans rfl, (bC_ z.out 2).trans rfl, (bC_ z.out 3).trans rfl, (bC_ z.out 4).trans rfl, (bC_ z2.out 0).trans rfl, (bC_ z2.out 1).trans rfl, (bC_ z2.out 2).trans rfl, (bC_ z2.out 3).trans rfl, (bC_ z2.out 4).trans rfl⟩ (fun hHeld => ?_)
           clear hK K
           refine norm_ (a' := ?_) ?_ ?_
           rotate_left
           ·show Act.put _ (some 65) _ = _
            simp only [Act.put, sT_, s0_, s1_, i64_w, i32_w]
            rfl
           refine pure_ (i := 23) (N := some 69) (v := ?_) (a' := ?_) #[true, true, true, true, true, true, true, true, true, true, true, true, true, true, true, true, true, true, true, true, true, true, true, true, false, false, false, false, false, false, false] rfl rfl (any_of HT_.out (by kernel_rfl)) (fun _ _ _ h => h) (Or.inl ⟨by rfl, ?_⟩) ?_ ?_
           rotate_left
           ·intro w'
            go_simp
            with_reducible rfl
           rotate_left
           ·simp only [Act.put, sT_, s0_, s1_, i64_w, i32_w]
            rfl
           refine pure_ (i := 24) (N := some 70) (v := undef) (a' := ?_) #[true, true, true, true, true, true, true, true, true, true, true, true, true, true, true, true, true, true, true, true, true, true, true, true, true, false, false, false, false, false, false] rfl rfl (any_of HT_.out (by kernel_rfl)) (fun _ _ _ h => h) (Or.inr ⟨by rfl, rfl⟩) ?_ ?_
           rotate_left
           ·simp only [Act.put, sT_, s0_, s1_, i64_w, i32_w]
            rfl
           refine pure_ (i := 25) (N := some 71) (v := undef) (a' := ?_) #[true, true, true, true, true, true, true, true, true, true, true, true, true, true, true, true, true, true, true, true, true, true, true, true, true, true, false, false, false, false, false] rfl rfl (any_of HT_.out (by kernel_rfl)) (fun _ _ _ h => h) (Or.inr ⟨by rfl, rfl⟩) ?_ ?_
           rotate_left
           ·simp only [Act.put, sT_, s0_, s1_, i64_w, i32_w]
            rfl
           refine pure_ (i := 26) (N := some 72) (v := undef) (a' := ?_) #[true, true, true, true, true, true, true, true, true, true, true, true, true, true, true, true, true, true, true, true, true, true, true, true, true, true, true, false, false, false, false] rfl rfl (any_of HT_.out (by kernel_rfl)) (fun _ _ _ h => h) (Or.inr ⟨by rfl, rfl⟩) ?_ ?_
           rotate_left
           ·simp only [Act.put, sT_, s0_, s1_, i64_w, i32_w]
            rfl
           refine pure_ (i := 27) (N := some 73) (v := ?_) (a' := ?_) #[true, true, true, true, true, true, true, true, true, true, true, true, true, true, true, true, true, true, true, true, true, true, true, true, true, true, true, true, false, false, false] rfl rfl (any_of HT_.out (by kernel_rfl)) (fun _ _ _ h => h) (Or.inl ⟨by rfl, ?_⟩) ?_ ?_
           rotate_left
           ·intro w'
            go_simp
            with_reducible rfl
           rotate_left
           ·simp only [Act.put, sT_, s0_, s1_, i64_w, i32_w]
            rfl
           refine pure_ (i := 28) (N := some 74) (v := ?_) (a' := ?_) #[true, true, true, true, true, true, true, true, true, true, true, true, true, true, true, true, true, true, true, true, true, true, true, true, true, true, true, true, true, false, false] rfl rfl (any_of HT_.out (by kernel_rfl)) (fun _ _ _ h => h) (Or.inl ⟨by rfl, ?_⟩) ?_ ?_
           rotate_left
           ·intro w'
            go_simp
            with_reducible rfl
           rotate_left
           ·simp only [Act.put, sT_, s0_, s1_, i64_w, i32_w]
            rfl
           refine pure_ (i := 29) (N := some 75) (v := ?_) (a' := ?_) #[true, true, true, true, true, true, true, true, true, true, true, true, true, true, true, true, true, true, true, true, true, true, true, true, true, true, true, true, true, true, false] rfl rfl (any_of HT_.out (by kernel_rfl)) (fun _ _ _ h => h) (Or.inl ⟨by rfl, ?_⟩) ?_ ?_
           rotate_left
           ·intro w'
            go_simp
            with_reducible rfl
           rotate_left
           ·simp only [Act.put, sT_, s0_, s1_, i64_w, i32_w]
            rfl
           refine pure_ (i := 30) (N := some 2) (v := ?_) (a' := ?_) #[true, true, true, true, true, true, true, true, true, true, true, true, true, true, true, true, true, true, true, true, true, true, true, true, true, true, true, true, true, true, true] rfl rfl (any_of HT_.out (by kernel_rfl)) (fun _ _ _ h => h) (Or.inl ⟨by rfl, ?_⟩) ?_ ?_
           rotate_left
           ·intro w'
            go_simp
            with_reducible rfl
           rotate_left
           ·simp only [Act.put, sT_, s0_, s1_, i64_w, i32_w]
            rfl
           refine done_ (done_of HT_.out (by kernel_rfl)) ?_
           try go_wp2
           go_ret
           exact ⟨by first | rfl | (simp [errW_none, errW_some] <;> rfl) | (simp [*, errW_none, errW_some] <;> rfl), by repeat (yag_)⟩)
       ·replace c72 := Bool.eq_false_iff.mpr c72
        subst c72
        have H1 : (if t383 = 0 then (if t384 = 0 then ((impl_InOk.f kj5 t381 false t383 t384 t385).bind fun t407 => (some (t407 == (t384 == 0)))) else (some false)) else (some false)) = some r := by rw [if_neg (show ¬ (false = true) by decide)] at H; exact H
        clear H
        have H := H1
        clear H1
        by_cases c115 : t383 = 0
        ·rw [if_pos c115] at H
         have c115b0 : (t383 == 0) = true := beq_iff_eq.mpr c115
         have c115b1 : (t383 != 0) = false := bne_eq_false_iff_eq.mpr c115
         clear c115
         by_cases c116 : t384 = 0
         ·rw [if_pos c116] at H
          have c116b0 : (t384 == 0) = true := beq_iff_eq.mpr c116
          have c116b1 : (t384 != 0) = false := bne_eq_false_iff_eq.mpr c116
          clear c116
          replace H := Option.bind_eq_some_iff.mp H
          obtain ⟨t407, A1170, H⟩ := H
          replace H : (some (t407 == (t384 == 0))) = some r := H
          have A117 := A_ A1170
          clear A1170
          obtain rfl := Option.some.inj H
          first
          | (exact absurd HR_.out (by decide))
          | (
            have hnb118 := za.out
            have hnc118 := zi.out
            have hcz119_0 : wc.cell? ⟨gb388, 0, none⟩ = some (.bool t381) := (bC_ z.out 0).trans rfl
            have hcz119_1 : wc.cell? ⟨gb388, 1, none⟩ = some (.bool false) := (bC_ z.out 1).trans rfl
            have hcz119_2 : wc.cell? ⟨gb388, 2, none⟩ = some (.int .i64 t383) := (bC_ z.out 2).trans rfl
            have hcz119_3 : wc.cell? ⟨gb388, 3, none⟩ = some (.int .i64 t384) := (bC_ z.out 3).trans rfl
            have hcz119_4 : wc.cell? ⟨gb388, 4, none⟩ = some (.slice Ao10 t385.length co10) := (bC_ z.out 4).trans rfl
            have hfz119_0 := bF_ z.out 0
            have hfz119_1 := bF_ z.out 1
            have hfz119_2 := bF_ z.out 2
            have hfz119_3 := bF_ z.out 3
            have hfz119_4 := bF_ z.out 4
            try go_wp2_with (first | ((with_reducible refine gate_dst (N := 6) rfl ?_); (ybd_); refine box_event ?hg (N := 6) ?hd (cs := #[.bool false, .bool false, .int .i64 0, .int .i64 0, .slice none 0 0]) (t := 47) ?hr ?_; (case hd => rfl); (case hg => rfl); (yas_); intro gb400 hg w120 hbox hb; have n0_ := A_ (Kd.Q_below (by (yaa_); exact z3.out) hb); have n1_ := A_ (Kd.Q_below (by (yaa_); exact z4.out) hb); have n2_ := A_ (bB_ (g := gb388) (o := .cells #[.bool t381, .bool false, .int .i64 t383, .int .i64 t384, .slice Ao10 t385.length co10] 47 (0, 0)) (by (ya_); exact z.out) hb); have n3_ := A_ (bB_ (g := gb397) (o := .cells #[.bool t390, .bool t391, .int .i64 t392, .int .i64 t393, .slice Ao16 t394.length co16] 47 (0, 0)) (by (ya_); exact z0.out) hb); have n4_ := A_ (wT_ (by repeat (yab_)) hb); have n5_ := A_ (hbox); have n6_ := A_ ((by rw [hg]; exact (wZ_ (by repeat (yab_))) : w.heap.size ≤ gb400)); have n7_ := A_ ((by rw [hg]; exact (wZ_ (by repeat (yab_))) : w.heap.size ≤ gb400)); have n8_ := A_ ((by rw [hg]; exact Nat.ne_of_lt (blk_lt (g := gb388) (o := .cells #[.bool t381, .bool false, .int .i64 t383, .int .i64 t384, .slice Ao10 t385.length co10] 47 (0, 0)) (by (ya_); exact z.out)) : gb388 ≠ gb400)); have n9_ := A_ ((by rw [hg]; exact Nat.ne_of_gt (blk_lt (g := gb388) (o := .cells #[.bool t381, .bool false, .int .i64 t383, .int .i64 t384, .slice Ao10 t385.length co10] 47 (0, 0)) (by (ya_); exact z.out)) : gb400 ≠ gb388)); have n10_ := A_ ((ybp_)); have n11_ := A_ ((ybq_)); clear z3; clear z4; clear z; clear z0; clear HB; have z3 := n0_; have z4 := n1_; have z := n2_; have z0 := n3_; have HB := n4_; have z1 := n5_; have zv := n6_; have zb := n7_; have zc := n8_; have zm := n9_; have zd := n10_; have zn := n11_; clear n0_ n1_ n2_ n3_ n4_ n5_ n6_ n7_ n8_ n9_ n10_ n11_; clear hb hbox hg; have hnb121 := zm.out; have hnc121 := zc.out; have hnb122 := zn.out; have hnc122 := zd.out; have hcz123_0 : w120.cell? ⟨gb400, 0, none⟩ = some (.bool false) := (bC_ z1.out 0).trans rfl; have hcz123_1 : w120.cell? ⟨gb400, 1, none⟩ = some (.bool false) := (bC_ z1.out 1).trans rfl; have hcz123_2 : w120.cell? ⟨gb400, 2, none⟩ = some (.int .i64 0) := (bC_ z1.out 2).trans rfl; have hcz123_3 : w120.cell? ⟨gb400, 3, none⟩ = some (.int .i64 0) := (bC_ z1.out 3).trans rfl; have hcz123_4 : w120.cell? ⟨gb400, 4, none⟩ = some (.slice none 0 0) := (bC_ z1.out 4).trans rfl; have hfz123_0 := bF_ z1.out 0; have hfz123_1 := bF_ z1.out 1; have hfz123_2 := bF_ z1.out 2; have hfz123_3 := bF_ z1.out 3; have hfz123_4 := bF_ z1.out 4) | ((with_reducible refine gate_dst (N := 42) rfl ?_); (ybd_); refine Kd.R_lit (Kd.int .i64) _ 3 ?hg (N := 42) ?hd (xs := ([0, 0, 0] : List Int)) (inner := [.int .i64 0, .int .i64 0, .int .i64 0]) (ok := fun _ => True) (okp := fun _ => True) ?hr ?hp (fun _ hk => hk) trivial (Below.refl _ _) (Nat.le_refl _) (by simp) ?_; (case hd => rfl); (case hg => rfl); (yas_); (yaw_); intro v402 w124 ho125 hb hg_ hnew_; clear hg_ hnew_; (first | rw [← zk.out] at ho125 | (simp only [Int.reduceToNat] at ho125; rw [← zk.out] at ho125)); have n0_ := A_ (Kd.Q_elder' (yaz_) (Kd.R_base ho125) hb); have n1_ := A_ (Kd.Q_elder' (yb_) (Kd.R_base ho125) hb); have n2_ := A_ (Kd.R_lower (Kd.R_new' (Kd.R_new' ho125 (Kd.Q_lt (yaz_))) (Kd.Q_lt (yb_))) (wZ_ (yac_))); have n3_ := A_ (bB_ (g := gb388) (o := .cells #[.bool t381, .bool false, .int .i64 t383, .int .i64 t384, .slice Ao10 t385.length co10] 47 (0, 0)) (by (ya_); refine blk_far ?_ zc.out _; (ya_); refine blk_far ?_ zc.out _; (ya_); refine blk_far ?_ zc.out _; (ya_); refine blk_far ?_ zc.out _; (ya_); refine blk_far ?_ zc.out _; (ya_); exact z.out) hb); have n4_ := A_ (bB_ (g := gb397) (o := .cells #[.bool t390, .bool t391, .int .i64 t392, .int .i64 t393, .slice Ao16 t394.length co16] 47 (0, 0)) (by (ya_); refine blk_far ?_ zd.out _; (ya_); refine blk_far ?_ zd.out _; (ya_); refine blk_far ?_ zd.out _; (ya_); refine blk_far ?_ zd.out _; (ya_); refine blk_far ?_ zd.out _; (ya_); exact z0.out) hb); have n5_ := A_ (bB_ (g := gb400) (o := .cells #[.bool t381, .bool false, .int .i64 t383, .int .i64 t384, .slice Ao10 t385.length co10] 47 (0, 0)) (by (ya_); refine blk_put (cs := #[.bool t381, .bool false, .int .i64 t383, .int .i64 t384, .slice none 0 0]) ?_ 4 _ rfl; (ya_); refine blk_put (cs := #[.bool t381, .bool false, .int .i64 t383, .int .i64 0, .slice none 0 0]) ?_ 3 _ rfl; (ya_); refine blk_put (cs := #[.bool t381, .bool false, .int .i64 0, .int .i64 0, .slice none 0 0]) ?_ 2 _ rfl; (ya_); refine blk_put (cs := #[.bool t381, .bool false, .int .i64 0, .int .i64 0, .slice none 0 0]) ?_ 1 _ rfl; (ya_); refine blk_put (cs := #[.bool false, .bool false, .int .i64 0, .int .i64 0, .slice none 0 0]) ?_ 0 _ rfl; (ya_); exact z1.out) hb); have n6_ := A_ (wT_ (yac_) hb); clear z3; clear z4; clear z; clear z0; clear z1; clear HB; have z3 := n0_; have z4 := n1_; have z5 := n2_; have z := n3_; have z0 := n4_; have z1 := n5_; have HB := n6_; clear n0_ n1_ n2_ n3_ n4_ n5_ n6_; clear hb ho125; obtain ⟨Ao126, co126, eo126⟩ := Kd.R_slice z5.out; subst eo126; have hcz127_0 : w124.cell? ⟨gb400, 0, none⟩ = some (.bool t381) := (bC_ z1.out 0).trans rfl; have hcz127_1 : w124.cell? ⟨gb400, 1, none⟩ = some (.bool false) := (bC_ z1.out 1).trans rfl; have hcz127_2 : w124.cell? ⟨gb400, 2, none⟩ = some (.int .i64 t383) := (bC_ z1.out 2).trans rfl; have hcz127_3 : w124.cell? ⟨gb400, 3, none⟩ = some (.int .i64 t384) := (bC_ z1.out 3).trans rfl; have hcz127_4 : w124.cell? ⟨gb400, 4, none⟩ = some (.slice Ao10 t385.length co10) := (bC_ z1.out 4).trans rfl; have hfz127_0 := bF_ z1.out 0; have hfz127_1 := bF_ z1.out 1; have hfz127_2 := bF_ z1.out 2; have hfz127_3 := bF_ z1.out 3; have hfz127_4 := bF_ z1.out 4; have hcz128_0 : w124.cell? ⟨gb388, 0, none⟩ = some (.bool t381) := (bC_ z.out 0).trans rfl; have hcz128_1 : w124.cell? ⟨gb388, 1, none⟩ = some (.bool false) := (bC_ z.out 1).trans rfl; have hcz128_2 : w124.cell? ⟨gb388, 2, none⟩ = some (.int .i64 t383) := (bC_ z.out 2).trans rfl; have hcz128_3 : w124.cell? ⟨gb388, 3, none⟩ = some (.int .i64 t384) := (bC_ z.out 3).trans rfl; have hcz128_4 : w124.cell? ⟨gb388, 4, none⟩ = some (.slice Ao10 t385.length co10) := (bC_ z.out 4).trans rfl; have hfz128_0 := bF_ z.out 0; have hfz128_1 := bF_ z.out 1; have hfz128_2 := bF_ z.out 2; have hfz128_3 := bF_ z.out 3; have hfz128_4 := bF_ z.out 4) | ((with_reducible refine gate_dst (N := 7) rfl ?_); (ybd_); refine box_event ?hg (N := 7) ?hd (cs := #[.bool false, .bool false, .int .i64 0, .int .i64 0, .slice none 0 0]) (t := 47) ?hr ?_; (case hd => rfl); (case hg => rfl); (yas_); intro gb404 hg w129 hbox hb; have n0_ := A_ (Kd.Q_below (by (yaa_); exact (Kd.Q_mono (Kd.Q_far (p := ⟨gb400, 4, none⟩) (Kd.Q_types z3.out z1.out (by decide)) (fun _ hk => hk.2) (.slice Ao126 y401.length co126)) (fun _ h_ => h_.1))) hb); have n1_ := A_ (Kd.Q_below (by (yaa_); exact (Kd.Q_mono (Kd.Q_far (p := ⟨gb400, 4, none⟩) (Kd.Q_types z4.out z1.out (by decide)) (fun _ hk => hk.2) (.slice Ao126 y401.length co126)) (fun _ h_ => h_.1))) hb); have n2_ := A_ (rB_ (by (yah_); exact (rM_ (Kd.R_far (p := ⟨gb400, 4, none⟩) (Kd.R_types z5.out z1.out (by decide)) (fun _ hk => hk.2) (.slice Ao126 y401.length co126)) (fun _ h_ => h_.1))) hb); have n3_ := A_ (bB_ (g := gb388) (o := .cells #[.bool t381, .bool false, .int .i64 t383, .int .i64 t384, .slice Ao10 t385.length co10] 47 (0, 0)) (ybf_) hb); have n4_ := A_ (bB_ (g := gb397) (o := .cells #[.bool t390, .bool t391, .int .i64 t392, .int .i64 t393, .slice Ao16 t394.length co16] 47 (0, 0)) (by (ya_); refine blk_far ?_ zd.out _; (ya_); exact z0.out) hb); have n5_ := A_ (bB_ (g := gb400) (o := .cells #[.bool t381, .bool false, .int .i64 t383, .int .i64 t384, .slice Ao126 y401.length co126] 47 (0, 0)) (by (ya_); refine blk_put (cs := #[.bool t381, .bool false, .int .i64 t383, .int .i64 t384, .slice Ao10 t385.length co10]) ?_ 4 _ rfl; (ya_); exact z1.out) hb); have n6_ := A_ (wT_ (yac_) hb); have n7_ := A_ (hbox); have n8_ := A_ ((by rw [hg]; exact (wZ_ (yac_)) : w.heap.size ≤ gb404)); have n9_ := A_ ((by rw [hg]; exact (wZ_ (yac_)) : w.heap.size ≤ gb404)); have n10_ := A_ ((by rw [hg]; exact Nat.ne_of_lt (blk_lt (g := gb388) (o := .cells #[.bool t381, .bool false, .int .i64 t383, .int .i64 t384, .slice Ao10 t385.length co10] 47 (0, 0)) (ybf_)) : gb388 ≠ gb404)); have n11_ := A_ ((by rw [hg]; exact Nat.ne_of_gt (blk_lt (g := gb388) (o := .cells #[.bool t381, .bool false, .int .i64 t383, .int .i64 t384, .slice Ao10 t385.length co10] 47 (0, 0)) (ybf_)) : gb404 ≠ gb388)); have n12_ := A_ ((yat_)); have n13_ := A_ ((yau_)); have n14_ := A_ ((by rw [hg]; exact Nat.ne_of_lt (blk_lt (g := gb400) (o := .cells #[.bool t381, .bool false, .int .i64 t383, .int .i64 t384, .slice Ao126 y401.length co126] 47 (0, 0)) (by (ya_); refine blk_put (cs := #[.bool t381, .bool false, .int .i64 t383, .int .i64 t384, .slice Ao10 t385.length co10]) ?_ 4 _ rfl; (ya_); exact z1.out)) : gb400 ≠ gb404)); have n15_ := A_ ((by rw [hg]; exact Nat.ne_of_gt (blk_lt (g := gb400) (o := .cells #[.bool t381, .bool false, .int .i64 t383, .int .i64 t384, .slice Ao126 y401.length co126] 47 (0, 0)) (by (ya_); refine blk_put (cs := #[.bool t381, .bool false, .int .i64 t383, .int .i64 t384, .slice Ao10 t385.length co10]) ?_ 4 _ rfl; (ya_); exact z1.out)) : gb404 ≠ gb400)); clear z3; clear z4; clear z5; clear z; clear z0; clear z1; clear HB; have z3 := n0_; have z4 := n1_; have z5 := n2_; have z := n3_; have z0 := n4_; have z1 := n5_; have HB := n6_; have z2 := n7_; have zw := n8_; have zh := n9_; have ze := n10_; have zo := n11_; have zf := n12_; have zp := n13_; have zg := n14_; have zq := n15_; clear n0_ n1_ n2_ n3_ n4_ n5_ n6_ n7_ n8_ n9_ n10_ n11_ n12_ n13_ n14_ n15_; clear hb hbox hg; have hnb130 := zo.out; have hnc130 := ze.out; have hnb131 := zp.out; have hnc131 := zf.out; have hnb132 := zq.out; have hnc132 := zg.out; have hcz133_0 : w129.cell? ⟨gb404, 0, none⟩ = some (.bool false) := (bC_ z2.out 0).trans rfl; have hcz133_1 : w129.cell? ⟨gb404, 1, none⟩ = some (.bool false) := (bC_ z2.out 1).trans rfl; have hcz133_2 : w129.cell? ⟨gb404, 2, none⟩ = some (.int .i64 0) := (bC_ z2.out 2).trans rfl; have hcz133_3 : w129.cell? ⟨gb404, 3, none⟩ = some (.int .i64 0) := (bC_ z2.out 3).trans rfl; have hcz133_4 : w129.cell? ⟨gb404, 4, none⟩ = some (.slice none 0 0) := (bC_ z2.out 4).trans rfl; have hfz133_0 := bF_ z2.out 0; have hfz133_1 := bF_ z2.out 1; have hfz133_2 := bF_ z2.out 2; have hfz133_3 := bF_ z2.out 3; have hfz133_4 := bF_ z2.out 4))
            have n0_ : Aside0 (Kd.Q (Kd.int .i64) 3 (yad_) w.heap.size (fun k_ => some k_ ≠ (.slice Ao16 t394.length co16 : Value).ownBlock ∧ some k_ ≠ (.slice Ao126 y401.length co126 : Value).ownBlock) (.slice Ao10 t385.length co10) t385) := ⟨by (yaa_); exact Kd.Q_mono (Kd.Q_far (p := ⟨gb404, 1, none⟩) (Kd.Q_far (p := ⟨gb404, 4, none⟩) (Kd.Q_far (p := ⟨gb404, 3, none⟩) (Kd.Q_far (p := ⟨gb404, 2, none⟩) (Kd.Q_far (p := ⟨gb404, 1, none⟩) (Kd.Q_far (p := ⟨gb404, 0, none⟩) (Kd.Q_types z3.out z2.out (by decide)) (fun _ hk => hk.2) (.bool t381)) (fun _ hk => hk.2) (.bool false)) (fun _ hk => hk.2) (.int .i64 t383)) (fun _ hk => hk.2) (.int .i64 t384)) (fun _ hk => hk.2) (.slice Ao10 t385.length co10)) (fun _ hk => hk.2) (.bool false)) (fun _ hk => ⟨hk.1.1, hk.1.2⟩)⟩
            have n1_ : Aside0 (Kd.Q (Kd.int .i64) 3 (yad_) w.heap.size (fun k_ => some k_ ≠ (.slice Ao10 t385.length co10 : Value).ownBlock ∧ some k_ ≠ (.slice Ao126 y401.length co126 : Value).ownBlock) (.slice Ao16 t394.length co16) t394) := ⟨by (yaa_); exact Kd.Q_mono (Kd.Q_far (p := ⟨gb404, 1, none⟩) (Kd.Q_far (p := ⟨gb404, 4, none⟩) (Kd.Q_far (p := ⟨gb404, 3, none⟩) (Kd.Q_far (p := ⟨gb404, 2, none⟩) (Kd.Q_far (p := ⟨gb404, 1, none⟩) (Kd.Q_far (p := ⟨gb404, 0, none⟩) (Kd.Q_types z4.out z2.out (by decide)) (fun _ hk => hk.2) (.bool t381)) (fun _ hk => hk.2) (.bool false)) (fun _ hk => hk.2) (.int .i64 t383)) (fun _ hk => hk.2) (.int .i64 t384)) (fun _ hk => hk.2) (.slice Ao10 t385.length co10)) (fun _ hk => hk.2) (.bool false)) (fun _ hk => ⟨hk.1.1, hk.1.2⟩)⟩
            have n2_ : Aside0 (Kd.R (Kd.int .i64) 3 (yad_) w.heap.size (fun k_ => some k_ ≠ (.slice Ao10 t385.length co10 : Value).ownBlock ∧ some k_ ≠ (.slice Ao16 t394.length co16 : Value).ownBlock) (.slice Ao126 y401.length co126) y401) := ⟨by (yah_); exact rM_ (Kd.R_far (p := ⟨gb404, 1, none⟩) (Kd.R_far (p := ⟨gb404, 4, none⟩) (Kd.R_far (p := ⟨gb404, 3, none⟩) (Kd.R_far (p := ⟨gb404, 2, none⟩) (Kd.R_far (p := ⟨gb404, 1, none⟩) (Kd.R_far (p := ⟨gb404, 0, none⟩) (Kd.R_types z5.out z2.out (by decide)) (fun _ hk => hk.2) (.bool t381)) (fun _ hk => hk.2) (.bool false)) (fun _ hk => hk.2) (.int .i64 t383)) (fun _ hk => hk.2) (.int .i64 t384)) (fun _ hk => hk.2) (.slice Ao10 t385.length co10)) (fun _ hk => hk.2) (.bool false)) (fun _ hk => ⟨hk.1.1.2, hk.1.2⟩)⟩
            have n3_ : Aside0 ((yad_).heap[gb388]? = some (.cells #[.bool t381, .bool false, .int .i64 t383, .int .i64 t384, .slice Ao10 t385.length co10] 47 (0, 0))) := ⟨by (ya_); refine blk_far ?_ ze.out _; (ya_); refine blk_far ?_ ze.out _; (ya_); refine blk_far ?_ ze.out _; (ya_); refine blk_far ?_ ze.out _; (ya_); refine blk_far ?_ ze.out _; (ya_); refine blk_far ?_ ze.out _; (ya_); exact z.out⟩
            have n4_ : Aside0 ((yad_).heap[gb397]? = some (.cells #[.bool t390, .bool t391, .int .i64 t392, .int .i64 t393, .slice Ao16 t394.length co16] 47 (0, 0))) := ⟨by (ya_); refine blk_far ?_ zf.out _; (ya_); refine blk_far ?_ zf.out _; (ya_); refine blk_far ?_ zf.out _; (ya_); refine blk_far ?_ zf.out _; (ya_); refine blk_far ?_ zf.out _; (ya_); refine blk_far ?_ zf.out _; (ya_); exact z0.out⟩
            have n5_ : Aside0 ((yad_).heap[gb400]? = some (.cells #[.bool t381, .bool false, .int .i64 t383, .int .i64 t384, .slice Ao126 y401.length co126] 47 (0, 0))) := ⟨by (ya_); refine blk_far ?_ zg.out _; (ya_); refine blk_far ?_ zg.out _; (ya_); refine blk_far ?_ zg.out _; (ya_); refine blk_far ?_ zg.out _; (ya_); refine blk_far ?_ zg.out _; (ya_); refine blk_far ?_ zg.out _; (ya_); exact z1.out⟩
            have n6_ : Aside0 ((yad_).heap[gb404]? = some (.cells #[.bool t381, .bool false, .int .i64 t383, .int .i64 t384, .slice Ao10 t385.length co10] 47 (0, 0))) := ⟨by (ya_); refine blk_put (cs := #[.bool t381, .bool false, .int .i64 t383, .int .i64 t384, .slice Ao10 t385.length co10]) ?_ 1 _ rfl; (ya_); refine blk_put (cs := #[.bool t381, .bool false, .int .i64 t383, .int .i64 t384, .slice none 0 0]) ?_ 4 _ rfl; (ya_); refine blk_put (cs := #[.bool t381, .bool false, .int .i64 t383, .int .i64 0, .slice none 0 0]) ?_ 3 _ rfl; (ya_); refine blk_put (cs := #[.bool t381, .bool false, .int .i64 0, .int .i64 0, .slice none 0 0]) ?_ 2 _ rfl; (ya_); refine blk_put (cs := #[.bool t381, .bool false, .int .i64 0, .int .i64 0, .slice none 0 0]) ?_ 1 _ rfl; (ya_); refine blk_put (cs := #[.bool false, .bool false, .int .i64 0, .int .i64 0, .slice none 0 0]) ?_ 0 _ rfl; (ya_); exact z2.out⟩
            have n7_ : Aside0 (Below w.heap.size w (yad_)) := ⟨by repeat (yag_)⟩
            (try clear z3)
            (try clear z4)
            (try clear z5)
            (try clear z)
            (try clear z0)
            (try clear z1)
            (try clear z2)
            (try clear HB)
            generalize (yad_) = w134 at n0_ n1_ n2_ n3_ n4_ n5_ n6_ n7_ ⊢
            have z3 := n0_
            have z4 := n1_
            have z5 := n2_
            have z := n3_
            have z0 := n4_
            have z1 := n5_
            have z2 := n6_
            have HB := n7_
            clear n0_ n1_ n2_ n3_ n4_ n5_ n6_ n7_
            have n0_ := A_ (Kd.Q_drew z3.out)
            have n1_ := A_ (Kd.Q_drew z4.out)
            have n2_ := A_ (rD_ z5.out)
            have n3_ := A_ (bD_ z.out)
            have n4_ := A_ (bD_ z0.out)
            have n5_ := A_ (bD_ z1.out)
            have n6_ := A_ (bD_ z2.out)
            have n7_ := A_ (wD_ HB.out)
            clear z3
            clear z4
            clear z5
            clear z
            clear z0
            clear z1
            clear z2
            clear HB
            have z3 := n0_
            have z4 := n1_
            have z5 := n2_
            have z := n3_
            have z0 := n4_
            have z1 := n5_
            have z2 := n6_
            have HB := n7_
            clear n0_ n1_ n2_ n3_ n4_ n5_ n6_ n7_
            refine start_ (n := 31) (S := fun w' => w'.cell? ⟨gb400, 0, none⟩ = some (.bool t381) ∧ w'.cell? ⟨gb400, 1, none⟩ = some (.bool false) ∧ w'.cell? ⟨gb400, 2, none⟩ = some (.int .i64 t383) ∧ w'.cell? ⟨gb400, 3, none⟩ = some (.int .i64 t384) ∧ w'.cell? ⟨gb400, 4, none⟩ = some (.slice Ao126 y401.length co126) ∧ w'.cell? ⟨gb388, 0, none⟩ = some (.bool t381) ∧ w'.cell? ⟨gb388, 1, none⟩ = some (.bool false) ∧ w'.cell? ⟨gb388, 2, none⟩ = some (.int .i64 t383) ∧ w'.cell? ⟨gb388, 3, none⟩ = some (.int .i64 t384) ∧ w'.cell? ⟨gb388, 4, none⟩ = some (.slice Ao10 t385.length co10) ∧ w'.cell? ⟨gb404, 0, none⟩ = some (.bool t381) ∧ w'.cell? ⟨gb404, 1, none⟩ = some (.bool false) ∧ w'.cell? ⟨gb404, 2, none⟩ = some (.int .i64 t383) ∧ w'.cell? ⟨gb404, 3, none⟩ = some (.int .i64 t384) ∧ w'.cell? ⟨gb404, 4, none⟩ = some (.slice Ao10 t385.length co10)) (ds := []) (ybe_) (by kernel_rfl) rfl rfl ⟨(bC_ z1.out 0).trans rfl, (bC_ z1.out 1).trans rfl, (bC_ z1.out 2).trans rfl, (bC_ z1.out 3).trans rfl, (bC_ z1.out 4).trans rfl, (bC_ z.out 0).trans rfl, (bC_ z.out 1).trans rfl, (bC_ z.out 2).trans rfl, (bC_ z.out 3).trans rfl, (bC_ z.out 4).trans rfl, (bC_ z2.out 0).trans rfl, (bC_ z2.out 1).trans rfl, (bC_ z2.out 2).trans rfl, (bC_ z2.out 3).trans rfl, (bC_ z2.out 4).trans rfl⟩ (fun hHeld => ?_); refine with_tabW laws_FnInOk.tab14 laws_FnInOk.bits14 (fun HT_ HW_ => ?_)
            generalize w134.drew = w135 at z3 z4 z5 z z0 z1 z2 HB hHeld ⊢
            refine take_ (i := 0) (N := some 46) (v := ?_) (a' := ?_) (ybg_) rfl rfl (take_ofW HT_.out HW_.out (by kernel_rfl)) (fun _ _ _ h => h) (Or.inl ⟨by rfl, ?_⟩) hHeld ?_ ?_
            rotate_left
            ·rintro w' ⟨s0, s1, s2, s3, s4, s5, s6, s7, s8, s9, s10, s11, s12, s13, s14⟩
             go_simp
             with_reducible rfl
            rotate_left
            ·simp only [Act.put, sT_, s0_, s1_, i64_w, i32_w]
             rfl
            refine one_ (i := 1) (N := some 47) (ybh_) rfl rfl (one_of HT_.out (by kernel_rfl)) (by decide) (fun K hK => ?_)
            refine goes_ Try.func40 (by kernel_rfl) rfl #[.agg #[.bool t381, .bool false, .int .i64 t383, .int .i64 t384, .slice Ao126 y401.length co126]] (by rfl) rfl rfl (yal_) ?_
            with_reducible refine (impl_InOk.calls kj5 t381 false t383 t384 _ _ y401 false _ ?side1 ?side2 A51.out).mono ?_
            (case side1 => repeat (first | exact (Kd.R_reads' z5.out).2.2 | (with_reducible refine Kd.C_alloc ?_ _) | (with_reducible refine Kd.C_drewN ?_ _) | (with_reducible refine Kd.C_drew ?_)))
            (case side2 => exact (Kd.R_reads' z5.out).2.1)
            rintro e w136 ⟨rfl, hb⟩
            refine ⟨_, rfl, ?_⟩
            have n0_ := A_ (Kd.Q_below (by (yaa_); exact z3.out) hb)
            have n1_ := A_ (Kd.Q_below (by (yaa_); exact z4.out) hb)
            have n2_ := A_ (rB_ (by (yah_); exact z5.out) hb)
            have n3_ := A_ (bB_ (g := gb388) (o := .cells #[.bool t381, .bool false, .int .i64 t383, .int .i64 t384, .slice Ao10 t385.length co10] 47 (0, 0)) (by (ya_); exact z.out) hb)
            have n4_ := A_ (bB_ (g := gb397) (o := .cells #[.bool t390, .bool t391, .int .i64 t392, .int .i64 t393, .slice Ao16 t394.length co16] 47 (0, 0)) (by (ya_); exact z0.out) hb)
            have n5_ := A_ (bB_ (g := gb400) (o := .cells #[.bool t381, .bool false, .int .i64 t383, .int .i64 t384, .slice Ao126 y401.length co126] 47 (0, 0)) (by (ya_); exact z1.out) hb)
            have n6_ := A_ (bB_ (g := gb404) (o := .cells #[.bool t381, .bool false, .int .i64 t383, .int .i64 t384, .slice Ao10 t385.length co10] 47 (0, 0)) (by (ya_); exact z2.out) hb)
            have n7_ := A_ (wT_ (by repeat (yag_)) hb)
            clear z3
            clear z4
            clear z5
            clear z
            clear z0
            clear z1
            clear z2
            clear HB
            have z3 := n0_
            have z4 := n1_
            have z5 := n2_
            have z := n3_
            have z0 := n4_
            have z1 := n5_
            have z2 := n6_
            have HB := n7_
            clear n0_ n1_ n2_ n3_ n4_ n5_ n6_ n7_
            (try clear hb)
            (try clear hb2)
            (try clear hk)
            (try clear hi)
            refine hK.out _ _ ⟨(bC_ z1.out 0).trans rfl, (bC_ z1.out 1).trans rfl, (bC_ z1.out 2).trans rfl, (bC_ z1.out 3).trans rfl, (bC_ z1.out 4).trans rfl, (bC_ z.out 0).trans rfl, (bC_ z.out 1).trans rfl, (bC_ z.out 2).trans rfl, (bC_ z.out 3).trans rfl, (bC_ z.out 4).trans rfl, (bC_ z2.out 0).trans rfl, (bC_ z2.out 1).trans rfl, (bC_ z2.out 2).trans rfl, (bC_ z2.out 3).trans rfl, (bC_ z2.out 4).trans rfl⟩ (fun hHeld => ?_)
            clear hK K
            refine norm_ (a' := ?_) ?_ ?_
            rotate_left
            ·show Act.put _ (some 47) _ = _
             simp only [Act.put, sT_, s0_, s1_, i64_w, i32_w]
             rfl
            refine pure_ (i := 2) (N := some 48) (v := ?_) (a' := ?_) (ybi_) rfl rfl (any_of HT_.out (by kernel_rfl)) (fun _ _ _ h => h) (Or.inl ⟨by rfl, ?_⟩) ?_ ?_
            rotate_left
            ·intro w'
             go_simp
             with_reducible rfl
            rotate_left
            ·simp only [Act.put, sT_, s0_, s1_, i64_w, i32_w]
             rfl
            refine pure_ (i := 3) (N := some 49) (v := ?_) (a' := ?_) (ybj_) rfl rfl (any_of HT_.out (by kernel_rfl)) (fun _ _ _ h => h) (Or.inl ⟨by rfl, ?_⟩) ?_ ?_
            rotate_left
            ·intro w'
             go_simp
             with_reducible rfl
            rotate_left
            ·simp only [Act.put, sT_, s0_, s1_, i64_w, i32_w]
             rfl
            refine pure_ (i := 4) (N := some 50) (v := ?_) (a' := ?_) (ybl_) rfl rfl (any_of HT_.out (by kernel_rfl)) (fun _ _ _ h => h) (Or.inl ⟨by rfl, ?_⟩) ?_ ?_
            rotate_left
            ·intro w'
             go_simp
             with_reducible rfl
            rotate_left
            ·simp only [Act.put, sT_, s0_, s1_, i64_w, i32_w]
             rfl
            refine take_ (i := 5) (N := some 51) (v := ?_) (a' := ?_) (ybm_) rfl rfl (take_ofW HT_.out HW_.out (by kernel_rfl)) (fun _ _ _ h => h) (Or.inl ⟨by rfl, ?_⟩) hHeld ?_ ?_
            rotate_left
            ·rintro w' ⟨s0, s1, s2, s3, s4, s5, s6, s7, s8, s9, s10, s11, s12, s13, s14⟩
             go_simp
             with_reducible rfl
            rotate_left
            ·simp only [Act.put, sT_, s0_, s1_, i64_w, i32_w]
             rfl
            refine pure_ (i := 6) (N := some 52) (v := ?_) (a' := ?_) (ybn_) rfl rfl (any_of HT_.out (by kernel_rfl)) (fun _ _ _ h => h) (Or.inl ⟨by rfl, ?_⟩) ?_ ?_
            rotate_left
            ·intro w'
             go_simp
             with_reducible rfl
            rotate_left
            ·simp only [Act.put, sT_, s0_, s1_, i64_w, i32_w]
             rfl
            refine pure_ (i := 7) (N := some 53) (v := ?_) (a' := ?_) (ybo_) rfl rfl (any_of HT_.out (by kernel_rfl)) (fun _ _ _ h => h) (Or.inl ⟨by rfl, ?_⟩) ?_ ?_
            rotate_left
            ·intro w'
             go_simp
             with_reducible rfl
            rotate_left
            ·simp only [Act.put, sT_, s0_, s1_, i64_w, i32_w]
             rfl
            refine take_ (i := 8) (N := some 54) (v := ?_) (a' := ?_) (ybr_) rfl rfl (take_ofW HT_.out HW_.out (by kernel_rfl)) (fun _ _ _ h => h) (Or.inl ⟨by rfl, ?_⟩) hHeld ?_ ?_
            rotate_left
            ·rintro w' ⟨s0, s1, s2, s3, s4, s5, s6, s7, s8, s9, s10, s11, s12, s13, s14⟩
             go_simp
             with_reducible rfl
            rotate_left
            ·simp only [Act.put, sT_, s0_, s1_, i64_w, i32_w]
             rfl
            refine pure_ (i := 9) (N := some 55) (v := ?_) (a' := ?_) (ybs_) rfl rfl (any_of HT_.out (by kernel_rfl)) (fun _ _ _ h => h) (Or.inl ⟨by rfl, ?_⟩) ?_ ?_
            rotate_left
            ·intro w'
             go_simp
             with_reducible rfl
            rotate_left
            ·simp only [Act.put, sT_, s0_, s1_, i64_w, i32_w]
             rfl
            refine pure_ (i := 10) (N := some 56) (v := ?_) (a' := ?_) (ybt_) rfl rfl (any_of HT_.out (by kernel_rfl)) (fun _ _ _ h => h) (Or.inl ⟨by rfl, ?_⟩) ?_ ?_
            rotate_left
            ·intro w'
             go_simp
             with_reducible rfl
            rotate_left
            ·simp only [Act.put, sT_, s0_, s1_, i64_w, i32_w]
             rfl
            refine pure_ (i := 11) (N := some 57) (v := ?_) (a' := ?_) (ybu_) rfl rfl (any_of HT_.out (by kernel_rfl)) (fun _ _ _ h => h) (Or.inl ⟨by rfl, ?_⟩) ?_ ?_
            rotate_left
            ·intro w'
             go_simp
             with_reducible rfl
            rotate_left
            ·simp only [Act.put, sT_, s0_, s1_, i64_w, i32_w]
             rfl
            refine take_ (i := 12) (N := some 58) (v := ?_) (a' := ?_) (ybv_) rfl rfl (take_ofW HT_.out HW_.out (by kernel_rfl)) (fun _ _ _ h => h) (Or.inl ⟨by rfl, ?_⟩) hHeld ?_ ?_
            rotate_left
            ·rintro w' ⟨s0, s1, s2, s3, s4, s5, s6, s7, s8, s9, s10, s11, s12, s13, s14⟩
             go_simp
             with_reducible rfl
            rotate_left
            ·simp only [Act.put, sT_, s0_, s1_, i64_w, i32_w]
             rfl
            refine pure_ (i := 13) (N := some 59) (v := ?_) (a' := ?_) #[true, true, true, true, true, true, true, true, true, true, true, true, true, true, false, false, false, false, false, false, false, false, false, false, false, false, false, false, false, false, false] rfl rfl (any_of HT_.out (by kernel_rfl)) (fun _ _ _ h => h) (Or.inl ⟨by rfl, ?_⟩) ?_ ?_
            rotate_left
            ·intro w'
             go_simp
             with_reducible rfl
            rotate_left
            ·simp only [Act.put, sT_, s0_, s1_, i64_w, i32_w]
             rfl
            refine pure_ (i := 14) (N := some 60) (v := ?_) (a' := ?_) #[true, true, true, true, true, true, true, true, true, true, true, true, true, true, true, false, false, false, false, false, false, false, false, false, false, false, false, false, false, false, false] rfl rfl (any_of HT_.out (by kernel_rfl)) (fun _ _ _ h => h) (Or.inl ⟨by rfl, ?_⟩) ?_ ?_
            rotate_left
            ·intro w'
             go_simp
             with_reducible rfl
            rotate_left
            ·simp only [Act.put, sT_, s0_, s1_, i64_w, i32_w]
             rfl
            refine pure_ (i := 15) (N := some 61) (v := ?_) (a' := ?_) #[true, true, true, true, true, true, true, true, true, true, true, true, true, true, true, true, false, false, false, false, false, false, false, false, false, false, false, false, false, false, false] rfl rfl (any_of HT_.out (by kernel_rfl)) (fun _ _ _ h => h) (Or.inl ⟨by rfl, ?_⟩) ?_ ?_
            rotate_left
            ·intro w'
             go_simp
             with_reducible rfl
            rotate_left
            ·simp only [Act.put, sT_, s0_, s1_, i64_w, i32_w]
             rfl
            refine pure_ (i := 16) (N := some 62) (v := ?_) (a' := ?_) #[true, true, true, true, true, true, true, true, true, true, true, true, true, true, true, true, true, false, false, false, false, false, false, false, false, false, false, false, false, false, false] rfl rfl (any_of HT_.out (by kernel_rfl)) (fun _ _ _ h => h) (Or.inl ⟨by rfl, ?_⟩) ?_ ?_
            rotate_left
            ·intro w'
             go_simp
             with_reducible rfl
            rotate_left
            ·simp only [Act.put, sT_, s0_, s1_, i64_w, i32_w]
             rfl
            refine pure_ (i := 17) (N := some 63) (v := ?_) (a' := ?_) #[true, true, true, true, true, true, true, true, true, true, true, true, true, true, true, true, true, true, false, false, false, false, false, false, false, false, false, false, false, false, false] rfl rfl (any_of HT_.out (by kernel_rfl)) (fun _ _ _ h => h) (Or.inl ⟨by rfl, ?_⟩) ?_ ?_
            rotate_left
            ·intro w'
             go_simp
             with_reducible rfl
            rotate_left
            ·simp only [Act.put, sT_, s0_, s1_, i64_w, i32_w]
             rfl
            refine pure_ (i := 20) (N := some 66) (v := ?_) (a' := ?_) #[true, true, true, true, true, true, true, true, true, true, true, true, true, true, true, true, true, true, false, false, true, false, false, false, false, false, false, false, false, false, false] rfl rfl (any_of HT_.out (by kernel_rfl)) (fun _ _ _ h => h) (Or.inl ⟨by rfl, ?_⟩) ?_ ?_
            rotate_left
            ·intro w'
             go_simp
             with_reducible rfl
            rotate_left
            ·simp only [Act.put, sT_, s0_, s1_, i64_w, i32_w]
             rfl
            refine take_ (i := 18) (N := some 64) (v := ?_) (a' := ?_) #[true, true, true, true, true, true, true, true, true, true, true, true, true, true, true, true, true, true, true, false, true, false, false, false, false, false, false, false, false, false, false] rfl rfl (take_ofW HT_.out HW_.out (by kernel_rfl)) (fun _ _ _ h => h) (Or.inl ⟨by rfl, ?_⟩) hHeld ?_ ?_
            rotate_left
            ·rintro w' ⟨s0, s1, s2, s3, s4, s5, s6, s7, s8, s9, s10, s11, s12, s13, s14⟩
             go_simp
             with_reducible rfl
            rotate_left
            ·simp only [Act.put, sT_, s0_, s1_, i64_w, i32_w]
             rfl
            refine take_ (i := 21) (N := some 67) (v := ?_) (a' := ?_) #[true, true, true, true, true, true, true, true, true, true, true, true, true, true, true, true, true, true, true, false, true, true, false, false, false, false, false, false, false, false, false] rfl rfl (take_ofW HT_.out HW_.out (by kernel_rfl)) (fun _ _ _ h => h) (Or.inl ⟨by rfl, ?_⟩) hHeld ?_ ?_
            rotate_left
            ·rintro w' ⟨s0, s1, s2, s3, s4, s5, s6, s7, s8, s9, s10, s11, s12, s13, s14⟩
             go_simp
             with_reducible rfl
            rotate_left
            ·simp only [Act.put, sT_, s0_, s1_, i64_w, i32_w]
             rfl
            refine pure_ (i := 22) (N := some 68) (v := ?_) (a' := ?_) #[true, true, true, true, true, true, true, true, true, true, true, true, true, true, true, true, true, true, true, false, true, true, true, false, false, false, false, false, false, false, false] rfl rfl (any_of HT_.out (by kernel_rfl)) (fun _ _ _ h => h) (Or.inl ⟨by rfl, ?_⟩) ?_ ?_
            rotate_left
            ·intro w'
             go_simp
             with_reducible rfl
            rotate_left
            ·simp only [Act.put, sT_, s0_, s1_, i64_w, i32_w]
             rfl
            refine one_ (i := 19) (N := some 65) #[true, true, true, true, true, true, true, true, true, true, true, true, true, true, true, true, true, true, true, true, true, true, true, false, false, false, false, false, false, false, false] rfl rfl (one_of HT_.out (by kernel_rfl)) (by decide) (fun K hK => ?_)
            refine goes_ Try.func40 (by kernel_rfl) rfl #[.agg #[.bool t381, .bool false, .int .i64 t383, .int .i64 t384, .slice Ao10 t385.length co10]] (by rfl) rfl rfl (yal_) ?_
            with_reducible refine (impl_InOk.calls kj5 t381 false t383 t384 _ _ t385 t407 _ ?side1 ?side2 A117.out).mono ?_
            (case side1 => repeat (first | exact (Kd.Q_reads' z3.out).2.2 | (with_reducible refine Kd.C_alloc ?_ _) | (with_reducible refine Kd.C_drewN ?_ _) | (with_reducible refine Kd.C_drew ?_)))
            (case side2 => exact (Kd.Q_reads' z3.out).2.1)
            rintro e w137 ⟨rfl, hb⟩
            refine ⟨_, rfl, ?_⟩
            have n0_ := A_ (Kd.Q_below (by (yaa_); exact z3.out) hb)
            have n1_ := A_ (Kd.Q_below (by (yaa_); exact z4.out) hb)
            have n2_ := A_ (rB_ (by (yah_); exact z5.out) hb)
            have n3_ := A_ (bB_ (g := gb388) (o := .cells #[.bool t381, .bool false, .int .i64 t383, .int .i64 t384, .slice Ao10 t385.length co10] 47 (0, 0)) (by (ya_); exact z.out) hb)
            have n4_ := A_ (bB_ (g := gb397) (o := .cells #[.bool t390, .bool t391, .int .i64 t392, .int .i64 t393, .slice Ao16 t394.length co16] 47 (0, 0)) (by (ya_); exact z0.out) hb)
            have n5_ := A_ (bB_ (g := gb400) (o := .cells #[.bool t381, .bool false, .int .i64 t383, .int .i64 t384, .slice Ao126 y401.length co126] 47 (0, 0)) (by (ya_); exact z1.out) hb)
            have n6_ := A_ (bB_ (g := gb404) (o := .cells #[.bool t381, .bool false, .int .i64 t383, .int .i64 t384, .slice Ao10 t385.length co10] 47 (0, 0)) (by (ya_); exact z2.out) hb)
            have n7_ := A_ (wT_ (by repeat (yag_)) hb)
            clear z3
            clear z4
            clear z5
            clear z
            clear z0
            clear z1
            clear z2
            clear HB
            have z3 := n0_
            have z4 := n1_
            have z5 := n2_
            have z := n3_
            have z0 := n4_
            have z1 := n5_
            have z2 := n6_
            have HB := n7_
            clear n0_ n1_ n2_ n3_ n4_ n5_ n6_ n7_
            (try clear hb)
            (try clear hb2)
            (try clear hk)
            (try clear hi)
            refine hK.out _ _ ⟨(bC_ z1.out 0).trans rfl, (bC_ z1.out 1).trans rfl, (bC_ z1.out 2).trans rfl, (bC_ z1.out 3).trans rfl, (bC_ z1.out 4).trans rfl, (bC_ z.out 0).trans rfl, (bC_ z.out 1).trans rfl, (bC_ z.out 2).trans rfl, (bC_ z.out 3).trans rfl, (bC_ z.out 4).trans rfl, (bC_ z2.out 0).trans rfl, (bC_ z2.out 1).trans rfl, (bC_ z2.out 2).trans rfl, (bC_ z2.out 3).trans rfl, (bC_ z2.out 4).trans rfl⟩ (fun hHeld => ?_)
            clear hK K
            refine norm_ (a' := ?_) ?_ ?_
            rotate_left
            ·show Act.put _ (some 65) _ = _
             simp only [Act.put, sT_, s0_, s1_, i64_w, i32_w]
             rfl
            refine pure_ (i := 23) (N := some 69) (v := ?_) (a' := ?_) #[true, true, true, true, true, true, true, true, true, true, true, true, true, true, true, true, true, true, true, true, true, true, true, true, false, false, false, false, false, false, false] rfl rfl (any_of HT_.out (by kernel_rfl)) (fun _ _ _ h => h) (Or.inl ⟨by rfl, ?_⟩) ?_ ?_
            rotate_left
            ·intro w'
             go_simp
             with_reducible rfl
            rotate_left
            ·simp only [Act.put, sT_, s0_, s1_, i64_w, i32_w]
             rfl
            refine pure_ (i := 24) (N := some 70) (v := ?_) (a' := ?_) #[true, true, true, true, true, true, true, true, true, true, true, true, true, true, true, true, true, true, true, true, true, true, true, true, true, false, false, false, false, false, false] rfl rfl (any_of HT_.out (by kernel_rfl)) (fun _ _ _ h => h) (Or.inl ⟨by rfl, ?_⟩) ?_ ?_
            rotate_left
            ·intro w'
             go_simp
             with_reducible rfl
            rotate_left
            ·simp only [Act.put, sT_, s0_, s1_, i64_w, i32_w]
             rfl
            refine take_ (i := 25) (N := some 71) (v := ?_) (a' := ?_) #[true, true, true, true, true, true, true, true, true, true, true, true, true, true, true, true, true, true, true, true, true, true, true, true, true, true, false, false, false, false, false] rfl rfl (take_ofW HT_.out HW_.out (by kernel_rfl)) (fun _ _ _ h => h) (Or.inl ⟨by rfl, ?_⟩) hHeld ?_ ?_
            rotate_left
            ·rintro w' ⟨s0, s1, s2, s3, s4, s5, s6, s7, s8, s9, s10, s11, s12, s13, s14⟩
             go_simp
             with_reducible rfl
            rotate_left
            ·simp only [Act.put, sT_, s0_, s1_, i64_w, i32_w]
             rfl
            refine pure_ (i := 26) (N := some 72) (v := ?_) (a' := ?_) #[true, true, true, true, true, true, true, true, true, true, true, true, true, true, true, true, true, true, true, true, true, true, true, true, true, true, true, false, false, false, false] rfl rfl (any_of HT_.out (by kernel_rfl)) (fun _ _ _ h => h) (Or.inl ⟨by rfl, ?_⟩) ?_ ?_
            rotate_left
            ·intro w'
             go_simp
             with_reducible rfl
            rotate_left
            ·simp only [Act.put, sT_, s0_, s1_, i64_w, i32_w]
             rfl
            refine pure_ (i := 27) (N := some 73) (v := ?_) (a' := ?_) #[true, true, true, true, true, true, true, true, true, true, true, true, true, true, true, true, true, true, true, true, true, true, true, true, true, true, true, true, false, false, false] rfl rfl (any_of HT_.out (by kernel_rfl)) (fun _ _ _ h => h) (Or.inl ⟨by rfl, ?_⟩) ?_ ?_
            rotate_left
            ·intro w'
             go_simp
             with_reducible rfl
            rotate_left
            ·simp only [Act.put, sT_, s0_, s1_, i64_w, i32_w]
             rfl
            refine pure_ (i := 28) (N := some 74) (v := ?_) (a' := ?_) #[true, true, true, true, true, true, true, true, true, true, true, true, true, true, true, true, true, true, true, true, true, true, true, true, true, true, true, true, true, false, false] rfl rfl (any_of HT_.out (by kernel_rfl)) (fun _ _ _ h => h) (Or.inl ⟨by rfl, ?_⟩) ?_ ?_
            rotate_left
            ·intro w'
             go_simp
             with_reducible rfl
            rotate_left
            ·simp only [Act.put, sT_, s0_, s1_, i64_w, i32_w]
             rfl
            refine pure_ (i := 29) (N := some 75) (v := ?_) (a' := ?_) #[true, true, true, true, true, true, true, true, true, true, true, true, true, true, true, true, true, true, true, true, true, true, true, true, true, true, true, true, true, true, false] rfl rfl (any_of HT_.out (by kernel_rfl)) (fun _ _ _ h => h) (Or.inl ⟨by rfl, ?_⟩) ?_ ?_
            rotate_left
            ·intro w'
             go_simp
             with_reducible rfl
            rotate_left
            ·simp only [Act.put, sT_, s0_, s1_, i64_w, i32_w]
             rfl
            refine pure_ (i := 30) (N := some 2) (v := ?_) (a' := ?_) #[true, true, true, true, true, true, true, true, true, true, true, true, true, true, true, true, true, true, true, true, true, true, true, true, true, true, true, true, true, true, true] rfl rfl (any_of HT_.out (by kernel_rfl)) (fun _ _ _ h => h) (Or.inl ⟨by rfl, ?_⟩) ?_ ?_
            rotate_left
            ·intro w'
             go_simp
             with_reducible rfl
            rotate_left
            ·simp only [Act.put, sT_, s0_, s1_, i64_w, i32_w]
             rfl
            refine done_ (done_of HT_.out (by kernel_rfl)) ?_
            try go_wp2
            go_ret
            exact ⟨by first | rfl | (simp [errW_none, errW_some] <;> rfl) | (simp [*, errW_none, errW_some] <;> rfl), by repeat (yag_)⟩)
         ·rw [if_neg c116] at H
          have c116b0 : (t384 == 0) = false := beq_eq_false_iff_ne.mpr c116
          have c116b1 : (t384 != 0) = true := bne_iff_ne.mpr c116
          exact absurd (HR_.out.symm.trans (Option.some.inj H).symm) (by decide)
        ·rw [if_neg c115] at H
         have c115b0 : (t383 == 0) = false := beq_eq_false_iff_ne.mpr c115
         have c115b1 : (t383 != 0) = true := bne_iff_ne.mpr c115
         exact absurd (HR_.out.symm.trans (Option.some.inj H).symm) (by decide)
     ·replace c50 := Bool.eq_false_iff.mpr c50
      subst c50
      have H1 : (some true) = some r := by rw [if_neg (show ¬ (false = true) by decide)] at H; exact H
      clear H
      have H := H1
      clear H1
      obtain rfl := Option.some.inj H
      go_wp2
      go_ret
      exact ⟨by first | rfl | (simp [errW_none, errW_some] <;> rfl) | (simp [*, errW_none, errW_some] <;> rfl), by repeat (yab_)⟩
end
end

end Go.Proofs.Ytdpgomcdacmhkaa.QFnInOk
