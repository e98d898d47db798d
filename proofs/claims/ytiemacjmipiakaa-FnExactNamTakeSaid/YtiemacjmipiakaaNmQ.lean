/- A ring out of a list. -/
import Derived.Test.YtiemacjmipiakaaNmP
namespace Go.Proofs.Ytiemacjmipiakaa.Nm
open Go.RowKit Go.Proofs.Ytiemacjmipiakaa.Hw
set_option linter.unusedVariables false
set_option linter.unusedSimpArgs false
theorem size66 : (Try.prog.info? 66).map (·.size) = some 22 := by kernel_rfl
theorem rc_len (xs : List Int) (f m : Int) (h : xs.length = 20) : (rc xs f m).length = 22 := by simp [rc, h]
theorem rc_get (xs : List Int) (f m : Int) (h : xs.length = 20) (j : Nat) (hj : j < 20) : (rc xs f m)[j]? = some (.int .i64 (xs.getD j 0)) := by
  unfold rc
  rw [List.getElem?_append_left (by simp; omega), List.getElem?_map, List.getElem?_eq_getElem (by omega), List.getD_eq_getElem?_getD, List.getElem?_eq_getElem (by omega)]
  rfl
theorem rc_f (xs : List Int) (f m : Int) (h : xs.length = 20) : (rc xs f m)[20]? = some (.int .i64 f) := by
  unfold rc
  rw [List.getElem?_append_right (by simp; omega)]
  simp [h]
theorem rc_m (xs : List Int) (f m : Int) (h : xs.length = 20) : (rc xs f m)[21]? = some (.int .i64 m) := by
  unfold rc
  rw [List.getElem?_append_right (by simp; omega)]
  simp [h]
theorem rc_push (xs : List Int) (f m m' : Int) (j : Nat) (p : Int) (h : xs.length = 20) (hj : j < 20) : ((rc xs f m).set j (.int .i64 p)).set 21 (.int .i64 m') = rc (xs.set j p) f m' := by
  unfold rc
  rw [List.set_append_left _ _ (by simp; omega), ← List.map_set, List.set_append_right _ _ (by simp; omega)]
  simp [h]
theorem fill_set (l : List Int) (k : Nat) (hk : k < l.length) (h : l.length ≤ 20) : (l.take k ++ List.replicate (20 - k) 0).set k l[k] = l.take (k + 1) ++ List.replicate (20 - (k + 1)) 0 := by
  rw [List.set_append_right _ _ (by simp; omega), List.take_succ_eq_append_getElem hk, List.append_assoc]
  have e : 20 - k = (20 - (k + 1)) + 1 := by omega
  rw [e, List.replicate_succ]
  simp [Nat.min_eq_left (Nat.le_of_lt hk)]
/-- A ring is returned. -/
def NewR (w : World) (l : List Int) (e : Ending) (w' : World) : Prop := ∃ xs, e = .returned (.agg (rc xs 0 l.length).toArray) ∧ xs.length = 20 ∧ (∀ j, j < l.length → xs.getD j 0 = l.getD j 0) ∧ Below w.heap.size w w'
set_option maxHeartbeats 4000000 in
theorem ring74 (v : Value) (l : List Int) (w : World) (h : Rd (Value.int .i64) w v l) (hl : l.length ≤ 20) : Calls Try.prog 74 #[v] w (NewR w l) := by
  have H := Lib.hid h
  obtain ⟨A, c, rfl, hc, hm, hr⟩ := h
  have HR := Lib.hid hr
  clear hr
  go_enter Try.func74, Try.ntmps74
  go_wp2
  obtain ⟨w0, hW, HB, k0, k1, hz⟩ := bx2 w #[.int .i64 0, .int .i64 0, .int .i64 0, .int .i64 0, .int .i64 0, .int .i64 0, .int .i64 0, .int .i64 0, .int .i64 0, .int .i64 0, .int .i64 0, .int .i64 0, .int .i64 0, .int .i64 0, .int .i64 0, .int .i64 0, .int .i64 0, .int .i64 0, .int .i64 0, .int .i64 0, .int .i64 0, .int .i64 0] 66 #[.int .i64 0, .int .i64 0, .int .i64 0, .int .i64 0, .int .i64 0, .int .i64 0, .int .i64 0, .int .i64 0, .int .i64 0, .int .i64 0, .int .i64 0, .int .i64 0, .int .i64 0, .int .i64 0, .int .i64 0, .int .i64 0, .int .i64 0, .int .i64 0, .int .i64 0, .int .i64 0, .int .i64 0, .int .i64 0] 66
  rw [hW]; clear hW
  have hz22 : (#[.int .i64 0, .int .i64 0, .int .i64 0, .int .i64 0, .int .i64 0, .int .i64 0, .int .i64 0, .int .i64 0, .int .i64 0, .int .i64 0, .int .i64 0, .int .i64 0, .int .i64 0, .int .i64 0, .int .i64 0, .int .i64 0, .int .i64 0, .int .i64 0, .int .i64 0, .int .i64 0, .int .i64 0, .int .i64 0] : Array Value) = (rc (l.take 0 ++ List.replicate (20 - 0) 0) 0 (0 : Nat)).toArray := by simp [rc, List.replicate]
  rw [hz22] at k0 k1
  clear hz22
  go_loopw [8] (fun i wr => ∃ k : Nat, k ≤ l.length ∧ i = .int .i64 k ∧ Hid (Bk wr (w.heap.size + 1) (rc (l.take k ++ List.replicate (20 - k) 0) 0 k).toArray 66) ∧ Hid (Bk wr w.heap.size (rc (l.take 0 ++ List.replicate (20 - 0) 0) 0 (0 : Nat)).toArray 66) ∧ Hid (Below w.heap.size w wr)) (fun i _ => l.length - (intOf i).toNat)
  case atStart => exact ⟨0, Nat.zero_le _, rfl, k1, k0, HB⟩
  case round =>
    clear k0 k1 HB hz
    obtain ⟨k, hk, rfl, k1, k0, HB⟩ := hrel
    have hlen : (l.take k ++ List.replicate (20 - k) (0 : Int)).length = 20 := by simp; omega
    by_cases hlt : k < l.length
    · obtain ⟨ad, rfl, hcell⟩ := HR.out (by omega)
      have e1 := (HB.out.cell (World.block_lt_of_cell? w _ (hcell k _ (List.getElem?_eq_getElem hlt)))).trans (hcell k _ (List.getElem?_eq_getElem hlt))
      have HS := Lib.hid (fill_set l k hlt hl)
      clear hcell
      generalize hx : l[k] = x at e1 HS
      have HL := Lib.hid hlen
      clear hx hlen
      go_wp2_with fail
      ((with_reducible refine (push59 (w.heap.size + 1) 0 _ 66 0 k x _ (by omega) (by omega) k1.out (by have := rc_len _ 0 k HL.out; simp [this]) (by simpa using rc_f _ 0 k HL.out) (by simpa using rc_m _ 0 k HL.out)).mono ?_); rintro e w1 ⟨rfl, hk1, hf⟩)
      have hk1' : Hid (Bk w1 (w.heap.size + 1) (rc (l.take (k + 1) ++ List.replicate (20 - (k + 1)) 0) 0 (k + 1 : Nat)).toArray 66) := Lib.hid (by
        have := hk1.out
        rw [← HS.out, ← rc_push _ 0 k _ k x HL.out (by omega)]
        simpa [Nat.mod_eq_of_lt (show k < 20 by omega)] using this)
      have k0' := Lib.hid (k0.out.fr hf.out (by omega))
      have HB' := Lib.hid (hf.out.below HB.out HB.out.size (fun q hq => by omega))
      clear hk1 hf k0 k1 HB HS HL
      go_wp2_with fail
      go_roundw
      case rel => exact ⟨k + 1, by omega, by go_num, hk1', k0', HB'⟩
      case measure => simp [intOf]; omega
    · obtain rfl : k = l.length := by omega
      have hs1 : (Try.prog.info? 66).map (·.size) = some (rc (l.take l.length ++ List.replicate (20 - l.length) 0) 0 l.length).toArray.size := by rw [size66, List.size_toArray]; exact congrArg some (rc_len _ 0 _ hlen).symm
      have hs2 : (rc (l.take 0 ++ List.replicate (20 - 0) 0) 0 (0 : Nat)).toArray.size = (rc (l.take l.length ++ List.replicate (20 - l.length) 0) 0 l.length).toArray.size := by rw [List.size_toArray, List.size_toArray]; exact (rc_len _ 0 _ (by simp)).trans (rc_len _ 0 _ hlen).symm
      have ho : (rc (l.take l.length ++ List.replicate (20 - l.length) 0) 0 l.length).toArray.all (·.oneCell') = true := by simp [rc, Value.oneCell']
      have h0 : 0 < (rc (l.take 0 ++ List.replicate (20 - 0) 0) 0 (0 : Nat)).toArray.size := by simp [rc]
      have HX : Hid (∀ j, j < l.length → (l.take l.length ++ List.replicate (20 - l.length) 0).getD j 0 = l.getD j 0) := Lib.hid (fun j hj => by
        rw [List.getD_eq_getElem?_getD, List.getD_eq_getElem?_getD, List.take_length, List.getElem?_append_left hj])
      have S1 := Lib.hid hs1; have S2 := Lib.hid hs2; have S3 := Lib.hid ho; have S4 := Lib.hid h0; have HL := Lib.hid hlen
      clear hs1 hs2 ho h0 hlen hlt
      generalize hX : l.take l.length ++ List.replicate (20 - l.length) 0 = X at k1 S1 S2 S3 HX HL
      generalize hC : rc X 0 l.length = C at k1 S1 S2 S3
      generalize rc (l.take 0 ++ List.replicate (20 - 0) 0) 0 (0 : Nat) = C0 at k0 S2 S4
      go_wp2_with (first | (with_reducible refine wl_load_row rfl 66 (.tmp 3) rfl (w.heap.size + 1) rfl 66 C.toArray _ k1.out Try.underlying66 rfl S1.out ?_) | (with_reducible refine wl_store_row rfl rfl 66 (.tmp 2) (.tmp 15) rfl w.heap.size rfl 66 C0.toArray C.toArray rfl k0.out S1.out S2.out S3.out S4.out ?_))
      go_ways
      intro w' g0 hfr
      go_wp2
      refine bodyPost_ret (results_cell_row rfl _ _ w.heap.size 66 C.toArray (0, 0) _ rfl g0.out Try.underlying66 rfl S1.out) rfl ?_
      exact ⟨X, by rw [← hC], HL.out, HX.out, hfr.out.below HB.out HB.out.size (fun q hq => by omega)⟩
end Go.Proofs.Ytiemacjmipiakaa.Nm
