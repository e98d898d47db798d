/- Functions of the side of the laws (names): each returns what is said, for all arguments that read as stated. -/
import Derived.Test.YtiemacjmipiakaaProg
import Derived.Test.YtiemacjmipiakaaHw
namespace Go.Proofs.Ytiemacjmipiakaa.Nm
open Go.RowKit Go.Proofs.Ytiemacjmipiakaa.Hw
set_option linter.unusedVariables false
set_option linter.unusedSimpArgs false
theorem info3 : (Try.prog.info? 3).map (fun i => (i.zero, i.size, i.bytes)) = some (some (.int .i64 0), 1, 8) := by kernel_rfl
theorem info4 : (Try.prog.info? 4).map (fun i => (i.zero, i.size, i.bytes)) = some (some (.bool false), 1, 1) := by kernel_rfl
set_option maxHeartbeats 1000000 in
/-- Two slices that read as the same list are the same. -/
theorem eq39 (v v' : Value) (l : List Int) (w : World) (h : Rd (Value.int .i64) w v l) (h' : Rd (Value.int .i64) w v' l) :
    Calls Try.prog 39 #[v, v'] w fun e w' => e = .returned (.bool true) ∧ ∃ n, w' = w.drewN n := by
  obtain ⟨A, c, rfl, hc, hm, hr⟩ := h
  obtain ⟨A', c', rfl, hc', hm', hr'⟩ := h'
  have HR := Lib.hid hr; clear hr
  have HR' := Lib.hid hr'; clear hr'
  go_enter Try.func39, Try.ntmps39
  go_wp2
  go_loopw [5] (fun i wr => ∃ k : Nat, k ≤ l.length ∧ i = .int .i64 k ∧ ∃ n, wr = w.drewN n) (fun i _ => l.length - (intOf i).toNat)
  case atStart => exact ⟨0, Nat.zero_le _, rfl, 0, rfl⟩
  case round =>
    obtain ⟨k, hk, rfl, n, rfl⟩ := hrel
    by_cases hlt : k < l.length
    · obtain ⟨ad, rfl, hcell⟩ := HR.out (by omega)
      obtain ⟨ad', rfl, hcell'⟩ := HR'.out (by omega)
      have e1 := hcell k _ (List.getElem?_eq_getElem hlt)
      have e2 := hcell' k _ (List.getElem?_eq_getElem hlt)
      clear hcell hcell' HR HR'
      generalize l[k] = x at e1 e2
      go_wp2
      go_quiet (fail)
      go_wp2
      go_roundw
      case rel => exact ⟨k + 1, by omega, by go_num, _, by rfl⟩
      case measure => simp [intOf]; omega
    · go_wp2
      go_ret
      exact ⟨rfl, n, rfl⟩
set_option maxHeartbeats 1000000 in
/-- Two slices that read as the same list are the same. -/
theorem eq31 (v v' : Value) (l : List Int) (w : World) (h : Rd (Value.int .i64) w v l) (h' : Rd (Value.int .i64) w v' l) :
    Calls Try.prog 31 #[v, v'] w fun e w' => e = .returned (.bool true) ∧ ∃ n, w' = w.drewN n := by
  obtain ⟨A, c, rfl, hc, hm, hr⟩ := h
  obtain ⟨A', c', rfl, hc', hm', hr'⟩ := h'
  have HR := Lib.hid hr; clear hr
  have HR' := Lib.hid hr'; clear hr'
  go_enter Try.func31, Try.ntmps31
  go_wp2
  go_loopw [5] (fun i wr => ∃ k : Nat, k ≤ l.length ∧ i = .int .i64 k ∧ ∃ n, wr = w.drewN n) (fun i _ => l.length - (intOf i).toNat)
  case atStart => exact ⟨0, Nat.zero_le _, rfl, 0, rfl⟩
  case round =>
    obtain ⟨k, hk, rfl, n, rfl⟩ := hrel
    by_cases hlt : k < l.length
    · obtain ⟨ad, rfl, hcell⟩ := HR.out (by omega)
      obtain ⟨ad', rfl, hcell'⟩ := HR'.out (by omega)
      have e1 := hcell k _ (List.getElem?_eq_getElem hlt)
      have e2 := hcell' k _ (List.getElem?_eq_getElem hlt)
      clear hcell hcell' HR HR'
      generalize l[k] = x at e1 e2
      go_wp2
      go_quiet (fail)
      go_wp2
      go_roundw
      case rel => exact ⟨k + 1, by omega, by go_num, _, by rfl⟩
      case measure => simp [intOf]; omega
    · go_wp2
      go_ret
      exact ⟨rfl, n, rfl⟩
set_option maxHeartbeats 1000000 in
/-- Two slices that read as the same list are the same. -/
theorem eq40 (v v' : Value) (l : List Bool) (w : World) (h : Rd Value.bool w v l) (h' : Rd Value.bool w v' l) :
    Calls Try.prog 40 #[v, v'] w fun e w' => e = .returned (.bool true) ∧ ∃ n, w' = w.drewN n := by
  obtain ⟨A, c, rfl, hc, hm, hr⟩ := h
  obtain ⟨A', c', rfl, hc', hm', hr'⟩ := h'
  have HR := Lib.hid hr; clear hr
  have HR' := Lib.hid hr'; clear hr'
  go_enter Try.func40, Try.ntmps40
  go_wp2
  go_loopw [5] (fun i wr => ∃ k : Nat, k ≤ l.length ∧ i = .int .i64 k ∧ ∃ n, wr = w.drewN n) (fun i _ => l.length - (intOf i).toNat)
  case atStart => exact ⟨0, Nat.zero_le _, rfl, 0, rfl⟩
  case round =>
    obtain ⟨k, hk, rfl, n, rfl⟩ := hrel
    by_cases hlt : k < l.length
    · obtain ⟨ad, rfl, hcell⟩ := HR.out (by omega)
      obtain ⟨ad', rfl, hcell'⟩ := HR'.out (by omega)
      have e1 := hcell k _ (List.getElem?_eq_getElem hlt)
      have e2 := hcell' k _ (List.getElem?_eq_getElem hlt)
      clear hcell hcell' HR HR'
      generalize l[k] = x at e1 e2
      go_wp2
      go_quiet (fail)
      go_wp2
      go_roundw
      case rel => exact ⟨k + 1, by omega, by go_num, _, by rfl⟩
      case measure => simp [intOf]; omega
    · go_wp2
      go_ret
      exact ⟨rfl, n, rfl⟩
set_option maxHeartbeats 1000000 in
/-- Two slices that read as the same list are the same. -/
theorem eq71 (v v' : Value) (l : List Bool) (w : World) (h : Rd Value.bool w v l) (h' : Rd Value.bool w v' l) :
    Calls Try.prog 71 #[v, v'] w fun e w' => e = .returned (.bool true) ∧ ∃ n, w' = w.drewN n := by
  obtain ⟨A, c, rfl, hc, hm, hr⟩ := h
  obtain ⟨A', c', rfl, hc', hm', hr'⟩ := h'
  have HR := Lib.hid hr; clear hr
  have HR' := Lib.hid hr'; clear hr'
  go_enter Try.func71, Try.ntmps71
  go_wp2
  go_loopw [5] (fun i wr => ∃ k : Nat, k ≤ l.length ∧ i = .int .i64 k ∧ ∃ n, wr = w.drewN n) (fun i _ => l.length - (intOf i).toNat)
  case atStart => exact ⟨0, Nat.zero_le _, rfl, 0, rfl⟩
  case round =>
    obtain ⟨k, hk, rfl, n, rfl⟩ := hrel
    by_cases hlt : k < l.length
    · obtain ⟨ad, rfl, hcell⟩ := HR.out (by omega)
      obtain ⟨ad', rfl, hcell'⟩ := HR'.out (by omega)
      have e1 := hcell k _ (List.getElem?_eq_getElem hlt)
      have e2 := hcell' k _ (List.getElem?_eq_getElem hlt)
      clear hcell hcell' HR HR'
      generalize l[k] = x at e1 e2
      go_wp2
      go_quiet (fail)
      go_wp2
      go_roundw
      case rel => exact ⟨k + 1, by omega, by go_num, _, by rfl⟩
      case measure => simp [intOf]; omega
    · go_wp2
      go_ret
      exact ⟨rfl, n, rfl⟩
/-- What is left of a bound behind a slice. -/
theorem sz45n (v : Value) (l : List Int) (left : Int) (w : World) (h : Rd (Value.int .i64) w v l) (h0 : -1 ≤ left) (h1 : left ≤ 1048576) (hlt : left - l.length < 0) :
    Calls Try.prog 45 #[v, .int .i64 left] w fun e w' => e = .returned (.int .i64 (-1)) ∧ w = w' := by
  obtain ⟨A, c, rfl, hc, hm, hr⟩ := h
  clear hr
  go_enter Try.func45, Try.ntmps45
  go_wp2
  go_ret
  exact ⟨rfl, rfl⟩
theorem sz45y (v : Value) (l : List Int) (left : Int) (w : World) (h : Rd (Value.int .i64) w v l) (h0 : -1 ≤ left) (h1 : left ≤ 1048576) (hlt : ¬ left - l.length < 0) :
    Calls Try.prog 45 #[v, .int .i64 left] w fun e w' => e = .returned (.int .i64 (left - l.length)) ∧ w = w' := by
  obtain ⟨A, c, rfl, hc, hm, hr⟩ := h
  clear hr
  go_enter Try.func45, Try.ntmps45
  go_wp2
  go_ret
  exact ⟨rfl, rfl⟩
/-- What is left of a bound behind a slice. -/
theorem sz46n (v : Value) (l : List Bool) (left : Int) (w : World) (h : Rd Value.bool w v l) (h0 : -1 ≤ left) (h1 : left ≤ 1048576) (hlt : left - l.length < 0) :
    Calls Try.prog 46 #[v, .int .i64 left] w fun e w' => e = .returned (.int .i64 (-1)) ∧ w = w' := by
  obtain ⟨A, c, rfl, hc, hm, hr⟩ := h
  clear hr
  go_enter Try.func46, Try.ntmps46
  go_wp2
  go_ret
  exact ⟨rfl, rfl⟩
theorem sz46y (v : Value) (l : List Bool) (left : Int) (w : World) (h : Rd Value.bool w v l) (h0 : -1 ≤ left) (h1 : left ≤ 1048576) (hlt : ¬ left - l.length < 0) :
    Calls Try.prog 46 #[v, .int .i64 left] w fun e w' => e = .returned (.int .i64 (left - l.length)) ∧ w = w' := by
  obtain ⟨A, c, rfl, hc, hm, hr⟩ := h
  clear hr
  go_enter Try.func46, Try.ntmps46
  go_wp2
  go_ret
  exact ⟨rfl, rfl⟩
set_option maxHeartbeats 1000000 in
/-- The same list in new memory. -/
theorem to49 (v : Value) (l : List Int) (w : World) (h : Rd (Value.int .i64) w v l) (hlen : l.length ≤ 1048576) :
    Calls Try.prog 49 #[v] w (NewO (Value.int .i64) 3 w l) := by
  have HRd := Lib.hid h; clear h
  obtain ⟨A, c, rfl, hc, hm, hr⟩ := HRd.out
  have HR := Lib.hid hr; clear hr HRd
  have hmk := make_run (P := Try.prog) 22 3 (.int .i64 0) 8 Try.underlying22 info3 rfl (by decide) l.length (by omega)
  go_enter Try.func49, Try.ntmps49
  go_wp2
  clear hmk
  have HO := Lib.hid (ow_made (Value.int .i64) 0 w 3 l.length (by omega))
  go_loopw [4] (fun i wr => ∃ k : Nat, k ≤ l.length ∧ i = .int .i64 k ∧ Hid (Ow (Value.int .i64) 3 wr (.slice (some ⟨w.heap.size, 0, none⟩) l.length l.length) (l.take k ++ List.replicate (l.length - k) 0)) ∧ Hid (Below w.heap.size w wr)) (fun i _ => l.length - (intOf i).toNat)
  case atStart => exact ⟨0, Nat.zero_le _, rfl, by simpa using HO, Lib.hid (bl_alloc (bl_refl w) _)⟩
  case round =>
    clear HO
    obtain ⟨k, hk, rfl, HO, HB⟩ := hrel
    by_cases hlt : k < l.length
    · obtain ⟨ad, rfl, hcell⟩ := HR.out (by omega)
      have e1 := (HB.out.cell (World.block_lt_of_cell? w _ (hcell k _ (List.getElem?_eq_getElem hlt)))).trans (hcell k _ (List.getElem?_eq_getElem hlt))
      obtain ⟨g, cap, hg, _, hf⟩ := HO.out.form (by simp; omega)
      obtain ⟨rfl, -, rfl⟩ : w.heap.size = g ∧ l.length = min k l.length + (l.length - k) ∧ l.length = cap := by simpa using hg
      obtain ⟨h1, h2, h3, h4⟩ := hf k l[k]
      obtain ⟨u, hu⟩ := h1 (by simp; omega)
      have H3 := Lib.hid h3
      have HB' := Lib.hid (bl_set HB.out (p := ⟨w.heap.size, k, none⟩) (Nat.le_refl _) ((Value.int .i64) l[k]))
      rw [take_set_rep l 0 k hlt] at H3
      clear hcell h1 h3 h4 hf hg HO HB
      generalize l[k] = x at e1 H3 HB'
      go_wp2
      go_roundw
      case rel => exact ⟨k + 1, by omega, by go_num, H3, HB'⟩
      case measure => simp [intOf]; omega
    · go_wp2
      go_ret
      obtain rfl : k = l.length := by omega
      exact ⟨_, _, rfl, by simpa using HO, fun q hq => by have := HO.out.lt q hq; have := (obk_eq hq).1; simp at this; omega, HB⟩
set_option maxHeartbeats 1000000 in
/-- The same list in new memory. -/
theorem to50 (v : Value) (l : List Bool) (w : World) (h : Rd Value.bool w v l) (hlen : l.length ≤ 1048576) :
    Calls Try.prog 50 #[v] w (NewO Value.bool 4 w l) := by
  have HRd := Lib.hid h; clear h
  obtain ⟨A, c, rfl, hc, hm, hr⟩ := HRd.out
  have HR := Lib.hid hr; clear hr HRd
  have hmk := make_run (P := Try.prog) 23 4 (.bool false) 1 Try.underlying23 info4 rfl (by decide) l.length (by omega)
  go_enter Try.func50, Try.ntmps50
  go_wp2
  clear hmk
  have HO := Lib.hid (ow_made Value.bool false w 4 l.length (by omega))
  go_loopw [4] (fun i wr => ∃ k : Nat, k ≤ l.length ∧ i = .int .i64 k ∧ Hid (Ow Value.bool 4 wr (.slice (some ⟨w.heap.size, 0, none⟩) l.length l.length) (l.take k ++ List.replicate (l.length - k) false)) ∧ Hid (Below w.heap.size w wr)) (fun i _ => l.length - (intOf i).toNat)
  case atStart => exact ⟨0, Nat.zero_le _, rfl, by simpa using HO, Lib.hid (bl_alloc (bl_refl w) _)⟩
  case round =>
    clear HO
    obtain ⟨k, hk, rfl, HO, HB⟩ := hrel
    by_cases hlt : k < l.length
    · obtain ⟨ad, rfl, hcell⟩ := HR.out (by omega)
      have e1 := (HB.out.cell (World.block_lt_of_cell? w _ (hcell k _ (List.getElem?_eq_getElem hlt)))).trans (hcell k _ (List.getElem?_eq_getElem hlt))
      obtain ⟨g, cap, hg, _, hf⟩ := HO.out.form (by simp; omega)
      obtain ⟨rfl, -, rfl⟩ : w.heap.size = g ∧ l.length = min k l.length + (l.length - k) ∧ l.length = cap := by simpa using hg
      obtain ⟨h1, h2, h3, h4⟩ := hf k l[k]
      obtain ⟨u, hu⟩ := h1 (by simp; omega)
      have H3 := Lib.hid h3
      have HB' := Lib.hid (bl_set HB.out (p := ⟨w.heap.size, k, none⟩) (Nat.le_refl _) (Value.bool l[k]))
      rw [take_set_rep l false k hlt] at H3
      clear hcell h1 h3 h4 hf hg HO HB
      generalize l[k] = x at e1 H3 HB'
      go_wp2
      go_roundw
      case rel => exact ⟨k + 1, by omega, by go_num, H3, HB'⟩
      case measure => simp [intOf]; omega
    · go_wp2
      go_ret
      obtain rfl : k = l.length := by omega
      exact ⟨_, _, rfl, by simpa using HO, fun q hq => by have := HO.out.lt q hq; have := (obk_eq hq).1; simp at this; omega, HB⟩
/-- What marking leaves in a slice. -/
def mark41l (a : Int) : Nat → List Int
  | 0 => []
  | n + 1 => mark41l a n ++ [a + n]
theorem mark41l_len (a : Int) : ∀ n, (mark41l a n).length = n
  | 0 => rfl
  | n + 1 => by simp [mark41l, mark41l_len a n]
theorem mark41l_set (a : Int) (l : List Int) (k : Nat) (h : k < l.length) : (mark41l a k ++ l.drop k).set k (a + k) = mark41l a (k + 1) ++ l.drop (k + 1) := by
  rw [List.set_append_right _ _ (by rw [mark41l_len]; exact Nat.le_refl _), mark41l_len, Nat.sub_self, List.drop_eq_getElem_cons h, mark41l, List.append_assoc]
  rfl
theorem mark41l_get (a : Int) : ∀ (n k : Nat), k < n → (mark41l a n)[k]? = some ((a + k))
  | 0, k, h => by omega
  | n + 1, k, h => by
    by_cases hk : k < n
    · rw [mark41l, List.getElem?_append_left (by rw [mark41l_len]; exact hk)]
      exact mark41l_get a n k hk
    · obtain rfl : k = n := by omega
      rw [mark41l, List.getElem?_append_right (by rw [mark41l_len]; exact Nat.le_refl _)]
      simp [mark41l_len]
set_option maxHeartbeats 1000000 in
theorem mark41 (v : Value) (l : List Int) (a : Int) (w : World) (h : Ow (Value.int .i64) 3 w v l) (h0 : 0 ≤ a) (h1 : a + l.length ≤ 9007199254740992) :
    Calls Try.prog 41 #[v, .int .i64 a] w fun e w' => e = .returned (.int .i64 (a + l.length)) ∧ Ow (Value.int .i64) 3 w' v (mark41l a l.length) ∧ Fr (fun k => obk v = some k) w w' := by
  have HO := Lib.hid h; clear h
  obtain ⟨A, c, rfl, hc, hm, hr⟩ := HO.out.rd
  clear hr
  go_enter Try.func41, Try.ntmps41
  go_wp2
  go_loopw [1, 5] (fun q i wr => ∃ k : Nat, k ≤ l.length ∧ i = .int .i64 k ∧ q = .int .i64 (a + k) ∧ Hid (Ow (Value.int .i64) 3 wr (.slice A l.length c) (mark41l a k ++ l.drop k)) ∧ Hid (Fr (fun k => obk (.slice A l.length c) = some k) w wr)) (fun _ i _ => l.length - (intOf i).toNat)
  case atStart => exact ⟨0, Nat.zero_le _, rfl, by simp, by simpa [mark41l] using HO, Lib.hid (Fr.refl _ _)⟩
  case round =>
    clear HO
    obtain ⟨k, hk, rfl, rfl, HO, HF⟩ := hrel
    by_cases hlt : k < l.length
    · obtain ⟨g, cap, hg, _, hf⟩ := HO.out.form (by simp [mark41l_len]; omega)
      obtain ⟨rfl, -, rfl⟩ : A = some ⟨g, 0, none⟩ ∧ l.length = k + (l.length - k) ∧ c = cap := by simpa [mark41l_len] using hg
      obtain ⟨h1', h2, h3, h4⟩ := hf k (a + k)
      obtain ⟨u, hu⟩ := h1' (by simp [mark41l_len]; omega)
      have H3 := Lib.hid h3
      have HF' := Lib.hid (HF.out.trans h4)
      rw [mark41l_set a l k hlt] at H3
      clear h1' h3 h4 hf hg HO HF
      go_wp2
      go_roundw
      case rel => exact ⟨k + 1, by omega, by go_num, by go_num, H3, HF'⟩
      case measure => simp [intOf]; omega
    · go_wp2
      go_ret
      obtain rfl : k = l.length := by omega
      exact ⟨rfl, by simpa using HO.out, HF.out⟩
/-- What marking leaves in a slice. -/
def mark42l (a : Int) : Nat → List Bool
  | 0 => []
  | n + 1 => mark42l a n ++ [decide ((a + n) % 3 = 0)]
theorem mark42l_len (a : Int) : ∀ n, (mark42l a n).length = n
  | 0 => rfl
  | n + 1 => by simp [mark42l, mark42l_len a n]
theorem mark42l_set (a : Int) (l : List Bool) (k : Nat) (h : k < l.length) : (mark42l a k ++ l.drop k).set k (decide ((a + k) % 3 = 0)) = mark42l a (k + 1) ++ l.drop (k + 1) := by
  rw [List.set_append_right _ _ (by rw [mark42l_len]; exact Nat.le_refl _), mark42l_len, Nat.sub_self, List.drop_eq_getElem_cons h, mark42l, List.append_assoc]
  rfl
theorem mark42l_get (a : Int) : ∀ (n k : Nat), k < n → (mark42l a n)[k]? = some ((decide ((a + k) % 3 = 0)))
  | 0, k, h => by omega
  | n + 1, k, h => by
    by_cases hk : k < n
    · rw [mark42l, List.getElem?_append_left (by rw [mark42l_len]; exact hk)]
      exact mark42l_get a n k hk
    · obtain rfl : k = n := by omega
      rw [mark42l, List.getElem?_append_right (by rw [mark42l_len]; exact Nat.le_refl _)]
      simp [mark42l_len]
set_option maxHeartbeats 1000000 in
theorem mark42 (v : Value) (l : List Bool) (a : Int) (w : World) (h : Ow Value.bool 4 w v l) (h0 : 0 ≤ a) (h1 : a + l.length ≤ 9007199254740992) :
    Calls Try.prog 42 #[v, .int .i64 a] w fun e w' => e = .returned (.int .i64 (a + l.length)) ∧ Ow Value.bool 4 w' v (mark42l a l.length) ∧ Fr (fun k => obk v = some k) w w' := by
  have HO := Lib.hid h; clear h
  obtain ⟨A, c, rfl, hc, hm, hr⟩ := HO.out.rd
  clear hr
  go_enter Try.func42, Try.ntmps42
  go_wp2
  go_loopw [1, 5] (fun q i wr => ∃ k : Nat, k ≤ l.length ∧ i = .int .i64 k ∧ q = .int .i64 (a + k) ∧ Hid (Ow Value.bool 4 wr (.slice A l.length c) (mark42l a k ++ l.drop k)) ∧ Hid (Fr (fun k => obk (.slice A l.length c) = some k) w wr)) (fun _ i _ => l.length - (intOf i).toNat)
  case atStart => exact ⟨0, Nat.zero_le _, rfl, by simp, by simpa [mark42l] using HO, Lib.hid (Fr.refl _ _)⟩
  case round =>
    clear HO
    obtain ⟨k, hk, rfl, rfl, HO, HF⟩ := hrel
    by_cases hlt : k < l.length
    · obtain ⟨g, cap, hg, _, hf⟩ := HO.out.form (by simp [mark42l_len]; omega)
      obtain ⟨rfl, -, rfl⟩ : A = some ⟨g, 0, none⟩ ∧ l.length = k + (l.length - k) ∧ c = cap := by simpa [mark42l_len] using hg
      obtain ⟨h1', h2, h3, h4⟩ := hf k (decide ((a + k) % 3 = 0))
      obtain ⟨u, hu⟩ := h1' (by simp [mark42l_len]; omega)
      have H3 := Lib.hid h3
      have HF' := Lib.hid (HF.out.trans h4)
      rw [mark42l_set a l k hlt] at H3
      clear h1' h3 h4 hf hg HO HF
      go_wp2
      go_roundw
      case rel => exact ⟨k + 1, by omega, by go_num, by go_num, H3, HF'⟩
      case measure => simp [intOf]; omega
    · go_wp2
      go_ret
      obtain rfl : k = l.length := by omega
      exact ⟨rfl, by simpa using HO.out, HF.out⟩
set_option maxHeartbeats 1000000 in
/-- What was marked is held. -/
theorem held43 (v : Value) (n : Nat) (a : Int) (w : World) (h : Rd (Value.int .i64) w v (mark41l a n)) (h0 : 0 ≤ a) (h1 : a + n ≤ 9007199254740992) :
    Calls Try.prog 43 #[v, .int .i64 a] w fun e w' => e = .returned (.int .i64 (a + n)) ∧ ∃ q, w' = w.drewN q := by
  obtain ⟨A, c, rfl, hc, hm, hr⟩ := h
  rw [mark41l_len] at hc hm hr ⊢
  have HR := Lib.hid hr; clear hr
  go_enter Try.func43, Try.ntmps43
  go_wp2
  go_loopw [1, 5] (fun q i wr => ∃ k : Nat, k ≤ n ∧ i = .int .i64 k ∧ q = .int .i64 (a + k) ∧ ∃ q, wr = w.drewN q) (fun _ i _ => n - (intOf i).toNat)
  case atStart => exact ⟨0, Nat.zero_le _, rfl, by simp, 0, rfl⟩
  case round =>
    obtain ⟨k, hk, rfl, rfl, q, rfl⟩ := hrel
    by_cases hlt : k < n
    · obtain ⟨ad, rfl, hcell⟩ := HR.out (by omega)
      have e1 := hcell k _ (mark41l_get a n k hlt)
      clear hcell HR
      go_wp2
      go_roundw
      case rel => exact ⟨k + 1, by omega, by go_num, by go_num, _, by rfl⟩
      case measure => simp [intOf]; omega
    · go_wp2
      go_ret
      obtain rfl : k = n := by omega
      exact ⟨rfl, q, rfl⟩
set_option maxHeartbeats 1000000 in
/-- What was marked is held. -/
theorem held44 (v : Value) (n : Nat) (a : Int) (w : World) (h : Rd Value.bool w v (mark42l a n)) (h0 : 0 ≤ a) (h1 : a + n ≤ 9007199254740992) :
    Calls Try.prog 44 #[v, .int .i64 a] w fun e w' => e = .returned (.int .i64 (a + n)) ∧ ∃ q, w' = w.drewN q := by
  obtain ⟨A, c, rfl, hc, hm, hr⟩ := h
  rw [mark42l_len] at hc hm hr ⊢
  have HR := Lib.hid hr; clear hr
  go_enter Try.func44, Try.ntmps44
  go_wp2
  go_loopw [1, 5] (fun q i wr => ∃ k : Nat, k ≤ n ∧ i = .int .i64 k ∧ q = .int .i64 (a + k) ∧ ∃ q, wr = w.drewN q) (fun _ i _ => n - (intOf i).toNat)
  case atStart => exact ⟨0, Nat.zero_le _, rfl, by simp, 0, rfl⟩
  case round =>
    obtain ⟨k, hk, rfl, rfl, q, rfl⟩ := hrel
    by_cases hlt : k < n
    · obtain ⟨ad, rfl, hcell⟩ := HR.out (by omega)
      have e1 := hcell k _ (mark42l_get a n k hlt)
      clear hcell HR
      obtain ⟨b, hb⟩ : ∃ b, decide ((a + (k : Int)) % 3 = 0) = b := ⟨_, rfl⟩
      have hb2 : ((a + (k : Int)) % 3 == 0) = b := hb
      rw [hb] at e1
      clear hb
      go_wp2
      go_roundw
      case rel => exact ⟨k + 1, by omega, by go_num, by go_num, _, by rfl⟩
      case measure => simp [intOf]; omega
    · go_wp2
      go_ret
      obtain rfl : k = n := by omega
      exact ⟨rfl, q, rfl⟩
end Go.Proofs.Ytiemacjmipiakaa.Nm
