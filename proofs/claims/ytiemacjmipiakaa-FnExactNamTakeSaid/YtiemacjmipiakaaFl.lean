/- A region that draws its order, taken operation by operation: whatever order the edges allow, each operation finds what it needs and leaves what is said of it. Plain laws of every program. -/
import Derived.Test.YtiemacjmipiakaaHw
namespace Go.Proofs.Ytiemacjmipiakaa.Hw
open Go.RowKit
set_option linter.unusedVariables false
/-- The operations that an edge puts before operation i; all that stand before it; which slot an operation writes. -/
def depsOf (ops : Array Oper) (i : Nat) : List Nat := match ops[i]? with
  | some o => (o.after.toList.filter (fun e => Region.binds .any e)).map (·.on)
  | none => []
def ancs (ops : Array Oper) : Nat → List (List Nat)
  | 0 => []
  | n + 1 => ancs ops n ++ [depsOf ops n ++ (depsOf ops n).flatMap (fun j => (ancs ops n).getD j [])]
def dstOf (ops : Array Oper) (j : Nat) : Option Tmp := (ops[j]?).bind (·.dst)
def valOf (ops : Array Oper) (a : Act) (j : Nat) : Value := match dstOf ops j with
  | some d => a.tmps.getD d undef
  | none => undef
/-- Edges go backwards; what is said to be needed stands before; no two operations write one slot. -/
def flowOk (ops : Array Oper) (size : Nat) (needs : List (List Nat)) : Bool :=
  let an := ancs ops ops.size
  (List.range ops.size).all (fun i => (depsOf ops i).all (fun j => decide (j < i))) &&
  (List.range ops.size).all (fun i => (needs.getD i []).all (fun j => (an.getD i []).contains j)) &&
  (List.range ops.size).all (fun i => match dstOf ops i with
    | some d => decide (d < size) && (List.range ops.size).all (fun j => j == i || dstOf ops j != some d)
    | none => true)
/-- Whoever writes slot k comes behind operation i, or is it. -/
def keeps (ops : Array Oper) (i k : Nat) : Bool := let an := ancs ops ops.size; (List.range ops.size).all (fun j => dstOf ops j != some k || j == i || (an.getD j []).contains i)
/-- Nobody writes slot k. -/
def outB (ops : Array Oper) (k : Nat) : Bool := (List.range ops.size).all (fun j => dstOf ops j != some k)
theorem outB_of {ops : Array Oper} {k : Nat} (h : outB ops k = true) : ∀ j, j < ops.size → dstOf ops j ≠ some k := fun j hj => by
  simp only [outB, List.all_eq_true, List.mem_range, bne_iff_ne, ne_eq] at h
  exact h j hj
theorem length_ancs (ops : Array Oper) : ∀ n, (ancs ops n).length = n
  | 0 => rfl
  | n + 1 => by simp [ancs, length_ancs ops n]
theorem ancs_get (ops : Array Oper) : ∀ (n i : Nat), i < n → (ancs ops n).getD i [] = depsOf ops i ++ (depsOf ops i).flatMap (fun j => (ancs ops i).getD j [])
  | 0, i, h => by omega
  | n + 1, i, h => by
    by_cases hi : i < n
    · rw [← ancs_get ops n i hi, ancs, List.getD_eq_getElem?_getD, List.getElem?_append_left (by rw [length_ancs]; exact hi), ← List.getD_eq_getElem?_getD]
    · obtain rfl : i = n := by omega
      rw [ancs, List.getD_eq_getElem?_getD, List.getElem?_append_right (by rw [length_ancs]; exact Nat.le_refl _)]
      simp [length_ancs]
theorem ancs_le (ops : Array Oper) (n m i : Nat) (h1 : i < n) (h2 : i < m) : (ancs ops n).getD i [] = (ancs ops m).getD i [] := by rw [ancs_get ops n i h1, ancs_get ops m i h2]
/-- What is listed is closed under what stands before. -/
theorem closed_ancs {ops : Array Oper} (hd : ∀ i, i < ops.size → ∀ j ∈ depsOf ops i, j < i) {L : Nat → Prop} (hc : ∀ i, i < ops.size → L i → ∀ j ∈ depsOf ops i, L j) :
    ∀ i, i < ops.size → (∀ j ∈ depsOf ops i, L j) → ∀ j ∈ (ancs ops ops.size).getD i [], L j := by
  intro i
  induction i using Nat.strongRecOn with
  | ind i ih =>
    intro hi hL j hj
    rw [ancs_get ops _ i hi] at hj
    rcases List.mem_append.mp hj with hj | hj
    · exact hL j hj
    · obtain ⟨k, hk, hjk⟩ := List.mem_flatMap.mp hj
      have hki := hd i hi k hk
      rw [ancs_le ops i ops.size k hki (by omega)] at hjk
      exact ih k hki (by omega) (fun q hq => hc k (by omega) (hL k hk) q hq) j hjk

section
variable {P : Program} {ops : Array Oper} {Q : Exit → Act → World → Prop}
/-- The values of a region's operations, that of number i turned. -/
def upd (f : Nat → Value) (i : Nat) (v : Value) : Nat → Value := fun q => if q = i then v else f q
theorem upd_self (f : Nat → Value) (i : Nat) (v : Value) : upd f i v i = v := by simp [upd]
theorem upd_ne (f : Nat → Value) (i : Nat) (v : Value) (q : Nat) (h : q ≠ i) : upd f i v q = f q := by simp [upd, h]
theorem upd_need (f : Nat → Value) (i : Nat) (v : Value) (q : Nat) (L : List Nat) (h : i ∉ L) (hq : q ∈ L) : upd f i v q = f q := upd_ne f i v q (fun e => h (e ▸ hq))
/-- What an operation must do. -/
def Step (P : Program) (ops : Array Oper) (Q : Exit → Act → World → Prop) (S : World → Prop) (T : World → World → Prop) (V : Value → World → Prop) (o : Oper) (a : Act) (w : World) : Prop :=
  let K := fun (a' : Act) (w' : World) => ∃ v, a' = a.put o.dst v ∧ (o.dst = none → v = undef) ∧ S w' ∧ T w w' ∧ V v w'
  if Region.wanted o (yielded ops a.tmps) = true then o.wp P a w K Q else K (a.put o.dst undef) w
theorem Act.put_getD {a : Act} {d : Tmp} {v : Value} (h : d < a.tmps.size) (k : Nat) : (a.put (some d) v).tmps.getD k undef = if k = d then v else a.tmps.getD k undef := by
  simp only [Act.put, Array.getD_eq_getD_getElem?, Array.getElem?_setIfInBounds]
  by_cases hk : d = k
  · subst hk; simp [h]
  · simp [hk, Ne.symm hk]
theorem wp_flow_core {id : Nat} {a0 : Act} {w0 : World} (hm : P.follows .mixedOrders = true) (m : Nat) (hmn : m = ops.size ∨ (m + 1 = ops.size ∧ ∀ j, j < m → j ∈ (ancs ops ops.size).getD m [])) (needs : List (List Nat)) (S : World → Prop) (T : Nat → World → World → Prop) (V : Nat → (Nat → Value) → World → Prop)
    (hok : flowOk ops a0.tmps.size needs = true) (h0 : S w0.drew) (hV : ∀ i j f v w w', i ≠ j → i ∉ needs.getD j [] → V j f w → T i w w' → V i (upd f i v) w' → V j (upd f i v) w')
    (hstep : ∀ i o, i < m → ops[i]? = some o → ∀ a w, S w → (∀ j, j ∈ needs.getD i [] → V j (valOf ops a) w) → (∀ k, keeps ops i k = true → a.tmps.getD k undef = a0.tmps.getD k undef) → a.tmps.size = a0.tmps.size → Step P ops Q S (T i) (fun v w' => V i (upd (valOf ops a) i v) w') o a w)
    (hdone : ∀ a w, S w → (∀ j, j < m → V j (valOf ops a) w) → (∀ k, outB ops k = true → a.tmps.getD k undef = a0.tmps.getD k undef) → a.tmps.size = a0.tmps.size → a.defers = a0.defers → (m = ops.size → Q .normal a w) ∧ (m + 1 = ops.size → wpOp P ops Q m (fun a' w' => Q .normal a' w') a w)) :
    (Code.region id ops true).wp P Q a0 w0 := by
  simp only [flowOk, Bool.and_eq_true, List.all_eq_true, List.mem_range, decide_eq_true_eq] at hok
  obtain ⟨⟨k1, k2⟩, k3⟩ := hok
  refine wp_region_any hm ?_
  have hmle : m ≤ ops.size := by omega
  have key : ∀ (fuel : Nat) (L : Array Bool) (a : Act) (w : World), L.size = ops.size → (∀ i, m ≤ i → i < ops.size → L.getD i true = false) → (ops.size ≤ fuel + ((List.range ops.size).filter (fun i => L.getD i true)).length) →
      S w → (∀ i, i < ops.size → L.getD i true = true → ∀ j ∈ depsOf ops i, L.getD j true = true) → (∀ j, j < ops.size → L.getD j true = true → V j (valOf ops a) w) →
      (∀ k, (∀ j, j < ops.size → L.getD j true = true → dstOf ops j ≠ some k) → a.tmps.getD k undef = a0.tmps.getD k undef) → a.tmps.size = a0.tmps.size → a.defers = a0.defers → wpAny P .any ops Q fuel L a w := by
    have hready : ∀ (L : Array Bool), L.size = ops.size → ∀ i, i ∈ Region.ready .any ops L ↔ i < ops.size ∧ L.getD i true = false ∧ ∀ j ∈ depsOf ops i, L.getD j false = true := by
      intro L hL i
      simp only [Region.ready, List.mem_filter, List.mem_range, Bool.and_eq_true, Bool.not_eq_true', depsOf]
      refine and_congr_right (fun hi => and_congr_right (fun _ => ?_))
      simp only [Array.getElem?_eq_getElem hi, Option.map_some, Option.getD_some, Array.all_eq_true', Bool.or_eq_true, Bool.not_eq_true', List.mem_map, List.mem_filter, Array.mem_toList_iff]
      constructor
      · rintro h j ⟨e, ⟨he, hb⟩, rfl⟩
        rcases h e he with h | h
        · rw [h] at hb; cases hb
        · exact h
      · intro h e he
        by_cases hb : Region.binds .any e = true
        · exact .inr (h _ ⟨e, ⟨he, hb⟩, rfl⟩)
        · exact .inl (by simpa using hb)
    have hgd : ∀ (L : Array Bool), L.size = ops.size → ∀ j, j < ops.size → L.getD j false = L.getD j true := by
      intro L hL j hj
      simp [Array.getD_eq_getD_getElem?, Array.getElem?_eq_getElem (show j < L.size by omega)]
    have hempty : ∀ (L : Array Bool), L.size = ops.size → Region.ready .any ops L = [] → ∀ i, i < ops.size → L.getD i true = true := by
      intro L hL hr i
      induction i using Nat.strongRecOn with
      | ind i ih =>
        intro hi
        by_cases hl : L.getD i true = true
        · exact hl
        · exfalso
          have : i ∈ Region.ready .any ops L := (hready L hL i).mpr ⟨hi, by simpa using hl, fun j hj => by
            have hji := k1 i hi j hj
            rw [hgd L hL j (by omega)]
            exact ih j hji (by omega)⟩
          rw [hr] at this
          cases this
    intro fuel
    induction fuel with
    | zero =>
      intro L a w hL hLm hf hS hc hVs hO hs hd
      have hall : ∀ i, i < ops.size → L.getD i true = true := by
        have hle : ((List.range ops.size).filter (fun i => L.getD i true)).length = (List.range ops.size).length := by
          have := List.length_filter_le (fun i => L.getD i true) (List.range ops.size)
          simp only [List.length_range] at this ⊢
          omega
        intro i hi
        exact List.length_filter_eq_length_iff.mp hle i (List.mem_range.mpr hi)
      have hmn' : m = ops.size := by
        rcases hmn with h | ⟨h, _⟩
        · exact h
        · exact absurd ((hLm m (Nat.le_refl _) (by omega)).symm.trans (hall m (by omega))) (by decide)
      refine ⟨?_, (hdone a w hS (fun j hj => hVs j (by omega) (hall j (by omega))) (fun k hk => hO k (fun j hj _ => outB_of hk j hj)) hs hd).1 hmn'⟩
      apply List.eq_nil_iff_forall_not_mem.mpr
      intro i hi
      have := (hready L hL i).mp hi
      rw [hall i this.1] at this
      exact absurd this.2.1 (by decide)
    | succ fuel ih =>
      intro L a w hL hLm hf hS hc hVs hO hs hd
      refine ⟨fun hr => ?_, fun i hi => ?_⟩
      · have hmn' : m = ops.size := by
          rcases hmn with h | ⟨h, _⟩
          · exact h
          · exact absurd ((hLm m (Nat.le_refl _) (by omega)).symm.trans (hempty L hL hr m (by omega))) (by decide)
        exact (hdone a w hS (fun j hj => hVs j (by omega) (hempty L hL hr j (by omega))) (fun k hk => hO k (fun j hj _ => outB_of hk j hj)) hs hd).1 hmn'
      obtain ⟨hin, hli, hdeps⟩ := (hready L hL i).mp hi
      have hdeps' : ∀ j ∈ depsOf ops i, L.getD j true = true := fun j hj => by rw [← hgd L hL j (by have := k1 i hin j hj; omega)]; exact hdeps j hj
      have han := closed_ancs (L := fun j => L.getD j true = true) k1 hc i hin hdeps'
      by_cases him : m ≤ i
      · -- the last one
        have hm1 : m + 1 = ops.size ∧ ∀ j, j < m → j ∈ (ancs ops ops.size).getD m [] := by
          rcases hmn with h | h
          · omega
          · exact h
        obtain rfl : i = m := by omega
        refine wpOp_mono (fun a' w' hq => ?_) ((hdone a w hS (fun j hj => hVs j (by omega) (han j (hm1.2 j hj))) (fun k hk => hO k (fun j hj _ => outB_of hk j hj)) hs hd).2 hm1.1)
        have hset : ∀ j, (L.setIfInBounds i true).getD j true = if j = i then true else L.getD j true := by
          intro j
          simp only [Array.getD_eq_getD_getElem?, Array.getElem?_setIfInBounds]
          by_cases hj : i = j
          · subst hj; simp [show i < L.size by omega]
          · simp [hj, Ne.symm hj]
        refine wpAny_done ?_ hq fuel
        apply List.eq_nil_iff_forall_not_mem.mpr
        intro q hq'
        have := (hready (L.setIfInBounds i true) (by simp [hL]) q).mp hq'
        have hqt : (L.setIfInBounds i true).getD q true = true := by
          rw [hset]
          split
          · rfl
          · exact han q (hm1.2 q (by omega))
        rw [hqt] at this
        exact absurd this.2.1 (by decide)
      have hst := hstep i ops[i] (by omega) (Array.getElem?_eq_getElem hin) a w hS
        (fun j hj => by
          have hn : (ancs ops ops.size).getD i [] |>.contains j := by
            rcases Nat.lt_or_ge i needs.length with h | h
            · exact k2 i hin j hj
            · rw [List.getD_eq_getElem?_getD, List.getElem?_eq_none h] at hj; cases hj
          have hja := List.contains_iff_mem.mp hn
          have hjL := han j hja
          have hjn : j < ops.size := by
            rw [ancs_get ops _ i hin] at hja
            rcases List.mem_append.mp hja with h | h
            · have := k1 i hin j h; omega
            · obtain ⟨q, hq, hjq⟩ := List.mem_flatMap.mp h
              have hqi := k1 i hin q hq
              rcases Nat.lt_or_ge j ops.size with h' | h'
              · exact h'
              · exfalso
                have hb : ∀ (i : Nat), i < ops.size → ∀ j ∈ (ancs ops ops.size).getD i [], j < ops.size := by
                  intro i
                  induction i using Nat.strongRecOn with
                  | ind i ih2 =>
                    intro hi j hj
                    rw [ancs_get ops _ i hi] at hj
                    rcases List.mem_append.mp hj with h | h
                    · have := k1 i hi j h; omega
                    · obtain ⟨q, hq, hjq⟩ := List.mem_flatMap.mp h
                      have hqi := k1 i hi q hq
                      rw [ancs_le ops i ops.size q hqi (by omega)] at hjq
                      exact ih2 q hqi (by omega) j hjq
                rw [ancs_le ops i ops.size q hqi (by omega)] at hjq
                have := hb q (by omega) j hjq
                omega
          exact hVs j hjn hjL)
        (fun k hk => by
          refine hO k (fun j hj hjL => ?_)
          simp only [keeps, List.all_eq_true, List.mem_range, Bool.or_eq_true, bne_iff_ne, ne_eq, beq_iff_eq] at hk
          rcases hk j hj with (h | h) | h
          · exact h
          · subst h; rw [hli] at hjL; cases hjL
          · exfalso
            have := closed_ancs (L := fun j => L.getD j true = true) k1 hc j hj (hc j hj hjL) i (List.contains_iff_mem.mp h)
            rw [hli] at this
            cases this) hs
      have hnext : ∀ (v : Value) (w' : World), (ops[i].dst = none → v = undef) → S w' → T i w w' → V i (upd (valOf ops a) i v) w' → wpAny P .any ops Q fuel (L.setIfInBounds i true) (a.put ops[i].dst v) w' := by
        intro v w' hv hS' hT hV'
        have hset : ∀ j, (L.setIfInBounds i true).getD j true = if j = i then true else L.getD j true := by
          intro j
          simp only [Array.getD_eq_getD_getElem?, Array.getElem?_setIfInBounds]
          by_cases hj : i = j
          · subst hj; simp [show i < L.size by omega]
          · simp [hj, Ne.symm hj]
        have hdi : dstOf ops i = ops[i].dst := by simp [dstOf, Array.getElem?_eq_getElem hin]
        have hval : ∀ j, j < ops.size → j ≠ i → valOf ops (a.put ops[i].dst v) j = valOf ops a j := by
          intro j hj hne
          unfold valOf
          cases hdj : dstOf ops j with
          | none => rfl
          | some d =>
            cases hdd : ops[i].dst with
            | none => rfl
            | some d' =>
              have h3 := k3 i hin
              rw [hdi, hdd] at h3
              simp only [Bool.and_eq_true, decide_eq_true_eq, List.all_eq_true, List.mem_range, Bool.or_eq_true, beq_iff_eq, bne_iff_ne, ne_eq] at h3
              have hne' : d ≠ d' := by
                rintro rfl
                rcases h3.2 j hj with h | h
                · exact hne h
                · exact h hdj
              show (a.put (some d') v).tmps.getD d undef = a.tmps.getD d undef
              rw [Act.put_getD (by rw [hs]; exact h3.1), if_neg hne']
        have hvi : valOf ops (a.put ops[i].dst v) i = v := by
          unfold valOf
          rw [hdi]
          cases hdd : ops[i].dst with
          | none => exact (hv hdd).symm
          | some d' =>
            have h3 := k3 i hin
            rw [hdi, hdd] at h3
            simp only [Bool.and_eq_true, decide_eq_true_eq] at h3
            show (a.put (some d') v).tmps.getD d' undef = v
            rw [Act.put_getD (by rw [hs]; exact h3.1), if_pos rfl]
        refine ih _ _ _ (by simp [hL]) (fun q h1 h2 => by rw [hset, if_neg (by omega)]; exact hLm q h1 h2) ?_ hS' ?_ ?_ ?_ ?_ ?_
        · have hlt : ((List.range ops.size).filter (fun j => L.getD j true)).length < ((List.range ops.size).filter (fun j => (L.setIfInBounds i true).getD j true)).length := by
            have e : ∀ (l : List Nat), (l.filter (fun j => L.getD j true)).length ≤ (l.filter (fun j => (L.setIfInBounds i true).getD j true)).length ∧ (i ∈ l → (l.filter (fun j => L.getD j true)).length < (l.filter (fun j => (L.setIfInBounds i true).getD j true)).length) := by
              intro l
              induction l with
              | nil => exact ⟨Nat.le_refl _, fun h => by cases h⟩
              | cons x xs ihx =>
                by_cases hx : x = i
                · subst hx
                  rw [List.filter_cons_of_neg (by simp [hli]), List.filter_cons_of_pos (by rw [hset]; simp)]
                  simp only [List.length_cons]
                  exact ⟨by omega, fun _ => by omega⟩
                · have hsx : (L.setIfInBounds i true).getD x true = L.getD x true := by rw [hset, if_neg hx]
                  by_cases hLx : L.getD x true = true
                  · rw [List.filter_cons_of_pos (by exact hLx), List.filter_cons_of_pos (by rw [hsx]; exact hLx)]
                    simp only [List.length_cons]
                    refine ⟨by omega, fun h => ?_⟩
                    rcases List.mem_cons.mp h with h | h
                    · exact absurd h.symm hx
                    · have := ihx.2 h; omega
                  · rw [List.filter_cons_of_neg (by simpa using hLx), List.filter_cons_of_neg (by rw [hsx]; simpa using hLx)]
                    refine ⟨ihx.1, fun h => ?_⟩
                    rcases List.mem_cons.mp h with h | h
                    · exact absurd h.symm hx
                    · exact ihx.2 h
            exact (e _).2 (List.mem_range.mpr hin)
          omega
        · intro j hj hjL q hq
          rw [hset] at hjL ⊢
          split
          · rfl
          · by_cases hji : j = i
            · subst hji; exact hdeps' q hq
            · rw [if_neg hji] at hjL; exact hc j hj hjL q hq
        · intro j hj hjL
          by_cases hji : j = i
          · subst hji
            have he : valOf ops (a.put ops[j].dst v) = upd (valOf ops a) j v := by
              funext q
              by_cases hq : q = j
              · subst hq; rw [hvi, upd_self]
              · rw [upd_ne _ _ _ _ hq]
                rcases Nat.lt_or_ge q ops.size with h | h
                · exact hval q h hq
                · simp [valOf, dstOf, Array.getElem?_eq_none h]
            rw [he]; exact hV'
          · rw [hset, if_neg hji] at hjL
            have he : valOf ops (a.put ops[i].dst v) = upd (valOf ops a) i v := by
              funext q
              by_cases hq : q = i
              · subst hq; rw [hvi, upd_self]
              · rw [upd_ne _ _ _ _ hq]
                rcases Nat.lt_or_ge q ops.size with h | h
                · exact hval q h hq
                · simp [valOf, dstOf, Array.getElem?_eq_none h]
            rw [he]
            refine hV i j (valOf ops a) v w w' (Ne.symm hji) (fun hq => ?_) (hVs j hj hjL) hT hV'
            have h2 : (ancs ops ops.size).getD j [] |>.contains i := by
              rcases Nat.lt_or_ge j needs.length with h | h
              · exact k2 j hj i hq
              · rw [List.getD_eq_getElem?_getD, List.getElem?_eq_none h] at hq; cases hq
            have := closed_ancs (L := fun j => L.getD j true = true) k1 hc j hj (hc j hj hjL) i (List.contains_iff_mem.mp h2)
            rw [hli] at this
            cases this
        · intro k hk
          have hki : ops[i].dst ≠ some k := by rw [← hdi]; exact hk i hin (by rw [hset, if_pos rfl])
          have : (a.put ops[i].dst v).tmps.getD k undef = a.tmps.getD k undef := by
            cases hdd : ops[i].dst with
            | none => rfl
            | some d' =>
              have h3 := k3 i hin
              rw [hdi, hdd] at h3
              simp only [Bool.and_eq_true, decide_eq_true_eq] at h3
              rw [Act.put_getD (by rw [hs]; exact h3.1), if_neg (fun e => hki (by rw [hdd, e]))]
          rw [this]
          refine hO k (fun j hj hjL => hk j hj ?_)
          rw [hset]; split
          · rfl
          · exact hjL
        · cases hdd : ops[i].dst <;> simp [Act.put, hs]
        · cases hdd : ops[i].dst <;> simp [Act.put, hd]
      unfold wpOp
      rw [Array.getElem?_eq_getElem hin]
      unfold Step at hst
      dsimp only at hst ⊢
      by_cases hw : Region.wanted ops[i] (yielded ops a.tmps) = true
      · rw [if_pos hw] at hst ⊢
        refine Or.inl (Oper.wp_mono (fun a' w' ⟨v, e, hv, hS', hT, hV'⟩ => ?_) hst)
        subst e
        exact hnext v w' hv hS' hT hV'
      · rw [if_neg hw] at hst ⊢
        obtain ⟨v, e, hv, hS', hT, hV'⟩ := hst
        rw [e]
        exact hnext v w hv hS' hT hV'
  exact key ops.size _ a0 _ (by simp) (fun i h1 h2 => by simp [Array.getD_eq_getD_getElem?, h2]) (by omega) h0 (fun i hi h => by simp [Array.getD_eq_getD_getElem?, hi] at h) (fun i hi h => by simp [Array.getD_eq_getD_getElem?, hi] at h) (fun k _ => rfl) rfl rfl
theorem wp_flow {id : Nat} {a0 : Act} {w0 : World} (hm : P.follows .mixedOrders = true) (needs : List (List Nat)) (S : World → Prop) (T : Nat → World → World → Prop) (V : Nat → (Nat → Value) → World → Prop)
    (hok : flowOk ops a0.tmps.size needs = true) (h0 : S w0.drew) (hV : ∀ i j f v w w', i ≠ j → i ∉ needs.getD j [] → V j f w → T i w w' → V i (upd f i v) w' → V j (upd f i v) w')
    (hstep : ∀ i o, ops[i]? = some o → ∀ a w, S w → (∀ j, j ∈ needs.getD i [] → V j (valOf ops a) w) → (∀ k, keeps ops i k = true → a.tmps.getD k undef = a0.tmps.getD k undef) → a.tmps.size = a0.tmps.size → Step P ops Q S (T i) (fun v w' => V i (upd (valOf ops a) i v) w') o a w)
    (hdone : ∀ a w, S w → (∀ j, j < ops.size → V j (valOf ops a) w) → (∀ k, outB ops k = true → a.tmps.getD k undef = a0.tmps.getD k undef) → a.tmps.size = a0.tmps.size → a.defers = a0.defers → Q .normal a w) :
    (Code.region id ops true).wp P Q a0 w0 :=
  wp_flow_core hm ops.size (.inl rfl) needs S T V hok h0 hV (fun i o _ => hstep i o) (fun a w h1 h2 h3 h4 h5 => ⟨fun _ => hdone a w h1 h2 h3 h4 h5, fun h => absurd h (by omega)⟩)
/-- All stand before operation m, the last one. -/
def lastOk (ops : Array Oper) (m : Nat) : Bool := let an := (ancs ops ops.size).getD m []; decide (m + 1 = ops.size) && (List.range m).all (fun j => an.contains j)
/-- The same, the last operation (a store, say) by itself. -/
theorem wp_flow_last {id : Nat} {a0 : Act} {w0 : World} (hm : P.follows .mixedOrders = true) (m : Nat) (hl : lastOk ops m = true) (needs : List (List Nat)) (S : World → Prop) (T : Nat → World → World → Prop) (V : Nat → (Nat → Value) → World → Prop)
    (hok : flowOk ops a0.tmps.size needs = true) (h0 : S w0.drew) (hV : ∀ i j f v w w', i ≠ j → i ∉ needs.getD j [] → V j f w → T i w w' → V i (upd f i v) w' → V j (upd f i v) w')
    (hstep : ∀ i o, i < m → ops[i]? = some o → ∀ a w, S w → (∀ j, j ∈ needs.getD i [] → V j (valOf ops a) w) → (∀ k, keeps ops i k = true → a.tmps.getD k undef = a0.tmps.getD k undef) → a.tmps.size = a0.tmps.size → Step P ops Q S (T i) (fun v w' => V i (upd (valOf ops a) i v) w') o a w)
    (hdone : ∀ a w o, ops[m]? = some o → S w → (∀ j, j < m → V j (valOf ops a) w) → (∀ k, outB ops k = true → a.tmps.getD k undef = a0.tmps.getD k undef) → a.tmps.size = a0.tmps.size → a.defers = a0.defers → o.guard = none ∧ o.wp P a w (fun a' w' => Q .normal a' w') Q) :
    (Code.region id ops true).wp P Q a0 w0 := by
  simp only [lastOk, Bool.and_eq_true, decide_eq_true_eq, List.all_eq_true, List.mem_range] at hl
  refine wp_flow_core hm m (.inr ⟨hl.1, fun j hj => List.contains_iff_mem.mp (hl.2 j hj)⟩) needs S T V hok h0 hV hstep (fun a w h1 h2 h3 h4 h5 => ⟨fun h => absurd h (by omega), fun _ => ?_⟩)
  have hlt : m < ops.size := by omega
  obtain ⟨hg, hw⟩ := hdone a w ops[m] (Array.getElem?_eq_getElem hlt) h1 h2 h3 h4 h5
  unfold wpOp
  rw [Array.getElem?_eq_getElem hlt]
  dsimp only
  rw [if_pos (by simp [Region.wanted, hg])]
  exact .inl hw
/-- An operation that runs to a value; one that runs to none; a call. -/
theorem step_val {S : World → Prop} {T : World → World → Prop} {V : Value → World → Prop} {o : Oper} {a : Act} {w : World} (hg : o.guard = none) (v : Value) (w' : World) (hr : (execOp a.eval o).run P w = .ok (.value v) w') (hn : o.dst = none → v = undef) (hS : S w') (hT : T w w') (hV : V v w') : Step P ops Q S T V o a w := by
  unfold Step
  rw [if_pos (by simp [Region.wanted, hg])]
  unfold Oper.wp
  rw [hr]
  exact ⟨v, rfl, hn, hS, hT, hV⟩
theorem step_skip {S : World → Prop} {T : World → World → Prop} {V : Value → World → Prop} {o : Oper} {a : Act} {w : World} (hg : o.guard = none) (w' : World) (hr : (execOp a.eval o).run P w = .ok .skip w') (hS : S w') (hT : T w w') (hV : V undef w') : Step P ops Q S T V o a w := by
  unfold Step
  rw [if_pos (by simp [Region.wanted, hg])]
  unfold Oper.wp
  rw [hr]
  exact ⟨undef, rfl, fun _ => rfl, hS, hT, hV⟩
theorem step_call {S : World → Prop} {T : World → World → Prop} {V : Value → World → Prop} {o : Oper} {a : Act} {w : World} (hg : o.guard = none) (f : FuncId) (args : Array Value) (hr : (execOp a.eval o).run P w = .ok (.enter f args) w) (hn : o.dst ≠ none) (R : Ending → World → Prop) (hc : Calls P f args w R) (h : ∀ e w', R e w' → ∃ v, e = .returned v ∧ S w' ∧ T w w' ∧ V v w') : Step P ops Q S T V o a w := by
  unfold Step
  rw [if_pos (by simp [Region.wanted, hg])]
  unfold Oper.wp
  rw [hr]
  refine hc.mono (fun e w' hR => ?_)
  obtain ⟨v, rfl, h1, h2, h3⟩ := h e w' hR
  exact ⟨v, rfl, fun h => absurd h hn, h1, h2, h3⟩
theorem yielded_of {ops : Array Oper} {a : Act} {j : Nat} {d : Tmp} {b : Bool} (hd : dstOf ops j = some d) (hv : a.tmps.getD d undef = .bool b) : yielded ops a.tmps j = some b := by
  unfold yielded
  rw [show (ops[j]?).bind (·.dst) = some d from hd]
  simp only [Option.bind_some]
  rw [Array.getD_eq_getD_getElem?] at hv
  cases hx : a.tmps[d]? with
  | none => rw [hx] at hv; simp [undef] at hv
  | some x => rw [hx] at hv; simp at hv; subst hv; rfl
/-- A guarded operation whose guard says yes; no. -/
theorem step_yes {S : World → Prop} {T : World → World → Prop} {V : Value → World → Prop} {o : Oper} {a : Act} {w : World} {j : Nat} {b : Bool} (hg : o.guard = some (j, b)) {d : Tmp} (hd : dstOf ops j = some d) (hv : a.tmps.getD d undef = .bool b) (v : Value) (w' : World) (hr : (execOp a.eval o).run P w = .ok (.value v) w') (hn : o.dst = none → v = undef) (hS : S w') (hT : T w w') (hV : V v w') : Step P ops Q S T V o a w := by
  unfold Step
  rw [if_pos (by simp [Region.wanted, hg, yielded_of hd hv])]
  unfold Oper.wp
  rw [hr]
  exact ⟨v, rfl, hn, hS, hT, hV⟩
theorem step_no {S : World → Prop} {T : World → World → Prop} {V : Value → World → Prop} {o : Oper} {a : Act} {w : World} {j : Nat} {b b' : Bool} (hg : o.guard = some (j, b)) {d : Tmp} (hd : dstOf ops j = some d) (hv : a.tmps.getD d undef = .bool b') (hne : b' ≠ b) (hS : S w) (hT : T w w) (hV : V undef w) : Step P ops Q S T V o a w := by
  unfold Step
  rw [if_neg (by simp [Region.wanted, hg, yielded_of hd hv, hne])]
  exact ⟨undef, rfl, fun _ => rfl, hS, hT, hV⟩
theorem step_call_yes {S : World → Prop} {T : World → World → Prop} {V : Value → World → Prop} {o : Oper} {a : Act} {w : World} {j : Nat} {b : Bool} (hg : o.guard = some (j, b)) {d : Tmp} (hd : dstOf ops j = some d) (hv : a.tmps.getD d undef = .bool b) (f : FuncId) (args : Array Value) (hr : (execOp a.eval o).run P w = .ok (.enter f args) w) (hn : o.dst ≠ none) (R : Ending → World → Prop) (hc : Calls P f args w R) (h : ∀ e w', R e w' → ∃ v, e = .returned v ∧ S w' ∧ T w w' ∧ V v w') : Step P ops Q S T V o a w := by
  unfold Step
  rw [if_pos (by simp [Region.wanted, hg, yielded_of hd hv])]
  unfold Oper.wp
  rw [hr]
  refine hc.mono (fun e w' hR => ?_)
  obtain ⟨v, rfl, h1, h2, h3⟩ := h e w' hR
  exact ⟨v, rfl, fun h => absurd h hn, h1, h2, h3⟩
/-- The last operation, a store: the walk goes on behind it. -/
theorem wpo_skip {o : Oper} {a : Act} {w : World} {K : Act → World → Prop} (w' : World) (hr : (execOp a.eval o).run P w = .ok .skip w') (hn : o.dst = none) (h : K a w') : o.wp P a w K Q := by
  unfold Oper.wp
  rw [hr]
  show K (a.put o.dst undef) w'
  rw [hn]
  exact h
theorem step_append {α : Type} {enc : α → Value} {S : World → Prop} {T : World → World → Prop} {V : Value → World → Prop} {o : Oper} {a : Act} {W : World} (hgd : o.guard = none) (so xo : Operand) (t e : TypeId) (ho : o.op = .call { callee := .builtin .append, args := #[so, xo], argTypes := #[t, t] })
    (z : Value) (bytes : Nat) (ht : P.underlying t = some (.slice e)) (hinfo : (P.info? e).map (fun i => (i.zero, i.size, i.bytes)) = some (some z, 1, bytes)) (hz : z.cells.size = 1) (hb0 : 0 < bytes) (h1 : ∀ x : α, (enc x).oneCell' = true)
    (v x : Value) (xs ys : List α) (hs : a.eval so = v) (hx : a.eval xo = x) (HO : Ow enc e W v xs) (HR : Rd enc W x ys) (hl : (xs.length + ys.length) * bytes ≤ 140737488355328) (hn : o.dst ≠ none)
    (h : ∀ A c w1, Ow enc e w1 (.slice A (xs ++ ys).length c) (xs ++ ys) → Fr (fun k => obk v = some k) W w1 → (obk (.slice A (xs ++ ys).length c) = obk v ∨ obk (.slice A (xs ++ ys).length c) = some W.heap.size) → S w1 ∧ T W w1 ∧ V (.slice A (xs ++ ys).length c) w1) :
    Step P ops Q S T V o a W := by
  obtain ⟨A, c, w1, hr, ho1, hg, hat, hold⟩ := ap_run W t o.type e z bytes ht hinfo hz hb0 h1 v x xs ys HO HR hl
  obtain ⟨h2, h3, h4⟩ := h A c w1 ho1 hg hat
  refine step_val hgd _ w1 ?_ (fun h => absurd h hn) h2 h3 h4
  unfold execOp
  simp only [ho, resolve, invoke, builtin, Sem.run_bind, Sem.run_pure, Result.andThen_ok, List.map_toArray, List.map_cons, List.map_nil, hs, hx, hr]
/-- The same, and what was owned ahead of it is so still. -/
theorem step_append2 {α : Type} {enc : α → Value} {S : World → Prop} {T : World → World → Prop} {V : Value → World → Prop} {o : Oper} {a : Act} {W : World} (hgd : o.guard = none) (so xo : Operand) (t e : TypeId) (ho : o.op = .call { callee := .builtin .append, args := #[so, xo], argTypes := #[t, t] })
    (z : Value) (bytes : Nat) (ht : P.underlying t = some (.slice e)) (hinfo : (P.info? e).map (fun i => (i.zero, i.size, i.bytes)) = some (some z, 1, bytes)) (hz : z.cells.size = 1) (hb0 : 0 < bytes) (h1 : ∀ x : α, (enc x).oneCell' = true)
    (v x : Value) (xs ys : List α) (hs : a.eval so = v) (hx : a.eval xo = x) (HO : Ow enc e W v xs) (HR : Rd enc W x ys) (hl : (xs.length + ys.length) * bytes ≤ 140737488355328) (hn : o.dst ≠ none)
    (h : ∀ A c w1, Ow enc e w1 (.slice A (xs ++ ys).length c) (xs ++ ys) → Fr (fun k => obk v = some k) W w1 → (obk (.slice A (xs ++ ys).length c) = obk v ∨ obk (.slice A (xs ++ ys).length c) = some W.heap.size) → Ow enc e w1 v xs → S w1 ∧ T W w1 ∧ V (.slice A (xs ++ ys).length c) w1) :
    Step P ops Q S T V o a W := by
  obtain ⟨A, c, w1, hr, ho1, hg, hat, hold⟩ := ap_run W t o.type e z bytes ht hinfo hz hb0 h1 v x xs ys HO HR hl
  obtain ⟨h2, h3, h4⟩ := h A c w1 ho1 hg hat hold
  refine step_val hgd _ w1 ?_ (fun h => absurd h hn) h2 h3 h4
  unfold execOp
  simp only [ho, resolve, invoke, builtin, Sem.run_bind, Sem.run_pure, Result.andThen_ok, List.map_toArray, List.map_cons, List.map_nil, hs, hx, hr]
/-- An array of 20 values, written out. -/
theorem lit20 (t : Array Value) (h : t.size = 20) : ∃ x0 x1 x2 x3 x4 x5 x6 x7 x8 x9 x10 x11 x12 x13 x14 x15 x16 x17 x18 x19, t = List.toArray (x0 :: x1 :: x2 :: x3 :: x4 :: x5 :: x6 :: x7 :: x8 :: x9 :: x10 :: x11 :: x12 :: x13 :: x14 :: x15 :: x16 :: x17 :: x18 :: x19 :: []) := by
  rcases t with ⟨l⟩
  simp only [List.size_toArray] at h
  match l, h with
  | x0 :: x1 :: x2 :: x3 :: x4 :: x5 :: x6 :: x7 :: x8 :: x9 :: x10 :: x11 :: x12 :: x13 :: x14 :: x15 :: x16 :: x17 :: x18 :: x19 :: [], _ => exact ⟨x0, x1, x2, x3, x4, x5, x6, x7, x8, x9, x10, x11, x12, x13, x14, x15, x16, x17, x18, x19, rfl⟩
/-- An array of 23 values, written out. -/
theorem lit23 (t : Array Value) (h : t.size = 23) : ∃ x0 x1 x2 x3 x4 x5 x6 x7 x8 x9 x10 x11 x12 x13 x14 x15 x16 x17 x18 x19 x20 x21 x22, t = List.toArray (x0 :: x1 :: x2 :: x3 :: x4 :: x5 :: x6 :: x7 :: x8 :: x9 :: x10 :: x11 :: x12 :: x13 :: x14 :: x15 :: x16 :: x17 :: x18 :: x19 :: x20 :: x21 :: x22 :: []) := by
  rcases t with ⟨l⟩
  simp only [List.size_toArray] at h
  match l, h with
  | x0 :: x1 :: x2 :: x3 :: x4 :: x5 :: x6 :: x7 :: x8 :: x9 :: x10 :: x11 :: x12 :: x13 :: x14 :: x15 :: x16 :: x17 :: x18 :: x19 :: x20 :: x21 :: x22 :: [], _ => exact ⟨x0, x1, x2, x3, x4, x5, x6, x7, x8, x9, x10, x11, x12, x13, x14, x15, x16, x17, x18, x19, x20, x21, x22, rfl⟩
/-- An array of 27 values, written out. -/
theorem lit27 (t : Array Value) (h : t.size = 27) : ∃ x0 x1 x2 x3 x4 x5 x6 x7 x8 x9 x10 x11 x12 x13 x14 x15 x16 x17 x18 x19 x20 x21 x22 x23 x24 x25 x26, t = List.toArray (x0 :: x1 :: x2 :: x3 :: x4 :: x5 :: x6 :: x7 :: x8 :: x9 :: x10 :: x11 :: x12 :: x13 :: x14 :: x15 :: x16 :: x17 :: x18 :: x19 :: x20 :: x21 :: x22 :: x23 :: x24 :: x25 :: x26 :: []) := by
  rcases t with ⟨l⟩
  simp only [List.size_toArray] at h
  match l, h with
  | x0 :: x1 :: x2 :: x3 :: x4 :: x5 :: x6 :: x7 :: x8 :: x9 :: x10 :: x11 :: x12 :: x13 :: x14 :: x15 :: x16 :: x17 :: x18 :: x19 :: x20 :: x21 :: x22 :: x23 :: x24 :: x25 :: x26 :: [], _ => exact ⟨x0, x1, x2, x3, x4, x5, x6, x7, x8, x9, x10, x11, x12, x13, x14, x15, x16, x17, x18, x19, x20, x21, x22, x23, x24, x25, x26, rfl⟩
/-- An array of 34 values, written out. -/
theorem lit34 (t : Array Value) (h : t.size = 34) : ∃ x0 x1 x2 x3 x4 x5 x6 x7 x8 x9 x10 x11 x12 x13 x14 x15 x16 x17 x18 x19 x20 x21 x22 x23 x24 x25 x26 x27 x28 x29 x30 x31 x32 x33, t = List.toArray (x0 :: x1 :: x2 :: x3 :: x4 :: x5 :: x6 :: x7 :: x8 :: x9 :: x10 :: x11 :: x12 :: x13 :: x14 :: x15 :: x16 :: x17 :: x18 :: x19 :: x20 :: x21 :: x22 :: x23 :: x24 :: x25 :: x26 :: x27 :: x28 :: x29 :: x30 :: x31 :: x32 :: x33 :: []) := by
  rcases t with ⟨l⟩
  simp only [List.size_toArray] at h
  match l, h with
  | x0 :: x1 :: x2 :: x3 :: x4 :: x5 :: x6 :: x7 :: x8 :: x9 :: x10 :: x11 :: x12 :: x13 :: x14 :: x15 :: x16 :: x17 :: x18 :: x19 :: x20 :: x21 :: x22 :: x23 :: x24 :: x25 :: x26 :: x27 :: x28 :: x29 :: x30 :: x31 :: x32 :: x33 :: [], _ => exact ⟨x0, x1, x2, x3, x4, x5, x6, x7, x8, x9, x10, x11, x12, x13, x14, x15, x16, x17, x18, x19, x20, x21, x22, x23, x24, x25, x26, x27, x28, x29, x30, x31, x32, x33, rfl⟩
/-- An array of 35 values, written out. -/
theorem lit35 (t : Array Value) (h : t.size = 35) : ∃ x0 x1 x2 x3 x4 x5 x6 x7 x8 x9 x10 x11 x12 x13 x14 x15 x16 x17 x18 x19 x20 x21 x22 x23 x24 x25 x26 x27 x28 x29 x30 x31 x32 x33 x34, t = List.toArray (x0 :: x1 :: x2 :: x3 :: x4 :: x5 :: x6 :: x7 :: x8 :: x9 :: x10 :: x11 :: x12 :: x13 :: x14 :: x15 :: x16 :: x17 :: x18 :: x19 :: x20 :: x21 :: x22 :: x23 :: x24 :: x25 :: x26 :: x27 :: x28 :: x29 :: x30 :: x31 :: x32 :: x33 :: x34 :: []) := by
  rcases t with ⟨l⟩
  simp only [List.size_toArray] at h
  match l, h with
  | x0 :: x1 :: x2 :: x3 :: x4 :: x5 :: x6 :: x7 :: x8 :: x9 :: x10 :: x11 :: x12 :: x13 :: x14 :: x15 :: x16 :: x17 :: x18 :: x19 :: x20 :: x21 :: x22 :: x23 :: x24 :: x25 :: x26 :: x27 :: x28 :: x29 :: x30 :: x31 :: x32 :: x33 :: x34 :: [], _ => exact ⟨x0, x1, x2, x3, x4, x5, x6, x7, x8, x9, x10, x11, x12, x13, x14, x15, x16, x17, x18, x19, x20, x21, x22, x23, x24, x25, x26, x27, x28, x29, x30, x31, x32, x33, x34, rfl⟩
/-- An array of 44 values, written out. -/
theorem lit44 (t : Array Value) (h : t.size = 44) : ∃ x0 x1 x2 x3 x4 x5 x6 x7 x8 x9 x10 x11 x12 x13 x14 x15 x16 x17 x18 x19 x20 x21 x22 x23 x24 x25 x26 x27 x28 x29 x30 x31 x32 x33 x34 x35 x36 x37 x38 x39 x40 x41 x42 x43, t = List.toArray (x0 :: x1 :: x2 :: x3 :: x4 :: x5 :: x6 :: x7 :: x8 :: x9 :: x10 :: x11 :: x12 :: x13 :: x14 :: x15 :: x16 :: x17 :: x18 :: x19 :: x20 :: x21 :: x22 :: x23 :: x24 :: x25 :: x26 :: x27 :: x28 :: x29 :: x30 :: x31 :: x32 :: x33 :: x34 :: x35 :: x36 :: x37 :: x38 :: x39 :: x40 :: x41 :: x42 :: x43 :: []) := by
  rcases t with ⟨l⟩
  simp only [List.size_toArray] at h
  match l, h with
  | x0 :: x1 :: x2 :: x3 :: x4 :: x5 :: x6 :: x7 :: x8 :: x9 :: x10 :: x11 :: x12 :: x13 :: x14 :: x15 :: x16 :: x17 :: x18 :: x19 :: x20 :: x21 :: x22 :: x23 :: x24 :: x25 :: x26 :: x27 :: x28 :: x29 :: x30 :: x31 :: x32 :: x33 :: x34 :: x35 :: x36 :: x37 :: x38 :: x39 :: x40 :: x41 :: x42 :: x43 :: [], _ => exact ⟨x0, x1, x2, x3, x4, x5, x6, x7, x8, x9, x10, x11, x12, x13, x14, x15, x16, x17, x18, x19, x20, x21, x22, x23, x24, x25, x26, x27, x28, x29, x30, x31, x32, x33, x34, x35, x36, x37, x38, x39, x40, x41, x42, x43, rfl⟩
/-- An array of 47 values, written out. -/
theorem lit47 (t : Array Value) (h : t.size = 47) : ∃ x0 x1 x2 x3 x4 x5 x6 x7 x8 x9 x10 x11 x12 x13 x14 x15 x16 x17 x18 x19 x20 x21 x22 x23 x24 x25 x26 x27 x28 x29 x30 x31 x32 x33 x34 x35 x36 x37 x38 x39 x40 x41 x42 x43 x44 x45 x46, t = List.toArray (x0 :: x1 :: x2 :: x3 :: x4 :: x5 :: x6 :: x7 :: x8 :: x9 :: x10 :: x11 :: x12 :: x13 :: x14 :: x15 :: x16 :: x17 :: x18 :: x19 :: x20 :: x21 :: x22 :: x23 :: x24 :: x25 :: x26 :: x27 :: x28 :: x29 :: x30 :: x31 :: x32 :: x33 :: x34 :: x35 :: x36 :: x37 :: x38 :: x39 :: x40 :: x41 :: x42 :: x43 :: x44 :: x45 :: x46 :: []) := by
  rcases t with ⟨l⟩
  simp only [List.size_toArray] at h
  match l, h with
  | x0 :: x1 :: x2 :: x3 :: x4 :: x5 :: x6 :: x7 :: x8 :: x9 :: x10 :: x11 :: x12 :: x13 :: x14 :: x15 :: x16 :: x17 :: x18 :: x19 :: x20 :: x21 :: x22 :: x23 :: x24 :: x25 :: x26 :: x27 :: x28 :: x29 :: x30 :: x31 :: x32 :: x33 :: x34 :: x35 :: x36 :: x37 :: x38 :: x39 :: x40 :: x41 :: x42 :: x43 :: x44 :: x45 :: x46 :: [], _ => exact ⟨x0, x1, x2, x3, x4, x5, x6, x7, x8, x9, x10, x11, x12, x13, x14, x15, x16, x17, x18, x19, x20, x21, x22, x23, x24, x25, x26, x27, x28, x29, x30, x31, x32, x33, x34, x35, x36, x37, x38, x39, x40, x41, x42, x43, x44, x45, x46, rfl⟩
end
end Go.Proofs.Ytiemacjmipiakaa.Hw
