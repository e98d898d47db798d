/- Plain facts about whole numbers as Go reckons them (wraps, bits, shifts), with no program in sight. They hold with no condition beyond what each states. -/
import Derived.Test.YtmapppjgmlcbaaaWWords
import Derived.Test.YtmapppjgmlcbaaaWMore
import Derived.Test.YtmapppjgmlcbaaaWSized
set_option linter.unusedVariables false
set_option linter.unusedSimpArgs false
namespace Go.Proofs.Ytmapppjgmlcbaaa.Plain
open Go.RowKit Go.Proofs.YtmapppjgmlcbaaaW.PrintWords

theorem w64 {n : Int} (h0 : -9223372036854775808 ≤ n) (h1 : n ≤ 9223372036854775807) : wrap64 n = n := by
  unfold wrap64; omega
theorem w64_lo (n : Int) : -9223372036854775808 ≤ wrap64 n := by unfold wrap64; omega
theorem w64_hi (n : Int) : wrap64 n ≤ 9223372036854775807 := by unfold wrap64; omega
theorem u16w (n : Int) : IntKind.u16.wrap n = n % 65536 := by simp [IntKind.wrap, IntKind.bits, IntKind.signed]
theorem u16w_id {n : Int} (h0 : 0 ≤ n) (h1 : n < 65536) : IntKind.u16.wrap n = n := by rw [u16w]; omega
theorem i16w (n : Int) : IntKind.i16.wrap n = (n + 32768) % 65536 - 32768 := by
  simp [IntKind.wrap, IntKind.bits, IntKind.signed]
  split <;> omega
theorem u64w (n : Int) : IntKind.u64.wrap n = n % 18446744073709551616 := by simp [IntKind.wrap, IntKind.bits, IntKind.signed]
theorem u64w_id {n : Int} (h0 : 0 ≤ n) (h1 : n ≤ 9223372036854775807) : IntKind.u64.wrap n = n := by rw [u64w]; omega
theorem wf_i64 {n : Int} (h : (Lit.int .i64 n).wf = true) : -9223372036854775808 ≤ n ∧ n ≤ 9223372036854775807 := by
  simp only [Lit.wf, IntKind.min, IntKind.max, IntKind.signed, IntKind.bits, Bool.and_eq_true, decide_eq_true_eq, if_true] at h
  omega
theorem wf_u8 {n : Int} (h : (Lit.int .u8 n).wf = true) : 0 ≤ n ∧ n ≤ 255 := by
  simp [Lit.wf, IntKind.min, IntKind.max, IntKind.signed, IntKind.bits] at h
  omega
theorem tmod_pos {a b : Int} (h : 0 ≤ a) : Int.tmod a b = a % b := Int.tmod_eq_emod_of_nonneg h
theorem tdiv_pos {a b : Int} (h : 0 ≤ a) : Int.tdiv a b = a / b := Int.tdiv_eq_ediv_of_nonneg h
/-- 'what Go's remainder gives twice over: a word. -/
theorem tmod_word (n : Int) : 0 ≤ Int.tmod (wrap64 (Int.tmod n 65536 + 65536)) 65536 ∧ Int.tmod (wrap64 (Int.tmod n 65536 + 65536)) 65536 = n % 65536 := by
  have h1 : -65536 < Int.tmod n 65536 := by
    by_cases h : 0 ≤ n
    · rw [tmod_pos h]; omega
    · have : n = -(-n) := by omega
      rw [this, Int.neg_tmod, tmod_pos (by omega)]; omega
  have h2 : Int.tmod n 65536 < 65536 := by
    by_cases h : 0 ≤ n
    · rw [tmod_pos h]; omega
    · have : n = -(-n) := by omega
      rw [this, Int.neg_tmod, tmod_pos (by omega)]; omega
  have h3 : Int.tmod n 65536 % 65536 = n % 65536 := by
    by_cases h : 0 ≤ n
    · rw [tmod_pos h]; omega
    · have : n = -(-n) := by omega
      rw [this, Int.neg_tmod, tmod_pos (by omega)]; omega
  rw [w64 (by omega) (by omega), tmod_pos (by omega)]
  omega

theorem rd_all {P : Int → Prop} {l : List Int} (h : ∀ x ∈ l, P x) (h0 : P 0) (i : Int) : P (rd l i) := by
  unfold rd
  rw [List.getD_eq_getElem?_getD]
  cases hx : l[i.toNat]? with
  | none => simpa using h0
  | some v => simpa using h v (List.mem_of_getElem? hx)

/-! bits -/
def nand (a b : Int) : Int := ((a.toNat &&& b.toNat : Nat) : Int)
def nor (a b : Int) : Int := ((a.toNat ||| b.toNat : Nat) : Int)
def nxor (a b : Int) : Int := ((a.toNat ^^^ b.toNat : Nat) : Int)
theorem bits_nat_xor (k : IntKind) (j : Nat) (hj : j ≤ k.bits) (hk : ∀ n : Int, 0 ≤ n → n < 2 ^ j → k.wrap n = n) (a b : Nat) (ha : a < 2 ^ j) (hb : b < 2 ^ j) :
    bits .xor k a b = ((a ^^^ b : Nat) : Int) := by
  have hp : 2 ^ j ≤ 2 ^ k.bits := Nat.pow_le_pow_right (by decide) hj
  have ha' : a % 2 ^ k.bits = a := Nat.mod_eq_of_lt (Nat.lt_of_lt_of_le ha hp)
  have hb' : b % 2 ^ k.bits = b := Nat.mod_eq_of_lt (Nat.lt_of_lt_of_le hb hp)
  have cast : ∀ n : Nat, n < 2 ^ j → ((n : Nat) : Int) < 2 ^ j := fun n h => by exact_mod_cast h
  simp only [bits, BitVec.ofInt_natCast, BitVec.toNat_xor, BitVec.toNat_ofNat, ha', hb']
  exact hk _ (Int.natCast_nonneg _) (cast _ (Nat.xor_lt_two_pow ha hb))
theorem wraps_u16 (n : Int) (h0 : 0 ≤ n) (h1 : n < 2 ^ 16) : IntKind.u16.wrap n = n := by rw [u16w]; omega
theorem wraps_i64 (n : Int) (h0 : 0 ≤ n) (h1 : n < 2 ^ 63) : IntKind.i64.wrap n = n := by rw [IntKind.wrap_i64]; omega
theorem and_u16 {a b : Int} (h0 : 0 ≤ a) (h1 : a < 65536) (h2 : 0 ≤ b) (h3 : b < 65536) : bits .and .u16 a b = nand a b := by
  have := (bits_nat .u16 16 (by decide) wraps_u16 a.toNat b.toNat (by omega) (by omega)).1
  rwa [Int.toNat_of_nonneg h0, Int.toNat_of_nonneg h2] at this
theorem or_u16 {a b : Int} (h0 : 0 ≤ a) (h1 : a < 65536) (h2 : 0 ≤ b) (h3 : b < 65536) : bits .or .u16 a b = nor a b := by
  have := (bits_nat .u16 16 (by decide) wraps_u16 a.toNat b.toNat (by omega) (by omega)).2
  rwa [Int.toNat_of_nonneg h0, Int.toNat_of_nonneg h2] at this
theorem xor_u16 {a b : Int} (h0 : 0 ≤ a) (h1 : a < 65536) (h2 : 0 ≤ b) (h3 : b < 65536) : bits .xor .u16 a b = nxor a b := by
  have := bits_nat_xor .u16 16 (by decide) wraps_u16 a.toNat b.toNat (by omega) (by omega)
  rwa [Int.toNat_of_nonneg h0, Int.toNat_of_nonneg h2] at this
theorem and_i64 {a b : Int} (h0 : 0 ≤ a) (h1 : a ≤ 9223372036854775807) (h2 : 0 ≤ b) (h3 : b ≤ 9223372036854775807) : bits .and .i64 a b = nand a b := by
  have := (bits_nat .i64 63 (by decide) wraps_i64 a.toNat b.toNat (by omega) (by omega)).1
  rwa [Int.toNat_of_nonneg h0, Int.toNat_of_nonneg h2] at this
theorem or_i64 {a b : Int} (h0 : 0 ≤ a) (h1 : a ≤ 9223372036854775807) (h2 : 0 ≤ b) (h3 : b ≤ 9223372036854775807) : bits .or .i64 a b = nor a b := by
  have := (bits_nat .i64 63 (by decide) wraps_i64 a.toNat b.toNat (by omega) (by omega)).2
  rwa [Int.toNat_of_nonneg h0, Int.toNat_of_nonneg h2] at this
theorem xor_i64 {a b : Int} (h0 : 0 ≤ a) (h1 : a ≤ 9223372036854775807) (h2 : 0 ≤ b) (h3 : b ≤ 9223372036854775807) : bits .xor .i64 a b = nxor a b := by
  have := bits_nat_xor .i64 63 (by decide) wraps_i64 a.toNat b.toNat (by omega) (by omega)
  rwa [Int.toNat_of_nonneg h0, Int.toNat_of_nonneg h2] at this
theorem nand_lt {a b : Int} (h0 : 0 ≤ a) (h1 : a < 65536) (h2 : 0 ≤ b) (h3 : b < 65536) : 0 ≤ nand a b ∧ nand a b < 65536 := by
  unfold nand
  have : a.toNat &&& b.toNat < 2 ^ 16 := Nat.and_lt_two_pow _ (by omega)
  omega
theorem nor_lt {a b : Int} (h0 : 0 ≤ a) (h1 : a < 65536) (h2 : 0 ≤ b) (h3 : b < 65536) : 0 ≤ nor a b ∧ nor a b < 65536 := by
  unfold nor
  have : a.toNat ||| b.toNat < 2 ^ 16 := Nat.or_lt_two_pow (by omega) (by omega)
  omega
theorem nxor_lt {a b : Int} (h0 : 0 ≤ a) (h1 : a < 65536) (h2 : 0 ≤ b) (h3 : b < 65536) : 0 ≤ nxor a b ∧ nxor a b < 65536 := by
  unfold nxor
  have : a.toNat ^^^ b.toNat < 2 ^ 16 := Nat.xor_lt_two_pow (by omega) (by omega)
  omega
theorem nxor_lt63 {a b : Int} (h0 : 0 ≤ a) (h1 : a ≤ 9223372036854775807) (h2 : 0 ≤ b) (h3 : b ≤ 9223372036854775807) : 0 ≤ nxor a b ∧ nxor a b ≤ 9223372036854775807 := by
  unfold nxor
  have : a.toNat ^^^ b.toNat < 2 ^ 63 := Nat.xor_lt_two_pow (by omega) (by omega)
  omega
theorem nand_comm (a b : Int) : nand a b = nand b a := by unfold nand; rw [Nat.and_comm]
theorem nor_comm (a b : Int) : nor a b = nor b a := by unfold nor; rw [Nat.or_comm]
theorem nxor_comm (a b : Int) : nxor a b = nxor b a := by unfold nxor; rw [Nat.xor_comm]
theorem nand_assoc (a b c : Int) : nand (nand a b) c = nand a (nand b c) := by simp only [nand, Int.toNat_natCast, Nat.and_assoc]
theorem nor_assoc (a b c : Int) : nor (nor a b) c = nor a (nor b c) := by simp only [nor, Int.toNat_natCast, Nat.or_assoc]
theorem nxor_assoc (a b c : Int) : nxor (nxor a b) c = nxor a (nxor b c) := by simp only [nxor, Int.toNat_natCast, Nat.xor_assoc]
theorem nand_self {a : Int} (h : 0 ≤ a) : nand a a = a := by simp only [nand, Nat.and_self]; omega
theorem nor_self {a : Int} (h : 0 ≤ a) : nor a a = a := by simp only [nor, Nat.or_self]; omega
theorem nxor_self (a : Int) : nxor a a = 0 := by simp [nxor, Nat.xor_self]
theorem nxor_back {a : Int} (b : Int) (h : 0 ≤ a) : nxor (nxor a b) b = a := by
  simp only [nxor, Int.toNat_natCast, Nat.xor_assoc, Nat.xor_self, Nat.xor_zero]; omega
theorem nat_and_add_or (n : Nat) : ∀ a b : Nat, a < n → (a &&& b) + (a ||| b) = a + b := by
  induction n with
  | zero => intro a b h; omega
  | succ n ih =>
    intro a b h
    by_cases h0 : a = 0
    · subst h0; simp
    · have hd := ih (a / 2) (b / 2) (by omega)
      have e1 : (a &&& b) / 2 = a / 2 &&& b / 2 := Nat.and_div_two
      have e2 : (a ||| b) / 2 = a / 2 ||| b / 2 := Nat.or_div_two
      have e3 : (a &&& b) % 2 = (a % 2) * (b % 2) := by
        rw [show (a &&& b) % 2 = (a % 2) &&& (b % 2) from Nat.and_mod_two_pow (n := 1)]; rcases Nat.mod_two_eq_zero_or_one a with h1 | h1 <;> rcases Nat.mod_two_eq_zero_or_one b with h2 | h2 <;> simp [h1, h2]
      have e4 : (a ||| b) % 2 = (a % 2) + (b % 2) - (a % 2) * (b % 2) := by
        rw [show (a ||| b) % 2 = (a % 2) ||| (b % 2) from Nat.or_mod_two_pow (n := 1)]; rcases Nat.mod_two_eq_zero_or_one a with h1 | h1 <;> rcases Nat.mod_two_eq_zero_or_one b with h2 | h2 <;> simp [h1, h2]
      rcases Nat.mod_two_eq_zero_or_one a with h1 | h1 <;> rcases Nat.mod_two_eq_zero_or_one b with h2 | h2 <;> simp only [h1, h2] at e3 e4 <;> omega
theorem nand_add_nor {a b : Int} (h0 : 0 ≤ a) (h2 : 0 ≤ b) : nand a b + nor a b = a + b := by
  have := nat_and_add_or (a.toNat + 1) a.toNat b.toNat (by omega)
  unfold nand nor; omega
theorem nat_and_add_xor (n : Nat) : ∀ a b : Nat, a < n → (a &&& b) + (a ^^^ b) = a ||| b := by
  induction n with
  | zero => intro a b h; omega
  | succ n ih =>
    intro a b h
    by_cases h0 : a = 0
    · subst h0; simp
    · have hd := ih (a / 2) (b / 2) (by omega)
      have e1 : (a &&& b) / 2 = a / 2 &&& b / 2 := Nat.and_div_two
      have e2 : (a ||| b) / 2 = a / 2 ||| b / 2 := Nat.or_div_two
      have e5 : (a ^^^ b) / 2 = a / 2 ^^^ b / 2 := Nat.xor_div_two
      have e3 : (a &&& b) % 2 = (a % 2) * (b % 2) := by
        rw [show (a &&& b) % 2 = (a % 2) &&& (b % 2) from Nat.and_mod_two_pow (n := 1)]; rcases Nat.mod_two_eq_zero_or_one a with h1 | h1 <;> rcases Nat.mod_two_eq_zero_or_one b with h2 | h2 <;> simp [h1, h2]
      have e4 : (a ||| b) % 2 = (a % 2) + (b % 2) - (a % 2) * (b % 2) := by
        rw [show (a ||| b) % 2 = (a % 2) ||| (b % 2) from Nat.or_mod_two_pow (n := 1)]; rcases Nat.mod_two_eq_zero_or_one a with h1 | h1 <;> rcases Nat.mod_two_eq_zero_or_one b with h2 | h2 <;> simp [h1, h2]
      have e6 : (a ^^^ b) % 2 = (a % 2 + b % 2) % 2 := by
        rw [show (a ^^^ b) % 2 = (a % 2) ^^^ (b % 2) from Nat.xor_mod_two_pow (n := 1)]; rcases Nat.mod_two_eq_zero_or_one a with h1 | h1 <;> rcases Nat.mod_two_eq_zero_or_one b with h2 | h2 <;> simp [h1, h2]
      rcases Nat.mod_two_eq_zero_or_one a with h1 | h1 <;> rcases Nat.mod_two_eq_zero_or_one b with h2 | h2 <;> simp only [h1, h2] at e3 e4 e6 <;> omega
theorem nand_add_nxor {a b : Int} : nand a b + nxor a b = nor a b := by
  have := nat_and_add_xor (a.toNat + 1) a.toNat b.toNat (by omega)
  unfold nand nor nxor; omega

/-! shifts -/
theorem two_pow_le (y : Nat) (h : y ≤ 16) : 1 ≤ (2 : Int) ^ y ∧ (2 : Int) ^ y ≤ 65536 := by
  have h1 : 2 ^ y ≤ 2 ^ 16 := Nat.pow_le_pow_right (by decide) h
  have h2 : 0 < 2 ^ y := Nat.two_pow_pos y
  have e : ((2 ^ y : Nat) : Int) = (2 : Int) ^ y := by simp
  rw [← e]; omega
theorem mul_pow_le {x : Int} (y : Nat) (h : y ≤ 16) (h0 : 0 ≤ x) (h1 : x < 65536) : 0 ≤ x * 2 ^ y ∧ x * 2 ^ y ≤ 4294901760 := by
  obtain ⟨p0, p1⟩ := two_pow_le y h
  constructor
  · exact Int.mul_nonneg h0 (by omega)
  · have := Int.mul_le_mul (show x ≤ 65535 by omega) p1 (by omega) (show (0 : Int) ≤ 65535 by omega)
    omega
theorem shl_i64 {x y : Int} (h0 : 0 ≤ x) (h1 : x < 65536) (h2 : 0 ≤ y) (h3 : y ≤ 16) : shl .i64 x y = x * 2 ^ y.toNat := by
  have hb := mul_pow_le y.toNat (by omega) h0 h1
  unfold shl
  rw [show min y.toNat IntKind.i64.bits = y.toNat from by simp only [IntKind.bits]; omega, wraps_i64 _ hb.1 (by omega)]
theorem shl_u16 {x y : Int} (h2 : 0 ≤ y) (h3 : y ≤ 16) : shl .u16 x y = x * 2 ^ y.toNat % 65536 := by
  unfold shl
  rw [show min y.toNat IntKind.u16.bits = y.toNat from by simp only [IntKind.bits]; omega, u16w]
theorem shr_i64 {x y : Int} (h2 : 0 ≤ y) (h3 : y ≤ 16) : shr .i64 x y = x / 2 ^ y.toNat := by
  unfold shr
  rw [show min y.toNat IntKind.i64.bits = y.toNat from by simp only [IntKind.bits]; omega]
theorem shr_u16 {x y : Int} (h2 : 0 ≤ y) (h3 : y ≤ 16) : shr .u16 x y = x / 2 ^ y.toNat := by
  unfold shr
  rw [show min y.toNat IntKind.u16.bits = y.toNat from by simp only [IntKind.bits]; omega]
theorem div_pow_le {x : Int} (y : Nat) (h0 : 0 ≤ x) : 0 ≤ x / 2 ^ y ∧ x / 2 ^ y ≤ x := by
  have : (0 : Int) < 2 ^ y := by
    have e : ((2 ^ y : Nat) : Int) = (2 : Int) ^ y := by simp
    have h2 : 0 < 2 ^ y := Nat.two_pow_pos y
    rw [← e]; omega
  constructor
  · exact Int.ediv_nonneg h0 (by omega)
  · exact Int.ediv_le_self _ h0

/-! words -/
/-- what AluDo does with two words -/
def alu (f a b : Int) : Int :=
  if f = 0 then (a + b) % 65536 else if f = 1 then (a - b) % 65536 else if f = 2 then nand a b else if f = 3 then nor a b else if f = 4 then nxor a b
  else if f = 5 then (if (a + 32768) % 65536 < (b + 32768) % 65536 then 1 else 0) else if f = 6 then a * 2 ^ (b % 16).toNat % 65536 else if f = 7 then a / 2 ^ (b % 16).toNat else -1
theorem alu_lt {f a b : Int} (hf : 0 ≤ f ∧ f ≤ 7) (h0 : 0 ≤ a) (h1 : a < 65536) (h2 : 0 ≤ b) (h3 : b < 65536) : 0 ≤ alu f a b ∧ alu f a b < 65536 := by
  have h4 := nand_lt h0 h1 h2 h3
  have h5 := nor_lt h0 h1 h2 h3
  have h6 := nxor_lt h0 h1 h2 h3
  have h7 := div_pow_le (b % 16).toNat h0
  unfold alu
  repeat' split
  all_goals omega
theorem alu_0 (a b : Int) : alu 0 a b = (a + b) % 65536 := by simp [alu]
theorem alu_1 (a b : Int) : alu 1 a b = (a - b) % 65536 := by simp [alu]
theorem alu_2 (a b : Int) : alu 2 a b = nand a b := by simp [alu]
theorem alu_3 (a b : Int) : alu 3 a b = nor a b := by simp [alu]
theorem alu_4 (a b : Int) : alu 4 a b = nxor a b := by simp [alu]
theorem alu_5 (a b : Int) : alu 5 a b = if (a + 32768) % 65536 < (b + 32768) % 65536 then 1 else 0 := by simp [alu]
theorem alu_6 (a b : Int) : alu 6 a b = a * 2 ^ (b % 16).toNat % 65536 := by simp [alu]
theorem alu_7 (a b : Int) : alu 7 a b = a / 2 ^ (b % 16).toNat := by simp [alu]
theorem alu_comm {f : Int} (hf : f = 0 ∨ f = 2 ∨ f = 3 ∨ f = 4) (a b : Int) : alu f a b = alu f b a := by
  rcases hf with rfl | rfl | rfl | rfl
  · rw [alu_0, alu_0, Int.add_comm]
  · rw [alu_2, alu_2, nand_comm]
  · rw [alu_3, alu_3, nor_comm]
  · rw [alu_4, alu_4, nxor_comm]
theorem alu_assoc {f : Int} (hf : f = 0 ∨ f = 2 ∨ f = 3 ∨ f = 4) (a b c : Int) : alu f (alu f a b) c = alu f a (alu f b c) := by
  rcases hf with rfl | rfl | rfl | rfl
  · simp only [alu_0]; omega
  · simp only [alu_2, nand_assoc]
  · simp only [alu_3, nor_assoc]
  · simp only [alu_4, nxor_assoc]
/-- WrdSign, in closed form -/
def sgn (n bits : Int) : Int := if 1 ≤ bits ∧ bits ≤ 16 then (if 0 ≤ n ∧ n < 2 ^ bits.toNat then (if n < 2 ^ (bits - 1).toNat then n else (n - 2 ^ bits.toNat) % 65536) else -1) else -1
theorem pow_half {bits : Int} (h0 : 1 ≤ bits) (h1 : bits ≤ 16) : (2 : Int) ^ bits.toNat = 2 * 2 ^ (bits - 1).toNat ∧ 1 ≤ (2 : Int) ^ (bits - 1).toNat ∧ (2 : Int) ^ (bits - 1).toNat ≤ 32768 := by
  have e : bits.toNat = (bits - 1).toNat + 1 := by omega
  have hp := two_pow_le bits.toNat (by omega)
  have hq := two_pow_le (bits - 1).toNat (by omega)
  rw [e, Int.pow_succ] at hp ⊢
  omega
theorem shl_one {bits : Int} (h0 : 0 ≤ bits) (h1 : bits ≤ 16) : shl .i64 1 bits = 2 ^ bits.toNat := by
  rw [shl_i64 (by omega) (by omega) h0 h1, Int.one_mul]
/-! lists of whole numbers -/
theorem rd_at {l : List Int} {i : Int} (h0 : 0 ≤ i) (h1 : i < l.length) : rd l i = l[i.toNat]'(by omega) := by
  unfold rd
  rw [List.getD_eq_getElem?_getD, List.getElem?_eq_getElem (show i.toNat < l.length by omega)]; rfl
/-- m, m + 1, .., n of them -/
def marks (m : Int) (n : Nat) : List Int := (List.range n).map fun (j : Nat) => m + (j : Int)
theorem marks_length (m : Int) (n : Nat) : (marks m n).length = n := by simp [marks]
theorem marks_succ (m : Int) (n : Nat) : marks m (n + 1) = marks m n ++ [m + (n : Int)] := by simp [marks, List.range_succ]
theorem rd_marks {m : Int} {n : Nat} {i : Int} (h0 : 0 ≤ i) (h1 : i < n) : rd (marks m n) i = m + i := by
  rw [rd_at h0 (by rw [marks_length]; exact h1)]
  simp [marks]
  omega
/-- all are words -/
def wds (l : List Int) : Bool := l.all fun x => decide (0 ≤ x ∧ x < 65536)
theorem wds_drop {l : List Int} {i : Int} (h0 : 0 ≤ i) (h1 : i < l.length) : wds (l.drop i.toNat) = (decide (0 ≤ rd l i ∧ rd l i < 65536) && wds (l.drop (i + 1).toNat)) := by
  unfold wds
  rw [List.drop_eq_getElem_cons (show i.toNat < l.length by omega), List.all_cons, rd_at h0 h1, show (i + 1).toNat = i.toNat + 1 by omega]
/-- a machine's state is ok -/
def plnOk (pc : Int) (regs ctl mem : List Int) : Bool :=
  decide (0 ≤ pc ∧ pc < 65536) && (decide (regs.length = 8) && (wds regs && (decide (rd regs 0 = 0) && (decide (ctl.length = 5) && (wds ctl && (decide (rd ctl 3 < 4) && (decide (mem.length = 256) && wds mem)))))))
/-- a word laid into a machine's memory -/
def plnLay (pc : Int) (regs ctl mem : List Int) (at_ n : Int) : Int × List Int × List Int × List Int :=
  if plnOk pc regs ctl mem = true then (if 0 ≤ at_ ∧ at_ < 256 then (if 0 ≤ n ∧ n < 65536 then (pc, regs, ctl, mem.set at_.toNat n) else (0, [], [], [])) else (0, [], [], [])) else (0, [], [], [])
theorem plnOk_len {pc : Int} {regs ctl mem : List Int} (h : plnOk pc regs ctl mem = true) : regs.length = 8 ∧ ctl.length = 5 ∧ mem.length = 256 := by
  simp only [plnOk, Bool.and_eq_true, decide_eq_true_eq] at h
  exact ⟨h.2.1, h.2.2.2.2.1, h.2.2.2.2.2.2.2.1⟩
/-! instructions -/
/-- what a kind of instruction has: D, A, B, F, and how many bits its number has -/
def has (kind : Int) : Bool × Bool × Bool × Bool × Int :=
  if kind = 0 then (true, true, true, true, 0) else if kind = 1 ∨ kind = 3 ∨ kind = 8 then (true, true, false, false, 6) else if kind = 2 then (true, false, false, false, 9)
  else if kind = 4 ∨ kind = 5 ∨ kind = 6 then (false, true, true, false, 6) else if kind = 7 then (true, false, false, false, 9) else if kind = 9 ∨ kind = 10 then (true, true, true, false, 0)
  else if kind = 12 then (false, false, false, false, 9) else if kind = 14 then (true, false, false, true, 0) else if kind = 15 then (false, true, false, true, 0) else (false, false, false, false, 0)
theorem has_bits (kind : Int) : (has kind).2.2.2.2 = 0 ∨ (has kind).2.2.2.2 = 6 ∨ (has kind).2.2.2.2 = 9 := by
  unfold has
  repeat' split
  all_goals simp
/-- a number that may stand in so many bits -/
def num (kind n bits : Int) : Bool :=
  if bits = 0 then n == 0 else if kind = 12 ∨ kind = 2 then decide (0 ≤ n ∧ n ≤ 2 ^ bits.toNat - 1) else decide (-(2 ^ (bits - 1).toNat) ≤ n ∧ n ≤ 2 ^ (bits - 1).toNat - 1)
/-- the greatest F of a kind -/
def topF (kind : Int) : Int := if kind = 14 ∨ kind = 15 then 4 else if (has kind).2.2.2.1 = true then 7 else 0
def codOk (kind d a b f n : Int) : Bool :=
  decide (0 ≤ kind ∧ kind ≤ 15) && ((decide (d = 0) || (has kind).1 && decide (0 ≤ d ∧ d ≤ 7)) && ((decide (a = 0) || (has kind).2.1 && decide (0 ≤ a ∧ a ≤ 7)) && ((decide (b = 0) || (has kind).2.2.1 && decide (0 ≤ b ∧ b ≤ 7)) && (decide (0 ≤ f ∧ f ≤ topF kind) && num kind n (has kind).2.2.2.2))))
/-- a run of the pure text is told, with P -/
def Tot {α : Type} (o : Option α) (P : α → Prop) : Prop := ∃ a, o = some a ∧ P a
theorem Tot.some {α : Type} {a : α} {P : α → Prop} (h : P a) : Tot (some a) P := ⟨a, rfl, h⟩
theorem Tot.mono {α : Type} {o : Option α} {P Q : α → Prop} (h : Tot o P) (H : ∀ a, P a → Q a) : Tot o Q := by
  obtain ⟨a, e, p⟩ := h; exact ⟨a, e, H a p⟩
theorem Tot.bind {α β : Type} {o : Option α} {F : α → Option β} {Q : α → Prop} {P : β → Prop} (h : Tot o Q) (H : ∀ a, Q a → Tot (F a) P) : Tot (o.bind F) P := by
  obtain ⟨a, e, q⟩ := h; subst e; exact H a q
theorem Tot.bindSome {α β : Type} {a : α} {F : α → Option β} {P : β → Prop} (H : Tot (F a) P) : Tot ((Option.some a).bind F) P := H
theorem Tot.ifPos {α : Type} {c : Prop} [Decidable c] {a b : Option α} {P : α → Prop} (h : c) (H : Tot a P) : Tot (if c then a else b) P := by rw [if_pos h]; exact H
theorem Tot.ifNeg {α : Type} {c : Prop} [Decidable c] {a b : Option α} {P : α → Prop} (h : ¬ c) (H : Tot b P) : Tot (if c then a else b) P := by rw [if_neg h]; exact H
theorem Tot.ite {α : Type} {c : Prop} [Decidable c] {a b : Option α} {P : α → Prop} (H : c → Tot a P) (G : ¬ c → Tot b P) : Tot (if c then a else b) P := by
  by_cases h : c
  · rw [if_pos h]; exact H h
  · rw [if_neg h]; exact G h

end Go.Proofs.Ytmapppjgmlcbaaa.Plain

namespace Go.Proofs.Ytmapppjgmlcbaaa.PrintWords
/-- The printed rows call this law by this name: a slice of whole numbers is no longer than its weight allows. -/
theorem sized_ints {H : Type} {enc : TypeId × Value → H} {P : Program} {W : World} {base : Nat} {spare : Nat → Bool} {held : Bool} {t e : TypeId} {k : IntKind} {a : Option Addr} {len cap : Nat} {d : DataW H} {ps : List MemPlace} {ts : List TypeId} {ds : List (DataW H)} {j : Nat}
    (hsz : (DataW.weightsEach P ts ds).all (· ≤ reachBytes) = true) (ht : ts[j]? = some t) (hd : ds[j]? = some d) (hu : P.underlying t = some (.slice e)) (he : P.underlying e = some (.int k)) (hc : P.cellsOf e = 1) {B : Nat} (hB : P.bytesOf e = B)
    (h : DataW.Trod enc P W base spare held t (.slice a len cap) d ps) : len * B ≤ 140737488351232 :=
  Go.Proofs.YtmapppjgmlcbaaaW.PrintWords.sized_ints hsz ht hd hu he hc hB h
end Go.Proofs.Ytmapppjgmlcbaaa.PrintWords
