/-
  Plain law of layer 1 (mix): numbers of 64 bits as BitVec 64; mixing and its inverse. No program in sight.
-/
import Derived.WalkKit
namespace Go.Proofs.Ytakmmelpddhidaa.MixP
open Go
set_option linter.unusedVariables false
set_option linter.unusedSimpArgs false

/-- a number of 64 bits as the model's int -/
def uI (x : BitVec 64) : Int := (x.toNat : Int)

theorem uI_nonneg (x : BitVec 64) : 0 ≤ uI x := Int.natCast_nonneg _
theorem uI_lt (x : BitVec 64) : uI x < 18446744073709551616 := by unfold uI; have := x.isLt; omega
theorem uI_inj {x y : BitVec 64} (h : uI x = uI y) : x = y := BitVec.eq_of_toNat_eq (by unfold uI at h; omega)
theorem uI_of (n : Int) (h0 : 0 ≤ n) (h1 : n < 18446744073709551616) : ∃ x, n = uI x := ⟨BitVec.ofNat 64 n.toNat, by unfold uI; rw [BitVec.toNat_ofNat]; omega⟩
theorem uI_lit (k : Nat) (h : k < 18446744073709551616) : ((k : Nat) : Int) = uI (BitVec.ofNat 64 k) := by unfold uI; rw [BitVec.toNat_ofNat]; omega

theorem pow64 : (18446744073709551616 : Int) = ((2 ^ 64 : Nat) : Int) := by decide +kernel
theorem wrap_mul (x y : BitVec 64) : IntKind.u64.wrap (uI x * uI y) = uI (x * y) := by
  rw [IntKind.wrap_u64, pow64]; unfold uI; rw [BitVec.toNat_mul, ← Int.natCast_mul, ← Int.natCast_emod]
theorem wrap_add (x y : BitVec 64) : IntKind.u64.wrap (uI x + uI y) = uI (x + y) := by
  rw [IntKind.wrap_u64, pow64]; unfold uI; rw [BitVec.toNat_add, ← Int.natCast_add, ← Int.natCast_emod]
theorem bits_xor (x y : BitVec 64) : bits .xor .u64 (uI x) (uI y) = uI (x ^^^ y) := by
  unfold uI; rw [u64_xor_nat _ _ x.isLt y.isLt, BitVec.toNat_xor]
theorem bits_or (x y : BitVec 64) : bits .or .u64 (uI x) (uI y) = uI (x ||| y) := by
  unfold uI; rw [u64_or_nat _ _ x.isLt y.isLt, BitVec.toNat_or]
theorem div_shift (x : BitVec 64) : uI x / (4294967296 : Int) = uI (x >>> 32) := by
  rw [show (4294967296 : Int) = ((2 ^ 32 : Nat) : Int) from by decide +kernel]
  unfold uI; rw [BitVec.toNat_ushiftRight, Nat.shiftRight_eq_div_pow, ← Int.natCast_ediv]
theorem tdiv_shift (x : BitVec 64) : Int.tdiv (uI x) (4294967296 : Int) = uI (x >>> 32) := by
  rw [Int.tdiv_eq_ediv_of_nonneg (uI_nonneg x)]; exact div_shift x
theorem wrap_uI (x : BitVec 64) : IntKind.u64.wrap (uI x) = uI x := by
  rw [IntKind.wrap_u64]; have := uI_nonneg x; have := uI_lt x; omega

def C : BitVec 64 := 11400714819323198485#64
def D : BitVec 64 := 17428512612931826493#64
theorem uI_C : uI C = 11400714819323198485 := by decide +kernel
theorem uI_D : uI D = 17428512612931826493 := by decide +kernel

theorem div35 (x : BitVec 64) : uI x / (34359738368 : Int) = uI (x >>> 35) := by
  rw [show (34359738368 : Int) = ((2 ^ 35 : Nat) : Int) from by decide +kernel]
  unfold uI; rw [BitVec.toNat_ushiftRight, Nat.shiftRight_eq_div_pow, ← Int.natCast_ediv]
theorem div29 (x : BitVec 64) : uI x / (536870912 : Int) = uI (x >>> 29) := by
  rw [show (536870912 : Int) = ((2 ^ 29 : Nat) : Int) from by decide +kernel]
  unfold uI; rw [BitVec.toNat_ushiftRight, Nat.shiftRight_eq_div_pow, ← Int.natCast_ediv]
theorem uI29 : (536870912 : Int) = uI 536870912#64 := by decide +kernel
theorem uI35 : (34359738368 : Int) = uI 34359738368#64 := by decide +kernel
theorem rotl_raw (x : BitVec 64) : bits .or .u64 (IntKind.u64.wrap (uI x * 536870912)) (uI x / 34359738368) = uI (x.rotateLeft 29) := by
  rw [div35, uI29, wrap_mul, bits_or, show x * 536870912#64 = x <<< 29 from by rw [BitVec.shiftLeft_eq_mul_twoPow]; rfl]
  rfl
theorem rotr_raw (x : BitVec 64) : bits .or .u64 (IntKind.u64.wrap (uI x * 34359738368)) (uI x / 536870912) = uI (x.rotateRight 29) := by
  rw [div29, uI35, wrap_mul, bits_or, show x * 34359738368#64 = x <<< 35 from by rw [BitVec.shiftLeft_eq_mul_twoPow]; rfl, BitVec.or_comm]
  rfl

/-- the number and its upper half below it -/
def half (x : BitVec 64) : BitVec 64 := x ^^^ (x >>> 32)
def mix (x : BitVec 64) : BitVec 64 := half (((half x * C).rotateLeft 29) * C)
def unmix (x : BitVec 64) : BitVec 64 := half (((half x * D).rotateRight 29) * D)

theorem half_raw (x : BitVec 64) : bits .xor .u64 (uI x) (uI x / 4294967296) = uI (half x) := by rw [div_shift, bits_xor]; rfl
theorem half_rawt (x : BitVec 64) : bits .xor .u64 (uI x) (Int.tdiv (uI x) 4294967296) = uI (half x) := by rw [tdiv_shift, bits_xor]; rfl
theorem mulC (x : BitVec 64) : IntKind.u64.wrap (uI x * 11400714819323198485) = uI (x * C) := by rw [← uI_C, wrap_mul]
theorem mulD (x : BitVec 64) : IntKind.u64.wrap (uI x * 17428512612931826493) = uI (x * D) := by rw [← uI_D, wrap_mul]

theorem half_half (x : BitVec 64) : half (half x) = x := by
  unfold half
  apply BitVec.eq_of_getLsbD_eq
  intro i hi
  simp only [BitVec.getLsbD_xor, BitVec.getLsbD_ushiftRight]
  have h : x.getLsbD (32 + (32 + i)) = false := BitVec.getLsbD_of_ge _ _ (by omega)
  rw [h]
  cases x.getLsbD i <;> cases x.getLsbD (32 + i) <;> rfl
theorem C_D (x : BitVec 64) : x * C * D = x := by
  rw [BitVec.mul_assoc, show C * D = 1#64 from by decide +kernel, BitVec.mul_one]
theorem D_C (x : BitVec 64) : x * D * C = x := by
  rw [BitVec.mul_assoc, show D * C = 1#64 from by decide +kernel, BitVec.mul_one]
theorem rot_l (x : BitVec 64) : (x.rotateLeft 29).rotateRight 29 = x := by
  apply BitVec.eq_of_getLsbD_eq
  intro i hi
  rw [BitVec.getLsbD_rotateRight]
  simp only [BitVec.getLsbD_rotateLeft, show (29 : Nat) % 64 = 29 from rfl]
  by_cases h : i < 35
  · simp only [show (i < 64 - 29) = True from eq_true (by omega), decide_true, cond_true, show (29 + i < 29) = False from eq_false (by omega), decide_false, cond_false, show (29 + i < 64) = True from eq_true (by omega), Bool.true_and]
    congr 1; omega
  · simp only [show (i < 64 - 29) = False from eq_false (by omega), decide_false, cond_false, hi, decide_true, Bool.true_and, show (i - (64 - 29) < 29) = True from eq_true (by omega), cond_true]
    congr 1; omega
theorem rot_r (x : BitVec 64) : (x.rotateRight 29).rotateLeft 29 = x := by
  apply BitVec.eq_of_getLsbD_eq
  intro i hi
  rw [BitVec.getLsbD_rotateLeft]
  simp only [BitVec.getLsbD_rotateRight, show (29 : Nat) % 64 = 29 from rfl]
  by_cases h : i < 29
  · simp only [h, decide_true, cond_true, show (64 - 29 + i < 64 - 29) = False from eq_false (by omega), decide_false, cond_false, show (64 - 29 + i < 64) = True from eq_true (by omega), Bool.true_and]
    congr 1; omega
  · simp only [h, decide_false, cond_false, hi, decide_true, Bool.true_and, show (i - 29 < 64 - 29) = True from eq_true (by omega), cond_true]
    congr 1; omega
theorem unmix_mix (x : BitVec 64) : unmix (mix x) = x := by
  unfold unmix mix; rw [half_half, C_D, rot_l, C_D, half_half]
theorem mix_unmix (x : BitVec 64) : mix (unmix x) = x := by
  unfold unmix mix; rw [half_half, D_C, rot_r, D_C, half_half]


/-! ### the document's turning, bit by bit -/
theorem div63 (x : BitVec 64) : uI x / (9223372036854775808 : Int) = uI (x >>> 63) := by
  rw [show (9223372036854775808 : Int) = ((2 ^ 63 : Nat) : Int) from by decide +kernel]
  unfold uI; rw [BitVec.toNat_ushiftRight, Nat.shiftRight_eq_div_pow, ← Int.natCast_ediv]
theorem mul2 (x : BitVec 64) : IntKind.u64.wrap (uI x * 2) = uI (x * 2#64) := by
  rw [← wrap_mul]; rfl
theorem top_raw (x : BitVec 64) : IntKind.u64.wrap (Int.tdiv (uI x) 9223372036854775808) = uI (x >>> 63) := by
  rw [Int.tdiv_eq_ediv_of_nonneg (uI_nonneg x), div63, wrap_uI]
theorem rot_one (x : BitVec 64) : x * 2#64 + x >>> 63 = x.rotateLeft 1 := by
  rw [show x * 2#64 = x <<< 1 from by rw [BitVec.shiftLeft_eq_mul_twoPow]; rfl]
  rw [BitVec.add_eq_or_of_and_eq_zero]
  · rfl
  · apply BitVec.eq_of_getLsbD_eq
    intro i hi
    simp only [BitVec.getLsbD_and, BitVec.getLsbD_shiftLeft, BitVec.getLsbD_ushiftRight, BitVec.getLsbD_zero]
    by_cases h : i = 0
    · subst h; simp
    · rw [BitVec.getLsbD_of_ge x (63 + i) (by omega), Bool.and_false]
theorem rot_step (x : BitVec 64) (k : Nat) (hk : k + 1 < 64) : (x.rotateLeft k) * 2#64 + (x.rotateLeft k) >>> 63 = x.rotateLeft (k + 1) := by
  rw [rot_one]
  apply BitVec.eq_of_getLsbD_eq
  intro i hi
  simp only [BitVec.getLsbD_rotateLeft]
  rw [show (1 : Nat) % 64 = 1 from rfl, Nat.mod_eq_of_lt (show k < 64 by omega), Nat.mod_eq_of_lt hk]
  by_cases h0 : i < 1
  · obtain rfl : i = 0 := by omega
    simp only [show (0 < 1) = True from eq_true (by omega), decide_true, cond_true, show (64 - 1 + 0 < k) = False from eq_false (by omega), decide_false, cond_false, show (64 - 1 + 0 < 64) = True from eq_true (by omega), Bool.true_and, show (0 < k + 1) = True from eq_true (by omega)]
    congr 1; omega
  · by_cases h1 : i < k + 1
    · simp only [h0, h1, hi, decide_true, decide_false, cond_true, cond_false, Bool.true_and, show (i - 1 < k) = True from eq_true (by omega)]
      congr 1; omega
    · simp only [h0, h1, hi, decide_true, decide_false, cond_false, Bool.true_and, show (i - 1 < k) = False from eq_false (by omega), show (i - 1 < 64) = True from eq_true (by omega)]
      congr 1; omega
theorem rot_zero (x : BitVec 64) : x.rotateLeft 0 = x := by
  apply BitVec.eq_of_getLsbD_eq
  intro i hi
  simp [hi]


/-! ### the upper 64 bits of a product -/
theorem and_low (x : BitVec 64) : bits .and .u64 (uI x) 4294967295 = uI x % 4294967296 := by
  unfold uI
  rw [show (4294967295 : Int) = ((4294967295 : Nat) : Int) from rfl, u64_and_nat _ _ x.isLt (by decide), show (4294967295 : Nat) = 2 ^ 32 - 1 from rfl, Nat.and_two_pow_sub_one_eq_mod]
  rfl
theorem tmod_low (x : BitVec 64) : Int.tmod (uI x) 4294967296 = uI x % 4294967296 := Int.tmod_eq_emod_of_nonneg (uI_nonneg x)
theorem tdiv_low (x : BitVec 64) : Int.tdiv (uI x) 4294967296 = uI x / 4294967296 := Int.tdiv_eq_ediv_of_nonneg (uI_nonneg x)

/-- the upper 64 bits of a product -/
def hi (x y : BitVec 64) : Int := uI x * uI y / 18446744073709551616

theorem prod_le (a b : Int) (ha : 0 ≤ a) (ha' : a ≤ 4294967295) (hb : 0 ≤ b) (hb' : b ≤ 4294967295) : 0 ≤ a * b ∧ a * b ≤ 18446744065119617025 :=
  ⟨Int.mul_nonneg ha hb, Int.le_trans (Int.mul_le_mul ha' hb' hb (by omega)) (by decide)⟩

theorem prod_parts (x y : Int) : x * y = (x / 4294967296) * (y / 4294967296) * 18446744073709551616 + ((x / 4294967296) * (y % 4294967296) + (x % 4294967296) * (y / 4294967296)) * 4294967296 + (x % 4294967296) * (y % 4294967296) := by
  have hx := Int.mul_ediv_add_emod x 4294967296
  have hy := Int.mul_ediv_add_emod y 4294967296
  generalize x / 4294967296 = a at *
  generalize x % 4294967296 = b at *
  generalize y / 4294967296 = c at *
  generalize y % 4294967296 = d at *
  subst hx hy
  simp only [Int.add_mul, Int.mul_add]
  rw [show 4294967296 * a * (4294967296 * c) = a * c * 18446744073709551616 from by
      rw [show 4294967296 * a * (4294967296 * c) = (4294967296 * 4294967296) * (a * c) from by simp only [Int.mul_assoc, Int.mul_left_comm a]]; omega,
    show 4294967296 * a * d = a * d * 4294967296 from by rw [Int.mul_assoc, Int.mul_comm], show b * (4294967296 * c) = b * c * 4294967296 from by rw [Int.mul_left_comm, Int.mul_comm]]
  omega

theorem parts (x : BitVec 64) : 0 ≤ uI x / 4294967296 ∧ uI x / 4294967296 ≤ 4294967295 ∧ 0 ≤ uI x % 4294967296 ∧ uI x % 4294967296 ≤ 4294967295 := by
  have := uI_nonneg x; have := uI_lt x; omega

theorem hi_raw (p q r s : Int) (hp : 0 ≤ p ∧ p ≤ 18446744065119617025) (hq : 0 ≤ q ∧ q ≤ 18446744065119617025) (hr : 0 ≤ r ∧ r ≤ 18446744065119617025) (hs : 0 ≤ s ∧ s ≤ 18446744065119617025) :
    (p * 18446744073709551616 + (q + r) * 4294967296 + s) / 18446744073709551616 = p + (q + s / 4294967296) / 4294967296 + (r + (q + s / 4294967296) % 4294967296) / 4294967296 := by omega


/-! ### a text's number -/
def S : BitVec 64 := 1099511628211#64
theorem uI_S : uI S = 1099511628211 := by decide +kernel
theorem mulS (x : BitVec 64) : IntKind.u64.wrap (uI x * 1099511628211) = uI (x * S) := by rw [← uI_S, wrap_mul]
def ofStep (h : BitVec 64) (c : UInt8) : BitVec 64 := (h ^^^ BitVec.ofNat 64 c.toNat) * S
def ofFold (h : BitVec 64) (l : List UInt8) : BitVec 64 := l.foldl ofStep h
def B : BitVec 64 := 14695981039346656037#64
theorem uI_B : uI B = 14695981039346656037 := by decide +kernel
def ofNum (seed : BitVec 64) (s : ByteArray) : BitVec 64 := mix (ofFold (B ^^^ mix seed) s.data.toList ^^^ BitVec.ofNat 64 s.size)
theorem xorB (x : BitVec 64) : bits .xor .u64 14695981039346656037 (uI x) = uI (B ^^^ x) := by rw [← uI_B, bits_xor]
theorem byte_uI (c : UInt8) : ((c.toNat : Nat) : Int) = uI (BitVec.ofNat 64 c.toNat) := uI_lit _ (by have := c.toNat_lt; omega)
theorem xor_byte (h : BitVec 64) (c : UInt8) : bits .xor .u64 (uI h) ((c.toNat : Nat) : Int) = uI (h ^^^ BitVec.ofNat 64 c.toNat) := by rw [byte_uI, bits_xor]
theorem xor_nat (h : BitVec 64) (n : Nat) (hn : n < 18446744073709551616) : bits .xor .u64 (uI h) ((n : Nat) : Int) = uI (h ^^^ BitVec.ofNat 64 n) := by rw [uI_lit n hn, bits_xor]
theorem ofFold_snoc (h : BitVec 64) (l : List UInt8) (c : UInt8) : ofFold h (l ++ [c]) = ofStep (ofFold h l) c := by simp [ofFold]
theorem take_snoc (l : List UInt8) (k : Nat) (h : k < l.length) : l.take (k + 1) = l.take k ++ [l.getD k 0] := by
  rw [List.take_succ_eq_append_getElem h]; simp [List.getD, h]
theorem fold_next (h : BitVec 64) (l : List UInt8) (k : Nat) (hk : k < l.length) : ofFold h (l.take (k + 1)) = (ofFold h (l.take k) ^^^ BitVec.ofNat 64 (l.getD k 0).toNat) * S := by
  rw [take_snoc l k hk, ofFold_snoc]; rfl

theorem wrap_byte (c : UInt8) : IntKind.u64.wrap ((c.toNat : Nat) : Int) = ((c.toNat : Nat) : Int) := by rw [byte_uI, wrap_uI]
theorem of_next (h : BitVec 64) (s : ByteArray) (k : Nat) (hk : k < s.data.size) :
    Value.int .u64 (IntKind.u64.wrap (bits .xor .u64 (uI (ofFold h (s.data.toList.take k))) (IntKind.u64.wrap ((s.data[k].toNat : Nat) : Int)) * 1099511628211)) = .int .u64 (uI (ofFold h (s.data.toList.take (k + 1)))) := by
  rw [wrap_byte, xor_byte, mulS, fold_next _ _ _ (by simpa using hk)]
  have e : s.data.toList.getD k 0 = s.data[k] := by rw [List.getD_eq_getElem?_getD, Array.getElem?_toList, Array.getElem?_eq_getElem hk]; rfl
  rw [e]


theorem wrap_in (n : Int) (h0 : 0 ≤ n) (h1 : n ≤ 18446744073709551615) : IntKind.u64.wrap n = n := by rw [IntKind.wrap_u64]; omega
theorem and_low' (n : Int) (h0 : 0 ≤ n) (h1 : n ≤ 18446744073709551615) : bits .and .u64 n 4294967295 = n % 4294967296 := by
  obtain ⟨x, rfl⟩ := uI_of n h0 (by omega)
  exact and_low x
theorem mul64_raw (x y : BitVec 64) :
    IntKind.u64.wrap ((IntKind.u64.wrap ((IntKind.u64.wrap ((uI x / 4294967296) * (uI y / 4294967296))) + ((IntKind.u64.wrap ((IntKind.u64.wrap ((uI x / 4294967296) * (Go.bits .and .u64 (uI y) 4294967295))) + ((IntKind.u64.wrap ((Go.bits .and .u64 (uI x) 4294967295) * (Go.bits .and .u64 (uI y) 4294967295))) / 4294967296))) / 4294967296))) + ((IntKind.u64.wrap ((Go.bits .and .u64 (IntKind.u64.wrap ((IntKind.u64.wrap ((uI x / 4294967296) * (Go.bits .and .u64 (uI y) 4294967295))) + ((IntKind.u64.wrap ((Go.bits .and .u64 (uI x) 4294967295) * (Go.bits .and .u64 (uI y) 4294967295))) / 4294967296))) 4294967295) + (IntKind.u64.wrap ((Go.bits .and .u64 (uI x) 4294967295) * (uI y / 4294967296))))) / 4294967296)) = hi x y := by
  obtain ⟨a0, a1, b0, b1⟩ := parts x
  obtain ⟨c0, c1, d0, d1⟩ := parts y
  rw [and_low, and_low]
  unfold hi
  rw [prod_parts (uI x) (uI y)]
  generalize uI x / 4294967296 = a at *
  generalize uI x % 4294967296 = b at *
  generalize uI y / 4294967296 = c at *
  generalize uI y % 4294967296 = d at *
  have p := prod_le a c a0 a1 c0 c1
  have q := prod_le a d a0 a1 d0 d1
  have r := prod_le b c b0 b1 c0 c1
  have s := prod_le b d b0 b1 d0 d1
  generalize a * c = P at *
  generalize a * d = Q at *
  generalize b * c = R at *
  generalize b * d = T at *
  rw [hi_raw P Q R T p q r s, wrap_in P (by omega) (by omega), wrap_in Q (by omega) (by omega), wrap_in R (by omega) (by omega), wrap_in T (by omega) (by omega)]
  rw [wrap_in (Q + T / 4294967296) (by omega) (by omega), and_low' (Q + T / 4294967296) (by omega) (by omega)]
  rw [wrap_in (P + (Q + T / 4294967296) / 4294967296) (by omega) (by omega), wrap_in ((Q + T / 4294967296) % 4294967296 + R) (by omega) (by omega)]
  rw [wrap_in _ (by omega) (by omega)]
  omega
theorem high_raw (x y : BitVec 64) :
    (IntKind.u64.wrap ((IntKind.u64.wrap ((IntKind.u64.wrap ((uI x / 4294967296) * (uI y / 4294967296))) + (IntKind.u64.wrap (Int.tdiv (IntKind.u64.wrap ((IntKind.u64.wrap ((uI x / 4294967296) * (uI y % 4294967296))) + (IntKind.u64.wrap (Int.tdiv (IntKind.u64.wrap ((uI x % 4294967296) * (uI y % 4294967296))) 4294967296)))) 4294967296)))) + (IntKind.u64.wrap (Int.tdiv (IntKind.u64.wrap ((IntKind.u64.wrap ((uI x % 4294967296) * (uI y / 4294967296))) + (Int.tmod (IntKind.u64.wrap ((IntKind.u64.wrap ((uI x / 4294967296) * (uI y % 4294967296))) + (IntKind.u64.wrap (Int.tdiv (IntKind.u64.wrap ((uI x % 4294967296) * (uI y % 4294967296))) 4294967296)))) 4294967296))) 4294967296)))) = hi x y := by
  obtain ⟨a0, a1, b0, b1⟩ := parts x
  obtain ⟨c0, c1, d0, d1⟩ := parts y
  unfold hi
  rw [prod_parts (uI x) (uI y)]
  generalize uI x / 4294967296 = a at *
  generalize uI x % 4294967296 = b at *
  generalize uI y / 4294967296 = c at *
  generalize uI y % 4294967296 = d at *
  have p := prod_le a c a0 a1 c0 c1
  have q := prod_le a d a0 a1 d0 d1
  have r := prod_le b c b0 b1 c0 c1
  have s := prod_le b d b0 b1 d0 d1
  generalize a * c = P at *
  generalize a * d = Q at *
  generalize b * c = R at *
  generalize b * d = T at *
  rw [hi_raw P Q R T p q r s, wrap_in P (by omega) (by omega), wrap_in Q (by omega) (by omega), wrap_in R (by omega) (by omega), wrap_in T (by omega) (by omega)]
  rw [Int.tdiv_eq_ediv_of_nonneg (show 0 ≤ T by omega), wrap_in (T / 4294967296) (by omega) (by omega), wrap_in (Q + T / 4294967296) (by omega) (by omega)]
  rw [Int.tdiv_eq_ediv_of_nonneg (show 0 ≤ Q + T / 4294967296 by omega), wrap_in ((Q + T / 4294967296) / 4294967296) (by omega) (by omega), wrap_in (P + (Q + T / 4294967296) / 4294967296) (by omega) (by omega)]
  rw [Int.tmod_eq_emod_of_nonneg (show 0 ≤ Q + T / 4294967296 by omega), wrap_in (R + (Q + T / 4294967296) % 4294967296) (by omega) (by omega), Int.tdiv_eq_ediv_of_nonneg (show 0 ≤ R + (Q + T / 4294967296) % 4294967296 by omega)]
  rw [wrap_in ((R + (Q + T / 4294967296) % 4294967296) / 4294967296) (by omega) (by omega), wrap_in _ (by omega) (by omega)]

/-- a place of so many -/
def place (h : BitVec 64) (row size : Int) : Int := if size < 1 then 0 else hi (mix (h + BitVec.ofInt 64 row * C)) (BitVec.ofInt 64 size)
theorem wrap_ofInt (n : Int) : IntKind.u64.wrap n = uI (BitVec.ofInt 64 n) := by
  rw [IntKind.wrap_u64]; unfold uI
  rw [BitVec.toNat_ofInt]
  rw [Int.toNat_of_nonneg (Int.emod_nonneg _ (by decide))]
  rfl
theorem hi_bd (x y : BitVec 64) (hy : 1 ≤ uI y) : 0 ≤ hi x y ∧ hi x y < uI y := by
  unfold hi
  have := uI_nonneg x; have := uI_lt x
  have h0 : 0 ≤ uI x * uI y := Int.mul_nonneg (uI_nonneg x) (uI_nonneg y)
  have h1 : uI x * uI y ≤ 18446744073709551615 * uI y := Int.mul_le_mul_of_nonneg_right (by omega) (uI_nonneg y)
  generalize uI x * uI y = P at *
  omega
theorem uI_ofInt (n : Int) (h0 : 0 ≤ n) (h1 : n ≤ 9223372036854775807) : uI (BitVec.ofInt 64 n) = n := by
  rw [← wrap_ofInt, wrap_in n h0 (by omega)]
theorem place_bd (h : BitVec 64) (row size : Int) (h1 : 1 ≤ size) (h2 : size ≤ 9223372036854775807) : 0 ≤ place h row size ∧ place h row size < size := by
  unfold place
  rw [if_neg (by omega)]
  have := hi_bd (mix (h + BitVec.ofInt 64 row * C)) (BitVec.ofInt 64 size)
  rw [uI_ofInt size (by omega) h2] at this
  exact this h1
theorem wrap64_place (h : BitVec 64) (row size : Int) (h1 : 1 ≤ size) (h2 : size ≤ 9223372036854775807) : RowKit.wrap64 (hi (mix (h + BitVec.ofInt 64 row * C)) (BitVec.ofInt 64 size)) = place h row size := by
  have h3 := place_bd h row size h1 h2
  unfold place at *
  rw [if_neg (by omega)] at *
  unfold RowKit.wrap64
  omega

end Go.Proofs.Ytakmmelpddhidaa.MixP
