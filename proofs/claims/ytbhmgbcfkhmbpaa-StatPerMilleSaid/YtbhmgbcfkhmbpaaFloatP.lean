/-
  Plain laws of floats of 64 bits: their order is that of whole numbers. No program in sight.
-/
import Derived.WalkKit
import Derived.Laws.FloatArith
import Derived.Laws.Cover2
namespace Go.Proofs.Ytbhmgbcfkhmbpaa.FloatP
set_option linter.unusedVariables false
set_option linter.unusedSimpArgs false
open Go Ieee

abbrev D : Format := FloatKind.f64.format
theorem D_binade : D.binade = 4503599627370496 := by decide +kernel
theorem D_inf : D.infRung = 9218868437227405312 := by decide +kernel
theorem D_sign : D.signWeight = 9223372036854775808 := by decide +kernel
theorem D_least : D.leastPlace = -1074 := by decide +kernel

/-- a rung's magnitude, in units of the least one -/
def V (r : Nat) : Nat := if r < 4503599627370496 then r else (4503599627370496 + r % 4503599627370496) * 2 ^ (r / 4503599627370496 - 1)

theorem V_lt {r s : Nat} (h : r < s) : V r < V s := by
  unfold V
  by_cases hs : s < 4503599627370496
  · rw [if_pos hs, if_pos (by omega)]; exact h
  · rw [if_neg hs]
    have hp : ∀ k, 1 ≤ 2 ^ k := fun k => Nat.one_le_two_pow
    by_cases hr : r < 4503599627370496
    · rw [if_pos hr]
      have := Nat.mul_le_mul (show 4503599627370496 ≤ 4503599627370496 + s % 4503599627370496 by omega) (hp (s / 4503599627370496 - 1))
      omega
    · rw [if_neg hr]
      by_cases hq : r / 4503599627370496 = s / 4503599627370496
      · rw [hq]
        exact Nat.mul_lt_mul_of_pos_right (by omega) (Nat.two_pow_pos _)
      · obtain ⟨d, hd⟩ : ∃ d, s / 4503599627370496 - 1 = (r / 4503599627370496 - 1) + 1 + d := ⟨s / 4503599627370496 - 1 - (r / 4503599627370496 - 1) - 1, by omega⟩
        rw [hd, Nat.pow_add, Nat.pow_succ]
        generalize hX : 2 ^ (r / 4503599627370496 - 1) = X
        have hX1 : 1 ≤ X := by rw [← hX]; exact hp _
        have h1 : (4503599627370496 + r % 4503599627370496) * X < 9007199254740992 * X := Nat.mul_lt_mul_of_pos_right (by omega) (by omega)
        have h2 : 4503599627370496 * (X * 2 * 1) ≤ (4503599627370496 + s % 4503599627370496) * (X * 2 * 2 ^ d) := Nat.mul_le_mul (by omega) (Nat.mul_le_mul (Nat.le_refl _) (hp d))
        omega
theorem V_le {r s : Nat} (h : r ≤ s) : V r ≤ V s := by
  rcases Nat.lt_or_eq_of_le h with h | h
  · exact Nat.le_of_lt (V_lt h)
  · rw [h]; exact Nat.le_refl _
theorem V_zero : V 0 = 0 := rfl
theorem V_lt_iff {r s : Nat} : V r < V s ↔ r < s := ⟨fun h => by
  rcases Nat.lt_or_ge r s with h1 | h1
  · exact h1
  · have := V_le h1; omega, V_lt⟩

def neg (a : Nat) : Bool := a / 9223372036854775808 % 2 == 1
def rung (a : Nat) : Nat := a % 9223372036854775808
/-- the number of a word that is no NaN, in units of the least one; infinity as the next rung's -/
def S (a : Nat) : Int := if neg a then -(V (rung a) : Int) else V (rung a)

/-- A word that is finite, as a number: its sign, and magnitude. -/
theorem read_fin (a : Nat) (h : rung a < 9218868437227405312) : ∃ m : Nat, ∃ e : Nat, D.read a = .number (neg a) m (-1074 + (e : Int)) ∧ m * 2 ^ e = V (rung a) := by
  unfold Format.read
  simp only [D_sign, D_binade, D_inf, D_least]
  show ∃ m e : Nat, (if rung a < 4503599627370496 then Datum.number (neg a) (rung a) (-1074) else if rung a < 9218868437227405312 then Datum.number (neg a) (4503599627370496 + rung a % 4503599627370496) (-1074 + ((rung a / 4503599627370496 - 1 : Nat) : Int)) else if rung a = 9218868437227405312 then Datum.infinity (neg a) else Datum.nan (neg a) (rung a - 9218868437227405312)) = Datum.number (neg a) m (-1074 + (e : Int)) ∧ m * 2 ^ e = V (rung a)
  by_cases hb : rung a < 4503599627370496
  · rw [if_pos hb]; exact ⟨rung a, 0, by simp, by unfold V; rw [if_pos hb]; simp⟩
  · rw [if_neg hb, if_pos h]; exact ⟨_, _, rfl, by unfold V; rw [if_neg hb]⟩
theorem read_inf (a : Nat) (h : rung a = 9218868437227405312) : D.read a = .infinity (neg a) := by
  unfold Format.read
  simp only [D_sign, D_binade, D_inf, D_least]
  show (if rung a < 4503599627370496 then _ else if rung a < 9218868437227405312 then _ else if rung a = 9218868437227405312 then Datum.infinity (neg a) else _) = _
  rw [if_neg (by omega), if_neg (by omega), if_pos h]
theorem read_nan (a : Nat) (h : 9218868437227405312 < rung a) : ∃ t, D.read a = .nan (neg a) t := by
  unfold Format.read
  simp only [D_sign, D_binade, D_inf, D_least]
  refine ⟨rung a - 9218868437227405312, ?_⟩
  show (if rung a < 4503599627370496 then _ else if rung a < 9218868437227405312 then _ else if rung a = 9218868437227405312 then _ else Datum.nan (neg a) (rung a - 9218868437227405312)) = _
  rw [if_neg (by omega), if_neg (by omega), if_neg (by omega)]

theorem compare_mul (x y : Int) (k : Nat) : compare (x * ((2 ^ k : Nat) : Int)) (y * ((2 ^ k : Nat) : Int)) = compare x y := by
  have hp : (0 : Int) < ((2 ^ k : Nat) : Int) := by have := Nat.two_pow_pos k; omega
  simp only [compare, compareOfLessAndEq]
  have e1 : x * ((2 ^ k : Nat) : Int) < y * ((2 ^ k : Nat) : Int) ↔ x < y := Int.mul_lt_mul_right hp
  have e2 : x * ((2 ^ k : Nat) : Int) = y * ((2 ^ k : Nat) : Int) ↔ x = y := ⟨fun e => Int.eq_of_mul_eq_mul_right (by omega) e, fun e => by rw [e]⟩
  by_cases h1 : x < y
  · rw [if_pos h1, if_pos (e1.2 h1)]
  · rw [if_neg h1, if_neg (fun h => h1 (e1.1 h))]
    by_cases h2 : x = y
    · rw [if_pos h2, if_pos (e2.2 h2)]
    · rw [if_neg h2, if_neg (fun h => h2 (e2.1 h))]
theorem signed_scale (s : Bool) (m i b : Nat) (hb : b ≤ i) : signed s m (i - b) * ((2 ^ b : Nat) : Int) = if s then -((m * 2 ^ i : Nat) : Int) else ((m * 2 ^ i : Nat) : Int) := by
  unfold signed
  rw [Nat.shiftLeft_eq]
  have : m * 2 ^ (i - b) * 2 ^ b = m * 2 ^ i := by rw [Nat.mul_assoc, ← Nat.pow_add, Nat.sub_add_cancel hb]
  cases s
  · simp only [Bool.false_eq_true, if_false]; rw [← Int.natCast_mul, this]
  · simp only [if_true]; rw [Int.neg_mul, ← Int.natCast_mul, this]

theorem order_num (s t : Bool) (m n i j : Nat) : (Datum.number s m (-1074 + (i : Int))).order (.number t n (-1074 + (j : Int))) = some (compare (if s then -((m * 2 ^ i : Nat) : Int) else ((m * 2 ^ i : Nat) : Int)) (if t then -((n * 2 ^ j : Nat) : Int) else ((n * 2 ^ j : Nat) : Int))) := by
  show some (compare (signed s m ((-1074 + (i : Int)) - min (-1074 + (i : Int)) (-1074 + (j : Int))).toNat) (signed t n ((-1074 + (j : Int)) - min (-1074 + (i : Int)) (-1074 + (j : Int))).toNat)) = _
  congr 1
  have e1 : ((-1074 + (i : Int)) - min (-1074 + (i : Int)) (-1074 + (j : Int))).toNat = i - min i j := by omega
  have e2 : ((-1074 + (j : Int)) - min (-1074 + (i : Int)) (-1074 + (j : Int))).toNat = j - min i j := by omega
  rw [e1, e2, ← signed_scale s m i (min i j) (by omega), ← signed_scale t n j (min i j) (by omega), compare_mul]

theorem inf_V {r : Nat} (h : r < 9218868437227405312) : V r < V 9218868437227405312 := V_lt h

/-- THE ORDER: of two that are no NaN. -/
theorem order_eq (a b : Nat) (ha : rung a ≤ 9218868437227405312) (hb : rung b ≤ 9218868437227405312) : D.order a b = some (compare (S a) (S b)) := by
  unfold Format.order S
  rcases Nat.lt_or_eq_of_le ha with ha | ha <;> rcases Nat.lt_or_eq_of_le hb with hb | hb
  · obtain ⟨m, i, h1, h2⟩ := read_fin a ha
    obtain ⟨n, j, h3, h4⟩ := read_fin b hb
    rw [h1, h3, order_num, h2, h4]
  · obtain ⟨m, i, h1, h2⟩ := read_fin a ha
    rw [h1, read_inf b hb]
    have hv := inf_V ha
    show some (if neg b then Ordering.gt else Ordering.lt) = _
    rw [hb]
    generalize V 9218868437227405312 = I at *
    generalize V (rung a) = x at *
    congr 1
    cases neg b <;> cases neg a <;> simp only [Bool.false_eq_true, if_false, if_true, compare, compareOfLessAndEq] <;> (first | rw [if_pos (by omega)] | rw [if_neg (by omega), if_neg (by omega)])
  · obtain ⟨n, j, h3, h4⟩ := read_fin b hb
    rw [h3, read_inf a ha]
    have hv := inf_V hb
    show some (if neg a then Ordering.lt else Ordering.gt) = _
    rw [ha]
    generalize V 9218868437227405312 = I at *
    generalize V (rung b) = x at *
    congr 1
    cases neg b <;> cases neg a <;> simp only [Bool.false_eq_true, if_false, if_true, compare, compareOfLessAndEq] <;> (first | rw [if_pos (by omega)] | rw [if_neg (by omega), if_neg (by omega)])
  · rw [read_inf a ha, read_inf b hb, ha, hb]
    have hv : 0 < V 9218868437227405312 := by have := V_lt (show 0 < 9218868437227405312 by decide); rw [V_zero] at this; exact this
    show some (compare (neg b).toNat (neg a).toNat) = _
    generalize V 9218868437227405312 = I at *
    congr 1
    cases neg b <;> cases neg a <;> simp only [Bool.false_eq_true, if_false, if_true, compare, compareOfLessAndEq, Bool.toNat_true, Bool.toNat_false] <;> (first | (rw [if_pos (by omega), if_pos (by omega)]) | (rw [if_neg (by omega), if_neg (by omega), if_neg (by omega), if_neg (by omega)]) | (rw [if_neg (by omega), if_neg (by omega)]) | (rw [if_neg (by omega), if_pos (by omega), if_neg (by omega), if_pos (by omega)]))

theorem order_nan (a b : Nat) (h : 9218868437227405312 < rung a ∨ 9218868437227405312 < rung b) : D.order a b = none := by
  unfold Format.order
  rcases h with h | h
  · obtain ⟨t, h1⟩ := read_nan a h
    rw [h1]; rfl
  · obtain ⟨t, h1⟩ := read_nan b h
    rw [h1]; cases D.read a <;> rfl

end Go.Proofs.Ytbhmgbcfkhmbpaa.FloatP
