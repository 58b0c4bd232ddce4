/-
  Plain laws of layer 2 (stat): the document's order is that of the keys.
-/
import Derived.Test.YtbhmgbcfkhmbpaaStatW
import Derived.Test.YtbhmgbcfkhmbpaaFloatP
namespace Go.Proofs.Ytbhmgbcfkhmbpaa.StatP
set_option linter.unusedVariables false
set_option linter.unusedSimpArgs false
open Go.RowKit Go.Proofs.Ytbhmgbcfkhmbpaa.StatW Go.Proofs.Ytbhmgbcfkhmbpaa.FloatP

theorem isNan_eq (a : Nat) : isNan a = decide (9218868437227405312 < rung a) := by
  unfold isNan ord
  by_cases h : 9218868437227405312 < rung a
  · rw [order_nan a a (.inl h), decide_eq_true h]; rfl
  · rw [order_eq a a (by omega) (by omega), decide_eq_false h]
    simp [compare, compareOfLessAndEq]
theorem neg_eq (a : Nat) (h : a < 18446744073709551616) : neg a = decide (9223372036854775808 ≤ a) := by
  unfold neg
  by_cases g : 9223372036854775808 ≤ a
  · rw [decide_eq_true g, show a / 9223372036854775808 = 1 from by omega]; rfl
  · rw [decide_eq_false g, show a / 9223372036854775808 = 0 from by omega]; rfl
theorem negB_eq (a : Nat) (h : a < 18446744073709551616) : negB a = neg a := by
  rw [neg_eq a h]
  unfold negB wrap64
  by_cases g : 9223372036854775808 ≤ a
  · rw [decide_eq_true g]; exact decide_eq_true (by omega)
  · rw [decide_eq_false g]; exact decide_eq_false (by omega)
theorem rung_neg (a : Nat) (h : a < 18446744073709551616) (g : neg a = true) : (rung a : Int) = a - 9223372036854775808 := by
  rw [neg_eq a h] at g
  have := of_decide_eq_true g
  unfold rung; omega
theorem rung_pos (a : Nat) (h : a < 18446744073709551616) (g : neg a = false) : (rung a : Int) = a := by
  rw [neg_eq a h] at g
  have := of_decide_eq_false g
  unfold rung; omega
/-- the key of a number -/
theorem key_neg (a : Nat) (h : a < 18446744073709551616) (n : rung a ≤ 9218868437227405312) (g : neg a = true) : keyF a = -(rung a : Int) - 1 := by
  unfold keyF
  rw [isNan_eq, decide_eq_false (by omega), negB_eq a h, g]
  simp only [Bool.false_eq_true, if_false, if_true]
  have := rung_neg a h g
  rw [neg_eq a h] at g
  have := of_decide_eq_true g
  unfold wrap64; omega
theorem key_pos (a : Nat) (h : a < 18446744073709551616) (n : rung a ≤ 9218868437227405312) (g : neg a = false) : keyF a = (rung a : Int) := by
  unfold keyF
  rw [isNan_eq, decide_eq_false (by omega), negB_eq a h, g]
  simp only [Bool.false_eq_true, if_false]
  have := rung_pos a h g
  rw [neg_eq a h] at g
  have := of_decide_eq_false g
  unfold wrap64; omega
theorem key_nan (a : Nat) (n : 9218868437227405312 < rung a) : keyF a = 9223372036854775807 := by
  unfold keyF
  rw [isNan_eq, decide_eq_true n]; rfl
theorem key_bd (a : Nat) (h : a < 18446744073709551616) (n : rung a ≤ 9218868437227405312) : -9218868437227405313 ≤ keyF a ∧ keyF a ≤ 9218868437227405312 := by
  cases g : neg a
  · rw [key_pos a h n g]; omega
  · rw [key_neg a h n g]; omega

/-- S's order against the keys' -/
theorem S_neg (a : Nat) (g : neg a = true) : S a = -(V (rung a) : Int) := by unfold S; rw [g]; rfl
theorem S_pos (a : Nat) (g : neg a = false) : S a = (V (rung a) : Int) := by unfold S; rw [g]; rfl
theorem V_eq_zero (r : Nat) : V r = 0 ↔ r = 0 := ⟨fun h => by
  rcases Nat.eq_zero_or_pos r with h1 | h1
  · exact h1
  · have := V_lt h1; rw [V_zero] at this; omega, fun h => by rw [h]; rfl⟩
theorem zero_read : neg 0 = false ∧ rung 0 = 0 := ⟨rfl, rfl⟩
theorem ord_zero (a : Nat) (n : rung a ≤ 9218868437227405312) : (ord a 0 == some .eq) = decide (rung a = 0) := by
  unfold ord
  rw [order_eq a 0 n (by rw [zero_read.2]; omega), show S 0 = 0 from rfl]
  by_cases h : rung a = 0
  · rw [decide_eq_true h]
    have : S a = 0 := by unfold S; rw [h, V_zero]; simp
    rw [this]; rfl
  · rw [decide_eq_false h]
    have h1 : V (rung a) ≠ 0 := fun e => h ((V_eq_zero _).1 e)
    have : S a ≠ 0 := by cases g : neg a; rw [S_pos a g]; omega; rw [S_neg a g]; omega
    simp only [compare, compareOfLessAndEq, this, if_false]
    split <;> rfl
theorem ord_lt (a b : Nat) (ha : rung a ≤ 9218868437227405312) (hb : rung b ≤ 9218868437227405312) : (ord a b == some .lt) = decide (S a < S b) := by
  unfold ord
  rw [order_eq a b ha hb]
  simp only [compare, compareOfLessAndEq]
  by_cases h : S a < S b
  · rw [if_pos h, decide_eq_true h]; rfl
  · rw [if_neg h, decide_eq_false h]; split <;> rfl

/-- THE DOCUMENT's ORDER IS THAT OF THE KEYS. -/
theorem less_eq (a b : Nat) (ha : a < 18446744073709551616) (hb : b < 18446744073709551616) : lessB a b = decide (keyF a < keyF b) := by
  unfold lessB
  by_cases na : 9218868437227405312 < rung a
  · rw [isNan_eq a, decide_eq_true na, key_nan a na]
    simp only [Bool.true_or, if_true, Bool.not_true, Bool.false_and]
    symm; apply decide_eq_false
    by_cases nb : 9218868437227405312 < rung b
    · rw [key_nan b nb]; omega
    · have := key_bd b hb (by omega); omega
  · by_cases nb : 9218868437227405312 < rung b
    · rw [isNan_eq a, decide_eq_false na, isNan_eq b, decide_eq_true nb, key_nan b nb]
      have := key_bd a ha (by omega)
      symm; simp only [Bool.or_true, if_true, Bool.not_false, Bool.and_self]
      exact decide_eq_true (by omega)
    · rw [isNan_eq a, decide_eq_false na, isNan_eq b, decide_eq_false nb]
      simp only [Bool.or_self, Bool.false_eq_true, if_false]
      have na' : rung a ≤ 9218868437227405312 := by omega
      have nb' : rung b ≤ 9218868437227405312 := by omega
      rw [ord_zero a na', ord_zero b nb', ord_lt a b na' nb', negB_eq a ha, negB_eq b hb]
      have hl := @V_lt_iff (rung a) (rung b)
      have hg := @V_lt_iff (rung b) (rung a)
      have za := V_eq_zero (rung a)
      have zb := V_eq_zero (rung b)
      cases ga : neg a <;> cases gb : neg b
      · rw [key_pos a ha na' ga, key_pos b hb nb' gb, S_pos a ga, S_pos b gb]
        by_cases z : rung a = 0 ∧ rung b = 0
        · rw [decide_eq_true z.1, decide_eq_true z.2]; simp; omega
        · have : (decide (rung a = 0) && decide (rung b = 0)) = false := by simp; omega
          rw [this]
          simp only [Bool.false_eq_true, if_false]
          exact decide_eq_decide.2 (by omega)
      · rw [key_pos a ha na' ga, key_neg b hb nb' gb, S_pos a ga, S_neg b gb]
        have : decide ((rung a : Int) < -(rung b : Int) - 1) = false := decide_eq_false (by omega)
        rw [this]
        have h2 : decide ((V (rung a) : Int) < -(V (rung b) : Int)) = false := decide_eq_false (by omega)
        rw [h2]; split <;> rfl
      · rw [key_neg a ha na' ga, key_pos b hb nb' gb, S_neg a ga, S_pos b gb]
        have : decide (-(rung a : Int) - 1 < (rung b : Int)) = true := decide_eq_true (by omega)
        rw [this]
        by_cases z : rung a = 0 ∧ rung b = 0
        · rw [decide_eq_true z.1, decide_eq_true z.2]; rfl
        · have hz : (decide (rung a = 0) && decide (rung b = 0)) = false := by simp; omega
          rw [hz]
          simp only [Bool.false_eq_true, if_false]
          exact decide_eq_true (by omega)
      · rw [key_neg a ha na' ga, key_neg b hb nb' gb, S_neg a ga, S_neg b gb]
        by_cases z : rung a = 0 ∧ rung b = 0
        · rw [decide_eq_true z.1, decide_eq_true z.2]; simp; omega
        · have hz : (decide (rung a = 0) && decide (rung b = 0)) = false := by simp; omega
          rw [hz]
          simp only [Bool.false_eq_true, if_false]
          exact decide_eq_decide.2 (by omega)

theorem less_irrefl (a : Nat) : lessB a a = false := by
  unfold lessB
  cases h : isNan a
  · simp only [Bool.or_self, Bool.false_eq_true, if_false, Bool.and_self]
    split
    · cases negB a <;> rfl
    · rw [isNan_eq] at h
      have := of_decide_eq_false h
      rw [ord_lt a a (by omega) (by omega)]; simp
  · simp
theorem less_nan (a b : Nat) (h : isNan b = true) (h' : isNan a = true) : lessB a b = false := by
  unfold lessB; rw [h, h']; rfl

/-! ### StatOrder -/
theorem ord_cases (a b : Nat) : (ordF a b = -1 ∧ keyF a < keyF b) ∨ (ordF a b = 1 ∧ keyF b < keyF a) ∨ (ordF a b = 0 ∧ keyF a = keyF b) := by
  unfold ordF
  by_cases h : keyF a < keyF b
  · exact .inl ⟨if_pos h, h⟩
  · rw [if_neg h]
    by_cases g : keyF b < keyF a
    · exact .inr (.inl ⟨if_pos g, g⟩)
    · exact .inr (.inr ⟨if_neg g, by omega⟩)

end Go.Proofs.Ytbhmgbcfkhmbpaa.StatP
