/-
  Plain laws of layer 2 (stat): rates.
-/
import Derived.Test.YtbhmgbcfkhmbpaaFloatQ
namespace Go.Proofs.Ytbhmgbcfkhmbpaa.FloatRt
set_option linter.unusedVariables false
set_option linter.unusedSimpArgs false
open Go Ieee Go.RowKit Go.Proofs.Ytbhmgbcfkhmbpaa.StatW Go.Proofs.Ytbhmgbcfkhmbpaa.FloatP Go.Proofs.Ytbhmgbcfkhmbpaa.FloatR Go.Proofs.Ytbhmgbcfkhmbpaa.StatP Go.Proofs.Ytbhmgbcfkhmbpaa.FloatQ

theorem V_inf2 {T : Nat} (hT : T = 1074) : 9223372036854775808 * 2 ^ T < V 9218868437227405312 := by subst hT; decide +kernel
theorem near_T {T : Nat} (hT : T = 1074) (s : Bool) (n : Nat) (hn : 0 < n) : neg (D.nearest s n 0) = s ∧ rung (D.nearest s n 0) = min (R T (n * 2 ^ T)) 9218868437227405312 := by
  have h := near_parts s n T T hn (by omega)
  rw [show ((T : Int) - (T : Int)) = 0 from by omega] at h
  exact h
/-- a whole number of 63 bits as a float -/
theorem int_fin {T : Nat} (hT : T = 1074) (n : Nat) (hn : 0 < n) (h : n ≤ 9223372036854775808) : rung (D.nearest false n 0) = R T (n * 2 ^ T) ∧ R T (n * 2 ^ T) < 9218868437227405312 := by
  have hp := near_T hT false n hn
  have hm := R_mono T (Nat.mul_pos hn (pow_pos2 T)) (Nat.mul_le_mul_right (2 ^ T) h)
  have hx := V_R_exact T 1 (63 + T) (by omega) (by omega) (by omega)
  rw [show T - 1074 = 0 from by omega, Nat.pow_zero, Nat.mul_one, Nat.one_mul, Nat.pow_add, show (2 : Nat) ^ 63 = 9223372036854775808 from by decide] at hx
  have hlt : R T (n * 2 ^ T) < 9218868437227405312 := by
    rw [← V_lt_iff]
    have h1 := V_le hm
    have h2 := V_inf2 hT
    omega
  exact ⟨by rw [hp.2]; omega, hlt⟩
theorem int_mono {T : Nat} (hT : T = 1074) (a b : Nat) (hb : 0 < b) (h : a ≤ b) (h9 : b ≤ 9223372036854775808) : V (rung (D.nearest false a 0)) ≤ V (rung (D.nearest false b 0)) := by
  by_cases h0 : a = 0
  · subst h0
    rw [(near_zero false 0).2, V_zero]; exact Nat.zero_le _
  · rw [(int_fin hT a (by omega) (by omega)).1, (int_fin hT b hb h9).1]
    exact V_le (R_mono T (Nat.mul_pos (by omega) (pow_pos2 T)) (Nat.mul_le_mul_right _ h))
theorem int_pos {T : Nat} (hT : T = 1074) (n : Nat) (hn : 0 < n) (h : n ≤ 9223372036854775808) : 0 < V (rung (D.nearest false n 0)) := by
  have h1 := int_mono hT 1 n hn hn h
  have h2 := (V_int hT false 1 (by omega)).1
  rw [Nat.one_mul] at h2
  have := pow_pos2 T
  omega

/-- the quotient's digits: no more than one -/
theorem quo_le (m n i j more : Nat) (hm : 0 < m) (hn : 0 < n) (hle : m * 2 ^ i ≤ n * 2 ^ j) (hbig : n < m * 2 ^ more) :
    (2 * (m * 2 ^ more / n) + (m * 2 ^ more % n != 0).toNat) * 2 ^ i ≤ 2 ^ (j + more + 1) := by
  have hdiv := Nat.div_add_mod (m * 2 ^ more) n
  have h1 : m * 2 ^ more * 2 ^ i ≤ n * 2 ^ (j + more) := by
    have := Nat.mul_le_mul_right (2 ^ more) hle
    rw [Nat.pow_add, ← Nat.mul_assoc, Nat.mul_right_comm]
    exact this
  generalize m * 2 ^ more = dv at *
  rcases Nat.lt_or_ge (j + more) i with h | h
  · exfalso
    obtain ⟨d, hd⟩ : ∃ d, i = (j + more) + d + 1 := ⟨i - (j + more) - 1, by omega⟩
    rw [hd, show j + more + d + 1 = (d + 1) + (j + more) from by omega, Nat.pow_add, ← Nat.mul_assoc] at h1
    have h2 := Nat.le_of_mul_le_mul_right h1 (pow_pos2 (j + more))
    rw [Nat.pow_succ] at h2
    have h3 : dv * 1 ≤ dv * (2 ^ d * 2) := Nat.mul_le_mul_left _ (by have := pow_pos2 d; omega)
    omega
  · obtain ⟨d, hd⟩ : ∃ d, j + more = d + i := ⟨j + more - i, by omega⟩
    rw [hd, Nat.pow_add, ← Nat.mul_assoc] at h1
    have h2 := Nat.le_of_mul_le_mul_right h1 (pow_pos2 i)
    rw [hd, show d + i + 1 = (d + 1) + i from by omega, Nat.pow_add]
    apply Nat.mul_le_mul_right
    rw [Nat.pow_succ]
    generalize 2 ^ d = P at *
    have ht : dv / n ≤ P := Nat.div_le_of_le_mul h2
    by_cases hr : dv % n = 0
    · have : (dv % n != 0) = false := by rw [hr]; rfl
      rw [this]; simp; omega
    · have hlt : dv / n < P := by
        rcases Nat.lt_or_eq_of_le ht with h4 | h4
        · exact h4
        · exfalso; rw [h4] at hdiv; omega
      have := Bool.toNat_le (dv % n != 0)
      omega

theorem rate_T {T : Nat} (hT : T = 1074) (h a : Nat) (ha : 0 < a) (hle : h ≤ a) (h9 : a ≤ 9223372036854775808) :
    ∃ f, floatBits .quo .f64 (D.nearest false h 0) (D.nearest false a 0) = some f ∧ geB f 0 = true ∧ leB f one = true := by
  obtain ⟨a1, a2⟩ := int_fin hT a ha h9
  have a3 := (near_T hT false a ha).1
  have hfin : rung (D.nearest false h 0) < 9218868437227405312 ∧ neg (D.nearest false h 0) = false := by
    by_cases h0 : h = 0
    · subst h0; rw [(near_zero false 0).1, (near_zero false 0).2]; exact ⟨by omega, rfl⟩
    · rw [(int_fin hT h (by omega) (by omega)).1]; exact ⟨(int_fin hT h (by omega) (by omega)).2, (near_T hT false h (by omega)).1⟩
  have hmono := int_mono hT h a ha hle h9
  have hpos := int_pos hT a ha h9
  have a2' : rung (D.nearest false a 0) < 9218868437227405312 := by rw [a1]; exact a2
  generalize D.nearest false h 0 = x at *
  generalize D.nearest false a 0 = y at *
  clear a1 a2 ha hle h9
  obtain ⟨m, i, e1, e2⟩ := read_fin x hfin.1
  obtain ⟨n, j, e3, e4⟩ := read_fin y a2'
  have hn : 0 < n := by
    rcases Nat.eq_zero_or_pos n with h | h
    · rw [h, Nat.zero_mul] at e4; omega
    · exact h
  obtain ⟨more, hmore⟩ : ∃ more, more = 54 + n.log2 - m.log2 := ⟨_, rfl⟩
  have hq : floatBits .quo .f64 x y = some (D.nearest false (2 * (m * 2 ^ more / n) + (m * 2 ^ more % n != 0).toNat) ((-1074 + (i : Int)) - (-1074 + (j : Int)) - (more : Int) - 1)) := by
    show D.div x y = _
    unfold Format.div
    rw [e1, e3, hfin.2, a3]
    show Option.map D.write (if n = 0 then _ else _) = _
    rw [if_neg (by omega)]
    show some (D.nearest (false ^^ false) (2 * (m <<< (D.fractionBits + 2 + n.log2 - m.log2) / n) + (m <<< (D.fractionBits + 2 + n.log2 - m.log2) % n != 0).toNat) ((-1074 + (i : Int)) - (-1074 + (j : Int)) - ((D.fractionBits + 2 + n.log2 - m.log2 : Nat) : Int) - 1)) = _
    rw [show D.fractionBits + 2 + n.log2 - m.log2 = more from hmore.symm, Nat.shiftLeft_eq]
    rfl
  refine ⟨_, hq, ?_⟩
  rw [show (-1074 + (i : Int)) - (-1074 + (j : Int)) - (more : Int) - 1 = ((i + T : Nat) : Int) - ((j + more + 1 + T : Nat) : Int) from by omega]
  by_cases hm : m = 0
  · subst hm
    have hz : 2 * (0 * 2 ^ more / n) + (0 * 2 ^ more % n != 0).toNat = 0 := by simp
    rw [hz]
    obtain ⟨z1, z2⟩ := near_zero false (((i + T : Nat) : Int) - ((j + more + 1 + T : Nat) : Int))
    generalize D.nearest false 0 (((i + T : Nat) : Int) - ((j + more + 1 + T : Nat) : Int)) = f at *
    constructor
    · rw [ge_eq f 0 (by omega) (by rw [zero_read.2]; omega), S_pos f z1, z2]; exact decide_eq_true (by show (0 : Int) ≤ _; omega)
    · rw [le_eq f one (by omega) (by have := one_pos.2; omega), S_pos f z1, z2, S_pos one one_pos.1]; exact decide_eq_true (by rw [V_zero]; omega)
  · have hbig : n < m * 2 ^ more := by
      have l1 := Nat.lt_log2_self (n := n)
      have l2 := log2_mul m more (by omega)
      have l3 : n.log2 + 1 ≤ (m * 2 ^ more).log2 := by rw [l2]; omega
      have l4 := (Nat.le_log2 (n := m * 2 ^ more) (by have := Nat.mul_pos (show 0 < m by omega) (pow_pos2 more); omega)).1 l3
      omega
    have hle2 : m * 2 ^ i ≤ n * 2 ^ j := by rw [e2, e4]; exact hmono
    have hq2 := quo_le m n i j more (by omega) hn hle2 hbig
    have hmag : 0 < 2 * (m * 2 ^ more / n) + (m * 2 ^ more % n != 0).toNat := by
      have : 1 ≤ m * 2 ^ more / n := (Nat.one_le_div_iff hn).2 (by omega)
      omega
    generalize 2 * (m * 2 ^ more / n) + (m * 2 ^ more % n != 0).toNat = mag at *
    obtain ⟨z1, z2⟩ := near_parts false mag (i + T) (j + more + 1 + T) hmag (by omega)
    generalize D.nearest false mag (((i + T : Nat) : Int) - ((j + more + 1 + T : Nat) : Int)) = f at *
    have hw : mag * 2 ^ (i + T) ≤ 1 * 2 ^ (j + more + 1 + T) := by
      rw [Nat.one_mul, Nat.pow_add 2 i T, Nat.pow_add 2 (j + more + 1) T, ← Nat.mul_assoc]
      exact Nat.mul_le_mul_right _ hq2
    have hR := R_mono (j + more + 1 + T) (Nat.mul_pos hmag (pow_pos2 (i + T))) hw
    have hx := V_R_exact (j + more + 1 + T) 1 (j + more + 1 + T) (by omega) (by omega) (by omega)
    rw [show j + more + 1 + T - 1074 = j + more + 1 from by omega, Nat.one_mul, Nat.pow_add 2 (j + more + 1) T, Nat.mul_comm (2 ^ (j + more + 1)) (2 ^ T)] at hx
    have hx' := Nat.eq_of_mul_eq_mul_right (pow_pos2 (j + more + 1)) hx
    rw [Nat.mul_comm (2 ^ T) (2 ^ (j + more + 1)), ← Nat.pow_add, ← Nat.one_mul (2 ^ (j + more + 1 + T))] at hx'
    have hV : V (R (j + more + 1 + T) (mag * 2 ^ (i + T))) ≤ 2 ^ T := by rw [← hx']; exact V_le hR
    have hlt : R (j + more + 1 + T) (mag * 2 ^ (i + T)) < 9218868437227405312 := by
      rw [← V_lt_iff]; have := V_inf2 hT; have := pow_pos2 T; omega
    rw [Nat.min_eq_left (by omega)] at z2
    have hfV : V (rung f) ≤ 2 ^ T := by rw [z2]; exact hV
    constructor
    · rw [ge_eq f 0 (by omega) (by rw [zero_read.2]; omega), S_pos f z1]; exact decide_eq_true (by show (0 : Int) ≤ _; omega)
    · rw [le_eq f one (by omega) (by have := one_pos.2; omega), S_pos f z1, S_pos one one_pos.1, V_one hT]; exact decide_eq_true (by omega)

/-- A RATE: of what was asked for, and was there at most as often, it is from 0 to 1. -/
theorem rate_facts (h a : Int) (h0 : 0 ≤ h) (ha : 1 ≤ a) (hle : h ≤ a) (h9 : a ≤ 9223372036854775807) :
    ∃ f, floatBits .quo .f64 (floatOfInt .f64 h) (floatOfInt .f64 a) = some f ∧ geB f 0 = true ∧ leB f one = true := by
  have e1 : floatOfInt .f64 h = D.nearest false h.toNat 0 := by
    show D.nearest (decide (h < 0)) h.natAbs 0 = _
    rw [decide_eq_false (by omega), show h.natAbs = h.toNat from by omega]
  have e2 : floatOfInt .f64 a = D.nearest false a.toNat 0 := by
    show D.nearest (decide (a < 0)) a.natAbs 0 = _
    rw [decide_eq_false (by omega), show a.natAbs = a.toNat from by omega]
  rw [e1, e2]
  exact rate_T (T := 1074) rfl h.toNat a.toNat (by omega) (by omega) (by omega)

end Go.Proofs.Ytbhmgbcfkhmbpaa.FloatRt
