/-
  Plain laws of floats of 64 bits: rounding to the nearest, as a function of whole numbers: it rises, and leaves what fits as it is.
-/
import Derived.Test.YtbhmgbcfkhmbpaaFloatP
namespace Go.Proofs.Ytbhmgbcfkhmbpaa.FloatR
set_option linter.unusedVariables false
set_option linter.unusedSimpArgs false
open Go Ieee Go.Proofs.Ytbhmgbcfkhmbpaa.FloatP

/-- n / 2^d to the nearest, between two the even one -/
def up (n d : Nat) : Bool := decide (2 ^ d < 2 * (n % 2 ^ d)) || (decide (2 ^ d = 2 * (n % 2 ^ d)) && decide (n / 2 ^ d % 2 = 1))
def cutE (n d : Nat) : Nat := n / 2 ^ d + (up n d).toNat

theorem cut_eq (neg : Bool) (n d : Nat) (hn : 0 < n) : Toward.even.cut neg n d = cutE n d := by
  have hl := Nat.lt_log2_self (n := n)
  unfold Toward.cut
  simp only [Nat.one_shiftLeft]
  by_cases h : d ≤ n.log2 + 2
  · rw [Nat.min_eq_left h]
    unfold cutE up
    congr 2
  · rw [Nat.min_eq_right (by omega)]
    have h1 : n < 2 ^ (n.log2 + 2) := Nat.lt_of_lt_of_le hl (Nat.pow_le_pow_right (by decide) (by omega))
    have h2 : 2 * n < 2 ^ (n.log2 + 2) := by
      have : 2 ^ (n.log2 + 2) = 2 * 2 ^ (n.log2 + 1) := by rw [Nat.pow_succ 2 (n.log2 + 1)]; omega
      omega
    have h3 : 2 ^ (n.log2 + 2) ≤ 2 ^ d := Nat.pow_le_pow_right (by decide) (by omega)
    have e1 : n / 2 ^ (n.log2 + 2) = 0 := Nat.div_eq_of_lt h1
    have e2 : n % 2 ^ (n.log2 + 2) = n := Nat.mod_eq_of_lt h1
    have e3 : n / 2 ^ d = 0 := Nat.div_eq_of_lt (by omega)
    have e4 : n % 2 ^ d = n := Nat.mod_eq_of_lt (by omega)
    unfold cutE up
    rw [e1, e2, e3, e4]
    have f1 : decide (2 ^ (n.log2 + 2) < 2 * n) = false := decide_eq_false (by omega)
    have f2 : decide (2 ^ d < 2 * n) = false := decide_eq_false (by omega)
    simp [f1, f2]

theorem cutE_scale (n d k : Nat) : cutE (n * 2 ^ k) (d + k) = cutE n d := by
  have hk := Nat.two_pow_pos k
  have e1 : n * 2 ^ k / 2 ^ (d + k) = n / 2 ^ d := by rw [Nat.pow_add]; exact Nat.mul_div_mul_right _ _ hk
  have e2 : n * 2 ^ k % 2 ^ (d + k) = n % 2 ^ d * 2 ^ k := by rw [Nat.pow_add]; exact Nat.mul_mod_mul_right _ _ _
  unfold cutE up
  rw [e1, e2, Nat.pow_add]
  have g1 : (2 ^ d * 2 ^ k < 2 * (n % 2 ^ d * 2 ^ k)) ↔ (2 ^ d < 2 * (n % 2 ^ d)) := by
    rw [← Nat.mul_assoc]; exact Nat.mul_lt_mul_right hk
  have g2 : (2 ^ d * 2 ^ k = 2 * (n % 2 ^ d * 2 ^ k)) ↔ (2 ^ d = 2 * (n % 2 ^ d)) := by
    rw [← Nat.mul_assoc]; exact Nat.mul_left_inj (by omega)
  simp only [g1, g2]
theorem cutE_zero (n : Nat) : cutE n 0 = n := by
  unfold cutE up
  simp [Nat.mod_one]
theorem cutE_exact (n q : Nat) : cutE (n * 2 ^ q) q = n := by
  have := cutE_scale n 0 q
  rw [Nat.zero_add, cutE_zero] at this
  exact this
theorem cutE_mono {n m : Nat} (d : Nat) (h : n ≤ m) : cutE n d ≤ cutE m d := by
  have hd := Nat.two_pow_pos d
  have h1 : n / 2 ^ d ≤ m / 2 ^ d := Nat.div_le_div_right h
  unfold cutE
  rcases Nat.lt_or_eq_of_le h1 with h2 | h2
  · have := Bool.toNat_le (up n d)
    omega
  · rw [h2]
    have hn := Nat.div_add_mod n (2 ^ d)
    have hm := Nat.div_add_mod m (2 ^ d)
    rw [h2] at hn
    have hr : n % 2 ^ d ≤ m % 2 ^ d := by omega
    have : up n d = true → up m d = true := by
      unfold up
      simp only [Bool.or_eq_true, Bool.and_eq_true, decide_eq_true_eq]
      rw [h2]
      rintro (h | ⟨h, h'⟩)
      · left; omega
      · rcases Nat.lt_or_eq_of_le hr with h3 | h3
        · left; omega
        · right; exact ⟨by omega, h'⟩
    cases hu : up n d
    · simp
    · rw [this hu]; exact Nat.le_refl _
theorem cutE_le {n d b : Nat} (h : n ≤ b * 2 ^ d) : cutE n d ≤ b := by
  have := cutE_mono d h
  rw [cutE_exact] at this
  exact this
theorem cutE_ge {n d b : Nat} (h : b * 2 ^ d ≤ n) : b ≤ cutE n d := by
  have := cutE_mono d h
  rw [cutE_exact] at this
  exact this

/-- the rung nearest to w units of 2^-K -/
def q (K w : Nat) : Nat := max (w.log2 - 52) (K - 1074)
def R (K w : Nat) : Nat := (q K w - (K - 1074)) * 4503599627370496 + cutE w (q K w)

theorem kept_bd (K w : Nat) (hw : 0 < w) : cutE w (q K w) ≤ 9007199254740992 ∧ (K - 1074 < q K w → 4503599627370496 ≤ cutE w (q K w)) := by
  have hl := Nat.lt_log2_self (n := w)
  have hle := Nat.log2_self_le (n := w) (by omega)
  constructor
  · apply cutE_le
    have h1 : w.log2 + 1 ≤ 53 + q K w := by unfold q; omega
    have h2 : 2 ^ (w.log2 + 1) ≤ 2 ^ (53 + q K w) := Nat.pow_le_pow_right (by decide) h1
    rw [Nat.pow_add 2 53 (q K w)] at h2
    have : (2 : Nat) ^ 53 = 9007199254740992 := by decide +kernel
    rw [this] at h2
    omega
  · intro h
    apply cutE_ge
    have h1 : q K w + 52 = w.log2 := by unfold q at h ⊢; omega
    rw [← h1, Nat.pow_add] at hle
    have : (2 : Nat) ^ 52 = 4503599627370496 := by decide +kernel
    rw [this, Nat.mul_comm] at hle
    exact hle

theorem log2_mono {a b : Nat} (ha : 0 < a) (h : a ≤ b) : a.log2 ≤ b.log2 := by
  have h1 := Nat.log2_self_le (n := a) (by omega)
  exact (Nat.le_log2 (by omega)).2 (Nat.le_trans h1 h)

theorem R_mono (K : Nat) {a b : Nat} (ha : 0 < a) (h : a ≤ b) : R K a ≤ R K b := by
  have hq : q K a ≤ q K b := by have := log2_mono ha h; unfold q; omega
  have ka := kept_bd K a ha
  have kb := kept_bd K b (by omega)
  have q0 : K - 1074 ≤ q K a := by unfold q; omega
  unfold R
  rcases Nat.lt_or_eq_of_le hq with h1 | h1
  · have := kb.2 (by omega)
    have h2 : (q K a - (K - 1074) + 1) * 4503599627370496 ≤ (q K b - (K - 1074)) * 4503599627370496 := Nat.mul_le_mul_right _ (by omega)
    omega
  · rw [h1]
    have := cutE_mono (q K b) h
    omega

/-- what the rung stands for -/
theorem V_R (K w : Nat) (hw : 0 < w) : V (R K w) * 2 ^ (K - 1074) = cutE w (q K w) * 2 ^ q K w := by
  have k := kept_bd K w hw
  have q0 : K - 1074 ≤ q K w := by unfold q; omega
  unfold R
  obtain ⟨e, he⟩ : ∃ e, q K w = (K - 1074) + e := ⟨q K w - (K - 1074), by omega⟩
  rw [he] at k ⊢
  rw [show K - 1074 + e - (K - 1074) = e from by omega, Nat.pow_add, Nat.mul_comm (2 ^ (K - 1074)), ← Nat.mul_assoc]
  congr 1
  generalize cutE w (K - 1074 + e) = c at *
  by_cases h0 : e = 0
  · subst h0
    rw [Nat.zero_mul, Nat.zero_add, Nat.pow_zero, Nat.mul_one]
    unfold V
    by_cases h : c < 4503599627370496
    · rw [if_pos h]
    · rw [if_neg h]
      by_cases h2 : c = 9007199254740992
      · rw [h2]
      · rw [show c / 4503599627370496 = 1 from by omega]
        simp only [Nat.sub_self, Nat.pow_zero, Nat.mul_one]; omega
  · have hc := k.2 (by omega)
    unfold V
    rw [if_neg (by have : 4503599627370496 ≤ e * 4503599627370496 := Nat.le_mul_of_pos_left _ (by omega); omega)]
    by_cases h2 : c = 9007199254740992
    · rw [show (e * 4503599627370496 + c) % 4503599627370496 = 0 from by omega, show (e * 4503599627370496 + c) / 4503599627370496 - 1 = e + 1 from by omega, h2, Nat.pow_succ]
      omega
    · rw [show (e * 4503599627370496 + c) % 4503599627370496 = c - 4503599627370496 from by omega, show (e * 4503599627370496 + c) / 4503599627370496 - 1 = e from by omega, show 4503599627370496 + (c - 4503599627370496) = c from by omega]

/-- What has no more digits than fit is left as it is. -/
theorem V_R_exact (K n e : Nat) (hn : 0 < n) (h : n < 9007199254740992) (hK : K - 1074 ≤ e) : V (R K (n * 2 ^ e)) * 2 ^ (K - 1074) = n * 2 ^ e := by
  have hw : 0 < n * 2 ^ e := Nat.mul_pos hn (Nat.two_pow_pos _)
  rw [V_R K _ hw]
  have hq : q K (n * 2 ^ e) ≤ e := by
    unfold q
    have h1 : (n * 2 ^ e).log2 < 53 + e := by
      rw [Nat.log2_lt (by omega), Nat.pow_add]
      have : (2 : Nat) ^ 53 = 9007199254740992 := by decide +kernel
      rw [this]
      exact Nat.mul_lt_mul_of_pos_right h (Nat.two_pow_pos _)
    omega
  obtain ⟨d, hd⟩ : ∃ d, e = d + q K (n * 2 ^ e) := ⟨e - q K (n * 2 ^ e), by omega⟩
  generalize q K (n * 2 ^ e) = Q at *
  subst hd
  rw [Nat.pow_add, ← Nat.mul_assoc, cutE_exact]

theorem log2_mul (n p : Nat) (hn : 0 < n) : (n * 2 ^ p).log2 = n.log2 + p := by
  have h0 : 0 < n * 2 ^ p := Nat.mul_pos hn (Nat.two_pow_pos _)
  have h1 := Nat.lt_log2_self (n := n)
  have h2 := Nat.log2_self_le (n := n) (by omega)
  apply Nat.le_antisymm
  · have : (n * 2 ^ p).log2 < n.log2 + p + 1 := by
      rw [Nat.log2_lt (by omega), show n.log2 + p + 1 = n.log2 + 1 + p from by omega, Nat.pow_add]
      exact Nat.mul_lt_mul_of_pos_right h1 (Nat.two_pow_pos _)
    omega
  · rw [Nat.le_log2 (by omega), Nat.pow_add]
    exact Nat.mul_le_mul_right _ h2

/-- THE ROUNDING of mag * 2^(p - K). -/
theorem nearest_eq (neg : Bool) (mag p K : Nat) (hm : 0 < mag) (hK : 1074 ≤ K) : D.nearest neg mag ((p : Int) - K) = D.word neg (min (R K (mag * 2 ^ p)) 9218868437227405312) := by
  unfold Format.nearest
  rw [if_neg (by omega)]
  simp only [D_least, D_binade, D_inf, show D.fractionBits = 52 from rfl]
  refine congrArg (fun x => D.word neg (min x 9218868437227405312)) ?_
  have hlog := log2_mul mag p hm
  obtain ⟨Q, hQ⟩ : ∃ Q, Q = q K (mag * 2 ^ p) := ⟨_, rfl⟩
  have hQ1 : Q = max (mag.log2 + p - 52) (K - 1074) := by rw [hQ]; unfold q; rw [hlog]
  have hlast : max (((p : Int) - K) + (mag.log2 : Int) - ((52 : Nat) : Int)) (-1074) = (Q : Int) - K := by omega
  rw [hlast]
  unfold R
  rw [← hQ]
  have e1 : ((Q : Int) - K - (-1074)).toNat = Q - (K - 1074) := by omega
  rw [e1]
  congr 1
  have hpos : 0 < mag <<< (((p : Int) - K) - ((Q : Int) - K)).toNat := by rw [Nat.shiftLeft_eq]; exact Nat.mul_pos hm (Nat.two_pow_pos _)
  rw [cut_eq _ _ _ hpos, Nat.shiftLeft_eq]
  rcases Nat.lt_or_ge p Q with h | h
  · rw [show (((p : Int) - K) - ((Q : Int) - K)).toNat = 0 from by omega, show (((Q : Int) - K) - ((p : Int) - K)).toNat = Q - p from by omega, Nat.pow_zero, Nat.mul_one]
    have := cutE_scale mag (Q - p) p
    rw [show Q - p + p = Q from by omega] at this
    exact this.symm
  · rw [show (((p : Int) - K) - ((Q : Int) - K)).toNat = p - Q from by omega, show (((Q : Int) - K) - ((p : Int) - K)).toNat = 0 from by omega, cutE_zero]
    have := cutE_exact (mag * 2 ^ (p - Q)) Q
    rw [Nat.mul_assoc, ← Nat.pow_add, show p - Q + Q = p from by omega] at this
    exact this.symm

end Go.Proofs.Ytbhmgbcfkhmbpaa.FloatR
