/-
  Plain laws of layer 2 (stat): thousandths, and rates.
-/
import Derived.Test.YtbhmgbcfkhmbpaaStatP
import Derived.Test.YtbhmgbcfkhmbpaaFloatR
namespace Go.Proofs.Ytbhmgbcfkhmbpaa.FloatQ
set_option linter.unusedVariables false
set_option linter.unusedSimpArgs false
open Go Ieee Go.RowKit Go.Proofs.Ytbhmgbcfkhmbpaa.StatW Go.Proofs.Ytbhmgbcfkhmbpaa.FloatP Go.Proofs.Ytbhmgbcfkhmbpaa.FloatR Go.Proofs.Ytbhmgbcfkhmbpaa.StatP

def one : Nat := 4607182418800017408
def thousand : Nat := 4652007308841189376
theorem V_one {T : Nat} (hT : T = 1074) : V (rung one) = 2 ^ T := by subst hT; decide +kernel
theorem V_thousand {T : Nat} (hT : T = 1074) : V (rung thousand) = 1000 * 2 ^ T := by subst hT; decide +kernel
theorem V_inf {T : Nat} (hT : T = 1074) : 9007199254740992 * 2 ^ T ≤ V 9218868437227405312 := by subst hT; decide +kernel
theorem one_pos : neg one = false ∧ rung one < 9218868437227405312 := by decide +kernel
theorem thousand_pos : neg thousand = false ∧ rung thousand < 9218868437227405312 := by decide +kernel

theorem le_eq (a b : Nat) (ha : rung a ≤ 9218868437227405312) (hb : rung b ≤ 9218868437227405312) : leB a b = decide (S a ≤ S b) := by
  unfold leB ord
  rw [order_eq a b ha hb]
  simp only [compare, compareOfLessAndEq]
  by_cases h : S a < S b
  · rw [if_pos h, decide_eq_true (by omega)]; rfl
  · rw [if_neg h]
    by_cases g : S a = S b
    · rw [if_pos g, decide_eq_true (by omega)]; rfl
    · rw [if_neg g, decide_eq_false (by omega)]; rfl
theorem ge_eq (a b : Nat) (ha : rung a ≤ 9218868437227405312) (hb : rung b ≤ 9218868437227405312) : geB a b = decide (S b ≤ S a) := by
  unfold geB ord
  rw [order_eq a b ha hb]
  simp only [compare, compareOfLessAndEq]
  by_cases h : S a < S b
  · rw [if_pos h, decide_eq_false (by omega)]; rfl
  · rw [if_neg h]
    by_cases g : S a = S b
    · rw [if_pos g, decide_eq_true (by omega)]; rfl
    · rw [if_neg g, decide_eq_true (by omega)]; rfl
theorem ge_nan (a b : Nat) (h : 9218868437227405312 < rung a ∨ 9218868437227405312 < rung b) : geB a b = false := by
  unfold geB ord; rw [order_nan a b h]; rfl
theorem le_nan (a b : Nat) (h : 9218868437227405312 < rung a ∨ 9218868437227405312 < rung b) : leB a b = false := by
  unfold leB ord; rw [order_nan a b h]; rfl

/-! ### words -/
theorem word_parts (s : Bool) (r : Nat) (h : r < 9223372036854775808) : neg (D.word s r) = s ∧ rung (D.word s r) = r ∧ D.word s r < 18446744073709551616 := by
  unfold Format.word neg rung
  rw [D_sign]
  cases s
  · simp only [Bool.false_eq_true, if_false]
    refine ⟨?_, ?_, ?_⟩
    · rw [show r / 9223372036854775808 = 0 from by omega]; rfl
    · omega
    · omega
  · simp only [if_true]
    refine ⟨?_, ?_, ?_⟩
    · rw [show (9223372036854775808 + r) / 9223372036854775808 = 1 from by omega]; rfl
    · omega
    · omega
theorem near_parts (s : Bool) (mag p K : Nat) (hm : 0 < mag) (hK : 1074 ≤ K) : neg (D.nearest s mag ((p : Int) - K)) = s ∧ rung (D.nearest s mag ((p : Int) - K)) = min (R K (mag * 2 ^ p)) 9218868437227405312 := by
  rw [nearest_eq s mag p K hm hK]
  have := word_parts s (min (R K (mag * 2 ^ p)) 9218868437227405312) (by omega)
  exact ⟨this.1, this.2.1⟩
theorem near_zero (s : Bool) (e : Int) : neg (D.nearest s 0 e) = s ∧ rung (D.nearest s 0 e) = 0 := by
  unfold Format.nearest
  rw [if_pos rfl]
  have := word_parts s 0 (by omega)
  exact ⟨this.1, this.2.1⟩

theorem pow_pos2 (k : Nat) : 0 < 2 ^ k := Nat.two_pow_pos k

/-- A whole number as a float: exact below 2^53. -/
theorem V_int {T : Nat} (hT : T = 1074) (s : Bool) (n : Nat) (h : n < 9007199254740992) : V (rung (D.nearest s n 0)) = n * 2 ^ T ∧ rung (D.nearest s n 0) < 9218868437227405312 ∧ neg (D.nearest s n 0) = s := by
  have hI : n * 2 ^ T < V 9218868437227405312 := by
    have h1 : n * 2 ^ T < 9007199254740992 * 2 ^ T := Nat.mul_lt_mul_of_pos_right h (pow_pos2 _)
    have h2 := V_inf hT
    omega
  by_cases h0 : n = 0
  · subst h0
    have := near_zero s 0
    rw [this.1, this.2, V_zero]; exact ⟨by simp, by omega, rfl⟩
  · have g74 := hT
    have hp := near_parts s n T T (by omega) (by omega)
    rw [show ((T : Int) - (T : Int)) = 0 from by omega] at hp
    have he := V_R_exact T n T (by omega) h (by omega)
    rw [show T - 1074 = 0 from by omega, Nat.pow_zero, Nat.mul_one] at he
    rw [hp.1, hp.2]
    have hlt : R T (n * 2 ^ T) < 9218868437227405312 := by rw [← V_lt_iff, he]; exact hI
    rw [Nat.min_eq_left (by omega)]
    exact ⟨he, hlt, rfl⟩

/-- floor, and to a whole number -/
theorem toInt_of {T : Nat} (hT : T = 1074) (a n : Nat) (hn : n ≤ 1000) (hV : V (rung a) = n * 2 ^ T) (hr : rung a < 9218868437227405312) (hs : neg a = true → n = 0) : floatToIntVal .f64 a .i64 = some (n : Int) := by
  have g74 := hT
  obtain ⟨m, e, h1, h2⟩ := read_fin a hr
  unfold floatToIntVal
  rw [show FloatKind.f64.decode a = D.read a from rfl, h1]
  have hint : (Datum.number (neg a) m (-1074 + (e : Int))).toInt .zero = some (n : Int) := by
    show some (signed (neg a) (Toward.zero.cut (neg a) (m <<< (-1074 + (e : Int)).toNat) (-(-1074 + (e : Int))).toNat) 0) = _
    have hcut : Toward.zero.cut (neg a) (m <<< (-1074 + (e : Int)).toNat) (-(-1074 + (e : Int))).toNat = n := by
      unfold Toward.cut
      simp only [Bool.toNat_false, Nat.add_zero, Nat.shiftLeft_eq, Nat.one_mul]
      rw [hV] at h2
      rcases Nat.lt_or_ge e 1074 with he | he
      · rw [show (-1074 + (e : Int)).toNat = 0 from by omega, show (-(-1074 + (e : Int))).toNat = T - e from by omega, Nat.pow_zero, Nat.mul_one]
        have hm : m = n * 2 ^ (T - e) := by
          have : n * 2 ^ T = n * 2 ^ (T - e) * 2 ^ e := by rw [Nat.mul_assoc, ← Nat.pow_add, Nat.sub_add_cancel (by omega)]
          rw [this] at h2
          exact Nat.eq_of_mul_eq_mul_right (pow_pos2 e) h2
        by_cases h0 : n = 0
        · subst h0; rw [hm]; simp
        · have hl : m.log2 = n.log2 + (T - e) := by rw [hm]; exact log2_mul _ _ (by omega)
          rw [Nat.min_eq_left (by omega), hm, Nat.mul_div_cancel _ (pow_pos2 _)]
      · rw [show (-1074 + (e : Int)).toNat = e - T from by omega, show (-(-1074 + (e : Int))).toNat = 0 from by omega]
        simp only [Nat.zero_min, Nat.pow_zero, Nat.div_one]
        have : m * 2 ^ e = m * 2 ^ (e - T) * 2 ^ T := by rw [Nat.mul_assoc, ← Nat.pow_add, Nat.sub_add_cancel (by omega)]
        rw [this] at h2
        exact Nat.eq_of_mul_eq_mul_right (pow_pos2 T) h2
    rw [hcut]
    unfold signed
    cases g : neg a
    · simp
    · have := hs g; subst this; simp
  rw [hint]
  have hb : IntKind.i64.min ≤ (n : Int) ∧ (n : Int) ≤ IntKind.i64.max := by
    have h1 : IntKind.i64.min = -9223372036854775808 := by decide
    have h2 : IntKind.i64.max = 9223372036854775807 := by decide
    rw [h1, h2]; omega
  exact if_pos hb

theorem floor_of {T : Nat} (hT : T = 1074) (a : Nat) (hr : rung a < 9218868437227405312) (hV : V (rung a) ≤ 1000 * 2 ^ T) (hs : neg a = true → V (rung a) = 0) :
    ∃ b, FloatKind.f64.encode ((FloatKind.f64.decode a).integral .down) = b ∧ V (rung b) = V (rung a) / 2 ^ T * 2 ^ T ∧ rung b < 9218868437227405312 ∧ neg b = neg a := by
  have g74 := hT
  obtain ⟨m, e, h1, h2⟩ := read_fin a hr
  refine ⟨_, rfl, ?_⟩
  rw [show FloatKind.f64.decode a = D.read a from rfl, h1]
  show V (rung (D.nearest (neg a) (Toward.down.cut (neg a) (m <<< (-1074 + (e : Int)).toNat) (-(-1074 + (e : Int))).toNat) 0)) = _ ∧ rung (D.nearest (neg a) (Toward.down.cut (neg a) (m <<< (-1074 + (e : Int)).toNat) (-(-1074 + (e : Int))).toNat) 0) < _ ∧ neg (D.nearest (neg a) (Toward.down.cut (neg a) (m <<< (-1074 + (e : Int)).toNat) (-(-1074 + (e : Int))).toNat) 0) = _
  have hcut : Toward.down.cut (neg a) (m <<< (-1074 + (e : Int)).toNat) (-(-1074 + (e : Int))).toNat = V (rung a) / 2 ^ T := by
    unfold Toward.cut
    simp only [Nat.shiftLeft_eq, Nat.one_mul]
    rw [← h2]
    by_cases hz : m = 0
    · subst hz; simp
    · have hn : neg a = false := by
        cases g : neg a
        · rfl
        · have := hs g; rw [← h2] at this
          have h3 := Nat.mul_pos (show 0 < m by omega) (pow_pos2 e)
          omega
      rw [hn]
      simp only [Bool.false_and, Bool.toNat_false, Nat.add_zero]
      rcases Nat.lt_or_ge e 1074 with he | he
      · rw [show (-1074 + (e : Int)).toNat = 0 from by omega, show (-(-1074 + (e : Int))).toNat = T - e from by omega, Nat.pow_zero, Nat.mul_one]
        have e2 : m * 2 ^ e / 2 ^ T = m / 2 ^ (T - e) := by
          rw [show (2 : Nat) ^ T = 2 ^ (T - e) * 2 ^ e from by rw [← Nat.pow_add, Nat.sub_add_cancel (by omega)]]
          exact Nat.mul_div_mul_right _ _ (pow_pos2 e)
        rw [e2]
        by_cases hl : T - e ≤ m.log2 + 2
        · rw [Nat.min_eq_left hl]
        · rw [Nat.min_eq_right (by omega)]
          have h5 : m < 2 ^ (m.log2 + 2) := Nat.lt_of_lt_of_le (Nat.lt_log2_self (n := m)) (Nat.pow_le_pow_right (by decide) (by omega))
          have h6 : 2 ^ (m.log2 + 2) ≤ 2 ^ (T - e) := Nat.pow_le_pow_right (by decide) (by omega)
          rw [Nat.div_eq_of_lt h5, Nat.div_eq_of_lt (by omega)]
      · rw [show (-1074 + (e : Int)).toNat = e - T from by omega, show (-(-1074 + (e : Int))).toNat = 0 from by omega]
        simp only [Nat.zero_min, Nat.pow_zero, Nat.div_one]
        rw [show m * 2 ^ e = m * 2 ^ (e - T) * 2 ^ T from by rw [Nat.mul_assoc, ← Nat.pow_add, Nat.sub_add_cancel (by omega)], Nat.mul_div_cancel _ (pow_pos2 T)]
  rw [hcut]
  have hle : V (rung a) / 2 ^ T ≤ 1000 := Nat.div_le_of_le_mul (by rw [Nat.mul_comm]; exact hV)
  exact V_int hT (neg a) _ (by omega)


theorem exact_gen (K n T : Nat) (hn : 0 < n) (h : n < 9007199254740992) (hK : K - 1074 = T) : V (R K (n * 2 ^ (T + T))) = n * 2 ^ T := by
  have h := V_R_exact K n (T + T) hn h (by omega)
  rw [hK] at h
  have e : n * 2 ^ (T + T) = n * 2 ^ T * 2 ^ T := by rw [Nat.pow_add, Nat.mul_assoc]
  rw [e] at h ⊢
  exact Nat.eq_of_mul_eq_mul_right (pow_pos2 T) h

/-! ### thousandths -/
theorem S_le_one {T : Nat} (hT : T = 1074) (f : Nat) (h1 : geB f 0 = true) (h2 : leB f one = true) : rung f < 9218868437227405312 ∧ (neg f = true → V (rung f) = 0) ∧ V (rung f) ≤ 2 ^ T := by
  have hn : rung f ≤ 9218868437227405312 := by
    rcases Nat.lt_or_ge 9218868437227405312 (rung f) with h | h
    · rw [ge_nan f 0 (.inl h)] at h1; cases h1
    · exact h
  rw [ge_eq f 0 hn (by rw [zero_read.2]; omega), show S 0 = 0 from rfl] at h1
  rw [le_eq f one hn (by have := one_pos.2; omega), S_pos one one_pos.1, V_one hT] at h2
  have h1' := of_decide_eq_true h1
  have h2' := of_decide_eq_true h2
  have h2'' : S f ≤ ((2 ^ T : Nat) : Int) := h2'
  cases g : neg f
  · rw [S_pos f g] at h1' h2''
    have hv : V (rung f) ≤ 2 ^ T := by omega
    refine ⟨?_, (fun h => by cases h), hv⟩
    rw [← V_lt_iff]
    have := V_inf hT
    have := pow_pos2 T
    omega
  · rw [S_neg f g] at h1'
    have hv : V (rung f) = 0 := by omega
    refine ⟨?_, fun _ => hv, by rw [hv]; exact Nat.zero_le _⟩
    rw [(V_eq_zero _).1 hv]; omega

theorem mul_thousand {T : Nat} (hT : T = 1074) (f : Nat) (h1 : geB f 0 = true) (h2 : leB f one = true) :
    ∃ x, floatBits .mul .f64 f thousand = some x ∧ rung x < 9218868437227405312 ∧ neg x = neg f ∧ V (rung x) ≤ 1000 * 2 ^ T ∧ (neg x = true → V (rung x) = 0) := by
  obtain ⟨hr, hs, hv⟩ := S_le_one hT f h1 h2
  obtain ⟨m, i, e1, e2⟩ := read_fin f hr
  obtain ⟨mk, ik, e3, e4⟩ := read_fin thousand thousand_pos.2
  rw [V_thousand hT] at e4
  have e4' : mk * 2 ^ ik = 1000 * 2 ^ T := e4
  refine ⟨D.nearest (neg f) (m * mk) ((-1074 + (i : Int)) + (-1074 + (ik : Int))), ?_, ?_⟩
  · show D.mul f thousand = _
    unfold Format.mul
    rw [e1, e3, thousand_pos.1]
    show some (D.nearest (neg f ^^ false) (m * mk) _) = _
    rw [Bool.xor_false]
  · rw [show (-1074 + (i : Int)) + (-1074 + (ik : Int)) = ((i + ik : Nat) : Int) - ((2148 : Nat) : Int) from by omega]
    have g74 := hT
    by_cases hz : m = 0
    · subst hz
      rw [Nat.zero_mul]
      have := near_zero (neg f) (((i + ik : Nat) : Int) - ((2148 : Nat) : Int))
      rw [this.1, this.2, V_zero]
      exact ⟨by omega, rfl, Nat.zero_le _, fun _ => rfl⟩
    · have hn : neg f = false := by
        cases g : neg f
        · rfl
        · have := hs g; rw [← e2] at this
          have h3 := Nat.mul_pos (show 0 < m by omega) (pow_pos2 i)
          omega
      have hmk : 0 < mk := by
        rcases Nat.eq_zero_or_pos mk with h | h
        · rw [h, Nat.zero_mul] at e4'
          have := Nat.mul_pos (show 0 < 1000 by omega) (pow_pos2 T)
          omega
        · exact h
      have hp := near_parts (neg f) (m * mk) (i + ik) 2148 (Nat.mul_pos (by omega) hmk) (by omega)
      rw [hp.1, hp.2]
      have hw : m * mk * 2 ^ (i + ik) = V (rung f) * (1000 * 2 ^ T) := by
        rw [← e2, ← e4', Nat.pow_add, Nat.mul_mul_mul_comm]
      have hwle : m * mk * 2 ^ (i + ik) ≤ 1000 * 2 ^ (T + T) := by
        rw [hw, Nat.pow_add]
        have := Nat.mul_le_mul_right (1000 * 2 ^ T) hv
        rw [show 1000 * (2 ^ T * 2 ^ T) = 2 ^ T * (1000 * 2 ^ T) from by rw [Nat.mul_left_comm]]
        exact this
      have hmono := R_mono 2148 (Nat.mul_pos (Nat.mul_pos (show 0 < m by omega) hmk) (pow_pos2 (i + ik))) hwle
      have hex' := exact_gen 2148 1000 T (by omega) (by omega) (by omega)
      have hVR : V (R 2148 (m * mk * 2 ^ (i + ik))) ≤ 1000 * 2 ^ T := by rw [← hex']; exact V_le hmono
      have hlt : R 2148 (m * mk * 2 ^ (i + ik)) < 9218868437227405312 := by
        rw [← V_lt_iff]
        have := V_inf hT
        have := pow_pos2 T
        omega
      rw [Nat.min_eq_left (by omega)]
      exact ⟨hlt, rfl, hVR, (fun h => by rw [hn] at h; cases h)⟩

/-- THOUSANDTHS: what both come to. -/
theorem perm_facts_T {T : Nat} (hT : T = 1074) (f : Nat) (h1 : geB f 0 = true) (h2 : leB f one = true) :
    ∃ x n : Nat, ∃ d, floatBits .mul .f64 f thousand = some x ∧ FloatKind.f64.decode x = d ∧ d.isNaN = false ∧ n ≤ 1000 ∧ floatToIntVal .f64 (FloatKind.f64.encode (d.integral .down)) .i64 = some (n : Int) ∧
      ∀ k : Nat, k < 1000 → leB (floatOfInt .f64 ((k : Int) + 1)) x = decide (k < n) := by
  obtain ⟨x, e1, e2, e3, e4, e5⟩ := mul_thousand hT f h1 h2
  obtain ⟨b, f1, f2, f3, f4⟩ := floor_of hT x e2 e4 e5
  refine ⟨x, V (rung x) / 2 ^ T, _, e1, rfl, ?_, ?_, ?_, ?_⟩
  · obtain ⟨m, i, r1, r2⟩ := read_fin x e2
    rw [show FloatKind.f64.decode x = D.read x from rfl, r1]; rfl
  · exact Nat.div_le_of_le_mul (by rw [Nat.mul_comm]; exact e4)
  · rw [f1]
    exact toInt_of hT b _ (Nat.div_le_of_le_mul (by rw [Nat.mul_comm]; exact e4)) f2 f3 ((fun h => by rw [f4] at h; rw [e5 h, Nat.zero_div]))
  · intro k hk
    have hk1 : floatOfInt .f64 ((k : Int) + 1) = D.nearest false (k + 1) 0 := by
      show D.nearest (decide ((k : Int) + 1 < 0)) ((k : Int) + 1).natAbs 0 = _
      rw [decide_eq_false (by omega), show ((k : Int) + 1).natAbs = k + 1 from by omega]
    obtain ⟨v1, v2, v3⟩ := V_int hT false (k + 1) (by omega)
    rw [hk1, le_eq _ x (by omega) (by omega), S_pos _ v3, v1]
    have hdiv : k < V (rung x) / 2 ^ T ↔ (k + 1) * 2 ^ T ≤ V (rung x) := by
      rw [← Nat.le_div_iff_mul_le (pow_pos2 T)]; exact Iff.rfl
    apply decide_eq_decide.2
    rw [hdiv]
    cases g : neg x
    · rw [S_pos x g]
      exact Int.ofNat_le
    · have hz := e5 g
      rw [S_neg x g, hz]
      constructor
      · intro h
        have : ((((k + 1) * 2 ^ T : Nat)) : Int) ≤ 0 := by simpa using h
        omega
      · intro h
        have := Nat.mul_pos (show 0 < k + 1 by omega) (pow_pos2 T)
        omega

theorem perm_facts (f : Nat) (h1 : geB f 0 = true) (h2 : leB f one = true) :
    ∃ x n : Nat, ∃ d, floatBits .mul .f64 f thousand = some x ∧ FloatKind.f64.decode x = d ∧ d.isNaN = false ∧ n ≤ 1000 ∧ floatToIntVal .f64 (FloatKind.f64.encode (d.integral .down)) .i64 = some (n : Int) ∧
      ∀ k : Nat, k < 1000 → leB (floatOfInt .f64 ((k : Int) + 1)) x = decide (k < n) := perm_facts_T (T := 1074) rfl f h1 h2

end Go.Proofs.Ytbhmgbcfkhmbpaa.FloatQ
