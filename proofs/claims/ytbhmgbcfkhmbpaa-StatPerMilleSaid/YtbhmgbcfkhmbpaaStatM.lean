/-
  The laws of layer 2 (stat): the walks, on.
-/
import Derived.Test.YtbhmgbcfkhmbpaaStatL
namespace Go.Proofs.Ytbhmgbcfkhmbpaa.StatM
set_option linter.unusedVariables false
set_option linter.unusedSimpArgs false
open Go.RowKit Go.Proofs.Ytbhmgbcfkhmbpaa.Mem Go.Proofs.Ytbhmgbcfkhmbpaa.StatW Go.Proofs.Ytbhmgbcfkhmbpaa.FloatP Go.Proofs.Ytbhmgbcfkhmbpaa.StatP Go.Proofs.Ytbhmgbcfkhmbpaa.FloatQ Go.Proofs.Ytbhmgbcfkhmbpaa.FloatRt Go.Proofs.Ytbhmgbcfkhmbpaa.StatV Go.Proofs.Ytbhmgbcfkhmbpaa.StatL

theorem clampIn (f lo hi : Nat) (h : leB lo hi = true) : geB (clampF f lo hi) lo = true ∧ leB (clampF f lo hi) hi = true := by
  by_cases n1 : rung lo ≤ 9218868437227405312
  · by_cases n2 : rung hi ≤ 9218868437227405312
    · have h0 := h
      rw [le_eq _ _ n1 n2] at h0
      have h1 := of_decide_eq_true h0
      unfold clampF
      by_cases g : geB f lo = true
      · rw [if_pos g]
        have nf : rung f ≤ 9218868437227405312 := Nat.le_of_not_lt (fun nl => by rw [ge_nan _ _ (.inl nl)] at g; cases g)
        by_cases g2 : gtB f hi = true
        · rw [if_pos g2]
          rw [ge_eq _ _ n2 n1, le_eq _ _ n2 n2]
          exact ⟨decide_eq_true h1, decide_eq_true (Int.le_refl _)⟩
        · rw [if_neg g2]
          refine ⟨g, ?_⟩
          have g3 : geB f hi = (gtB f hi || ord f hi == some .eq) := rfl
          have g4 : leB f hi = (ord f hi == some .lt || ord f hi == some .eq) := rfl
          rw [le_eq _ _ nf n2]
          refine decide_eq_true (Int.not_lt.mp (fun l => g2 ?_))
          have e1 : geB f hi = true := by rw [ge_eq _ _ nf n2]; exact decide_eq_true (Int.le_of_lt l)
          have e2 : leB f hi = false := by rw [le_eq _ _ nf n2]; exact decide_eq_false (by omega)
          unfold leB at e2
          unfold geB at e1
          unfold gtB
          revert e1 e2
          cases ord f hi with
          | none => intro e1; cases e1
          | some o => cases o <;> simp
      · rw [if_neg g]
        rw [ge_eq _ _ n1 n1, le_eq _ _ n1 n2]
        exact ⟨decide_eq_true (Int.le_refl _), decide_eq_true h1⟩
    · rw [le_nan _ _ (.inr (by omega))] at h; cases h
  · rw [le_nan _ _ (.inl (by omega))] at h; cases h

theorem statClamps_walk (f lo hi : Nat) (w : World) (w0 : (Lit.float .f64 f).wf = true) (w1 : (Lit.float .f64 lo).wf = true) (w2 : (Lit.float .f64 hi).wf = true) :
    Calls Try.prog 8 #[.float .f64 f, .float .f64 lo, .float .f64 hi] w fun e w' => e = .returned (.bool true) ∧ Below w.heap.size w w' := by
  clear w0 w1 w2
  obtain ⟨g, hg⟩ : ∃ g, g = clampF f lo hi := ⟨_, rfl⟩
  have KK : leB lo hi = false ∨ (leB lo hi = true ∧ geB g lo = true ∧ leB g hi = true) := by
    rw [hg]
    by_cases h : leB lo hi = true
    · exact .inr ⟨h, clampIn f lo hi h⟩
    · exact .inl (Bool.eq_false_iff.mpr h)
  have C1 := clamp_any f lo hi
  have C2 := refClamp_any f lo hi
  rw [← hg] at C1 C2
  have H1 := Lib.hid C1
  have H2 := Lib.hid C2
  clear hg C1 C2
  rcases KK with h | ⟨h, h1, h2⟩
  · have q := Lib.hid (le_ord _ _ _ h)
    clear h
    go_enter Try.func8, Try.ntmps8
    go_wp2_with fail
    refine (H1.out _).mono ?_
    rintro e w1 ⟨rfl, rfl⟩
    go_wp2_with fail
    refine (awake_any _).mono ?_
    rintro e w1 ⟨rfl, b1⟩
    go_wp2_with fail
    refine (H2.out _).mono ?_
    rintro e w2 ⟨rfl, rfl⟩
    go_wp2_with fail
    refine (same_yes _ _ (.inl rfl) _).mono ?_
    rintro e w2 ⟨rfl, rfl⟩
    have q' := q.out
    go_wp2_with fail
    go_ret
    exact ⟨rfl, b1⟩
  · have q := Lib.hid (le_ord _ _ _ h)
    have q1 := Lib.hid (ge_ord _ _ _ h1)
    have q2 := Lib.hid (le_ord _ _ _ h2)
    clear h h1 h2
    go_enter Try.func8, Try.ntmps8
    go_wp2_with fail
    refine (H1.out _).mono ?_
    rintro e w1 ⟨rfl, rfl⟩
    go_wp2_with fail
    refine (awake_any _).mono ?_
    rintro e w1 ⟨rfl, b1⟩
    go_wp2_with fail
    refine (H2.out _).mono ?_
    rintro e w2 ⟨rfl, rfl⟩
    go_wp2_with fail
    refine (same_yes _ _ (.inl rfl) _).mono ?_
    rintro e w2 ⟨rfl, rfl⟩
    have q' := q.out
    have q1' := q1.out
    have q2' := q2.out
    go_wp2_with fail
    go_ret
    exact ⟨rfl, b1⟩

theorem statPerMille_walk (f : Nat) (w : World) (w0 : (Lit.float .f64 f).wf = true) :
    Calls Try.prog 3 #[.float .f64 f] w fun e w' => e = .returned (.bool true) ∧ Below w.heap.size w w' := by
  clear w0
  obtain ⟨n, hn, _, _⟩ := perm_is f
  go_enter Try.func3, Try.ntmps3
  go_wp2_with fail
  refine (awake_any _).mono ?_
  rintro e w1 ⟨rfl, b1⟩
  go_wp2_with fail
  refine (perMille_any f n hn _).mono ?_
  rintro e w2 ⟨rfl, rfl⟩
  go_wp2_with fail
  refine (refPerMille_any f n hn _).mono ?_
  rintro e w2 ⟨rfl, rfl⟩
  go_wp2_with fail
  go_ret
  exact ⟨rfl, b1⟩

theorem quo00 : floatBits .quo .f64 (floatOfInt .f64 0) (floatOfInt .f64 0) = none := by decide +kernel
theorem permNan (f : Nat) (h : isNan f = true) : IsPerm f (-1) := by
  refine .inr ⟨.inl (ge_nan _ _ (.inl ?_)), rfl⟩
  have := isNan_eq f
  rw [h] at this
  exact of_decide_eq_true this.symm

theorem statOrder_law (a b c : Nat) (ha : a < 18446744073709551616) (hb : b < 18446744073709551616) (hc : c < 18446744073709551616) :
    lessB a b = decide (ordF a b < 0) ∧ lessB b a = decide (ordF a b > 0) ∧ wrap64 (-(ordF a b)) = ordF b a ∧ (ordF a b > 0 ∨ ordF b c > 0 ∨ ordF a c ≤ 0) := by
  rw [less_eq _ _ ha hb, less_eq _ _ hb ha]
  have o1 := ord_cases a b
  have o2 := ord_cases b a
  have o3 := ord_cases b c
  have o4 := ord_cases a c
  generalize keyF a = p at *
  generalize keyF b = q at *
  generalize keyF c = r at *
  generalize ordF a b = x at *
  generalize ordF b a = y at *
  generalize ordF b c = z at *
  generalize ordF a c = t at *
  refine ⟨?_, ?_, ?_, ?_⟩
  · by_cases h : p < q
    · rw [decide_eq_true h, decide_eq_true (by omega)]
    · rw [decide_eq_false h, decide_eq_false (by omega)]
  · by_cases h : q < p
    · rw [decide_eq_true h, decide_eq_true (by omega)]
    · rw [decide_eq_false h, decide_eq_false (by omega)]
  · unfold wrap64; omega
  · omega

theorem statOrder_walk (a b c : Nat) (w : World) (w0 : (Lit.float .f64 a).wf = true) (w1 : (Lit.float .f64 b).wf = true) (w2 : (Lit.float .f64 c).wf = true) :
    Calls Try.prog 6 #[.float .f64 a, .float .f64 b, .float .f64 c] w fun e w' => e = .returned (.bool true) ∧ Below w.heap.size w w' := by
  obtain ⟨l1, l2, l3, l4⟩ := statOrder_law a b c (f_lt w0) (f_lt w1) (f_lt w2)
  clear w0 w1 w2
  have O1 := order_any a b
  have O2 := order_any b a
  have O3 := order_any b c
  have O4 := order_any a c
  have L1 := less_any a b
  have L2 := less_any b a
  rw [l1] at L1
  rw [l2] at L2
  clear l1 l2
  generalize ordF a b = x at *
  generalize ordF b a = y at *
  generalize ordF b c = z at *
  generalize ordF a c = t at *
  replace O1 := Lib.hid O1
  replace O2 := Lib.hid O2
  replace O3 := Lib.hid O3
  replace O4 := Lib.hid O4
  replace L1 := Lib.hid L1
  replace L2 := Lib.hid L2
  replace l3 := Lib.hid l3
  by_cases g1 : x > 0
  · have d1 : decide (x > 0) = true := decide_eq_true g1
    have d1' : decide (0 < x) = true := decide_eq_true g1
    clear l4
    go_enter Try.func6, Try.ntmps6
    go_wp2_with fail
    refine (O1.out _).mono ?_
    rintro e w1 ⟨rfl, rfl⟩
    go_wp2_with fail
    refine (awake_any _).mono ?_
    rintro e w1 ⟨rfl, b1⟩
    go_wp2_with fail
    refine (L1.out _).mono ?_
    rintro e w2 ⟨rfl, rfl⟩
    go_wp2_with fail
    refine (L2.out _).mono ?_
    rintro e w2 ⟨rfl, rfl⟩
    go_wp2_with fail
    refine (O2.out _).mono ?_
    rintro e w2 ⟨rfl, rfl⟩
    have q3 := l3.out
    go_wp2_with fail
    go_ret
    exact ⟨rfl, b1⟩
  · have d1 : decide (x > 0) = false := decide_eq_false g1
    have d1' : decide (0 < x) = false := decide_eq_false g1
    by_cases g2 : z > 0
    · have d2 : decide (z > 0) = true := decide_eq_true g2
      have d2' : decide (0 < z) = true := decide_eq_true g2
      clear l4
      go_enter Try.func6, Try.ntmps6
      go_wp2_with fail
      refine (O1.out _).mono ?_
      rintro e w1 ⟨rfl, rfl⟩
      go_wp2_with fail
      refine (awake_any _).mono ?_
      rintro e w1 ⟨rfl, b1⟩
      go_wp2_with fail
      refine (L1.out _).mono ?_
      rintro e w2 ⟨rfl, rfl⟩
      go_wp2_with fail
      refine (L2.out _).mono ?_
      rintro e w2 ⟨rfl, rfl⟩
      go_wp2_with fail
      refine (O2.out _).mono ?_
      rintro e w2 ⟨rfl, rfl⟩
      have q3 := l3.out
      go_wp2_with fail
      refine (O3.out _).mono ?_
      rintro e w2 ⟨rfl, rfl⟩
      go_wp2_with fail
      go_ret
      exact ⟨rfl, b1⟩
    · have d2 : decide (z > 0) = false := decide_eq_false g2
      have d2' : decide (0 < z) = false := decide_eq_false g2
      have g3 : t ≤ 0 := by omega
      have d3 : decide (t ≤ 0) = true := decide_eq_true g3
      clear l4
      go_enter Try.func6, Try.ntmps6
      go_wp2_with fail
      refine (O1.out _).mono ?_
      rintro e w1 ⟨rfl, rfl⟩
      go_wp2_with fail
      refine (awake_any _).mono ?_
      rintro e w1 ⟨rfl, b1⟩
      go_wp2_with fail
      refine (L1.out _).mono ?_
      rintro e w2 ⟨rfl, rfl⟩
      go_wp2_with fail
      refine (L2.out _).mono ?_
      rintro e w2 ⟨rfl, rfl⟩
      go_wp2_with fail
      refine (O2.out _).mono ?_
      rintro e w2 ⟨rfl, rfl⟩
      have q3 := l3.out
      go_wp2_with fail
      refine (O3.out _).mono ?_
      rintro e w2 ⟨rfl, rfl⟩
      go_wp2_with fail
      refine (O4.out _).mono ?_
      rintro e w2 ⟨rfl, rfl⟩
      go_wp2_with fail
      go_ret
      exact ⟨rfl, b1⟩

theorem statRates_walk (a h : Int) (w : World) (w0 : (Lit.int .i64 a).wf = true) (w1 : (Lit.int .i64 h).wf = true) :
    Calls Try.prog 5 #[.int .i64 a, .int .i64 h] w fun e w' => e = .returned (.bool true) ∧ Below w.heap.size w w' := by
  have h9 : a ≤ 9223372036854775807 := by
    exact (bounds_i64 w0).2
  clear w0 w1
  by_cases z : a = 0 ∧ h = 0
  · obtain ⟨rfl, rfl⟩ := z
    go_enter Try.func5, Try.ntmps5
    go_wp2_with fail
    refine (rate_any 0 0 _).mono ?_
    rintro e w1 ⟨⟨wx, rfl⟩, b1⟩
    have hv := Lib.hid (fun w => ar_eqv .quo (.inl rfl : Eqv (floatOfInt .f64 0) (floatOfInt .f64 0)) (.inl rfl : Eqv (floatOfInt .f64 0) (floatOfInt .f64 0)) wx w)
    have hn : isNan (arV .quo (floatOfInt .f64 0) (floatOfInt .f64 0) wx) = true := ar_none quo00 wx
    generalize arV .quo (floatOfInt .f64 0) (floatOfInt .f64 0) wx = v at *
    have hq := fun t x y w => run_ar .quo (by simp) t x y w
    go_wp2_with fail
    refine (awake_any _).mono ?_
    rintro e w2 ⟨rfl, b2⟩
    go_wp2_with fail
    refine (same_yes _ _ (hv.out _) _).mono ?_
    rintro e w3 ⟨rfl, rfl⟩
    clear hq hv
    obtain ⟨kk, hk⟩ := arW_drew .quo (floatOfInt .f64 0) (floatOfInt .f64 0) w2
    rw [hk]
    clear hk
    have b3 : Below w.heap.size w (w2.drewN kk) := (b1.trans (b2.mono b1.size)).trans ⟨rfl, rfl, rfl, Nat.le_refl _, fun _ _ => rfl⟩
    clear b1 b2
    generalize arV .quo (floatOfInt .f64 0) (floatOfInt .f64 0) w2 = u at *
    generalize w2.drewN kk = w4 at *
    clear w2
    have q := isNan_ord _ _ hn
    have hp := Lib.hid (permNan v hn)
    clear hn
    go_wp2_with fail
    refine (perMille_any _ _ hp.out _).mono ?_
    rintro e w5 ⟨rfl, rfl⟩
    go_wp2_with fail
    go_ret
    exact ⟨rfl, b3⟩
  · by_cases z1 : a < 1
    · have d1 : decide (a < 1) = true := decide_eq_true z1
      by_cases z2 : a = 0
      · have z3 : ¬ h = 0 := fun e => z ⟨z2, e⟩
        have d2 : decide (a = 0) = true := decide_eq_true z2
        have d3 : decide (h = 0) = false := decide_eq_false z3
        have d2' : (a == 0) = true := by simp [z2]
        have d3' : (h == 0) = false := by simp [z3]
        clear z z1 z2 z3
        go_enter Try.func5, Try.ntmps5
        go_wp2_with fail
        refine (rate_any a h _).mono ?_
        rintro e w1 ⟨⟨wx, rfl⟩, b1⟩
        have hv := Lib.hid (fun w => ar_eqv .quo (.inl rfl : Eqv (floatOfInt .f64 h) (floatOfInt .f64 h)) (.inl rfl : Eqv (floatOfInt .f64 a) (floatOfInt .f64 a)) wx w)
        generalize arV .quo (floatOfInt .f64 h) (floatOfInt .f64 a) wx = v at *
        have hq := fun t x y w => run_ar .quo (by simp) t x y w
        go_wp2_with fail
        refine (awake_any _).mono ?_
        rintro e w2 ⟨rfl, b2⟩
        go_wp2_with fail
        refine (same_yes _ _ (hv.out _) _).mono ?_
        rintro e w3 ⟨rfl, rfl⟩
        clear hq hv
        obtain ⟨kk, hk⟩ := arW_drew .quo (floatOfInt .f64 h) (floatOfInt .f64 a) w2
        rw [hk]
        clear hk
        have b3 : Below w.heap.size w (w2.drewN kk) := (b1.trans (b2.mono b1.size)).trans ⟨rfl, rfl, rfl, Nat.le_refl _, fun _ _ => rfl⟩
        clear b1 b2
        generalize arV .quo (floatOfInt .f64 h) (floatOfInt .f64 a) w2 = u at *
        generalize w2.drewN kk = w4 at *
        clear w2
        go_wp2_with fail
        go_ret
        exact ⟨rfl, b3⟩
      · have d2 : decide (a = 0) = false := decide_eq_false z2
        have d2' : (a == 0) = false := by simp [z2]
        clear z z1 z2
        go_enter Try.func5, Try.ntmps5
        go_wp2_with fail
        refine (rate_any a h _).mono ?_
        rintro e w1 ⟨⟨wx, rfl⟩, b1⟩
        have hv := Lib.hid (fun w => ar_eqv .quo (.inl rfl : Eqv (floatOfInt .f64 h) (floatOfInt .f64 h)) (.inl rfl : Eqv (floatOfInt .f64 a) (floatOfInt .f64 a)) wx w)
        generalize arV .quo (floatOfInt .f64 h) (floatOfInt .f64 a) wx = v at *
        have hq := fun t x y w => run_ar .quo (by simp) t x y w
        go_wp2_with fail
        refine (awake_any _).mono ?_
        rintro e w2 ⟨rfl, b2⟩
        go_wp2_with fail
        refine (same_yes _ _ (hv.out _) _).mono ?_
        rintro e w3 ⟨rfl, rfl⟩
        clear hq hv
        obtain ⟨kk, hk⟩ := arW_drew .quo (floatOfInt .f64 h) (floatOfInt .f64 a) w2
        rw [hk]
        clear hk
        have b3 : Below w.heap.size w (w2.drewN kk) := (b1.trans (b2.mono b1.size)).trans ⟨rfl, rfl, rfl, Nat.le_refl _, fun _ _ => rfl⟩
        clear b1 b2
        generalize arV .quo (floatOfInt .f64 h) (floatOfInt .f64 a) w2 = u at *
        generalize w2.drewN kk = w4 at *
        clear w2
        go_wp2_with fail
        go_ret
        exact ⟨rfl, b3⟩
    · have d1 : decide (a < 1) = false := decide_eq_false z1
      have d2 : decide (a = 0) = false := decide_eq_false (by omega)
      have d2' : (a == 0) = false := by rw [beq_eq_false_iff_ne]; omega
      by_cases z3 : h < 0
      · have d3 : decide (h < 0) = true := decide_eq_true z3
        clear z z1 z3
        go_enter Try.func5, Try.ntmps5
        go_wp2_with fail
        refine (rate_any a h _).mono ?_
        rintro e w1 ⟨⟨wx, rfl⟩, b1⟩
        have hv := Lib.hid (fun w => ar_eqv .quo (.inl rfl : Eqv (floatOfInt .f64 h) (floatOfInt .f64 h)) (.inl rfl : Eqv (floatOfInt .f64 a) (floatOfInt .f64 a)) wx w)
        generalize arV .quo (floatOfInt .f64 h) (floatOfInt .f64 a) wx = v at *
        have hq := fun t x y w => run_ar .quo (by simp) t x y w
        go_wp2_with fail
        refine (awake_any _).mono ?_
        rintro e w2 ⟨rfl, b2⟩
        go_wp2_with fail
        refine (same_yes _ _ (hv.out _) _).mono ?_
        rintro e w3 ⟨rfl, rfl⟩
        clear hq hv
        obtain ⟨kk, hk⟩ := arW_drew .quo (floatOfInt .f64 h) (floatOfInt .f64 a) w2
        rw [hk]
        clear hk
        have b3 : Below w.heap.size w (w2.drewN kk) := (b1.trans (b2.mono b1.size)).trans ⟨rfl, rfl, rfl, Nat.le_refl _, fun _ _ => rfl⟩
        clear b1 b2
        generalize arV .quo (floatOfInt .f64 h) (floatOfInt .f64 a) w2 = u at *
        generalize w2.drewN kk = w4 at *
        clear w2
        go_wp2_with fail
        go_ret
        exact ⟨rfl, b3⟩
      · have d3 : decide (h < 0) = false := decide_eq_false z3
        by_cases z4 : h > a
        · have d4 : decide (h > a) = true := decide_eq_true z4
          have d4' : decide (a < h) = true := decide_eq_true z4
          clear z z1 z3 z4
          go_enter Try.func5, Try.ntmps5
          go_wp2_with fail
          refine (rate_any a h _).mono ?_
          rintro e w1 ⟨⟨wx, rfl⟩, b1⟩
          have hv := Lib.hid (fun w => ar_eqv .quo (.inl rfl : Eqv (floatOfInt .f64 h) (floatOfInt .f64 h)) (.inl rfl : Eqv (floatOfInt .f64 a) (floatOfInt .f64 a)) wx w)
          generalize arV .quo (floatOfInt .f64 h) (floatOfInt .f64 a) wx = v at *
          have hq := fun t x y w => run_ar .quo (by simp) t x y w
          go_wp2_with fail
          refine (awake_any _).mono ?_
          rintro e w2 ⟨rfl, b2⟩
          go_wp2_with fail
          refine (same_yes _ _ (hv.out _) _).mono ?_
          rintro e w3 ⟨rfl, rfl⟩
          clear hq hv
          obtain ⟨kk, hk⟩ := arW_drew .quo (floatOfInt .f64 h) (floatOfInt .f64 a) w2
          rw [hk]
          clear hk
          have b3 : Below w.heap.size w (w2.drewN kk) := (b1.trans (b2.mono b1.size)).trans ⟨rfl, rfl, rfl, Nat.le_refl _, fun _ _ => rfl⟩
          clear b1 b2
          generalize arV .quo (floatOfInt .f64 h) (floatOfInt .f64 a) w2 = u at *
          generalize w2.drewN kk = w4 at *
          clear w2
          go_wp2_with fail
          go_ret
          exact ⟨rfl, b3⟩
        · have d4 : decide (h > a) = false := decide_eq_false z4
          have d4' : decide (a < h) = false := decide_eq_false z4
          obtain ⟨f, hf, f1, f2⟩ := rate_facts h a (by omega) (by omega) (by omega) h9
          obtain ⟨n, hn, _, hn0⟩ := perm_is f
          have hn1 := hn0 f1 f2
          have hn2 : decide (n ≥ 0) = true := decide_eq_true hn1
          have hn3 : decide (0 ≤ n) = true := decide_eq_true hn1
          have hp := Lib.hid (perMille_any f n hn)
          have hf' := Lib.hid (fun w => (ar_some hf w).1)
          have q1 := Lib.hid (ge_ord _ _ _ f1)
          have q2 := Lib.hid (le_ord _ _ _ f2)
          clear z z1 z3 z4 hf f1 f2 hn hn0 hn1 h9
          go_enter Try.func5, Try.ntmps5
          go_wp2_with fail
          refine (rate_any a h _).mono ?_
          rintro e w1 ⟨⟨wx, rfl⟩, b1⟩
          have hv := Lib.hid (fun w => ar_eqv .quo (.inl rfl : Eqv (floatOfInt .f64 h) (floatOfInt .f64 h)) (.inl rfl : Eqv (floatOfInt .f64 a) (floatOfInt .f64 a)) wx w)
          have hvf := hf'.out wx
          clear hf'
          rw [hvf] at hv ⊢
          clear hvf
          generalize f = v at *
          have hq := fun t x y w => run_ar .quo (by simp) t x y w
          go_wp2_with fail
          refine (awake_any _).mono ?_
          rintro e w2 ⟨rfl, b2⟩
          go_wp2_with fail
          refine (same_yes _ _ (hv.out _) _).mono ?_
          rintro e w3 ⟨rfl, rfl⟩
          clear hq hv
          obtain ⟨kk, hk⟩ := arW_drew .quo (floatOfInt .f64 h) (floatOfInt .f64 a) w2
          rw [hk]
          clear hk
          have b3 : Below w.heap.size w (w2.drewN kk) := (b1.trans (b2.mono b1.size)).trans ⟨rfl, rfl, rfl, Nat.le_refl _, fun _ _ => rfl⟩
          clear b1 b2
          generalize arV .quo (floatOfInt .f64 h) (floatOfInt .f64 a) w2 = u at *
          generalize w2.drewN kk = w4 at *
          clear w2
          replace q1 := q1.out
          replace q2 := q2.out
          unfold one at q2
          go_wp2_with fail
          refine (hp.out _).mono ?_
          rintro e w5 ⟨rfl, rfl⟩
          go_wp2_with fail
          go_ret
          exact ⟨rfl, b3⟩

end Go.Proofs.Ytbhmgbcfkhmbpaa.StatM
