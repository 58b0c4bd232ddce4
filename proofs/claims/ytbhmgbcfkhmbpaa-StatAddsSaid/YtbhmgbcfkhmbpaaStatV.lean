/-
  The walks of layer 2 (stat): arithmetic.
-/
import Derived.Test.YtbhmgbcfkhmbpaaFloatRt
import Derived.Deep.Draws
import Derived.Below
namespace Go.Proofs.Ytbhmgbcfkhmbpaa.StatV
set_option linter.unusedVariables false
set_option linter.unusedSimpArgs false
open Go.RowKit Go.Proofs.Ytbhmgbcfkhmbpaa.StatW Go.Proofs.Ytbhmgbcfkhmbpaa.FloatP Go.Proofs.Ytbhmgbcfkhmbpaa.StatP Go.Proofs.Ytbhmgbcfkhmbpaa.FloatQ Go.Proofs.Ytbhmgbcfkhmbpaa.FloatRt

/-! ### an operation on two floats: what it gives, and the world behind it (what is no number is drawn) -/
def arV (op : BinOp) (x y : Nat) (w : World) : Nat := match floatBits op .f64 x y with
  | some r => r
  | none => (Question.nanBits .f64 x y).cut (w.tape w.drawn (.nanBits .f64 x y))
def arW (op : BinOp) (x y : Nat) (w : World) : World := match floatBits op .f64 x y with
  | some _ => w
  | none => w.drew

theorem run_ar (op : BinOp) (hop : op = .add ∨ op = .sub ∨ op = .mul ∨ op = .quo) (t : TypeId) (x y : Nat) (w : World) :
    (binOp op t (.float .f64 x) (.float .f64 y)).run Try.prog w = .ok (.float .f64 (arV op x y w)) (arW op x y w) := by
  unfold arV arW
  cases h : floatBits op .f64 x y with
  | some r => exact run_float_arith w op t .f64 x y r h
  | none =>
    unfold floatBits at h
    rcases hop with rfl | rfl | rfl | rfl <;> simp only at h <;> simp [binOp, Op.floatArith, h] <;> exact fun hf => by cases hf

theorem arW_drew (op : BinOp) (x y : Nat) (w : World) : ∃ k, arW op x y w = w.drewN k := by
  unfold arW
  cases floatBits op .f64 x y with
  | some r => exact ⟨0, rfl⟩
  | none => exact ⟨1, rfl⟩
theorem nan_cut (x y t : Nat) : isNan ((Question.nanBits .f64 x y).cut t) = true ∧ (Question.nanBits .f64 x y).cut t < 18446744073709551616 := by
  have h : (Question.nanBits .f64 x y).cut t = (t % 2) * 9223372036854775808 + 9218868437227405312 + 1 + (t / 2) % 4503599627370495 := rfl
  rw [h, isNan_eq]
  refine ⟨decide_eq_true ?_, by omega⟩
  have h1 : t % 2 < 2 := Nat.mod_lt _ (by omega)
  have h2 : t / 2 % 4503599627370495 < 4503599627370495 := Nat.mod_lt _ (by omega)
  unfold rung
  generalize t % 2 = a at *
  generalize t / 2 % 4503599627370495 = b at *
  omega
theorem ar_some {op : BinOp} {x y r : Nat} (h : floatBits op .f64 x y = some r) (w : World) : arV op x y w = r ∧ arW op x y w = w := by
  unfold arV arW; rw [h]; exact ⟨rfl, rfl⟩
theorem ar_none {op : BinOp} {x y : Nat} (h : floatBits op .f64 x y = none) (w : World) : isNan (arV op x y w) = true := by
  unfold arV; rw [h]; exact (nan_cut x y _).1
theorem bits_lt {op : BinOp} {x y r : Nat} (h : floatBits op .f64 x y = some r) : r < 18446744073709551616 := by
  have hw : FloatKind.f64.format.width = 64 := by decide
  have : r < 2 ^ FloatKind.f64.format.width := by
    unfold floatBits at h
    cases op <;> simp only at h <;> first | (cases h; done) | exact FloatKind.f64.format.add_lt h | exact FloatKind.f64.format.sub_lt h | exact FloatKind.f64.format.mul_lt h | exact FloatKind.f64.format.div_lt h
  rw [hw] at this
  omega
theorem ar_lt (op : BinOp) (x y : Nat) (w : World) : arV op x y w < 18446744073709551616 := by
  cases h : floatBits op .f64 x y with
  | some r => rw [(ar_some h w).1]; exact bits_lt h
  | none => unfold arV; rw [h]; exact (nan_cut x y _).2

/-- the same, what is no number being one -/
def Eqv (x y : Nat) : Prop := x = y ∨ (isNan x = true ∧ isNan y = true)
theorem nan_op (op : BinOp) (x y : Nat) (h : isNan x = true ∨ isNan y = true) : floatBits op .f64 x y = none := by
  have hx : ∀ a, isNan a = true → ∃ s t, D.read a = .nan s t := fun a ha => by
    rw [isNan_eq] at ha
    obtain ⟨t, ht⟩ := read_nan a (of_decide_eq_true ha)
    exact ⟨_, t, ht⟩
  rcases h with h | h
  · obtain ⟨s, t, e⟩ := hx x h
    cases op <;> first | rfl | (show (((D.read x).sum (D.read y)).map _) = none; rw [e]; rfl) | (show (((D.read x).sum (D.read y).opposite).map _) = none; rw [e]; rfl) | (show (((D.read x).product (D.read y)).map _) = none; rw [e]; rfl) | (show (((D.read x).quotient _ (D.read y)).map _) = none; rw [e]; rfl)
  · obtain ⟨s, t, e⟩ := hx y h
    cases op <;> first | rfl | (show (((D.read x).sum (D.read y)).map _) = none; rw [e]; cases D.read x <;> rfl) | (show (((D.read x).sum (D.read y).opposite).map _) = none; rw [e]; cases D.read x <;> rfl) | (show (((D.read x).product (D.read y)).map _) = none; rw [e]; cases D.read x <;> rfl) | (show (((D.read x).quotient _ (D.read y)).map _) = none; rw [e]; cases D.read x <;> rfl)
theorem ar_eqv (op : BinOp) {x x' y y' : Nat} (hx : Eqv x x') (hy : Eqv y y') (w w' : World) : Eqv (arV op x y w) (arV op x' y' w') := by
  rcases hx with rfl | ⟨h1, h2⟩
  · rcases hy with rfl | ⟨h1, h2⟩
    · cases h : floatBits op .f64 x y with
      | some r => rw [(ar_some h w).1, (ar_some h w').1]; exact .inl rfl
      | none => exact .inr ⟨ar_none h w, ar_none h w'⟩
    · exact .inr ⟨ar_none (nan_op op _ _ (.inr h1)) w, ar_none (nan_op op _ _ (.inr h2)) w'⟩
  · exact .inr ⟨ar_none (nan_op op _ _ (.inl h1)) w, ar_none (nan_op op _ _ (.inl h2)) w'⟩
theorem eqv_less {x y : Nat} (h : Eqv x y) : lessB x y = false ∧ lessB y x = false := by
  rcases h with rfl | ⟨h1, h2⟩
  · exact ⟨less_irrefl x, less_irrefl x⟩
  · exact ⟨less_nan x y h2 h1, less_nan y x h1 h2⟩

theorem same_yes (a b : Nat) (h : Eqv a b) (w : World) :
    Calls Try.prog 14 #[.float .f64 a, .float .f64 b] w fun e w' => e = .returned (.bool true) ∧ w = w' := by
  have := same_any a b w
  rw [(eqv_less h).1, (eqv_less h).2] at this
  exact this

/-! ### Rate -/
theorem rate_any (a h : Int) (w : World) :
    Calls Try.prog 13 #[.agg #[.int .i64 a, .int .i64 h]] w fun e w' => (∃ w1, e = .returned (.float .f64 (arV .quo (floatOfInt .f64 h) (floatOfInt .f64 a) w1))) ∧ Below w.heap.size w w' := by
  have hq := fun t x y w => run_ar .quo (by simp) t x y w
  obtain ⟨k, hk⟩ := arW_drew .quo (floatOfInt .f64 h) (floatOfInt .f64 a) (w.alloc (.cells #[.int .i64 a, .int .i64 h] 27))
  go_enter Try.func13, Try.ntmps13
  go_wp2
  go_ret
  exact ⟨⟨_, rfl⟩, ⟨rfl, rfl, rfl, by simp [World.drewN], fun k hk => Below.heap_alloc _ _ _ hk⟩⟩

/-! ### Blend -/
def blendV (o n t : Nat) (w1 w2 w3 w4 : World) : Nat := if isNan o then n else if isNan n || isNan t then o else arV .add (arV .mul o (arV .sub one t w1) w2) (arV .mul n t w3) w4
theorem blend_eqv (o n t : Nat) (w1 w2 w3 w4 v1 v2 v3 v4 : World) : Eqv (blendV o n t w1 w2 w3 w4) (blendV o n t v1 v2 v3 v4) := by
  unfold blendV
  split
  · exact .inl rfl
  · split
    · exact .inl rfl
    · exact ar_eqv _ (ar_eqv _ (.inl rfl) (ar_eqv _ (.inl rfl) (.inl rfl) _ _) _ _) (ar_eqv _ (.inl rfl) (.inl rfl) _ _) _ _
theorem four (o n t : Nat) (w : World) : ∃ k, arW .add (arV .mul o (arV .sub one t w) (arW .sub one t w)) (arV .mul n t (arW .mul o (arV .sub one t w) (arW .sub one t w))) (arW .mul n t (arW .mul o (arV .sub one t w) (arW .sub one t w))) = w.drewN k := by
  obtain ⟨k1, h1⟩ := arW_drew .sub one t w
  obtain ⟨k2, h2⟩ := arW_drew .mul o (arV .sub one t w) (arW .sub one t w)
  obtain ⟨k3, h3⟩ := arW_drew .mul n t (arW .mul o (arV .sub one t w) (arW .sub one t w))
  obtain ⟨k4, h4⟩ := arW_drew .add (arV .mul o (arV .sub one t w) (arW .sub one t w)) (arV .mul n t (arW .mul o (arV .sub one t w) (arW .sub one t w))) (arW .mul n t (arW .mul o (arV .sub one t w) (arW .sub one t w)))
  refine ⟨k1 + k2 + k3 + k4, ?_⟩
  rw [h4, h3, h2, h1]
  simp only [World.drewN_drewN]

theorem blend_any (o n t : Nat) (w : World) :
    Calls Try.prog 17 #[.float .f64 o, .float .f64 n, .float .f64 t] w fun e w' => (∃ w1 w2 w3 w4, e = .returned (.float .f64 (blendV o n t w1 w2 w3 w4))) ∧ ∃ k, w' = w.drewN k := by
  unfold blendV
  cases ho : isNan o
  · cases hn : isNan n
    · cases ht : isNan t
      · obtain ⟨k, hk⟩ := four o n t w
        have HK := Lib.hid hk
        clear hk
        have h1 := fun t y w => run_ar .sub (by simp) t 4607182418800017408 y w
        have h2 := fun t x y w => run_ar .mul (by simp) t x y w
        have h3 := fun t x y w => run_ar .add (by simp) t x y w
        go_enter Try.func17, Try.ntmps17
        go_wp2_with (first | (go_at_call 24; ((with_reducible refine (isNaN_no o ho _).mono ?_); rintro e w' ⟨rfl, rfl⟩)) | (go_at_call 24; ((with_reducible refine (isNaN_no n hn _).mono ?_); rintro e w' ⟨rfl, rfl⟩)) | (go_at_call 24; ((with_reducible refine (isNaN_no t ht _).mono ?_); rintro e w' ⟨rfl, rfl⟩)))
        go_ret
        exact ⟨⟨_, _, _, _, rfl⟩, k, HK.out⟩
      · go_enter Try.func17, Try.ntmps17
        go_wp2_with (first | (go_at_call 24; ((with_reducible refine (isNaN_no o ho _).mono ?_); rintro e w' ⟨rfl, rfl⟩)) | (go_at_call 24; ((with_reducible refine (isNaN_no n hn _).mono ?_); rintro e w' ⟨rfl, rfl⟩)) | (go_at_call 24; ((with_reducible refine (isNaN_yes t ht _).mono ?_); rintro e w' ⟨rfl, rfl⟩)))
        go_ret
        first | exact ⟨⟨w, w, w, w, rfl⟩, 0, rfl⟩ | exact ⟨rfl, 0, rfl⟩
    · go_enter Try.func17, Try.ntmps17
      go_wp2_with (first | (go_at_call 24; ((with_reducible refine (isNaN_no o ho _).mono ?_); rintro e w' ⟨rfl, rfl⟩)) | (go_at_call 24; ((with_reducible refine (isNaN_yes n hn _).mono ?_); rintro e w' ⟨rfl, rfl⟩)))
      go_ret
      first | exact ⟨⟨w, w, w, w, rfl⟩, 0, rfl⟩ | exact ⟨rfl, 0, rfl⟩
  · go_enter Try.func17, Try.ntmps17
    go_wp2_with (go_at_call 24; ((with_reducible refine (isNaN_yes o ho _).mono ?_); rintro e w' ⟨rfl, rfl⟩))
    go_ret
    first | exact ⟨⟨w, w, w, w, rfl⟩, 0, rfl⟩ | exact ⟨rfl, 0, rfl⟩


theorem isNan_ord (a : Nat) (b : Bool) (h : isNan a = b) : (FloatKind.f64.format.order a a != some .eq) = b := h

theorem refBlend_any (o n t : Nat) (w : World) :
    Calls Try.prog 18 #[.float .f64 o, .float .f64 n, .float .f64 t] w fun e w' => (∃ w1 w2 w3 w4, e = .returned (.float .f64 (blendV o n t w1 w2 w3 w4))) ∧ ∃ k, w' = w.drewN k := by
  unfold blendV
  have h1 := fun t y w => run_ar .sub (by simp) t 4607182418800017408 y w
  have h2 := fun t x y w => run_ar .mul (by simp) t x y w
  have h3 := fun t x y w => run_ar .add (by simp) t x y w
  obtain ⟨k, hk⟩ := four o n t w
  have HK := Lib.hid hk
  clear hk
  cases ho : isNan o
  · have go := isNan_ord o _ ho
    cases hn : isNan n
    · have gn := isNan_ord n _ hn
      cases ht : isNan t
      · have gt := isNan_ord t _ ht
        go_enter Try.func18, Try.ntmps18
        go_wp2
        go_ret
        exact ⟨⟨_, _, _, _, rfl⟩, k, HK.out⟩
      · have gt := isNan_ord t _ ht
        go_enter Try.func18, Try.ntmps18
        go_wp2
        go_ret
        first | exact ⟨⟨w, w, w, w, rfl⟩, 0, rfl⟩ | exact ⟨rfl, 0, rfl⟩
    · have gn := isNan_ord n _ hn
      go_enter Try.func18, Try.ntmps18
      go_wp2
      go_ret
      first | exact ⟨⟨w, w, w, w, rfl⟩, 0, rfl⟩ | exact ⟨rfl, 0, rfl⟩
  · have go := isNan_ord o _ ho
    go_enter Try.func18, Try.ntmps18
    go_wp2
    go_ret
    first | exact ⟨⟨w, w, w, w, rfl⟩, 0, rfl⟩ | exact ⟨rfl, 0, rfl⟩

/-! ### PerMille -/
theorem ge_ord (a b : Nat) (v : Bool) (h : geB a b = v) : (FloatKind.f64.format.order a b == some .gt || FloatKind.f64.format.order a b == some .eq) = v := h
theorem le_ord (a b : Nat) (v : Bool) (h : leB a b = v) : (FloatKind.f64.format.order a b == some .lt || FloatKind.f64.format.order a b == some .eq) = v := h
theorem gt_ord (a b : Nat) (v : Bool) (h : gtB a b = v) : (FloatKind.f64.format.order a b == some .gt) = v := h

/-- thousandths of a float from 0 to 1; else -1 -/
def IsPerm (f : Nat) (n : Int) : Prop := (geB f 0 = true ∧ leB f one = true ∧ ∃ (x : Nat) (m : Nat) (d : Ieee.Datum), n = m ∧ floatBits .mul .f64 f thousand = some x ∧ FloatKind.f64.decode x = d ∧ d.isNaN = false ∧ m ≤ 1000 ∧ floatToIntVal .f64 (FloatKind.f64.encode (d.integral .down)) .i64 = some (m : Int) ∧
      ∀ k : Nat, k < 1000 → leB (floatOfInt .f64 ((k : Int) + 1)) x = decide (k < m)) ∨ ((geB f 0 = false ∨ leB f one = false) ∧ n = -1)
theorem perm_is (f : Nat) : ∃ n, IsPerm f n ∧ -1 ≤ n ∧ (geB f 0 = true → leB f one = true → 0 ≤ n) := by
  cases h1 : geB f 0
  · exact ⟨-1, .inr ⟨.inl h1, rfl⟩, by omega, fun h => by cases h⟩
  · cases h2 : leB f one
    · exact ⟨-1, .inr ⟨.inr h2, rfl⟩, by omega, fun _ h => by cases h⟩
    · obtain ⟨x, m, d, g⟩ := perm_facts f h1 h2
      exact ⟨m, .inl ⟨h1, h2, x, m, d, rfl, g⟩, by omega, fun _ _ => by omega⟩

theorem perMille_any (f : Nat) (n : Int) (h : IsPerm f n) (w : World) :
    Calls Try.prog 10 #[.float .f64 f] w fun e w' => e = .returned (.int .i64 n) ∧ w = w' := by
  rcases h with ⟨h1, h2, x, m, d, rfl, hx, hd, hn, hm, hi, hk⟩ | ⟨h, rfl⟩
  · have g1 := ge_ord f 0 _ h1
    have g2 := le_ord f one _ h2
    unfold one at g2
    have gm := fun t w => run_float_arith (P := Try.prog) w .mul t .f64 f 4652007308841189376 x hx
    have hc := fun w => run_convert_float_int (P := Try.prog) w 22 3 .f64 .i64 (FloatKind.f64.encode (d.integral .down)) m (by rw [Try.underlying22]; rfl) Try.underlying3 hi
    clear h1 h2 hx hk hi
    go_enter Try.func10, Try.ntmps10
    go_wp2_with (go_at_call 21; refine (floor_any x _ d hd hn).mono ?_; rintro e w' ⟨rfl, rfl⟩)
    go_ret
    exact ⟨rfl, rfl⟩
  · rcases h with h | h
    · have g1 := ge_ord f 0 _ h
      go_enter Try.func10, Try.ntmps10
      go_wp2
      go_ret
      exact ⟨rfl, rfl⟩
    · have g2 := le_ord f one _ h
      unfold one at g2
      cases h1 : geB f 0
      · have g1 := ge_ord f 0 _ h1
        go_enter Try.func10, Try.ntmps10
        go_wp2
        go_ret
        exact ⟨rfl, rfl⟩
      · have g1 := ge_ord f 0 _ h1
        go_enter Try.func10, Try.ntmps10
        go_wp2
        go_ret
        exact ⟨rfl, rfl⟩

theorem refPerMille_any (f : Nat) (n : Int) (h : IsPerm f n) (w : World) :
    Calls Try.prog 11 #[.float .f64 f] w fun e w' => e = .returned (.int .i64 n) ∧ w = w' := by
  rcases h with ⟨h1, h2, x, m, d, rfl, hx, hd, hn, hm, hi, hk⟩ | ⟨h, rfl⟩
  · have g1 := ge_ord f 0 _ h1
    have g2 := le_ord f one _ h2
    unfold one at g2
    have gm := fun t w => run_float_arith (P := Try.prog) w .mul t .f64 f 4652007308841189376 x hx
    have HK := Lib.hid hk
    clear h1 h2 hx hk hi hd hn
    go_enter Try.func11, Try.ntmps11
    go_wp2
    go_loop [3] (fun i => ∃ k : Nat, k ≤ m ∧ i = .int .i64 k) (fun i => m - (intOf i).toNat)
    case atStart => exact ⟨0, by omega, rfl⟩
    case round =>
      obtain ⟨k, hk, rfl⟩ := hrel
      by_cases hlt : k < m
      · have gl := le_ord _ _ _ (HK.out k (by omega))
        rw [decide_eq_true hlt] at gl
        have hk1 : (k : Int) < 1000 := by omega
        go_wp2
        go_round
        case rel => exact ⟨k + 1, by omega, by go_num⟩
        case measure => simp [intOf]; omega
      · obtain rfl : k = m := by omega
        by_cases h9 : k < 1000
        · have gl := le_ord _ _ _ (HK.out k (by omega))
          rw [decide_eq_false (by omega)] at gl
          have hk1 : (k : Int) < 1000 := by omega
          go_wp2
          go_ret
          exact ⟨rfl, rfl⟩
        · have hk1 : ¬ (k : Int) < 1000 := by omega
          go_wp2
          go_ret
          exact ⟨rfl, rfl⟩
  · rcases h with h | h
    · have g1 := ge_ord f 0 _ h
      go_enter Try.func11, Try.ntmps11
      go_wp2
      go_ret
      exact ⟨rfl, rfl⟩
    · have g2 := le_ord f one _ h
      unfold one at g2
      cases h1 : geB f 0
      · have g1 := ge_ord f 0 _ h1
        go_enter Try.func11, Try.ntmps11
        go_wp2
        go_ret
        exact ⟨rfl, rfl⟩
      · have g1 := ge_ord f 0 _ h1
        go_enter Try.func11, Try.ntmps11
        go_wp2
        go_ret
        exact ⟨rfl, rfl⟩

/-! ### Add -/
theorem add_any (a h b g : Int) (w : World) :
    Calls Try.prog 12 #[.agg #[.int .i64 a, .int .i64 h], .agg #[.int .i64 b, .int .i64 g]] w fun e w' => e = .returned (.agg #[.int .i64 (wrap64 (a + b)), .int .i64 (wrap64 (h + g))]) ∧ Below w.heap.size w w' := by
  go_enter Try.func12, Try.ntmps12
  go_wp2
  refine bodyPost_ret (v := .agg #[.int .i64 (wrap64 (a + b)), .int .i64 (wrap64 (h + g))]) (by simp [results, Try.results12, go_sem]) rfl ⟨rfl, ?_⟩
  exact (((((Below.refl _ _).alloc (Nat.le_refl _) _).alloc (by simp) _).alloc (by simp; omega) _))

end Go.Proofs.Ytbhmgbcfkhmbpaa.StatV
