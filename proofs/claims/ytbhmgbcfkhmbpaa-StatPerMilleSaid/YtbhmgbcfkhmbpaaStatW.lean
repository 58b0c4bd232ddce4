/-
  The walks of layer 2 (stat): each function once.
-/
import Derived.Test.YtbhmgbcfkhmbpaaProg
import Derived.WalkKit
import Derived.WalkSpells
import Derived.WalkLawsBesides
import Derived.Laws.FloatArith
import Derived.Laws.Cover2
import Derived.Laws.Externs
import Derived.Lib.Hide
namespace Go.Proofs.Ytbhmgbcfkhmbpaa.StatW
set_option linter.unusedVariables false
set_option linter.unusedSimpArgs false
open Go.RowKit

/-- how two floats stand to each other -/
def ord (a b : Nat) : Option Ordering := FloatKind.f64.format.order a b
def isNan (a : Nat) : Bool := ord a a != some .eq
theorem ord_def (a b : Nat) : FloatKind.f64.format.order a b = ord a b := rfl
theorem isNan_def (a : Nat) : (ord a a != some .eq) = isNan a := rfl
theorem isNan_def' (a : Nat) : (ord a a == some .eq) = !isNan a := by simp [isNan, bne]
def negB (a : Nat) : Bool := decide (wrap64 (a : Int) < 0)

theorem run_bits (a : Nat) (w : World) : (callFunc 27 #[.float .f64 a]).run Try.prog w = .ok (.value (.int .u64 a)) w := by
  rw [run_callFunc_extern Try.func27 (e := Extern.MathFloatBits.float64bits) (by kernel_rfl) (by kernel_rfl) (by kernel_rfl) (by kernel_rfl)]
  rfl
theorem floor_entry (a : Nat) (d : Ieee.Datum) (hd : FloatKind.f64.decode a = d) (hn : d.isNaN = false) : Extern.MathFloor.toIntegral "math.archFloor" .down #[.float .f64 a] = pure (.float .f64 (FloatKind.f64.encode (d.integral .down))) := by
  change (match FloatKind.f64.decode a with | .nan s t => (_ : Sem Value) | d => (pure (Value.float .f64 (FloatKind.f64.encode (d.integral .down))) : Sem Value)) = _
  rw [hd]
  cases d with
  | nan s t => simp [Ieee.Datum.isNaN] at hn
  | _ => rfl
theorem run_floor (a : Nat) (w : World) (d : Ieee.Datum) (hd : FloatKind.f64.decode a = d) (hn : d.isNaN = false) : (callFunc 25 #[.float .f64 a]).run Try.prog w = .ok (.value (.float .f64 (FloatKind.f64.encode (d.integral .down)))) w := by
  rw [run_callFunc_extern Try.func25 (e := Extern.MathFloor.toIntegral "math.archFloor" .down) (by kernel_rfl) (by kernel_rfl) (by kernel_rfl) (by kernel_rfl)]
  rw [floor_entry a d hd hn]
  rfl

theorem isNaN_any (a : Nat) (w : World) :
    Calls Try.prog 24 #[.float .f64 a] w fun e w' => e = .returned (.bool (isNan a)) ∧ w = w' := by
  go_enter Try.func24, Try.ntmps24
  go_wp2
  go_ret
  exact ⟨rfl, rfl⟩
theorem isNaN_yes (a : Nat) (h : isNan a = true) (w : World) :
    Calls Try.prog 24 #[.float .f64 a] w fun e w' => e = .returned (.bool true) ∧ w = w' := by
  rw [← h]; exact isNaN_any a w
theorem isNaN_no (a : Nat) (h : isNan a = false) (w : World) :
    Calls Try.prog 24 #[.float .f64 a] w fun e w' => e = .returned (.bool false) ∧ w = w' := by
  rw [← h]; exact isNaN_any a w

theorem signbit_any (a : Nat) (w : World) :
    Calls Try.prog 23 #[.float .f64 a] w fun e w' => e = .returned (.bool (negB a)) ∧ w = w' := by
  have hb := fun w => run_bits a w
  go_enter Try.func23, Try.ntmps23
  go_wp2
  go_ret
  exact ⟨rfl, rfl⟩

theorem floor_any (a : Nat) (w : World) (d : Ieee.Datum) (hd : FloatKind.f64.decode a = d) (hn : d.isNaN = false) :
    Calls Try.prog 21 #[.float .f64 a] w fun e w' => e = .returned (.float .f64 (FloatKind.f64.encode (d.integral .down))) ∧ w = w' := by
  have hb := fun w => run_floor a w d hd hn
  clear hd hn
  go_enter Try.func21, Try.ntmps21
  go_wp2
  go_ret
  exact ⟨rfl, rfl⟩

/-- the document's order -/
def lessB (a b : Nat) : Bool :=
  if isNan a || isNan b then !isNan a && isNan b
  else if ord a 0 == some .eq && ord b 0 == some .eq then negB a && !negB b
  else ord a b == some .lt

theorem less_any (a b : Nat) (w : World) :
    Calls Try.prog 16 #[.float .f64 a, .float .f64 b] w fun e w' => e = .returned (.bool (lessB a b)) ∧ w = w' := by
  have h1 := ord_def
  have h2 := isNan_def
  have h3 := isNan_def'
  unfold lessB
  cases ha : isNan a
  · cases hb : isNan b
    · cases za : ord a 0 == some .eq
      · go_enter Try.func16, Try.ntmps16
        go_wp2_with (go_at_call 23; refine (signbit_any _ _).mono ?_; rintro e w' ⟨rfl, rfl⟩)
        go_ret
        exact ⟨rfl, rfl⟩
      · cases zb : ord b 0 == some .eq
        · go_enter Try.func16, Try.ntmps16
          go_wp2_with (go_at_call 23; refine (signbit_any _ _).mono ?_; rintro e w' ⟨rfl, rfl⟩)
          go_ret
          exact ⟨rfl, rfl⟩
        · cases na : negB a
          · go_enter Try.func16, Try.ntmps16
            go_wp2_with (go_at_call 23; refine (signbit_any _ _).mono ?_; rintro e w' ⟨rfl, rfl⟩)
            go_ret
            exact ⟨rfl, rfl⟩
          · go_enter Try.func16, Try.ntmps16
            go_wp2_with (go_at_call 23; refine (signbit_any _ _).mono ?_; rintro e w' ⟨rfl, rfl⟩)
            go_ret
            exact ⟨rfl, rfl⟩
    · go_enter Try.func16, Try.ntmps16
      go_wp2
      go_ret
      exact ⟨rfl, rfl⟩
  · go_enter Try.func16, Try.ntmps16
    go_wp2
    go_ret
    exact ⟨rfl, rfl⟩


theorem same_any (a b : Nat) (w : World) :
    Calls Try.prog 14 #[.float .f64 a, .float .f64 b] w fun e w' => e = .returned (.bool (!lessB a b && !lessB b a)) ∧ w = w' := by
  cases h : lessB a b
  · go_enter Try.func14, Try.ntmps14
    go_wp2_with (go_at_call 16; refine (less_any _ _ _).mono ?_; rintro e w' ⟨rfl, rfl⟩)
    go_ret
    exact ⟨rfl, rfl⟩
  · go_enter Try.func14, Try.ntmps14
    go_wp2_with (go_at_call 16; refine (less_any _ _ _).mono ?_; rintro e w' ⟨rfl, rfl⟩)
    go_ret
    exact ⟨rfl, rfl⟩

/-! ### Clamp -/
def geB (a b : Nat) : Bool := ord a b == some .gt || ord a b == some .eq
def gtB (a b : Nat) : Bool := ord a b == some .gt
def leB (a b : Nat) : Bool := ord a b == some .lt || ord a b == some .eq
theorem ge_def (a b : Nat) : (ord a b == some .gt || ord a b == some .eq) = geB a b := rfl
theorem gt_def (a b : Nat) : (ord a b == some .gt) = gtB a b := rfl
theorem le_def (a b : Nat) : (ord a b == some .lt || ord a b == some .eq) = leB a b := rfl
def clampF (f lo hi : Nat) : Nat := if geB f lo then (if gtB f hi then hi else f) else lo

theorem clamp_any (f lo hi : Nat) (w : World) :
    Calls Try.prog 19 #[.float .f64 f, .float .f64 lo, .float .f64 hi] w fun e w' => e = .returned (.float .f64 (clampF f lo hi)) ∧ w = w' := by
  have h1 := ord_def
  unfold clampF
  cases h : geB f lo <;> cases g : gtB f hi <;> unfold geB at h <;> unfold gtB at g
  all_goals
    go_enter Try.func19, Try.ntmps19
    go_wp2
    go_ret
    exact ⟨rfl, rfl⟩

theorem refClamp_any (f lo hi : Nat) (w : World) :
    Calls Try.prog 20 #[.float .f64 f, .float .f64 lo, .float .f64 hi] w fun e w' => e = .returned (.float .f64 (clampF f lo hi)) ∧ w = w' := by
  have h1 := ord_def
  unfold clampF
  cases h : geB f lo <;> cases g : gtB f hi <;> unfold geB at h <;> unfold gtB at g
  all_goals
    go_enter Try.func20, Try.ntmps20
    go_wp2
    go_ret
    exact ⟨rfl, rfl⟩

/-! ### key, Order -/
def keyF (a : Nat) : Int := if isNan a then 9223372036854775807 else if negB a then -9223372036854775808 - wrap64 a - 1 else wrap64 a
def ordF (a b : Nat) : Int := if keyF a < keyF b then -1 else if keyF b < keyF a then 1 else 0

theorem key_any (a : Nat) (w : World) :
    Calls Try.prog 22 #[.float .f64 a] w fun e w' => e = .returned (.int .i64 (keyF a)) ∧ w = w' := by
  unfold keyF
  cases h : isNan a
  · have hb := fun w => run_bits a w
    cases g : negB a <;> unfold negB at g
    · go_enter Try.func22, Try.ntmps22
      go_wp2_with (go_at_call 24; refine (isNaN_no _ h _).mono ?_; rintro e w' ⟨rfl, rfl⟩)
      go_ret
      exact ⟨rfl, rfl⟩
    · have g' : wrap64 (a : Int) < 0 := by simpa using g
      have g'' : -9223372036854775808 ≤ wrap64 (a : Int) := by unfold wrap64; omega
      go_enter Try.func22, Try.ntmps22
      go_wp2_with (go_at_call 24; refine (isNaN_no _ h _).mono ?_; rintro e w' ⟨rfl, rfl⟩)
      go_ret
      exact ⟨rfl, rfl⟩
  · go_enter Try.func22, Try.ntmps22
    go_wp2_with (go_at_call 24; refine (isNaN_yes _ h _).mono ?_; rintro e w' ⟨rfl, rfl⟩)
    go_ret
    exact ⟨rfl, rfl⟩

theorem order_any (a b : Nat) (w : World) :
    Calls Try.prog 15 #[.float .f64 a, .float .f64 b] w fun e w' => e = .returned (.int .i64 (ordF a b)) ∧ w = w' := by
  unfold ordF
  by_cases h : keyF a < keyF b
  · rw [if_pos h]
    have d1 : decide (keyF a < keyF b) = true := decide_eq_true h
    go_enter Try.func15, Try.ntmps15
    go_wp2_with (go_at_call 22; refine (key_any _ _).mono ?_; rintro e w' ⟨rfl, rfl⟩)
    go_ret
    exact ⟨rfl, rfl⟩
  · rw [if_neg h]
    have d1 : decide (keyF a < keyF b) = false := decide_eq_false h
    by_cases g : keyF b < keyF a
    · rw [if_pos g]
      have d2 : decide (keyF b < keyF a) = true := decide_eq_true g
      go_enter Try.func15, Try.ntmps15
      go_wp2_with (go_at_call 22; refine (key_any _ _).mono ?_; rintro e w' ⟨rfl, rfl⟩)
      go_ret
      exact ⟨rfl, rfl⟩
    · rw [if_neg g]
      have d2 : decide (keyF b < keyF a) = false := decide_eq_false g
      go_enter Try.func15, Try.ntmps15
      go_wp2_with (go_at_call 22; refine (key_any _ _).mono ?_; rintro e w' ⟨rfl, rfl⟩)
      go_ret
      exact ⟨rfl, rfl⟩

end Go.Proofs.Ytbhmgbcfkhmbpaa.StatW
