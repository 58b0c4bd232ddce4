/-
  Layer 6 (ring): few, awake.
-/
import Derived.Test.YtcllfdplbefaeaaRinN
namespace Go.Proofs.Ytcllfdplbefaeaa.RinA
set_option linter.unusedVariables false
set_option linter.unusedSimpArgs false
open Go.RowKit Go.Proofs.Ytcllfdplbefaeaa.Mem Go.Proofs.Ytcllfdplbefaeaa.RinM Go.Proofs.Ytcllfdplbefaeaa.RinP Go.Proofs.Ytcllfdplbefaeaa.RinW Go.Proofs.Ytcllfdplbefaeaa.RinL Go.Proofs.Ytcllfdplbefaeaa.RinF Go.Proofs.Ytcllfdplbefaeaa.RinG Go.Proofs.Ytcllfdplbefaeaa.RinH Go.Proofs.Ytcllfdplbefaeaa.RinD Go.Proofs.Ytcllfdplbefaeaa.RinN

/-- A text that is not too long. -/
def fewS (s : ByteArray) : ByteArray := if 80 < s.size then s.extract 0 80 else s
theorem fewS_le (s : ByteArray) : (fewS s).size ≤ 80 := by
  unfold fewS
  split
  · simp; omega
  · omega
theorem few_any (s : ByteArray) (hs : s.size ≤ 9223372036854775807) (w : World) :
    Calls Try.prog 11 #[.string s] w fun e w' => e = .returned (.string (fewS s)) ∧ w = w' := by
  unfold fewS
  by_cases h : 80 < s.size
  · rw [if_pos h]
    have h' : (80 : Int) < (s.size : Int) := by omega
    go_enter Try.func11, Try.ntmps11
    go_wp2_with fail
    go_ret
    exact ⟨rfl, rfl⟩
  · rw [if_neg h]
    have h' : ¬ (80 : Int) < (s.size : Int) := by omega
    go_enter Try.func11, Try.ntmps11
    go_wp2_with fail
    go_ret
    exact ⟨rfl, rfl⟩

def ka : ByteArray := ⟨#[97]⟩
def kb : ByteArray := ⟨#[98]⟩
theorem ka_list : ka.toList = [97] := by decide +kernel
theorem aw1 : frontK 2 3 1 ka (List.replicate 2 []) = ([[], [ka]], true) := by decide +kernel
theorem aw2 : frontK 2 3 1 kb [[], [ka]] = ([[], [kb, ka]], true) := by decide +kernel

set_option maxHeartbeats 2000000 in
theorem awake_any (w : World) : Calls Try.prog 9 #[] w fun e w' => e = .returned (.bool true) ∧ Keep (fun _ => False) w w' := by
  have N1 := Lib.hid (new_ok 2 3 (by omega) (by omega) (by omega) w)
  have q1 := ka_list
  go_enter Try.func9, Try.ntmps9
  go_wp2_with (first
    | (go_at_call 8; refine N1.out.mono ?_; rintro e w1 ⟨b, F, rfl, r1, f1, g1, k1⟩
       have T1 := Lib.hid (front_any r1 (by omega) 1 ka)
       rw [aw1] at T1
       replace f1 := Lib.hid f1
       replace g1 := Lib.hid g1
       clear r1)
    | (go_at_call 10; refine T1.out.mono ?_; clear T1; rintro e w2 ⟨rfl, r2, k2⟩
       have T2 := Lib.hid (front_any r2 (by omega) 1 kb)
       rw [aw2] at T2
       clear r2)
    | (go_at_call 10; refine T2.out.mono ?_; clear T2; rintro e w3 ⟨rfl, r3, k3⟩
       have T3 := Lib.hid (back_yes r3 1 [kb] ka rfl)
       replace r3 := Lib.hid r3)
    | (go_at_call 16; refine T3.out.mono ?_; clear T3; rintro e w4 ⟨rfl, k4⟩
       have r4 := r3.out.keep0 k4
       have T4 := Lib.hid (len_yes r4 1 _ rfl)
       have T5 := Lib.hid (free_at' r4)
       have T6 := Lib.hid (lists_at r4)
       clear r4 r3)
    | (go_at_call 13; refine T4.out.mono ?_; clear T4; rintro e w5 ⟨rfl, rfl⟩)
    | (go_at_call 14; refine T5.out.mono ?_; clear T5; rintro e w5 ⟨rfl, rfl⟩)
    | (go_at_call 18; refine T6.out.mono ?_; clear T6; rintro e w5 ⟨rfl, rfl⟩))
  go_ret
  exact ⟨rfl, ((k1.then k2 g1.out).then k3 g1.out).trans k4⟩

end Go.Proofs.Ytcllfdplbefaeaa.RinA
