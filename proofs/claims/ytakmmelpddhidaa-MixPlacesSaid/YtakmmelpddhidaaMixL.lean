/-
  The walks of the laws of layer 1 (mix).
-/
import Derived.Test.YtakmmelpddhidaaMixW
import Derived.WalkKit
import Derived.OpenShut
namespace Go.Proofs.Ytakmmelpddhidaa.MixL
set_option linter.unusedVariables false
set_option linter.unusedSimpArgs false
open Go.RowKit Go.Proofs.Ytakmmelpddhidaa.MixP Go.Proofs.Ytakmmelpddhidaa.MixW

theorem u64_of {n : Int} (h : (Lit.int .u64 n).wf = true) : ∃ x, n = uI x := by
  have := bounds_u64 h
  exact uI_of n this.1 (by omega)

theorem mixExact_walk (n : Int) (w : World) (h : (Lit.int .u64 n).wf = true) :
    Calls Try.prog 3 #[.int .u64 n] w fun e w' => e = .returned (.bool true) ∧ Below w.heap.size w w' := by
  obtain ⟨x, rfl⟩ := u64_of h
  clear h
  go_enter Try.func3, Try.ntmps3
  go_wp2_with (first | (go_at_call 8; refine (awake_any _).mono ?_; rintro e w' ⟨rfl, hb⟩) | (go_at_call 9; refine (mix_any _ _).mono ?_; rintro e w' ⟨rfl, rfl⟩) | (go_at_call 10; refine (refMix_any _ _).mono ?_; rintro e w' ⟨rfl, rfl⟩))
  go_ret
  exact ⟨rfl, hb⟩

theorem mixBack_walk (n : Int) (w : World) (h : (Lit.int .u64 n).wf = true) :
    Calls Try.prog 4 #[.int .u64 n] w fun e w' => e = .returned (.bool true) ∧ Below w.heap.size w w' := by
  obtain ⟨x, rfl⟩ := u64_of h
  clear h
  have h1 := unmix_mix
  have h2 := mix_unmix
  go_enter Try.func4, Try.ntmps4
  go_wp2_with (first | (go_at_call 8; refine (awake_any _).mono ?_; rintro e w' ⟨rfl, hb⟩) | (go_at_call 9; refine (mix_any _ _).mono ?_; rintro e w' ⟨rfl, rfl⟩) | (go_at_call 11; refine (unmix_any _ _).mono ?_; rintro e w' ⟨rfl, rfl⟩))
  go_ret
  exact ⟨rfl, hb⟩

theorem mix_iff (x y : BitVec 64) : (uI (mix x) == uI (mix y)) = (uI x == uI y) := by
  rw [Bool.eq_iff_iff, beq_iff_eq, beq_iff_eq]
  constructor
  · intro h
    have := congrArg unmix (uI_inj h)
    rw [unmix_mix, unmix_mix] at this
    rw [this]
  · intro h; rw [uI_inj h]

theorem mixUnlike_walk (n m : Int) (w : World) (h : (Lit.int .u64 n).wf = true) (h' : (Lit.int .u64 m).wf = true) :
    Calls Try.prog 5 #[.int .u64 n, .int .u64 m] w fun e w' => e = .returned (.bool true) ∧ Below w.heap.size w w' := by
  obtain ⟨x, rfl⟩ := u64_of h
  obtain ⟨y, rfl⟩ := u64_of h'
  clear h h'
  have h1 := mix_iff x y
  go_enter Try.func5, Try.ntmps5
  go_wp2_with (first | (go_at_call 8; refine (awake_any _).mono ?_; rintro e w' ⟨rfl, hb⟩) | (go_at_call 9; refine (mix_any _ _).mono ?_; rintro e w' ⟨rfl, rfl⟩))
  go_ret
  exact ⟨rfl, hb⟩

theorem mixTexts_walk (n : Int) (s : ByteArray) (w : World) (h : (Lit.int .u64 n).wf = true) (hs : s.size ≤ 140737488351232) :
    Calls Try.prog 6 #[.int .u64 n, .string s] w fun e w' => e = .returned (.bool true) ∧ Below w.heap.size w w' := by
  obtain ⟨x, rfl⟩ := u64_of h
  clear h
  have hm : s.size ≤ maxLen := by unfold maxLen; omega
  go_enter Try.func6, Try.ntmps6
  go_wp2_with (first | (go_at_call 8; refine (awake_any _).mono ?_; rintro e w' ⟨rfl, hb⟩) | (go_at_call 12; refine (of_any _ _ hm _).mono ?_; rintro e w' ⟨rfl, hb2⟩) | (go_at_call 13; refine (refOf_any _ _ hm _).mono ?_; rintro e w' ⟨rfl, rfl⟩))
  go_ret
  exact ⟨rfl, hb.trans (hb2.mono hb.size)⟩

theorem mixPlaces_walk (n row size : Int) (w : World) (h : (Lit.int .u64 n).wf = true) (hr : (Lit.int .i64 row).wf = true) (hs : (Lit.int .i64 size).wf = true) :
    Calls Try.prog 7 #[.int .u64 n, .int .i64 row, .int .i64 size] w fun e w' => e = .returned (.bool true) ∧ Below w.heap.size w w' := by
  obtain ⟨x, rfl⟩ := u64_of h
  have h2 := (bounds_i64 hs).2
  clear h hr hs
  by_cases h1 : size < 1
  · have e : place x row size = 0 := by unfold place; rw [if_pos h1]
    go_enter Try.func7, Try.ntmps7
    go_wp2_with (first | (go_at_call 8; refine (awake_any _).mono ?_; rintro e w' ⟨rfl, hb⟩) | (go_at_call 14; refine (place_any _ _ _ h2 _).mono ?_; rintro e w' ⟨rfl, rfl⟩) | (go_at_call 15; refine (refPlace_any _ _ _ h2 _).mono ?_; rintro e w' ⟨rfl, rfl⟩))
    go_ret
    exact ⟨rfl, hb⟩
  · obtain ⟨h3, h4⟩ := place_bd x row size (by omega) h2
    have h5 : decide (place x row size < size) = true := by simpa using h4
    have h6 : decide (0 ≤ place x row size) = true := by simpa using h3
    go_enter Try.func7, Try.ntmps7
    go_wp2_with (first | (go_at_call 8; refine (awake_any _).mono ?_; rintro e w' ⟨rfl, hb⟩) | (go_at_call 14; refine (place_any _ _ _ h2 _).mono ?_; rintro e w' ⟨rfl, rfl⟩) | (go_at_call 15; refine (refPlace_any _ _ _ h2 _).mono ?_; rintro e w' ⟨rfl, rfl⟩))
    go_ret
    exact ⟨rfl, hb⟩

end Go.Proofs.Ytakmmelpddhidaa.MixL
