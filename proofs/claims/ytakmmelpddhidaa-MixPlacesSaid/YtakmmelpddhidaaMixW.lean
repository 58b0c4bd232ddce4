/-
  The walks of layer 1 (mix): each function once.
-/
import Derived.Test.YtakmmelpddhidaaProg
import Derived.Test.YtakmmelpddhidaaMixP
import Derived.WalkKit
import Derived.Lib.ConvBytes
namespace Go.Proofs.Ytakmmelpddhidaa.MixW
set_option linter.unusedVariables false
set_option linter.unusedSimpArgs false
open Go.RowKit Go.Proofs.Ytakmmelpddhidaa.MixP

theorem ret_u64 {a b : Int} (h : a = b) : Ending.returned (.int .u64 a) = .returned (.int .u64 b) := by rw [h]
theorem rot29 (x : BitVec 64) (w : World) :
    Calls Try.prog 16 #[.int .u64 (uI x), .int .i64 29] w fun e w' => e = .returned (.int .u64 (uI (x.rotateLeft 29))) ∧ w = w' := by
  have h1 : bits .and .u64 29 63 = 29 := by decide +kernel
  go_enter Try.func16, Try.ntmps16
  go_wp2
  go_ret
  exact ⟨ret_u64 (rotl_raw x), rfl⟩
theorem rotm29 (x : BitVec 64) (w : World) :
    Calls Try.prog 16 #[.int .u64 (uI x), .int .i64 (-29)] w fun e w' => e = .returned (.int .u64 (uI (x.rotateRight 29))) ∧ w = w' := by
  have h1 : bits .and .u64 (IntKind.u64.wrap (-29)) 63 = 35 := by decide +kernel
  go_enter Try.func16, Try.ntmps16
  go_wp2
  go_ret
  exact ⟨ret_u64 (rotr_raw x), rfl⟩


theorem mix_any (x : BitVec 64) (w : World) :
    Calls Try.prog 9 #[.int .u64 (uI x)] w fun e w' => e = .returned (.int .u64 (uI (mix x))) ∧ w = w' := by
  have h1 := half_raw
  have h2 := mulC
  go_enter Try.func9, Try.ntmps9
  go_wp2_with (go_at_call 16; refine (rot29 _ _).mono ?_; rintro e w' ⟨rfl, rfl⟩)
  go_ret
  exact ⟨rfl, rfl⟩

theorem unmix_any (x : BitVec 64) (w : World) :
    Calls Try.prog 11 #[.int .u64 (uI x)] w fun e w' => e = .returned (.int .u64 (uI (unmix x))) ∧ w = w' := by
  have h1 := half_raw
  have h2 := mulD
  go_enter Try.func11, Try.ntmps11
  go_wp2_with (go_at_call 16; refine (rotm29 _ _).mono ?_; rintro e w' ⟨rfl, rfl⟩)
  go_ret
  exact ⟨rfl, rfl⟩


theorem turn_step (x : BitVec 64) (k : Nat) (hk : k + 1 < 64) : Value.int .u64 (IntKind.u64.wrap (IntKind.u64.wrap (uI (x.rotateLeft k) * 2) + IntKind.u64.wrap (Int.tdiv (uI (x.rotateLeft k)) 9223372036854775808))) = .int .u64 (uI (x.rotateLeft (k + 1))) := by
  rw [top_raw, mul2, wrap_add, rot_step _ _ hk]
theorem turn_any (x : BitVec 64) (w : World) :
    Calls Try.prog 17 #[.int .u64 (uI x), .int .i64 29] w fun e w' => e = .returned (.int .u64 (uI (x.rotateLeft 29))) ∧ w = w' := by
  go_enter Try.func17, Try.ntmps17
  go_wp2
  go_loop [0, 5, 6] (fun n i t => ∃ k : Nat, k ≤ 29 ∧ i = .int .i64 k ∧ n = .int .u64 (uI (x.rotateLeft k))) (fun _ i _ => 29 - (intOf i).toNat)
  case atStart => exact ⟨0, by omega, rfl, by rw [rot_zero]⟩
  case round =>
    obtain ⟨k, hk, rfl, rfl⟩ := hrel
    by_cases hlt : k < 29
    · go_wp2
      go_round
      case rel => exact ⟨k + 1, by omega, by go_num, turn_step _ _ (by omega)⟩
      case measure => simp [intOf]; omega
    · obtain rfl : k = 29 := by omega
      go_wp2
      go_ret
      exact ⟨rfl, rfl⟩

theorem refMix_any (x : BitVec 64) (w : World) :
    Calls Try.prog 10 #[.int .u64 (uI x)] w fun e w' => e = .returned (.int .u64 (uI (mix x))) ∧ w = w' := by
  have h1 := div_shift
  have h0 := bits_xor
  have h4 := tdiv_shift
  have h5 := wrap_uI
  have h2 := mulC
  go_enter Try.func10, Try.ntmps10
  go_wp2_with (go_at_call 17; refine (turn_any _ _).mono ?_; rintro e w' ⟨rfl, rfl⟩)
  go_ret
  exact ⟨rfl, rfl⟩


theorem of_below (w : World) (e : TypeId) (s : ByteArray) : Below w.heap.size w (Lib.bytesWorld w e s) := by
  refine ⟨rfl, rfl, rfl, ?_, fun k hk => Lib.bytesWorld_at_old w e s k hk⟩
  rw [Lib.bytesWorld_size]; omega

theorem of_any (x : BitVec 64) (s : ByteArray) (hs : s.size ≤ maxLen) (w : World) :
    Calls Try.prog 12 #[.int .u64 (uI x), .string s] w fun e w' => e = .returned (.int .u64 (uI (ofNum x s))) ∧ Below w.heap.size w w' := by
  unfold maxLen at hs
  have hb := of_below w 5 s
  have h0 := xorB
  have h1 := xor_byte
  have h2 := mulS
  have hcv := fun w => Lib.run_convert_string_bytes (P := Try.prog) w 9 33 5 s Try.underlying9 Try.underlying33 Try.underlying5
  go_enter Try.func12, Try.ntmps12
  go_wp2_with (go_at_call 9; refine (mix_any _ _).mono ?_; rintro e w' ⟨rfl, rfl⟩)
  clear hcv h0
  go_loop [5, 7, 14] (fun h c i => ∃ k : Nat, k ≤ s.size ∧ i = .int .i64 k ∧ h = .int .u64 (uI (ofFold (B ^^^ mix x) (s.data.toList.take k)))) (fun _ _ i => s.size - (intOf i).toNat)
  case atStart => exact ⟨0, by omega, rfl, rfl⟩
  case round =>
    obtain ⟨k, hk, rfl, rfl⟩ := hrel
    by_cases hlt : k < s.size
    · have hc := Lib.bytesWorld_cell w 5 s k hlt
      go_wp2
      go_round
      case rel => exact ⟨k + 1, by omega, by go_num, of_next _ _ _ hlt⟩
      case measure => simp [intOf]; omega
    · obtain rfl : k = s.size := by omega
      have hx := fun h => xor_nat h s.size (by omega)
      go_wp2_with (go_at_call 9; refine (mix_any _ _).mono ?_; rintro e w' ⟨rfl, rfl⟩)
      go_ret
      exact ⟨ret_u64 (by unfold ofNum; rw [List.take_of_length_le (by simp)]), hb⟩

theorem refOf_any (x : BitVec 64) (s : ByteArray) (hs : s.size ≤ maxLen) (w : World) :
    Calls Try.prog 13 #[.int .u64 (uI x), .string s] w fun e w' => e = .returned (.int .u64 (uI (ofNum x s))) ∧ w = w' := by
  unfold maxLen at hs
  have h0 := xorB
  have h1 := xor_byte
  have h2 := mulS
  go_enter Try.func13, Try.ntmps13
  go_wp2_with (go_at_call 10; refine (refMix_any _ _).mono ?_; rintro e w' ⟨rfl, rfl⟩)
  go_loop [5, 6] (fun h i => ∃ k : Nat, k ≤ s.size ∧ i = .int .i64 k ∧ h = .int .u64 (uI (ofFold (B ^^^ mix x) (s.data.toList.take k)))) (fun _ i => s.size - (intOf i).toNat)
  case atStart => exact ⟨0, by omega, rfl, rfl⟩
  case round =>
    obtain ⟨k, hk, rfl, rfl⟩ := hrel
    by_cases hlt : k < s.size
    · go_wp2
      go_round
      case rel => exact ⟨k + 1, by omega, by go_num, of_next _ _ _ hlt⟩
      case measure => simp [intOf]; omega
    · obtain rfl : k = s.size := by omega
      have hx := fun h => xor_nat h s.size (by omega)
      go_wp2_with (go_at_call 10; refine (refMix_any _ _).mono ?_; rintro e w' ⟨rfl, rfl⟩)
      go_ret
      exact ⟨ret_u64 (by unfold ofNum; rw [List.take_of_length_le (by simp)]), rfl⟩


theorem ret2_u64 {a b c d : Int} (h : a = c) (h' : b = d) : Ending.returned (.tuple #[.int .u64 a, .int .u64 b]) = .returned (.tuple #[.int .u64 c, .int .u64 d]) := by rw [h, h']
theorem ret_int {a b : Int} (h : a = b) : Ending.returned (.int .i64 a) = .returned (.int .i64 b) := by rw [h]
theorem mul64_any (x y : BitVec 64) (w : World) :
    Calls Try.prog 18 #[.int .u64 (uI x), .int .u64 (uI y)] w fun e w' => e = .returned (.tuple #[.int .u64 (hi x y), .int .u64 (uI (x * y))]) ∧ w = w' := by
  go_enter Try.func18, Try.ntmps18
  go_wp2
  go_ret2
  exact ⟨ret2_u64 (mul64_raw x y) (wrap_mul x y), rfl⟩

theorem high_any (x y : BitVec 64) (w : World) :
    Calls Try.prog 19 #[.int .u64 (uI x), .int .u64 (uI y)] w fun e w' => e = .returned (.int .u64 (hi x y)) ∧ w = w' := by
  have h1 := tdiv_low
  have h2 := tmod_low
  have h3 := fun z : BitVec 64 => wrap_in (uI z / 4294967296) (by have := parts z; omega) (by have := parts z; omega)
  go_enter Try.func19, Try.ntmps19
  go_wp2
  go_ret
  exact ⟨ret_u64 (high_raw x y), rfl⟩

theorem place_any (x : BitVec 64) (row size : Int) (h2 : size ≤ 9223372036854775807) (w : World) :
    Calls Try.prog 14 #[.int .u64 (uI x), .int .i64 row, .int .i64 size] w fun e w' => e = .returned (.int .i64 (place x row size)) ∧ w = w' := by
  by_cases h1 : size < 1
  · go_enter Try.func14, Try.ntmps14
    go_wp2
    go_ret
    exact ⟨ret_int (by unfold place; rw [if_pos h1]), rfl⟩
  · have h1' : 1 ≤ size := by omega
    have hr := wrap_ofInt row
    have hsz := wrap_ofInt size
    have hm := mulC
    have ha := wrap_add
    go_enter Try.func14, Try.ntmps14
    go_wp2_with (first | (go_at_call 9; refine (mix_any _ _).mono ?_; rintro e w' ⟨rfl, rfl⟩) | (go_at_call 18; refine (mul64_any _ _ _).mono ?_; rintro e w' ⟨rfl, rfl⟩))
    go_ret
    exact ⟨ret_int (wrap64_place x row size h1' h2), rfl⟩

theorem refPlace_any (x : BitVec 64) (row size : Int) (h2 : size ≤ 9223372036854775807) (w : World) :
    Calls Try.prog 15 #[.int .u64 (uI x), .int .i64 row, .int .i64 size] w fun e w' => e = .returned (.int .i64 (place x row size)) ∧ w = w' := by
  by_cases h1 : size < 1
  · go_enter Try.func15, Try.ntmps15
    go_wp2
    go_ret
    exact ⟨ret_int (by unfold place; rw [if_pos h1]), rfl⟩
  · have h1' : 1 ≤ size := by omega
    have hr := wrap_ofInt row
    have hsz := wrap_ofInt size
    have hm := mulC
    have ha := wrap_add
    go_enter Try.func15, Try.ntmps15
    go_wp2_with (first | (go_at_call 10; refine (refMix_any _ _).mono ?_; rintro e w' ⟨rfl, rfl⟩) | (go_at_call 19; refine (high_any _ _ _).mono ?_; rintro e w' ⟨rfl, rfl⟩))
    go_ret
    exact ⟨ret_int (wrap64_place x row size h1' h2), rfl⟩


theorem mix_1 (w : World) : Calls Try.prog 9 #[.int .u64 1] w fun e w' => e = .returned (.int .u64 883649704763922746) ∧ w = w' := by
  have h := mix_any 1#64 w
  rw [show uI (mix 1#64) = 883649704763922746 from by decide +kernel, show uI 1#64 = 1 from by decide +kernel] at h
  exact h
theorem mix_7 (w : World) : Calls Try.prog 9 #[.int .u64 7] w fun e w' => e = .returned (.int .u64 3776750706624553579) ∧ w = w' := by
  have h := mix_any 7#64 w
  rw [show uI (mix 7#64) = 3776750706624553579 from by decide +kernel, show uI 7#64 = 7 from by decide +kernel] at h
  exact h
theorem unmix_7 (w : World) : Calls Try.prog 11 #[.int .u64 3776750706624553579] w fun e w' => e = .returned (.int .u64 7) ∧ w = w' := by
  have h := unmix_any 3776750706624553579#64 w
  rw [show uI (unmix 3776750706624553579#64) = 7 from by decide +kernel, show uI 3776750706624553579#64 = 3776750706624553579 from by decide +kernel] at h
  exact h
theorem of_a (w : World) : Calls Try.prog 12 #[.int .u64 0, .string ⟨#[97]⟩] w fun e w' => e = .returned (.int .u64 12593901178187133783) ∧ Below w.heap.size w w' := by
  have h := of_any 0#64 ⟨#[97]⟩ (by decide +kernel) w
  rw [show uI (ofNum 0#64 ⟨#[97]⟩) = 12593901178187133783 from by decide +kernel, show uI 0#64 = 0 from by decide +kernel] at h
  exact h

theorem awake_any (w : World) : Calls Try.prog 8 #[] w fun e w' => e = .returned (.bool true) ∧ Below w.heap.size w w' := by
  go_enter Try.func8, Try.ntmps8
  go_wp2_with fail
  refine (mix_1 _).mono ?_; rintro e w' ⟨rfl, rfl⟩
  go_wp2_with fail
  refine (mix_1 _).mono ?_; rintro e w' ⟨rfl, rfl⟩
  go_wp2_with fail
  refine (mix_7 _).mono ?_; rintro e w' ⟨rfl, rfl⟩
  go_wp2_with fail
  refine (unmix_7 _).mono ?_; rintro e w' ⟨rfl, rfl⟩
  go_wp2_with fail
  refine (of_a _).mono ?_; rintro e w' ⟨rfl, hb⟩
  go_wp2_with fail
  go_ret
  exact ⟨rfl, hb⟩

end Go.Proofs.Ytakmmelpddhidaa.MixW
