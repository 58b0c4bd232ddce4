/-
  ArcScan: the walk.
-/
import Derived.Test.YtebjbkpgicbgeaaArcX
namespace Go.Proofs.Ytebjbkpgicbgeaa.ArcY
set_option linter.unusedVariables false
set_option linter.unusedSimpArgs false
set_option maxRecDepth 100000
open Go.RowKit Go.Proofs.Ytebjbkpgicbgeaa.Mem Go.Proofs.Ytebjbkpgicbgeaa.ArcP Go.Proofs.Ytebjbkpgicbgeaa.ArcQ Go.Proofs.Ytebjbkpgicbgeaa.ArcW Go.Proofs.Ytebjbkpgicbgeaa.ArcV Go.Proofs.Ytebjbkpgicbgeaa.ArcU Go.Proofs.Ytebjbkpgicbgeaa.ArcO Go.Proofs.Ytebjbkpgicbgeaa.ArcT Go.Proofs.Ytebjbkpgicbgeaa.ArcX Go.Proofs.Ytebjbkpgicbgeaa.Mask

theorem kept1 (c : Nat) (hc : 2 ≤ c) : ins c kp ⟨0, [], [], [], []⟩ = (⟨0, [kp], [], [], []⟩, none) := by
  unfold ins
  rw [if_neg (by decide), if_neg (by simp [isIn]), if_neg (by simp [isIn]), if_neg (by simp [isIn])]
  unfold fresh
  rw [if_neg (by show ¬ c ≤ 0 + 0; omega), if_neg (by show ¬ c ≤ 0; omega)]
  rfl
theorem kept2 : frA 1 kp ⟨0, [kp], [], [], []⟩ = ⟨0, [], [kp], [], []⟩ := by kernel_rfl
theorem kept3 : Scan 0 ⟨0, [], [kp], [], []⟩ := ⟨rfl, rfl, rfl, fun y hy => by cases hy⟩

set_option maxHeartbeats 4000000 in
theorem arcScan_walk (most many : Int) (w : World) (wp : (Lit.int .i64 most).wf = true) (wm : (Lit.int .i64 many).wf = true) :
    Calls Try.prog 4 #[.int .i64 most, .int .i64 many] w fun e w' => e = .returned (.bool true) ∧ Below w.heap.size w w' := by
  obtain ⟨c0, hc, hc2, -⟩ := i64_and most 4 (by omega)
  have hc' : bits .and .i64 most 15 = (c0 : Int) := hc
  have hc16 : c0 < 16 := hc2
  obtain ⟨m, hm, hm2, -⟩ := i64_and many 8 (by omega)
  have hm' : bits .and .i64 many 255 = (m : Int) := hm
  have hm256 : m < 256 := hm2
  obtain ⟨c, hcc⟩ : ∃ c, c = 2 + c0 := ⟨_, rfl⟩
  have N := Lib.hid (own_new c (by omega) (by omega) w)
  have hcc' : IntKind.i64.wrap ((2 : Int) + (c0 : Int)) = (c : Int) := (IntWalk.i64_in _ (by omega)).trans (by omega)
  have hc2c : 2 ≤ c := by omega
  have hcm : c ≤ 32 := by omega
  clear hcc hc16 hc hc2 hm hm2
  have xk : (isIn kp ([] : List ByteArray) || isIn kp [kp]) = true := by decide +kernel
  go_enter Try.func4, Try.ntmps4
  go_upto_region 5 with (first
    | (go_at_call 9; refine N.out.mono ?_; rintro e w1 ⟨ab, b, rfl, O1⟩; replace O1 := Lib.hid O1)
    | (go_at_call 10; refine (awake_any _).mono ?_; rintro e w2 ⟨rfl, k2⟩
       have O2 := Lib.hid (O1.out.keep0 k2)))
  go_upto_region 6 with (go_at_call 12; refine (own_insert O2.out (by omega) kp (by decide)).mono ?_; rintro e w3 ⟨v, rfl, o3, O3⟩; rw [kept1 c hc2c] at o3 O3; obtain rfl : v = .slice none 0 0 := o3; replace O3 := Lib.hid O3)
  go_wp2_with (go_at_call 15; refine (own_touch O3.out (by omega) kp (by decide) (by decide +kernel)).mono ?_; rintro e w4 ⟨rfl, O4⟩; rw [kept2] at O4; replace O4 := Lib.hid O4)
  go_loopw [8] (fun xi wr => ∃ (i T : Nat) (s : Ac), i ≤ m ∧ T ≤ 3 + 2 * i ∧ xi = .int .i64 (i : Int) ∧ Scan i s ∧ Hid (Own w wr ab b c T s)) (fun xi wr => m - (intOf xi).toNat)
  case atStart => exact ⟨0, 0 + 2 + 1, _, by omega, by omega, rfl, kept3, O4⟩
  case round =>
    obtain ⟨i, T, s, hi, hT, rfl, hS, hR⟩ := hrel
    by_cases hlt : i < m
    · have hcv := cvs i (by omega) wr
      have hd16 : ((i / 16 : Nat) : Int) = (i : Int) / 16 := by omega
      rw [hd16] at hcv
      have hmod : (i : Int) % 256 = (i : Int) := by omega
      have hq : Int.tdiv (i : Int) 16 = ((i / 16 : Nat) : Int) := by rw [Int.tdiv_eq_ediv_of_nonneg (by omega)]; omega
      have hq2 : (i : Int) / 16 % 256 = (i : Int) / 16 := by omega
      have T1 := Lib.hid (own_insert (hR.out.keep0 ((Keep.refl (fun _ => False) wr).alloc (.cells #[.int .u8 (i : Int), .int .u8 ((i : Int) / 16), .int .u8 115] 5))) (by omega) (sk i) (show (3 : Nat) ≤ _ by omega))
      clear hd16
      have hS2 := scan_ins hR.out.inv hc2c hS (by omega)
      have xk2 : (isIn kp (ins c (sk i) s).1.A || isIn kp (ins c (sk i) s).1.B) = true := by
        rw [Bool.or_eq_true, isIn_iff, isIn_iff, hS2.B]; exact .inr (List.mem_singleton.2 rfl)
      go_wp2_with (first
        | (go_at_call 12; refine T1.out.mono ?_; clear T1; rintro e w3 ⟨v, rfl, o3, O3⟩
           obtain ⟨ao, n, hv⟩ := o3.form
           subst hv
           have T2 := own_has O3 kp (by decide)
           rw [xk2] at T2
           replace T2 := Lib.hid T2
           replace O3 := Lib.hid O3)
        | (go_at_call 14; refine T2.out.mono ?_; rintro e w5 ⟨rfl, rfl⟩))
      go_roundw
      case rel => exact ⟨i + 1, T + 2, _, by omega, by omega, by go_num, hS2, O3⟩
      case measure => simp [intOf]; omega
    · obtain rfl : i = m := by omega
      have T2 := own_target hR.out
      rw [hS.t] at T2
      replace T2 := Lib.hid T2
      go_wp2_with (go_at_call 16; refine T2.out.mono ?_; rintro e w5 ⟨rfl, rfl⟩)
      go_ret
      exact ⟨rfl, hR.out.kept.below0⟩

end Go.Proofs.Ytebjbkpgicbgeaa.ArcY
