/-
  Layer 6 (ring): the law RingShares.
-/
import Derived.Test.YtcllfdplbefaeaaRinA
import Derived.Test.YtcllfdplbefaeaaMask
import Derived.Laws.IdiomStrings
namespace Go.Proofs.Ytcllfdplbefaeaa.RinS
set_option linter.unusedVariables false
set_option linter.unusedSimpArgs false
open Go.RowKit Go.Proofs.Ytcllfdplbefaeaa.Mem Go.Proofs.Ytcllfdplbefaeaa.RinM Go.Proofs.Ytcllfdplbefaeaa.RinP Go.Proofs.Ytcllfdplbefaeaa.RinW Go.Proofs.Ytcllfdplbefaeaa.RinL Go.Proofs.Ytcllfdplbefaeaa.RinF Go.Proofs.Ytcllfdplbefaeaa.RinG Go.Proofs.Ytcllfdplbefaeaa.RinH Go.Proofs.Ytcllfdplbefaeaa.RinD Go.Proofs.Ytcllfdplbefaeaa.RinN Go.Proofs.Ytcllfdplbefaeaa.RinA Go.Proofs.Ytcllfdplbefaeaa.Mask

def ks (t : Nat) : ByteArray := ⟨#[UInt8.ofNat (97 + t)]⟩
def kn : ByteArray := ⟨#[110, 101, 119, 32, 107, 101, 121]⟩
def sh (i : Nat) : Keys := (List.range i).foldl (fun K t => pushK (t % 3) (ks t) K) [[], [], []]
def sh2 (n i : Nat) : Keys := (List.range i).foldl (fun K t => pushK 2 (ks t) (remK (ks t) K)) (sh n)
def sh3 (n : Nat) : Keys := pushK 1 kn (remK (ks 0) (sh2 n n))
theorem share1 : ∀ n, n < 16 → ∀ i, i < n → frontK 3 n ((i : Int) % 3) (ks i) (sh i) = (sh (i + 1), true) := by decide +kernel
theorem share2 : ∀ n, n < 16 → n - (sh n).flatten.length = 0 ∧ frontK 3 n 0 kn (sh n) = (sh n, false) := by decide +kernel
theorem share3 : ∀ n, n < 16 → ∀ i, i < n → frontK 3 n 2 (ks i) (sh2 n i) = (sh2 n (i + 1), true) := by decide +kernel
theorem share4 : ∀ n, n < 16 → (sh2 n n)[0]? = some [] ∧ (sh2 n n)[1]? = some [] ∧ ((sh2 n n)[2]?.map List.length) = some n := by decide +kernel
theorem share5 : ∀ n, n < 16 → 1 ≤ n → hasK (ks 0) (sh2 n n) = true ∧ frontK 3 n 1 kn (remK (ks 0) (sh2 n n)) = (sh3 n, true) ∧ (sh3 n).flatten.length = n ∧ ((sh3 n).flatten.all fun y => decide (y.data.toList.getLast? ≠ some 33)) = true := by decide +kernel
theorem share6 (n : Nat) (hn : n < 16) (h1 : 1 ≤ n) (s : ByteArray) : frontK 3 n 1 (s ++ ⟨#[33]⟩) (sh3 n) = (sh3 n, false) := by
  obtain ⟨-, -, h3, h4⟩ := share5 n hn h1
  unfold frontK
  split
  · rfl
  · rw [if_neg, if_pos (by omega)]
    intro e
    have := of_decide_eq_true (List.all_eq_true.1 h4 _ ((hasK_iff _ _).1 e))
    apply this
    rw [ByteArray.data_append, Array.toList_append]
    simp
theorem sh2_zero (n : Nat) : sh2 n 0 = sh n := rfl
theorem cvt (i : Nat) (hi : i < 16) (W : World) : (convert 36 9 (.slice (some ⟨W.heap.size, 0, none⟩) 1 1)).run Try.prog (W.alloc (.cells #[.int .u8 (97 + (i : Int))] 5)) = .ok (.string (ks i)) (W.alloc (.cells #[.int .u8 (97 + (i : Int))] 5)) :=
  run_convert_bytes_back (W.alloc (.cells #[.int .u8 (97 + (i : Int))] 5)) 36 9 5 ⟨W.heap.size, 0, none⟩ 1 [UInt8.ofNat (97 + i)] Try.underlying36 Try.underlying5 Try.underlying9 (fun j hj => by
    obtain rfl : j = 0 := by simpa using hj
    show (W.alloc _).cell? ⟨W.heap.size, 0, none⟩ = _
    rw [cell_at (block_new W _) 0]
    have : ((UInt8.ofNat (97 + i)).toNat : Int) = 97 + (i : Int) := by rw [UInt8.toNat_ofNat']; omega
    simp
    omega)

set_option maxHeartbeats 8000000 in
set_option maxRecDepth 100000 in
theorem ringShares_walk (places : Int) (more : ByteArray) (w : World) (wp : (Lit.int .i64 places).wf = true) (wm : more.size ≤ 9223372036854775807) :
    Calls Try.prog 5 #[.int .i64 places, .string more] w fun e w' => e = .returned (.bool true) ∧ Below w.heap.size w w' := by
  obtain ⟨n, hn, hn2, -⟩ := i64_and places 4 (by omega)
  have hn' : bits .and .i64 places 15 = (n : Int) := hn
  have hn16 : n < 16 := hn2
  have N1 := Lib.hid (new_ok 3 n (by omega) (by omega) (by omega) w)
  have S1 := Lib.hid (share1 n hn16)
  have S3 := Lib.hid (share3 n hn16)
  clear hn hn2
  go_enter Try.func5, Try.ntmps5
  go_wp2_with (first
    | (go_at_call 8; refine N1.out.mono ?_; rintro e w1 ⟨b, F, rfl, r1, f1, g1, k1⟩; replace r1 := Lib.hid r1; replace f1 := Lib.hid f1; replace g1 := Lib.hid g1; replace k1 := Lib.hid k1)
    | (go_at_call 9; refine (awake_any _).mono ?_; rintro e w2 ⟨rfl, k2⟩; replace k2 := Lib.hid k2))
  go_loopw [8] (fun xi wr => ∃ (i T : Nat), i ≤ n ∧ T ≤ 1000 + i ∧ xi = .int .i64 (i : Int) ∧ Hid (Ring wr F b 3 n T (sh i)) ∧ Hid (Keep (fun _ => False) w wr)) (fun xi wr => n - (intOf xi).toNat)
  case atStart => exact ⟨0, 0, by omega, by omega, rfl, Lib.hid (r1.out.keep0 k2.out), Lib.hid (k1.out.trans k2.out)⟩
  case round =>
    obtain ⟨i, T, hi, hT, rfl, hR, hK⟩ := hrel
    by_cases hlt : i < n
    · have hcv := cvt i (by omega) wr
      have hmod : (97 + (i : Int)) % 256 = 97 + (i : Int) := by omega
      have T1 := Lib.hid (front_any (hR.out.keep0 ((Keep.refl (fun _ => False) wr).alloc (.cells #[.int .u8 (97 + (i : Int))] 5))) (by omega) ((i : Int) % 3) (ks i))
      rw [S1.out i hlt] at T1
      go_wp2_with (go_at_call 10; refine T1.out.mono ?_; clear T1; rintro e w3 ⟨rfl, r3, k3⟩; replace r3 := Lib.hid r3; replace k3 := Lib.hid k3)
      go_roundw
      case rel => exact ⟨i + 1, T + 1, by omega, by omega, by go_num, r3, Lib.hid (hK.out.then (((Keep.refl _ wr).alloc _).trans k3.out) g1.out)⟩
      case measure => simp [intOf]; omega
    · obtain rfl : i = n := by omega
      obtain ⟨q1, q2⟩ := share2 i hn16
      have T1 := Lib.hid (free_at' hR.out)
      rw [q1] at T1
      have T2 := Lib.hid (front_any hR.out (by omega) 0 kn)
      rw [q2] at T2
      clear q1 q2
      go_wp2_with (first
        | (go_at_call 14; refine T1.out.mono ?_; clear T1; rintro e w3 ⟨rfl, rfl⟩)
        | (go_at_call 10; refine T2.out.mono ?_; clear T2; rintro e w3 ⟨rfl, r3, k3⟩; replace r3 := Lib.hid r3; replace k3 := Lib.hid k3))
      go_loopw [9] (fun xi wq => ∃ (j T : Nat), j ≤ i ∧ T ≤ 2000 + j ∧ xi = .int .i64 (j : Int) ∧ Hid (Ring wq F b 3 i T (sh2 i j)) ∧ Hid (Keep (fun _ => False) w wq)) (fun xi wq => i - (intOf xi).toNat)
      case atStart => exact ⟨0, T + 1, by omega, by omega, rfl, r3, Lib.hid (hK.out.then k3.out g1.out)⟩
      case round =>
        obtain ⟨j, T', hj, hT', rfl, hR2, hK2⟩ := hrel
        by_cases hlt2 : j < i
        · rename_i wq _ _ _
          have hcv := fun W => cvt j (by omega) W
          have hmod : (97 + (j : Int)) % 256 = 97 + (j : Int) := by omega
          have T1 := Lib.hid (fun o => front_any (hR2.out.keep0 ((Keep.refl (fun _ => False) _).alloc o)) (by omega) 2 (ks j))
          rw [S3.out j hlt2] at T1
          go_wp2_with (go_at_call 10; refine (T1.out _).mono ?_; clear T1; rintro e w4 ⟨rfl, r4, k4⟩; replace r4 := Lib.hid r4; replace k4 := Lib.hid k4)
          go_roundw
          case rel => exact ⟨j + 1, T' + 1, by omega, by omega, by go_num, r4, Lib.hid (hK2.out.then (((Keep.refl _ _).alloc _).trans k4.out) g1.out)⟩
          case measure => simp [intOf]; omega
        · obtain rfl : j = i := by omega
          obtain ⟨q1, q2, q3⟩ := share4 j hn16
          obtain ⟨l, hl, hll⟩ := Option.map_eq_some_iff.1 q3
          have T1 := Lib.hid (len_yes hR2.out 2 l hl)
          have T2 := Lib.hid (len_yes hR2.out 0 [] q1)
          have T3 := Lib.hid (len_yes hR2.out 1 [] q2)
          rw [hll] at T1
          clear q1 q2 q3 hl hll
          by_cases h0 : j = 0
          · have h0' : ((j : Int) == 0) = true := by rw [beq_iff_eq]; omega
            go_wp2_with (first
              | (go_at_call 13; refine T1.out.mono ?_; clear T1; rintro e w3 ⟨rfl, rfl⟩)
              | (go_at_call 13; refine T2.out.mono ?_; clear T2; rintro e w3 ⟨rfl, rfl⟩)
              | (go_at_call 13; refine T3.out.mono ?_; clear T3; rintro e w3 ⟨rfl, rfl⟩))
            go_ret
            exact ⟨rfl, hK2.out.below0⟩
          · have h0' : ((j : Int) == 0) = false := by rw [beq_eq_false_iff_ne]; omega
            obtain ⟨p1, p2, p3, p4⟩ := share5 j hn16 (by omega)
            have p6 := share6 j hn16 (by omega) (fewS more)
            have hfw := fewS_le more
            have hfw2 : ((fewS more).size : Int) ≤ 80 := by omega
            have T4 := Lib.hid (drop_yes hR2.out (ks 0) (show 1 ≤ _ by omega) ((hasK_iff _ _).1 p1))
            have P2 := Lib.hid p2
            have P6 := Lib.hid p6
            clear p1 p2 p3 p4 p6
            go_wp2_with (first
              | (go_at_call 13; refine T1.out.mono ?_; clear T1; rintro e w3 ⟨rfl, rfl⟩)
              | (go_at_call 13; refine T2.out.mono ?_; clear T2; rintro e w3 ⟨rfl, rfl⟩)
              | (go_at_call 13; refine T3.out.mono ?_; clear T3; rintro e w3 ⟨rfl, rfl⟩)
              | (go_at_call 15; refine T4.out.mono ?_; clear T4; rintro e w5 ⟨rfl, F5, r5, f5, g5, k5⟩
                 replace g5 := Lib.hid g5
                 replace k5 := Lib.hid k5
                 have T5 := Lib.hid (front_any r5 (by omega) 1 kn)
                 rw [P2.out] at T5
                 clear r5 f5)
              | (go_at_call 10; refine T5.out.mono ?_; clear T5; rintro e w6 ⟨rfl, r6, k6⟩
                 replace k6 := Lib.hid k6
                 have T6 := Lib.hid (front_any r6 (by omega) 1 (fewS more ++ ⟨#[33]⟩))
                 rw [P6.out] at T6
                 clear r6)
              | (go_at_call 11; refine (few_any more wm _).mono ?_; rintro e w7 ⟨rfl, rfl⟩)
              | (go_at_call 10; refine T6.out.mono ?_; clear T6; rintro e w7 ⟨rfl, r7, k7⟩; replace r7 := Lib.hid r7; replace k7 := Lib.hid k7))
            go_ret
            have a5 : ∀ i, F5 i → w.heap.size ≤ i := fun i hi => (g5.out i hi).elim (g1.out i) (fun e => Nat.le_trans hK2.out.size e)
            exact ⟨rfl, (((hK2.out.then k5.out g1.out).then k6.out a5).then k7.out a5).below0⟩

end Go.Proofs.Ytcllfdplbefaeaa.RinS
