/-
  The law LogOwn of layer 13 (log): the walk.
-/
import Derived.Test.YtiokngcfenfieaaLogL
namespace Go.Proofs.Ytiokngcfenfieaa.LogOwn
set_option linter.unusedVariables false
set_option linter.unusedSimpArgs false
open Go.RowKit Go.Proofs.Ytiokngcfenfieaa.Mask Go.Proofs.Ytiokngcfenfieaa.Mem Go.Proofs.Ytiokngcfenfieaa.LogW Go.Proofs.Ytiokngcfenfieaa.LogV Go.Proofs.Ytiokngcfenfieaa.LogU Go.Proofs.Ytiokngcfenfieaa.LogT Go.Proofs.Ytiokngcfenfieaa.LogS Go.Proofs.Ytiokngcfenfieaa.LogL

set_option maxHeartbeats 1000000 in
theorem logOwn_walk (n : Int) (w : World) (hw : (Lit.int .i64 n).wf = true) :
    Calls Try.prog 4 #[.int .i64 n] w fun e w' => e = .returned (.bool true) ∧ Below w.heap.size w w' := by
  obtain ⟨m, hm, hm2, -⟩ := i64_and n 4 (by omega)
  rw [show ((2 ^ 4 - 1 : Nat) : Int) = 15 from rfl] at hm
  rw [show 2 ^ 4 = 16 from rfl] at hm2
  clear hw
  go_enter Try.func4, Try.ntmps4
  go_wp2_with fail
  refine (new_at 0 20 (by omega) (by omega) _).mono ?_
  rintro e w1 ⟨rfl, l1, k1⟩
  go_wp2_with fail
  refine (awake_any _).mono ?_
  rintro e w2 ⟨rfl, k2⟩
  have L2 := Lib.hid (l1.keep k2 (fun _ _ e => e))
  have K2 := Lib.hid (k1.trans k2)
  clear l1 k1 k2
  go_wp2_with fail
  go_loopw [5] (fun i wr => ∃ (k : Nat) (F : Nat → Prop), k ≤ m + 1 ∧ i = .int .i64 k ∧ LogAt wr F w.heap.size 20 0 (seqs 0 k) ∧ (∀ j, F j → w.heap.size ≤ j) ∧ Keep (fun _ => False) w wr) (fun i wr => m + 1 - (intOf i).toNat)
  case atStart => exact ⟨0, _, by omega, rfl, L2.out, fun j e => by omega, K2.out⟩
  case round =>
    obtain ⟨k, F, hk, rfl, l3, hF, k3⟩ := hrel
    have L3 := Lib.hid l3
    have K3 := Lib.hid k3
    have HF := Lib.hid hF
    clear l3 k3 hF
    by_cases hlt : k < m + 1
    · have t1 : decide (k < 1 + m) = true := decide_eq_true (by omega)
      have t2 : decide ((k : Int) < 1 + (m : Int)) = true := decide_eq_true (by omega)
      go_wp2_with fail
      refine (add_at L3.out (rec0 ((k : Int) + 1) 0) (by omega) (by rw [seqs_length]; omega) (by omega) (by rw [seqs_length]; simp [rec0])).mono ?_
      rintro e w4 ⟨rfl, F4, l4, d4, k4⟩
      have L4 := Lib.hid l4
      have D4 := Lib.hid d4
      have K4 := Lib.hid k4
      clear l4 d4 k4
      go_wp2_with fail
      go_roundw
      case rel => exact ⟨k + 1, F4, by omega, by go_num, by rw [seqs_succ]; simpa using L4.out, fun j e => by rcases D4.out j e with h | h; exact HF.out j h; have := K3.out.size; omega, fresh K3.out K4.out HF.out⟩
      case measure => simp [intOf]; omega
    · obtain rfl : k = m + 1 := by omega
      go_wp2_with fail
      refine (from_yes L3.out 0 (m + 1) 100 (by omega) (by rw [seqs_length]; omega) (by omega) (by rw [seqs_length]; omega)).mono ?_
      rintro e w4 ⟨v4, rfl, r4, k4⟩
      have l4 := L3.out.keep k4 (fun _ _ e => e)
      have k4' := K3.out.trans k4
      obtain ⟨ao, cap, rfl, h | ⟨g, cur, rfl, hF4, hg, ht⟩⟩ := RowAt.form r4
      · have := congrArg List.length h; simp [seqs_length] at this
      have hlen : ((seqs 0 (m + 1)).drop 0 |>.take (m + 1)).length = m + 1 := by simp [seqs_length]
      rw [hlen] at ht ⊢
      have hcur : (m + 1) * 9 ≤ cur.size := by
        have h1 := congrArg List.length ht
        rw [flat_length, hlen, List.length_take, Array.length_toList] at h1
        omega
      have hgF : ∀ j, F j → j ≠ g := fun j hj e => by have := L3.out.foot j hj; omega
      have hgw : w.heap.size ≤ g := by have := K3.out.size; omega
      have Hg := Lib.hid hg
      have L4 := Lib.hid l4
      have K4 := Lib.hid k4'
      have HgF := Lib.hid hgF
      clear hg l4 k4' hgF ht r4 hlen k4 hF4
      go_wp2_with fail
      go_loopw [8] (fun i wx => ∃ (k : Nat) (cu : Array Value), k ≤ m + 1 ∧ i = .int .i64 k ∧ wx.heap[g]? = some (.cells cu TR (0, 0)) ∧ cu.size = cur.size ∧ Keep (fun j => j = g) w4 wx) (fun i wx => m + 1 - (intOf i).toNat)
      case atStart => exact ⟨0, cur, by omega, rfl, Hg.out, rfl, Keep.refl _ _⟩
      case round =>
        obtain ⟨k, cu, hk, rfl, hgx, hcu, kx⟩ := hrel
        by_cases hlt : k < m + 1
        · have hlt' : (k : Int) < (m : Int) + 1 := by omega
          have hi : k * 9 + 3 < cu.size := by omega
          have c3 := cell_at hgx (k * 9 + 3)
          rw [Array.getElem?_eq_getElem hi] at c3
          generalize cu[k * 9 + 3] = old at c3
          have f3 := free_at hgx (k * 9 + 3)
          have Hgx := Lib.hid hgx
          have Hcu := Lib.hid hcu
          have Kx := Lib.hid kx
          clear hgx hcu kx
          go_wp2_with fail
          go_roundw
          case rel => exact ⟨k + 1, _, by omega, by go_num, block_set Hgx.out _ _, by rw [Array.size_setIfInBounds]; exact Hcu.out, Kx.out.setCell (.inl rfl) _⟩
          case measure => simp [intOf]; omega
        · obtain rfl : k = m + 1 := by omega
          have L5 := Lib.hid (L4.out.keep kx (fun j hj e => HgF.out j hj e))
          have K5 := Lib.hid (fresh K4.out kx (fun j e => by omega))
          clear hgx hcu kx
          go_wp2_with fail
          refine (from_yes L5.out 0 (m + 1) 100 (by omega) (by rw [seqs_length]; omega) (by omega) (by rw [seqs_length]; omega)).mono ?_
          rintro e w6 ⟨v6, rfl, r6, k6⟩
          obtain ⟨ao, cap6, rfl, h | ⟨g6, cur6, rfl, hF6, hg6, ht6⟩⟩ := RowAt.form r6
          · have := congrArg List.length h; simp [seqs_length] at this
          have hlen : ((seqs 0 (m + 1)).drop 0 |>.take (m + 1)) = seqs 0 (m + 1) := by rw [List.drop_zero, List.take_of_length_le (by rw [seqs_length]; omega)]
          rw [hlen] at ht6 ⊢
          rw [seqs_length]
          have hc : ∀ i, i < m + 1 → w6.cell? ⟨g6, i * 9 + 3, none⟩ = some (.int .u64 0) := fun i hi => by
            rw [rec_cell hg6 ht6 (seqs_at 0 (m + 1) i hi) 3 (by omega)]; rfl
          have Hc := Lib.hid hc
          have K6 := Lib.hid (K5.out.trans k6)
          clear hc k6 hg6 ht6 hF6 hlen r6
          go_wp2_with fail
          go_loop [11] (fun i => ∃ (k : Nat), k ≤ m + 1 ∧ i = .int .i64 k) (fun i => m + 1 - (intOf i).toNat)
          case atStart => exact ⟨0, by omega, rfl⟩
          case round =>
            obtain ⟨k, hk, rfl⟩ := hrel
            by_cases hlt : k < m + 1
            · have hlt' : (k : Int) < (m : Int) + 1 := by omega
              have c3 := Hc.out k hlt
              go_wp2_with fail
              go_round
              case rel => exact ⟨k + 1, by omega, by go_num⟩
              case measure => simp [intOf]; omega
            · obtain rfl : k = m + 1 := by omega
              have he : ((m : Int) + 1 == 1 + (m : Int)) = true := by simp; omega
              go_wp2_with fail
              go_ret
              exact ⟨rfl, K6.out.below (Nat.le_refl _) (fun _ e => e.elim)⟩

end Go.Proofs.Ytiokngcfenfieaa.LogOwn
