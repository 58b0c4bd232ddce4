/-
  The law LogFrom of layer 13 (log): the walk.
-/
import Derived.Test.YtiokngcfenfieaaLogL
namespace Go.Proofs.Ytiokngcfenfieaa.LogFrom
set_option linter.unusedVariables false
set_option linter.unusedSimpArgs false
open Go.RowKit Go.Proofs.Ytiokngcfenfieaa.Mask Go.Proofs.Ytiokngcfenfieaa.Mem Go.Proofs.Ytiokngcfenfieaa.LogW Go.Proofs.Ytiokngcfenfieaa.LogV Go.Proofs.Ytiokngcfenfieaa.LogU Go.Proofs.Ytiokngcfenfieaa.LogT Go.Proofs.Ytiokngcfenfieaa.LogS Go.Proofs.Ytiokngcfenfieaa.LogL

set_option maxHeartbeats 1000000 in
theorem logFrom_walk (n at_ most : Int) (w : World) (hw : (Lit.int .i64 n).wf = true) (hat : (Lit.int .u64 at_).wf = true) (hmo : (Lit.int .i64 most).wf = true) :
    Calls Try.prog 3 #[.int .i64 n, .int .u64 at_, .int .i64 most] w fun e w' => e = .returned (.bool true) ∧ Below w.heap.size w w' := by
  obtain ⟨m, hm, hm2, -⟩ := i64_and n 5 (by omega)
  rw [show ((2 ^ 5 - 1 : Nat) : Int) = 31 from rfl] at hm
  rw [show 2 ^ 5 = 32 from rfl] at hm2
  obtain ⟨b, hb, hb2, -⟩ := u64_and_mask (IntKind.u64.wrap (n / 256)) 8 (by omega)
  rw [show ((2 ^ 8 - 1 : Nat) : Int) = 255 from rfl] at hb
  rw [show 2 ^ 8 = 256 from rfl] at hb2
  obtain ⟨ha0, ha9⟩ := bounds_u64 hat
  obtain ⟨hm0, hm9⟩ := bounds_i64 hmo
  clear hw hat hmo
  go_enter Try.func3, Try.ntmps3
  go_wp2_with fail
  refine (new_at b 40 (by omega) (by omega) _).mono ?_
  rintro e w1 ⟨rfl, l1, k1⟩
  clear hb
  go_wp2_with fail
  refine (awake_any _).mono ?_
  rintro e w2 ⟨rfl, k2⟩
  have L2 := Lib.hid (l1.keep k2 (fun _ _ e => e))
  have K2 := Lib.hid (k1.trans k2)
  clear l1 k1 k2
  go_wp2_with fail
  go_loopw [11] (fun i wr => ∃ (k : Nat) (F : Nat → Prop), k ≤ m ∧ i = .int .i64 k ∧ LogAt wr F w.heap.size 40 b (seqs b k) ∧ (∀ j, F j → w.heap.size ≤ j) ∧ Keep (fun _ => False) w wr) (fun i wr => m - (intOf i).toNat)
  case atStart => exact ⟨0, _, by omega, rfl, L2.out, fun j e => by omega, K2.out⟩
  case round =>
    obtain ⟨k, F, hk, rfl, l3, hF, k3⟩ := hrel
    have L3 := Lib.hid l3
    have K3 := Lib.hid k3
    have HF := Lib.hid hF
    clear l3 k3 hF
    by_cases hlt : k < m
    · go_wp2_with fail
      refine (add_at L3.out (rec0 ((b : Int) + (k : Int) + 1) 0) (by omega) (by rw [seqs_length]; omega) (by omega) (by rw [seqs_length]; simp [rec0])).mono ?_
      rintro e w4 ⟨rfl, F4, l4, d4, k4⟩
      have L4 := Lib.hid l4
      have D4 := Lib.hid d4
      have K4 := Lib.hid k4
      clear l4 d4 k4
      go_wp2_with fail
      go_roundw
      case rel => exact ⟨k + 1, F4, by omega, by go_num, by rw [seqs_succ]; exact L4.out, fun j e => by rcases D4.out j e with h | h; exact HF.out j h; have := K3.out.size; omega, fresh K3.out K4.out HF.out⟩
      case measure => simp [intOf]; omega
    · obtain rfl : k = m := by omega
      have hsl := seqs_length b k
      by_cases hno : at_ < b ∨ (b : Int) + k < at_
      · go_wp2_with fail
        refine (from_no L3.out at_ most (by omega) (by omega) (by omega)).mono ?_
        rintro e w4 ⟨rfl, q, rfl⟩
        rcases hno with h | h
        · have d1 : decide (at_ < (b : Int)) = true := decide_eq_true h
          go_wp2_with fail
          go_ret
          exact ⟨rfl, (K3.out.drewN _).below (Nat.le_refl _) (fun _ e => e.elim)⟩
        · have d1 : decide (at_ < (b : Int)) = false := decide_eq_false (by omega)
          have d2 : decide ((b : Int) + k < at_) = true := decide_eq_true h
          go_wp2_with fail
          go_ret
          exact ⟨rfl, (K3.out.drewN _).below (Nat.le_refl _) (fun _ e => e.elim)⟩
      · obtain ⟨d, hd⟩ : ∃ d : Nat, at_ = (b : Int) + d := ⟨(at_ - b).toNat, by omega⟩
        subst hd
        have hdk : d ≤ k := by omega
        obtain ⟨q, hq⟩ : ∃ q : Nat, (q : Int) = min ((k : Int) - d) (max most 0) := ⟨(min ((k : Int) - d) (max most 0)).toNat, by omega⟩
        have hqk : d + q ≤ k := by omega
        have Hq := Lib.hid hq
        clear hq
        go_wp2_with fail
        refine (from_yes L3.out d q most (by omega) (by omega) (by omega) (by rw [hsl]; exact Hq.out)).mono ?_
        rintro e w4 ⟨v4, rfl, r4, k4⟩
        have hlen : (((seqs b k).drop d).take q).length = q := by simp [seqs_length]; omega
        have hcell : ∃ ao cap, v4 = .slice ao q cap ∧ (q = 0 ∨ ∃ g, ao = some ⟨g, 0, none⟩ ∧ ∀ i, i < q → w4.cell? ⟨g, i * 9, none⟩ = some (.int .u64 ((b : Int) + d + i + 1))) := by
          obtain ⟨ao, cap, hv, h | ⟨g, cur, hao, hF4, hg, ht⟩⟩ := RowAt.form r4
          · refine ⟨ao, cap, by rw [hv, hlen], .inl ?_⟩
            rw [h] at hlen; exact hlen.symm
          · refine ⟨ao, cap, by rw [hv, hlen], .inr ⟨g, hao, fun i hi => ?_⟩⟩
            have he : (((seqs b k).drop d).take q)[i]? = some (rec0 ((b : Int) + ((d + i : Nat) : Int) + 1) 0) := by
              rw [List.getElem?_take, if_pos hi, List.getElem?_drop, seqs_at _ _ _ (by omega)]
            have := rec_cell hg ht he 0 (by omega)
            rw [Nat.add_zero] at this
            rw [this]
            show some (Value.int .u64 _) = _
            congr 2
            simp [rec0]; omega
        obtain ⟨ao, cap, rfl, hcell⟩ := hcell
        have K4 := Lib.hid (K3.out.trans k4)
        have HC := Lib.hid hcell
        clear r4 k4 hlen hcell hsl
        have d1 : decide ((b : Int) + d < (b : Int)) = false := decide_eq_false (by omega)
        have d2 : decide ((b : Int) + k < (b : Int) + d) = false := decide_eq_false (by omega)
        have d3 : decide (k < d) = false := decide_eq_false (by omega)
        go_wp2_with fail
        · have he : ((q : Int) == 0) = true := by have := Hq.out; simp; omega
          rcases HC.out with hz | ⟨g, rfl, hc⟩
          · subst hz
            have he0 : ((0 : Int) == 0) = true := he
            clear he
            go_loop [15] (fun i => i = .int .i64 0) (fun i => 0)
            case atStart => rfl
            case round =>
              subst hrel
              go_wp2_with fail
              go_ret
              exact ⟨rfl, K4.out.below (Nat.le_refl _) (fun _ e => e.elim)⟩
          · have Hc := Lib.hid hc
            clear hc
            go_loop [15] (fun i => ∃ (j : Nat), j ≤ q ∧ i = .int .i64 j) (fun i => q - (intOf i).toNat)
            case atStart => exact ⟨0, by omega, rfl⟩
            case round =>
              obtain ⟨j, hj, rfl⟩ := hrel
              by_cases hlt : j < q
              · have c3 := Hc.out j hlt
                have hne : ((b : Int) + d + j + 1 != (b : Int) + d + 1 + j) = false := by simp; omega
                go_wp2_with fail
                go_round
                case rel => exact ⟨j + 1, by omega, by go_num⟩
                case measure => simp [intOf]; omega
              · obtain rfl : j = q := by omega
                go_wp2_with fail
                go_ret
                exact ⟨rfl, K4.out.below (Nat.le_refl _) (fun _ e => e.elim)⟩
        · have he : ((q : Int) == most) = true := by have := Hq.out; simp; omega
          rcases HC.out with hz | ⟨g, rfl, hc⟩
          · subst hz
            have he0 : ((0 : Int) == most) = true := he
            clear he
            go_loop [15] (fun i => i = .int .i64 0) (fun i => 0)
            case atStart => rfl
            case round =>
              subst hrel
              go_wp2_with fail
              go_ret
              exact ⟨rfl, K4.out.below (Nat.le_refl _) (fun _ e => e.elim)⟩
          · have Hc := Lib.hid hc
            clear hc
            go_loop [15] (fun i => ∃ (j : Nat), j ≤ q ∧ i = .int .i64 j) (fun i => q - (intOf i).toNat)
            case atStart => exact ⟨0, by omega, rfl⟩
            case round =>
              obtain ⟨j, hj, rfl⟩ := hrel
              by_cases hlt : j < q
              · have c3 := Hc.out j hlt
                have hne : ((b : Int) + d + j + 1 != (b : Int) + d + 1 + j) = false := by simp; omega
                go_wp2_with fail
                go_round
                case rel => exact ⟨j + 1, by omega, by go_num⟩
                case measure => simp [intOf]; omega
              · obtain rfl : j = q := by omega
                go_wp2_with fail
                go_ret
                exact ⟨rfl, K4.out.below (Nat.le_refl _) (fun _ e => e.elim)⟩
        · have he : ((q : Int) == (b : Int) + k - ((b : Int) + d)) = true := by have := Hq.out; simp; omega
          rcases HC.out with hz | ⟨g, rfl, hc⟩
          · subst hz
            have he0 : ((0 : Int) == (b : Int) + k - ((b : Int) + d)) = true := he
            clear he
            go_loop [15] (fun i => i = .int .i64 0) (fun i => 0)
            case atStart => rfl
            case round =>
              subst hrel
              go_wp2_with fail
              go_ret
              exact ⟨rfl, K4.out.below (Nat.le_refl _) (fun _ e => e.elim)⟩
          · have Hc := Lib.hid hc
            clear hc
            go_loop [15] (fun i => ∃ (j : Nat), j ≤ q ∧ i = .int .i64 j) (fun i => q - (intOf i).toNat)
            case atStart => exact ⟨0, by omega, rfl⟩
            case round =>
              obtain ⟨j, hj, rfl⟩ := hrel
              by_cases hlt : j < q
              · have c3 := Hc.out j hlt
                have hne : ((b : Int) + d + j + 1 != (b : Int) + d + 1 + j) = false := by simp; omega
                go_wp2_with fail
                go_round
                case rel => exact ⟨j + 1, by omega, by go_num⟩
                case measure => simp [intOf]; omega
              · obtain rfl : j = q := by omega
                go_wp2_with fail
                go_ret
                exact ⟨rfl, K4.out.below (Nat.le_refl _) (fun _ e => e.elim)⟩

end Go.Proofs.Ytiokngcfenfieaa.LogFrom
