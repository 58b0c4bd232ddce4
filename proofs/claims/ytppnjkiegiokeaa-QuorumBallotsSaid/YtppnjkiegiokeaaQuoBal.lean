/-
  Layer 17 (quorum): ballots rise.
-/
import Derived.Test.YtppnjkiegiokeaaQuoA
import Derived.Test.YtppnjkiegiokeaaOpen
namespace Go.Proofs.Ytppnjkiegiokeaa.QuoBal
set_option linter.unusedVariables false
set_option linter.unusedSimpArgs false
open Go.RowKit Go.Proofs.Ytppnjkiegiokeaa.Mem Go.Proofs.Ytppnjkiegiokeaa.Open Go.Proofs.Ytppnjkiegiokeaa.Mask Go.Proofs.Ytppnjkiegiokeaa.QuoW Go.Proofs.Ytppnjkiegiokeaa.QuoV Go.Proofs.Ytppnjkiegiokeaa.QuoU Go.Proofs.Ytppnjkiegiokeaa.QuoR Go.Proofs.Ytppnjkiegiokeaa.QuoS Go.Proofs.Ytppnjkiegiokeaa.QuoA

/-- A proposer that only began ballots. -/
abbrev bst (me life round : Int) (V : Vw) : PS := st me life round false false false false false false 0 V false
theorem ballot_bst (me life round : Int) (V : Vw) (h : 0 < round) : ballotI (bst me life round V) = round * 4294967296 + life * 2 + me := by
  unfold ballotI
  rw [if_neg (by show ¬ round = 0; omega)]
  rfl
theorem keepP {w w' : World} {b b' : Nat} {s : PS} (k : Keep (· = b) w w') (h : PAt w b' s) (hne : ¬ b' = b) : PAt w' b' s := (k.block b' (lt_of_block h) hne).trans h
theorem ballot_calls (me life round : Int) (V : Vw) (b : Nat) (w : World) (h : PAt w b (bst me life round V)) (r0 : 0 ≤ round) (r1 : round ≤ 1073741824) (l0 : 0 ≤ life) (l1 : life < 16777216) (m0 : 0 ≤ me) (m1 : me ≤ 1) :
    Calls Try.prog 12 #[.pointer (some ⟨b, 0, none⟩)] w fun e w' => e = .returned (.int .u64 (ballotI (bst me life round V))) ∧ ∃ m, w' = w.drewN m :=
  ballot_any _ b w h r0 r1 l0 l1 m0 m1
theorem begin_calls (me life round n : Int) (V : Vw) (b : Nat) (w : World) (h : PAt w b (bst me life round V)) (r0 : 0 ≤ round) (r1 : round ≤ 70000) (n0 : 0 ≤ n) (n1 : n < 281474976710656) :
    Calls Try.prog 13 #[.pointer (some ⟨b, 0, none⟩), .int .u64 n] w fun e w' => e = .returned (.bool true) ∧ PAt w' b (bst me life (max round (n / 4294967296) + 1) (wantV me life)) ∧ Keep (· = b) w w' :=
  begin_any _ b n w h r0 n0 (by omega) (by show max round (n / 4294967296) + 1 ≤ 1073741824; omega)

/-- What stands of the three in the loop. -/
structure Three (w0 wr : World) (b1 b2 b3 : Nat) (x y ρ : Int) (V1 V2 V3 : Vw) : Prop where
  p : PAt wr b1 (bst 0 x ρ V1)
  q : PAt wr b2 (bst 1 y ρ V2)
  r : PAt wr b3 (bst 0 (x + 1) ρ V3)
  k : Below w0.heap.size w0 wr

theorem Three.drewN {w0 wr : World} {b1 b2 b3 : Nat} {x y ρ : Int} {V1 V2 V3 : Vw} (h : Three w0 wr b1 b2 b3 x y ρ V1 V2 V3) (m : Nat) : Three w0 (wr.drewN m) b1 b2 b3 x y ρ V1 V2 V3 :=
  ⟨h.p, h.q, h.r, h.k.trans ⟨rfl, rfl, rfl, Nat.le_refl _, fun _ _ => rfl⟩⟩
theorem Three.bel {w0 wr w' : World} {b1 b2 b3 : Nat} {x y ρ : Int} {V1 V2 V3 : Vw} (h : Three w0 wr b1 b2 b3 x y ρ V1 V2 V3) (k : Below wr.heap.size wr w') : Three w0 w' b1 b2 b3 x y ρ V1 V2 V3 :=
  ⟨below_block k h.p, below_block k h.q, below_block k h.r, h.k.trans (k.mono h.k.size)⟩

set_option maxRecDepth 100000 in
set_option maxHeartbeats 4000000 in
theorem quorumBallots_walk (v : Value) (a b : Int) (w : World) (hv : ∃ zs, Ints w .u64 v zs) (wa : (Lit.int .u64 a).wf = true) (wb : (Lit.int .u64 b).wf = true) :
    Calls Try.prog 3 #[v, .int .u64 a, .int .u64 b] w fun e w' => e = .returned (.bool true) ∧ Below w.heap.size w w' := by
  obtain ⟨zs, hz⟩ := hv
  obtain ⟨m1, hm1, hm1', -⟩ := u64_and_mask a 16 (by omega)
  rw [show ((2 ^ 16 - 1 : Nat) : Int) = 65535 from rfl] at hm1
  rw [show 2 ^ 16 = 65536 from rfl] at hm1'
  obtain ⟨m2, hm2, hm2', -⟩ := u64_and_mask b 16 (by omega)
  rw [show ((2 ^ 16 - 1 : Nat) : Int) = 65535 from rfl] at hm2
  rw [show 2 ^ 16 = 65536 from rfl] at hm2'
  obtain ⟨ao, cap, rfl, hlen, hc⟩ := hz.form
  have HZ := Lib.hid hz
  clear hz wa wb
  have HC := Lib.hid hc
  clear hc
  obtain ⟨len, hl⟩ : ∃ len, len = zs.length := ⟨_, rfl⟩
  rw [← hl] at hlen
  simp only [← hl]
  replace hl := Lib.hid hl
  have N1 := Lib.hid (new_ok 1 0 1 1 0 (1 + m1) 1 0 (1 + m1) (by omega) (by omega) (by omega) (by omega) (by omega) (by omega) (by omega) (by omega) (by omega) (by omega) (by omega) (by omega) (by omega) (by omega))
  have N2 := Lib.hid (new_ok 1 0 1 1 1 (1 + m2) 1 1 (1 + m2) (by omega) (by omega) (by omega) (by omega) (by omega) (by omega) (by omega) (by omega) (by omega) (by omega) (by omega) (by omega) (by omega) (by omega))
  have N3 := Lib.hid (new_ok 1 0 1 1 0 (1 + m1 + 1) 1 0 (1 + m1 + 1) (by omega) (by omega) (by omega) (by omega) (by omega) (by omega) (by omega) (by omega) (by omega) (by omega) (by omega) (by omega) (by omega) (by omega))
  have F1 := Lib.hid first_any
  have W1 := Lib.hid want_any
  have AW := Lib.hid awake_any
  go_enter Try.func3, Try.ntmps3
  go_wp2_with fail
  refine (F1.out _).mono ?_
  rintro e w1 ⟨rfl, q1⟩
  go_wp2_with fail
  refine (W1.out _ _ _).mono ?_
  rintro e w2 ⟨rfl, q2⟩
  replace q2 := q1.trans (q2.mono q1.size)
  clear q1
  go_wp2_with fail
  refine (N1.out _).mono ?_
  rintro e w3 ⟨b1, rfl, hb1, p1, q3⟩
  have g1 : w.heap.size ≤ b1 := Nat.le_trans q2.size hb1
  replace q3 := q2.trans (q3.mono q2.size)
  clear q2 N1 hb1
  go_wp2_with fail
  refine (F1.out _).mono ?_
  rintro e w4 ⟨rfl, q4⟩
  replace p1 := below_block q4 p1
  replace q4 := q3.trans (q4.mono q3.size)
  clear q3
  go_wp2_with fail
  refine (W1.out _ _ _).mono ?_
  rintro e w5 ⟨rfl, q5⟩
  replace p1 := below_block q5 p1
  replace q5 := q4.trans (q5.mono q4.size)
  clear q4
  go_wp2_with fail
  refine (N2.out _).mono ?_
  rintro e w6 ⟨b2, rfl, hb2, p2, q6⟩
  have n12 : b1 < b2 := Nat.lt_of_lt_of_le (lt_of_block p1) hb2
  replace p1 := below_block q6 p1
  replace q6 := q5.trans (q6.mono q5.size)
  clear q5 N2 hb2
  go_wp2_with fail
  refine (F1.out _).mono ?_
  rintro e w7 ⟨rfl, q7⟩
  replace p1 := below_block q7 p1
  replace p2 := below_block q7 p2
  replace q7 := q6.trans (q7.mono q6.size)
  clear q6
  go_wp2_with fail
  refine (W1.out _ _ _).mono ?_
  rintro e w8 ⟨rfl, q8⟩
  replace p1 := below_block q8 p1
  replace p2 := below_block q8 p2
  replace q8 := q7.trans (q8.mono q7.size)
  clear q7
  go_wp2_with fail
  refine (N3.out _).mono ?_
  rintro e w9 ⟨b3, rfl, hb3, p3, q9⟩
  have n23 : b2 < b3 := Nat.lt_of_lt_of_le (lt_of_block p2) hb3
  replace p1 := below_block q9 p1
  replace p2 := below_block q9 p2
  replace q9 := q8.trans (q9.mono q8.size)
  clear q8 N3 hb3 F1 W1
  have T9 : Three w w9 b1 b2 b3 (1 + m1) (1 + m2) 0 zeroV zeroV zeroV := ⟨p1, p2, p3, q9⟩
  clear p1 p2 p3 q9
  go_wp2_with fail
  refine (AW.out _).mono ?_
  rintro e w10 ⟨rfl, q10⟩
  replace T9 := T9.bel q10
  clear q10 AW
  have CB := ballot_calls 0 (1 + m1) 0 zeroV b1 w10 T9.p (by omega) (by omega) (by omega) (by omega) (by omega) (by omega)
  rw [show ballotI (bst 0 (1 + m1) 0 zeroV) = 0 from if_pos rfl] at CB
  replace CB := Lib.hid CB
  go_wp2_with fail
  refine CB.out.mono ?_
  rintro e w11 ⟨rfl, m11, rfl⟩
  replace T9 := T9.drewN m11
  clear CB
  generalize w10.drewN m11 = w12 at *
  clear hm1 hm2
  go_wp2_with fail
  go_loopw [15, 16] (fun last i wr => ∃ (k : Nat) (ρ : Int) (V1 V2 V3 : Vw), k ≤ len ∧ k ≤ 20 ∧ 0 ≤ ρ ∧ ρ ≤ 65536 + k ∧ last = .int .u64 (ballotI (bst 0 (1 + m1) ρ V1)) ∧ i = .int .i64 k ∧ Three w wr b1 b2 b3 (1 + m1) (1 + m2) ρ V1 V2 V3) (fun last i wr => 20 - (intOf i).toNat)
  case atStart => exact ⟨0, 0, zeroV, zeroV, zeroV, by omega, by omega, by omega, by omega, by rw [show ballotI (bst 0 (1 + m1) 0 zeroV) = 0 from if_pos rfl], rfl, T9⟩
  case round =>
    obtain ⟨k, ρ, V1, V2, V3, hk, hk2, r0, r1, rfl, rfl, T⟩ := hrel
    clear T9
    by_cases hlt : k < len ∧ k < 20
    · obtain ⟨hlt1, hlt2⟩ := hlt
      have hne : zs ≠ [] := by intro h; have := hl.out; rw [h] at this; simp at this; omega
      obtain ⟨g, off, rfl, hg, hcell⟩ := HC.out.resolve_left hne
      obtain ⟨z, hzk⟩ : ∃ z, zs[k]? = some z := ⟨zs[k]'(by have := hl.out; omega), List.getElem?_eq_getElem _⟩
      have c0 : wr.cell? ⟨g, off + k, none⟩ = some (.int .u64 z) := (T.k.cell (p := ⟨g, _, none⟩) hg).trans (hcell k z hzk)
      clear hcell hzk hne
      obtain ⟨n, hn, hn', -⟩ := u64_and_mask z 48 (by omega)
      rw [show ((2 ^ 48 - 1 : Nat) : Int) = 281474976710655 from rfl] at hn
      rw [show 2 ^ 48 = 281474976710656 from rfl] at hn'
      obtain ⟨ρ', hρ⟩ : ∃ ρ', ρ' = max ρ ((n : Int) / 4294967296) + 1 := ⟨_, rfl⟩
      have C2 := begin_calls 1 (1 + m2) ρ n V2 b2 wr T.q (by omega) (by omega) (by omega) (by omega)
      have C3 := fun wv h => begin_calls 0 (1 + m1 + 1) ρ n V3 b3 wv h (by omega) (by omega) (by omega) (by omega)
      have C1 := fun wv h => begin_calls 0 (1 + m1) ρ n V1 b1 wv h (by omega) (by omega) (by omega) (by omega)
      rw [← hρ] at C1 C2 C3
      have f1 : ρ < ρ' := by omega
      have f2 : (n : Int) < ρ' * 4294967296 := by omega
      have f3 : ρ' ≤ 65536 + k + 1 := by omega
      clear hρ
      have B1 := fun wv h => ballot_calls 0 (1 + m1) ρ' (wantV 0 (1 + m1)) b1 wv h (by omega) (by omega) (by omega) (by omega) (by omega) (by omega)
      have B2 := fun wv h => ballot_calls 1 (1 + m2) ρ' (wantV 1 (1 + m2)) b2 wv h (by omega) (by omega) (by omega) (by omega) (by omega) (by omega)
      have B3 := fun wv h => ballot_calls 0 (1 + m1 + 1) ρ' (wantV 0 (1 + m1 + 1)) b3 wv h (by omega) (by omega) (by omega) (by omega) (by omega) (by omega)
      have e1 := ballot_bst 0 (1 + m1) ρ' (wantV 0 (1 + m1)) (by omega)
      have e2 := ballot_bst 1 (1 + m2) ρ' (wantV 1 (1 + m2)) (by omega)
      have e3 := ballot_bst 0 (1 + m1 + 1) ρ' (wantV 0 (1 + m1 + 1)) (by omega)
      have e0 : ballotI (bst 0 (1 + m1) ρ V1) < ballotI (bst 0 (1 + m1) ρ' (wantV 0 (1 + m1))) := by
        rw [e1]
        by_cases h0 : ρ = 0
        · rw [show ballotI (bst 0 (1 + m1) ρ V1) = 0 from if_pos h0]; omega
        · rw [ballot_bst _ _ _ _ (by omega)]; omega
      have d0 : decide (ballotI (bst 0 (1 + m1) ρ' (wantV 0 (1 + m1))) ≤ ballotI (bst 0 (1 + m1) ρ V1)) = false := decide_eq_false (by omega)
      have d1 : decide (ballotI (bst 0 (1 + m1) ρ' (wantV 0 (1 + m1))) ≤ (n : Int)) = false := decide_eq_false (by omega)
      have d2 : (ballotI (bst 0 (1 + m1) ρ' (wantV 0 (1 + m1))) == ballotI (bst 1 (1 + m2) ρ' (wantV 1 (1 + m2)))) = false := by rw [beq_eq_false_iff_ne]; omega
      have d3 : (ballotI (bst 0 (1 + m1) ρ' (wantV 0 (1 + m1))) == ballotI (bst 0 (1 + m1 + 1) ρ' (wantV 0 (1 + m1 + 1)))) = false := by rw [beq_eq_false_iff_ne]; omega
      clear e0 e1 e2 e3
      obtain ⟨P', hP'⟩ : ∃ P', ballotI (bst 0 (1 + m1) ρ' (wantV 0 (1 + m1))) = P' := ⟨_, rfl⟩
      rw [hP'] at B1 d0 d1 d2 d3
      generalize ballotI (bst 1 (1 + m2) ρ' (wantV 1 (1 + m2))) = Q' at *
      generalize ballotI (bst 0 (1 + m1 + 1) ρ' (wantV 0 (1 + m1 + 1))) = R' at *
      generalize ballotI (bst 0 (1 + m1) ρ V1) = L at *
      have HP := Lib.hid hP'
      replace C1 := Lib.hid C1
      replace C2 := Lib.hid C2
      replace C3 := Lib.hid C3
      replace B1 := Lib.hid B1
      replace B2 := Lib.hid B2
      replace B3 := Lib.hid B3
      clear hP'
      go_wp2_with fail
      refine C2.out.mono ?_
      rintro e u1 ⟨rfl, q1, k1⟩
      have p1 := keepP k1 T.p (by omega)
      have r1' := keepP k1 T.r (by omega)
      have bb1 := T.k.trans (k1.below T.k.size (fun k e => by subst e; omega))
      clear k1 T C2 c0 hn
      go_wp2_with fail
      refine (C3.out _ r1').mono ?_
      rintro e u2 ⟨rfl, r2, k2⟩
      have p2 := keepP k2 p1 (by omega)
      have q2 := keepP k2 q1 (by omega)
      have bb2 := bb1.trans (k2.below bb1.size (fun k e => by subst e; omega))
      clear k2 p1 r1' bb1 q1 C3
      go_wp2_with fail
      refine (C1.out _ p2).mono ?_
      rintro e u3 ⟨rfl, p3, k3⟩
      have q3 := keepP k3 q2 (by omega)
      have r3 := keepP k3 r2 (by omega)
      have bb3 := bb2.trans (k3.below bb2.size (fun k e => by subst e; omega))
      have T3 : Three w u3 b1 b2 b3 (1 + m1) (1 + m2) ρ' _ _ _ := ⟨p3, q3, r3, bb3⟩
      clear k3 p2 q2 r2 p3 q3 r3 bb2 bb3 C1
      go_wp2_with fail
      refine (B1.out _ T3.p).mono ?_
      rintro e u4 ⟨rfl, j4, rfl⟩
      replace T3 := T3.drewN j4
      generalize u3.drewN j4 = u4 at *
      go_wp2_with fail
      refine (B1.out _ T3.p).mono ?_
      rintro e u5 ⟨rfl, j5, rfl⟩
      replace T3 := T3.drewN j5
      generalize u4.drewN j5 = u5 at *
      go_wp2_with fail
      refine (B1.out _ T3.p).mono ?_
      rintro e u6 ⟨rfl, j6, rfl⟩
      replace T3 := T3.drewN j6
      generalize u5.drewN j6 = u6 at *
      go_wp2_with fail
      refine (B2.out _ T3.q).mono ?_
      rintro e u7 ⟨rfl, j7, rfl⟩
      replace T3 := T3.drewN j7
      generalize u6.drewN j7 = u7 at *
      go_wp2_with fail
      refine (B1.out _ T3.p).mono ?_
      rintro e u8 ⟨rfl, j8, rfl⟩
      replace T3 := T3.drewN j8
      generalize u7.drewN j8 = u8 at *
      go_wp2_with fail
      refine (B3.out _ T3.r).mono ?_
      rintro e u9 ⟨rfl, j9, rfl⟩
      replace T3 := T3.drewN j9
      generalize u8.drewN j9 = u9 at *
      go_wp2_with fail
      refine (second_any _ _ _ T3.p).mono ?_
      rintro e u10 ⟨rfl, rfl⟩
      go_wp2_with fail
      refine (B1.out _ T3.p).mono ?_
      rintro e u11 ⟨rfl, j11, rfl⟩
      replace T3 := T3.drewN j11
      generalize u9.drewN j11 = u11 at *
      go_wp2_with fail
      go_roundw
      case rel => exact ⟨k + 1, ρ', _, _, _, by omega, by omega, by omega, by omega, by rw [HP.out], by go_num, T3⟩
      case measure => simp [intOf]; omega
    · by_cases h1 : k < len
      · have h2 : k = 20 := by omega
        subst h2
        go_wp2_with fail
        go_ret
        exact ⟨rfl, T.k⟩
      · have h2 : ¬ ((k : Int) < len) := by omega
        go_wp2_with fail
        go_ret
        exact ⟨rfl, T.k⟩

end Go.Proofs.Ytppnjkiegiokeaa.QuoBal
