/-
  Layer 17 (quorum): each ballot begins from nothing.
-/
import Derived.Test.YtppnjkiegiokeaaQuoT
import Derived.Deep.DeepCutAuto
namespace Go.Proofs.Ytppnjkiegiokeaa.QuoBe
set_option linter.unusedVariables false
set_option linter.unusedSimpArgs false
open Go.RowKit Go.Proofs.Ytppnjkiegiokeaa.Mem Go.Proofs.Ytppnjkiegiokeaa.Mask Go.Proofs.Ytppnjkiegiokeaa.QuoW Go.Proofs.Ytppnjkiegiokeaa.QuoV Go.Proofs.Ytppnjkiegiokeaa.QuoU Go.Proofs.Ytppnjkiegiokeaa.QuoR Go.Proofs.Ytppnjkiegiokeaa.QuoS Go.Proofs.Ytppnjkiegiokeaa.QuoA Go.Proofs.Ytppnjkiegiokeaa.QuoT Go.Proofs.Ytppnjkiegiokeaa.QuoK0 Go.Proofs.Ytppnjkiegiokeaa.QuoK1 Go.Proofs.Ytppnjkiegiokeaa.QuoK2 Go.Proofs.Ytppnjkiegiokeaa.QuoP0 Go.Proofs.Ytppnjkiegiokeaa.QuoP1 Go.Proofs.Ytppnjkiegiokeaa.QuoP2
attribute [-go_sem] Instr.loadAt loadVar
attribute [local go_sem] QuoT.loadAt_ptr QuoT.lv_bool QuoT.lv_int QuoT.lv_u64

/-- Node 0 in life 3, in its first ballot, whatever it was told. -/
structure Shape (s : PS) : Prop where
  kn : s.kn = firstV
  wa : s.wa = wantV 0 3
  me : s.me = 0
  life : s.life = 3
  round : s.round = 1
theorem Shape.live {s : PS} (h : Shape s) : Live s := ⟨by rw [h.round]; omega, by rw [h.round]; omega, by rw [h.life]; omega, by rw [h.life]; omega, by rw [h.me]; omega, by rw [h.me]; omega⟩
theorem Shape.bal {s : PS} (h : Shape s) : ballotI s = 4294967302 := by unfold ballotI; rw [h.round, h.me, h.life]; rfl
def yy : Pr := ⟨true, 2, 0, 1, wantV 1 1, zeroV⟩
def good : Pr := ⟨true, 2, 0, 0, zeroV, zeroV⟩
theorem s03_shape : Shape s03 := ⟨rfl, rfl, rfl, rfl, rfl⟩

theorem prom_any (s : PS) (b : Nat) (w : World) (h : PAt w b s) (hs : Shape s) (k : Nat) (hk : k < 3) :
    Calls Try.prog 15 #[.pointer (some ⟨b, 0, none⟩), .int .i64 k, .int .u64 4294967302, yy.agg] w fun e w' => (∃ r, e = .returned (.bool r)) ∧ (∃ s', PAt w' b s' ∧ Shape s') ∧ Keep (· = b) w w' := by
  have hv : s.wa.v = 2 := by rw [hs.wa]; rfl
  by_cases hsec : s.sec = true
  · refine (promised_no s b k 4294967302 yy w h hs.live (.inl ?_)).mono ?_
    · unfold okP; rw [hsec]; simp
    · rintro e w' ⟨rfl, q⟩
      exact ⟨⟨_, rfl⟩, ⟨s, below_block q h, hs⟩, Keep.of_below q _⟩
  have hsec' : s.sec = false := by simpa using hsec
  have key : ∀ k, Shape (PS.prom s k 1 (wantV 1 1)) := fun k => ⟨hs.kn, hs.wa, hs.me, hs.life, hs.round⟩
  have c0 : s.y0 = false → Calls Try.prog 15 #[.pointer (some ⟨b, 0, none⟩), .int .i64 0, .int .u64 4294967302, yy.agg] w fun e w' => (∃ r, e = .returned (.bool r)) ∧ (∃ s', PAt w' b s' ∧ Shape s') ∧ Keep (· = b) w w' := by
    intro hy
    have c := promised0 s b 0 1 (wantV 1 1) zeroV w h hs.live hsec' hy
    rw [hs.bal, hv] at c
    refine c.mono ?_
    rintro e w' ⟨rfl, p, q⟩
    exact ⟨⟨_, rfl⟩, ⟨_, p, key 0⟩, q⟩
  have d0 : s.y0 = true → Calls Try.prog 15 #[.pointer (some ⟨b, 0, none⟩), .int .i64 0, .int .u64 4294967302, yy.agg] w fun e w' => (∃ r, e = .returned (.bool r)) ∧ (∃ s', PAt w' b s' ∧ Shape s') ∧ Keep (· = b) w w' := by
    intro hy
    refine (promised_no s b 0 4294967302 yy w h hs.live (.inr (.inl ⟨rfl, hy⟩))).mono ?_
    rintro e w' ⟨rfl, q⟩
    exact ⟨⟨_, rfl⟩, ⟨s, below_block q h, hs⟩, Keep.of_below q _⟩
  have c1 : s.y1 = false → Calls Try.prog 15 #[.pointer (some ⟨b, 0, none⟩), .int .i64 1, .int .u64 4294967302, yy.agg] w fun e w' => (∃ r, e = .returned (.bool r)) ∧ (∃ s', PAt w' b s' ∧ Shape s') ∧ Keep (· = b) w w' := by
    intro hy
    have c := promised1 s b 0 1 (wantV 1 1) zeroV w h hs.live hsec' hy
    rw [hs.bal, hv] at c
    refine c.mono ?_
    rintro e w' ⟨rfl, p, q⟩
    exact ⟨⟨_, rfl⟩, ⟨_, p, key 1⟩, q⟩
  have d1 : s.y1 = true → Calls Try.prog 15 #[.pointer (some ⟨b, 0, none⟩), .int .i64 1, .int .u64 4294967302, yy.agg] w fun e w' => (∃ r, e = .returned (.bool r)) ∧ (∃ s', PAt w' b s' ∧ Shape s') ∧ Keep (· = b) w w' := by
    intro hy
    refine (promised_no s b 1 4294967302 yy w h hs.live (.inr (.inr (.inl ⟨rfl, hy⟩)))).mono ?_
    rintro e w' ⟨rfl, q⟩
    exact ⟨⟨_, rfl⟩, ⟨s, below_block q h, hs⟩, Keep.of_below q _⟩
  have c2 : s.y2 = false → Calls Try.prog 15 #[.pointer (some ⟨b, 0, none⟩), .int .i64 2, .int .u64 4294967302, yy.agg] w fun e w' => (∃ r, e = .returned (.bool r)) ∧ (∃ s', PAt w' b s' ∧ Shape s') ∧ Keep (· = b) w w' := by
    intro hy
    have c := promised2 s b 0 1 (wantV 1 1) zeroV w h hs.live hsec' hy
    rw [hs.bal, hv] at c
    refine c.mono ?_
    rintro e w' ⟨rfl, p, q⟩
    exact ⟨⟨_, rfl⟩, ⟨_, p, key 2⟩, q⟩
  have d2 : s.y2 = true → Calls Try.prog 15 #[.pointer (some ⟨b, 0, none⟩), .int .i64 2, .int .u64 4294967302, yy.agg] w fun e w' => (∃ r, e = .returned (.bool r)) ∧ (∃ s', PAt w' b s' ∧ Shape s') ∧ Keep (· = b) w w' := by
    intro hy
    refine (promised_no s b 2 4294967302 yy w h hs.live (.inr (.inr (.inr ⟨rfl, hy⟩)))).mono ?_
    rintro e w' ⟨rfl, q⟩
    exact ⟨⟨_, rfl⟩, ⟨s, below_block q h, hs⟩, Keep.of_below q _⟩
  have hk3 : k = 0 ∨ k = 1 ∨ k = 2 := by omega
  rcases hk3 with rfl | rfl | rfl
  · cases hy : s.y0
    · exact c0 hy
    · exact d0 hy
  · cases hy : s.y1
    · exact c1 hy
    · exact d1 hy
  · cases hy : s.y2
    · exact c2 hy
    · exact d2 hy

theorem took_any (s : PS) (b : Nat) (w : World) (h : PAt w b s) (hs : Shape s) :
    Calls Try.prog 16 #[.pointer (some ⟨b, 0, none⟩), .int .i64 0, .int .u64 4294967302, yy.agg] w fun e w' => (∃ r, e = .returned (.bool r)) ∧ (∃ s', PAt w' b s' ∧ Shape s') ∧ Keep (· = b) w w' := by
  have hv : s.wa.v = 2 := by rw [hs.wa]; rfl
  by_cases hsec : s.sec = false
  · refine (took_no s b 0 4294967302 yy w h hs.live (.inl ?_)).mono ?_
    · unfold okP; rw [hsec]; simp
    · rintro e w' ⟨rfl, q⟩
      exact ⟨⟨_, rfl⟩, ⟨s, below_block q h, hs⟩, Keep.of_below q _⟩
  have hsec' : s.sec = true := by simpa using hsec
  cases hy : s.t0
  · have c := took0 s b 0 1 (wantV 1 1) zeroV w h hs.live hsec' hy
    rw [hs.bal, hv] at c
    refine c.mono ?_
    rintro e w' ⟨rfl, p, q⟩
    exact ⟨⟨_, rfl⟩, ⟨_, p, ⟨hs.kn, hs.wa, hs.me, hs.life, hs.round⟩⟩, q⟩
  · refine (took_no s b 0 4294967302 yy w h hs.live (.inr (.inl ⟨rfl, hy⟩))).mono ?_
    rintro e w' ⟨rfl, q⟩
    exact ⟨⟨_, rfl⟩, ⟨s, below_block q h, hs⟩, Keep.of_below q _⟩

theorem begin_shape (s : PS) (hs : Shape s) (b : Nat) (n : Int) (w : World) (h : PAt w b s) (n0 : 0 ≤ n) (n1 : n < 281474976710656) :
    Calls Try.prog 13 #[.pointer (some ⟨b, 0, none⟩), .int .u64 n] w fun e w' => e = .returned (.bool true) ∧ PAt w' b (st 0 3 (max 1 (n / 4294967296) + 1) false false false false false false 0 (wantV 0 3) false) ∧ Keep (· = b) w w' := by
  have c := begin_any s b n w h (by rw [hs.round]; omega) n0 (by omega) (by rw [hs.round]; omega)
  unfold PS.begun at c
  rw [hs.kn, hs.wa, hs.me, hs.life, hs.round] at c
  exact c

abbrev sr (ρ : Int) : PS := st 0 3 ρ false false false false false false 0 (wantV 0 3) false

set_option maxRecDepth 100000 in
set_option maxHeartbeats 8000000 in
theorem quorumBegins_walk (steps above : Int) (w : World) (w0 : (Lit.int .i64 steps).wf = true) (w1 : (Lit.int .u64 above).wf = true) :
    Calls Try.prog 5 #[.int .i64 steps, .int .u64 above] w fun e w' => e = .returned (.bool true) ∧ Below w.heap.size w w' := by
  obtain ⟨m, hm, hm2, -⟩ := i64_and steps 2 (by omega)
  rw [show ((2 ^ 2 - 1 : Nat) : Int) = 3 from rfl] at hm
  rw [show 2 ^ 2 = 4 from rfl] at hm2
  obtain ⟨n, hn, hn2, -⟩ := u64_and_mask above 48 (by omega)
  rw [show ((2 ^ 48 - 1 : Nat) : Int) = 281474976710655 from rfl] at hn
  rw [show 2 ^ 48 = 281474976710656 from rfl] at hn2
  clear w0 w1
  have N0 := Lib.hid (new_ok 1 0 1 1 0 3 1 0 3 (by omega) (by omega) (by omega) (by omega) (by omega) (by omega) (by omega) (by omega) (by omega) (by omega) (by omega) (by omega) (by omega) (by omega))
  go_enter Try.func5, Try.ntmps5
  go_wp2_with fail
  refine (first_any _).mono ?_
  rintro e u1 ⟨rfl, B1⟩
  go_wp2_with fail
  refine (want_any _ _ _).mono ?_
  rintro e u2 ⟨rfl, k⟩
  have B2 := bb B1 k
  clear k B1
  go_wp2_with fail
  refine (N0.out _).mono ?_
  rintro e u3 ⟨b, rfl, hb, p3, k⟩
  have hbw : w.heap.size ≤ b := Nat.le_trans B2.size hb
  have B3 := bb B2 k
  clear k B2 N0 hb
  go_wp2_with fail
  refine (awake_any _).mono ?_
  rintro e u4 ⟨rfl, k⟩
  have B4 := bb B3 k
  have p4 := below_block k p3
  clear k B3 p3
  go_wp2_with fail
  refine (dB0 b _ p4).mono ?_
  rintro e u5 ⟨rfl, p5, k⟩
  have B5 := keepB B4 k hbw
  clear k B4 p4
  go_wp2_with fail
  refine (dBB b _ p5).mono ?_
  rintro e u6 ⟨rfl, j, rfl⟩
  have p6 := block_drewN p5 j
  have B6 : Below w.heap.size w (u5.drewN j) := B5.trans ⟨rfl, rfl, rfl, Nat.le_refl _, fun _ _ => rfl⟩
  generalize u5.drewN j = u6 at *
  clear p5 B5 j
  have W1 := Lib.hid (want_any 1 1 u6)
  simp only [wantV, Vw.agg] at W1
  go_wp2_with fail
  refine W1.out.mono ?_
  rintro e u7 ⟨rfl, k⟩
  have B7 := bb B6 k
  have p7 := below_block k p6
  have p8 := block_alloc p7 (.cells (Pr.row yy) TPr)
  have hy8 : XAt _ _ yy := block_new u7 (.cells (Pr.row yy) TPr)
  have neY : ¬ u7.heap.size = b := by have := lt_of_block p7; omega
  have B8 := B7.alloc B7.size (.cells (Pr.row yy) TPr)
  clear k B6 p6 B7 p7 W1
  go_upto_region 6 with fail
  have he : (u7.alloc (.cells #[.bool true, .int .u64 2, .int .u64 0, .int .u64 1, .int .u64 2, .int .i64 1, .int .u64 1, .int .i64 (-1), .int .u64 0, .int .u64 1, .int .u64 0, .int .i64 0, .int .u64 0, .int .i64 0, .int .u64 0, .int .u64 0] 37)) = (u7.alloc (.cells (Pr.row yy) TPr)) := rfl
  rw [he]
  clear he
  generalize (u7.alloc (.cells (Pr.row yy) TPr)) = u8 at *
  generalize u7.heap.size = Y at *
  clear u7
  go_wp2_with fail
  go_loopw [9] (fun i wr => ∃ (k : Nat) (s : PS), k ≤ m ∧ i = .int .i64 k ∧ PAt wr b s ∧ Shape s ∧ XAt wr Y yy ∧ Below w.heap.size w wr) (fun i wr => m - (intOf i).toNat)
  case atStart => exact ⟨0, _, by omega, rfl, p8, s03_shape, hy8, B8⟩
  case round =>
    clear p8 hy8 B8
    obtain ⟨k, s, hk, rfl, p, hs, hy, B⟩ := hrel
    have ld : (loadVar 37 ⟨Y, 0, none⟩).run Try.prog wr = _ := load_x hy
    by_cases hlt : k < m
    · have C := Lib.hid (prom_any s b wr p hs k (by omega))
      go_wp2_with fail
      refine C.out.mono ?_
      rintro e u9 ⟨⟨r, rfl⟩, ⟨s', p', hs'⟩, q⟩
      have hy' := keepX q hy neY
      have B' := keepB B q hbw
      clear C p hs hy B q ld
      go_wp2_with fail
      go_roundw
      case rel => exact ⟨k + 1, s', by omega, by go_num, p', hs', hy', B'⟩
      case measure => simp [intOf]; omega
    · have hge : ¬ ((k : Int) < m) := by omega
      clear hlt hk
      have C := Lib.hid (second_any s b wr p)
      go_wp2_with fail
      refine C.out.mono ?_
      rintro e _ ⟨rfl, rfl⟩
      clear C hm
      have TT := Lib.hid (took_any s b wr p hs)
      go_upto_if 45 with fail
      go_cut [] (fun wx => ∃ s', PAt wx b s' ∧ Shape s' ∧ Below w.heap.size w wx)
      case first =>
        cases hsec : s.sec
        · replace hsec := Lib.hid hsec
          go_wp2_with fail
          go_meet
          exact ⟨s, p, hs, B⟩
        · replace hsec := Lib.hid hsec
          go_wp2_with fail
          refine TT.out.mono ?_
          rintro e u9 ⟨⟨r, rfl⟩, ⟨s', p', hs'⟩, q⟩
          have B' := keepB B q hbw
          go_wp2_with fail
          go_meet
          exact ⟨s', p', hs', B'⟩
      case rest =>
        clear TT p hs hy B ld hge
        obtain ⟨s, p, hs, B⟩ := hcut
        obtain ⟨ρ, hρ⟩ : ∃ ρ, ρ = max 1 ((n : Int) / 4294967296) + 1 := ⟨_, rfl⟩
        have CB := begin_shape s hs b n wc p (by omega) (by omega)
        rw [← hρ] at CB
        have r2 : 2 ≤ ρ := by omega
        have r9 : ρ ≤ 65537 := by omega
        have LV : Live (sr ρ) := live _ _ _ _ _ _ _ _ _ _ _ _ (by omega) (by omega) (by omega) (by omega) (by omega) (by omega)
        have eB : ballotI (sr ρ) = ρ * 4294967296 + 3 * 2 + 0 := by
          unfold ballotI
          rw [if_neg (by show ¬ ρ = 0; omega)]
          rfl
        have dB : decide (4294967302 < ballotI (sr ρ)) = true := decide_eq_true (by omega)
        have dB' : decide (ballotI (sr ρ) > 4294967302) = true := dB
        have dN : decide (4294967302 = ballotI (sr ρ)) = false := decide_eq_false (by omega)
        have O0 : okP (sr ρ) false 0 4294967302 good = false := by unfold okP; rw [dN, Bool.and_false]; rfl
        have O1 : okP (sr ρ) false 1 4294967302 good = false := by unfold okP; rw [dN, Bool.and_false]; rfl
        have O2 : okP (PS.prom (PS.prom (sr ρ) 0 0 zeroV) 1 0 zeroV) true 2 4294967302 good = false := by unfold okP; rw [show decide (4294967302 = ballotI (PS.prom (PS.prom (sr ρ) 0 0 zeroV) 1 0 zeroV)) = false from dN, Bool.and_false]; rfl
        replace O0 := Lib.hid O0
        replace O1 := Lib.hid O1
        replace O2 := Lib.hid O2
        replace CB := Lib.hid CB
        clear hρ dN eB r2 r9
        replace LV := Lib.hid LV
        go_wp2_with fail
        refine CB.out.mono ?_
        rintro e v1 ⟨rfl, p', k⟩
        replace B := keepB B k hbw
        clear p k hs CB hn
        have p := p'
        clear p'
        go_wp2_with fail
        have C : Calls _ _ _ _ (fun e w' => e = .returned (.bool false) ∧ v1 = w') := second_any (sr ρ) b v1 p
        refine C.mono ?_
        clear C
        rintro e _ ⟨rfl, rfl⟩
        go_wp2_with fail
        have C : Calls _ _ _ _ (fun e w' => e = .returned (.agg #[.int .u64 2, .int .i64 0, .int .u64 3, .int .i64 (-1), .int .u64 0, .int .u64 1]) ∧ Below v1.heap.size v1 w') := value_any (sr ρ) b v1 p
        refine C.mono ?_
        clear C
        rintro e v2 ⟨rfl, k⟩
        replace B := bb B k
        replace p := below_block k p
        clear k
        go_wp2_with fail
        have C : Calls _ _ _ _ (fun e w' => e = .returned (.agg #[.int .u64 2, .int .i64 0, .int .u64 3, .int .i64 (-1), .int .u64 0, .int .u64 1]) ∧ Below v2.heap.size v2 w') := want_any 0 3 v2
        refine C.mono ?_
        clear C
        rintro e v3 ⟨rfl, k⟩
        replace B := bb B k
        replace p := below_block k p
        clear k
        go_wp2_with fail
        have C := ballot_any (sr ρ) b v3 p (Int.le_of_lt LV.out.r0) LV.out.r1 LV.out.l0 LV.out.l1 LV.out.m0 LV.out.m1
        refine C.mono ?_
        clear C
        rintro e v4 ⟨rfl, j, rfl⟩
        replace p := block_drewN p j
        replace B : Below w.heap.size w (v3.drewN j) := B.trans ⟨rfl, rfl, rfl, Nat.le_refl _, fun _ _ => rfl⟩
        generalize v3.drewN j = v4 at *
        have p' := block_alloc p (.cells (Pr.row good) TPr)
        have hg : XAt _ _ good := block_new v4 (.cells (Pr.row good) TPr)
        have neY : ¬ v4.heap.size = b := by have := lt_of_block p; omega
        replace B := B.alloc B.size (.cells (Pr.row good) TPr)
        clear p
        have p := p'
        clear p'
        go_upto_region 15 with fail
        have he : (v4.alloc (.cells #[.bool true, .int .u64 2, .int .u64 0, .int .u64 0, .int .u64 0, .int .i64 0, .int .u64 0, .int .i64 0, .int .u64 0, .int .u64 0, .int .u64 0, .int .i64 0, .int .u64 0, .int .i64 0, .int .u64 0, .int .u64 0] 37)) = (v4.alloc (.cells (Pr.row good) TPr)) := rfl
        rw [he]
        clear he
        generalize (v4.alloc (.cells (Pr.row good) TPr)) = v5 at *
        generalize v4.heap.size = Y at *
        clear v4
        have ld : True := trivial
        clear ld
        have ld := Lib.hid hbw
        clear ld
        have ld : (loadVar 37 ⟨Y, 0, none⟩).run Try.prog v5 = _ := load_x hg
        go_wp2_with fail
        have C : Calls _ _ _ _ (fun e w' => e = .returned (.bool false) ∧ Below v5.heap.size v5 w') := promised_no (sr ρ) b 0 4294967302 good v5 p LV.out (.inl O0.out)
        refine C.mono ?_
        clear C
        rintro e v11 ⟨rfl, k⟩
        replace B := bb B k
        replace hg := belowX k hg
        replace p := below_block k p
        clear k
        clear ld
        have ld : (loadVar 37 ⟨Y, 0, none⟩).run Try.prog v11 = _ := load_x hg
        go_wp2_with fail
        have C : Calls _ _ _ _ (fun e w' => e = .returned (.bool false) ∧ Below v11.heap.size v11 w') := promised_no (sr ρ) b 1 4294967302 good v11 p LV.out (.inl O1.out)
        refine C.mono ?_
        clear C
        rintro e v12 ⟨rfl, k⟩
        replace B := bb B k
        replace hg := belowX k hg
        replace p := below_block k p
        clear k
        clear ld
        have ld : (loadVar 37 ⟨Y, 0, none⟩).run Try.prog v12 = _ := load_x hg
        go_wp2_with fail
        have C : Calls _ _ _ _ (fun e w' => e = .returned (.bool false) ∧ PAt w' b (PS.prom (sr ρ) 0 0 zeroV) ∧ Keep (· = b) v12 w') := promised0 (sr ρ) b 0 0 zeroV zeroV v12 p (LV.out) rfl rfl
        refine C.mono ?_
        clear C
        rintro e v13 ⟨rfl, p', k⟩
        replace B := keepB B k hbw
        replace hg := keepX k hg neY
        clear p k
        have p := p'
        clear p'
        clear ld
        have ld : (loadVar 37 ⟨Y, 0, none⟩).run Try.prog v13 = _ := load_x hg
        go_wp2_with fail
        have C : Calls _ _ _ _ (fun e w' => e = .returned (.bool true) ∧ PAt w' b (PS.prom (PS.prom (sr ρ) 0 0 zeroV) 1 0 zeroV) ∧ Keep (· = b) v13 w') := promised1 (PS.prom (sr ρ) 0 0 zeroV) b 0 0 zeroV zeroV v13 p (Live.prom LV.out _ _ _) rfl rfl
        refine C.mono ?_
        clear C
        rintro e v14 ⟨rfl, p', k⟩
        replace B := keepB B k hbw
        replace hg := keepX k hg neY
        clear p k
        have p := p'
        clear p'
        go_wp2_with fail
        have C : Calls _ _ _ _ (fun e w' => e = .returned (.agg #[.int .u64 2, .int .i64 0, .int .u64 3, .int .i64 (-1), .int .u64 0, .int .u64 1]) ∧ Below v14.heap.size v14 w') := value_any (PS.prom (PS.prom (sr ρ) 0 0 zeroV) 1 0 zeroV) b v14 p
        refine C.mono ?_
        clear C
        rintro e v15 ⟨rfl, k⟩
        replace B := bb B k
        replace hg := belowX k hg
        replace p := below_block k p
        clear k
        go_wp2_with fail
        have C : Calls _ _ _ _ (fun e w' => e = .returned (.agg #[.int .u64 2, .int .i64 0, .int .u64 3, .int .i64 (-1), .int .u64 0, .int .u64 1]) ∧ Below v15.heap.size v15 w') := want_any 0 3 v15
        refine C.mono ?_
        clear C
        rintro e v16 ⟨rfl, k⟩
        replace B := bb B k
        replace hg := belowX k hg
        replace p := below_block k p
        clear k
        clear ld
        have ld : (loadVar 37 ⟨Y, 0, none⟩).run Try.prog v16 = _ := load_x hg
        go_wp2_with fail
        have C : Calls _ _ _ _ (fun e w' => e = .returned (.bool false) ∧ Below v16.heap.size v16 w') := took_no (PS.prom (PS.prom (sr ρ) 0 0 zeroV) 1 0 zeroV) b 2 4294967302 good v16 p (Live.prom (Live.prom LV.out _ _ _) _ _ _) (.inl O2.out)
        refine C.mono ?_
        clear C
        rintro e v17 ⟨rfl, k⟩
        replace B := bb B k
        replace hg := belowX k hg
        replace p := below_block k p
        clear k
        clear ld
        have ld : (loadVar 37 ⟨Y, 0, none⟩).run Try.prog v17 = _ := load_x hg
        go_wp2_with fail
        have C : Calls _ _ _ _ (fun e w' => e = .returned (.bool false) ∧ PAt w' b (PS.take (PS.prom (PS.prom (sr ρ) 0 0 zeroV) 1 0 zeroV) 2) ∧ Keep (· = b) v17 w') := took2 (PS.prom (PS.prom (sr ρ) 0 0 zeroV) 1 0 zeroV) b 0 0 zeroV zeroV v17 p (Live.prom (Live.prom LV.out _ _ _) _ _ _) rfl rfl
        refine C.mono ?_
        clear C
        rintro e v18 ⟨rfl, p', k⟩
        replace B := keepB B k hbw
        replace hg := keepX k hg neY
        clear p k
        have p := p'
        clear p'
        clear ld
        have ld : (loadVar 37 ⟨Y, 0, none⟩).run Try.prog v18 = _ := load_x hg
        go_wp2_with fail
        have C : Calls _ _ _ _ (fun e w' => e = .returned (.bool true) ∧ PAt w' b (PS.take (PS.take (PS.prom (PS.prom (sr ρ) 0 0 zeroV) 1 0 zeroV) 2) 1) ∧ Keep (· = b) v18 w') := took1 (PS.take (PS.prom (PS.prom (sr ρ) 0 0 zeroV) 1 0 zeroV) 2) b 0 0 zeroV zeroV v18 p (Live.take (Live.prom (Live.prom LV.out _ _ _) _ _ _) _) rfl rfl
        refine C.mono ?_
        clear C
        rintro e v19 ⟨rfl, p', k⟩
        replace B := keepB B k hbw
        replace hg := keepX k hg neY
        clear p k
        have p := p'
        clear p'
        go_wp2_with fail
        go_ret
        exact ⟨rfl, B⟩
end Go.Proofs.Ytppnjkiegiokeaa.QuoBe
