/-
  Layer 17 (quorum): an answer that counts, to the second part, of arbiter 1.
-/
import Derived.Test.YtppnjkiegiokeaaQuoR
namespace Go.Proofs.Ytppnjkiegiokeaa.QuoK1
set_option linter.unusedVariables false
set_option linter.unusedSimpArgs false
open Go.RowKit Go.Proofs.Ytppnjkiegiokeaa.Mem Go.Proofs.Ytppnjkiegiokeaa.QuoW Go.Proofs.Ytppnjkiegiokeaa.QuoV Go.Proofs.Ytppnjkiegiokeaa.QuoU Go.Proofs.Ytppnjkiegiokeaa.QuoR


set_option maxHeartbeats 2000000 in
theorem took1 (s : PS) (b : Nat) (most bal : Int) (val ch : Vw) (w : World) (h : PAt w b s) (hk : Live s) (hs : s.sec = true) (hy : s.t1 = false) :
    Calls Try.prog 16 #[.pointer (some ⟨b, 0, none⟩), .int .i64 1, .int .u64 (ballotI s), (Pr.mk true s.wa.v most bal val ch).agg] w fun e w' =>
      e = .returned (.bool (PS.takes s 1)) ∧ PAt w' b (PS.take s 1) ∧ Keep (· = b) w w' := by
  have c6 : ∀ o n, ((w.alloc o).drewN n).cell? ⟨b, 6, none⟩ = some (.int .u64 s.wa.v) := fun o n => PAt.c (s := s) (block_drewN (block_alloc h o) n) 6
  have c18 : ∀ o n, ((w.alloc o).drewN n).cell? ⟨b, 18, none⟩ = some (.bool s.t0) := fun o n => PAt.c (s := s) (block_drewN (block_alloc h o) n) 18
  have c19 : ∀ o n, ((w.alloc o).drewN n).cell? ⟨b, 19, none⟩ = some (.bool s.t1) := fun o n => PAt.c (s := s) (block_drewN (block_alloc h o) n) 19
  have c20 : ∀ o n, ((w.alloc o).drewN n).cell? ⟨b, 20, none⟩ = some (.bool s.t2) := fun o n => PAt.c (s := s) (block_drewN (block_alloc h o) n) 20
  have c28 : ∀ o n, ((w.alloc o).drewN n).cell? ⟨b, 28, none⟩ = some (.bool s.sec) := fun o n => PAt.c (s := s) (block_drewN (block_alloc h o) n) 28
  have HB : ∀ (o : Obj) n, Calls Try.prog 12 #[.pointer (some ⟨b, 0, none⟩)] ((w.alloc o).drewN n) fun e w' => e = .returned (.int .u64 (ballotI s)) ∧ ∃ m, w' = ((w.alloc o).drewN n).drewN m := fun o n =>
    ballot_any s b _ (block_drewN (block_alloc h o) n) (Int.le_of_lt hk.r0) hk.r1 hk.l0 hk.l1 hk.m0 hk.m1
  have HP : ∀ (o : Obj) n, PAt ((w.alloc o).drewN n) b s := fun o n => block_drewN (block_alloc h o) n
  have HK : ∀ (o : Obj) n, Keep (· = b) w ((w.alloc o).drewN n) := fun o n => ((Keep.refl _ w).alloc o).drewN n
  replace HB := Lib.hid HB
  replace HP := Lib.hid HP
  replace HK := Lib.hid HK
  clear h hk
  generalize ballotI s = B at *
  simp only [hs, hy] at c18 c19 c20 c28
  simp only [Pr.agg]
  go_enter Try.func16, Try.ntmps16
  go_wp2_with fail
  go_quiet ((go_at_call 12; exact Calls.quiet_of (HB.out _ _)))
  clear c6 c18 c19 c20 c28 HB
  have hp := HP.out (.cells #[.bool true, .int .u64 s.wa.v, .int .u64 most, .int .u64 bal, .int .u64 val.v, .int .i64 val.p, .int .u64 val.pl, .int .i64 val.b, .int .u64 val.bl, .int .u64 val.e, .int .u64 ch.v, .int .i64 ch.p, .int .u64 ch.pl, .int .i64 ch.b, .int .u64 ch.bl, .int .u64 ch.e] 37) nq
  have hkp := HK.out (.cells #[.bool true, .int .u64 s.wa.v, .int .u64 most, .int .u64 bal, .int .u64 val.v, .int .i64 val.p, .int .u64 val.pl, .int .i64 val.b, .int .u64 val.bl, .int .u64 val.e, .int .u64 ch.v, .int .i64 ch.p, .int .u64 ch.pl, .int .i64 ch.b, .int .u64 ch.bl, .int .u64 ch.e] 37) nq
  clear HP HK
  generalize World.drewN _ nq = W at *
  generalize w.heap.size = X at *
  clear nq
  have c18 : W.cell? ⟨b, 18, none⟩ = some (.bool s.t0) := hp.c 18
  have c19 : W.cell? ⟨b, 19, none⟩ = some (.bool s.t1) := hp.c 19
  have c20 : W.cell? ⟨b, 20, none⟩ = some (.bool s.t2) := hp.c 20
  have fr : ∀ i, W.frozen? ⟨b, i, none⟩ = false := fun i => free_at hp i
  simp only [hs, hy] at c18 c19 c20
  replace hp := Lib.hid hp
  replace hkp := Lib.hid hkp
  go_wp2_with fail
  refine (count_any _ _ _ _).mono ?_
  rintro e w5 ⟨rfl, kb⟩
  have p2 : PAt (W.setCell ⟨b, 19, none⟩ (.bool true)) b (PS.take s 1) := by
    have := block_set hp.out 19 (.bool true)
    unfold PS.take
    simp only [Bool.or_true, Bool.or_false, beq_self_eq_true, Nat.reduceBEq]
    exact this.trans rfl
  have p5 : PAt w5 b (PS.take s 1) := below_block kb p2
  have k5 : Keep (· = b) w w5 := Keep.of_bel (hkp.out.setCell (.inl rfl) _) kb
  clear kb p2 c18 c19 c20 fr hp hkp
  replace p5 := Lib.hid p5
  replace k5 := Lib.hid k5
  have hq : PS.takes s 1 = decide (cnt s.t0 true s.t2 = 2) := by
    unfold PS.takes
    simp
  replace hq := Lib.hid hq
  generalize cnt s.t0 true s.t2 = N at *
  go_wp2_with fail
  go_ret
  rw [hq.out]
  exact ⟨by first | rfl | (congr 2; exact Bool.eq_iff_iff.mpr (by simp)), p5.out, k5.out⟩

end Go.Proofs.Ytppnjkiegiokeaa.QuoK1
