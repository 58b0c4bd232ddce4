/-
  Layer 17 (quorum): an answer that counts, to the first part, of arbiter 2.
-/
import Derived.Test.YtppnjkiegiokeaaQuoR
namespace Go.Proofs.Ytppnjkiegiokeaa.QuoP2
set_option linter.unusedVariables false
set_option linter.unusedSimpArgs false
open Go.RowKit Go.Proofs.Ytppnjkiegiokeaa.Mem Go.Proofs.Ytppnjkiegiokeaa.QuoW Go.Proofs.Ytppnjkiegiokeaa.QuoV Go.Proofs.Ytppnjkiegiokeaa.QuoU Go.Proofs.Ytppnjkiegiokeaa.QuoR


set_option maxHeartbeats 2000000 in
theorem promised2 (s : PS) (b : Nat) (most bal : Int) (val ch : Vw) (w : World) (h : PAt w b s) (hk : Live s) (hs : s.sec = false) (hy : s.y2 = false) :
    Calls Try.prog 15 #[.pointer (some ⟨b, 0, none⟩), .int .i64 2, .int .u64 (ballotI s), (Pr.mk true s.wa.v most bal val ch).agg] w fun e w' =>
      e = .returned (.bool (PS.prom s 2 bal val).sec) ∧ PAt w' b (PS.prom s 2 bal val) ∧ Keep (· = b) w w' := by
  have c6 : ∀ o n, ((w.alloc o).drewN n).cell? ⟨b, 6, none⟩ = some (.int .u64 s.wa.v) := fun o n => PAt.c (s := s) (block_drewN (block_alloc h o) n) 6
  have c15 : ∀ o n, ((w.alloc o).drewN n).cell? ⟨b, 15, none⟩ = some (.bool s.y0) := fun o n => PAt.c (s := s) (block_drewN (block_alloc h o) n) 15
  have c16 : ∀ o n, ((w.alloc o).drewN n).cell? ⟨b, 16, none⟩ = some (.bool s.y1) := fun o n => PAt.c (s := s) (block_drewN (block_alloc h o) n) 16
  have c17 : ∀ o n, ((w.alloc o).drewN n).cell? ⟨b, 17, none⟩ = some (.bool s.y2) := fun o n => PAt.c (s := s) (block_drewN (block_alloc h o) n) 17
  have c28 : ∀ o n, ((w.alloc o).drewN n).cell? ⟨b, 28, none⟩ = some (.bool s.sec) := fun o n => PAt.c (s := s) (block_drewN (block_alloc h o) n) 28
  have HB : ∀ (o : Obj) n, Calls Try.prog 12 #[.pointer (some ⟨b, 0, none⟩)] ((w.alloc o).drewN n) fun e w' => e = .returned (.int .u64 (ballotI s)) ∧ ∃ m, w' = ((w.alloc o).drewN n).drewN m := fun o n =>
    ballot_any s b _ (block_drewN (block_alloc h o) n) (Int.le_of_lt hk.r0) hk.r1 hk.l0 hk.l1 hk.m0 hk.m1
  have HP : ∀ (o : Obj) n, PAt ((w.alloc o).drewN n) b s := fun o n => block_drewN (block_alloc h o) n
  have HK : ∀ (o : Obj) n, Keep (· = b) w ((w.alloc o).drewN n) := fun o n => ((Keep.refl _ w).alloc o).drewN n
  have HX : ∀ (o : Obj) n, ((w.alloc o).drewN n).heap[w.heap.size]? = some o := fun o n => block_drewN (block_new w o) n
  have bp := ballot_pos s hk
  have hne : ¬ w.heap.size = b := by have := lt_of_block h; omega
  have hne' : ¬ b = w.heap.size := by have := lt_of_block h; omega
  replace HB := Lib.hid HB
  replace HP := Lib.hid HP
  replace HK := Lib.hid HK
  replace HX := Lib.hid HX
  clear h hk
  generalize ballotI s = B at *
  have hnz : decide (B = 0) = false := decide_eq_false (by omega)
  have hnz' : (B == 0) = false := by rw [beq_eq_false_iff_ne]; omega
  simp only [hs, hy] at c15 c16 c17 c28
  clear bp
  simp only [Pr.agg]
  go_enter Try.func15, Try.ntmps15
  go_wp2_with fail
  go_quiet ((go_at_call 12; exact Calls.quiet_of (HB.out _ _)))
  clear c6 c15 c16 c17 c28 HB hnz hnz'
  have hp := HP.out (.cells #[.bool true, .int .u64 s.wa.v, .int .u64 most, .int .u64 bal, .int .u64 val.v, .int .i64 val.p, .int .u64 val.pl, .int .i64 val.b, .int .u64 val.bl, .int .u64 val.e, .int .u64 ch.v, .int .i64 ch.p, .int .u64 ch.pl, .int .i64 ch.b, .int .u64 ch.bl, .int .u64 ch.e] 37) nq
  have hkp := HK.out (.cells #[.bool true, .int .u64 s.wa.v, .int .u64 most, .int .u64 bal, .int .u64 val.v, .int .i64 val.p, .int .u64 val.pl, .int .i64 val.b, .int .u64 val.bl, .int .u64 val.e, .int .u64 ch.v, .int .i64 ch.p, .int .u64 ch.pl, .int .i64 ch.b, .int .u64 ch.bl, .int .u64 ch.e] 37) nq
  have hx := HX.out (.cells #[.bool true, .int .u64 s.wa.v, .int .u64 most, .int .u64 bal, .int .u64 val.v, .int .i64 val.p, .int .u64 val.pl, .int .i64 val.b, .int .u64 val.bl, .int .u64 val.e, .int .u64 ch.v, .int .i64 ch.p, .int .u64 ch.pl, .int .i64 ch.b, .int .u64 ch.bl, .int .u64 ch.e] 37) nq
  clear HP HK HX
  generalize World.drewN _ nq = W at *
  generalize w.heap.size = X at *
  clear nq
  have c15 : W.cell? ⟨b, 15, none⟩ = some (.bool s.y0) := hp.c 15
  have c16 : W.cell? ⟨b, 16, none⟩ = some (.bool s.y1) := hp.c 16
  have c17 : W.cell? ⟨b, 17, none⟩ = some (.bool s.y2) := hp.c 17
  have c21 : W.cell? ⟨b, 21, none⟩ = some (.int .u64 s.best) := hp.c 21
  have c28 : W.cell? ⟨b, 28, none⟩ = some (.bool s.sec) := hp.c 28
  have x3 : W.cell? ⟨X, 3, none⟩ = some (.int .u64 bal) := cell_at hx 3
  have fr : ∀ i, W.frozen? ⟨b, i, none⟩ = false := fun i => free_at hp i
  simp only [hs, hy] at c15 c16 c17 c28
  replace hp := Lib.hid hp
  replace hkp := Lib.hid hkp
  replace hx := Lib.hid hx
  by_cases hb : s.best < bal
  · have d : decide (s.best < bal) = true := decide_eq_true hb
    have d' : decide (bal > s.best) = true := decide_eq_true hb
    go_wp2_with fail
    go_quiet (fail)
    go_wp2_with fail
    have p2 : PAt ((W.setCell ⟨b, 17, none⟩ (.bool true)).drewN nq) b (PS.mk s.kn s.wa s.me s.life s.round s.y0 s.y1 true s.t0 s.t1 s.t2 s.best s.val s.sec) := block_drewN ((block_set hp.out 17 (.bool true)).trans rfl) nq
    have k2 : Keep (· = b) w ((W.setCell ⟨b, 17, none⟩ (.bool true)).drewN nq) := ((hkp.out).setCell (.inl rfl) _).drewN nq
    have hx2 := hx.out
    have hx3 : ((W.setCell ⟨b, 17, none⟩ (.bool true)).drewN nq).heap[X]? = _ := block_drewN ((block_set_other (p := ⟨b, 17, none⟩) hne (.bool true)).trans hx2) nq
    clear hx2
    clear c15 c16 c17 c21 c28 x3 fr
    generalize ((W.setCell ⟨b, 17, none⟩ (.bool true)).drewN nq) = V at *
    have c21 : V.cell? ⟨b, 21, none⟩ = some (.int .u64 s.best) := p2.c 21
    have c22 : V.cell? ⟨b, 22, none⟩ = some (.int .u64 s.val.v) := p2.c 22
    have c23 : V.cell? ⟨b, 23, none⟩ = some (.int .i64 s.val.p) := p2.c 23
    have c24 : V.cell? ⟨b, 24, none⟩ = some (.int .u64 s.val.pl) := p2.c 24
    have c25 : V.cell? ⟨b, 25, none⟩ = some (.int .i64 s.val.b) := p2.c 25
    have c26 : V.cell? ⟨b, 26, none⟩ = some (.int .u64 s.val.bl) := p2.c 26
    have c27 : V.cell? ⟨b, 27, none⟩ = some (.int .u64 s.val.e) := p2.c 27
    have x3 : V.cell? ⟨X, 3, none⟩ = some (.int .u64 bal) := cell_at hx3 3
    have x4 : V.cell? ⟨X, 4, none⟩ = some (.int .u64 val.v) := cell_at hx3 4
    have x5 : V.cell? ⟨X, 5, none⟩ = some (.int .i64 val.p) := cell_at hx3 5
    have x6 : V.cell? ⟨X, 6, none⟩ = some (.int .u64 val.pl) := cell_at hx3 6
    have x7 : V.cell? ⟨X, 7, none⟩ = some (.int .i64 val.b) := cell_at hx3 7
    have x8 : V.cell? ⟨X, 8, none⟩ = some (.int .u64 val.bl) := cell_at hx3 8
    have x9 : V.cell? ⟨X, 9, none⟩ = some (.int .u64 val.e) := cell_at hx3 9
    have fr : ∀ i, V.frozen? ⟨b, i, none⟩ = false := fun i => free_at p2 i
    replace p2 := Lib.hid p2
    replace k2 := Lib.hid k2
    clear hx3 hx
    go_region_held3 (fun w' => w'.cell? ⟨X, 3, none⟩ = some (.int .u64 bal) ∧ w'.cell? ⟨X, 4, none⟩ = some (.int .u64 val.v) ∧ w'.cell? ⟨X, 5, none⟩ = some (.int .i64 val.p) ∧ w'.cell? ⟨X, 6, none⟩ = some (.int .u64 val.pl) ∧ w'.cell? ⟨X, 7, none⟩ = some (.int .i64 val.b) ∧ w'.cell? ⟨X, 8, none⟩ = some (.int .u64 val.bl) ∧ w'.cell? ⟨X, 9, none⟩ = some (.int .u64 val.e)) (go_keep) ((fail))
    have p3 : PAt (((((((V.setCell ⟨b, 21, none⟩ (.int .u64 bal)).setCell ⟨b, 22, none⟩ (.int .u64 val.v)).setCell ⟨b, 23, none⟩ (.int .i64 val.p)).setCell ⟨b, 24, none⟩ (.int .u64 val.pl)).setCell ⟨b, 25, none⟩ (.int .i64 val.b)).setCell ⟨b, 26, none⟩ (.int .u64 val.bl)).setCell ⟨b, 27, none⟩ (.int .u64 val.e)).drew b (PS.mk s.kn s.wa s.me s.life s.round s.y0 s.y1 true s.t0 s.t1 s.t2 bal val s.sec) := block_drew ((block_set (block_set (block_set (block_set (block_set (block_set (block_set p2.out 21 (.int .u64 bal)) 22 (.int .u64 val.v)) 23 (.int .i64 val.p)) 24 (.int .u64 val.pl)) 25 (.int .i64 val.b)) 26 (.int .u64 val.bl)) 27 (.int .u64 val.e)).trans rfl)
    have k3 : Keep (· = b) w (((((((V.setCell ⟨b, 21, none⟩ (.int .u64 bal)).setCell ⟨b, 22, none⟩ (.int .u64 val.v)).setCell ⟨b, 23, none⟩ (.int .i64 val.p)).setCell ⟨b, 24, none⟩ (.int .u64 val.pl)).setCell ⟨b, 25, none⟩ (.int .i64 val.b)).setCell ⟨b, 26, none⟩ (.int .u64 val.bl)).setCell ⟨b, 27, none⟩ (.int .u64 val.e)).drew := Keep.drew (((((((k2.out.setCell (.inl rfl) _).setCell (.inl rfl) _).setCell (.inl rfl) _).setCell (.inl rfl) _).setCell (.inl rfl) _).setCell (.inl rfl) _).setCell (.inl rfl) _)
    generalize (((((((V.setCell ⟨b, 21, none⟩ (.int .u64 bal)).setCell ⟨b, 22, none⟩ (.int .u64 val.v)).setCell ⟨b, 23, none⟩ (.int .i64 val.p)).setCell ⟨b, 24, none⟩ (.int .u64 val.pl)).setCell ⟨b, 25, none⟩ (.int .i64 val.b)).setCell ⟨b, 26, none⟩ (.int .u64 val.bl)).setCell ⟨b, 27, none⟩ (.int .u64 val.e)).drew = V3 at *
    go_split_ands
    clear p2 k2 c21 c22 c23 c24 c25 c26 c27 x3 x4 x5 x6 x7 x8 x9 fr
    have c15 : V3.cell? ⟨b, 15, none⟩ = some (.bool (s.y0)) := p3.c 15
    have c16 : V3.cell? ⟨b, 16, none⟩ = some (.bool (s.y1)) := p3.c 16
    have c17 : V3.cell? ⟨b, 17, none⟩ = some (.bool (true)) := p3.c 17
    replace p3 := Lib.hid p3
    replace k3 := Lib.hid k3
    go_wp2_with fail
    refine (count_any _ _ _ _).mono ?_
    rintro e w5 ⟨rfl, kb⟩
    have p5 : PAt w5 b (PS.mk s.kn s.wa s.me s.life s.round s.y0 s.y1 true s.t0 s.t1 s.t2 bal val s.sec) := below_block kb p3.out
    have k5 : Keep (· = b) w w5 := Keep.of_bel k3.out kb
    have c28 : w5.cell? ⟨b, 28, none⟩ = some (.bool s.sec) := p5.c 28
    have fr : w5.frozen? ⟨b, 28, none⟩ = false := free_at p5 28
    clear p3 k3 kb c15 c16 c17
    replace p5 := Lib.hid p5
    replace k5 := Lib.hid k5
    have hq : (PS.prom s 2 bal val) = ⟨s.kn, s.wa, s.me, s.life, s.round, s.y0, s.y1, true, s.t0, s.t1, s.t2, bal, val, decide (1 < cnt s.y0 s.y1 true)⟩ := by
      unfold PS.prom
      simp [hb]
    replace hq := Lib.hid hq
    generalize cnt s.y0 s.y1 true = N at *
    go_wp2_with fail
    go_ret
    rw [hq.out]
    exact ⟨rfl, (block_set p5.out 28 _).trans rfl, k5.out.setCell (.inl rfl) _⟩
  · have d : decide (s.best < bal) = false := decide_eq_false hb
    have d' : decide (bal > s.best) = false := decide_eq_false hb
    go_wp2_with fail
    go_quiet (fail)
    go_wp2_with fail
    have p2 : PAt ((W.setCell ⟨b, 17, none⟩ (.bool true)).drewN nq) b (PS.mk s.kn s.wa s.me s.life s.round s.y0 s.y1 true s.t0 s.t1 s.t2 s.best s.val s.sec) := block_drewN ((block_set hp.out 17 (.bool true)).trans rfl) nq
    have k2 : Keep (· = b) w ((W.setCell ⟨b, 17, none⟩ (.bool true)).drewN nq) := ((hkp.out).setCell (.inl rfl) _).drewN nq
    generalize ((W.setCell ⟨b, 17, none⟩ (.bool true)).drewN nq) = V at *
    have p3 := p2
    have k3 := k2
    clear p2 k2 c15 c16 c17 c21 c28 x3 fr hx
    have c15 : V.cell? ⟨b, 15, none⟩ = some (.bool (s.y0)) := p3.c 15
    have c16 : V.cell? ⟨b, 16, none⟩ = some (.bool (s.y1)) := p3.c 16
    have c17 : V.cell? ⟨b, 17, none⟩ = some (.bool (true)) := p3.c 17
    replace p3 := Lib.hid p3
    replace k3 := Lib.hid k3
    go_wp2_with fail
    refine (count_any _ _ _ _).mono ?_
    rintro e w5 ⟨rfl, kb⟩
    have p5 : PAt w5 b (PS.mk s.kn s.wa s.me s.life s.round s.y0 s.y1 true s.t0 s.t1 s.t2 s.best s.val s.sec) := below_block kb p3.out
    have k5 : Keep (· = b) w w5 := Keep.of_bel k3.out kb
    have c28 : w5.cell? ⟨b, 28, none⟩ = some (.bool s.sec) := p5.c 28
    have fr : w5.frozen? ⟨b, 28, none⟩ = false := free_at p5 28
    clear p3 k3 kb c15 c16 c17
    replace p5 := Lib.hid p5
    replace k5 := Lib.hid k5
    have hq : (PS.prom s 2 bal val) = ⟨s.kn, s.wa, s.me, s.life, s.round, s.y0, s.y1, true, s.t0, s.t1, s.t2, s.best, s.val, decide (1 < cnt s.y0 s.y1 true)⟩ := by
      unfold PS.prom
      simp [show ¬ s.best < bal from by omega]
    replace hq := Lib.hid hq
    generalize cnt s.y0 s.y1 true = N at *
    go_wp2_with fail
    go_ret
    rw [hq.out]
    exact ⟨rfl, (block_set p5.out 28 _).trans rfl, k5.out.setCell (.inl rfl) _⟩

end Go.Proofs.Ytppnjkiegiokeaa.QuoP2
