/-
  Layer 17 (quorum): Promised and Took.
-/
import Derived.Test.YtppnjkiegiokeaaQuoV
namespace Go.Proofs.Ytppnjkiegiokeaa.QuoU
set_option linter.unusedVariables false
set_option linter.unusedSimpArgs false
open Go.RowKit Go.Proofs.Ytppnjkiegiokeaa.Mem Go.Proofs.Ytppnjkiegiokeaa.QuoW Go.Proofs.Ytppnjkiegiokeaa.QuoV

/-- What an answer must be to count. -/
def okP (s : PS) (part : Bool) (frm bal : Int) (x : Pr) : Bool :=
  decide (0 ≤ frm) && decide (frm < 3) && (s.sec == part) && decide (bal = ballotI s) && x.ok && decide (x.v = s.wa.v)

structure Live (s : PS) : Prop where
  r0 : 0 < s.round
  r1 : s.round ≤ 1073741824
  l0 : 0 ≤ s.life
  l1 : s.life < 16777216
  m0 : 0 ≤ s.me
  m1 : s.me ≤ 1
theorem ballot_pos (s : PS) (h : Live s) : 4294967296 ≤ ballotI s := by
  unfold ballotI
  rw [if_neg (by have := h.r0; omega)]
  have := h.r0; have := h.l0; have := h.m0
  omega

set_option maxHeartbeats 2000000 in
theorem promised_no (s : PS) (b : Nat) (frm bal : Int) (x : Pr) (w : World) (h : PAt w b s) (hk : Live s) (hno : okP s false frm bal x = false ∨ (frm = 0 ∧ s.y0 = true) ∨ (frm = 1 ∧ s.y1 = true) ∨ (frm = 2 ∧ s.y2 = true)) :
    Calls Try.prog 15 #[.pointer (some ⟨b, 0, none⟩), .int .i64 frm, .int .u64 bal, x.agg] w fun e w' => e = .returned (.bool false) ∧ Below w.heap.size w w' := by
  have c6 : ∀ o n, ((w.alloc o).drewN n).cell? ⟨b, 6, none⟩ = some (.int .u64 s.wa.v) := fun o n => PAt.c (s := s) (block_drewN (block_alloc h o) n) 6
  have e6 : ∀ o, (w.alloc o).cell? ⟨b, 6, none⟩ = some (.int .u64 s.wa.v) := fun o => PAt.c (s := s) (block_alloc h o) 6
  have c15 : ∀ o n, ((w.alloc o).drewN n).cell? ⟨b, 15, none⟩ = some (.bool s.y0) := fun o n => PAt.c (s := s) (block_drewN (block_alloc h o) n) 15
  have e15 : ∀ o, (w.alloc o).cell? ⟨b, 15, none⟩ = some (.bool s.y0) := fun o => PAt.c (s := s) (block_alloc h o) 15
  have c16 : ∀ o n, ((w.alloc o).drewN n).cell? ⟨b, 16, none⟩ = some (.bool s.y1) := fun o n => PAt.c (s := s) (block_drewN (block_alloc h o) n) 16
  have e16 : ∀ o, (w.alloc o).cell? ⟨b, 16, none⟩ = some (.bool s.y1) := fun o => PAt.c (s := s) (block_alloc h o) 16
  have c17 : ∀ o n, ((w.alloc o).drewN n).cell? ⟨b, 17, none⟩ = some (.bool s.y2) := fun o n => PAt.c (s := s) (block_drewN (block_alloc h o) n) 17
  have e17 : ∀ o, (w.alloc o).cell? ⟨b, 17, none⟩ = some (.bool s.y2) := fun o => PAt.c (s := s) (block_alloc h o) 17
  have c28 : ∀ o n, ((w.alloc o).drewN n).cell? ⟨b, 28, none⟩ = some (.bool s.sec) := fun o n => PAt.c (s := s) (block_drewN (block_alloc h o) n) 28
  have e28 : ∀ o, (w.alloc o).cell? ⟨b, 28, none⟩ = some (.bool s.sec) := fun o => PAt.c (s := s) (block_alloc h o) 28
  have HB : ∀ (o : Obj) n, Calls Try.prog 12 #[.pointer (some ⟨b, 0, none⟩)] ((w.alloc o).drewN n) fun e w' => e = .returned (.int .u64 (ballotI s)) ∧ ∃ m, w' = ((w.alloc o).drewN n).drewN m := fun o n =>
    ballot_any s b _ (block_drewN (block_alloc h o) n) (Int.le_of_lt hk.r0) hk.r1 hk.l0 hk.l1 hk.m0 hk.m1
  have bw : ∀ (o : Obj) n, Below w.heap.size w ((w.alloc o).drewN n) := fun o n => ((Below.refl _ w).alloc (Nat.le_refl _) o).trans ⟨rfl, rfl, rfl, Nat.le_refl _, fun _ _ => rfl⟩
  have bp := ballot_pos s hk
  replace HB := Lib.hid HB
  clear h hk
  unfold okP at hno
  generalize ballotI s = B at *
  obtain ⟨ok, xv, xm, xb, xval, xch⟩ := x
  simp only [Pr.agg]
  simp only at hno
  have hnz : decide (B = 0) = false := decide_eq_false (by omega)
  have hnz' : (B == 0) = false := by rw [beq_eq_false_iff_ne]; omega
  by_cases g1 : frm < 0
  · have d1 : decide (frm < 0) = true := decide_eq_true g1
    clear hno bp
    go_enter Try.func15, Try.ntmps15
    go_wp2_with fail
    go_quiet ((go_at_call 12; exact Calls.quiet_of (HB.out _ _)))
    go_wp2_with fail
    go_ret
    exact ⟨rfl, bw _ _⟩
  have d1 : decide (frm < 0) = false := decide_eq_false g1
  by_cases g2 : 3 ≤ frm
  · have d2 : decide (3 ≤ frm) = true := decide_eq_true g2
    have d2' : decide (frm ≥ 3) = true := decide_eq_true g2
    clear hno bp g1 g2
    go_enter Try.func15, Try.ntmps15
    go_wp2_with fail
    go_quiet ((go_at_call 12; exact Calls.quiet_of (HB.out _ _)))
    go_wp2_with fail
    go_ret
    exact ⟨rfl, bw _ _⟩
  have d2 : decide (3 ≤ frm) = false := decide_eq_false g2
  have d2' : decide (frm ≥ 3) = false := decide_eq_false g2
  have k1 : decide (0 ≤ frm) = true := decide_eq_true (by omega)
  have k2 : decide (frm < 3) = true := decide_eq_true (by omega)
  rw [k1, k2] at hno
  clear k1 k2
  cases hs : s.sec
  · simp only [hs] at c28 e28 hno
    by_cases g3 : bal = B
    · subst g3
      have d3 : decide (bal = bal) = true := decide_eq_true rfl
      cases ok
      · clear hno bp g1 g2 hs
        go_enter Try.func15, Try.ntmps15
        go_wp2_with fail
        go_quiet ((go_at_call 12; exact Calls.quiet_of (HB.out _ _)))
        go_wp2_with fail
        go_ret
        exact ⟨rfl, bw _ _⟩
      by_cases g4 : xv = s.wa.v
      · subst g4
        have hno' : (frm = 0 ∧ s.y0 = true) ∨ (frm = 1 ∧ s.y1 = true) ∨ (frm = 2 ∧ s.y2 = true) := by simpa using hno
        clear hno
        rcases hno' with ⟨rfl, hy⟩ | ⟨rfl, hy⟩ | ⟨rfl, hy⟩
        all_goals
          simp only [hy] at *
          clear bp g1 g2 hs hy d1 d2 d2'
          go_enter Try.func15, Try.ntmps15
          go_wp2_with fail
          go_quiet ((go_at_call 12; exact Calls.quiet_of (HB.out _ _)))
          go_wp2_with fail
          go_ret
          exact ⟨rfl, bw _ _⟩
      · have d4 : decide (xv = s.wa.v) = false := decide_eq_false g4
        have d4' : (xv == s.wa.v) = false := by simp [g4]
        have d4'' : (xv != s.wa.v) = true := by simp [g4]
        clear hno bp g1 g2 g4 hs
        go_enter Try.func15, Try.ntmps15
        go_wp2_with fail
        go_quiet ((go_at_call 12; exact Calls.quiet_of (HB.out _ _)))
        go_wp2_with fail
        go_ret
        exact ⟨rfl, bw _ _⟩
    · have d3 : decide (bal = B) = false := decide_eq_false g3
      have d3' : (bal == B) = false := by simp [g3]
      have d3'' : (bal != B) = true := by simp [g3]
      clear hno bp g1 g2 g3 hs
      go_enter Try.func15, Try.ntmps15
      go_wp2_with fail
      go_quiet ((go_at_call 12; exact Calls.quiet_of (HB.out _ _)))
      go_wp2_with fail
      go_ret
      exact ⟨rfl, bw _ _⟩
  · simp only [hs] at c28 e28 hno
    clear hno bp g1 g2 hs
    go_enter Try.func15, Try.ntmps15
    go_wp2_with fail
    go_quiet ((go_at_call 12; exact Calls.quiet_of (HB.out _ _)))
    go_wp2_with fail
    go_ret
    exact ⟨rfl, bw _ _⟩

set_option maxHeartbeats 2000000 in
theorem took_no (s : PS) (b : Nat) (frm bal : Int) (x : Pr) (w : World) (h : PAt w b s) (hk : Live s) (hno : okP s true frm bal x = false ∨ (frm = 0 ∧ s.t0 = true) ∨ (frm = 1 ∧ s.t1 = true) ∨ (frm = 2 ∧ s.t2 = true)) :
    Calls Try.prog 16 #[.pointer (some ⟨b, 0, none⟩), .int .i64 frm, .int .u64 bal, x.agg] w fun e w' => e = .returned (.bool false) ∧ Below w.heap.size w w' := by
  have c6 : ∀ o n, ((w.alloc o).drewN n).cell? ⟨b, 6, none⟩ = some (.int .u64 s.wa.v) := fun o n => PAt.c (s := s) (block_drewN (block_alloc h o) n) 6
  have e6 : ∀ o, (w.alloc o).cell? ⟨b, 6, none⟩ = some (.int .u64 s.wa.v) := fun o => PAt.c (s := s) (block_alloc h o) 6
  have c18 : ∀ o n, ((w.alloc o).drewN n).cell? ⟨b, 18, none⟩ = some (.bool s.t0) := fun o n => PAt.c (s := s) (block_drewN (block_alloc h o) n) 18
  have e18 : ∀ o, (w.alloc o).cell? ⟨b, 18, none⟩ = some (.bool s.t0) := fun o => PAt.c (s := s) (block_alloc h o) 18
  have c19 : ∀ o n, ((w.alloc o).drewN n).cell? ⟨b, 19, none⟩ = some (.bool s.t1) := fun o n => PAt.c (s := s) (block_drewN (block_alloc h o) n) 19
  have e19 : ∀ o, (w.alloc o).cell? ⟨b, 19, none⟩ = some (.bool s.t1) := fun o => PAt.c (s := s) (block_alloc h o) 19
  have c20 : ∀ o n, ((w.alloc o).drewN n).cell? ⟨b, 20, none⟩ = some (.bool s.t2) := fun o n => PAt.c (s := s) (block_drewN (block_alloc h o) n) 20
  have e20 : ∀ o, (w.alloc o).cell? ⟨b, 20, none⟩ = some (.bool s.t2) := fun o => PAt.c (s := s) (block_alloc h o) 20
  have c28 : ∀ o n, ((w.alloc o).drewN n).cell? ⟨b, 28, none⟩ = some (.bool s.sec) := fun o n => PAt.c (s := s) (block_drewN (block_alloc h o) n) 28
  have e28 : ∀ o, (w.alloc o).cell? ⟨b, 28, none⟩ = some (.bool s.sec) := fun o => PAt.c (s := s) (block_alloc h o) 28
  have HB : ∀ (o : Obj) n, Calls Try.prog 12 #[.pointer (some ⟨b, 0, none⟩)] ((w.alloc o).drewN n) fun e w' => e = .returned (.int .u64 (ballotI s)) ∧ ∃ m, w' = ((w.alloc o).drewN n).drewN m := fun o n =>
    ballot_any s b _ (block_drewN (block_alloc h o) n) (Int.le_of_lt hk.r0) hk.r1 hk.l0 hk.l1 hk.m0 hk.m1
  have bw : ∀ (o : Obj) n, Below w.heap.size w ((w.alloc o).drewN n) := fun o n => ((Below.refl _ w).alloc (Nat.le_refl _) o).trans ⟨rfl, rfl, rfl, Nat.le_refl _, fun _ _ => rfl⟩
  have bp := ballot_pos s hk
  replace HB := Lib.hid HB
  clear h hk
  unfold okP at hno
  generalize ballotI s = B at *
  obtain ⟨ok, xv, xm, xb, xval, xch⟩ := x
  simp only [Pr.agg]
  simp only at hno
  have hnz : decide (B = 0) = false := decide_eq_false (by omega)
  have hnz' : (B == 0) = false := by rw [beq_eq_false_iff_ne]; omega
  by_cases g1 : frm < 0
  · have d1 : decide (frm < 0) = true := decide_eq_true g1
    clear hno bp
    go_enter Try.func16, Try.ntmps16
    go_wp2_with fail
    go_quiet ((go_at_call 12; exact Calls.quiet_of (HB.out _ _)))
    go_wp2_with fail
    go_ret
    exact ⟨rfl, bw _ _⟩
  have d1 : decide (frm < 0) = false := decide_eq_false g1
  by_cases g2 : 3 ≤ frm
  · have d2 : decide (3 ≤ frm) = true := decide_eq_true g2
    have d2' : decide (frm ≥ 3) = true := decide_eq_true g2
    clear hno bp g1 g2
    go_enter Try.func16, Try.ntmps16
    go_wp2_with fail
    go_quiet ((go_at_call 12; exact Calls.quiet_of (HB.out _ _)))
    go_wp2_with fail
    go_ret
    exact ⟨rfl, bw _ _⟩
  have d2 : decide (3 ≤ frm) = false := decide_eq_false g2
  have d2' : decide (frm ≥ 3) = false := decide_eq_false g2
  have k1 : decide (0 ≤ frm) = true := decide_eq_true (by omega)
  have k2 : decide (frm < 3) = true := decide_eq_true (by omega)
  rw [k1, k2] at hno
  clear k1 k2
  cases hs : s.sec
  · simp only [hs] at c28 e28 hno
    clear hno bp g1 g2 hs
    go_enter Try.func16, Try.ntmps16
    go_wp2_with fail
    go_quiet ((go_at_call 12; exact Calls.quiet_of (HB.out _ _)))
    go_wp2_with fail
    go_ret
    exact ⟨rfl, bw _ _⟩
  · simp only [hs] at c28 e28 hno
    by_cases g3 : bal = B
    · subst g3
      have d3 : decide (bal = bal) = true := decide_eq_true rfl
      cases ok
      · clear hno bp g1 g2 hs
        go_enter Try.func16, Try.ntmps16
        go_wp2_with fail
        go_quiet ((go_at_call 12; exact Calls.quiet_of (HB.out _ _)))
        go_wp2_with fail
        go_ret
        exact ⟨rfl, bw _ _⟩
      by_cases g4 : xv = s.wa.v
      · subst g4
        have hno' : (frm = 0 ∧ s.t0 = true) ∨ (frm = 1 ∧ s.t1 = true) ∨ (frm = 2 ∧ s.t2 = true) := by simpa using hno
        clear hno
        rcases hno' with ⟨rfl, hy⟩ | ⟨rfl, hy⟩ | ⟨rfl, hy⟩
        all_goals
          simp only [hy] at *
          clear bp g1 g2 hs hy d1 d2 d2'
          go_enter Try.func16, Try.ntmps16
          go_wp2_with fail
          go_quiet ((go_at_call 12; exact Calls.quiet_of (HB.out _ _)))
          go_wp2_with fail
          go_ret
          exact ⟨rfl, bw _ _⟩
      · have d4 : decide (xv = s.wa.v) = false := decide_eq_false g4
        have d4' : (xv == s.wa.v) = false := by simp [g4]
        have d4'' : (xv != s.wa.v) = true := by simp [g4]
        clear hno bp g1 g2 g4 hs
        go_enter Try.func16, Try.ntmps16
        go_wp2_with fail
        go_quiet ((go_at_call 12; exact Calls.quiet_of (HB.out _ _)))
        go_wp2_with fail
        go_ret
        exact ⟨rfl, bw _ _⟩
    · have d3 : decide (bal = B) = false := decide_eq_false g3
      have d3' : (bal == B) = false := by simp [g3]
      have d3'' : (bal != B) = true := by simp [g3]
      clear hno bp g1 g2 g3 hs
      go_enter Try.func16, Try.ntmps16
      go_wp2_with fail
      go_quiet ((go_at_call 12; exact Calls.quiet_of (HB.out _ _)))
      go_wp2_with fail
      go_ret
      exact ⟨rfl, bw _ _⟩

end Go.Proofs.Ytppnjkiegiokeaa.QuoU
