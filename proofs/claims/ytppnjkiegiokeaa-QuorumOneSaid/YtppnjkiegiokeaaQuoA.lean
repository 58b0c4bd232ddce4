/-
  Layer 17 (quorum): what the laws begin with.
-/
import Derived.Test.YtppnjkiegiokeaaQuoS
namespace Go.Proofs.Ytppnjkiegiokeaa.QuoA
set_option linter.unusedVariables false
set_option linter.unusedSimpArgs false
open Go.RowKit Go.Proofs.Ytppnjkiegiokeaa.Mem Go.Proofs.Ytppnjkiegiokeaa.QuoW Go.Proofs.Ytppnjkiegiokeaa.QuoV Go.Proofs.Ytppnjkiegiokeaa.QuoU Go.Proofs.Ytppnjkiegiokeaa.QuoR Go.Proofs.Ytppnjkiegiokeaa.QuoS Go.Proofs.Ytppnjkiegiokeaa.QuoK0 Go.Proofs.Ytppnjkiegiokeaa.QuoK1 Go.Proofs.Ytppnjkiegiokeaa.QuoK2 Go.Proofs.Ytppnjkiegiokeaa.QuoP0 Go.Proofs.Ytppnjkiegiokeaa.QuoP1 Go.Proofs.Ytppnjkiegiokeaa.QuoP2

/-- A proposer of these laws. -/
def st (me life round : Int) (y0 y1 y2 t0 t1 t2 : Bool) (best : Int) (val : Vw) (sec : Bool) : PS := ⟨firstV, wantV me life, me, life, round, y0, y1, y2, t0, t1, t2, best, val, sec⟩
theorem live (me life round : Int) (y0 y1 y2 t0 t1 t2 : Bool) (best : Int) (val : Vw) (sec : Bool) (r0 : 0 < round) (r1 : round ≤ 1073741824) (l0 : 0 ≤ life) (l1 : life < 16777216) (m0 : 0 ≤ me) (m1 : me ≤ 1) : Live (st me life round y0 y1 y2 t0 t1 t2 best val sec) := ⟨r0, r1, l0, l1, m0, m1⟩

theorem hold {u v : World} {b X i : Nat} {x : Value} (k : Keep (· = b) u v) (h : u.cell? ⟨X, i, none⟩ = some x) (hne : ¬ X = b) : v.cell? ⟨X, i, none⟩ = some x :=
  (k.cell (World.block_lt_of_cell? _ _ h) hne).trans h

def yC : List Value := [.bool true, .int .u64 2, .int .u64 0, .int .u64 0, .int .u64 0, .int .i64 0, .int .u64 0, .int .i64 0, .int .u64 0, .int .u64 0, .int .u64 0, .int .i64 0, .int .u64 0, .int .i64 0, .int .u64 0, .int .u64 0]
theorem infoPr : (Try.prog.info? 37).map (·.size) = some 16 := by kernel_rfl
theorem holdR {u v : World} {b X : Nat} {cs : List Value} (k : Keep (· = b) u v) (h : u.rangeAt X 0 cs) (hne : ¬ X = b) : v.rangeAt X 0 cs := fun j x hx => hold k (h j x hx) hne

theorem cB0 : ∀ b w, PAt w b (fresh firstV (wantV 1 1) 1 1) → Calls Try.prog 13 #[.pointer (some ⟨b, 0, none⟩), .int .u64 0] w fun e w' => e = .returned (.bool true) ∧ PAt w' b (st 1 1 1 false false false false false false 0 (wantV 1 1) false) ∧ Keep (· = b) w w' :=
    fun b w h => begin_any _ b 0 w h (by decide) (by omega) (by omega) (by decide)
theorem cBB : ∀ b w, PAt w b (st 1 1 1 false false false false false false 0 (wantV 1 1) false) → Calls Try.prog 12 #[.pointer (some ⟨b, 0, none⟩)] w fun e w' => e = .returned (.int .u64 4294967299) ∧ ∃ m, w' = w.drewN m :=
    fun b w h => ballot_any _ b w h (by decide) (by decide) (by decide) (by decide) (by decide) (by decide)
theorem cC0 : ∀ b w, PAt w b (st 1 1 1 false false false false false false 0 (wantV 1 1) false) → Calls Try.prog 15 #[.pointer (some ⟨b, 0, none⟩), .int .i64 0, .int .u64 4294967299, .agg #[.bool true, .int .u64 2, .int .u64 0, .int .u64 0, .int .u64 0, .int .i64 0, .int .u64 0, .int .i64 0, .int .u64 0, .int .u64 0, .int .u64 0, .int .i64 0, .int .u64 0, .int .i64 0, .int .u64 0, .int .u64 0]] w fun e w' => e = .returned (.bool false) ∧ PAt w' b (st 1 1 1 true false false false false false 0 (wantV 1 1) false) ∧ Keep (· = b) w w' :=
    fun b w h => promised0 _ b 0 0 zeroV zeroV w h (live _ _ _ _ _ _ _ _ _ _ _ _ (by omega) (by omega) (by omega) (by omega) (by omega) (by omega)) rfl rfl
theorem cC1 : ∀ b w, PAt w b (st 1 1 1 true false false false false false 0 (wantV 1 1) false) → Calls Try.prog 15 #[.pointer (some ⟨b, 0, none⟩), .int .i64 2, .int .u64 4294967299, .agg #[.bool true, .int .u64 2, .int .u64 0, .int .u64 0, .int .u64 0, .int .i64 0, .int .u64 0, .int .i64 0, .int .u64 0, .int .u64 0, .int .u64 0, .int .i64 0, .int .u64 0, .int .i64 0, .int .u64 0, .int .u64 0]] w fun e w' => e = .returned (.bool true) ∧ PAt w' b (st 1 1 1 true false true false false false 0 (wantV 1 1) true) ∧ Keep (· = b) w w' :=
    fun b w h => promised2 _ b 0 0 zeroV zeroV w h (live _ _ _ _ _ _ _ _ _ _ _ _ (by omega) (by omega) (by omega) (by omega) (by omega) (by omega)) rfl rfl
theorem cC2 : ∀ b w, PAt w b (st 1 1 1 true false true false false false 0 (wantV 1 1) true) → Calls Try.prog 16 #[.pointer (some ⟨b, 0, none⟩), .int .i64 1, .int .u64 4294967299, .agg #[.bool true, .int .u64 2, .int .u64 0, .int .u64 0, .int .u64 0, .int .i64 0, .int .u64 0, .int .i64 0, .int .u64 0, .int .u64 0, .int .u64 0, .int .i64 0, .int .u64 0, .int .i64 0, .int .u64 0, .int .u64 0]] w fun e w' => e = .returned (.bool false) ∧ PAt w' b (st 1 1 1 true false true false true false 0 (wantV 1 1) true) ∧ Keep (· = b) w w' :=
    fun b w h => took1 _ b 0 0 zeroV zeroV w h (live _ _ _ _ _ _ _ _ _ _ _ _ (by omega) (by omega) (by omega) (by omega) (by omega) (by omega)) rfl rfl
theorem cC3 : ∀ b w, PAt w b (st 1 1 1 true false true false true false 0 (wantV 1 1) true) → Calls Try.prog 16 #[.pointer (some ⟨b, 0, none⟩), .int .i64 2, .int .u64 4294967299, .agg #[.bool true, .int .u64 2, .int .u64 0, .int .u64 0, .int .u64 0, .int .i64 0, .int .u64 0, .int .i64 0, .int .u64 0, .int .u64 0, .int .u64 0, .int .i64 0, .int .u64 0, .int .i64 0, .int .u64 0, .int .u64 0]] w fun e w' => e = .returned (.bool true) ∧ PAt w' b (st 1 1 1 true false true false true true 0 (wantV 1 1) true) ∧ Keep (· = b) w w' :=
    fun b w h => took2 _ b 0 0 zeroV zeroV w h (live _ _ _ _ _ _ _ _ _ _ _ _ (by omega) (by omega) (by omega) (by omega) (by omega) (by omega)) rfl rfl
theorem cV4 : ∀ b w, PAt w b (st 1 1 1 true false true false true true 0 (wantV 1 1) true) → Calls Try.prog 17 #[.pointer (some ⟨b, 0, none⟩)] w fun e w' => e = .returned (wantV 1 1).agg ∧ Below w.heap.size w w' := fun b w h => value_any _ b w h
theorem cX4 : ∀ b w, PAt w b (st 1 1 1 true false true false true true 0 (wantV 1 1) true) → Calls Try.prog 14 #[.pointer (some ⟨b, 0, none⟩)] w fun e w' => e = .returned (.bool true) ∧ w = w' := fun b w h => second_any _ b w h

theorem load_pr (w : World) (X : Nat) (h : w.rangeAt X 0 yC) : (Instr.loadAt 37 (.pointer (some ⟨X, 0, none⟩))).run Try.prog w = .ok (.agg #[.bool true, .int .u64 2, .int .u64 0, .int .u64 0, .int .u64 0, .int .i64 0, .int .u64 0, .int .i64 0, .int .u64 0, .int .u64 0, .int .u64 0, .int .i64 0, .int .u64 0, .int .i64 0, .int .u64 0, .int .u64 0]) w :=
  run_loadAt_mid w X 0 37 yC _ h Try.underlying37 rfl infoPr
theorem load_pr2 (w : World) (X : Nat) (h : w.rangeAt X 0 yC) : (loadVar 37 ⟨X, 0, none⟩).run Try.prog w = .ok (.agg #[.bool true, .int .u64 2, .int .u64 0, .int .u64 0, .int .u64 0, .int .i64 0, .int .u64 0, .int .i64 0, .int .u64 0, .int .u64 0, .int .u64 0, .int .i64 0, .int .u64 0, .int .i64 0, .int .u64 0, .int .u64 0]) w :=
  run_loadVar_mid w X 0 37 yC _ h Try.underlying37 rfl infoPr
theorem loadAt_ptr (ty : TypeId) (p : Addr) (w : World) : (Instr.loadAt ty (.pointer (some p))).run Try.prog w = (loadVar ty p).run Try.prog w := by
  simp only [Instr.loadAt, Instr.sureAddr, Sem.run_bind, Sem.run_pure, Result.andThen_ok]
attribute [-go_sem] Instr.loadAt
attribute [local go_sem] loadAt_ptr
attribute [local go_sem ↓ high] load_pr2

set_option maxHeartbeats 4000000 in
theorem awake_any (w : World) :
    Calls Try.prog 11 #[] w fun e w' => e = .returned (.bool true) ∧ Below w.heap.size w w' := by
  have N := Lib.hid (new_ok 1 0 1 1 1 1 1 1 1 (by omega) (by omega) (by omega) (by omega) (by omega) (by omega) (by omega) (by omega) (by omega) (by omega) (by omega) (by omega) (by omega) (by omega))
  have W1 := Lib.hid (fun w => want_any 1 1 w)
  have F1 := Lib.hid first_any

  have B0 := Lib.hid cB0
  have BB := Lib.hid cBB
  have C0 := Lib.hid cC0
  have C1 := Lib.hid cC1
  have C2 := Lib.hid cC2
  have C3 := Lib.hid cC3
  have V4 := Lib.hid cV4
  have X4 := Lib.hid cX4
  go_enter Try.func11, Try.ntmps11
  go_wp2_with fail
  refine (F1.out _).mono ?_
  rintro e w1 ⟨rfl, q1⟩
  go_wp2_with fail
  refine (W1.out _).mono ?_
  rintro e w2 ⟨rfl, q2⟩
  replace q2 := q1.trans (q2.mono q1.size)
  clear q1
  go_wp2_with fail
  refine (N.out _).mono ?_
  rintro e w3 ⟨b, rfl, hb, hp, q3⟩
  have hbw := Nat.le_trans q2.size hb
  replace q3 := q2.trans (q3.mono q2.size)
  clear q2 N hb
  go_wp2_with fail
  refine (B0.out b _ hp).mono ?_
  rintro e w4 ⟨rfl, hp4, k4⟩
  have q4 : Below w.heap.size w w4 := q3.trans (k4.below q3.size (fun k e => by subst e; exact hbw))
  clear k4 hp q3
  go_wp2_with fail
  refine (BB.out b _ (block_alloc hp4 _)).mono ?_
  rintro e w5 ⟨rfl, m, rfl⟩
  have hX := block_drewN (block_new w4 (.cells #[.bool true, .int .u64 2, .int .u64 0, .int .u64 0, .int .u64 0, .int .i64 0, .int .u64 0, .int .i64 0, .int .u64 0, .int .u64 0, .int .u64 0, .int .i64 0, .int .u64 0, .int .i64 0, .int .u64 0, .int .u64 0] 37)) m
  have hp5 := block_drewN (block_alloc hp4 (.cells #[.bool true, .int .u64 2, .int .u64 0, .int .u64 0, .int .u64 0, .int .i64 0, .int .u64 0, .int .i64 0, .int .u64 0, .int .u64 0, .int .u64 0, .int .i64 0, .int .u64 0, .int .i64 0, .int .u64 0, .int .u64 0] 37)) m
  have q5 : Below w.heap.size w ((w4.alloc (.cells #[.bool true, .int .u64 2, .int .u64 0, .int .u64 0, .int .u64 0, .int .i64 0, .int .u64 0, .int .i64 0, .int .u64 0, .int .u64 0, .int .u64 0, .int .i64 0, .int .u64 0, .int .i64 0, .int .u64 0, .int .u64 0] 37)).drewN m) := (q4.alloc q4.size _).trans ⟨rfl, rfl, rfl, Nat.le_refl _, fun _ _ => rfl⟩
  have hne : ¬ w4.heap.size = b := by have := lt_of_block hp4; omega
  generalize (w4.alloc (.cells #[.bool true, .int .u64 2, .int .u64 0, .int .u64 0, .int .u64 0, .int .i64 0, .int .u64 0, .int .i64 0, .int .u64 0, .int .u64 0, .int .u64 0, .int .i64 0, .int .u64 0, .int .i64 0, .int .u64 0, .int .u64 0] 37)).drewN m = w6 at *
  have hXl := lt_of_block hX
  have zq := Nat.le_refl w4.heap.size
  generalize w4.heap.size = X at *
  clear q4 hp4 zq
  have hR : w6.drew.rangeAt X 0 yC := World.rangeAt_of_block (block_drew hX) 0 16
  have p6 : PAt w6.drew b (st 1 1 1 false false false false false false 0 (wantV 1 1) false) := block_drew hp5
  have q6 : Below w.heap.size w w6.drew := q5.drew
  clear hX hp5 q5
  replace p6 := Lib.hid p6
  replace q6 := Lib.hid q6
  go_wp2_with fail
  go_region_held3 (fun w' => w'.rangeAt X 0 yC)
    (first
      | exact hR
      | assumption
      | exact World.rangeAt_alloc (by assumption) _
      | exact holdR (by assumption) (by assumption) hne)
    (first
      | (go_at_call 16; refine (C3.out b _ p9).mono ?_; rintro e w10 ⟨rfl, p10, kk10⟩)
      | (go_at_call 16; refine (C2.out b _ p8).mono ?_; rintro e w9 ⟨rfl, p9, kk9⟩)
      | (go_at_call 15; refine (C1.out b _ p7).mono ?_; rintro e w8 ⟨rfl, p8, kk8⟩)
      | (go_at_call 15; refine (C0.out b _ p6.out).mono ?_; rintro e w7 ⟨rfl, p7, kk⟩))
  have hs : ∀ k, k = b → w.heap.size ≤ k := fun k e => by subst e; exact hbw
  have g7 := q6.out.trans (kk.below q6.out.size hs)
  have g8 := g7.trans (kk8.below g7.size hs)
  have g9 := g8.trans (kk9.below g8.size hs)
  have g10 := g9.trans (kk10.below g9.size hs)
  clear hs g7 g8 g9 kk kk8 kk9 kk10 p7 p8 p9 q6 p6 hR hbw hXl hne C0 C1 C2 C3 B0 BB F1
  have p11 := Lib.hid (block_alloc p10 (.cells #[.bool false, .bool true, .bool false, .bool true] 4))
  have g11 := Lib.hid (g10.alloc g10.size (.cells #[.bool false, .bool true, .bool false, .bool true] 4))
  clear p10 g10
  have V5 := V4.out
  have W5 := W1.out
  simp only [Vw.agg, wantV] at V5 W5
  replace V5 := Lib.hid V5
  replace W5 := Lib.hid W5
  clear V4 W1
  go_wp2_with fail
  refine (V5.out b _ p11.out).mono ?_
  rintro e w11 ⟨rfl, k11⟩
  have p12 := Lib.hid (below_block k11 p11.out)
  have g12 := Lib.hid (g11.out.trans (k11.mono g11.out.size))
  clear k11 p11 g11
  go_wp2_with fail
  refine (W5.out _).mono ?_
  rintro e w12 ⟨rfl, k12⟩
  have p13 := Lib.hid (below_block k12 p12.out)
  have g13 := Lib.hid (g12.out.trans (k12.mono g12.out.size))
  clear k12 p12 g12
  go_wp2_with fail
  refine (X4.out b _ p13.out).mono ?_
  rintro e w13 ⟨rfl, rfl⟩
  go_wp2_with fail
  go_ret
  exact ⟨rfl, g13.out⟩

end Go.Proofs.Ytppnjkiegiokeaa.QuoA
