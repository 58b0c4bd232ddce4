/-
  Layer 17 (quorum): New; the law's own small functions.
-/
import Derived.Test.YtppnjkiegiokeaaQuoK0
import Derived.Test.YtppnjkiegiokeaaQuoK1
import Derived.Test.YtppnjkiegiokeaaQuoK2
import Derived.Test.YtppnjkiegiokeaaQuoP0
import Derived.Test.YtppnjkiegiokeaaQuoP1
import Derived.Test.YtppnjkiegiokeaaQuoP2
namespace Go.Proofs.Ytppnjkiegiokeaa.QuoS
set_option linter.unusedVariables false
set_option linter.unusedSimpArgs false
open Go.RowKit Go.Proofs.Ytppnjkiegiokeaa.Mem Go.Proofs.Ytppnjkiegiokeaa.QuoW Go.Proofs.Ytppnjkiegiokeaa.QuoV Go.Proofs.Ytppnjkiegiokeaa.QuoU Go.Proofs.Ytppnjkiegiokeaa.QuoR

def firstV : Vw := ⟨1, 0, 1, -1, 0, 1⟩
def wantV (me life : Int) : Vw := ⟨2, me, life, -1, 0, 1⟩
def zeroV : Vw := ⟨0, 0, 0, 0, 0, 0⟩
def fresh (kn wa : Vw) (me life : Int) : PS := ⟨kn, wa, me, life, 0, false, false, false, false, false, false, 0, zeroV, false⟩

theorem first_any (w : World) :
    Calls Try.prog 9 #[] w fun e w' => e = .returned firstV.agg ∧ Below w.heap.size w w' := by
  have bw : ∀ o, Below w.heap.size w (w.alloc o) := fun o => (Below.refl _ w).alloc (Nat.le_refl _) o
  go_enter Try.func9, Try.ntmps9
  go_wp2_with fail
  exact bodyPost_ret (v := firstV.agg) (by simp [results, Try.results9, go_sem, Vw.agg, firstV]) rfl ⟨rfl, bw _⟩
theorem want_any (me life : Int) (w : World) :
    Calls Try.prog 10 #[.int .i64 me, .int .u64 life] w fun e w' => e = .returned (wantV me life).agg ∧ Below w.heap.size w w' := by
  have bw : ∀ o, Below w.heap.size w (w.alloc o) := fun o => (Below.refl _ w).alloc (Nat.le_refl _) o
  go_enter Try.func10, Try.ntmps10
  go_wp2_with fail
  exact bodyPost_ret (v := (wantV me life).agg) (by simp [results, Try.results10, go_sem, Vw.agg, wantV]) rfl ⟨rfl, bw _⟩

/-- A view of one primary, without a backup, may be. -/
theorem check_one (v p pl e : Int) (hv : 1 ≤ v) (hp : 0 ≤ p) (hp1 : p < 1048576) (hpl : 1 ≤ pl) (he : 1 ≤ e) (w : World) :
    Calls Try.prog 18 #[(Vw.mk v p pl (-1) 0 e).agg] w fun e w' => e = .returned (.bool true) ∧ Below w.heap.size w w' := by
  have bw : ∀ o, Below w.heap.size w (w.alloc o) := fun o => (Below.refl _ w).alloc (Nat.le_refl _) o
  have d1 : decide (1 ≤ v) = true := decide_eq_true hv
  have d2 : decide (0 ≤ p) = true := decide_eq_true hp
  have d3 : decide (p < 1048576) = true := decide_eq_true hp1
  have d4 : decide (1 ≤ pl) = true := decide_eq_true hpl
  have d5 : decide (1 ≤ e) = true := decide_eq_true he
  clear hv hp hp1 hpl he
  simp only [Vw.agg]
  go_enter Try.func18, Try.ntmps18
  go_wp2_with fail
  go_ret
  exact ⟨rfl, bw _⟩

theorem new_ok (v p pl e p' pl' e' me life : Int) (hv : 1 ≤ v) (hv9 : v < 1000000) (hp : 0 ≤ p) (hp1 : p < 1048576) (hpl : 1 ≤ pl) (he : 1 ≤ e) (hp' : 0 ≤ p') (hp1' : p' < 1048576) (hpl' : 1 ≤ pl') (he' : 1 ≤ e')
    (m0 : 0 ≤ me) (m1 : me ≤ 1) (l0 : 1 ≤ life) (l1 : life < 16777216) (w : World) :
    Calls Try.prog 8 #[(Vw.mk v p pl (-1) 0 e).agg, (Vw.mk (v + 1) p' pl' (-1) 0 e').agg, .int .i64 me, .int .u64 life] w fun x w' =>
      ∃ b, x = .returned (.tuple #[.pointer (some ⟨b, 0, none⟩), .int .i64 0]) ∧ w.heap.size ≤ b ∧ PAt w' b (fresh ⟨v, p, pl, -1, 0, e⟩ ⟨v + 1, p', pl', -1, 0, e'⟩ me life) ∧ Below w.heap.size w w' := by
  have C1 := Lib.hid (check_one v p pl e hv hp hp1 hpl he)
  have C2 := Lib.hid (check_one (v + 1) p' pl' e' (by omega) hp' hp1' hpl' he')
  have d1 : decide (me < 0) = false := decide_eq_false (by omega)
  have d2 : decide (1 < me) = false := decide_eq_false (by omega)
  have d2' : decide (me > 1) = false := d2
  have d3 : decide (life < 1) = false := decide_eq_false (by omega)
  have d4 : decide (16777216 ≤ life) = false := decide_eq_false (by omega)
  have d4' : decide (life ≥ 16777216) = false := d4
  have wv : IntKind.u64.wrap (v + 1) = v + 1 := by rw [IntKind.wrap_u64]; omega
  clear hv hv9 hp hp1 hpl he hp' hp1' hpl' he' m0 m1 l0 l1
  have D := (Below.refl w.heap.size w)
  simp only [Vw.agg] at C1 C2 ⊢
  have G0 : ((w.alloc (.cells #[.int .u64 v, .int .i64 p, .int .u64 pl, .int .i64 (-1), .int .u64 0, .int .u64 e] 29)).alloc (.cells #[.int .u64 (v + 1), .int .i64 p', .int .u64 pl', .int .i64 (-1), .int .u64 0, .int .u64 e'] 29)).heap[w.heap.size]? = some (.cells #[.int .u64 v, .int .i64 p, .int .u64 pl, .int .i64 (-1), .int .u64 0, .int .u64 e] 29) := block_alloc (block_new w _) _
  have G1 : ((w.alloc (.cells #[.int .u64 v, .int .i64 p, .int .u64 pl, .int .i64 (-1), .int .u64 0, .int .u64 e] 29)).alloc (.cells #[.int .u64 (v + 1), .int .i64 p', .int .u64 pl', .int .i64 (-1), .int .u64 0, .int .u64 e'] 29)).heap[w.heap.size + 1]? = some (.cells #[.int .u64 (v + 1), .int .i64 p', .int .u64 pl', .int .i64 (-1), .int .u64 0, .int .u64 e'] 29) := block_new_at (by simp)
  have GB : Below w.heap.size w ((w.alloc (.cells #[.int .u64 v, .int .i64 p, .int .u64 pl, .int .i64 (-1), .int .u64 0, .int .u64 e] 29)).alloc (.cells #[.int .u64 (v + 1), .int .i64 p', .int .u64 pl', .int .i64 (-1), .int .u64 0, .int .u64 e'] 29)) := ((Below.refl _ w).alloc (Nat.le_refl _) _).alloc (by simp) _
  replace G0 := Lib.hid G0
  replace G1 := Lib.hid G1
  replace GB := Lib.hid GB
  go_enter Try.func8, Try.ntmps8
  go_wp2_with fail
  refine (C1.out _).mono ?_
  rintro e1 w1 ⟨rfl, q1⟩
  have k0 := below_block q1 G0.out
  have k1 := below_block q1 G1.out
  have kb := GB.out.trans (q1.mono GB.out.size)
  clear G0 G1 GB q1
  have a0 : w1.cell? ⟨w.heap.size, 0, none⟩ = some (.int .u64 v) := cell_at k0 0
  have a1 : w1.cell? ⟨w.heap.size, 1, none⟩ = some (.int .i64 p) := cell_at k0 1
  have a2 : w1.cell? ⟨w.heap.size, 2, none⟩ = some (.int .u64 pl) := cell_at k0 2
  have a3 : w1.cell? ⟨w.heap.size, 3, none⟩ = some (.int .i64 (-1)) := cell_at k0 3
  have a4 : w1.cell? ⟨w.heap.size, 4, none⟩ = some (.int .u64 0) := cell_at k0 4
  have a5 : w1.cell? ⟨w.heap.size, 5, none⟩ = some (.int .u64 e) := cell_at k0 5
  have b5 : w1.cell? ⟨w.heap.size + 1, 0, none⟩ = some (.int .u64 (v + 1)) := cell_at k1 0
  have b6 : w1.cell? ⟨w.heap.size + 1, 1, none⟩ = some (.int .i64 p') := cell_at k1 1
  have b7 : w1.cell? ⟨w.heap.size + 1, 2, none⟩ = some (.int .u64 pl') := cell_at k1 2
  have b8 : w1.cell? ⟨w.heap.size + 1, 3, none⟩ = some (.int .i64 (-1)) := cell_at k1 3
  have b9 : w1.cell? ⟨w.heap.size + 1, 4, none⟩ = some (.int .u64 0) := cell_at k1 4
  have b10 : w1.cell? ⟨w.heap.size + 1, 5, none⟩ = some (.int .u64 e') := cell_at k1 5
  replace k0 := Lib.hid k0
  replace k1 := Lib.hid k1
  replace kb := Lib.hid kb
  go_wp2_with fail
  refine (C2.out _).mono ?_
  rintro e1 w2 ⟨rfl, q2⟩
  replace k0 := below_block q2 k0.out
  replace k1 := below_block q2 k1.out
  replace kb := kb.out.trans (q2.mono kb.out.size)
  clear a0 a1 a2 a3 a4 a5 b5 b6 b7 b8 b9 b10 q2
  have a0 : w2.cell? ⟨w.heap.size, 0, none⟩ = some (.int .u64 v) := cell_at k0 0
  have a1 : w2.cell? ⟨w.heap.size, 1, none⟩ = some (.int .i64 p) := cell_at k0 1
  have a2 : w2.cell? ⟨w.heap.size, 2, none⟩ = some (.int .u64 pl) := cell_at k0 2
  have a3 : w2.cell? ⟨w.heap.size, 3, none⟩ = some (.int .i64 (-1)) := cell_at k0 3
  have a4 : w2.cell? ⟨w.heap.size, 4, none⟩ = some (.int .u64 0) := cell_at k0 4
  have a5 : w2.cell? ⟨w.heap.size, 5, none⟩ = some (.int .u64 e) := cell_at k0 5
  have b5 : w2.cell? ⟨w.heap.size + 1, 0, none⟩ = some (.int .u64 (v + 1)) := cell_at k1 0
  have b6 : w2.cell? ⟨w.heap.size + 1, 1, none⟩ = some (.int .i64 p') := cell_at k1 1
  have b7 : w2.cell? ⟨w.heap.size + 1, 2, none⟩ = some (.int .u64 pl') := cell_at k1 2
  have b8 : w2.cell? ⟨w.heap.size + 1, 3, none⟩ = some (.int .i64 (-1)) := cell_at k1 3
  have b9 : w2.cell? ⟨w.heap.size + 1, 4, none⟩ = some (.int .u64 0) := cell_at k1 4
  have b10 : w2.cell? ⟨w.heap.size + 1, 5, none⟩ = some (.int .u64 e') := cell_at k1 5
  replace k0 := Lib.hid k0
  replace k1 := Lib.hid k1
  replace kb := Lib.hid kb
  go_wp2_with fail
  go_ret2
  exact ⟨_, rfl, kb.out.size, block_new _ _, kb.out.alloc kb.out.size _⟩

end Go.Proofs.Ytppnjkiegiokeaa.QuoS
