/-
  Layer 17 (quorum): an answer that counts, to the first part.
-/
import Derived.Test.YtppnjkiegiokeaaQuoU
namespace Go.Proofs.Ytppnjkiegiokeaa.QuoR
set_option linter.unusedVariables false
set_option linter.unusedSimpArgs false
open Go.RowKit Go.Proofs.Ytppnjkiegiokeaa.Mem Go.Proofs.Ytppnjkiegiokeaa.QuoW Go.Proofs.Ytppnjkiegiokeaa.QuoV Go.Proofs.Ytppnjkiegiokeaa.QuoU

theorem below_block {W w3 : World} {b : Nat} {ob : Obj} (k : Below W.heap.size W w3) (h : W.heap[b]? = some ob) : w3.heap[b]? = some ob := (k.block b (lt_of_block h)).trans h
theorem Keep.of_bel {S : Nat → Prop} {a W w3 : World} (h : Keep S a W) (k : Below W.heap.size W w3) : Keep S a w3 :=
  ⟨k.os.trans h.os, k.tape.trans h.tape, k.output.trans h.output, Nat.le_trans h.size k.size, fun i hi hs => (k.block i (Nat.lt_of_lt_of_le hi h.size)).trans (h.block i hi hs)⟩

/-- What Took makes of a proposer, and what it tells. -/
def PS.take (s : PS) (k : Nat) : PS :=
  ⟨s.kn, s.wa, s.me, s.life, s.round, s.y0, s.y1, s.y2, s.t0 || k == 0, s.t1 || k == 1, s.t2 || k == 2, s.best, s.val, s.sec⟩
def PS.takes (s : PS) (k : Nat) : Bool := decide (cnt (s.t0 || k == 0) (s.t1 || k == 1) (s.t2 || k == 2) = 2)
/-- What Promised makes of a proposer. -/
def PS.prom (s : PS) (k : Nat) (bal : Int) (val : Vw) : PS :=
  ⟨s.kn, s.wa, s.me, s.life, s.round, s.y0 || k == 0, s.y1 || k == 1, s.y2 || k == 2, s.t0, s.t1, s.t2, if s.best < bal then bal else s.best, if s.best < bal then val else s.val,
    decide (1 < cnt (s.y0 || k == 0) (s.y1 || k == 1) (s.y2 || k == 2))⟩

end Go.Proofs.Ytppnjkiegiokeaa.QuoR
