/-
  Layer 6 (ring): few, awake.
-/
import Derived.Test.YtebjbkpgicbgeaaRinN
namespace Go.Proofs.Ytebjbkpgicbgeaa.RinA
set_option linter.unusedVariables false
set_option linter.unusedSimpArgs false
set_option maxRecDepth 100000
open Go.RowKit Go.Proofs.Ytebjbkpgicbgeaa.Mem Go.Proofs.Ytebjbkpgicbgeaa.RinM Go.Proofs.Ytebjbkpgicbgeaa.RinP Go.Proofs.Ytebjbkpgicbgeaa.RinW Go.Proofs.Ytebjbkpgicbgeaa.RinL Go.Proofs.Ytebjbkpgicbgeaa.RinF Go.Proofs.Ytebjbkpgicbgeaa.RinG Go.Proofs.Ytebjbkpgicbgeaa.RinH Go.Proofs.Ytebjbkpgicbgeaa.RinD Go.Proofs.Ytebjbkpgicbgeaa.RinN

/-- A text that is not too long. -/
def fewS (s : ByteArray) : ByteArray := if 80 < s.size then s.extract 0 80 else s
theorem fewS_le (s : ByteArray) : (fewS s).size ≤ 80 := by
  unfold fewS
  split
  · simp; omega
  · omega
def ka : ByteArray := ⟨#[97]⟩
def kb : ByteArray := ⟨#[98]⟩
theorem ka_list : ka.toList = [97] := by decide +kernel
theorem aw1 : frontK 2 3 1 ka (List.replicate 2 []) = ([[], [ka]], true) := by decide +kernel
theorem aw2 : frontK 2 3 1 kb [[], [ka]] = ([[], [kb, ka]], true) := by decide +kernel

end Go.Proofs.Ytebjbkpgicbgeaa.RinA
