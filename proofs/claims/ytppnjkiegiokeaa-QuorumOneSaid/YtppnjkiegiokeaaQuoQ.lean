/-
  Layer 17 (quorum): QuorumOne: the code of one act, cut out of the function; how an act ends.
-/
import Derived.Test.YtppnjkiegiokeaaQuoG
import Derived.Test.YtppnjkiegiokeaaQuoY
import Derived.Deep.DeepCutAuto
namespace Go.Proofs.Ytppnjkiegiokeaa.QuoQ
set_option linter.unusedVariables false
set_option linter.unusedSimpArgs false
set_option maxRecDepth 100000
open Go.RowKit Go.Proofs.Ytppnjkiegiokeaa.Mem Go.Proofs.Ytppnjkiegiokeaa.Mask Go.Proofs.Ytppnjkiegiokeaa.QuoW Go.Proofs.Ytppnjkiegiokeaa.QuoV Go.Proofs.Ytppnjkiegiokeaa.QuoU Go.Proofs.Ytppnjkiegiokeaa.QuoR Go.Proofs.Ytppnjkiegiokeaa.QuoS Go.Proofs.Ytppnjkiegiokeaa.QuoX Go.Proofs.Ytppnjkiegiokeaa.QuoC Go.Proofs.Ytppnjkiegiokeaa.QuoD Go.Proofs.Ytppnjkiegiokeaa.QuoE Go.Proofs.Ytppnjkiegiokeaa.QuoF Go.Proofs.Ytppnjkiegiokeaa.QuoG Go.Proofs.Ytppnjkiegiokeaa.QuoH Go.Proofs.Ytppnjkiegiokeaa.QuoI Go.Proofs.Ytppnjkiegiokeaa.QuoK Go.Proofs.Ytppnjkiegiokeaa.QuoL Go.Proofs.Ytppnjkiegiokeaa.QuoM Go.Proofs.Ytppnjkiegiokeaa.QuoY
def cR : Code → Code | .seq _ b => b | c => c
def cL : Code → Code | .seq a _ => a | c => c
def cB : Code → Code | .block _ b => b | c => c
def cU : Code → Code | .loop b => b | c => c
def cO : Option Code → Code | some c => c | none => .skip
noncomputable def roundC : Code := cU (cB (cR (cL (cR (cR (cR (cR (cR (cR (cO Try.f7.body))))))))))
/-- What stands behind region 23 in a round. -/
noncomputable def actC : Code := cR (cR (cB (cL (cR roundC))))
/-- What stands when an act is over. -/
def ActEnd (w W : World) (XC XA XV : Nat) (cb pb : Nat → Nat) (la lb : Int) (i : Nat) : Prop := ∃ P C T ch V, Rd w W XC XA XV cb pb la lb (i + 1) P C T ch V

end Go.Proofs.Ytppnjkiegiokeaa.QuoQ
