/-
  No cell of these rows narrows 'for every input' (looked for: loops, veiled, ifaces, maps, wideKeys, modest, calm, conditions, laid).
  DERIVED. THE GIVEN ROWS OF THIS SEAT. 6 by the template 'for every input the law returns true; each argument reads behind the call as it read before'; 0 by the template 'total and deterministic' (their statements: YtbhmgbcfkhmbpaaTotals.lean).
  GIVEN WITH THE SEED: the statements are not yours to turn. If you find one false, say at which input.
  Laid BY PROGRAM, IN A SANDBOX (cutbox-rows.mjs): the forced cells as the released guide's own fill.sh prints them over the translation b66a6169c2aa1587… (all of the seat's roots in one cut). By AI agents, Wed Nov 11 2026. No macro, syntax, notation, axiom, sorry.
-/
import Derived.Test.YtbhmgbcfkhmbpaaChecked
import GoSem.Claim
import GoSem.ClaimJoined
import GoSem.ClaimMapViews
import Derived.JoinedTies
import Derived.KernelRfl
namespace Go.Proofs.Ytbhmgbcfkhmbpaa
/- THE CELL 'sum', in the pinned program and in every row, IS THE sha256 OF THE DUMP (.gsa) THAT YtbhmgbcfkhmbpaaProg.lean LOADS. Nothing in Lean hashes anything: it is a label: what it is worth is what the hold of that sum in a sandbox is worth. -/
noncomputable def Try.pinned : Pinned := { name := "ytbhmgbcfkhmbpaa", sum := "b66a6169c2aa1587beb23cfaaee97f9398da80acb2ee66e693431e132ccc3790", checked := Try.checked }
namespace Rows
def none {H : Type} : Left H := { results := [], args := [] }

/-- 'hawthornlaw02.StatPerMille': WHATEVER THE INPUT: true; the input reads as it did. -/
def statPerMilleSpec : ChangeSpec := { name := "statPerMille", fn := fun _ => fun
  | [d] => { results := [.lit (.bool true)], args := [d] }
  | _ => none }
def statPerMilleRow : OpenClaim := { program := "ytbhmgbcfkhmbpaa", sum := "b66a6169c2aa1587beb23cfaaee97f9398da80acb2ee66e693431e132ccc3790", func := "hawthorn/hawthornlaw02.StatPerMille", spec := "statPerMille", inPlace := ["math.archFloor", "math.Float64bits", "math.Float64frombits", "math.archTrunc"], apart := false }
def StatPerMilleSaid : Prop := statPerMilleRow.holds Try.pinned (OpenSpec.ofChange statPerMilleSpec)

/-- ITS FALSE NEIGHBOUR: 'it returns false'. Refute it at one input. -/
def statPerMilleWrong : ChangeSpec := { name := "statPerMille", fn := fun _ => fun
  | [d] => { results := [.lit (.bool false)], args := [d] }
  | _ => none }
def StatPerMilleWrongFalsely : Prop := statPerMilleRow.holds Try.pinned (OpenSpec.ofChange statPerMilleWrong)

/-- 'hawthornlaw02.StatAdds': WHATEVER THE INPUT: true; the input reads as it did. -/
def statAddsSpec : ChangeSpec := { name := "statAdds", fn := fun _ => fun
  | [d1, d2] => { results := [.lit (.bool true)], args := [d1, d2] }
  | _ => none }
def statAddsRow : OpenClaim := { program := "ytbhmgbcfkhmbpaa", sum := "b66a6169c2aa1587beb23cfaaee97f9398da80acb2ee66e693431e132ccc3790", func := "hawthorn/hawthornlaw02.StatAdds", spec := "statAdds", inPlace := ["math.archFloor", "math.Float64bits", "math.Float64frombits", "math.archTrunc"], apart := false }
def StatAddsSaid : Prop := statAddsRow.holds Try.pinned (OpenSpec.ofChange statAddsSpec)

/-- ITS FALSE NEIGHBOUR: 'it returns false'. Refute it at one input. -/
def statAddsWrong : ChangeSpec := { name := "statAdds", fn := fun _ => fun
  | [d1, d2] => { results := [.lit (.bool false)], args := [d1, d2] }
  | _ => none }
def StatAddsWrongFalsely : Prop := statAddsRow.holds Try.pinned (OpenSpec.ofChange statAddsWrong)

/-- 'hawthornlaw02.StatRates': WHATEVER THE INPUT: true; the input reads as it did. -/
def statRatesSpec : ChangeSpec := { name := "statRates", fn := fun _ => fun
  | [d1, d2] => { results := [.lit (.bool true)], args := [d1, d2] }
  | _ => none }
def statRatesRow : OpenClaim := { program := "ytbhmgbcfkhmbpaa", sum := "b66a6169c2aa1587beb23cfaaee97f9398da80acb2ee66e693431e132ccc3790", func := "hawthorn/hawthornlaw02.StatRates", spec := "statRates", inPlace := ["math.archFloor", "math.Float64bits", "math.Float64frombits", "math.archTrunc"], apart := false }
def StatRatesSaid : Prop := statRatesRow.holds Try.pinned (OpenSpec.ofChange statRatesSpec)

/-- ITS FALSE NEIGHBOUR: 'it returns false'. Refute it at one input. -/
def statRatesWrong : ChangeSpec := { name := "statRates", fn := fun _ => fun
  | [d1, d2] => { results := [.lit (.bool false)], args := [d1, d2] }
  | _ => none }
def StatRatesWrongFalsely : Prop := statRatesRow.holds Try.pinned (OpenSpec.ofChange statRatesWrong)

/-- 'hawthornlaw02.StatOrder': WHATEVER THE INPUT: true; the input reads as it did. -/
def statOrderSpec : ChangeSpec := { name := "statOrder", fn := fun _ => fun
  | [d1, d2, d3] => { results := [.lit (.bool true)], args := [d1, d2, d3] }
  | _ => none }
def statOrderRow : OpenClaim := { program := "ytbhmgbcfkhmbpaa", sum := "b66a6169c2aa1587beb23cfaaee97f9398da80acb2ee66e693431e132ccc3790", func := "hawthorn/hawthornlaw02.StatOrder", spec := "statOrder", inPlace := ["math.Float64bits", "math.archFloor", "math.Float64frombits", "math.archTrunc"], apart := false }
def StatOrderSaid : Prop := statOrderRow.holds Try.pinned (OpenSpec.ofChange statOrderSpec)

/-- ITS FALSE NEIGHBOUR: 'it returns false'. Refute it at one input. -/
def statOrderWrong : ChangeSpec := { name := "statOrder", fn := fun _ => fun
  | [d1, d2, d3] => { results := [.lit (.bool false)], args := [d1, d2, d3] }
  | _ => none }
def StatOrderWrongFalsely : Prop := statOrderRow.holds Try.pinned (OpenSpec.ofChange statOrderWrong)

/-- 'hawthornlaw02.StatBlends': WHATEVER THE INPUT: true; the input reads as it did. -/
def statBlendsSpec : ChangeSpec := { name := "statBlends", fn := fun _ => fun
  | [d1, d2, d3] => { results := [.lit (.bool true)], args := [d1, d2, d3] }
  | _ => none }
def statBlendsRow : OpenClaim := { program := "ytbhmgbcfkhmbpaa", sum := "b66a6169c2aa1587beb23cfaaee97f9398da80acb2ee66e693431e132ccc3790", func := "hawthorn/hawthornlaw02.StatBlends", spec := "statBlends", inPlace := ["math.archFloor", "math.Float64bits", "math.Float64frombits", "math.archTrunc"], apart := false }
def StatBlendsSaid : Prop := statBlendsRow.holds Try.pinned (OpenSpec.ofChange statBlendsSpec)

/-- ITS FALSE NEIGHBOUR: 'it returns false'. Refute it at one input. -/
def statBlendsWrong : ChangeSpec := { name := "statBlends", fn := fun _ => fun
  | [d1, d2, d3] => { results := [.lit (.bool false)], args := [d1, d2, d3] }
  | _ => none }
def StatBlendsWrongFalsely : Prop := statBlendsRow.holds Try.pinned (OpenSpec.ofChange statBlendsWrong)

/-- 'hawthornlaw02.StatClamps': WHATEVER THE INPUT: true; the input reads as it did. -/
def statClampsSpec : ChangeSpec := { name := "statClamps", fn := fun _ => fun
  | [d1, d2, d3] => { results := [.lit (.bool true)], args := [d1, d2, d3] }
  | _ => none }
def statClampsRow : OpenClaim := { program := "ytbhmgbcfkhmbpaa", sum := "b66a6169c2aa1587beb23cfaaee97f9398da80acb2ee66e693431e132ccc3790", func := "hawthorn/hawthornlaw02.StatClamps", spec := "statClamps", inPlace := ["math.archFloor", "math.Float64bits", "math.Float64frombits", "math.archTrunc"], apart := false }
def StatClampsSaid : Prop := statClampsRow.holds Try.pinned (OpenSpec.ofChange statClampsSpec)

/-- ITS FALSE NEIGHBOUR: 'it returns false'. Refute it at one input. -/
def statClampsWrong : ChangeSpec := { name := "statClamps", fn := fun _ => fun
  | [d1, d2, d3] => { results := [.lit (.bool false)], args := [d1, d2, d3] }
  | _ => none }
def StatClampsWrongFalsely : Prop := statClampsRow.holds Try.pinned (OpenSpec.ofChange statClampsWrong)

/- THE SECOND FORM. 'bulk': how many values and letters a reading holds, each counted each time it is reached (what is shared counts as often as it is met; a slice's spare places count too). A statement '..UptoSaid' is the law's where the arguments, and the package variables that the reading takes, are together of bulk at most 1048576: NARROWER than '..Said'. Prove '..Said' where nothing that the law and all that it calls make is longer than what came in: it says more and counts as full. Else prove '..UptoSaid'. A law counts once. -/
mutual
def uptoBulk {H : Type} : DataW H → Nat
  | .lit (.string bytes) => bytes.length + 1
  | .lit _ => 1
  | .nil => 1
  | .ptr d => uptoBulk d + 1
  | .slice elems spare => uptoBulkAll elems + uptoBulkAll spare + 1
  | .agg parts => uptoBulkAll parts + 1
  | .iface _ d => uptoBulk d + 1
  | .map entries => uptoBulkEntries entries + 1
  | .held _ => 1
def uptoBulkAll {H : Type} : List (DataW H) → Nat
  | [] => 0
  | d :: r => uptoBulk d + uptoBulkAll r
def uptoBulkEntries {H : Type} : List (Lit × DataW H) → Nat
  | [] => 0
  | x :: r => uptoBulkEntry x + uptoBulkEntries r
def uptoBulkEntry {H : Type} : Lit × DataW H → Nat
  | (.string bytes, d) => bytes.length + uptoBulk d + 1
  | (_, d) => uptoBulk d + 1
 end
def uptoSmall : (H : Type) → List (DataW H) → Bool := fun _ ds => decide (uptoBulkAll ds ≤ 1048576)
def OpenSpec.upto (s : _root_.Go.ChangeSpec) : _root_.Go.OpenSpec := { _root_.Go.OpenSpec.ofChange s with cond := some uptoSmall }

/-- 'hawthornlaw02.StatPerMille', WHERE WHAT IT READS IS OF BULK AT MOST 1048576: true; the input reads as it did. -/
def statPerMilleUptoRow : OpenClaim := { program := "ytbhmgbcfkhmbpaa", sum := "b66a6169c2aa1587beb23cfaaee97f9398da80acb2ee66e693431e132ccc3790", func := "hawthorn/hawthornlaw02.StatPerMille", spec := "statPerMille", inPlace := ["math.archFloor", "math.Float64bits", "math.Float64frombits", "math.archTrunc"], apart := false, narrowed := true }
def StatPerMilleUptoSaid : Prop := statPerMilleUptoRow.holds Try.pinned (OpenSpec.upto statPerMilleSpec)

/-- 'hawthornlaw02.StatAdds', WHERE WHAT IT READS IS OF BULK AT MOST 1048576: true; the input reads as it did. -/
def statAddsUptoRow : OpenClaim := { program := "ytbhmgbcfkhmbpaa", sum := "b66a6169c2aa1587beb23cfaaee97f9398da80acb2ee66e693431e132ccc3790", func := "hawthorn/hawthornlaw02.StatAdds", spec := "statAdds", inPlace := ["math.archFloor", "math.Float64bits", "math.Float64frombits", "math.archTrunc"], apart := false, narrowed := true }
def StatAddsUptoSaid : Prop := statAddsUptoRow.holds Try.pinned (OpenSpec.upto statAddsSpec)

/-- 'hawthornlaw02.StatRates', WHERE WHAT IT READS IS OF BULK AT MOST 1048576: true; the input reads as it did. -/
def statRatesUptoRow : OpenClaim := { program := "ytbhmgbcfkhmbpaa", sum := "b66a6169c2aa1587beb23cfaaee97f9398da80acb2ee66e693431e132ccc3790", func := "hawthorn/hawthornlaw02.StatRates", spec := "statRates", inPlace := ["math.archFloor", "math.Float64bits", "math.Float64frombits", "math.archTrunc"], apart := false, narrowed := true }
def StatRatesUptoSaid : Prop := statRatesUptoRow.holds Try.pinned (OpenSpec.upto statRatesSpec)

/-- 'hawthornlaw02.StatOrder', WHERE WHAT IT READS IS OF BULK AT MOST 1048576: true; the input reads as it did. -/
def statOrderUptoRow : OpenClaim := { program := "ytbhmgbcfkhmbpaa", sum := "b66a6169c2aa1587beb23cfaaee97f9398da80acb2ee66e693431e132ccc3790", func := "hawthorn/hawthornlaw02.StatOrder", spec := "statOrder", inPlace := ["math.Float64bits", "math.archFloor", "math.Float64frombits", "math.archTrunc"], apart := false, narrowed := true }
def StatOrderUptoSaid : Prop := statOrderUptoRow.holds Try.pinned (OpenSpec.upto statOrderSpec)

/-- 'hawthornlaw02.StatBlends', WHERE WHAT IT READS IS OF BULK AT MOST 1048576: true; the input reads as it did. -/
def statBlendsUptoRow : OpenClaim := { program := "ytbhmgbcfkhmbpaa", sum := "b66a6169c2aa1587beb23cfaaee97f9398da80acb2ee66e693431e132ccc3790", func := "hawthorn/hawthornlaw02.StatBlends", spec := "statBlends", inPlace := ["math.archFloor", "math.Float64bits", "math.Float64frombits", "math.archTrunc"], apart := false, narrowed := true }
def StatBlendsUptoSaid : Prop := statBlendsUptoRow.holds Try.pinned (OpenSpec.upto statBlendsSpec)

/-- 'hawthornlaw02.StatClamps', WHERE WHAT IT READS IS OF BULK AT MOST 1048576: true; the input reads as it did. -/
def statClampsUptoRow : OpenClaim := { program := "ytbhmgbcfkhmbpaa", sum := "b66a6169c2aa1587beb23cfaaee97f9398da80acb2ee66e693431e132ccc3790", func := "hawthorn/hawthornlaw02.StatClamps", spec := "statClamps", inPlace := ["math.archFloor", "math.Float64bits", "math.Float64frombits", "math.archTrunc"], apart := false, narrowed := true }
def StatClampsUptoSaid : Prop := statClampsUptoRow.holds Try.pinned (OpenSpec.upto statClampsSpec)

end Rows
end Go.Proofs.Ytbhmgbcfkhmbpaa
