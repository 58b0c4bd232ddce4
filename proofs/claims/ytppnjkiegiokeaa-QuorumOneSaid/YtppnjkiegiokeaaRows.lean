/-
  No cell of these rows narrows 'for every input' (looked for: loops, veiled, ifaces, maps, wideKeys, modest, calm, conditions, laid).
  DERIVED. THE GIVEN ROWS OF THIS SEAT. 5 by the template 'for every input the law returns true; each argument reads behind the call as it read before'; 0 by the template 'total and deterministic' (their statements: YtppnjkiegiokeaaTotals.lean).
  GIVEN WITH THE SEED: the statements are not yours to turn. If you find one false, say at which input.
  Laid BY PROGRAM, IN A SANDBOX (cutbox-rows.mjs): the forced cells as the released guide's own fill.sh prints them over the translation fbc893f1af9a2f88… (all of the seat's roots in one cut). By AI agents, Wed Nov 11 2026. No macro, syntax, notation, axiom, sorry.
-/
import Derived.Test.YtppnjkiegiokeaaChecked
import GoSem.Claim
import GoSem.ClaimJoined
import GoSem.ClaimMapViews
import Derived.JoinedTies
import Derived.KernelRfl
namespace Go.Proofs.Ytppnjkiegiokeaa
/- THE CELL 'sum', in the pinned program and in every row, IS THE sha256 OF THE DUMP (.gsa) THAT YtppnjkiegiokeaaProg.lean LOADS. Nothing in Lean hashes anything: it is a label: what it is worth is what the hold of that sum in a sandbox is worth. -/
noncomputable def Try.pinned : Pinned := { name := "ytppnjkiegiokeaa", sum := "fbc893f1af9a2f880a8ff2feb8e6af5b0a2aa2abf01c66b994d0d6cb062b4d80", checked := Try.checked }
namespace Rows
def none {H : Type} : Left H := { results := [], args := [] }

/-- 'hawthornlaw17.QuorumBallots': WHATEVER THE INPUT: true; the input reads as it did. -/
def quorumBallotsSpec : ChangeSpec := { name := "quorumBallots", fn := fun _ => fun
  | [d1, d2, d3] => { results := [.lit (.bool true)], args := [d1, d2, d3] }
  | _ => none }
def quorumBallotsRow : OpenClaim := { program := "ytppnjkiegiokeaa", sum := "fbc893f1af9a2f880a8ff2feb8e6af5b0a2aa2abf01c66b994d0d6cb062b4d80", func := "hawthorn/hawthornlaw17.QuorumBallots", spec := "quorumBallots", apart := false }
def QuorumBallotsSaid : Prop := quorumBallotsRow.holds Try.pinned (OpenSpec.ofChange quorumBallotsSpec)

/-- ITS FALSE NEIGHBOUR: 'it returns false'. Refute it at one input. -/
def quorumBallotsWrong : ChangeSpec := { name := "quorumBallots", fn := fun _ => fun
  | [d1, d2, d3] => { results := [.lit (.bool false)], args := [d1, d2, d3] }
  | _ => none }
def QuorumBallotsWrongFalsely : Prop := quorumBallotsRow.holds Try.pinned (OpenSpec.ofChange quorumBallotsWrong)

/-- 'hawthornlaw17.QuorumOther': WHATEVER THE INPUT: true; the input reads as it did. -/
def quorumOtherSpec : ChangeSpec := { name := "quorumOther", fn := fun _ => fun
  | [d1, d2, d3] => { results := [.lit (.bool true)], args := [d1, d2, d3] }
  | _ => none }
def quorumOtherRow : OpenClaim := { program := "ytppnjkiegiokeaa", sum := "fbc893f1af9a2f880a8ff2feb8e6af5b0a2aa2abf01c66b994d0d6cb062b4d80", func := "hawthorn/hawthornlaw17.QuorumOther", spec := "quorumOther", apart := false }
def QuorumOtherSaid : Prop := quorumOtherRow.holds Try.pinned (OpenSpec.ofChange quorumOtherSpec)

/-- ITS FALSE NEIGHBOUR: 'it returns false'. Refute it at one input. -/
def quorumOtherWrong : ChangeSpec := { name := "quorumOther", fn := fun _ => fun
  | [d1, d2, d3] => { results := [.lit (.bool false)], args := [d1, d2, d3] }
  | _ => none }
def QuorumOtherWrongFalsely : Prop := quorumOtherRow.holds Try.pinned (OpenSpec.ofChange quorumOtherWrong)

/-- 'hawthornlaw17.QuorumBegins': WHATEVER THE INPUT: true; the input reads as it did. -/
def quorumBeginsSpec : ChangeSpec := { name := "quorumBegins", fn := fun _ => fun
  | [d1, d2] => { results := [.lit (.bool true)], args := [d1, d2] }
  | _ => none }
def quorumBeginsRow : OpenClaim := { program := "ytppnjkiegiokeaa", sum := "fbc893f1af9a2f880a8ff2feb8e6af5b0a2aa2abf01c66b994d0d6cb062b4d80", func := "hawthorn/hawthornlaw17.QuorumBegins", spec := "quorumBegins", apart := false }
def QuorumBeginsSaid : Prop := quorumBeginsRow.holds Try.pinned (OpenSpec.ofChange quorumBeginsSpec)

/-- ITS FALSE NEIGHBOUR: 'it returns false'. Refute it at one input. -/
def quorumBeginsWrong : ChangeSpec := { name := "quorumBegins", fn := fun _ => fun
  | [d1, d2] => { results := [.lit (.bool false)], args := [d1, d2] }
  | _ => none }
def QuorumBeginsWrongFalsely : Prop := quorumBeginsRow.holds Try.pinned (OpenSpec.ofChange quorumBeginsWrong)

/-- 'hawthornlaw17.QuorumNone': WHATEVER THE INPUT: true; the input reads as it did. -/
def quorumNoneSpec : ChangeSpec := { name := "quorumNone", fn := fun _ => fun
  | [d1, d2, d3] => { results := [.lit (.bool true)], args := [d1, d2, d3] }
  | _ => none }
def quorumNoneRow : OpenClaim := { program := "ytppnjkiegiokeaa", sum := "fbc893f1af9a2f880a8ff2feb8e6af5b0a2aa2abf01c66b994d0d6cb062b4d80", func := "hawthorn/hawthornlaw17.QuorumNone", spec := "quorumNone", apart := false }
def QuorumNoneSaid : Prop := quorumNoneRow.holds Try.pinned (OpenSpec.ofChange quorumNoneSpec)

/-- ITS FALSE NEIGHBOUR: 'it returns false'. Refute it at one input. -/
def quorumNoneWrong : ChangeSpec := { name := "quorumNone", fn := fun _ => fun
  | [d1, d2, d3] => { results := [.lit (.bool false)], args := [d1, d2, d3] }
  | _ => none }
def QuorumNoneWrongFalsely : Prop := quorumNoneRow.holds Try.pinned (OpenSpec.ofChange quorumNoneWrong)

/-- 'hawthornlaw17.QuorumOne': WHATEVER THE INPUT: true; the input reads as it did. -/
def quorumOneSpec : ChangeSpec := { name := "quorumOne", fn := fun _ => fun
  | [d1, d2] => { results := [.lit (.bool true)], args := [d1, d2] }
  | _ => none }
def quorumOneRow : OpenClaim := { program := "ytppnjkiegiokeaa", sum := "fbc893f1af9a2f880a8ff2feb8e6af5b0a2aa2abf01c66b994d0d6cb062b4d80", func := "hawthorn/hawthornlaw17.QuorumOne", spec := "quorumOne", apart := false }
def QuorumOneSaid : Prop := quorumOneRow.holds Try.pinned (OpenSpec.ofChange quorumOneSpec)

/-- ITS FALSE NEIGHBOUR: 'it returns false'. Refute it at one input. -/
def quorumOneWrong : ChangeSpec := { name := "quorumOne", fn := fun _ => fun
  | [d1, d2] => { results := [.lit (.bool false)], args := [d1, d2] }
  | _ => none }
def QuorumOneWrongFalsely : Prop := quorumOneRow.holds Try.pinned (OpenSpec.ofChange quorumOneWrong)

/- THE SECOND FORM. 'bulk': how many values and letters a reading holds, each counted each time it is reached (what is shared counts as often as it is met; a slice's spare places count too). A statement '..UptoSaid' is the law's where the arguments, and the package variables that the reading takes, are together of bulk at most 1048576: NARROWER than '..Said'. Prove '..Said' where nothing that the law and all that it calls make is longer than what came in: it says more and counts as full. Else prove '..UptoSaid'. A law counts once. -/
mutual
def uptoBulk {H : Type} : DataW H → Nat
  | .lit (.string bytes) => bytes.length + 1
  | .lit _ => 1
  | .nil => 1
  | .ptr d => uptoBulk d + 1
  | .slice elems spare => uptoBulkAll elems + uptoBulkAll spare + 1
  | .agg parts => uptoBulkAll parts + 1
  | .iface _ d => uptoBulk d + 1
  | .map entries => uptoBulkEntries entries + 1
  | .held _ => 1
def uptoBulkAll {H : Type} : List (DataW H) → Nat
  | [] => 0
  | d :: r => uptoBulk d + uptoBulkAll r
def uptoBulkEntries {H : Type} : List (Lit × DataW H) → Nat
  | [] => 0
  | x :: r => uptoBulkEntry x + uptoBulkEntries r
def uptoBulkEntry {H : Type} : Lit × DataW H → Nat
  | (.string bytes, d) => bytes.length + uptoBulk d + 1
  | (_, d) => uptoBulk d + 1
 end
def uptoSmall : (H : Type) → List (DataW H) → Bool := fun _ ds => decide (uptoBulkAll ds ≤ 1048576)
def OpenSpec.upto (s : _root_.Go.ChangeSpec) : _root_.Go.OpenSpec := { _root_.Go.OpenSpec.ofChange s with cond := some uptoSmall }

/-- 'hawthornlaw17.QuorumBallots', WHERE WHAT IT READS IS OF BULK AT MOST 1048576: true; the input reads as it did. -/
def quorumBallotsUptoRow : OpenClaim := { program := "ytppnjkiegiokeaa", sum := "fbc893f1af9a2f880a8ff2feb8e6af5b0a2aa2abf01c66b994d0d6cb062b4d80", func := "hawthorn/hawthornlaw17.QuorumBallots", spec := "quorumBallots", apart := false, narrowed := true }
def QuorumBallotsUptoSaid : Prop := quorumBallotsUptoRow.holds Try.pinned (OpenSpec.upto quorumBallotsSpec)

/-- 'hawthornlaw17.QuorumOther', WHERE WHAT IT READS IS OF BULK AT MOST 1048576: true; the input reads as it did. -/
def quorumOtherUptoRow : OpenClaim := { program := "ytppnjkiegiokeaa", sum := "fbc893f1af9a2f880a8ff2feb8e6af5b0a2aa2abf01c66b994d0d6cb062b4d80", func := "hawthorn/hawthornlaw17.QuorumOther", spec := "quorumOther", apart := false, narrowed := true }
def QuorumOtherUptoSaid : Prop := quorumOtherUptoRow.holds Try.pinned (OpenSpec.upto quorumOtherSpec)

/-- 'hawthornlaw17.QuorumBegins', WHERE WHAT IT READS IS OF BULK AT MOST 1048576: true; the input reads as it did. -/
def quorumBeginsUptoRow : OpenClaim := { program := "ytppnjkiegiokeaa", sum := "fbc893f1af9a2f880a8ff2feb8e6af5b0a2aa2abf01c66b994d0d6cb062b4d80", func := "hawthorn/hawthornlaw17.QuorumBegins", spec := "quorumBegins", apart := false, narrowed := true }
def QuorumBeginsUptoSaid : Prop := quorumBeginsUptoRow.holds Try.pinned (OpenSpec.upto quorumBeginsSpec)

/-- 'hawthornlaw17.QuorumNone', WHERE WHAT IT READS IS OF BULK AT MOST 1048576: true; the input reads as it did. -/
def quorumNoneUptoRow : OpenClaim := { program := "ytppnjkiegiokeaa", sum := "fbc893f1af9a2f880a8ff2feb8e6af5b0a2aa2abf01c66b994d0d6cb062b4d80", func := "hawthorn/hawthornlaw17.QuorumNone", spec := "quorumNone", apart := false, narrowed := true }
def QuorumNoneUptoSaid : Prop := quorumNoneUptoRow.holds Try.pinned (OpenSpec.upto quorumNoneSpec)

/-- 'hawthornlaw17.QuorumOne', WHERE WHAT IT READS IS OF BULK AT MOST 1048576: true; the input reads as it did. -/
def quorumOneUptoRow : OpenClaim := { program := "ytppnjkiegiokeaa", sum := "fbc893f1af9a2f880a8ff2feb8e6af5b0a2aa2abf01c66b994d0d6cb062b4d80", func := "hawthorn/hawthornlaw17.QuorumOne", spec := "quorumOne", apart := false, narrowed := true }
def QuorumOneUptoSaid : Prop := quorumOneUptoRow.holds Try.pinned (OpenSpec.upto quorumOneSpec)

end Rows
end Go.Proofs.Ytppnjkiegiokeaa
