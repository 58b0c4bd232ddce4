/-
  No cell of these rows narrows 'for every input' (looked for: loops, veiled, ifaces, maps, wideKeys, modest, calm, conditions, laid).
  DERIVED. THE GIVEN ROWS OF THIS SEAT. 4 by the template 'for every input the law returns true; each argument reads behind the call as it read before'; 0 by the template 'total and deterministic' (their statements: YtiboacnjmogjaaaTotals.lean).
  GIVEN WITH THE SEED: the statements are not yours to turn. If you find one false, say at which input.
  Laid BY PROGRAM, IN A SANDBOX (cutbox-rows.mjs): the forced cells as the released guide's own fill.sh prints them over the translation f6f6c87d94567470… (all of the seat's roots in one cut). By AI agents, Wed Nov 11 2026. No macro, syntax, notation, axiom, sorry.
-/
import Derived.Test.YtiboacnjmogjaaaChecked
import GoSem.Claim
import GoSem.ClaimJoined
import GoSem.ClaimMapViews
import Derived.JoinedTies
import Derived.KernelRfl
namespace Go.Proofs.Ytiboacnjmogjaaa
/- THE CELL 'sum', in the pinned program and in every row, IS THE sha256 OF THE DUMP (.gsa) THAT YtiboacnjmogjaaaProg.lean LOADS. Nothing in Lean hashes anything: it is a label: what it is worth is what the hold of that sum in a sandbox is worth. -/
noncomputable def Try.pinned : Pinned := { name := "ytiboacnjmogjaaa", sum := "f6f6c87d945674701d2a042b9d17ab567380707bf052cf4efa7117607cbaa141", checked := Try.checked }
namespace Rows
def none {H : Type} : Left H := { results := [], args := [] }

/-- 'hawthornlaw19.ShipPlays': WHATEVER THE INPUT: true; the input reads as it did. -/
def shipPlaysSpec : ChangeSpec := { name := "shipPlays", fn := fun _ => fun
  | [d] => { results := [.lit (.bool true)], args := [d] }
  | _ => none }
def shipPlaysRow : OpenClaim := { program := "ytiboacnjmogjaaa", sum := "f6f6c87d945674701d2a042b9d17ab567380707bf052cf4efa7117607cbaa141", func := "hawthorn/hawthornlaw19.ShipPlays", spec := "shipPlays", apart := false }
def ShipPlaysSaid : Prop := shipPlaysRow.holds Try.pinned (OpenSpec.ofChange shipPlaysSpec)

/-- ITS FALSE NEIGHBOUR: 'it returns false'. Refute it at one input. -/
def shipPlaysWrong : ChangeSpec := { name := "shipPlays", fn := fun _ => fun
  | [d] => { results := [.lit (.bool false)], args := [d] }
  | _ => none }
def ShipPlaysWrongFalsely : Prop := shipPlaysRow.holds Try.pinned (OpenSpec.ofChange shipPlaysWrong)

/-- 'hawthornlaw19.ShipNone': WHATEVER THE INPUT: true; the input reads as it did. -/
def shipNoneSpec : ChangeSpec := { name := "shipNone", fn := fun _ => fun
  | [d1, d2] => { results := [.lit (.bool true)], args := [d1, d2] }
  | _ => none }
def shipNoneRow : OpenClaim := { program := "ytiboacnjmogjaaa", sum := "f6f6c87d945674701d2a042b9d17ab567380707bf052cf4efa7117607cbaa141", func := "hawthorn/hawthornlaw19.ShipNone", spec := "shipNone", apart := false }
def ShipNoneSaid : Prop := shipNoneRow.holds Try.pinned (OpenSpec.ofChange shipNoneSpec)

/-- ITS FALSE NEIGHBOUR: 'it returns false'. Refute it at one input. -/
def shipNoneWrong : ChangeSpec := { name := "shipNone", fn := fun _ => fun
  | [d1, d2] => { results := [.lit (.bool false)], args := [d1, d2] }
  | _ => none }
def ShipNoneWrongFalsely : Prop := shipNoneRow.holds Try.pinned (OpenSpec.ofChange shipNoneWrong)

/-- 'hawthornlaw19.ShipFresh': WHATEVER THE INPUT: true; the input reads as it did. -/
def shipFreshSpec : ChangeSpec := { name := "shipFresh", fn := fun _ => fun
  | [d1, d2] => { results := [.lit (.bool true)], args := [d1, d2] }
  | _ => none }
def shipFreshRow : OpenClaim := { program := "ytiboacnjmogjaaa", sum := "f6f6c87d945674701d2a042b9d17ab567380707bf052cf4efa7117607cbaa141", func := "hawthorn/hawthornlaw19.ShipFresh", spec := "shipFresh", apart := false }
def ShipFreshSaid : Prop := shipFreshRow.holds Try.pinned (OpenSpec.ofChange shipFreshSpec)

/-- ITS FALSE NEIGHBOUR: 'it returns false'. Refute it at one input. -/
def shipFreshWrong : ChangeSpec := { name := "shipFresh", fn := fun _ => fun
  | [d1, d2] => { results := [.lit (.bool false)], args := [d1, d2] }
  | _ => none }
def ShipFreshWrongFalsely : Prop := shipFreshRow.holds Try.pinned (OpenSpec.ofChange shipFreshWrong)

/-- 'hawthornlaw19.ShipAll': WHATEVER THE INPUT: true; the input reads as it did. -/
def shipAllSpec : ChangeSpec := { name := "shipAll", fn := fun _ => fun
  | [d1, d2] => { results := [.lit (.bool true)], args := [d1, d2] }
  | _ => none }
def shipAllRow : OpenClaim := { program := "ytiboacnjmogjaaa", sum := "f6f6c87d945674701d2a042b9d17ab567380707bf052cf4efa7117607cbaa141", func := "hawthorn/hawthornlaw19.ShipAll", spec := "shipAll", apart := false }
def ShipAllSaid : Prop := shipAllRow.holds Try.pinned (OpenSpec.ofChange shipAllSpec)

/-- ITS FALSE NEIGHBOUR: 'it returns false'. Refute it at one input. -/
def shipAllWrong : ChangeSpec := { name := "shipAll", fn := fun _ => fun
  | [d1, d2] => { results := [.lit (.bool false)], args := [d1, d2] }
  | _ => none }
def ShipAllWrongFalsely : Prop := shipAllRow.holds Try.pinned (OpenSpec.ofChange shipAllWrong)

/- THE SECOND FORM. 'bulk': how many values and letters a reading holds, each counted each time it is reached (what is shared counts as often as it is met; a slice's spare places count too). A statement '..UptoSaid' is the law's where the arguments, and the package variables that the reading takes, are together of bulk at most 1048576: NARROWER than '..Said'. Prove '..Said' where nothing that the law and all that it calls make is longer than what came in: it says more and counts as full. Else prove '..UptoSaid'. A law counts once. -/
mutual
def uptoBulk {H : Type} : DataW H → Nat
  | .lit (.string bytes) => bytes.length + 1
  | .lit _ => 1
  | .nil => 1
  | .ptr d => uptoBulk d + 1
  | .slice elems spare => uptoBulkAll elems + uptoBulkAll spare + 1
  | .agg parts => uptoBulkAll parts + 1
  | .iface _ d => uptoBulk d + 1
  | .map entries => uptoBulkEntries entries + 1
  | .held _ => 1
def uptoBulkAll {H : Type} : List (DataW H) → Nat
  | [] => 0
  | d :: r => uptoBulk d + uptoBulkAll r
def uptoBulkEntries {H : Type} : List (Lit × DataW H) → Nat
  | [] => 0
  | x :: r => uptoBulkEntry x + uptoBulkEntries r
def uptoBulkEntry {H : Type} : Lit × DataW H → Nat
  | (.string bytes, d) => bytes.length + uptoBulk d + 1
  | (_, d) => uptoBulk d + 1
 end
def uptoSmall : (H : Type) → List (DataW H) → Bool := fun _ ds => decide (uptoBulkAll ds ≤ 1048576)
def OpenSpec.upto (s : _root_.Go.ChangeSpec) : _root_.Go.OpenSpec := { _root_.Go.OpenSpec.ofChange s with cond := some uptoSmall }

/-- 'hawthornlaw19.ShipPlays', WHERE WHAT IT READS IS OF BULK AT MOST 1048576: true; the input reads as it did. -/
def shipPlaysUptoRow : OpenClaim := { program := "ytiboacnjmogjaaa", sum := "f6f6c87d945674701d2a042b9d17ab567380707bf052cf4efa7117607cbaa141", func := "hawthorn/hawthornlaw19.ShipPlays", spec := "shipPlays", apart := false, narrowed := true }
def ShipPlaysUptoSaid : Prop := shipPlaysUptoRow.holds Try.pinned (OpenSpec.upto shipPlaysSpec)

/-- 'hawthornlaw19.ShipNone', WHERE WHAT IT READS IS OF BULK AT MOST 1048576: true; the input reads as it did. -/
def shipNoneUptoRow : OpenClaim := { program := "ytiboacnjmogjaaa", sum := "f6f6c87d945674701d2a042b9d17ab567380707bf052cf4efa7117607cbaa141", func := "hawthorn/hawthornlaw19.ShipNone", spec := "shipNone", apart := false, narrowed := true }
def ShipNoneUptoSaid : Prop := shipNoneUptoRow.holds Try.pinned (OpenSpec.upto shipNoneSpec)

/-- 'hawthornlaw19.ShipFresh', WHERE WHAT IT READS IS OF BULK AT MOST 1048576: true; the input reads as it did. -/
def shipFreshUptoRow : OpenClaim := { program := "ytiboacnjmogjaaa", sum := "f6f6c87d945674701d2a042b9d17ab567380707bf052cf4efa7117607cbaa141", func := "hawthorn/hawthornlaw19.ShipFresh", spec := "shipFresh", apart := false, narrowed := true }
def ShipFreshUptoSaid : Prop := shipFreshUptoRow.holds Try.pinned (OpenSpec.upto shipFreshSpec)

/-- 'hawthornlaw19.ShipAll', WHERE WHAT IT READS IS OF BULK AT MOST 1048576: true; the input reads as it did. -/
def shipAllUptoRow : OpenClaim := { program := "ytiboacnjmogjaaa", sum := "f6f6c87d945674701d2a042b9d17ab567380707bf052cf4efa7117607cbaa141", func := "hawthorn/hawthornlaw19.ShipAll", spec := "shipAll", apart := false, narrowed := true }
def ShipAllUptoSaid : Prop := shipAllUptoRow.holds Try.pinned (OpenSpec.upto shipAllSpec)

end Rows
end Go.Proofs.Ytiboacnjmogjaaa
