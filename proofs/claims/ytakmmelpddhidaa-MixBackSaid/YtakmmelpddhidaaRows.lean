/-
  No cell of these rows narrows 'for every input' (looked for: loops, veiled, ifaces, maps, wideKeys, modest, calm, conditions, laid).
  DERIVED. THE GIVEN ROWS OF THIS SEAT. 5 by the template 'for every input the law returns true; each argument reads behind the call as it read before'; 0 by the template 'total and deterministic' (their statements: YtakmmelpddhidaaTotals.lean).
  GIVEN WITH THE SEED: the statements are not yours to turn. If you find one false, say at which input.
  Laid BY PROGRAM, IN A SANDBOX (cutbox-rows.mjs): the forced cells as the released guide's own fill.sh prints them over the translation 6a04b37d4c0d62f8… (all of the seat's roots in one cut). By AI agents, Wed Nov 11 2026. No macro, syntax, notation, axiom, sorry.
-/
import Derived.Test.YtakmmelpddhidaaChecked
import GoSem.Claim
import GoSem.ClaimJoined
import GoSem.ClaimMapViews
import Derived.JoinedTies
import Derived.KernelRfl
namespace Go.Proofs.Ytakmmelpddhidaa
/- THE CELL 'sum', in the pinned program and in every row, IS THE sha256 OF THE DUMP (.gsa) THAT YtakmmelpddhidaaProg.lean LOADS. Nothing in Lean hashes anything: it is a label: what it is worth is what the hold of that sum in a sandbox is worth. -/
noncomputable def Try.pinned : Pinned := { name := "ytakmmelpddhidaa", sum := "6a04b37d4c0d62f89d5125c57c14d9fdae44d802ebbbf747c26560e7ba9512f3", checked := Try.checked }
namespace Rows
def none {H : Type} : Left H := { results := [], args := [] }

/-- 'hawthornlaw01.MixExact': WHATEVER THE INPUT: true; the input reads as it did. -/
def mixExactSpec : ChangeSpec := { name := "mixExact", fn := fun _ => fun
  | [d] => { results := [.lit (.bool true)], args := [d] }
  | _ => none }
def mixExactRow : OpenClaim := { program := "ytakmmelpddhidaa", sum := "6a04b37d4c0d62f89d5125c57c14d9fdae44d802ebbbf747c26560e7ba9512f3", func := "hawthorn/hawthornlaw01.MixExact", spec := "mixExact", apart := false }
def MixExactSaid : Prop := mixExactRow.holds Try.pinned (OpenSpec.ofChange mixExactSpec)

/-- ITS FALSE NEIGHBOUR: 'it returns false'. Refute it at one input. -/
def mixExactWrong : ChangeSpec := { name := "mixExact", fn := fun _ => fun
  | [d] => { results := [.lit (.bool false)], args := [d] }
  | _ => none }
def MixExactWrongFalsely : Prop := mixExactRow.holds Try.pinned (OpenSpec.ofChange mixExactWrong)

/-- 'hawthornlaw01.MixBack': WHATEVER THE INPUT: true; the input reads as it did. -/
def mixBackSpec : ChangeSpec := { name := "mixBack", fn := fun _ => fun
  | [d] => { results := [.lit (.bool true)], args := [d] }
  | _ => none }
def mixBackRow : OpenClaim := { program := "ytakmmelpddhidaa", sum := "6a04b37d4c0d62f89d5125c57c14d9fdae44d802ebbbf747c26560e7ba9512f3", func := "hawthorn/hawthornlaw01.MixBack", spec := "mixBack", apart := false }
def MixBackSaid : Prop := mixBackRow.holds Try.pinned (OpenSpec.ofChange mixBackSpec)

/-- ITS FALSE NEIGHBOUR: 'it returns false'. Refute it at one input. -/
def mixBackWrong : ChangeSpec := { name := "mixBack", fn := fun _ => fun
  | [d] => { results := [.lit (.bool false)], args := [d] }
  | _ => none }
def MixBackWrongFalsely : Prop := mixBackRow.holds Try.pinned (OpenSpec.ofChange mixBackWrong)

/-- 'hawthornlaw01.MixUnlike': WHATEVER THE INPUT: true; the input reads as it did. -/
def mixUnlikeSpec : ChangeSpec := { name := "mixUnlike", fn := fun _ => fun
  | [d1, d2] => { results := [.lit (.bool true)], args := [d1, d2] }
  | _ => none }
def mixUnlikeRow : OpenClaim := { program := "ytakmmelpddhidaa", sum := "6a04b37d4c0d62f89d5125c57c14d9fdae44d802ebbbf747c26560e7ba9512f3", func := "hawthorn/hawthornlaw01.MixUnlike", spec := "mixUnlike", apart := false }
def MixUnlikeSaid : Prop := mixUnlikeRow.holds Try.pinned (OpenSpec.ofChange mixUnlikeSpec)

/-- ITS FALSE NEIGHBOUR: 'it returns false'. Refute it at one input. -/
def mixUnlikeWrong : ChangeSpec := { name := "mixUnlike", fn := fun _ => fun
  | [d1, d2] => { results := [.lit (.bool false)], args := [d1, d2] }
  | _ => none }
def MixUnlikeWrongFalsely : Prop := mixUnlikeRow.holds Try.pinned (OpenSpec.ofChange mixUnlikeWrong)

/-- 'hawthornlaw01.MixTexts': WHATEVER THE INPUT: true; the input reads as it did. -/
def mixTextsSpec : ChangeSpec := { name := "mixTexts", fn := fun _ => fun
  | [d1, d2] => { results := [.lit (.bool true)], args := [d1, d2] }
  | _ => none }
def mixTextsRow : OpenClaim := { program := "ytakmmelpddhidaa", sum := "6a04b37d4c0d62f89d5125c57c14d9fdae44d802ebbbf747c26560e7ba9512f3", func := "hawthorn/hawthornlaw01.MixTexts", spec := "mixTexts", apart := false }
def MixTextsSaid : Prop := mixTextsRow.holds Try.pinned (OpenSpec.ofChange mixTextsSpec)

/-- ITS FALSE NEIGHBOUR: 'it returns false'. Refute it at one input. -/
def mixTextsWrong : ChangeSpec := { name := "mixTexts", fn := fun _ => fun
  | [d1, d2] => { results := [.lit (.bool false)], args := [d1, d2] }
  | _ => none }
def MixTextsWrongFalsely : Prop := mixTextsRow.holds Try.pinned (OpenSpec.ofChange mixTextsWrong)

/-- 'hawthornlaw01.MixPlaces': WHATEVER THE INPUT: true; the input reads as it did. -/
def mixPlacesSpec : ChangeSpec := { name := "mixPlaces", fn := fun _ => fun
  | [d1, d2, d3] => { results := [.lit (.bool true)], args := [d1, d2, d3] }
  | _ => none }
def mixPlacesRow : OpenClaim := { program := "ytakmmelpddhidaa", sum := "6a04b37d4c0d62f89d5125c57c14d9fdae44d802ebbbf747c26560e7ba9512f3", func := "hawthorn/hawthornlaw01.MixPlaces", spec := "mixPlaces", apart := false }
def MixPlacesSaid : Prop := mixPlacesRow.holds Try.pinned (OpenSpec.ofChange mixPlacesSpec)

/-- ITS FALSE NEIGHBOUR: 'it returns false'. Refute it at one input. -/
def mixPlacesWrong : ChangeSpec := { name := "mixPlaces", fn := fun _ => fun
  | [d1, d2, d3] => { results := [.lit (.bool false)], args := [d1, d2, d3] }
  | _ => none }
def MixPlacesWrongFalsely : Prop := mixPlacesRow.holds Try.pinned (OpenSpec.ofChange mixPlacesWrong)

/- THE SECOND FORM. 'bulk': how many values and letters a reading holds, each counted each time it is reached (what is shared counts as often as it is met; a slice's spare places count too). A statement '..UptoSaid' is the law's where the arguments, and the package variables that the reading takes, are together of bulk at most 1048576: NARROWER than '..Said'. Prove '..Said' where nothing that the law and all that it calls make is longer than what came in: it says more and counts as full. Else prove '..UptoSaid'. A law counts once. -/
mutual
def uptoBulk {H : Type} : DataW H → Nat
  | .lit (.string bytes) => bytes.length + 1
  | .lit _ => 1
  | .nil => 1
  | .ptr d => uptoBulk d + 1
  | .slice elems spare => uptoBulkAll elems + uptoBulkAll spare + 1
  | .agg parts => uptoBulkAll parts + 1
  | .iface _ d => uptoBulk d + 1
  | .map entries => uptoBulkEntries entries + 1
  | .held _ => 1
def uptoBulkAll {H : Type} : List (DataW H) → Nat
  | [] => 0
  | d :: r => uptoBulk d + uptoBulkAll r
def uptoBulkEntries {H : Type} : List (Lit × DataW H) → Nat
  | [] => 0
  | x :: r => uptoBulkEntry x + uptoBulkEntries r
def uptoBulkEntry {H : Type} : Lit × DataW H → Nat
  | (.string bytes, d) => bytes.length + uptoBulk d + 1
  | (_, d) => uptoBulk d + 1
 end
def uptoSmall : (H : Type) → List (DataW H) → Bool := fun _ ds => decide (uptoBulkAll ds ≤ 1048576)
def OpenSpec.upto (s : _root_.Go.ChangeSpec) : _root_.Go.OpenSpec := { _root_.Go.OpenSpec.ofChange s with cond := some uptoSmall }

/-- 'hawthornlaw01.MixExact', WHERE WHAT IT READS IS OF BULK AT MOST 1048576: true; the input reads as it did. -/
def mixExactUptoRow : OpenClaim := { program := "ytakmmelpddhidaa", sum := "6a04b37d4c0d62f89d5125c57c14d9fdae44d802ebbbf747c26560e7ba9512f3", func := "hawthorn/hawthornlaw01.MixExact", spec := "mixExact", apart := false, narrowed := true }
def MixExactUptoSaid : Prop := mixExactUptoRow.holds Try.pinned (OpenSpec.upto mixExactSpec)

/-- 'hawthornlaw01.MixBack', WHERE WHAT IT READS IS OF BULK AT MOST 1048576: true; the input reads as it did. -/
def mixBackUptoRow : OpenClaim := { program := "ytakmmelpddhidaa", sum := "6a04b37d4c0d62f89d5125c57c14d9fdae44d802ebbbf747c26560e7ba9512f3", func := "hawthorn/hawthornlaw01.MixBack", spec := "mixBack", apart := false, narrowed := true }
def MixBackUptoSaid : Prop := mixBackUptoRow.holds Try.pinned (OpenSpec.upto mixBackSpec)

/-- 'hawthornlaw01.MixUnlike', WHERE WHAT IT READS IS OF BULK AT MOST 1048576: true; the input reads as it did. -/
def mixUnlikeUptoRow : OpenClaim := { program := "ytakmmelpddhidaa", sum := "6a04b37d4c0d62f89d5125c57c14d9fdae44d802ebbbf747c26560e7ba9512f3", func := "hawthorn/hawthornlaw01.MixUnlike", spec := "mixUnlike", apart := false, narrowed := true }
def MixUnlikeUptoSaid : Prop := mixUnlikeUptoRow.holds Try.pinned (OpenSpec.upto mixUnlikeSpec)

/-- 'hawthornlaw01.MixTexts', WHERE WHAT IT READS IS OF BULK AT MOST 1048576: true; the input reads as it did. -/
def mixTextsUptoRow : OpenClaim := { program := "ytakmmelpddhidaa", sum := "6a04b37d4c0d62f89d5125c57c14d9fdae44d802ebbbf747c26560e7ba9512f3", func := "hawthorn/hawthornlaw01.MixTexts", spec := "mixTexts", apart := false, narrowed := true }
def MixTextsUptoSaid : Prop := mixTextsUptoRow.holds Try.pinned (OpenSpec.upto mixTextsSpec)

/-- 'hawthornlaw01.MixPlaces', WHERE WHAT IT READS IS OF BULK AT MOST 1048576: true; the input reads as it did. -/
def mixPlacesUptoRow : OpenClaim := { program := "ytakmmelpddhidaa", sum := "6a04b37d4c0d62f89d5125c57c14d9fdae44d802ebbbf747c26560e7ba9512f3", func := "hawthorn/hawthornlaw01.MixPlaces", spec := "mixPlaces", apart := false, narrowed := true }
def MixPlacesUptoSaid : Prop := mixPlacesUptoRow.holds Try.pinned (OpenSpec.upto mixPlacesSpec)

end Rows
end Go.Proofs.Ytakmmelpddhidaa
