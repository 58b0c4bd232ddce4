/-
  No cell of these rows narrows 'for every input' (looked for: loops, veiled, ifaces, maps, wideKeys, modest, calm, conditions, laid).
  DERIVED. THE GIVEN ROWS OF THIS SEAT. 5 by the template 'for every input the law returns true; each argument reads behind the call as it read before'; 0 by the template 'total and deterministic' (their statements: YtdmdegjomikmlaaTotals.lean).
  GIVEN WITH THE SEED: the statements are not yours to turn. If you find one false, say at which input.
  Laid BY PROGRAM, IN A SANDBOX (cutbox-rows.mjs): the forced cells as the released guide's own fill.sh prints them over the translation b9c4332459f5396e… (all of the seat's roots in one cut). By AI agents, Wed Nov 11 2026. No macro, syntax, notation, axiom, sorry.
-/
import Derived.Test.YtdmdegjomikmlaaChecked
import GoSem.Claim
import GoSem.ClaimJoined
import GoSem.ClaimMapViews
import Derived.JoinedTies
import Derived.KernelRfl
namespace Go.Proofs.Ytdmdegjomikmlaa
/- THE CELL 'sum', in the pinned program and in every row, IS THE sha256 OF THE DUMP (.gsa) THAT YtdmdegjomikmlaaProg.lean LOADS. Nothing in Lean hashes anything: it is a label: what it is worth is what the hold of that sum in a sandbox is worth. -/
noncomputable def Try.pinned : Pinned := { name := "ytdmdegjomikmlaa", sum := "b9c4332459f5396ec371ae943cd8eb7bb4a68c11fec6ce23b638c7cc77ca8e0e", checked := Try.checked }
namespace Rows
def none {H : Type} : Left H := { results := [], args := [] }

/-- 'hawthornlaw22.NetLinks': WHATEVER THE INPUT: true; the input reads as it did. -/
def netLinksSpec : ChangeSpec := { name := "netLinks", fn := fun _ => fun
  | [d1, d2, d3] => { results := [.lit (.bool true)], args := [d1, d2, d3] }
  | _ => none }
def netLinksRow : OpenClaim := { program := "ytdmdegjomikmlaa", sum := "b9c4332459f5396ec371ae943cd8eb7bb4a68c11fec6ce23b638c7cc77ca8e0e", func := "hawthorn/hawthornlaw22.NetLinks", spec := "netLinks", plainKeys := false, apart := false }
def NetLinksSaid : Prop := netLinksRow.holds Try.pinned (OpenSpec.ofChange netLinksSpec)

/-- ITS FALSE NEIGHBOUR: 'it returns false'. Refute it at one input. -/
def netLinksWrong : ChangeSpec := { name := "netLinks", fn := fun _ => fun
  | [d1, d2, d3] => { results := [.lit (.bool false)], args := [d1, d2, d3] }
  | _ => none }
def NetLinksWrongFalsely : Prop := netLinksRow.holds Try.pinned (OpenSpec.ofChange netLinksWrong)

/-- 'hawthornlaw22.NetSpoils': WHATEVER THE INPUT: true; the input reads as it did. -/
def netSpoilsSpec : ChangeSpec := { name := "netSpoils", fn := fun _ => fun
  | [d1, d2, d3] => { results := [.lit (.bool true)], args := [d1, d2, d3] }
  | _ => none }
def netSpoilsRow : OpenClaim := { program := "ytdmdegjomikmlaa", sum := "b9c4332459f5396ec371ae943cd8eb7bb4a68c11fec6ce23b638c7cc77ca8e0e", func := "hawthorn/hawthornlaw22.NetSpoils", spec := "netSpoils", plainKeys := false, apart := false }
def NetSpoilsSaid : Prop := netSpoilsRow.holds Try.pinned (OpenSpec.ofChange netSpoilsSpec)

/-- ITS FALSE NEIGHBOUR: 'it returns false'. Refute it at one input. -/
def netSpoilsWrong : ChangeSpec := { name := "netSpoils", fn := fun _ => fun
  | [d1, d2, d3] => { results := [.lit (.bool false)], args := [d1, d2, d3] }
  | _ => none }
def NetSpoilsWrongFalsely : Prop := netSpoilsRow.holds Try.pinned (OpenSpec.ofChange netSpoilsWrong)

/-- 'hawthornlaw22.NetCuts': WHATEVER THE INPUT: true; the input reads as it did. -/
def netCutsSpec : ChangeSpec := { name := "netCuts", fn := fun _ => fun
  | [d1, d2, d3] => { results := [.lit (.bool true)], args := [d1, d2, d3] }
  | _ => none }
def netCutsRow : OpenClaim := { program := "ytdmdegjomikmlaa", sum := "b9c4332459f5396ec371ae943cd8eb7bb4a68c11fec6ce23b638c7cc77ca8e0e", func := "hawthorn/hawthornlaw22.NetCuts", spec := "netCuts", unfollowed := true, recurses := true, plainKeys := false, apart := false }
def NetCutsSaid : Prop := netCutsRow.holds Try.pinned (OpenSpec.ofChange netCutsSpec)

/-- ITS FALSE NEIGHBOUR: 'it returns false'. Refute it at one input. -/
def netCutsWrong : ChangeSpec := { name := "netCuts", fn := fun _ => fun
  | [d1, d2, d3] => { results := [.lit (.bool false)], args := [d1, d2, d3] }
  | _ => none }
def NetCutsWrongFalsely : Prop := netCutsRow.holds Try.pinned (OpenSpec.ofChange netCutsWrong)

/-- 'hawthornlaw22.NetPlays': WHATEVER THE INPUT: true; the input reads as it did. -/
def netPlaysSpec : ChangeSpec := { name := "netPlays", fn := fun _ => fun
  | [d] => { results := [.lit (.bool true)], args := [d] }
  | _ => none }
def netPlaysRow : OpenClaim := { program := "ytdmdegjomikmlaa", sum := "b9c4332459f5396ec371ae943cd8eb7bb4a68c11fec6ce23b638c7cc77ca8e0e", func := "hawthorn/hawthornlaw22.NetPlays", spec := "netPlays", unfollowed := true, recurses := true, plainKeys := false, apart := false }
def NetPlaysSaid : Prop := netPlaysRow.holds Try.pinned (OpenSpec.ofChange netPlaysSpec)

/-- ITS FALSE NEIGHBOUR: 'it returns false'. Refute it at one input. -/
def netPlaysWrong : ChangeSpec := { name := "netPlays", fn := fun _ => fun
  | [d] => { results := [.lit (.bool false)], args := [d] }
  | _ => none }
def NetPlaysWrongFalsely : Prop := netPlaysRow.holds Try.pinned (OpenSpec.ofChange netPlaysWrong)

/-- 'hawthornlaw22.NetNone': WHATEVER THE INPUT: true; the input reads as it did. -/
def netNoneSpec : ChangeSpec := { name := "netNone", fn := fun _ => fun
  | [d1, d2] => { results := [.lit (.bool true)], args := [d1, d2] }
  | _ => none }
def netNoneRow : OpenClaim := { program := "ytdmdegjomikmlaa", sum := "b9c4332459f5396ec371ae943cd8eb7bb4a68c11fec6ce23b638c7cc77ca8e0e", func := "hawthorn/hawthornlaw22.NetNone", spec := "netNone", unfollowed := true, recurses := true, plainKeys := false, apart := false }
def NetNoneSaid : Prop := netNoneRow.holds Try.pinned (OpenSpec.ofChange netNoneSpec)

/-- ITS FALSE NEIGHBOUR: 'it returns false'. Refute it at one input. -/
def netNoneWrong : ChangeSpec := { name := "netNone", fn := fun _ => fun
  | [d1, d2] => { results := [.lit (.bool false)], args := [d1, d2] }
  | _ => none }
def NetNoneWrongFalsely : Prop := netNoneRow.holds Try.pinned (OpenSpec.ofChange netNoneWrong)

/- THE SECOND FORM. 'bulk': how many values and letters a reading holds, each counted each time it is reached (what is shared counts as often as it is met; a slice's spare places count too). A statement '..UptoSaid' is the law's where the arguments, and the package variables that the reading takes, are together of bulk at most 1048576: NARROWER than '..Said'. Prove '..Said' where nothing that the law and all that it calls make is longer than what came in: it says more and counts as full. Else prove '..UptoSaid'. A law counts once. -/
mutual
def uptoBulk {H : Type} : DataW H → Nat
  | .lit (.string bytes) => bytes.length + 1
  | .lit _ => 1
  | .nil => 1
  | .ptr d => uptoBulk d + 1
  | .slice elems spare => uptoBulkAll elems + uptoBulkAll spare + 1
  | .agg parts => uptoBulkAll parts + 1
  | .iface _ d => uptoBulk d + 1
  | .map entries => uptoBulkEntries entries + 1
  | .held _ => 1
def uptoBulkAll {H : Type} : List (DataW H) → Nat
  | [] => 0
  | d :: r => uptoBulk d + uptoBulkAll r
def uptoBulkEntries {H : Type} : List (Lit × DataW H) → Nat
  | [] => 0
  | x :: r => uptoBulkEntry x + uptoBulkEntries r
def uptoBulkEntry {H : Type} : Lit × DataW H → Nat
  | (.string bytes, d) => bytes.length + uptoBulk d + 1
  | (_, d) => uptoBulk d + 1
 end
def uptoSmall : (H : Type) → List (DataW H) → Bool := fun _ ds => decide (uptoBulkAll ds ≤ 1048576)
def OpenSpec.upto (s : _root_.Go.ChangeSpec) : _root_.Go.OpenSpec := { _root_.Go.OpenSpec.ofChange s with cond := some uptoSmall }

/-- 'hawthornlaw22.NetLinks', WHERE WHAT IT READS IS OF BULK AT MOST 1048576: true; the input reads as it did. -/
def netLinksUptoRow : OpenClaim := { program := "ytdmdegjomikmlaa", sum := "b9c4332459f5396ec371ae943cd8eb7bb4a68c11fec6ce23b638c7cc77ca8e0e", func := "hawthorn/hawthornlaw22.NetLinks", spec := "netLinks", plainKeys := false, apart := false, narrowed := true }
def NetLinksUptoSaid : Prop := netLinksUptoRow.holds Try.pinned (OpenSpec.upto netLinksSpec)

/-- 'hawthornlaw22.NetSpoils', WHERE WHAT IT READS IS OF BULK AT MOST 1048576: true; the input reads as it did. -/
def netSpoilsUptoRow : OpenClaim := { program := "ytdmdegjomikmlaa", sum := "b9c4332459f5396ec371ae943cd8eb7bb4a68c11fec6ce23b638c7cc77ca8e0e", func := "hawthorn/hawthornlaw22.NetSpoils", spec := "netSpoils", plainKeys := false, apart := false, narrowed := true }
def NetSpoilsUptoSaid : Prop := netSpoilsUptoRow.holds Try.pinned (OpenSpec.upto netSpoilsSpec)

/-- 'hawthornlaw22.NetCuts', WHERE WHAT IT READS IS OF BULK AT MOST 1048576: true; the input reads as it did. -/
def netCutsUptoRow : OpenClaim := { program := "ytdmdegjomikmlaa", sum := "b9c4332459f5396ec371ae943cd8eb7bb4a68c11fec6ce23b638c7cc77ca8e0e", func := "hawthorn/hawthornlaw22.NetCuts", spec := "netCuts", unfollowed := true, recurses := true, plainKeys := false, apart := false, narrowed := true }
def NetCutsUptoSaid : Prop := netCutsUptoRow.holds Try.pinned (OpenSpec.upto netCutsSpec)

/-- 'hawthornlaw22.NetPlays', WHERE WHAT IT READS IS OF BULK AT MOST 1048576: true; the input reads as it did. -/
def netPlaysUptoRow : OpenClaim := { program := "ytdmdegjomikmlaa", sum := "b9c4332459f5396ec371ae943cd8eb7bb4a68c11fec6ce23b638c7cc77ca8e0e", func := "hawthorn/hawthornlaw22.NetPlays", spec := "netPlays", unfollowed := true, recurses := true, plainKeys := false, apart := false, narrowed := true }
def NetPlaysUptoSaid : Prop := netPlaysUptoRow.holds Try.pinned (OpenSpec.upto netPlaysSpec)

/-- 'hawthornlaw22.NetNone', WHERE WHAT IT READS IS OF BULK AT MOST 1048576: true; the input reads as it did. -/
def netNoneUptoRow : OpenClaim := { program := "ytdmdegjomikmlaa", sum := "b9c4332459f5396ec371ae943cd8eb7bb4a68c11fec6ce23b638c7cc77ca8e0e", func := "hawthorn/hawthornlaw22.NetNone", spec := "netNone", unfollowed := true, recurses := true, plainKeys := false, apart := false, narrowed := true }
def NetNoneUptoSaid : Prop := netNoneUptoRow.holds Try.pinned (OpenSpec.upto netNoneSpec)

end Rows
end Go.Proofs.Ytdmdegjomikmlaa
