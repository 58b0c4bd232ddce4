/-
  No cell of these rows narrows 'for every input' (looked for: loops, veiled, ifaces, maps, wideKeys, modest, calm, conditions, laid).
  DERIVED. THE GIVEN ROWS OF THIS SEAT. 5 by the template 'for every input the law returns true; each argument reads behind the call as it read before'; 0 by the template 'total and deterministic' (their statements: YtiokngcfenfieaaTotals.lean).
  GIVEN WITH THE SEED: the statements are not yours to turn. If you find one false, say at which input.
  Laid BY PROGRAM, IN A SANDBOX (cutbox-rows.mjs): the forced cells as the released guide's own fill.sh prints them over the translation 06f98b1bba34e94e… (all of the seat's roots in one cut). By AI agents, Wed Nov 11 2026. No macro, syntax, notation, axiom, sorry.
-/
import Derived.Test.YtiokngcfenfieaaChecked
import GoSem.Claim
import GoSem.ClaimJoined
import GoSem.ClaimMapViews
import Derived.JoinedTies
import Derived.KernelRfl
namespace Go.Proofs.Ytiokngcfenfieaa
/- THE CELL 'sum', in the pinned program and in every row, IS THE sha256 OF THE DUMP (.gsa) THAT YtiokngcfenfieaaProg.lean LOADS. Nothing in Lean hashes anything: it is a label: what it is worth is what the hold of that sum in a sandbox is worth. -/
noncomputable def Try.pinned : Pinned := { name := "ytiokngcfenfieaa", sum := "06f98b1bba34e94eaea8b40ea9917766e2d703209fe9428010bdca814279cfc5", checked := Try.checked }
namespace Rows
def none {H : Type} : Left H := { results := [], args := [] }

/-- 'hawthornlaw13.LogFrom': WHATEVER THE INPUT: true; the input reads as it did. -/
def logFromSpec : ChangeSpec := { name := "logFrom", fn := fun _ => fun
  | [d1, d2, d3] => { results := [.lit (.bool true)], args := [d1, d2, d3] }
  | _ => none }
def logFromRow : OpenClaim := { program := "ytiokngcfenfieaa", sum := "06f98b1bba34e94eaea8b40ea9917766e2d703209fe9428010bdca814279cfc5", func := "hawthorn/hawthornlaw13.LogFrom", spec := "logFrom", apart := false }
def LogFromSaid : Prop := logFromRow.holds Try.pinned (OpenSpec.ofChange logFromSpec)

/-- ITS FALSE NEIGHBOUR: 'it returns false'. Refute it at one input. -/
def logFromWrong : ChangeSpec := { name := "logFrom", fn := fun _ => fun
  | [d1, d2, d3] => { results := [.lit (.bool false)], args := [d1, d2, d3] }
  | _ => none }
def LogFromWrongFalsely : Prop := logFromRow.holds Try.pinned (OpenSpec.ofChange logFromWrong)

/-- 'hawthornlaw13.LogOwn': WHATEVER THE INPUT: true; the input reads as it did. -/
def logOwnSpec : ChangeSpec := { name := "logOwn", fn := fun _ => fun
  | [d] => { results := [.lit (.bool true)], args := [d] }
  | _ => none }
def logOwnRow : OpenClaim := { program := "ytiokngcfenfieaa", sum := "06f98b1bba34e94eaea8b40ea9917766e2d703209fe9428010bdca814279cfc5", func := "hawthorn/hawthornlaw13.LogOwn", spec := "logOwn", apart := false }
def LogOwnSaid : Prop := logOwnRow.holds Try.pinned (OpenSpec.ofChange logOwnSpec)

/-- ITS FALSE NEIGHBOUR: 'it returns false'. Refute it at one input. -/
def logOwnWrong : ChangeSpec := { name := "logOwn", fn := fun _ => fun
  | [d] => { results := [.lit (.bool false)], args := [d] }
  | _ => none }
def LogOwnWrongFalsely : Prop := logOwnRow.holds Try.pinned (OpenSpec.ofChange logOwnWrong)

/-- 'hawthornlaw13.LogSlides': WHATEVER THE INPUT: true; the input reads as it did. -/
def logSlidesSpec : ChangeSpec := { name := "logSlides", fn := fun _ => fun
  | [d1, d2] => { results := [.lit (.bool true)], args := [d1, d2] }
  | _ => none }
def logSlidesRow : OpenClaim := { program := "ytiokngcfenfieaa", sum := "06f98b1bba34e94eaea8b40ea9917766e2d703209fe9428010bdca814279cfc5", func := "hawthorn/hawthornlaw13.LogSlides", spec := "logSlides", apart := false }
def LogSlidesSaid : Prop := logSlidesRow.holds Try.pinned (OpenSpec.ofChange logSlidesSpec)

/-- ITS FALSE NEIGHBOUR: 'it returns false'. Refute it at one input. -/
def logSlidesWrong : ChangeSpec := { name := "logSlides", fn := fun _ => fun
  | [d1, d2] => { results := [.lit (.bool false)], args := [d1, d2] }
  | _ => none }
def LogSlidesWrongFalsely : Prop := logSlidesRow.holds Try.pinned (OpenSpec.ofChange logSlidesWrong)

/-- 'hawthornlaw13.LogPlays': WHATEVER THE INPUT: true; the input reads as it did. -/
def logPlaysSpec : ChangeSpec := { name := "logPlays", fn := fun _ => fun
  | [d1, d2, d3] => { results := [.lit (.bool true)], args := [d1, d2, d3] }
  | _ => none }
def logPlaysRow : OpenClaim := { program := "ytiokngcfenfieaa", sum := "06f98b1bba34e94eaea8b40ea9917766e2d703209fe9428010bdca814279cfc5", func := "hawthorn/hawthornlaw13.LogPlays", spec := "logPlays", apart := false }
def LogPlaysSaid : Prop := logPlaysRow.holds Try.pinned (OpenSpec.ofChange logPlaysSpec)

/-- ITS FALSE NEIGHBOUR: 'it returns false'. Refute it at one input. -/
def logPlaysWrong : ChangeSpec := { name := "logPlays", fn := fun _ => fun
  | [d1, d2, d3] => { results := [.lit (.bool false)], args := [d1, d2, d3] }
  | _ => none }
def LogPlaysWrongFalsely : Prop := logPlaysRow.holds Try.pinned (OpenSpec.ofChange logPlaysWrong)

/-- 'hawthornlaw13.LogNone': WHATEVER THE INPUT: true; the input reads as it did. -/
def logNoneSpec : ChangeSpec := { name := "logNone", fn := fun _ => fun
  | [d1, d2] => { results := [.lit (.bool true)], args := [d1, d2] }
  | _ => none }
def logNoneRow : OpenClaim := { program := "ytiokngcfenfieaa", sum := "06f98b1bba34e94eaea8b40ea9917766e2d703209fe9428010bdca814279cfc5", func := "hawthorn/hawthornlaw13.LogNone", spec := "logNone", apart := false }
def LogNoneSaid : Prop := logNoneRow.holds Try.pinned (OpenSpec.ofChange logNoneSpec)

/-- ITS FALSE NEIGHBOUR: 'it returns false'. Refute it at one input. -/
def logNoneWrong : ChangeSpec := { name := "logNone", fn := fun _ => fun
  | [d1, d2] => { results := [.lit (.bool false)], args := [d1, d2] }
  | _ => none }
def LogNoneWrongFalsely : Prop := logNoneRow.holds Try.pinned (OpenSpec.ofChange logNoneWrong)

/- THE SECOND FORM. 'bulk': how many values and letters a reading holds, each counted each time it is reached (what is shared counts as often as it is met; a slice's spare places count too). A statement '..UptoSaid' is the law's where the arguments, and the package variables that the reading takes, are together of bulk at most 1048576: NARROWER than '..Said'. Prove '..Said' where nothing that the law and all that it calls make is longer than what came in: it says more and counts as full. Else prove '..UptoSaid'. A law counts once. -/
mutual
def uptoBulk {H : Type} : DataW H → Nat
  | .lit (.string bytes) => bytes.length + 1
  | .lit _ => 1
  | .nil => 1
  | .ptr d => uptoBulk d + 1
  | .slice elems spare => uptoBulkAll elems + uptoBulkAll spare + 1
  | .agg parts => uptoBulkAll parts + 1
  | .iface _ d => uptoBulk d + 1
  | .map entries => uptoBulkEntries entries + 1
  | .held _ => 1
def uptoBulkAll {H : Type} : List (DataW H) → Nat
  | [] => 0
  | d :: r => uptoBulk d + uptoBulkAll r
def uptoBulkEntries {H : Type} : List (Lit × DataW H) → Nat
  | [] => 0
  | x :: r => uptoBulkEntry x + uptoBulkEntries r
def uptoBulkEntry {H : Type} : Lit × DataW H → Nat
  | (.string bytes, d) => bytes.length + uptoBulk d + 1
  | (_, d) => uptoBulk d + 1
 end
def uptoSmall : (H : Type) → List (DataW H) → Bool := fun _ ds => decide (uptoBulkAll ds ≤ 1048576)
def OpenSpec.upto (s : _root_.Go.ChangeSpec) : _root_.Go.OpenSpec := { _root_.Go.OpenSpec.ofChange s with cond := some uptoSmall }

/-- 'hawthornlaw13.LogFrom', WHERE WHAT IT READS IS OF BULK AT MOST 1048576: true; the input reads as it did. -/
def logFromUptoRow : OpenClaim := { program := "ytiokngcfenfieaa", sum := "06f98b1bba34e94eaea8b40ea9917766e2d703209fe9428010bdca814279cfc5", func := "hawthorn/hawthornlaw13.LogFrom", spec := "logFrom", apart := false, narrowed := true }
def LogFromUptoSaid : Prop := logFromUptoRow.holds Try.pinned (OpenSpec.upto logFromSpec)

/-- 'hawthornlaw13.LogOwn', WHERE WHAT IT READS IS OF BULK AT MOST 1048576: true; the input reads as it did. -/
def logOwnUptoRow : OpenClaim := { program := "ytiokngcfenfieaa", sum := "06f98b1bba34e94eaea8b40ea9917766e2d703209fe9428010bdca814279cfc5", func := "hawthorn/hawthornlaw13.LogOwn", spec := "logOwn", apart := false, narrowed := true }
def LogOwnUptoSaid : Prop := logOwnUptoRow.holds Try.pinned (OpenSpec.upto logOwnSpec)

/-- 'hawthornlaw13.LogSlides', WHERE WHAT IT READS IS OF BULK AT MOST 1048576: true; the input reads as it did. -/
def logSlidesUptoRow : OpenClaim := { program := "ytiokngcfenfieaa", sum := "06f98b1bba34e94eaea8b40ea9917766e2d703209fe9428010bdca814279cfc5", func := "hawthorn/hawthornlaw13.LogSlides", spec := "logSlides", apart := false, narrowed := true }
def LogSlidesUptoSaid : Prop := logSlidesUptoRow.holds Try.pinned (OpenSpec.upto logSlidesSpec)

/-- 'hawthornlaw13.LogPlays', WHERE WHAT IT READS IS OF BULK AT MOST 1048576: true; the input reads as it did. -/
def logPlaysUptoRow : OpenClaim := { program := "ytiokngcfenfieaa", sum := "06f98b1bba34e94eaea8b40ea9917766e2d703209fe9428010bdca814279cfc5", func := "hawthorn/hawthornlaw13.LogPlays", spec := "logPlays", apart := false, narrowed := true }
def LogPlaysUptoSaid : Prop := logPlaysUptoRow.holds Try.pinned (OpenSpec.upto logPlaysSpec)

/-- 'hawthornlaw13.LogNone', WHERE WHAT IT READS IS OF BULK AT MOST 1048576: true; the input reads as it did. -/
def logNoneUptoRow : OpenClaim := { program := "ytiokngcfenfieaa", sum := "06f98b1bba34e94eaea8b40ea9917766e2d703209fe9428010bdca814279cfc5", func := "hawthorn/hawthornlaw13.LogNone", spec := "logNone", apart := false, narrowed := true }
def LogNoneUptoSaid : Prop := logNoneUptoRow.holds Try.pinned (OpenSpec.upto logNoneSpec)

end Rows
end Go.Proofs.Ytiokngcfenfieaa
