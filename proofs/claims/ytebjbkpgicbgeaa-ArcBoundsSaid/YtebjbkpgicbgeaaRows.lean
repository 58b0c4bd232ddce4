/-
  No cell of these rows narrows 'for every input' (looked for: loops, veiled, ifaces, maps, wideKeys, modest, calm, conditions, laid).
  DERIVED. THE GIVEN ROWS OF THIS SEAT. 6 by the template 'for every input the law returns true; each argument reads behind the call as it read before'; 0 by the template 'total and deterministic' (their statements: YtebjbkpgicbgeaaTotals.lean).
  GIVEN WITH THE SEED: the statements are not yours to turn. If you find one false, say at which input.
  Laid BY PROGRAM, IN A SANDBOX (cutbox-rows.mjs): the forced cells as the released guide's own fill.sh prints them over the translation 453ca984d4e408a0… (all of the seat's roots in one cut). By AI agents, Wed Nov 11 2026. No macro, syntax, notation, axiom, sorry.
-/
import Derived.Test.YtebjbkpgicbgeaaChecked
import GoSem.Claim
import GoSem.ClaimJoined
import GoSem.ClaimMapViews
import Derived.JoinedTies
import Derived.KernelRfl
namespace Go.Proofs.Ytebjbkpgicbgeaa
/- THE CELL 'sum', in the pinned program and in every row, IS THE sha256 OF THE DUMP (.gsa) THAT YtebjbkpgicbgeaaProg.lean LOADS. Nothing in Lean hashes anything: it is a label: what it is worth is what the hold of that sum in a sandbox is worth. -/
noncomputable def Try.pinned : Pinned := { name := "ytebjbkpgicbgeaa", sum := "453ca984d4e408a03a02135bcb36f4431c8f6a499f246685b918ec63a7ee50d6", checked := Try.checked }
namespace Rows
def none {H : Type} : Left H := { results := [], args := [] }

/-- 'hawthornlaw07.ArcKeeps': WHATEVER THE INPUT: true; the input reads as it did. -/
def arcKeepsSpec : ChangeSpec := { name := "arcKeeps", fn := fun _ => fun
  | [d1, d2] => { results := [.lit (.bool true)], args := [d1, d2] }
  | _ => none }
def arcKeepsRow : OpenClaim := { program := "ytebjbkpgicbgeaa", sum := "453ca984d4e408a03a02135bcb36f4431c8f6a499f246685b918ec63a7ee50d6", func := "hawthorn/hawthornlaw07.ArcKeeps", spec := "arcKeeps", apart := false }
def ArcKeepsSaid : Prop := arcKeepsRow.holds Try.pinned (OpenSpec.ofChange arcKeepsSpec)

/-- ITS FALSE NEIGHBOUR: 'it returns false'. Refute it at one input. -/
def arcKeepsWrong : ChangeSpec := { name := "arcKeeps", fn := fun _ => fun
  | [d1, d2] => { results := [.lit (.bool false)], args := [d1, d2] }
  | _ => none }
def ArcKeepsWrongFalsely : Prop := arcKeepsRow.holds Try.pinned (OpenSpec.ofChange arcKeepsWrong)

/-- 'hawthornlaw07.ArcScan': WHATEVER THE INPUT: true; the input reads as it did. -/
def arcScanSpec : ChangeSpec := { name := "arcScan", fn := fun _ => fun
  | [d1, d2] => { results := [.lit (.bool true)], args := [d1, d2] }
  | _ => none }
def arcScanRow : OpenClaim := { program := "ytebjbkpgicbgeaa", sum := "453ca984d4e408a03a02135bcb36f4431c8f6a499f246685b918ec63a7ee50d6", func := "hawthorn/hawthornlaw07.ArcScan", spec := "arcScan", apart := false }
def ArcScanSaid : Prop := arcScanRow.holds Try.pinned (OpenSpec.ofChange arcScanSpec)

/-- ITS FALSE NEIGHBOUR: 'it returns false'. Refute it at one input. -/
def arcScanWrong : ChangeSpec := { name := "arcScan", fn := fun _ => fun
  | [d1, d2] => { results := [.lit (.bool false)], args := [d1, d2] }
  | _ => none }
def ArcScanWrongFalsely : Prop := arcScanRow.holds Try.pinned (OpenSpec.ofChange arcScanWrong)

/-- 'hawthornlaw07.ArcOnce': WHATEVER THE INPUT: true; the input reads as it did. -/
def arcOnceSpec : ChangeSpec := { name := "arcOnce", fn := fun _ => fun
  | [d1, d2] => { results := [.lit (.bool true)], args := [d1, d2] }
  | _ => none }
def arcOnceRow : OpenClaim := { program := "ytebjbkpgicbgeaa", sum := "453ca984d4e408a03a02135bcb36f4431c8f6a499f246685b918ec63a7ee50d6", func := "hawthorn/hawthornlaw07.ArcOnce", spec := "arcOnce", apart := false }
def ArcOnceSaid : Prop := arcOnceRow.holds Try.pinned (OpenSpec.ofChange arcOnceSpec)

/-- ITS FALSE NEIGHBOUR: 'it returns false'. Refute it at one input. -/
def arcOnceWrong : ChangeSpec := { name := "arcOnce", fn := fun _ => fun
  | [d1, d2] => { results := [.lit (.bool false)], args := [d1, d2] }
  | _ => none }
def ArcOnceWrongFalsely : Prop := arcOnceRow.holds Try.pinned (OpenSpec.ofChange arcOnceWrong)

/-- 'hawthornlaw07.ArcBounds': WHATEVER THE INPUT: true; the input reads as it did. -/
def arcBoundsSpec : ChangeSpec := { name := "arcBounds", fn := fun _ => fun
  | [d1, d2] => { results := [.lit (.bool true)], args := [d1, d2] }
  | _ => none }
def arcBoundsRow : OpenClaim := { program := "ytebjbkpgicbgeaa", sum := "453ca984d4e408a03a02135bcb36f4431c8f6a499f246685b918ec63a7ee50d6", func := "hawthorn/hawthornlaw07.ArcBounds", spec := "arcBounds", unfollowed := true, recurses := true, apart := false }
def ArcBoundsSaid : Prop := arcBoundsRow.holds Try.pinned (OpenSpec.ofChange arcBoundsSpec)

/-- ITS FALSE NEIGHBOUR: 'it returns false'. Refute it at one input. -/
def arcBoundsWrong : ChangeSpec := { name := "arcBounds", fn := fun _ => fun
  | [d1, d2] => { results := [.lit (.bool false)], args := [d1, d2] }
  | _ => none }
def ArcBoundsWrongFalsely : Prop := arcBoundsRow.holds Try.pinned (OpenSpec.ofChange arcBoundsWrong)

/-- 'hawthornlaw07.ArcNone': WHATEVER THE INPUT: true; the input reads as it did. -/
def arcNoneSpec : ChangeSpec := { name := "arcNone", fn := fun _ => fun
  | [d1, d2] => { results := [.lit (.bool true)], args := [d1, d2] }
  | _ => none }
def arcNoneRow : OpenClaim := { program := "ytebjbkpgicbgeaa", sum := "453ca984d4e408a03a02135bcb36f4431c8f6a499f246685b918ec63a7ee50d6", func := "hawthorn/hawthornlaw07.ArcNone", spec := "arcNone", inPlace := ["internal/abi.NoEscape"], unfollowed := true, recurses := true, apart := false }
def ArcNoneSaid : Prop := arcNoneRow.holds Try.pinned (OpenSpec.ofChange arcNoneSpec)

/-- ITS FALSE NEIGHBOUR: 'it returns false'. Refute it at one input. -/
def arcNoneWrong : ChangeSpec := { name := "arcNone", fn := fun _ => fun
  | [d1, d2] => { results := [.lit (.bool false)], args := [d1, d2] }
  | _ => none }
def ArcNoneWrongFalsely : Prop := arcNoneRow.holds Try.pinned (OpenSpec.ofChange arcNoneWrong)

/-- 'hawthornlaw07.ArcPlays': WHATEVER THE INPUT: true; the input reads as it did. -/
def arcPlaysSpec : ChangeSpec := { name := "arcPlays", fn := fun _ => fun
  | [d1, d2] => { results := [.lit (.bool true)], args := [d1, d2] }
  | _ => none }
def arcPlaysRow : OpenClaim := { program := "ytebjbkpgicbgeaa", sum := "453ca984d4e408a03a02135bcb36f4431c8f6a499f246685b918ec63a7ee50d6", func := "hawthorn/hawthornlaw07.ArcPlays", spec := "arcPlays", inPlace := ["internal/abi.NoEscape"], unfollowed := true, recurses := true, apart := false }
def ArcPlaysSaid : Prop := arcPlaysRow.holds Try.pinned (OpenSpec.ofChange arcPlaysSpec)

/-- ITS FALSE NEIGHBOUR: 'it returns false'. Refute it at one input. -/
def arcPlaysWrong : ChangeSpec := { name := "arcPlays", fn := fun _ => fun
  | [d1, d2] => { results := [.lit (.bool false)], args := [d1, d2] }
  | _ => none }
def ArcPlaysWrongFalsely : Prop := arcPlaysRow.holds Try.pinned (OpenSpec.ofChange arcPlaysWrong)

/- THE SECOND FORM. 'bulk': how many values and letters a reading holds, each counted each time it is reached (what is shared counts as often as it is met; a slice's spare places count too). A statement '..UptoSaid' is the law's where the arguments, and the package variables that the reading takes, are together of bulk at most 1048576: NARROWER than '..Said'. Prove '..Said' where nothing that the law and all that it calls make is longer than what came in: it says more and counts as full. Else prove '..UptoSaid'. A law counts once. -/
mutual
def uptoBulk {H : Type} : DataW H → Nat
  | .lit (.string bytes) => bytes.length + 1
  | .lit _ => 1
  | .nil => 1
  | .ptr d => uptoBulk d + 1
  | .slice elems spare => uptoBulkAll elems + uptoBulkAll spare + 1
  | .agg parts => uptoBulkAll parts + 1
  | .iface _ d => uptoBulk d + 1
  | .map entries => uptoBulkEntries entries + 1
  | .held _ => 1
def uptoBulkAll {H : Type} : List (DataW H) → Nat
  | [] => 0
  | d :: r => uptoBulk d + uptoBulkAll r
def uptoBulkEntries {H : Type} : List (Lit × DataW H) → Nat
  | [] => 0
  | x :: r => uptoBulkEntry x + uptoBulkEntries r
def uptoBulkEntry {H : Type} : Lit × DataW H → Nat
  | (.string bytes, d) => bytes.length + uptoBulk d + 1
  | (_, d) => uptoBulk d + 1
 end
def uptoSmall : (H : Type) → List (DataW H) → Bool := fun _ ds => decide (uptoBulkAll ds ≤ 1048576)
def OpenSpec.upto (s : _root_.Go.ChangeSpec) : _root_.Go.OpenSpec := { _root_.Go.OpenSpec.ofChange s with cond := some uptoSmall }

/-- 'hawthornlaw07.ArcKeeps', WHERE WHAT IT READS IS OF BULK AT MOST 1048576: true; the input reads as it did. -/
def arcKeepsUptoRow : OpenClaim := { program := "ytebjbkpgicbgeaa", sum := "453ca984d4e408a03a02135bcb36f4431c8f6a499f246685b918ec63a7ee50d6", func := "hawthorn/hawthornlaw07.ArcKeeps", spec := "arcKeeps", apart := false, narrowed := true }
def ArcKeepsUptoSaid : Prop := arcKeepsUptoRow.holds Try.pinned (OpenSpec.upto arcKeepsSpec)

/-- 'hawthornlaw07.ArcScan', WHERE WHAT IT READS IS OF BULK AT MOST 1048576: true; the input reads as it did. -/
def arcScanUptoRow : OpenClaim := { program := "ytebjbkpgicbgeaa", sum := "453ca984d4e408a03a02135bcb36f4431c8f6a499f246685b918ec63a7ee50d6", func := "hawthorn/hawthornlaw07.ArcScan", spec := "arcScan", apart := false, narrowed := true }
def ArcScanUptoSaid : Prop := arcScanUptoRow.holds Try.pinned (OpenSpec.upto arcScanSpec)

/-- 'hawthornlaw07.ArcOnce', WHERE WHAT IT READS IS OF BULK AT MOST 1048576: true; the input reads as it did. -/
def arcOnceUptoRow : OpenClaim := { program := "ytebjbkpgicbgeaa", sum := "453ca984d4e408a03a02135bcb36f4431c8f6a499f246685b918ec63a7ee50d6", func := "hawthorn/hawthornlaw07.ArcOnce", spec := "arcOnce", apart := false, narrowed := true }
def ArcOnceUptoSaid : Prop := arcOnceUptoRow.holds Try.pinned (OpenSpec.upto arcOnceSpec)

/-- 'hawthornlaw07.ArcBounds', WHERE WHAT IT READS IS OF BULK AT MOST 1048576: true; the input reads as it did. -/
def arcBoundsUptoRow : OpenClaim := { program := "ytebjbkpgicbgeaa", sum := "453ca984d4e408a03a02135bcb36f4431c8f6a499f246685b918ec63a7ee50d6", func := "hawthorn/hawthornlaw07.ArcBounds", spec := "arcBounds", unfollowed := true, recurses := true, apart := false, narrowed := true }
def ArcBoundsUptoSaid : Prop := arcBoundsUptoRow.holds Try.pinned (OpenSpec.upto arcBoundsSpec)

/-- 'hawthornlaw07.ArcNone', WHERE WHAT IT READS IS OF BULK AT MOST 1048576: true; the input reads as it did. -/
def arcNoneUptoRow : OpenClaim := { program := "ytebjbkpgicbgeaa", sum := "453ca984d4e408a03a02135bcb36f4431c8f6a499f246685b918ec63a7ee50d6", func := "hawthorn/hawthornlaw07.ArcNone", spec := "arcNone", inPlace := ["internal/abi.NoEscape"], unfollowed := true, recurses := true, apart := false, narrowed := true }
def ArcNoneUptoSaid : Prop := arcNoneUptoRow.holds Try.pinned (OpenSpec.upto arcNoneSpec)

/-- 'hawthornlaw07.ArcPlays', WHERE WHAT IT READS IS OF BULK AT MOST 1048576: true; the input reads as it did. -/
def arcPlaysUptoRow : OpenClaim := { program := "ytebjbkpgicbgeaa", sum := "453ca984d4e408a03a02135bcb36f4431c8f6a499f246685b918ec63a7ee50d6", func := "hawthorn/hawthornlaw07.ArcPlays", spec := "arcPlays", inPlace := ["internal/abi.NoEscape"], unfollowed := true, recurses := true, apart := false, narrowed := true }
def ArcPlaysUptoSaid : Prop := arcPlaysUptoRow.holds Try.pinned (OpenSpec.upto arcPlaysSpec)

end Rows
end Go.Proofs.Ytebjbkpgicbgeaa
