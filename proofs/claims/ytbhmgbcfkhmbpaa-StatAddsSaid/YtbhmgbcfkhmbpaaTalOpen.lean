/-
  A tally that came in, by value: what it is.
-/
import Derived.ProofKit
import Derived.OpenShut
import Derived.Test.YtbhmgbcfkhmbpaaStatW
namespace Go.Proofs.Ytbhmgbcfkhmbpaa.TalOpen
set_option linter.unusedVariables false
set_option linter.unusedSimpArgs false
open Go.ChangeShapes Go.WideShapes Go.ChangeAt Go.RowKit

theorem len2 {α : Type} {l : List α} (h : l.length = 2) : ∃ a b, l = [a, b] := by
  match l, h with
  | [a, b], _ => exact ⟨a, b, rfl⟩

theorem cells_i64 : Try.prog.cellsOf 2 = 1 := by kernel_rfl
theorem cells_tal : Try.prog.cellsOf 27 = 2 := by kernel_rfl

section
variable {H : Type} {enc : TypeId × Value → H} {W : World} {base b0 : Nat} {spare : Nat → Bool} {held : Bool} {r : Reach} {v : Value} {d : DataW H} {p : List MemPlace}
theorem tal_open (hv : Value.okWide Try.prog W r b0 27 v) (h : DataW.Trod enc Try.prog W base spare held 27 v d p) :
    ∃ a h : Int, v = .agg #[.int .i64 a, .int .i64 h] := by
  obtain ⟨cs, rfl, hsz⟩ := okWide_struct Try.underlying27 hv
  obtain ⟨l⟩ := cs
  have hl : l.length = 2 := hsz.trans cells_tal
  obtain ⟨c0, c1, rfl⟩ := len2 hl
  obtain ⟨fuel, hf⟩ := h
  obtain ⟨xs, n, _, hx, _, hlen, hg⟩ := DataW.trod_struct Try.underlying27 hf
  have hlen' : xs.length = 2 := hlen
  have g0 := hg 0
  have g1 := hg 1
  simp [cells_i64, Value.cells] at g0 g1
  rw [List.getElem?_eq_getElem (by omega)] at g0 g1
  obtain ⟨a, e0, _, w0⟩ := DataW.trod_int Try.underlying2 g0
  obtain ⟨h, e1, _, w1⟩ := DataW.trod_int Try.underlying2 g1
  simp only [List.cons.injEq, and_true] at e0 e1
  subst e0 e1
  exact ⟨a, h, rfl⟩
end

end Go.Proofs.Ytbhmgbcfkhmbpaa.TalOpen
