/-
  A record that came in, by value: what it is.
-/
import Derived.Test.YtiokngcfenfieaaLogW
import Derived.ProofKit
import Derived.OpenShut
namespace Go.Proofs.Ytiokngcfenfieaa.RecOpen
set_option linter.unusedVariables false
set_option linter.unusedSimpArgs false
open Go.ChangeShapes Go.WideShapes Go.ChangeAt Go.RowKit Go.Proofs.Ytiokngcfenfieaa.LogW

theorem len9 {α : Type} {l : List α} (h : l.length = 9) : ∃ a b c d e f g i j, l = [a, b, c, d, e, f, g, i, j] := by
  match l, h with
  | [a, b, c, d, e, f, g, i, j], _ => exact ⟨a, b, c, d, e, f, g, i, j, rfl⟩

theorem cells_u64 : Try.prog.cellsOf 22 = 1 := by kernel_rfl
theorem cells_int : Try.prog.cellsOf 3 = 1 := by kernel_rfl
theorem cells_str : Try.prog.cellsOf 9 = 1 := by kernel_rfl
theorem cells_op : Try.prog.cellsOf 31 = 5 := by kernel_rfl
theorem cells_rec : Try.prog.cellsOf 33 = 9 := by kernel_rfl

section
variable {H : Type} {enc : TypeId × Value → H} {W : World} {base b0 : Nat} {spare : Nat → Bool} {held : Bool} {r : Reach} {v : Value} {d : DataW H} {p : List MemPlace}
theorem rec_open (hv : Value.okWide Try.prog W r b0 33 v) (h : DataW.Trod enc Try.prog W base spare held 33 v d p) :
    ∃ r : Rec, v = r.agg ∧ 0 ≤ r.seq ∧ r.seq ≤ 18446744073709551615 := by
  obtain ⟨cs, rfl, hsz⟩ := okWide_struct Try.underlying33 hv
  obtain ⟨l⟩ := cs
  have hl : l.length = 9 := hsz.trans cells_rec
  obtain ⟨c0, c1, c2, c3, c4, c5, c6, c7, c8, rfl⟩ := len9 hl
  obtain ⟨fuel, hf⟩ := h
  obtain ⟨xs, n, _, hx, _, hlen, hg⟩ := DataW.trod_struct Try.underlying33 hf
  have hlen' : xs.length = 5 := hlen
  have g0 := hg 0
  have g1 := hg 1
  have g2 := hg 2
  have g3 := hg 3
  have g4 := hg 4
  simp [cells_u64, cells_op, Value.cells] at g0 g1 g2 g3 g4
  rw [List.getElem?_eq_getElem (by omega)] at g0 g1 g2 g3 g4
  obtain ⟨seq, e0, _, w0⟩ := DataW.trod_int Try.underlying22 g0
  obtain ⟨now, e1, _, w1⟩ := DataW.trod_int Try.underlying22 g1
  obtain ⟨ses, e2, _, w2⟩ := DataW.trod_int Try.underlying22 g2
  obtain ⟨num, e3, _, w3⟩ := DataW.trod_int Try.underlying22 g3
  obtain ⟨ys, n', _, hy, _, hlen2, hh⟩ := DataW.trod_struct Try.underlying31 g4
  have hlen2' : ys.length = 5 := hlen2
  have k0 := hh 0
  have k1 := hh 1
  have k2 := hh 2
  have k3 := hh 3
  have k4 := hh 4
  simp [cells_u64, cells_int, cells_str] at k0 k1 k2 k3 k4
  rw [List.getElem?_eq_getElem (by omega)] at k0 k1 k2 k3 k4
  obtain ⟨kind, e4, _, _⟩ := DataW.trod_int Try.underlying3 k0
  obtain ⟨key, e5, _, _⟩ := DataW.trod_string Try.underlying9 k1
  obtain ⟨val, e6, _, _⟩ := DataW.trod_string Try.underlying9 k2
  obtain ⟨ttl, e7, _, _⟩ := DataW.trod_int Try.underlying22 k3
  obtain ⟨ver, e8, _, _⟩ := DataW.trod_int Try.underlying22 k4
  simp only [List.cons.injEq, and_true] at e0 e1 e2 e3 e4 e5 e6 e7 e8
  subst e0 e1 e2 e3 e4 e5 e6 e7 e8
  have := bounds_u64 w0
  exact ⟨⟨seq, now, ses, num, kind, key, val, ttl, ver⟩, rfl, this.1, this.2⟩
end

end Go.Proofs.Ytiokngcfenfieaa.RecOpen
