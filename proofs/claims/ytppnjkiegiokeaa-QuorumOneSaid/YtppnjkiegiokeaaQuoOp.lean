/-
  Layer 17 (quorum): views and answers that came in, by value.
-/
import Derived.ProofKit
import Derived.OpenShut
import Derived.Test.YtppnjkiegiokeaaQuoW
namespace Go.Proofs.Ytppnjkiegiokeaa.QuoOp
set_option linter.unusedVariables false
set_option linter.unusedSimpArgs false
open Go.ChangeShapes Go.WideShapes Go.ChangeAt Go.RowKit Go.Proofs.Ytppnjkiegiokeaa.QuoW

theorem c_bool : Try.prog.cellsOf 4 = 1 := by kernel_rfl
theorem c_int : Try.prog.cellsOf 3 = 1 := by kernel_rfl
theorem c_u64 : Try.prog.cellsOf 23 = 1 := by kernel_rfl
theorem c_view : Try.prog.cellsOf 29 = 6 := by kernel_rfl
theorem c_prom : Try.prog.cellsOf 37 = 16 := by kernel_rfl

theorem len6 {α : Type} {l : List α} (h : l.length = 6) : ∃ a b c d e f, l = [a, b, c, d, e, f] := by
  match l, h with
  | [a, b, c, d, e, f], _ => exact ⟨a, b, c, d, e, f, rfl⟩

section
variable {H : Type} {enc : TypeId × Value → H} {W : World} {base b0 : Nat} {spare : Nat → Bool} {held : Bool} {r : Reach} {v : Value} {d : DataW H} {p : List MemPlace}

theorem wf_u64 {a : Int} (h : (Lit.int .u64 a).wf = true) : 0 ≤ a ∧ a ≤ 18446744073709551615 := Go.bounds_u64 h

theorem vw_trod {n : Nat} {cs : List Value} {x : DataW H × List MemPlace} (h : DataW.trod enc Try.prog W base spare held n 29 cs = some x) :
    ∃ y : Vw, cs = y.cells ∧ 0 ≤ y.v ∧ y.v ≤ 18446744073709551615 := by
  obtain ⟨xs, m, _, _, hl, hlen, hg⟩ := DataW.trod_struct Try.underlying29 h
  rw [c_view] at hl
  obtain ⟨c0, c1, c2, c3, c4, c5, rfl⟩ := len6 hl
  have hlen' : xs.length = 6 := hlen
  have g0 := hg 0
  have g1 := hg 1
  have g2 := hg 2
  have g3 := hg 3
  have g4 := hg 4
  have g5 := hg 5
  simp [c_int, c_u64] at g0 g1 g2 g3 g4 g5
  rw [List.getElem?_eq_getElem (by omega)] at g0 g1 g2 g3 g4 g5
  obtain ⟨a0, e0, _, w0⟩ := DataW.trod_int Try.underlying23 g0
  obtain ⟨a1, e1, _, w1⟩ := DataW.trod_int Try.underlying3 g1
  obtain ⟨a2, e2, _, w2⟩ := DataW.trod_int Try.underlying23 g2
  obtain ⟨a3, e3, _, w3⟩ := DataW.trod_int Try.underlying3 g3
  obtain ⟨a4, e4, _, w4⟩ := DataW.trod_int Try.underlying23 g4
  obtain ⟨a5, e5, _, w5⟩ := DataW.trod_int Try.underlying23 g5
  simp only [List.cons.injEq, and_true] at e0 e1 e2 e3 e4 e5
  subst e0 e1 e2 e3 e4 e5
  exact ⟨⟨a0, a1, a2, a3, a4, a5⟩, rfl, wf_u64 w0⟩

theorem vw_open (hv : Value.okWide Try.prog W r b0 29 v) (h : DataW.Trod enc Try.prog W base spare held 29 v d p) :
    ∃ a : Vw, v = a.agg ∧ 0 ≤ a.v ∧ a.v ≤ 18446744073709551615 := by
  obtain ⟨cs, rfl, hsz⟩ := okWide_struct Try.underlying29 hv
  obtain ⟨fuel, hf⟩ := h
  obtain ⟨y, hy, h2⟩ := vw_trod hf
  refine ⟨y, ?_, h2⟩
  simp only [Value.cells] at hy
  unfold Vw.agg
  congr 1
  apply Array.ext'
  rw [hy]; rfl

theorem pr_open (hv : Value.okWide Try.prog W r b0 37 v) (h : DataW.Trod enc Try.prog W base spare held 37 v d p) :
    ∃ a : Pr, v = a.agg := by
  obtain ⟨cs, rfl, hsz⟩ := okWide_struct Try.underlying37 hv
  obtain ⟨l⟩ := cs
  have hl : l.length = 16 := hsz.trans c_prom
  obtain ⟨fuel, hf⟩ := h
  obtain ⟨xs, n, _, hx, _, hlen, hg⟩ := DataW.trod_struct Try.underlying37 hf
  have hlen' : xs.length = 6 := hlen
  have g0 := hg 0
  have g1 := hg 1
  have g2 := hg 2
  have g3 := hg 3
  have g4 := hg 4
  have g5 := hg 5
  simp [c_bool, c_u64, c_view, Value.cells] at g0 g1 g2 g3 g4 g5
  rw [List.getElem?_eq_getElem (by omega)] at g0 g1 g2 g3 g4 g5
  obtain ⟨a0, e0, _⟩ := DataW.trod_bool Try.underlying4 g0
  obtain ⟨a1, e1, _, w1⟩ := DataW.trod_int Try.underlying23 g1
  obtain ⟨a2, e2, _, w2⟩ := DataW.trod_int Try.underlying23 g2
  obtain ⟨a3, e3, _, w3⟩ := DataW.trod_int Try.underlying23 g3
  obtain ⟨y, e4, _⟩ := vw_trod g4
  obtain ⟨z, e5, _⟩ := vw_trod g5
  refine ⟨⟨a0, a1, a2, a3, y, z⟩, ?_⟩
  have hsplit : l = l.take 1 ++ ((l.drop 1).take 1 ++ ((l.drop 2).take 1 ++ ((l.drop 3).take 1 ++ ((l.drop 4).take 6 ++ (l.drop 10).take 6)))) := by
    apply List.ext_getElem?
    intro i
    rcases Nat.lt_or_ge i 16 with hi | hi
    · match l, hl with
      | [x0, x1, x2, x3, x4, x5, x6, x7, x8, x9, x10, x11, x12, x13, x14, x15], _ => rfl
    · match l, hl with
      | [x0, x1, x2, x3, x4, x5, x6, x7, x8, x9, x10, x11, x12, x13, x14, x15], _ => rfl
  have e0' : l.take 1 = [.bool a0] := by first | exact e0 | simpa using e0
  have e1' : (l.drop 1).take 1 = [.int .u64 a1] := by first | exact e1 | simpa using e1
  rw [e0', e1', e2, e3, e4, e5] at hsplit
  unfold Pr.agg
  congr 1
  apply Array.ext'
  rw [hsplit]; rfl
end

end Go.Proofs.Ytppnjkiegiokeaa.QuoOp
