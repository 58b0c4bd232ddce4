/-
  Layer 22 (net): the acts of NetPlays, as they come in.
-/
import Derived.Test.YtdmdegjomikmlaaNetB
import Derived.Test.YtdmdegjomikmlaaNetL
import Derived.Test.YtdmdegjomikmlaaOpen
import Derived.Test.YtdmdegjomikmlaaNetF
import Derived.Test.YtdmdegjomikmlaaNetH
import Derived.Test.YtdmdegjomikmlaaNetU
namespace Go.Proofs.Ytdmdegjomikmlaa.NdA
set_option linter.unusedVariables false
set_option linter.unusedSimpArgs false
set_option maxRecDepth 100000
open Go.RowKit Go.Proofs.Ytdmdegjomikmlaa.Mem Go.Proofs.Ytdmdegjomikmlaa.NetM Go.Proofs.Ytdmdegjomikmlaa.NetW Go.Proofs.Ytdmdegjomikmlaa.NetS Go.Proofs.Ytdmdegjomikmlaa.NetD Go.Proofs.Ytdmdegjomikmlaa.NetT Go.Proofs.Ytdmdegjomikmlaa.NetA Go.Proofs.Ytdmdegjomikmlaa.NetY Go.Proofs.Ytdmdegjomikmlaa.NetZ Go.Proofs.Ytdmdegjomikmlaa.NetO Go.Proofs.Ytdmdegjomikmlaa.NetB Go.Proofs.Ytdmdegjomikmlaa.NetF Go.Proofs.Ytdmdegjomikmlaa.NetH Go.Proofs.Ytdmdegjomikmlaa.NetU Go.Proofs.Ytdmdegjomikmlaa.Open

structure Do where
  kind : Int
  a : Int
  b : Int
  at_ : Int
  bits : Int
  s : ByteArray
def Do.cells (x : Do) : List Value := [.int .i64 x.kind, .int .i64 x.a, .int .i64 x.b, .int .i64 x.at_, .int .i64 x.bits, .string x.s]
def Do.Ok (x : Do) : Prop := (Lit.int .i64 x.a).wf = true ∧ (Lit.int .i64 x.b).wf = true ∧ (Lit.int .i64 x.at_).wf = true ∧ (Lit.int .i64 x.bits).wf = true ∧ x.s.size ≤ 9223372036854775807
def Dos (W : World) (v : Value) (l : List Do) : Prop := Reads W 6 v (l.map Do.cells) ∧ ∀ x ∈ l, x.Ok
theorem c_int : Try.prog.cellsOf 3 = 1 := by kernel_rfl
theorem c_str : Try.prog.cellsOf 9 = 1 := by kernel_rfl
theorem c_act : Try.prog.cellsOf 43 = 6 := by kernel_rfl
theorem dos_open {H : Type} {enc : TypeId × Value → H} {W : World} {base b0 : Nat} {spare : Nat → Bool} {held : Bool} {r : Reach} {v : Value} {d : DataW H} {p : List MemPlace}
    (hv : Value.okWide Try.prog W r b0 36 v) (h : DataW.Trod enc Try.prog W base spare held 36 v d p) : ∃ l : List Do, Dos W v l := by
  obtain ⟨els, h1, h2⟩ := slice_open Try.underlying36 (by rw [c_act]; omega) hv h
  rw [c_act] at h1
  obtain ⟨l, rfl, hl⟩ := els_map_of (f := Do.cells) (q := Do.Ok) (els := els) (fun cs hcs => by
    obtain ⟨hlen, n, x, hx⟩ := h2 cs hcs
    rw [c_act] at hlen
    obtain ⟨xs, m, _, _, _, hxl, hg⟩ := DataW.trod_struct Try.underlying43 hx
    have hxl' : xs.length = 6 := hxl
    match cs, hlen with
    | [c0, c1, c2, c3, c4, c5], _ =>
      have g0 := hg 0
      have g1 := hg 1
      have g2 := hg 2
      have g3 := hg 3
      have g4 := hg 4
      have g5 := hg 5
      simp [c_int, c_str] at g0 g1 g2 g3 g4 g5
      rw [List.getElem?_eq_getElem (by omega)] at g0 g1 g2 g3 g4 g5
      obtain ⟨a0, e0, _, w0⟩ := DataW.trod_int Try.underlying3 g0
      obtain ⟨a1, e1, _, w1⟩ := DataW.trod_int Try.underlying3 g1
      obtain ⟨a2, e2, _, w2⟩ := DataW.trod_int Try.underlying3 g2
      obtain ⟨a3, e3, _, w3⟩ := DataW.trod_int Try.underlying3 g3
      obtain ⟨a4, e4, _, w4⟩ := DataW.trod_int Try.underlying3 g4
      obtain ⟨a5, e5, _, w5⟩ := DataW.trod_string Try.underlying9 g5
      simp only [List.cons.injEq, and_true] at e0 e1 e2 e3 e4 e5
      subst e0 e1 e2 e3 e4 e5
      exact ⟨⟨a0, a1, a2, a3, a4, a5⟩, rfl, w1, w2, w3, w4, by unfold maxLen at w5; omega⟩)
  exact ⟨l, h1, hl⟩
theorem dos_form {W : World} {v : Value} {l : List Do} (h : Dos W v l) :
    ∃ ao cap, v = .slice ao l.length cap ∧ l.length ≤ 9223372036854775807 ∧ (l = [] ∨ ∃ g off, ao = some ⟨g, off, none⟩ ∧ g < W.heap.size ∧ ∀ (i : Nat) (x : Do), l[i]? = some x → ∀ j u, x.cells[j]? = some u → W.cell? ⟨g, off + i * 6 + j, none⟩ = some u) := by
  obtain ⟨⟨ao, cap, h1, h2, h3, h4⟩, h5⟩ := h
  rw [List.length_map] at h1 h2
  refine ⟨ao, cap, h1, h2, ?_⟩
  rcases h4 with h4 | ⟨g, off, h6, h7, h8⟩
  · exact .inl (by simpa using h4)
  · refine .inr ⟨g, off, h6, h7, fun i x hx j u hu => ?_⟩
    have e : (l.map Do.cells)[i]? = some x.cells := by rw [List.getElem?_map, hx]; rfl
    exact h8 i _ e j u hu

/-- The network and the model tell of the same ways. -/
def Same (S : Int → Int → Bool) (cs : List (Int × Int)) : Prop := ∀ a b : Int, S (min a b) (max a b) = offL cs a b
theorem minmax_iff (a b c d : Int) : ((min a b == min c d && max a b == max c d) = true) ↔ ((c = a ∧ d = b) ∨ (c = b ∧ d = a)) := by
  rw [Bool.and_eq_true, beq_iff_eq, beq_iff_eq]
  omega
theorem way_eq (a b c d : Int) : (min a b == min c d && max a b == max c d) = ((c == a && d == b) || (c == b && d == a)) := by
  rw [Bool.eq_iff_iff, minmax_iff, Bool.or_eq_true, Bool.and_eq_true, Bool.and_eq_true, beq_iff_eq, beq_iff_eq, beq_iff_eq, beq_iff_eq]
theorem offL_snoc (cs : List (Int × Int)) (a b c d : Int) : offL (cs ++ [(c, d)]) a b = (offL cs a b || ((c == a && d == b) || (c == b && d == a))) := by
  unfold offL
  rw [List.any_append]
  simp
/-- A way that is cut is cut in both. -/
theorem same_more {S : Int → Int → Bool} {cs : List (Int × Int)} (h : Same S cs) (c d : Int) : Same (more S c d) (cs ++ [(c, d)]) := fun a b => by
  rw [offL_snoc, ← h a b, ← way_eq a b c d]
  rfl
/-- No packet is under way on a way that is cut: those that stay are those that the model keeps. -/
theorem left_eq {cs : List (Int × Int)} {ps : List Pk} (h : ∀ p ∈ ps, offL cs p.fr p.to_ = false) (c d : Int) : left (same c d) ps = ps.filter fun p => !offL (cs ++ [(c, d)]) p.fr p.to_ := by
  unfold left
  refine List.filter_congr fun p hp => ?_
  rw [offL_snoc, h p hp, Bool.false_or, ← way_eq]
  rfl
theorem left_off {cs : List (Int × Int)} {ps : List Pk} : ∀ p ∈ ps.filter (fun p => !offL cs p.fr p.to_), offL cs p.fr p.to_ = false := fun p hp => by
  have := (List.mem_filter.1 hp).2
  simpa using this
/-- One packet more: both say so. -/
theorem stp_eq {S : Int → Int → Bool} {cs : List (Int × Int)} (h : Same S cs) (ps : List Pk) (p : Pk) : snd S ps [p] = if 64 ≤ cnt p.fr p.to_ ps ∨ offL cs p.fr p.to_ = true then (ps, 0) else (ps ++ [p], 1) := by
  show stp S (ps, 0) p = _
  unfold stp
  rw [h p.fr p.to_]
  by_cases h1 : 64 ≤ cnt p.fr p.to_ ps ∨ offL cs p.fr p.to_ = true
  · rw [if_pos h1, if_pos h1.symm]
  · rw [if_neg h1, if_neg (fun e => h1 e.symm)]
theorem same_no : Same no [] := fun a b => rfl

end Go.Proofs.Ytdmdegjomikmlaa.NdA
