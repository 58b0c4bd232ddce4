/-
  Layer 17 (quorum): QuorumOne: what comes in; the rows of cells and proposers, as they are made.
-/
import Derived.Test.YtppnjkiegiokeaaQuoF
import Derived.Test.YtppnjkiegiokeaaOpen
import Derived.Test.YtppnjkiegiokeaaQuoOp
namespace Go.Proofs.Ytppnjkiegiokeaa.QuoH
set_option linter.unusedVariables false
set_option linter.unusedSimpArgs false
set_option maxRecDepth 100000
open Go.RowKit Go.Proofs.Ytppnjkiegiokeaa.Mem Go.Proofs.Ytppnjkiegiokeaa.QuoW Go.Proofs.Ytppnjkiegiokeaa.QuoV Go.Proofs.Ytppnjkiegiokeaa.QuoU Go.Proofs.Ytppnjkiegiokeaa.QuoR Go.Proofs.Ytppnjkiegiokeaa.QuoS Go.Proofs.Ytppnjkiegiokeaa.QuoX Go.Proofs.Ytppnjkiegiokeaa.QuoC Go.Proofs.Ytppnjkiegiokeaa.QuoF Go.Proofs.Ytppnjkiegiokeaa.Open

structure Do where
  kind : Int
  who : Int
  arb : Int
def Do.cells (x : Do) : List Value := [.int .i64 x.kind, .int .i64 x.who, .int .i64 x.arb]
def Dos (W : World) (v : Value) (l : List Do) : Prop := Reads W 3 v (l.map Do.cells) ∧ ∀ x ∈ l, (Lit.int .i64 x.arb).wf = true
theorem c_act : Try.prog.cellsOf 52 = 3 := by kernel_rfl
theorem c_liv : Try.prog.cellsOf 43 = 2 := by kernel_rfl
theorem dos_open {H : Type} {enc : TypeId × Value → H} {W : World} {base b0 : Nat} {spare : Nat → Bool} {held : Bool} {r : Reach} {v : Value} {d : DataW H} {p : List MemPlace}
    (hv : Value.okWide Try.prog W r b0 42 v) (h : DataW.Trod enc Try.prog W base spare held 42 v d p) : ∃ l : List Do, Dos W v l := by
  obtain ⟨els, h1, h2⟩ := slice_open Try.underlying42 (by rw [c_act]; omega) hv h
  rw [c_act] at h1
  obtain ⟨l, rfl, hl⟩ := els_map_of (f := Do.cells) (q := fun x => (Lit.int .i64 x.arb).wf = true) (els := els) (fun cs hcs => by
    obtain ⟨hlen, n, x, hx⟩ := h2 cs hcs
    rw [c_act] at hlen
    obtain ⟨xs, m, _, _, _, hxl, hg⟩ := DataW.trod_struct Try.underlying52 hx
    have hxl' : xs.length = 3 := hxl
    match cs, hlen with
    | [c0, c1, c2], _ =>
      have g0 := hg 0
      have g1 := hg 1
      have g2 := hg 2
      simp [QuoOp.c_int] at g0 g1 g2
      rw [List.getElem?_eq_getElem (by omega)] at g0 g1 g2
      obtain ⟨a, e0, _, w0⟩ := DataW.trod_int Try.underlying3 g0
      obtain ⟨b, e1, _, w1⟩ := DataW.trod_int Try.underlying3 g1
      obtain ⟨c, e2, _, w2⟩ := DataW.trod_int Try.underlying3 g2
      simp only [List.cons.injEq, and_true] at e0 e1 e2
      subst e0 e1 e2
      exact ⟨⟨a, b, c⟩, rfl, w2⟩)
  exact ⟨l, h1, hl⟩
theorem dos_form {W : World} {v : Value} {l : List Do} (h : Dos W v l) :
    ∃ ao cap, v = .slice ao l.length cap ∧ l.length ≤ 9223372036854775807 ∧ (l = [] ∨ ∃ g off, ao = some ⟨g, off, none⟩ ∧ g < W.heap.size ∧ ∀ (i : Nat) (x : Do), l[i]? = some x → W.cell? ⟨g, off + i * 3, none⟩ = some (.int .i64 x.kind) ∧ W.cell? ⟨g, off + i * 3 + 1, none⟩ = some (.int .i64 x.who) ∧ W.cell? ⟨g, off + i * 3 + 2, none⟩ = some (.int .i64 x.arb)) := by
  obtain ⟨⟨ao, cap, h1, h2, h3, h4⟩, h5⟩ := h
  rw [List.length_map] at h1 h2
  refine ⟨ao, cap, h1, h2, ?_⟩
  rcases h4 with h4 | ⟨g, off, h6, h7, h8⟩
  · exact .inl (by simpa using h4)
  · refine .inr ⟨g, off, h6, h7, fun i x hx => ?_⟩
    have e : (l.map Do.cells)[i]? = some x.cells := by rw [List.getElem?_map, hx]; rfl
    exact ⟨h8 i _ e 0 _ rfl, h8 i _ e 1 _ rfl, h8 i _ e 2 _ rfl⟩
theorem lives_open {H : Type} {enc : TypeId × Value → H} {W : World} {base b0 : Nat} {spare : Nat → Bool} {held : Bool} {r : Reach} {v : Value} {d : DataW H} {p : List MemPlace}
    (hv : Value.okWide Try.prog W r b0 43 v) (h : DataW.Trod enc Try.prog W base spare held 43 v d p) : ∃ a b : Int, v = .agg #[.int .u64 a, .int .u64 b] := by
  simp only [Value.okWide, Try.underlying43] at hv
  obtain ⟨cs, rfl, hsz, _⟩ := hv
  obtain ⟨l⟩ := cs
  have hl : l.length = 2 := hsz.trans c_liv
  obtain ⟨fuel, hf⟩ := h
  obtain ⟨xs, n, _, hx, _, hlen, hg⟩ := DataW.trod_array Try.underlying43 hf
  match l, hl with
  | [c0, c1], _ =>
    have g0 := hg 0 (by omega)
    have g1 := hg 1 (by omega)
    simp [QuoOp.c_u64, Value.cells] at g0 g1
    rw [List.getElem?_eq_getElem (by omega)] at g0 g1
    obtain ⟨a, e0, _, w0⟩ := DataW.trod_int Try.underlying23 g0
    obtain ⟨b, e1, _, w1⟩ := DataW.trod_int Try.underlying23 g1
    simp only [List.cons.injEq, and_true] at e0 e1
    subst e0 e1
    exact ⟨a, b, rfl⟩

/-- The cells that are made so far. -/
def ptr (b : Nat) : Value := .pointer (some ⟨b, 0, none⟩)
def cRow (cb : Nat → Nat) (i : Nat) : Array Value := #[if 0 < i then ptr (cb 0) else .pointer none, if 1 < i then ptr (cb 1) else .pointer none, if 2 < i then ptr (cb 2) else .pointer none]
theorem cRow_put (cb : Nat → Nat) (i b : Nat) (hi : i < 3) : (cRow cb i).setIfInBounds i (ptr b) = cRow (upd cb i b) (i + 1) := by
  rcases (show i = 0 ∨ i = 1 ∨ i = 2 from by omega) with rfl | rfl | rfl <;> simp [cRow, upd]
structure Cs (w wr : World) (XC i : Nat) (cb : Nat → Nat) : Prop where
  xc : wr.heap[XC]? = some (.cells (cRow cb i) 45 (0, 0))
  ca : ∀ a, a < i → CAt wr (cb a) ⟨0, 0, zeroV⟩ ∧ XC < cb a ∧ cb a < wr.heap.size
  n : ∀ a a', a < i → a' < i → cb a = cb a' → a = a'
  h : w.heap.size ≤ XC
  k : Keep (fun _ => False) w wr
theorem Cs.keep0 {w wr w2 : World} {XC i : Nat} {cb : Nat → Nat} (h : Cs w wr XC i cb) (k : Keep (fun _ => False) wr w2) : Cs w w2 XC i cb :=
  ⟨(k.block _ (lt_of_block h.xc) (fun e => e)).trans h.xc, fun a ha => ⟨(h.ca a ha).1.keep k (fun e => e), (h.ca a ha).2.1, Nat.lt_of_lt_of_le (h.ca a ha).2.2 k.size⟩, h.n, h.h, h.k.trans k⟩
theorem Cs.put {w wr w2 : World} {XC i b : Nat} {cb : Nat → Nat} (h : Cs w wr XC i cb) (hi : i < 3) (k : Keep (fun _ => False) wr w2) (hb : wr.heap.size ≤ b) (hc : CAt w2 b ⟨0, 0, zeroV⟩) : Cs w (w2.setCell ⟨XC, i, none⟩ (ptr b)) XC (i + 1) (upd cb i b) := by
  have kx : Keep (fun j => j = XC) w2 (w2.setCell ⟨XC, i, none⟩ (ptr b)) := (Keep.refl _ _).set1 _ _
  have hx := lt_of_block h.xc
  refine ⟨?_, fun a ha => ?_, fun a a' ha ha' e => ?_, h.h, (h.k.trans k).then kx (fun j e => by have := h.h; omega)⟩
  · have := block_set ((k.block _ (lt_of_block h.xc) (fun e => e)).trans h.xc) i (ptr b)
    rw [cRow_put _ _ _ hi] at this
    exact this
  · by_cases e : a = i
    · subst e
      rw [upd_same]
      exact ⟨hc.keep kx (by show ¬ b = XC; omega), by omega, Nat.lt_of_lt_of_le (lt_of_block hc) kx.size⟩
    · rw [upd_ne _ _ e]
      obtain ⟨h1, h2, h3⟩ := h.ca a (by omega)
      exact ⟨(h1.keep k (fun e => e)).keep kx (by show ¬ cb a = XC; omega), h2, Nat.lt_of_lt_of_le (Nat.lt_of_lt_of_le h3 k.size) kx.size⟩
  · by_cases e1 : a = i <;> by_cases e2 : a' = i
    · omega
    · subst e1
      rw [upd_same, upd_ne _ _ e2] at e
      have := (h.ca a' (by omega)).2.2
      omega
    · subst e2
      rw [upd_same, upd_ne _ _ e1] at e
      have := (h.ca a (by omega)).2.2
      omega
    · rw [upd_ne _ _ e1, upd_ne _ _ e2] at e
      exact h.n a a' (by omega) (by omega) e

/-- The four that are made so far. -/
def ARow (cur : Array Value) (i : Nat) (pb : Nat → Nat) : Prop := cur.size = 84 ∧ ∀ q, q < 4 → ∀ j, j < 21 → cur[q * 21 + j]? = if j = 0 then some (if q < i then ptr (pb q) else .pointer none) else (One.row 0 zeroO)[j]?
theorem ARow.put {cur : Array Value} {i b : Nat} {pb : Nat → Nat} (h : ARow cur i pb) (hi : i < 4) : ARow (cur.setIfInBounds (i * 21) (ptr b)) (i + 1) (upd pb i b) := by
  refine ⟨by simp [h.1], fun q hq j hj => ?_⟩
  rw [Array.getElem?_setIfInBounds]
  by_cases e : i * 21 = q * 21 + j
  · have e1 : q = i := by omega
    have e2 : j = 0 := by omega
    subst e1 e2
    rw [if_pos (by omega), if_pos (by rw [h.1]; omega), if_pos rfl, if_pos (by omega), upd_same]
  · rw [if_neg e, h.2 q hq j hj]
    by_cases e2 : j = 0
    · subst e2
      rw [if_pos rfl, if_pos rfl]
      have e3 : q ≠ i := by omega
      rw [upd_ne _ _ e3]
      by_cases e4 : q < i
      · rw [if_pos e4, if_pos (by omega)]
      · rw [if_neg e4, if_neg (by omega)]
    · rw [if_neg e2, if_neg e2]
theorem ARow.all {cur : Array Value} {pb : Nat → Nat} (h : ARow cur 4 pb) : cur = allRow pb (fun _ => zeroO) := by
  apply Array.ext_getElem?
  intro j
  by_cases hj : j < 84
  · obtain ⟨q', j', rfl, hq', hj'⟩ : ∃ q' j', j = q' * 21 + j' ∧ q' < 4 ∧ j' < 21 := ⟨j / 21, j % 21, by omega, by omega, by omega⟩
    rw [h.2 q' hq' j' hj', allRow_at pb _ q' hq' j' hj']
    by_cases e : j' = 0
    · subst e; rw [if_pos rfl, if_pos hq']; rfl
    · rw [if_neg e]
      obtain ⟨j2, rfl⟩ : ∃ j2, j' = j2 + 1 := ⟨j' - 1, by omega⟩
      simp [One.row]
  · rw [Array.getElem?_eq_none (by have := h.1; omega), Array.getElem?_eq_none (by rw [allRow_size]; omega)]

end Go.Proofs.Ytppnjkiegiokeaa.QuoH
