/-
  Slices that came in, of elements of so many cells each: what is read of them.
-/
import Derived.ProofKit
import Derived.OpenShut
import Derived.Deep.Slices
import Derived.Test.YtppnjkiegiokeaaMem
namespace Go.Proofs.Ytppnjkiegiokeaa.Open
set_option linter.unusedVariables false
set_option linter.unusedSimpArgs false
open Go.ChangeShapes Go.WideShapes Go.ChangeAt Go.RowKit Go.Proofs.Ytppnjkiegiokeaa.Mem

/-- A slice of elements of sz cells each. -/
def Reads (W : World) (sz : Nat) (v : Value) (els : List (List Value)) : Prop :=
  ∃ ao cap, v = .slice ao els.length cap ∧ els.length ≤ 9223372036854775807 ∧ (∀ cs ∈ els, cs.length = sz) ∧
    (els = [] ∨ ∃ g off, ao = some ⟨g, off, none⟩ ∧ g < W.heap.size ∧ ∀ i cs, els[i]? = some cs → ∀ j x, cs[j]? = some x → W.cell? ⟨g, off + i * sz + j, none⟩ = some x)

theorem Reads.below {W W' : World} {sz : Nat} {v : Value} {els : List (List Value)} (h : Reads W sz v els) (k : Below W.heap.size W W') : Reads W' sz v els := by
  obtain ⟨ao, cap, h1, h2, h3, h4⟩ := h
  refine ⟨ao, cap, h1, h2, h3, ?_⟩
  rcases h4 with h4 | ⟨g, off, h5, h6, h7⟩
  · exact .inl h4
  · refine .inr ⟨g, off, h5, Nat.lt_of_lt_of_le h6 k.size, fun i cs hi j x hj => ?_⟩
    rw [k.cell (p := ⟨g, _, none⟩) h6]
    exact h7 i cs hi j x hj

theorem cell_add {W : World} {g off sz i j n : Nat} {spot : Option Nat} {cs : List Value} (hspot : spot = none) (hj : j < sz) (hx : ∀ i, i < n → W.cell? ((⟨g, off, spot⟩ : Addr).add i) = cs[i]?) (hjn : j < n) : W.cell? ⟨g, off + j, none⟩ = cs[j]? := by
  subst hspot
  have := hx j hjn
  unfold Addr.add at this
  split at this
  · rename_i h0; subst h0; exact this
  · exact this

section
variable {H : Type} {enc : TypeId × Value → H} {W : World} {base b0 : Nat} {spare : Nat → Bool} {held : Bool} {r : Reach} {v : Value} {d : DataW H} {p : List MemPlace} {P : Program}

theorem slice_open {t e : TypeId} (ht : P.underlying t = some (.slice e)) (hpos : 0 < P.cellsOf e) (hv : Value.okWide P W r b0 t v) (h : DataW.Trod enc P W base spare held t v d p) :
    ∃ els : List (List Value), Reads W (P.cellsOf e) v els ∧ ∀ cs ∈ els, cs.length = P.cellsOf e ∧ ∃ n x, DataW.trod enc P W base spare held n e cs = some x := by
  obtain ⟨a0, len, cap, rfl⟩ := okWide_slice ht hv
  obtain ⟨fuel, hf⟩ := h
  rcases Go.Deep.open_slice ht hf with ⟨hcs, hx⟩ | ⟨a, len', cap', m, n, D, Pl, hcs, hb, hl, hm, hmm, hx, hel⟩
  · simp [Value.cells] at hcs
    obtain ⟨rfl, rfl, rfl⟩ := hcs
    exact ⟨[], ⟨none, 0, rfl, by simp, by simp, .inl rfl⟩, by simp⟩
  · simp [Value.cells] at hcs
    obtain ⟨rfl, rfl, rfl⟩ := hcs
    have hle : len ≤ m := by subst hmm; split <;> omega
    obtain ⟨V, hV⟩ := Go.Deep.choose_lt (α := List Value) (p := fun i cs' => W.cells? base (a.add (i * P.cellsOf e)) (P.cellsOf e) = some cs' ∧ DataW.trod enc P W base spare held n e cs' = some (D i, Pl i)) hel
    have hlen : ∀ i, i < len → (V i).length = P.cellsOf e := fun i hi => (World.cells?_some (hV i (by omega)).1).2.1
    refine ⟨(List.range len).map V, ⟨some a, cap, by simp, by simp; unfold maxLen at hm; omega, ?_, ?_⟩, ?_⟩
    · intro cs hcs
      obtain ⟨i, hi, rfl⟩ := List.mem_map.1 hcs
      exact hlen i (List.mem_range.1 hi)
    · rcases Nat.eq_zero_or_pos len with h0 | h0
      · subst h0; exact .inl rfl
      · right
        obtain ⟨g, off, spot⟩ := a
        have h00 := (World.cells?_some (hV 0 (by omega)).1).2.2 0 hpos
        have hL := hlen 0 h0
        rw [List.getElem?_eq_getElem (by omega)] at h00
        have hspot : spot = none := by simpa [Addr.add] using World.cell?_spot h00
        subst hspot
        refine ⟨g, off, rfl, ?_, ?_⟩
        · exact World.block_lt_of_cell? W ⟨g, off, none⟩ (by simpa [Addr.add] using h00)
        · intro i cs hi j x hj
          rw [List.getElem?_map] at hi
          obtain ⟨i', hi', rfl⟩ := Option.map_eq_some_iff.1 hi
          have hi2 : i' = i ∧ i < len := by
            rw [List.getElem?_eq_some_iff] at hi'
            obtain ⟨q, hq⟩ := hi'
            simp at hq q
            omega
          obtain ⟨rfl, hil⟩ := hi2
          have hlj : j < P.cellsOf e := by
            rw [← hlen i' hil]
            exact (List.getElem?_eq_some_iff.1 hj).1
          have := (World.cells?_some (hV i' (by omega)).1).2.2 j hlj
          rw [← hj, ← this]
          unfold Addr.add
          by_cases z1 : i' * P.cellsOf e = 0 <;> by_cases z2 : j = 0 <;> simp [z1, z2]
    · intro cs hcs
      obtain ⟨i, hi, rfl⟩ := List.mem_map.1 hcs
      exact ⟨hlen i (List.mem_range.1 hi), n, _, (hV i (by have := List.mem_range.1 hi; omega)).2⟩

/-- Elements that are each of one kind. -/
theorem els_map {α : Type} {f : α → List Value} {els : List (List Value)} (h : ∀ cs ∈ els, ∃ a, cs = f a) : ∃ as : List α, els = as.map f := by
  induction els with
  | nil => exact ⟨[], rfl⟩
  | cons c els ih =>
    obtain ⟨a, rfl⟩ := h c (by simp)
    obtain ⟨as, rfl⟩ := ih (fun cs hcs => h cs (List.mem_cons_of_mem _ hcs))
    exact ⟨a :: as, rfl⟩
theorem els_map_of {α : Type} {f : α → List Value} {q : α → Prop} {els : List (List Value)} (h : ∀ cs ∈ els, ∃ a, cs = f a ∧ q a) : ∃ as : List α, els = as.map f ∧ ∀ a ∈ as, q a := by
  induction els with
  | nil => exact ⟨[], rfl, by simp⟩
  | cons c els ih =>
    obtain ⟨a, rfl, ha⟩ := h c (by simp)
    obtain ⟨as, rfl, has⟩ := ih (fun cs hcs => h cs (List.mem_cons_of_mem _ hcs))
    exact ⟨a :: as, rfl, by simpa using ⟨ha, has⟩⟩

/-- Whole numbers of a kind. -/
def Ints (W : World) (k : IntKind) (v : Value) (zs : List Int) : Prop := Reads W 1 v (zs.map fun z => [.int k z]) ∧ ∀ z ∈ zs, (Lit.int k z).wf = true
theorem ints_open {t e : TypeId} {k : IntKind} (ht : P.underlying t = some (.slice e)) (he : P.underlying e = some (.int k)) (hc : P.cellsOf e = 1) (hv : Value.okWide P W r b0 t v) (h : DataW.Trod enc P W base spare held t v d p) :
    ∃ zs : List Int, Ints W k v zs := by
  obtain ⟨els, h1, h2⟩ := slice_open ht (by omega) hv h
  rw [hc] at h1
  obtain ⟨zs, rfl, hz⟩ := els_map_of (f := fun z => [Value.int k z]) (q := fun z => (Lit.int k z).wf = true) (els := els) (fun cs hcs => by
    obtain ⟨_, n, x, hx⟩ := h2 cs hcs
    obtain ⟨a, e0, _, w0⟩ := DataW.trod_int he hx
    exact ⟨a, e0, w0⟩)
  exact ⟨zs, h1, hz⟩
def Bools (W : World) (v : Value) (zs : List Bool) : Prop := Reads W 1 v (zs.map fun z => [.bool z])
theorem bools_open {t e : TypeId} (ht : P.underlying t = some (.slice e)) (he : P.underlying e = some .bool) (hc : P.cellsOf e = 1) (hv : Value.okWide P W r b0 t v) (h : DataW.Trod enc P W base spare held t v d p) :
    ∃ zs : List Bool, Bools W v zs := by
  obtain ⟨els, h1, h2⟩ := slice_open ht (by omega) hv h
  rw [hc] at h1
  obtain ⟨zs, rfl⟩ := els_map (f := fun z => [Value.bool z]) (els := els) (fun cs hcs => by
    obtain ⟨_, n, x, hx⟩ := h2 cs hcs
    obtain ⟨a, e0, _⟩ := DataW.trod_bool he hx
    exact ⟨a, e0⟩)
  exact ⟨zs, h1⟩
def Texts (W : World) (v : Value) (zs : List ByteArray) : Prop := Reads W 1 v (zs.map fun z => [.string z]) ∧ ∀ z ∈ zs, z.size ≤ 9223372036854775807
theorem texts_open {t e : TypeId} (ht : P.underlying t = some (.slice e)) (he : P.underlying e = some .string) (hc : P.cellsOf e = 1) (hv : Value.okWide P W r b0 t v) (h : DataW.Trod enc P W base spare held t v d p) :
    ∃ zs : List ByteArray, Texts W v zs := by
  obtain ⟨els, h1, h2⟩ := slice_open ht (by omega) hv h
  rw [hc] at h1
  obtain ⟨zs, rfl, hz⟩ := els_map_of (f := fun z => [Value.string z]) (q := fun z => z.size ≤ 9223372036854775807) (els := els) (fun cs hcs => by
    obtain ⟨_, n, x, hx⟩ := h2 cs hcs
    obtain ⟨a, e0, _, w0⟩ := DataW.trod_string he hx
    exact ⟨a, e0, by unfold maxLen at w0; omega⟩)
  exact ⟨zs, h1, hz⟩

theorem Ints.below {W W' : World} {k : IntKind} {v : Value} {zs : List Int} (h : Ints W k v zs) (hk : Below W.heap.size W W') : Ints W' k v zs := ⟨h.1.below hk, h.2⟩
theorem Ints.form {W : World} {k : IntKind} {v : Value} {zs : List Int} (h : Ints W k v zs) :
    ∃ ao cap, v = .slice ao zs.length cap ∧ zs.length ≤ 9223372036854775807 ∧ (zs = [] ∨ ∃ g off, ao = some ⟨g, off, none⟩ ∧ g < W.heap.size ∧ ∀ (i : Nat) (z : Int), zs[i]? = some z → W.cell? ⟨g, off + i, none⟩ = some (.int k z)) := by
  obtain ⟨⟨ao, cap, h1, h2, h3, h4⟩, h5⟩ := h
  rw [List.length_map] at h1 h2
  refine ⟨ao, cap, h1, h2, ?_⟩
  rcases h4 with h4 | ⟨g, off, h6, h7, h8⟩
  · exact .inl (by simpa using h4)
  · refine .inr ⟨g, off, h6, h7, fun i z hz => ?_⟩
    have := h8 i [.int k z] (by rw [List.getElem?_map, hz]; rfl) 0 (.int k z) rfl
    simpa using this
end

end Go.Proofs.Ytppnjkiegiokeaa.Open
