/-
  Memory in blocks, more: steps that change one block.
-/
import Derived.Test.YtppnjkiegiokeaaMem
import Derived.Below
namespace Go.Proofs.Ytppnjkiegiokeaa.Mem
set_option linter.unusedVariables false
open Go Go.RowKit
theorem Keep.set1 {b : Nat} {a w : World} (h : Keep (fun k => k = b) a w) (i : Nat) (u : Value) : Keep (fun k => k = b) a (w.setCell ⟨b, i, none⟩ u) := Keep.setCell (S := fun k => k = b) h (.inl rfl) u
theorem Keep.to1 {b : Nat} {a w : World} (h : Keep (fun _ => False) a w) : Keep (fun k => k = b) a w := h.mono (fun _ _ e => e.elim)
theorem Keep.toAny {S : Nat → Prop} {a w : World} (h : Keep (fun _ => False) a w) : Keep S a w := h.mono (fun _ _ e => e.elim)
theorem Keep.below0 {a w : World} (h : Keep (fun _ => False) a w) : Below a.heap.size a w := h.below (Nat.le_refl _) (fun _ e => e.elim)
theorem Keep.of0 {a w : World} (h : Below a.heap.size a w) : Keep (fun _ => False) a w := Keep.of_below h _
/-- What changed were new blocks alone. -/
theorem Keep.new0 {S : Nat → Prop} {a w : World} (h : Keep S a w) (hs : ∀ k, k < a.heap.size → ¬ S k) : Keep (fun _ => False) a w := h.mono (fun k hk e => (hs k hk e).elim)
theorem Keep.then {S : Nat → Prop} {a b c : World} (h : Keep (fun _ => False) a b) (k : Keep S b c) (hs : ∀ i, S i → a.heap.size ≤ i) : Keep (fun _ => False) a c :=
  h.trans' k (fun i hi e => by have := hs i e; omega)
end Go.Proofs.Ytppnjkiegiokeaa.Mem
