/-
  Layer 22 (net): clear of many packets.
-/
import Derived.Test.YtdmdegjomikmlaaNetJ
namespace Go.Proofs.Ytdmdegjomikmlaa.NetE
set_option linter.unusedVariables false
set_option linter.unusedSimpArgs false
open Go.RowKit Go.Proofs.Ytdmdegjomikmlaa.Mem Go.Proofs.Ytdmdegjomikmlaa.NetM Go.Proofs.Ytdmdegjomikmlaa.NetW Go.Proofs.Ytdmdegjomikmlaa.NetS Go.Proofs.Ytdmdegjomikmlaa.NetD

/-- The cells of k packets of nothing. -/
def zeros (k : Nat) : List Value := (Builtin.zeroCells zeroPk.toArray k).toList
theorem zeros_length (k : Nat) : (zeros k).length = k * 4 := by simp [zeros, Builtin.zeroCells, zeroPk]
theorem zeros_one (k : Nat) : ∀ v ∈ zeros k, v.oneCell' = true := by
  intro v hv
  simp only [zeros, Builtin.zeroCells, Array.toList_map, List.mem_map] at hv
  obtain ⟨i, -, rfl⟩ := hv
  have h4 : i % 4 = 0 ∨ i % 4 = 1 ∨ i % 4 = 2 ∨ i % 4 = 3 := by omega
  show (zeroPk.toArray[i % 4]!).oneCell' = true
  rcases h4 with h | h | h | h <;> rw [h] <;> rfl
theorem clear_many (w : World) (ty : TypeId) (g o k c : Nat) (hc : ∀ j, j < k * 4 → (w.cell? ⟨g, o + j, none⟩).isSome = true) (hf : ∀ j, j < k * 4 → w.frozen? ⟨g, o + j, none⟩ = false) :
    (Builtin.clear_ #[32] ty #[.slice (some ⟨g, o, none⟩) k c]).run Try.prog w = .ok (.tuple #[]) (w.setCells g o (zeros k)) := by
  have hst := run_storeCells_cells (P := Try.prog) g o (zeros k) 0 w (fun j hj => by rw [Nat.add_zero]; exact hc j (by rw [zeros_length] at hj; exact hj)) (fun j hj => by rw [Nat.add_zero]; exact hf j (by rw [zeros_length] at hj; exact hj)) (zeros_one k)
  simp only [Nat.add_zero] at hst
  have hz : (Builtin.zeroCells #[.int .i64 0, .int .i64 0, .string ⟨#[]⟩, .bool false] k).toList = zeros k := rfl
  cases k with
  | zero =>
    have h0 : zeros 0 = [] := List.length_eq_zero_iff.1 (by rw [zeros_length])
    rw [h0]
    simp [Builtin.clear_, run_underlying Try.underlying32, World.setCells]
  | succ k => simp [Builtin.clear_, run_underlying Try.underlying32, zeroP, zeroPk, Value.cells, hz, hst]

end Go.Proofs.Ytdmdegjomikmlaa.NetE
