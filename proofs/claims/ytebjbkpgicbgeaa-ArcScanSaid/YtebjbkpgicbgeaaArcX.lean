/-
  ArcScan: the walk.
-/
import Derived.Test.YtebjbkpgicbgeaaArcT
namespace Go.Proofs.Ytebjbkpgicbgeaa.ArcX
set_option linter.unusedVariables false
set_option linter.unusedSimpArgs false
set_option maxRecDepth 100000
open Go.RowKit Go.Proofs.Ytebjbkpgicbgeaa.Mem Go.Proofs.Ytebjbkpgicbgeaa.ArcP Go.Proofs.Ytebjbkpgicbgeaa.ArcQ Go.Proofs.Ytebjbkpgicbgeaa.ArcW Go.Proofs.Ytebjbkpgicbgeaa.ArcV Go.Proofs.Ytebjbkpgicbgeaa.ArcU Go.Proofs.Ytebjbkpgicbgeaa.ArcO Go.Proofs.Ytebjbkpgicbgeaa.ArcT Go.Proofs.Ytebjbkpgicbgeaa.Mask

theorem cvs (i : Nat) (hi : i < 256) (W : World) : (convert 33 9 (.slice (some ⟨W.heap.size, 0, none⟩) 3 3)).run Try.prog (W.alloc (.cells #[.int .u8 (i : Int), .int .u8 ((i / 16 : Nat) : Int), .int .u8 115] 5)) = .ok (.string (sk i)) (W.alloc (.cells #[.int .u8 (i : Int), .int .u8 ((i / 16 : Nat) : Int), .int .u8 115] 5)) :=
  run_convert_bytes_back (W.alloc (.cells #[.int .u8 (i : Int), .int .u8 ((i / 16 : Nat) : Int), .int .u8 115] 5)) 33 9 5 ⟨W.heap.size, 0, none⟩ 3 [UInt8.ofNat i, UInt8.ofNat (i / 16), 115] Try.underlying33 Try.underlying5 Try.underlying9 (fun j hj => by
    have hj2 : j = 0 ∨ j = 1 ∨ j = 2 := by simp at hj; omega
    rcases hj2 with rfl | rfl | rfl
    · show (W.alloc _).cell? ⟨W.heap.size, 0, none⟩ = _
      rw [cell_at (block_new W _) 0]
      have : ((UInt8.ofNat i).toNat : Int) = (i : Int) := by rw [UInt8.toNat_ofNat']; omega
      simp
      omega
    · show (W.alloc _).cell? ⟨W.heap.size, 1, none⟩ = _
      rw [cell_at (block_new W _) 1]
      have : ((UInt8.ofNat (i / 16)).toNat : Int) = ((i / 16 : Nat) : Int) := by rw [UInt8.toNat_ofNat']; omega
      simp
      omega
    · show (W.alloc _).cell? ⟨W.heap.size, 2, none⟩ = _
      rw [cell_at (block_new W _) 2]
      rfl)

end Go.Proofs.Ytebjbkpgicbgeaa.ArcX
