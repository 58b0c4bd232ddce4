/-
  Layer 17 (quorum): a cell is new; what the law keeps of a proposer.
-/
import Derived.Test.YtppnjkiegiokeaaQuoC
import Derived.Deep.DeepCutAuto
namespace Go.Proofs.Ytppnjkiegiokeaa.QuoE
set_option linter.unusedVariables false
set_option linter.unusedSimpArgs false
set_option maxRecDepth 100000
open Go.RowKit Go.Proofs.Ytppnjkiegiokeaa.Mem Go.Proofs.Ytppnjkiegiokeaa.QuoW Go.Proofs.Ytppnjkiegiokeaa.QuoV Go.Proofs.Ytppnjkiegiokeaa.QuoU Go.Proofs.Ytppnjkiegiokeaa.QuoR Go.Proofs.Ytppnjkiegiokeaa.QuoS Go.Proofs.Ytppnjkiegiokeaa.QuoX Go.Proofs.Ytppnjkiegiokeaa.QuoC
set_option maxHeartbeats 8000000 in
theorem new_cell (w : World) :
    Calls Try.prog 20 #[firstV.agg] w fun e w' => ∃ b, e = .returned (.tuple #[.pointer (some ⟨b, 0, none⟩), .int .i64 0]) ∧ w.heap.size ≤ b ∧ CAt w' b ⟨0, 0, zeroV⟩ ∧ Keep (fun _ => False) w w' := by
  have C1 := Lib.hid (check_one 1 0 1 1 (by omega) (by omega) (by omega) (by omega) (by omega))
  unfold Vw.agg firstV
  simp only [Vw.agg] at C1
  go_enter Try.func20, Try.ntmps20
  go_upto_region 1 with fail
  obtain ⟨W, hW⟩ : ∃ V, V = w.alloc (.cells #[.int .u64 1, .int .i64 0, .int .u64 1, .int .i64 (-1), .int .u64 0, .int .u64 1] TVw) := ⟨_, rfl⟩
  rw [← hW]
  have KW := Lib.hid (show Keep (fun _ => False) w W by rw [hW]; exact (Keep.refl _ _).alloc _)
  have HX := Lib.hid (show W.heap[w.heap.size]? = some (.cells #[.int .u64 1, .int .i64 0, .int .u64 1, .int .i64 (-1), .int .u64 0, .int .u64 1] TVw (0, 0)) by rw [hW]; exact block_new w _)
  clear hW
  have x0 := cell_at HX.out 0
  have x1 := cell_at HX.out 1
  have x2 := cell_at HX.out 2
  have x3 := cell_at HX.out 3
  have x4 := cell_at HX.out 4
  have x5 := cell_at HX.out 5
  simp at x0 x1 x2 x3 x4 x5
  go_wp2_with (go_at_call 18; refine (C1.out _).mono ?_; rintro e w1 ⟨rfl, q1⟩
               have K1 := Lib.hid (Keep.of0 q1)
               have HX1 := Lib.hid ((K1.out.block _ (lt_of_block HX.out) (fun e => e)).trans HX.out)
               clear q1 x0 x1 x2 x3 x4 x5
               have x0 := cell_at HX1.out 0
               have x1 := cell_at HX1.out 1
               have x2 := cell_at HX1.out 2
               have x3 := cell_at HX1.out 3
               have x4 := cell_at HX1.out 4
               have x5 := cell_at HX1.out 5
               simp at x0 x1 x2 x3 x4 x5)
  go_ret2
  refine ⟨w1.heap.size, rfl, Nat.le_trans KW.out.size K1.out.size, ?_, (KW.out.trans K1.out).alloc _⟩
  exact (block_new w1 _).trans (by simp [Ce.row, zeroV])

end Go.Proofs.Ytppnjkiegiokeaa.QuoE
