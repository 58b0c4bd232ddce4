/-
  Layer 19 (ship): no link sends nothing.
-/
import Derived.Test.YtiboacnjmogjaaaShpA
import Derived.Test.YtiboacnjmogjaaaOpen
import Derived.Test.YtiboacnjmogjaaaMask
namespace Go.Proofs.Ytiboacnjmogjaaa.ShpN
set_option linter.unusedVariables false
set_option linter.unusedSimpArgs false
open Go.RowKit Go.Proofs.Ytiboacnjmogjaaa.Mem Go.Proofs.Ytiboacnjmogjaaa.Open Go.Proofs.Ytiboacnjmogjaaa.Mask Go.Proofs.Ytiboacnjmogjaaa.LogW Go.Proofs.Ytiboacnjmogjaaa.LogV Go.Proofs.Ytiboacnjmogjaaa.LogU Go.Proofs.Ytiboacnjmogjaaa.LogL Go.Proofs.Ytiboacnjmogjaaa.ShpW Go.Proofs.Ytiboacnjmogjaaa.ShpA

theorem more_nolog (b a s t : Nat) (w : World) (h : KAt w b a s t) :
    Calls Try.prog 11 #[.pointer (some ⟨b, 0, none⟩), .pointer none] w fun e w' => e = .returned (.tuple #[.slice none 0 0, .bool false]) ∧ w = w' := by
  have c1 : w.cell? ⟨b, 1, none⟩ = some (.int .u64 s) := cell_at h 1
  clear h
  go_enter Try.func11, Try.ntmps11
  go_wp2_with fail
  refine (from_nil _ _ _).mono ?_
  rintro e w1 ⟨rfl, rfl⟩
  go_wp2_with fail
  go_ret2
  exact ⟨rfl, rfl⟩

set_option maxHeartbeats 2000000 in
theorem shipNone_walk (seq n : Int) (w : World) (w0 : (Lit.int .u64 seq).wf = true) (w1 : (Lit.int .i64 n).wf = true) :
    Calls Try.prog 4 #[.int .u64 seq, .int .i64 n] w fun e w' => e = .returned (.bool true) ∧ Below w.heap.size w w' := by
  obtain ⟨q, rfl⟩ := Int.eq_ofNat_of_zero_le (bounds_u64 w0).1
  obtain ⟨m, hm, hm2, -⟩ := i64_and n 4 (by omega)
  rw [show ((2 ^ 4 - 1 : Nat) : Int) = 15 from rfl] at hm
  rw [show 2 ^ 4 = 16 from rfl] at hm2
  clear w0 w1
  have FI := Lib.hid (filled_any m (by omega) w)
  go_enter Try.func4, Try.ntmps4
  go_wp2_with fail
  refine FI.out.mono ?_
  rintro e w1 ⟨lb, F, rfl, l1, f1, k1⟩
  clear FI hm l1 f1
  go_wp2_with fail
  refine (nil_more _ _).mono ?_
  rintro e _ ⟨rfl, rfl⟩
  go_wp2_with fail
  refine (nil_tick _ _).mono ?_
  rintro e _ ⟨rfl, rfl⟩
  go_wp2_with fail
  refine (new_any q _).mono ?_
  rintro e w2 ⟨rfl, h2, k2⟩
  generalize w1.heap.size = b2 at *
  go_wp2_with fail
  refine (more_nolog _ _ _ _ _ h2).mono ?_
  rintro e _ ⟨rfl, rfl⟩
  have K2 := k1.trans k2
  clear k1 k2 h2
  go_wp2_with fail
  refine (awake_any _).mono ?_
  rintro e w3 ⟨rfl, k3⟩
  replace K2 := K2.trans (Keep.of0 k3)
  clear k3
  go_wp2_with fail
  refine (nil_ack _ _ _).mono ?_
  rintro e _ ⟨rfl, rfl⟩
  go_wp2_with fail
  refine (nil_acked _).mono ?_
  rintro e _ ⟨rfl, rfl⟩
  go_wp2_with fail
  refine (new_any q _).mono ?_
  rintro e w4 ⟨rfl, h4, k4⟩
  generalize w3.heap.size = b4 at *
  go_wp2_with fail
  refine (acked_at _ _ _ _ _ h4).mono ?_
  rintro e _ ⟨rfl, rfl⟩
  have K4 := K2.trans k4
  clear k4 h4 K2
  go_wp2_with fail
  go_ret
  exact ⟨rfl, K4.below0⟩

end Go.Proofs.Ytiboacnjmogjaaa.ShpN
