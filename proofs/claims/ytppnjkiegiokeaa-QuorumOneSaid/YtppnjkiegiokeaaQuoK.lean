/-
  Layer 17 (quorum): QuorumOne: four records of nothing are made (region 9), at whatever frame.
-/
import Derived.Test.YtppnjkiegiokeaaQuoI
import Derived.Deep.DeepCutAuto
namespace Go.Proofs.Ytppnjkiegiokeaa.QuoK
set_option linter.unusedVariables false
set_option linter.unusedSimpArgs false
set_option maxRecDepth 100000
open Go.RowKit Go.Proofs.Ytppnjkiegiokeaa.Mem Go.Proofs.Ytppnjkiegiokeaa.QuoW Go.Proofs.Ytppnjkiegiokeaa.QuoV Go.Proofs.Ytppnjkiegiokeaa.QuoU Go.Proofs.Ytppnjkiegiokeaa.QuoR Go.Proofs.Ytppnjkiegiokeaa.QuoS Go.Proofs.Ytppnjkiegiokeaa.QuoX Go.Proofs.Ytppnjkiegiokeaa.QuoC Go.Proofs.Ytppnjkiegiokeaa.QuoF Go.Proofs.Ytppnjkiegiokeaa.QuoH Go.Proofs.Ytppnjkiegiokeaa.QuoI
attribute [-go_sem] Act.eval Act.put Instr.storeAt
attribute [local go_sem] BigFrame.eval_const BigFrame.eval_global BigFrame.eval_func
theorem sz_put (A : Act) (d : Nat) (v : Value) : (A.put (some d) v).tmps.size = A.tmps.size := by simp [Act.put]
theorem put_none (A : Act) (v : Value) : A.put none v = A := rfl
theorem ev_same (A : Act) (i : Nat) (v : Value) (h : i < A.tmps.size) : (A.put (some i) v).eval (.tmp i) = v := by
  simp [Act.put, Act.eval, Array.getD_eq_getD_getElem?, Array.getElem?_setIfInBounds, h]
theorem ev_ne (A : Act) (i j : Nat) (v : Value) (h : i ≠ j) : (A.put (some i) v).eval (.tmp j) = A.eval (.tmp j) := by
  simp [Act.put, Act.eval, Array.getD_eq_getD_getElem?, Array.getElem?_setIfInBounds, h]
theorem put_comm (A : Act) (i j : Nat) (u v : Value) (h : j < i) : (A.put (some i) u).put (some j) v = (A.put (some j) v).put (some i) u := by
  simp only [Act.put]
  rw [Array.setIfInBounds_comm _ _ (by omega)]
attribute [local go_sem] sz_put put_none ev_same ev_ne
def zr : Array Value := #[.pointer none, .int .i64 0, .int .u64 0, .bool false, .int .u64 0, .int .u64 0, .int .u64 0, .int .u64 0, .int .i64 0, .int .u64 0, .int .i64 0, .int .u64 0, .int .u64 0, .int .u64 0, .int .i64 0, .int .u64 0, .int .i64 0, .int .u64 0, .int .u64 0, .bool false, .bool false]
def z84 : Array Value := zr ++ zr ++ zr ++ zr
abbrev T50 : TypeId := 50
theorem zero50 (w : World) : (zeroValue T50).run Try.prog w = .ok (.agg z84) w := by kernel_rfl
theorem info50 : (Try.prog.info? T50).map (·.size) = some z84.size := by kernel_rfl
theorem one84 : z84.all (·.oneCell') = true := by kernel_rfl
theorem size84 : z84.size = 84 := by kernel_rfl
theorem z84_row (pb : Nat → Nat) : ARow z84 0 pb := by
  refine ⟨size84, fun q hq j hj => ?_⟩
  refine Eq.trans (four_at (fun _ => zr) (fun _ => rfl) q hq j hj) ?_
  rw [if_neg (Nat.not_lt_zero q)]
  match j with
  | 0 => rfl
  | j + 1 => rw [if_neg (Nat.succ_ne_zero j)]; rfl
set_option maxHeartbeats 4000000 in
theorem reg9 (A : Act) (hA : A.tmps.size = 229) (K : Act → World → Prop) (Q : Exit → Act → World → Prop) (w : World)
    (hK : ∀ W' : World, Keep (fun _ => False) w W' → W'.heap[w.heap.size]? = some (.cells z84 T50 (0, 0)) → K ((A.put (some 36) (.agg z84)).put (some 9) (.pointer (some ⟨w.heap.size, 0, none⟩))) W') :
    Code.wp Try.prog (Code.region 9 #[{ dst := some 36, op := Op.build 50 #[], type := 50, pos := "law.go:50", after := #[], guard := none }, { dst := some 9, op := Op.alloc 50, type := 0, pos := "law.go:50", after := #[], guard := none }, { dst := none, op := Op.store 50 (Operand.tmp 9) (Operand.tmp 36), type := 0, pos := "law.go:50", after := #[{ on := 1, ground := Ground.data }, { on := 0, ground := Ground.data }, { on := 0, ground := Ground.phase }, { on := 1, ground := Ground.phase }], guard := none }] false) (Exit.then K Q) A w := by
  have HK := Lib.hid hK
  have hz := zero50
  have ha := block_new w (.cells z84 T50)
  have st := run_storeAt_mid (P := Try.prog) (w.alloc (.cells z84 T50)) w.heap.size 0 T50 z84 (there_block ha 0 z84.size (by omega)) info50 one84
  have HA := Lib.hid ha
  clear hK ha
  go_wp2_with fail
  refine HK.out _ (Keep.setCells (.inr (Nat.le_refl _)) _ _ _ ((Keep.refl _ w).alloc _)) ?_
  rw [block_setCells _ _ _ 0 HA.out, put_row z84 z84 rfl]

end Go.Proofs.Ytppnjkiegiokeaa.QuoK
