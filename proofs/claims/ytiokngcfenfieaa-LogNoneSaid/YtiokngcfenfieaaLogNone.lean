/-
  The law LogNone of layer 13 (log): the walk.
-/
import Derived.Test.YtiokngcfenfieaaLogL
import Derived.Test.YtiokngcfenfieaaRecOpen
namespace Go.Proofs.Ytiokngcfenfieaa.LogNone
set_option linter.unusedVariables false
set_option linter.unusedSimpArgs false
open Go.RowKit Go.Proofs.Ytiokngcfenfieaa.Mask Go.Proofs.Ytiokngcfenfieaa.Mem Go.Proofs.Ytiokngcfenfieaa.LogW Go.Proofs.Ytiokngcfenfieaa.LogV Go.Proofs.Ytiokngcfenfieaa.LogU Go.Proofs.Ytiokngcfenfieaa.LogT Go.Proofs.Ytiokngcfenfieaa.LogS Go.Proofs.Ytiokngcfenfieaa.LogL

theorem cut_nil (seq : Int) (w : World) :
    Calls Try.prog 18 #[.pointer none, .int .u64 seq] w fun e w' => e = .returned (.tuple #[]) ∧ w = w' := by
  go_enter Try.func18, Try.ntmps18
  go_wp2
  go_end0
  exact ⟨rfl, rfl⟩

theorem new_res (base : Int) (k : Nat) (w : World) :
    Calls Try.prog 8 #[.int .u64 base, .int .i64 k] w fun e w' => (∃ p, e = .returned (.tuple #[.pointer (if 1 ≤ k ∧ k ≤ 256 then some p else none), .int .i64 (if 1 ≤ k ∧ k ≤ 256 then 0 else 1)])) ∧ Keep (fun _ => False) w w' := by
  by_cases h : 1 ≤ k ∧ k ≤ 256
  · simp only [if_pos h]
    refine (new_ok base k (by omega) (by omega) w).mono ?_
    rintro e w' ⟨rfl, rfl⟩
    exact ⟨⟨_, rfl⟩, (Keep.refl _ _).alloc _⟩
  · simp only [if_neg h]
    refine (new_bad base k (by omega) w).mono ?_
    rintro e w' ⟨rfl, rfl⟩
    exact ⟨⟨default, rfl⟩, Keep.refl _ _⟩

/-- the rest, behind New -/
def Rest (p : Option Addr) (e : Int) (k : Nat) : Prop := (1 ≤ k ∧ k ≤ 256 ∧ (∃ a, p = some a) ∧ e = 0) ∨ ((k < 1 ∨ 256 < k) ∧ p = none ∧ e = 1)

set_option maxHeartbeats 1000000 in
theorem logNone_walk (a0 : Int) (v1 : Value) (w : World) (hw : (Lit.int .i64 a0).wf = true) (hr : ∃ r : Rec, v1 = r.agg ∧ 0 ≤ r.seq ∧ r.seq ≤ 18446744073709551615) :
    Calls Try.prog 7 #[.int .i64 a0, v1] w fun e w' => e = .returned (.bool true) ∧ Below w.heap.size w w' := by
  obtain ⟨k, hk, hk2, -⟩ := i64_and a0 9 (by omega)
  rw [show ((2 ^ 9 - 1 : Nat) : Int) = 511 from rfl] at hk
  rw [show 2 ^ 9 = 512 from rfl] at hk2
  clear hw
  obtain ⟨r, rfl, h0, h9⟩ := hr
  have hA := fun w => add_nil r w
  have hS := fun w => slide_nil r w
  obtain ⟨seq, now, ses, num, kind, key, val, ttl, ver⟩ := r
  simp only [Rec.agg, Rec.cells] at hA hS ⊢
  have HA := Lib.hid hA
  have HS := Lib.hid hS
  clear hA hS h0 h9
  have hcase : (k < 1) ∨ (256 < k) ∨ (1 ≤ k ∧ k ≤ 256) := by omega
  have fin : ∀ (w1 : World), Keep (fun _ => False) w w1 → Below w.heap.size w w1 := fun w1 h => h.below (Nat.le_refl _) (fun _ e => e.elim)
  have Fin := Lib.hid fin
  clear fin
  rcases hcase with hc | hc | hc
  · have d1 : decide ((1 : Int) ≤ k) = false := decide_eq_false (by omega)
    have d2 : decide (1 ≤ k) = false := decide_eq_false (by omega)
    go_enter Try.func7, Try.ntmps7
    go_wp2_with fail
    refine (cut_nil _ _).mono ?_
    rintro e w' ⟨rfl, rfl⟩
    go_wp2_with fail
    refine (from_nil _ _ _).mono ?_
    rintro e w' ⟨rfl, rfl⟩
    go_wp2_with fail
    refine (new_bad seq k (by omega) _).mono ?_
    rintro e w1 ⟨rfl, rfl⟩
    go_wp2_with fail
    refine (awake_any _).mono ?_
    rintro e w2 ⟨rfl, k2⟩
    have K2 := Lib.hid (Keep.trans ((Keep.refl _ w).alloc _) k2)
    have kx : w2.heap[w.heap.size]? = some (.cells #[.int .u64 seq, .int .u64 now, .int .u64 ses, .int .u64 num, .int .i64 kind, .string key, .string val, .int .u64 ttl, .int .u64 ver] TR (0, 0)) :=
      (k2.block w.heap.size (by simp <;> omega) (fun e => e)).trans (block_new w _)
    clear k2
    have Kx := Lib.hid kx
    clear kx
    have X := fun (w3 : World) (h : Keep (fun _ => False) w2 w3) (i : Nat) => cell_at ((h.block w.heap.size (lt_of_block Kx.out) (fun e => e)).trans Kx.out) i
    have XH := Lib.hid X
    clear X
    have x0 := XH.out w2 (Keep.refl _ _) 0
    have x1 := XH.out w2 (Keep.refl _ _) 1
    have x2 := XH.out w2 (Keep.refl _ _) 2
    have x3 := XH.out w2 (Keep.refl _ _) 3
    have x4 := XH.out w2 (Keep.refl _ _) 4
    have x5 := XH.out w2 (Keep.refl _ _) 5
    have x6 := XH.out w2 (Keep.refl _ _) 6
    have x7 := XH.out w2 (Keep.refl _ _) 7
    have x8 := XH.out w2 (Keep.refl _ _) 8
    simp only [List.getElem?_toArray, List.getElem?_cons_zero, List.getElem?_cons_succ] at x0 x1 x2 x3 x4 x5 x6 x7 x8
    go_wp2_with fail
    refine (HA.out _).mono ?_
    rintro e w3 ⟨rfl, k3⟩
    clear x0 x1 x2 x3 x4 x5 x6 x7 x8
    have x0 := XH.out w3 k3 0
    have x1 := XH.out w3 k3 1
    have x2 := XH.out w3 k3 2
    have x3 := XH.out w3 k3 3
    have x4 := XH.out w3 k3 4
    have x5 := XH.out w3 k3 5
    have x6 := XH.out w3 k3 6
    have x7 := XH.out w3 k3 7
    have x8 := XH.out w3 k3 8
    simp only [List.getElem?_toArray, List.getElem?_cons_zero, List.getElem?_cons_succ] at x0 x1 x2 x3 x4 x5 x6 x7 x8
    have K3 := Lib.hid (K2.out.trans k3)
    clear k3
    go_wp2_with fail
    refine (HS.out _).mono ?_
    rintro e w4 ⟨rfl, k4⟩
    clear x0 x1 x2 x3 x4 x5 x6 x7 x8
    have K4 := Lib.hid (K3.out.trans k4)
    clear k4
    go_wp2_with fail
    refine (nils _).1.mono ?_
    rintro e w5 ⟨rfl, rfl⟩
    go_wp2_with fail
    refine (last_nil _).mono ?_
    rintro e w5 ⟨rfl, rfl⟩
    go_wp2_with fail
    refine (nils _).2.mono ?_
    rintro e w5 ⟨rfl, rfl⟩
    go_wp2_with fail
    go_ret
    exact ⟨rfl, Fin.out _ K4.out⟩
  · have d1 : decide ((1 : Int) ≤ k) = true := decide_eq_true (by omega)
    have d2 : decide (1 ≤ k) = true := decide_eq_true (by omega)
    have d3 : decide ((k : Int) ≤ 256) = false := decide_eq_false (by omega)
    have d4 : decide (k ≤ 256) = false := decide_eq_false (by omega)
    go_enter Try.func7, Try.ntmps7
    go_wp2_with fail
    refine (cut_nil _ _).mono ?_
    rintro e w' ⟨rfl, rfl⟩
    go_wp2_with fail
    refine (from_nil _ _ _).mono ?_
    rintro e w' ⟨rfl, rfl⟩
    go_wp2_with fail
    refine (new_bad seq k (by omega) _).mono ?_
    rintro e w1 ⟨rfl, rfl⟩
    go_wp2_with fail
    refine (awake_any _).mono ?_
    rintro e w2 ⟨rfl, k2⟩
    have K2 := Lib.hid (Keep.trans ((Keep.refl _ w).alloc _) k2)
    have kx : w2.heap[w.heap.size]? = some (.cells #[.int .u64 seq, .int .u64 now, .int .u64 ses, .int .u64 num, .int .i64 kind, .string key, .string val, .int .u64 ttl, .int .u64 ver] TR (0, 0)) :=
      (k2.block w.heap.size (by simp <;> omega) (fun e => e)).trans (block_new w _)
    clear k2
    have Kx := Lib.hid kx
    clear kx
    have X := fun (w3 : World) (h : Keep (fun _ => False) w2 w3) (i : Nat) => cell_at ((h.block w.heap.size (lt_of_block Kx.out) (fun e => e)).trans Kx.out) i
    have XH := Lib.hid X
    clear X
    have x0 := XH.out w2 (Keep.refl _ _) 0
    have x1 := XH.out w2 (Keep.refl _ _) 1
    have x2 := XH.out w2 (Keep.refl _ _) 2
    have x3 := XH.out w2 (Keep.refl _ _) 3
    have x4 := XH.out w2 (Keep.refl _ _) 4
    have x5 := XH.out w2 (Keep.refl _ _) 5
    have x6 := XH.out w2 (Keep.refl _ _) 6
    have x7 := XH.out w2 (Keep.refl _ _) 7
    have x8 := XH.out w2 (Keep.refl _ _) 8
    simp only [List.getElem?_toArray, List.getElem?_cons_zero, List.getElem?_cons_succ] at x0 x1 x2 x3 x4 x5 x6 x7 x8
    go_wp2_with fail
    refine (HA.out _).mono ?_
    rintro e w3 ⟨rfl, k3⟩
    clear x0 x1 x2 x3 x4 x5 x6 x7 x8
    have x0 := XH.out w3 k3 0
    have x1 := XH.out w3 k3 1
    have x2 := XH.out w3 k3 2
    have x3 := XH.out w3 k3 3
    have x4 := XH.out w3 k3 4
    have x5 := XH.out w3 k3 5
    have x6 := XH.out w3 k3 6
    have x7 := XH.out w3 k3 7
    have x8 := XH.out w3 k3 8
    simp only [List.getElem?_toArray, List.getElem?_cons_zero, List.getElem?_cons_succ] at x0 x1 x2 x3 x4 x5 x6 x7 x8
    have K3 := Lib.hid (K2.out.trans k3)
    clear k3
    go_wp2_with fail
    refine (HS.out _).mono ?_
    rintro e w4 ⟨rfl, k4⟩
    clear x0 x1 x2 x3 x4 x5 x6 x7 x8
    have K4 := Lib.hid (K3.out.trans k4)
    clear k4
    go_wp2_with fail
    refine (nils _).1.mono ?_
    rintro e w5 ⟨rfl, rfl⟩
    go_wp2_with fail
    refine (last_nil _).mono ?_
    rintro e w5 ⟨rfl, rfl⟩
    go_wp2_with fail
    refine (nils _).2.mono ?_
    rintro e w5 ⟨rfl, rfl⟩
    go_wp2_with fail
    go_ret
    exact ⟨rfl, Fin.out _ K4.out⟩
  · have d1 : decide ((1 : Int) ≤ k) = true := decide_eq_true (by omega)
    have d2 : decide (1 ≤ k) = true := decide_eq_true (by omega)
    have d3 : decide ((k : Int) ≤ 256) = true := decide_eq_true (by omega)
    have d4 : decide (k ≤ 256) = true := decide_eq_true (by omega)
    go_enter Try.func7, Try.ntmps7
    go_wp2_with fail
    refine (cut_nil _ _).mono ?_
    rintro e w' ⟨rfl, rfl⟩
    go_wp2_with fail
    refine (from_nil _ _ _).mono ?_
    rintro e w' ⟨rfl, rfl⟩
    go_wp2_with fail
    refine (new_ok seq k (by omega) (by omega) _).mono ?_
    rintro e w1 ⟨rfl, rfl⟩
    go_wp2_with fail
    refine (awake_any _).mono ?_
    rintro e w2 ⟨rfl, k2⟩
    have K2 := Lib.hid (Keep.trans (((Keep.refl _ w).alloc _).alloc _) k2)
    have kx : w2.heap[w.heap.size]? = some (.cells #[.int .u64 seq, .int .u64 now, .int .u64 ses, .int .u64 num, .int .i64 kind, .string key, .string val, .int .u64 ttl, .int .u64 ver] TR (0, 0)) :=
      (k2.block w.heap.size (by simp <;> omega) (fun e => e)).trans (block_alloc (block_new w _) _)
    clear k2
    have Kx := Lib.hid kx
    clear kx
    have X := fun (w3 : World) (h : Keep (fun _ => False) w2 w3) (i : Nat) => cell_at ((h.block w.heap.size (lt_of_block Kx.out) (fun e => e)).trans Kx.out) i
    have XH := Lib.hid X
    clear X
    have x0 := XH.out w2 (Keep.refl _ _) 0
    have x1 := XH.out w2 (Keep.refl _ _) 1
    have x2 := XH.out w2 (Keep.refl _ _) 2
    have x3 := XH.out w2 (Keep.refl _ _) 3
    have x4 := XH.out w2 (Keep.refl _ _) 4
    have x5 := XH.out w2 (Keep.refl _ _) 5
    have x6 := XH.out w2 (Keep.refl _ _) 6
    have x7 := XH.out w2 (Keep.refl _ _) 7
    have x8 := XH.out w2 (Keep.refl _ _) 8
    simp only [List.getElem?_toArray, List.getElem?_cons_zero, List.getElem?_cons_succ] at x0 x1 x2 x3 x4 x5 x6 x7 x8
    go_wp2_with fail
    refine (HA.out _).mono ?_
    rintro e w3 ⟨rfl, k3⟩
    clear x0 x1 x2 x3 x4 x5 x6 x7 x8
    have x0 := XH.out w3 k3 0
    have x1 := XH.out w3 k3 1
    have x2 := XH.out w3 k3 2
    have x3 := XH.out w3 k3 3
    have x4 := XH.out w3 k3 4
    have x5 := XH.out w3 k3 5
    have x6 := XH.out w3 k3 6
    have x7 := XH.out w3 k3 7
    have x8 := XH.out w3 k3 8
    simp only [List.getElem?_toArray, List.getElem?_cons_zero, List.getElem?_cons_succ] at x0 x1 x2 x3 x4 x5 x6 x7 x8
    have K3 := Lib.hid (K2.out.trans k3)
    clear k3
    go_wp2_with fail
    refine (HS.out _).mono ?_
    rintro e w4 ⟨rfl, k4⟩
    clear x0 x1 x2 x3 x4 x5 x6 x7 x8
    have K4 := Lib.hid (K3.out.trans k4)
    clear k4
    go_wp2_with fail
    refine (nils _).1.mono ?_
    rintro e w5 ⟨rfl, rfl⟩
    go_wp2_with fail
    refine (last_nil _).mono ?_
    rintro e w5 ⟨rfl, rfl⟩
    go_wp2_with fail
    refine (nils _).2.mono ?_
    rintro e w5 ⟨rfl, rfl⟩
    go_wp2_with fail
    go_ret
    exact ⟨rfl, Fin.out _ K4.out⟩

end Go.Proofs.Ytiokngcfenfieaa.LogNone
