/-
  ArcOnce: the walk.
-/
import Derived.Test.YtebjbkpgicbgeaaArcR
import Derived.Test.YtebjbkpgicbgeaaArcO
namespace Go.Proofs.Ytebjbkpgicbgeaa.ArcS
set_option linter.unusedVariables false
set_option linter.unusedSimpArgs false
set_option maxRecDepth 100000
open Go.RowKit Go.Proofs.Ytebjbkpgicbgeaa.Mem Go.Proofs.Ytebjbkpgicbgeaa.RinM Go.Proofs.Ytebjbkpgicbgeaa.RinP Go.Proofs.Ytebjbkpgicbgeaa.RinW Go.Proofs.Ytebjbkpgicbgeaa.RinL Go.Proofs.Ytebjbkpgicbgeaa.RinF Go.Proofs.Ytebjbkpgicbgeaa.RinG Go.Proofs.Ytebjbkpgicbgeaa.RinH Go.Proofs.Ytebjbkpgicbgeaa.RinD Go.Proofs.Ytebjbkpgicbgeaa.RinN Go.Proofs.Ytebjbkpgicbgeaa.ArcP Go.Proofs.Ytebjbkpgicbgeaa.ArcQ Go.Proofs.Ytebjbkpgicbgeaa.ArcW Go.Proofs.Ytebjbkpgicbgeaa.ArcV Go.Proofs.Ytebjbkpgicbgeaa.ArcU Go.Proofs.Ytebjbkpgicbgeaa.ArcI Go.Proofs.Ytebjbkpgicbgeaa.ArcJ Go.Proofs.Ytebjbkpgicbgeaa.ArcK Go.Proofs.Ytebjbkpgicbgeaa.ArcO Go.Proofs.Ytebjbkpgicbgeaa.ArcR Go.Proofs.Ytebjbkpgicbgeaa.Mask

theorem once_has {c m : Nat} (hm : m ≤ 128) {j : Nat} (hj : j < m) : (isIn (kk j) (stO c m).A || isIn (kk j) (stO c m).B) = decide (m - c ≤ j) := by
  have e : isIn (kk j) (stO c m).B = false := rfl
  rw [e, Bool.or_false, Bool.eq_iff_iff, isIn_iff, decide_eq_true_iff]
  show kk j ∈ lst c m ↔ _
  rw [lst_mem hm (by omega)]
  exact ⟨fun e => e.1, fun e => ⟨e, hj⟩⟩

set_option maxHeartbeats 4000000 in
theorem arcOnce_walk (most many : Int) (w : World) (wp : (Lit.int .i64 most).wf = true) (wm : (Lit.int .i64 many).wf = true) :
    Calls Try.prog 5 #[.int .i64 most, .int .i64 many] w fun e w' => e = .returned (.bool true) ∧ Below w.heap.size w w' := by
  obtain ⟨c0, hc, hc2, -⟩ := i64_and most 5 (by omega)
  have hc' : bits .and .i64 most 31 = (c0 : Int) := hc
  have hc32 : c0 < 32 := hc2
  obtain ⟨m, hm, hm2, -⟩ := i64_and many 7 (by omega)
  have hm' : bits .and .i64 many 127 = (m : Int) := hm
  have hm128 : m < 128 := hm2
  obtain ⟨c, hcc⟩ : ∃ c, c = 1 + c0 := ⟨_, rfl⟩
  have N := Lib.hid (own_new c (by omega) (by omega) w)
  have hcc' : IntKind.i64.wrap ((1 : Int) + (c0 : Int)) = (c : Int) := (IntWalk.i64_in _ (by omega)).trans (by omega)
  have hc0 : (0 : Int) < (c : Int) := by omega
  have hcm : c ≤ 32 := by omega
  clear hcc hc32
  clear hc hc2 hm hm2
  go_enter Try.func5, Try.ntmps5
  go_wp2_with (first
    | (go_at_call 9; refine N.out.mono ?_; rintro e w1 ⟨ab, b, rfl, O1⟩; replace O1 := Lib.hid O1)
    | (go_at_call 10; refine (awake_any _).mono ?_; rintro e w2 ⟨rfl, k2⟩; replace k2 := Lib.hid k2))
  go_loopw [9] (fun xi wr => ∃ (i T : Nat), i ≤ m ∧ T ≤ 2 * i ∧ xi = .int .i64 (i : Int) ∧ Hid (Own w wr ab b c T (stO c i))) (fun xi wr => m - (intOf xi).toNat)
  case atStart => exact ⟨0, 0, by omega, by omega, rfl, Lib.hid (O1.out.keep0 k2.out)⟩
  case round =>
    obtain ⟨i, T, hi, hT, rfl, hR⟩ := hrel
    by_cases hlt : i < m
    · have hcv := cvk i (by omega) wr
      have hmod : (i : Int) % 256 = (i : Int) := by omega
      have T1 := Lib.hid (own_insert (hR.out.keep0 ((Keep.refl (fun _ => False) wr).alloc (.cells #[.int .u8 (i : Int), .int .u8 107] 5))) (by omega) (kk i) (by rw [kk_size]; omega))
      rw [once_ins hR.out.inv (by omega)] at T1
      by_cases hic : i < c
      · have ho : outO c i = none := if_pos hic
        rw [ho] at T1
        have hic' : (i : Int) < (c : Int) := by omega
        go_wp2_with (go_at_call 12; refine T1.out.mono ?_; clear T1; rintro e w3 ⟨v, rfl, o3, O3⟩; obtain rfl : v = .slice none 0 0 := o3; replace O3 := Lib.hid O3)
        refine wp_region_held_drew (S := (fun w' => Keep (fun _ => False) w3 w')) (by kernel_rfl) ?_ (fun hHeld => ?_)
        · exact (Keep.refl (fun _ => False) w3).drew
        refine wpAnyH_take (i := 0) (oi := { dst := some 39, op := Op.move (Operand.tmp 9), type := 3, pos := "more.go:17", after := #[], guard := none }) (v := .int .i64 (i : Int)) rfl (by kernel_rfl) (by kernel_rfl) (by kernel_rfl) (fun _ _ _ h => h) (Or.inl ⟨by rfl, ?_⟩) (by assumption) ?_
        · (intro w' hSw; (try dsimp only at hSw); go_simp)
        try simp only [Act.put, List.setIfInBounds_toArray, List.set_cons_zero, List.set_cons_succ]
        refine wpAnyH_take (i := 1) (oi := { dst := some 40, op := Op.move (Operand.tmp 5), type := 3, pos := "more.go:17", after := #[], guard := none }) (v := .int .i64 (c : Int)) rfl (by kernel_rfl) (by kernel_rfl) (by kernel_rfl) (fun _ _ _ h => h) (Or.inl ⟨by rfl, ?_⟩) (by assumption) ?_
        · (intro w' hSw; (try dsimp only at hSw); go_simp)
        try simp only [Act.put, List.setIfInBounds_toArray, List.set_cons_zero, List.set_cons_succ]
        refine wpAnyH_take (i := 2) (oi := { dst := some 41, op := Op.binOp BinOp.lss 3 (Operand.tmp 39) (Operand.tmp 40) 3, type := 4, pos := "more.go:17", after := #[{ on := 0, ground := Ground.data }, { on := 1, ground := Ground.data }], guard := none }) (v := .bool true) rfl (by kernel_rfl) (by kernel_rfl) (by kernel_rfl) (fun _ _ _ h => h) (Or.inl ⟨by rfl, ?_⟩) (by assumption) ?_
        · (intro w' hSw; (try dsimp only at hSw); go_simp)
        try simp only [Act.put, List.setIfInBounds_toArray, List.set_cons_zero, List.set_cons_succ]
        refine wpAnyH_take (i := 3) (oi := { dst := some 42, op := Op.move (Operand.tmp 41), type := 4, pos := "more.go:17", after := #[{ on := 2, ground := Ground.data }], guard := none }) (v := .bool true) rfl (by kernel_rfl) (by kernel_rfl) (by kernel_rfl) (fun _ _ _ h => h) (Or.inl ⟨by rfl, ?_⟩) (by assumption) ?_
        · (intro w' hSw; (try dsimp only at hSw); go_simp)
        try simp only [Act.put, List.setIfInBounds_toArray, List.set_cons_zero, List.set_cons_succ]
        refine wpAnyH_take (i := 4) (oi := { dst := some 43, op := Op.move (Operand.tmp 10), type := 22, pos := "more.go:17", after := #[{ on := 3, ground := Ground.guard }], guard := some (3, true) }) (v := .slice none 0 0) rfl (by kernel_rfl) (by kernel_rfl) (by kernel_rfl) (fun _ _ _ h => h) (Or.inl ⟨by rfl, ?_⟩) (by assumption) ?_
        · (intro w' hSw; (try dsimp only at hSw); go_simp)
        try simp only [Act.put, List.setIfInBounds_toArray, List.set_cons_zero, List.set_cons_succ]
        refine wpAnyH_take (i := 5) (oi := { dst := some 44, op := Op.call { callee := Callee.builtin Builtin.len, args := #[Operand.tmp 43], argTypes := #[22] }, type := 3, pos := "more.go:17", after := #[{ on := 4, ground := Ground.data }, { on := 3, ground := Ground.guard }], guard := some (3, true) }) (v := .int .i64 0) rfl (by kernel_rfl) (by kernel_rfl) (by kernel_rfl) (fun _ _ _ h => h) (Or.inl ⟨by rfl, ?_⟩) (by assumption) ?_
        · (intro w' hSw; (try dsimp only at hSw); go_simp)
        try simp only [Act.put, List.setIfInBounds_toArray, List.set_cons_zero, List.set_cons_succ]
        refine wpAnyH_take (i := 6) (oi := { dst := some 45, op := Op.binOp BinOp.neq 3 (Operand.tmp 44) (Operand.const (Value.int IntKind.i64 0)) 3, type := 4, pos := "more.go:17", after := #[{ on := 5, ground := Ground.data }, { on := 3, ground := Ground.guard }], guard := some (3, true) }) (v := .bool false) rfl (by kernel_rfl) (by kernel_rfl) (by kernel_rfl) (fun _ _ _ h => h) (Or.inl ⟨by rfl, ?_⟩) (by assumption) ?_
        · (intro w' hSw; (try dsimp only at hSw); go_simp)
        try simp only [Act.put, List.setIfInBounds_toArray, List.set_cons_zero, List.set_cons_succ]
        refine wpAnyH_take (i := 7) (oi := { dst := some 46, op := Op.pick (Operand.tmp 42) (Operand.tmp 45) (Operand.const (Value.bool false)), type := 4, pos := "more.go:17", after := #[{ on := 3, ground := Ground.data }, { on := 6, ground := Ground.data }], guard := none }) (v := .bool false) rfl (by kernel_rfl) (by kernel_rfl) (by kernel_rfl) (fun _ _ _ h => h) (Or.inl ⟨by rfl, ?_⟩) (by assumption) ?_
        · (intro w' hSw; (try dsimp only at hSw); go_simp)
        try simp only [Act.put, List.setIfInBounds_toArray, List.set_cons_zero, List.set_cons_succ]
        refine wpAnyH_take (i := 8) (oi := { dst := some 47, op := Op.move (Operand.tmp 46), type := 4, pos := "more.go:17", after := #[{ on := 7, ground := Ground.data }, { on := 3, ground := Ground.chain }], guard := none }) (v := .bool false) rfl (by kernel_rfl) (by kernel_rfl) (by kernel_rfl) (fun _ _ _ h => h) (Or.inl ⟨by rfl, ?_⟩) (by assumption) ?_
        · (intro w' hSw; (try dsimp only at hSw); go_simp)
        try simp only [Act.put, List.setIfInBounds_toArray, List.set_cons_zero, List.set_cons_succ]
        refine wpAnyH_take (i := 9) (oi := { dst := some 48, op := Op.move (Operand.tmp 9), type := 3, pos := "more.go:17", after := #[{ on := 8, ground := Ground.guard }], guard := some (8, false) }) (v := .int .i64 (i : Int)) rfl (by kernel_rfl) (by kernel_rfl) (by kernel_rfl) (fun _ _ _ h => h) (Or.inl ⟨by rfl, ?_⟩) (by assumption) ?_
        · (intro w' hSw; (try dsimp only at hSw); go_simp)
        try simp only [Act.put, List.setIfInBounds_toArray, List.set_cons_zero, List.set_cons_succ]
        refine wpAnyH_take (i := 10) (oi := { dst := some 49, op := Op.move (Operand.tmp 5), type := 3, pos := "more.go:17", after := #[{ on := 8, ground := Ground.guard }], guard := some (8, false) }) (v := .int .i64 (c : Int)) rfl (by kernel_rfl) (by kernel_rfl) (by kernel_rfl) (fun _ _ _ h => h) (Or.inl ⟨by rfl, ?_⟩) (by assumption) ?_
        · (intro w' hSw; (try dsimp only at hSw); go_simp)
        try simp only [Act.put, List.setIfInBounds_toArray, List.set_cons_zero, List.set_cons_succ]
        refine wpAnyH_take (i := 11) (oi := { dst := some 50, op := Op.binOp BinOp.geq 3 (Operand.tmp 48) (Operand.tmp 49) 3, type := 4, pos := "more.go:17", after := #[{ on := 9, ground := Ground.data }, { on := 10, ground := Ground.data }, { on := 8, ground := Ground.guard }], guard := some (8, false) }) (v := .bool false) rfl (by kernel_rfl) (by kernel_rfl) (by kernel_rfl) (fun _ _ _ h => h) (Or.inl ⟨by rfl, ?_⟩) (by assumption) ?_
        · (intro w' hSw; (try dsimp only at hSw); go_simp)
        try simp only [Act.put, List.setIfInBounds_toArray, List.set_cons_zero, List.set_cons_succ]
        refine wpAnyH_take (i := 12) (oi := { dst := some 51, op := Op.move (Operand.tmp 50), type := 4, pos := "more.go:17", after := #[{ on := 11, ground := Ground.data }, { on := 8, ground := Ground.chain }, { on := 8, ground := Ground.guard }], guard := some (8, false) }) (v := .bool false) rfl (by kernel_rfl) (by kernel_rfl) (by kernel_rfl) (fun _ _ _ h => h) (Or.inl ⟨by rfl, ?_⟩) (by assumption) ?_
        · (intro w' hSw; (try dsimp only at hSw); go_simp)
        try simp only [Act.put, List.setIfInBounds_toArray, List.set_cons_zero, List.set_cons_succ]
        refine wpAnyH_take (i := 13) (oi := { dst := some 52, op := Op.move (Operand.tmp 10), type := 22, pos := "more.go:17", after := #[{ on := 12, ground := Ground.guard }], guard := some (12, true) }) (v := undef) rfl (by kernel_rfl) (by kernel_rfl) (by kernel_rfl) (fun _ _ _ h => h) (Or.inr ⟨by rfl, rfl⟩) (by assumption) ?_
        try simp only [Act.put, List.setIfInBounds_toArray, List.set_cons_zero, List.set_cons_succ]
        refine wpAnyH_take (i := 14) (oi := { dst := some 53, op := Op.call { callee := Callee.builtin Builtin.len, args := #[Operand.tmp 52], argTypes := #[22] }, type := 3, pos := "more.go:17", after := #[{ on := 13, ground := Ground.data }, { on := 12, ground := Ground.guard }], guard := some (12, true) }) (v := undef) rfl (by kernel_rfl) (by kernel_rfl) (by kernel_rfl) (fun _ _ _ h => h) (Or.inr ⟨by rfl, rfl⟩) (by assumption) ?_
        try simp only [Act.put, List.setIfInBounds_toArray, List.set_cons_zero, List.set_cons_succ]
        refine wpAnyH_take (i := 15) (oi := { dst := some 54, op := Op.binOp BinOp.neq 3 (Operand.tmp 53) (Operand.const (Value.int IntKind.i64 1)) 3, type := 4, pos := "more.go:17", after := #[{ on := 14, ground := Ground.data }, { on := 12, ground := Ground.guard }], guard := some (12, true) }) (v := undef) rfl (by kernel_rfl) (by kernel_rfl) (by kernel_rfl) (fun _ _ _ h => h) (Or.inr ⟨by rfl, rfl⟩) (by assumption) ?_
        try simp only [Act.put, List.setIfInBounds_toArray, List.set_cons_zero, List.set_cons_succ]
        refine wpAnyH_take (i := 16) (oi := { dst := some 55, op := Op.move (Operand.tmp 54), type := 4, pos := "more.go:17", after := #[{ on := 15, ground := Ground.data }, { on := 12, ground := Ground.chain }, { on := 12, ground := Ground.guard }], guard := some (12, true) }) (v := undef) rfl (by kernel_rfl) (by kernel_rfl) (by kernel_rfl) (fun _ _ _ h => h) (Or.inr ⟨by rfl, rfl⟩) (by assumption) ?_
        try simp only [Act.put, List.setIfInBounds_toArray, List.set_cons_zero, List.set_cons_succ]
        refine wpAnyH_take (i := 17) (oi := { dst := some 56, op := Op.move (Operand.tmp 10), type := 22, pos := "more.go:17", after := #[{ on := 16, ground := Ground.guard }], guard := some (16, false) }) (v := undef) rfl (by kernel_rfl) (by kernel_rfl) (by kernel_rfl) (fun _ _ _ h => h) (Or.inr ⟨by rfl, rfl⟩) (by assumption) ?_
        try simp only [Act.put, List.setIfInBounds_toArray, List.set_cons_zero, List.set_cons_succ]
        refine wpAnyH_take (i := 18) (oi := { dst := some 57, op := Op.indexAddr 22 (Operand.tmp 56) (Operand.const (Value.int IntKind.i64 0)), type := 0, pos := "more.go:17", after := #[{ on := 17, ground := Ground.data }, { on := 16, ground := Ground.guard }], guard := some (16, false) }) (v := undef) rfl (by kernel_rfl) (by kernel_rfl) (by kernel_rfl) (fun _ _ _ h => h) (Or.inr ⟨by rfl, rfl⟩) (by assumption) ?_
        try simp only [Act.put, List.setIfInBounds_toArray, List.set_cons_zero, List.set_cons_succ]
        refine wpAnyH_take (i := 19) (oi := { dst := some 58, op := Op.load 9 (Operand.tmp 57), type := 9, pos := "more.go:17", after := #[{ on := 18, ground := Ground.data }, { on := 16, ground := Ground.guard }], guard := some (16, false) }) (v := undef) rfl (by kernel_rfl) (by kernel_rfl) (by kernel_rfl) (fun _ _ _ h => h) (Or.inr ⟨by rfl, rfl⟩) (by assumption) ?_
        try simp only [Act.put, List.setIfInBounds_toArray, List.set_cons_zero, List.set_cons_succ]
        refine wpAnyH_take (i := 20) (oi := { dst := some 59, op := Op.move (Operand.tmp 9), type := 3, pos := "more.go:17", after := #[{ on := 16, ground := Ground.guard }], guard := some (16, false) }) (v := undef) rfl (by kernel_rfl) (by kernel_rfl) (by kernel_rfl) (fun _ _ _ h => h) (Or.inr ⟨by rfl, rfl⟩) (by assumption) ?_
        try simp only [Act.put, List.setIfInBounds_toArray, List.set_cons_zero, List.set_cons_succ]
        refine wpAnyH_take (i := 21) (oi := { dst := some 60, op := Op.move (Operand.tmp 5), type := 3, pos := "more.go:17", after := #[{ on := 16, ground := Ground.guard }], guard := some (16, false) }) (v := undef) rfl (by kernel_rfl) (by kernel_rfl) (by kernel_rfl) (fun _ _ _ h => h) (Or.inr ⟨by rfl, rfl⟩) (by assumption) ?_
        try simp only [Act.put, List.setIfInBounds_toArray, List.set_cons_zero, List.set_cons_succ]
        refine wpAnyH_take (i := 22) (oi := { dst := some 61, op := Op.binOp BinOp.sub 3 (Operand.tmp 59) (Operand.tmp 60) 3, type := 3, pos := "more.go:17", after := #[{ on := 20, ground := Ground.data }, { on := 21, ground := Ground.data }, { on := 16, ground := Ground.guard }], guard := some (16, false) }) (v := undef) rfl (by kernel_rfl) (by kernel_rfl) (by kernel_rfl) (fun _ _ _ h => h) (Or.inr ⟨by rfl, rfl⟩) (by assumption) ?_
        try simp only [Act.put, List.setIfInBounds_toArray, List.set_cons_zero, List.set_cons_succ]
        refine wpAnyH_take (i := 23) (oi := { dst := some 62, op := Op.convert 3 5 (Operand.tmp 61), type := 5, pos := "more.go:17", after := #[{ on := 22, ground := Ground.data }, { on := 16, ground := Ground.guard }], guard := some (16, false) }) (v := undef) rfl (by kernel_rfl) (by kernel_rfl) (by kernel_rfl) (fun _ _ _ h => h) (Or.inr ⟨by rfl, rfl⟩) (by assumption) ?_
        try simp only [Act.put, List.setIfInBounds_toArray, List.set_cons_zero, List.set_cons_succ]
        refine wpAnyH_take (i := 24) (oi := { dst := some 63, op := Op.buildSlice 33 2 #[(0, Operand.tmp 62), (1, Operand.const (Value.int IntKind.u8 107))], type := 33, pos := "more.go:17", after := #[{ on := 23, ground := Ground.data }, { on := 16, ground := Ground.guard }], guard := some (16, false) }) (v := undef) rfl (by kernel_rfl) (by kernel_rfl) (by kernel_rfl) (fun _ _ _ h => h) (Or.inr ⟨by rfl, rfl⟩) (by assumption) ?_
        try simp only [Act.put, List.setIfInBounds_toArray, List.set_cons_zero, List.set_cons_succ]
        refine wpAnyH_take (i := 25) (oi := { dst := some 64, op := Op.convert 33 9 (Operand.tmp 63), type := 9, pos := "more.go:17", after := #[{ on := 24, ground := Ground.data }, { on := 16, ground := Ground.guard }], guard := some (16, false) }) (v := undef) rfl (by kernel_rfl) (by kernel_rfl) (by kernel_rfl) (fun _ _ _ h => h) (Or.inr ⟨by rfl, rfl⟩) (by assumption) ?_
        try simp only [Act.put, List.setIfInBounds_toArray, List.set_cons_zero, List.set_cons_succ]
        refine wpAnyH_take (i := 26) (oi := { dst := some 65, op := Op.binOp BinOp.neq 9 (Operand.tmp 58) (Operand.tmp 64) 9, type := 4, pos := "more.go:17", after := #[{ on := 19, ground := Ground.data }, { on := 25, ground := Ground.data }, { on := 16, ground := Ground.guard }], guard := some (16, false) }) (v := undef) rfl (by kernel_rfl) (by kernel_rfl) (by kernel_rfl) (fun _ _ _ h => h) (Or.inr ⟨by rfl, rfl⟩) (by assumption) ?_
        try simp only [Act.put, List.setIfInBounds_toArray, List.set_cons_zero, List.set_cons_succ]
        refine wpAnyH_take (i := 27) (oi := { dst := some 66, op := Op.pick (Operand.tmp 55) (Operand.const (Value.bool true)) (Operand.tmp 65), type := 4, pos := "more.go:17", after := #[{ on := 16, ground := Ground.data }, { on := 26, ground := Ground.data }, { on := 12, ground := Ground.guard }], guard := some (12, true) }) (v := undef) rfl (by kernel_rfl) (by kernel_rfl) (by kernel_rfl) (fun _ _ _ h => h) (Or.inr ⟨by rfl, rfl⟩) (by assumption) ?_
        try simp only [Act.put, List.setIfInBounds_toArray, List.set_cons_zero, List.set_cons_succ]
        refine wpAnyH_take (i := 28) (oi := { dst := some 67, op := Op.pick (Operand.tmp 51) (Operand.tmp 66) (Operand.const (Value.bool false)), type := 4, pos := "more.go:17", after := #[{ on := 12, ground := Ground.data }, { on := 27, ground := Ground.data }, { on := 8, ground := Ground.guard }], guard := some (8, false) }) (v := .bool false) rfl (by kernel_rfl) (by kernel_rfl) (by kernel_rfl) (fun _ _ _ h => h) (Or.inl ⟨by rfl, ?_⟩) (by assumption) ?_
        · (intro w' hSw; (try dsimp only at hSw); go_simp)
        try simp only [Act.put, List.setIfInBounds_toArray, List.set_cons_zero, List.set_cons_succ]
        refine wpAnyH_take (i := 29) (oi := { dst := some 68, op := Op.pick (Operand.tmp 47) (Operand.const (Value.bool true)) (Operand.tmp 67), type := 4, pos := "more.go:17", after := #[{ on := 8, ground := Ground.data }, { on := 28, ground := Ground.data }], guard := none }) (v := .bool false) rfl (by kernel_rfl) (by kernel_rfl) (by kernel_rfl) (fun _ _ _ h => h) (Or.inl ⟨by rfl, ?_⟩) (by assumption) ?_
        · (intro w' hSw; (try dsimp only at hSw); go_simp)
        try simp only [Act.put, List.setIfInBounds_toArray, List.set_cons_zero, List.set_cons_succ]
        refine wpAnyH_done (by kernel_rfl) ?_ _
        go_wp2_with fail
        go_roundw
        case rel => exact ⟨i + 1, T + 2, by omega, by omega, by go_num, Lib.hid (O3.out.keep0 ((Keep.refl _ _).drew))⟩
        case measure => simp [intOf]; omega
      · have ho : outO c i = some (kk (i - c)) := if_neg hic
        rw [ho] at T1
        obtain ⟨j, hj⟩ : ∃ j, j = i - c := ⟨_, rfl⟩
        rw [← hj] at T1
        have hij : IntKind.i64.wrap ((i : Int) - (c : Int)) = (j : Int) := (IntWalk.i64_in _ (by omega)).trans (by omega)
        have hic' : ¬ (i : Int) < (c : Int) := by omega
        have hic2 : (c : Int) ≤ (i : Int) := by omega
        have hmod2 : (j : Int) % 256 = (j : Int) := by omega
        have hj256 : j < 256 := by omega
        have hwj : IntKind.u8.wrap (j : Int) = (j : Int) := (by decide +kernel : ∀ q : Nat, q < 256 → IntKind.u8.wrap (q : Int) = (q : Int)) j hj256
        clear hj
        go_wp2_with (go_at_call 12; refine T1.out.mono ?_; clear T1; rintro e w3 ⟨v, rfl, o3, O3⟩; obtain ⟨g, rfl, hg, -⟩ := o3; replace O3 := Lib.hid O3)
        have cg : w3.cell? ⟨g, 0, none⟩ = some (.string (kk j)) := cell_at hg 0
        have hcv3 : (convert 33 9 (.slice (some ⟨w3.heap.size, 0, none⟩) 2 2)).run Try.prog ((w3.alloc (.cells #[.int .u8 (j : Int), .int .u8 107] 5)).drew) = .ok (.string (kk j)) ((w3.alloc (.cells #[.int .u8 (j : Int), .int .u8 107] 5)).drew) := cvk j hj256 w3.drew
        refine wp_region_held_drew (S := (fun w' => Keep (fun _ => False) w3 w' ∧ w'.cell? ⟨g, 0, none⟩ = some (.string (kk j)))) (by kernel_rfl) ?_ (fun hHeld => ?_)
        · exact ⟨(Keep.refl (fun _ => False) w3).drew, cg⟩
        refine wpAnyH_take (i := 0) (oi := { dst := some 39, op := Op.move (Operand.tmp 9), type := 3, pos := "more.go:17", after := #[], guard := none }) (v := .int .i64 (i : Int)) rfl (by kernel_rfl) (by kernel_rfl) (by kernel_rfl) (fun _ _ _ h => h) (Or.inl ⟨by rfl, ?_⟩) (by assumption) ?_
        · (intro w' hSw; (try dsimp only at hSw); go_simp)
        try simp only [Act.put, List.setIfInBounds_toArray, List.set_cons_zero, List.set_cons_succ]
        refine wpAnyH_take (i := 1) (oi := { dst := some 40, op := Op.move (Operand.tmp 5), type := 3, pos := "more.go:17", after := #[], guard := none }) (v := .int .i64 (c : Int)) rfl (by kernel_rfl) (by kernel_rfl) (by kernel_rfl) (fun _ _ _ h => h) (Or.inl ⟨by rfl, ?_⟩) (by assumption) ?_
        · (intro w' hSw; (try dsimp only at hSw); go_simp)
        try simp only [Act.put, List.setIfInBounds_toArray, List.set_cons_zero, List.set_cons_succ]
        refine wpAnyH_take (i := 2) (oi := { dst := some 41, op := Op.binOp BinOp.lss 3 (Operand.tmp 39) (Operand.tmp 40) 3, type := 4, pos := "more.go:17", after := #[{ on := 0, ground := Ground.data }, { on := 1, ground := Ground.data }], guard := none }) (v := .bool false) rfl (by kernel_rfl) (by kernel_rfl) (by kernel_rfl) (fun _ _ _ h => h) (Or.inl ⟨by rfl, ?_⟩) (by assumption) ?_
        · (intro w' hSw; (try dsimp only at hSw); go_simp)
        try simp only [Act.put, List.setIfInBounds_toArray, List.set_cons_zero, List.set_cons_succ]
        refine wpAnyH_take (i := 3) (oi := { dst := some 42, op := Op.move (Operand.tmp 41), type := 4, pos := "more.go:17", after := #[{ on := 2, ground := Ground.data }], guard := none }) (v := .bool false) rfl (by kernel_rfl) (by kernel_rfl) (by kernel_rfl) (fun _ _ _ h => h) (Or.inl ⟨by rfl, ?_⟩) (by assumption) ?_
        · (intro w' hSw; (try dsimp only at hSw); go_simp)
        try simp only [Act.put, List.setIfInBounds_toArray, List.set_cons_zero, List.set_cons_succ]
        refine wpAnyH_take (i := 4) (oi := { dst := some 43, op := Op.move (Operand.tmp 10), type := 22, pos := "more.go:17", after := #[{ on := 3, ground := Ground.guard }], guard := some (3, true) }) (v := undef) rfl (by kernel_rfl) (by kernel_rfl) (by kernel_rfl) (fun _ _ _ h => h) (Or.inr ⟨by rfl, rfl⟩) (by assumption) ?_
        try simp only [Act.put, List.setIfInBounds_toArray, List.set_cons_zero, List.set_cons_succ]
        refine wpAnyH_take (i := 5) (oi := { dst := some 44, op := Op.call { callee := Callee.builtin Builtin.len, args := #[Operand.tmp 43], argTypes := #[22] }, type := 3, pos := "more.go:17", after := #[{ on := 4, ground := Ground.data }, { on := 3, ground := Ground.guard }], guard := some (3, true) }) (v := undef) rfl (by kernel_rfl) (by kernel_rfl) (by kernel_rfl) (fun _ _ _ h => h) (Or.inr ⟨by rfl, rfl⟩) (by assumption) ?_
        try simp only [Act.put, List.setIfInBounds_toArray, List.set_cons_zero, List.set_cons_succ]
        refine wpAnyH_take (i := 6) (oi := { dst := some 45, op := Op.binOp BinOp.neq 3 (Operand.tmp 44) (Operand.const (Value.int IntKind.i64 0)) 3, type := 4, pos := "more.go:17", after := #[{ on := 5, ground := Ground.data }, { on := 3, ground := Ground.guard }], guard := some (3, true) }) (v := undef) rfl (by kernel_rfl) (by kernel_rfl) (by kernel_rfl) (fun _ _ _ h => h) (Or.inr ⟨by rfl, rfl⟩) (by assumption) ?_
        try simp only [Act.put, List.setIfInBounds_toArray, List.set_cons_zero, List.set_cons_succ]
        refine wpAnyH_take (i := 7) (oi := { dst := some 46, op := Op.pick (Operand.tmp 42) (Operand.tmp 45) (Operand.const (Value.bool false)), type := 4, pos := "more.go:17", after := #[{ on := 3, ground := Ground.data }, { on := 6, ground := Ground.data }], guard := none }) (v := .bool false) rfl (by kernel_rfl) (by kernel_rfl) (by kernel_rfl) (fun _ _ _ h => h) (Or.inl ⟨by rfl, ?_⟩) (by assumption) ?_
        · (intro w' hSw; (try dsimp only at hSw); go_simp)
        try simp only [Act.put, List.setIfInBounds_toArray, List.set_cons_zero, List.set_cons_succ]
        refine wpAnyH_take (i := 8) (oi := { dst := some 47, op := Op.move (Operand.tmp 46), type := 4, pos := "more.go:17", after := #[{ on := 7, ground := Ground.data }, { on := 3, ground := Ground.chain }], guard := none }) (v := .bool false) rfl (by kernel_rfl) (by kernel_rfl) (by kernel_rfl) (fun _ _ _ h => h) (Or.inl ⟨by rfl, ?_⟩) (by assumption) ?_
        · (intro w' hSw; (try dsimp only at hSw); go_simp)
        try simp only [Act.put, List.setIfInBounds_toArray, List.set_cons_zero, List.set_cons_succ]
        refine wpAnyH_take (i := 9) (oi := { dst := some 48, op := Op.move (Operand.tmp 9), type := 3, pos := "more.go:17", after := #[{ on := 8, ground := Ground.guard }], guard := some (8, false) }) (v := .int .i64 (i : Int)) rfl (by kernel_rfl) (by kernel_rfl) (by kernel_rfl) (fun _ _ _ h => h) (Or.inl ⟨by rfl, ?_⟩) (by assumption) ?_
        · (intro w' hSw; (try dsimp only at hSw); go_simp)
        try simp only [Act.put, List.setIfInBounds_toArray, List.set_cons_zero, List.set_cons_succ]
        refine wpAnyH_take (i := 10) (oi := { dst := some 49, op := Op.move (Operand.tmp 5), type := 3, pos := "more.go:17", after := #[{ on := 8, ground := Ground.guard }], guard := some (8, false) }) (v := .int .i64 (c : Int)) rfl (by kernel_rfl) (by kernel_rfl) (by kernel_rfl) (fun _ _ _ h => h) (Or.inl ⟨by rfl, ?_⟩) (by assumption) ?_
        · (intro w' hSw; (try dsimp only at hSw); go_simp)
        try simp only [Act.put, List.setIfInBounds_toArray, List.set_cons_zero, List.set_cons_succ]
        refine wpAnyH_take (i := 11) (oi := { dst := some 50, op := Op.binOp BinOp.geq 3 (Operand.tmp 48) (Operand.tmp 49) 3, type := 4, pos := "more.go:17", after := #[{ on := 9, ground := Ground.data }, { on := 10, ground := Ground.data }, { on := 8, ground := Ground.guard }], guard := some (8, false) }) (v := .bool true) rfl (by kernel_rfl) (by kernel_rfl) (by kernel_rfl) (fun _ _ _ h => h) (Or.inl ⟨by rfl, ?_⟩) (by assumption) ?_
        · (intro w' hSw; (try dsimp only at hSw); go_simp)
        try simp only [Act.put, List.setIfInBounds_toArray, List.set_cons_zero, List.set_cons_succ]
        refine wpAnyH_take (i := 12) (oi := { dst := some 51, op := Op.move (Operand.tmp 50), type := 4, pos := "more.go:17", after := #[{ on := 11, ground := Ground.data }, { on := 8, ground := Ground.chain }, { on := 8, ground := Ground.guard }], guard := some (8, false) }) (v := .bool true) rfl (by kernel_rfl) (by kernel_rfl) (by kernel_rfl) (fun _ _ _ h => h) (Or.inl ⟨by rfl, ?_⟩) (by assumption) ?_
        · (intro w' hSw; (try dsimp only at hSw); go_simp)
        try simp only [Act.put, List.setIfInBounds_toArray, List.set_cons_zero, List.set_cons_succ]
        refine wpAnyH_take (i := 13) (oi := { dst := some 52, op := Op.move (Operand.tmp 10), type := 22, pos := "more.go:17", after := #[{ on := 12, ground := Ground.guard }], guard := some (12, true) }) (v := .slice (some ⟨g, 0, none⟩) 1 1) rfl (by kernel_rfl) (by kernel_rfl) (by kernel_rfl) (fun _ _ _ h => h) (Or.inl ⟨by rfl, ?_⟩) (by assumption) ?_
        · (intro w' hSw; (try dsimp only at hSw); go_simp)
        try simp only [Act.put, List.setIfInBounds_toArray, List.set_cons_zero, List.set_cons_succ]
        refine wpAnyH_take (i := 14) (oi := { dst := some 53, op := Op.call { callee := Callee.builtin Builtin.len, args := #[Operand.tmp 52], argTypes := #[22] }, type := 3, pos := "more.go:17", after := #[{ on := 13, ground := Ground.data }, { on := 12, ground := Ground.guard }], guard := some (12, true) }) (v := .int .i64 1) rfl (by kernel_rfl) (by kernel_rfl) (by kernel_rfl) (fun _ _ _ h => h) (Or.inl ⟨by rfl, ?_⟩) (by assumption) ?_
        · (intro w' hSw; (try dsimp only at hSw); go_simp)
        try simp only [Act.put, List.setIfInBounds_toArray, List.set_cons_zero, List.set_cons_succ]
        refine wpAnyH_take (i := 15) (oi := { dst := some 54, op := Op.binOp BinOp.neq 3 (Operand.tmp 53) (Operand.const (Value.int IntKind.i64 1)) 3, type := 4, pos := "more.go:17", after := #[{ on := 14, ground := Ground.data }, { on := 12, ground := Ground.guard }], guard := some (12, true) }) (v := .bool false) rfl (by kernel_rfl) (by kernel_rfl) (by kernel_rfl) (fun _ _ _ h => h) (Or.inl ⟨by rfl, ?_⟩) (by assumption) ?_
        · (intro w' hSw; (try dsimp only at hSw); go_simp)
        try simp only [Act.put, List.setIfInBounds_toArray, List.set_cons_zero, List.set_cons_succ]
        refine wpAnyH_take (i := 16) (oi := { dst := some 55, op := Op.move (Operand.tmp 54), type := 4, pos := "more.go:17", after := #[{ on := 15, ground := Ground.data }, { on := 12, ground := Ground.chain }, { on := 12, ground := Ground.guard }], guard := some (12, true) }) (v := .bool false) rfl (by kernel_rfl) (by kernel_rfl) (by kernel_rfl) (fun _ _ _ h => h) (Or.inl ⟨by rfl, ?_⟩) (by assumption) ?_
        · (intro w' hSw; (try dsimp only at hSw); go_simp)
        try simp only [Act.put, List.setIfInBounds_toArray, List.set_cons_zero, List.set_cons_succ]
        refine wpAnyH_take (i := 17) (oi := { dst := some 56, op := Op.move (Operand.tmp 10), type := 22, pos := "more.go:17", after := #[{ on := 16, ground := Ground.guard }], guard := some (16, false) }) (v := .slice (some ⟨g, 0, none⟩) 1 1) rfl (by kernel_rfl) (by kernel_rfl) (by kernel_rfl) (fun _ _ _ h => h) (Or.inl ⟨by rfl, ?_⟩) (by assumption) ?_
        · (intro w' hSw; (try dsimp only at hSw); go_simp)
        try simp only [Act.put, List.setIfInBounds_toArray, List.set_cons_zero, List.set_cons_succ]
        refine wpAnyH_take (i := 18) (oi := { dst := some 57, op := Op.indexAddr 22 (Operand.tmp 56) (Operand.const (Value.int IntKind.i64 0)), type := 0, pos := "more.go:17", after := #[{ on := 17, ground := Ground.data }, { on := 16, ground := Ground.guard }], guard := some (16, false) }) (v := .pointer (some ⟨g, 0, none⟩)) rfl (by kernel_rfl) (by kernel_rfl) (by kernel_rfl) (fun _ _ _ h => h) (Or.inl ⟨by rfl, ?_⟩) (by assumption) ?_
        · (intro w' hSw; (try dsimp only at hSw); go_simp)
        try simp only [Act.put, List.setIfInBounds_toArray, List.set_cons_zero, List.set_cons_succ]
        refine wpAnyH_take (i := 19) (oi := { dst := some 58, op := Op.load 9 (Operand.tmp 57), type := 9, pos := "more.go:17", after := #[{ on := 18, ground := Ground.data }, { on := 16, ground := Ground.guard }], guard := some (16, false) }) (v := .string (kk j)) rfl (by kernel_rfl) (by kernel_rfl) (by kernel_rfl) (fun _ _ _ h => h) (Or.inl ⟨by rfl, ?_⟩) (by assumption) ?_
        · (intro w' hSw; (try dsimp only at hSw); go_simp)
        try simp only [Act.put, List.setIfInBounds_toArray, List.set_cons_zero, List.set_cons_succ]
        refine wpAnyH_take (i := 20) (oi := { dst := some 59, op := Op.move (Operand.tmp 9), type := 3, pos := "more.go:17", after := #[{ on := 16, ground := Ground.guard }], guard := some (16, false) }) (v := .int .i64 (i : Int)) rfl (by kernel_rfl) (by kernel_rfl) (by kernel_rfl) (fun _ _ _ h => h) (Or.inl ⟨by rfl, ?_⟩) (by assumption) ?_
        · (intro w' hSw; (try dsimp only at hSw); go_simp)
        try simp only [Act.put, List.setIfInBounds_toArray, List.set_cons_zero, List.set_cons_succ]
        refine wpAnyH_take (i := 21) (oi := { dst := some 60, op := Op.move (Operand.tmp 5), type := 3, pos := "more.go:17", after := #[{ on := 16, ground := Ground.guard }], guard := some (16, false) }) (v := .int .i64 (c : Int)) rfl (by kernel_rfl) (by kernel_rfl) (by kernel_rfl) (fun _ _ _ h => h) (Or.inl ⟨by rfl, ?_⟩) (by assumption) ?_
        · (intro w' hSw; (try dsimp only at hSw); go_simp)
        try simp only [Act.put, List.setIfInBounds_toArray, List.set_cons_zero, List.set_cons_succ]
        refine wpAnyH_take (i := 22) (oi := { dst := some 61, op := Op.binOp BinOp.sub 3 (Operand.tmp 59) (Operand.tmp 60) 3, type := 3, pos := "more.go:17", after := #[{ on := 20, ground := Ground.data }, { on := 21, ground := Ground.data }, { on := 16, ground := Ground.guard }], guard := some (16, false) }) (v := .int .i64 (j : Int)) rfl (by kernel_rfl) (by kernel_rfl) (by kernel_rfl) (fun _ _ _ h => h) (Or.inl ⟨by rfl, ?_⟩) (by assumption) ?_
        · (intro w' hSw; (try dsimp only at hSw); go_simp)
        try simp only [Act.put, List.setIfInBounds_toArray, List.set_cons_zero, List.set_cons_succ]
        refine wpAnyH_take (i := 23) (oi := { dst := some 62, op := Op.convert 3 5 (Operand.tmp 61), type := 5, pos := "more.go:17", after := #[{ on := 22, ground := Ground.data }, { on := 16, ground := Ground.guard }], guard := some (16, false) }) (v := .int .u8 (j : Int)) rfl (by kernel_rfl) (by kernel_rfl) (by kernel_rfl) (fun _ _ _ h => h) (Or.inl ⟨by rfl, ?_⟩) (by assumption) ?_
        · (intro w' hSw; (try dsimp only at hSw); go_simp)
        try simp only [Act.put, List.setIfInBounds_toArray, List.set_cons_zero, List.set_cons_succ]
        refine wpAnyH_ready (rs := [24]) (by kernel_rfl) (by simp) ?_
        refine AllReadyH.cons (o := { dst := some 63, op := Op.buildSlice 33 2 #[(0, Operand.tmp 62), (1, Operand.const (Value.int IntKind.u8 107))], type := 33, pos := "more.go:17", after := #[{ on := 23, ground := Ground.data }, { on := 16, ground := Ground.guard }], guard := some (16, false) }) rfl (fun K hK => ?_) AllReadyH.nil
        go_simp
        refine hK.out _ _ ⟨((Keep.refl (fun _ => False) w3).drew).alloc _, ((((Keep.refl (fun _ => False) w3).drew).alloc _).cell (lt_of_block hg) (fun e => e)).trans cg⟩ (fun hHeld => ?_)
        clear hK K
        try simp only [Act.put, List.setIfInBounds_toArray, List.set_cons_zero, List.set_cons_succ]
        refine wpAnyH_ready (rs := [25]) (by kernel_rfl) (by simp) ?_
        refine AllReadyH.cons (o := { dst := some 64, op := Op.convert 33 9 (Operand.tmp 63), type := 9, pos := "more.go:17", after := #[{ on := 24, ground := Ground.data }, { on := 16, ground := Ground.guard }], guard := some (16, false) }) rfl (fun K hK => ?_) AllReadyH.nil
        go_simp
        refine hK.out _ _ ⟨((Keep.refl (fun _ => False) w3).alloc _).drew, ((((Keep.refl (fun _ => False) w3).alloc _).drew).cell (lt_of_block hg) (fun e => e)).trans cg⟩ (fun hHeld => ?_)
        clear hK K
        try simp only [Act.put, List.setIfInBounds_toArray, List.set_cons_zero, List.set_cons_succ]
        refine wpAnyH_take (i := 26) (oi := { dst := some 65, op := Op.binOp BinOp.neq 9 (Operand.tmp 58) (Operand.tmp 64) 9, type := 4, pos := "more.go:17", after := #[{ on := 19, ground := Ground.data }, { on := 25, ground := Ground.data }, { on := 16, ground := Ground.guard }], guard := some (16, false) }) (v := .bool false) rfl (by kernel_rfl) (by kernel_rfl) (by kernel_rfl) (fun _ _ _ h => h) (Or.inl ⟨by rfl, ?_⟩) (by assumption) ?_
        · (intro w' hSw; (try dsimp only at hSw); go_simp)
        try simp only [Act.put, List.setIfInBounds_toArray, List.set_cons_zero, List.set_cons_succ]
        refine wpAnyH_take (i := 27) (oi := { dst := some 66, op := Op.pick (Operand.tmp 55) (Operand.const (Value.bool true)) (Operand.tmp 65), type := 4, pos := "more.go:17", after := #[{ on := 16, ground := Ground.data }, { on := 26, ground := Ground.data }, { on := 12, ground := Ground.guard }], guard := some (12, true) }) (v := .bool false) rfl (by kernel_rfl) (by kernel_rfl) (by kernel_rfl) (fun _ _ _ h => h) (Or.inl ⟨by rfl, ?_⟩) (by assumption) ?_
        · (intro w' hSw; (try dsimp only at hSw); go_simp)
        try simp only [Act.put, List.setIfInBounds_toArray, List.set_cons_zero, List.set_cons_succ]
        refine wpAnyH_take (i := 28) (oi := { dst := some 67, op := Op.pick (Operand.tmp 51) (Operand.tmp 66) (Operand.const (Value.bool false)), type := 4, pos := "more.go:17", after := #[{ on := 12, ground := Ground.data }, { on := 27, ground := Ground.data }, { on := 8, ground := Ground.guard }], guard := some (8, false) }) (v := .bool false) rfl (by kernel_rfl) (by kernel_rfl) (by kernel_rfl) (fun _ _ _ h => h) (Or.inl ⟨by rfl, ?_⟩) (by assumption) ?_
        · (intro w' hSw; (try dsimp only at hSw); go_simp)
        try simp only [Act.put, List.setIfInBounds_toArray, List.set_cons_zero, List.set_cons_succ]
        refine wpAnyH_take (i := 29) (oi := { dst := some 68, op := Op.pick (Operand.tmp 47) (Operand.const (Value.bool true)) (Operand.tmp 67), type := 4, pos := "more.go:17", after := #[{ on := 8, ground := Ground.data }, { on := 28, ground := Ground.data }], guard := none }) (v := .bool false) rfl (by kernel_rfl) (by kernel_rfl) (by kernel_rfl) (fun _ _ _ h => h) (Or.inl ⟨by rfl, ?_⟩) (by assumption) ?_
        · (intro w' hSw; (try dsimp only at hSw); go_simp)
        try simp only [Act.put, List.setIfInBounds_toArray, List.set_cons_zero, List.set_cons_succ]
        refine wpAnyH_done (by kernel_rfl) ?_ _
        go_wp2_with fail
        go_roundw
        case rel => exact ⟨i + 1, T + 2, by omega, by omega, by go_num, Lib.hid (O3.out.keep0 (((Keep.refl _ _).drew).alloc _))⟩
        case measure => simp [intOf]; omega
    · obtain rfl : i = m := by omega
      go_wp2_with fail
      go_loopw [11] (fun xi wq => ∃ (j : Nat), j ≤ i ∧ xi = .int .i64 (j : Int) ∧ Hid (Own w wq ab b c T (stO c i))) (fun xi wq => i - (intOf xi).toNat)
      case atStart => exact ⟨0, by omega, rfl, hR⟩
      case round =>
        obtain ⟨j, hj, rfl, hR2⟩ := hrel
        by_cases hlt2 : j < i
        · have hcv := fun W => cvk j (by omega) W
          have hmod : (j : Int) % 256 = (j : Int) := by omega
          have hq := once_has (c := c) (m := i) (by omega) hlt2
          obtain ⟨d, hd⟩ : ∃ d : Int, d = (i : Int) - (c : Int) := ⟨_, rfl⟩
          have hdw : IntKind.i64.wrap ((i : Int) - (c : Int)) = d := (IntWalk.i64_in _ (by omega)).trans hd.symm
          by_cases hge : i - c ≤ j
          · rw [decide_eq_true hge] at hq
            have hge' : d ≤ (j : Int) := by omega
            have T1 := Lib.hid (fun o => show Calls _ _ _ _ _ from by have := own_has (hR2.out.keep0 ((Keep.refl (fun _ => False) _).alloc o)) (kk j) (by rw [kk_size]; omega); rw [hq] at this; exact this)
            clear hd hq
            go_wp2_with (go_at_call 14; refine (T1.out _).mono ?_; clear T1; rintro e w4 ⟨rfl, rfl⟩)
            go_roundw
            case rel => exact ⟨j + 1, by omega, by go_num, Lib.hid (hR2.out.keep0 ((Keep.refl _ _).alloc _))⟩
            case measure => simp [intOf]; omega
          · rw [decide_eq_false hge] at hq
            have hge' : ¬ d ≤ (j : Int) := by omega
            have T1 := Lib.hid (fun o => show Calls _ _ _ _ _ from by have := own_has (hR2.out.keep0 ((Keep.refl (fun _ => False) _).alloc o)) (kk j) (by rw [kk_size]; omega); rw [hq] at this; exact this)
            clear hd hq
            go_wp2_with (go_at_call 14; refine (T1.out _).mono ?_; clear T1; rintro e w4 ⟨rfl, rfl⟩)
            go_roundw
            case rel => exact ⟨j + 1, by omega, by go_num, Lib.hid (hR2.out.keep0 ((Keep.refl _ _).alloc _))⟩
            case measure => simp [intOf]; omega
        · obtain rfl : j = i := by omega
          have T2 := Lib.hid (own_target hR2.out)
          have T3 := own_len hR2.out
          by_cases hcm2 : c ≤ j
          · have e3 : (((stO c j).A.length : Int) + ((stO c j).B.length : Int)) = (c : Int) := by
              show ((lst c j).length : Int) + ((0 : Nat) : Int) = _
              rw [lst_len]; omega
            rw [e3] at T3
            have T4 := Lib.hid T3
            have hx1 : ¬ (j : Int) < (c : Int) := by omega
            clear T3 e3
            go_wp2_with (first
              | (go_at_call 16; refine T2.out.mono ?_; rintro e w5 ⟨rfl, rfl⟩)
              | (go_at_call 13; refine T4.out.mono ?_; rintro e w6 ⟨rfl, O6⟩; replace O6 := Lib.hid O6))
            all_goals first | omega | skip
            all_goals
              go_ret
              exact ⟨rfl, O6.out.kept.below0⟩
          · have e3 : (((stO c j).A.length : Int) + ((stO c j).B.length : Int)) = (j : Int) := by
              show ((lst c j).length : Int) + ((0 : Nat) : Int) = _
              rw [lst_len]; omega
            rw [e3] at T3
            have T4 := Lib.hid T3
            have hx1 : (j : Int) < (c : Int) := by omega
            clear T3 e3
            go_wp2_with (first
              | (go_at_call 16; refine T2.out.mono ?_; rintro e w5 ⟨rfl, rfl⟩)
              | (go_at_call 13; refine T4.out.mono ?_; rintro e w6 ⟨rfl, O6⟩; replace O6 := Lib.hid O6))
            all_goals first | omega | skip
            all_goals
              go_ret
              exact ⟨rfl, O6.out.kept.below0⟩

end Go.Proofs.Ytebjbkpgicbgeaa.ArcS
