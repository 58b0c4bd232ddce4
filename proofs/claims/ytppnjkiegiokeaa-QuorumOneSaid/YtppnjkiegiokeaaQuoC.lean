/-
  Layer 17 (quorum): an arbiter's cell, and what its functions do.
-/
import Derived.Test.YtppnjkiegiokeaaQuoX
import Derived.Test.YtppnjkiegiokeaaQuoT
import Derived.Test.YtppnjkiegiokeaaMem2
import Derived.Deep.DeepCutAuto
namespace Go.Proofs.Ytppnjkiegiokeaa.QuoC
set_option linter.unusedVariables false
set_option linter.unusedSimpArgs false
set_option maxRecDepth 100000
open Go.RowKit Go.Proofs.Ytppnjkiegiokeaa.Mem Go.Proofs.Ytppnjkiegiokeaa.QuoW Go.Proofs.Ytppnjkiegiokeaa.QuoV Go.Proofs.Ytppnjkiegiokeaa.QuoU Go.Proofs.Ytppnjkiegiokeaa.QuoR Go.Proofs.Ytppnjkiegiokeaa.QuoS Go.Proofs.Ytppnjkiegiokeaa.QuoX
abbrev TC : TypeId := 62
abbrev TVw : TypeId := 29
abbrev TPm : TypeId := 37
def Ce.row (c : Ce) : Array Value := #[.int .u64 1, .int .i64 0, .int .u64 1, .int .i64 (-1), .int .u64 0, .int .u64 1, .int .u64 c.most, .int .u64 c.bal, .int .u64 c.val.v, .int .i64 c.val.p, .int .u64 c.val.pl, .int .i64 c.val.b, .int .u64 c.val.bl, .int .u64 c.val.e]
def CAt (w : World) (b : Nat) (c : Ce) : Prop := w.heap[b]? = some (.cells (Ce.row c) TC (0, 0))
theorem CAt.c {w : World} {b : Nat} {c : Ce} (h : CAt w b c) (i : Nat) : w.cell? ⟨b, i, none⟩ = (Ce.row c)[i]? := cell_at h i
theorem CAt.keep {w w' : World} {b : Nat} {c : Ce} {S : Nat → Prop} (h : CAt w b c) (k : Keep S w w') (hn : ¬ S b) : CAt w' b c := (k.block b (lt_of_block h) hn).trans h
set_option maxHeartbeats 8000000 in
theorem promise_any (b : Nat) (ok : Bool) (most bal : Int) (v : Vw) (w : World) (h : CAt w b ⟨most, bal, v⟩) :
    Calls Try.prog 25 #[.pointer (some ⟨b, 0, none⟩), .bool ok] w fun e w' => e = .returned (Pr.mk ok 2 most bal v firstV).agg ∧ Keep (fun _ => False) w w' := by
  have c0 : ∀ o, (w.alloc o).cell? ⟨b, 0, none⟩ = some (.int .u64 1) := fun o => cell_at (block_alloc h o) 0
  have c1 : ∀ o, (w.alloc o).cell? ⟨b, 1, none⟩ = some (.int .i64 0) := fun o => cell_at (block_alloc h o) 1
  have c2 : ∀ o, (w.alloc o).cell? ⟨b, 2, none⟩ = some (.int .u64 1) := fun o => cell_at (block_alloc h o) 2
  have c3 : ∀ o, (w.alloc o).cell? ⟨b, 3, none⟩ = some (.int .i64 (-1)) := fun o => cell_at (block_alloc h o) 3
  have c4 : ∀ o, (w.alloc o).cell? ⟨b, 4, none⟩ = some (.int .u64 0) := fun o => cell_at (block_alloc h o) 4
  have c5 : ∀ o, (w.alloc o).cell? ⟨b, 5, none⟩ = some (.int .u64 1) := fun o => cell_at (block_alloc h o) 5
  have c6 : ∀ o, (w.alloc o).cell? ⟨b, 6, none⟩ = some (.int .u64 most) := fun o => cell_at (block_alloc h o) 6
  have c7 : ∀ o, (w.alloc o).cell? ⟨b, 7, none⟩ = some (.int .u64 bal) := fun o => cell_at (block_alloc h o) 7
  have c8 : ∀ o, (w.alloc o).cell? ⟨b, 8, none⟩ = some (.int .u64 v.v) := fun o => cell_at (block_alloc h o) 8
  have c9 : ∀ o, (w.alloc o).cell? ⟨b, 9, none⟩ = some (.int .i64 v.p) := fun o => cell_at (block_alloc h o) 9
  have c10 : ∀ o, (w.alloc o).cell? ⟨b, 10, none⟩ = some (.int .u64 v.pl) := fun o => cell_at (block_alloc h o) 10
  have c11 : ∀ o, (w.alloc o).cell? ⟨b, 11, none⟩ = some (.int .i64 v.b) := fun o => cell_at (block_alloc h o) 11
  have c12 : ∀ o, (w.alloc o).cell? ⟨b, 12, none⟩ = some (.int .u64 v.bl) := fun o => cell_at (block_alloc h o) 12
  have c13 : ∀ o, (w.alloc o).cell? ⟨b, 13, none⟩ = some (.int .u64 v.e) := fun o => cell_at (block_alloc h o) 13
  obtain ⟨v0, v1, v2, v3, v4, v5⟩ := v
  simp only at c8 c9 c10 c11 c12 c13
  clear h
  have k0 : ∀ o, Keep (fun _ => False) w (w.alloc o) := fun o => (Keep.refl _ w).alloc o
  have HK := Lib.hid k0
  clear k0
  unfold Pr.agg firstV
  go_enter Try.func25, Try.ntmps25
  go_wp2_with fail
  go_region
  go_wp2_with fail
  exact bodyPost_ret (v := .agg #[.bool ok, .int .u64 2, .int .u64 most, .int .u64 bal, .int .u64 v0, .int .i64 v1, .int .u64 v2, .int .i64 v3, .int .u64 v4, .int .u64 v5, .int .u64 1, .int .i64 0, .int .u64 1, .int .i64 (-1), .int .u64 0, .int .u64 1]) (by simp [results, Try.results25, go_sem]) rfl ⟨rfl, (HK.out _).drew⟩

set_option maxHeartbeats 8000000 in
theorem learn_no (b : Nat) (c : Ce) (w : World) (h : CAt w b c) :
    Calls Try.prog 24 #[.pointer (some ⟨b, 0, none⟩), firstV.agg] w fun e w' => e = .returned (.bool false) ∧ Keep (fun _ => False) w w' := by
  have HC := Lib.hid h
  have C1 := Lib.hid (check_one 1 0 1 1 (by omega) (by omega) (by omega) (by omega) (by omega))
  clear h
  unfold Vw.agg firstV
  simp only [Vw.agg] at C1
  go_enter Try.func24, Try.ntmps24
  go_upto_region 1 with fail
  obtain ⟨W, hW⟩ : ∃ V, V = w.alloc (.cells #[.int .u64 1, .int .i64 0, .int .u64 1, .int .i64 (-1), .int .u64 0, .int .u64 1] TVw) := ⟨_, rfl⟩
  rw [← hW]
  have KW := Lib.hid (show Keep (fun _ => False) w W by rw [hW]; exact (Keep.refl _ _).alloc _)
  have HX := Lib.hid (show W.heap[w.heap.size]? = some (.cells #[.int .u64 1, .int .i64 0, .int .u64 1, .int .i64 (-1), .int .u64 0, .int .u64 1] TVw (0, 0)) by rw [hW]; exact block_new w _)
  clear hW
  have HCW := Lib.hid (HC.out.keep KW.out (fun e => e))
  have HS := Lib.hid (show ∀ w' : World, Keep (fun _ => False) W w' → w'.cell? ⟨w.heap.size, 0, none⟩ = some (.int .u64 1) ∧ w'.cell? ⟨w.heap.size, 1, none⟩ = some (.int .i64 0) ∧ w'.cell? ⟨w.heap.size, 2, none⟩ = some (.int .u64 1) ∧ w'.cell? ⟨w.heap.size, 3, none⟩ = some (.int .i64 (-1)) ∧ w'.cell? ⟨w.heap.size, 4, none⟩ = some (.int .u64 0) ∧ w'.cell? ⟨w.heap.size, 5, none⟩ = some (.int .u64 1) ∧ w'.cell? ⟨b, 0, none⟩ = some (.int .u64 1) from fun w' kw => by
    have hx := (kw.block _ (lt_of_block HX.out) (fun e => e)).trans HX.out
    exact ⟨cell_at hx 0, cell_at hx 1, cell_at hx 2, cell_at hx 3, cell_at hx 4, cell_at hx 5, cell_at (HCW.out.keep kw (fun e => e)) 0⟩)
  refine wp_region_held_drew (S := (fun w' => Keep (fun _ => False) W w')) (by kernel_rfl) ?_ (fun hHeld => ?_)
  · exact (Keep.refl _ W).drew
  generalize hwd : W.drew = wd at hHeld ⊢
  have KD := Lib.hid (show Keep (fun _ => False) W wd by rw [← hwd]; exact (Keep.refl _ W).drew)
  clear hwd
  refine wpAnyH_take (i := 0) (oi := { dst := some 5, op := Op.move (Operand.tmp 0), type := 44, pos := "cell.go:44", after := #[], guard := none }) (v := .pointer (some ⟨b, 0, none⟩)) rfl (by kernel_rfl) (by kernel_rfl) (by kernel_rfl) (fun _ _ _ h => h) (Or.inl ⟨by rfl, ?_⟩) (by assumption) ?_
  · (intro w' hSw; (try dsimp only at hSw); go_simp)
  try simp only [Act.put, List.setIfInBounds_toArray, List.set_cons_zero, List.set_cons_succ]
  refine wpAnyH_take (i := 1) (oi := { dst := some 6, op := Op.binOp BinOp.eql 44 (Operand.tmp 5) (Operand.const (Value.pointer none)) 44, type := 4, pos := "cell.go:44", after := #[{ on := 0, ground := Ground.data }], guard := none }) (v := .bool false) rfl (by kernel_rfl) (by kernel_rfl) (by kernel_rfl) (fun _ _ _ h => h) (Or.inl ⟨by rfl, ?_⟩) (by assumption) ?_
  · (intro w' hSw; (try dsimp only at hSw); go_simp)
  try simp only [Act.put, List.setIfInBounds_toArray, List.set_cons_zero, List.set_cons_succ]
  refine wpAnyH_take (i := 2) (oi := { dst := some 7, op := Op.move (Operand.tmp 6), type := 4, pos := "cell.go:44", after := #[{ on := 1, ground := Ground.data }], guard := none }) (v := .bool false) rfl (by kernel_rfl) (by kernel_rfl) (by kernel_rfl) (fun _ _ _ h => h) (Or.inl ⟨by rfl, ?_⟩) (by assumption) ?_
  · (intro w' hSw; (try dsimp only at hSw); go_simp)
  try simp only [Act.put, List.setIfInBounds_toArray, List.set_cons_zero, List.set_cons_succ]
  refine wpAnyH_take (i := 3) (oi := { dst := some 8, op := Op.load 29 (Operand.tmp 3), type := 29, pos := "cell.go:44", after := #[{ on := 2, ground := Ground.guard }], guard := some (2, false) }) (v := .agg #[.int .u64 1, .int .i64 0, .int .u64 1, .int .i64 (-1), .int .u64 0, .int .u64 1]) rfl (by kernel_rfl) (by kernel_rfl) (by kernel_rfl) (fun _ _ _ h => h) (Or.inl ⟨by rfl, ?_⟩) (by assumption) ?_
  · (intro w' hSw; (try dsimp only at hSw); obtain ⟨x0, x1, x2, x3, x4, x5, y0⟩ := HS.out w' hSw; go_simp)
  try simp only [Act.put, List.setIfInBounds_toArray, List.set_cons_zero, List.set_cons_succ]
  refine wpAnyH_ready (rs := [4]) (by kernel_rfl) (by simp) ?_
  refine AllReadyH.cons (o := { dst := some 9, op := Op.call { callee := Callee.value (Operand.func 18), args := #[Operand.tmp 8], argTypes := #[29] }, type := 4, pos := "cell.go:44", after := #[{ on := 3, ground := Ground.data }, { on := 2, ground := Ground.chain }, { on := 2, ground := Ground.guard }], guard := some (2, false) }) rfl (fun K hK => ?_) AllReadyH.nil
  go_simp
  go_at_call 18
  refine (C1.out _).mono ?_
  rintro e w1 ⟨rfl, q1⟩
  have K1 := Lib.hid (KD.out.trans (Keep.of0 q1))
  clear q1
  go_simp
  refine hK.out _ _ (K1.out) (fun hHeld => ?_)
  clear hK K
  try simp only [Act.put, List.setIfInBounds_toArray, List.set_cons_zero, List.set_cons_succ]
  refine wpAnyH_take (i := 5) (oi := { dst := some 10, op := Op.unOp UnOp.not 4 (Operand.tmp 9), type := 4, pos := "cell.go:44", after := #[{ on := 4, ground := Ground.data }, { on := 2, ground := Ground.guard }], guard := some (2, false) }) (v := .bool false) rfl (by kernel_rfl) (by kernel_rfl) (by kernel_rfl) (fun _ _ _ h => h) (Or.inl ⟨by rfl, ?_⟩) (by assumption) ?_
  · (intro w' hSw; (try dsimp only at hSw); go_simp)
  try simp only [Act.put, List.setIfInBounds_toArray, List.set_cons_zero, List.set_cons_succ]
  refine wpAnyH_take (i := 6) (oi := { dst := some 11, op := Op.pick (Operand.tmp 7) (Operand.const (Value.bool true)) (Operand.tmp 10), type := 4, pos := "cell.go:44", after := #[{ on := 2, ground := Ground.data }, { on := 5, ground := Ground.data }], guard := none }) (v := .bool false) rfl (by kernel_rfl) (by kernel_rfl) (by kernel_rfl) (fun _ _ _ h => h) (Or.inl ⟨by rfl, ?_⟩) (by assumption) ?_
  · (intro w' hSw; (try dsimp only at hSw); go_simp)
  try simp only [Act.put, List.setIfInBounds_toArray, List.set_cons_zero, List.set_cons_succ]
  refine wpAnyH_take (i := 7) (oi := { dst := some 12, op := Op.move (Operand.tmp 11), type := 4, pos := "cell.go:44", after := #[{ on := 6, ground := Ground.data }, { on := 4, ground := Ground.chain }], guard := none }) (v := .bool false) rfl (by kernel_rfl) (by kernel_rfl) (by kernel_rfl) (fun _ _ _ h => h) (Or.inl ⟨by rfl, ?_⟩) (by assumption) ?_
  · (intro w' hSw; (try dsimp only at hSw); go_simp)
  try simp only [Act.put, List.setIfInBounds_toArray, List.set_cons_zero, List.set_cons_succ]
  refine wpAnyH_take (i := 8) (oi := { dst := some 13, op := Op.fieldAddr 29 (Operand.tmp 3) 0, type := 0, pos := "cell.go:44", after := #[{ on := 7, ground := Ground.guard }], guard := some (7, false) }) (v := .pointer (some ⟨w.heap.size, 0, none⟩)) rfl (by kernel_rfl) (by kernel_rfl) (by kernel_rfl) (fun _ _ _ h => h) (Or.inl ⟨by rfl, ?_⟩) (by assumption) ?_
  · (intro w' hSw; (try dsimp only at hSw); go_simp)
  try simp only [Act.put, List.setIfInBounds_toArray, List.set_cons_zero, List.set_cons_succ]
  refine wpAnyH_take (i := 9) (oi := { dst := some 14, op := Op.load 23 (Operand.tmp 13), type := 23, pos := "cell.go:44", after := #[{ on := 8, ground := Ground.data }, { on := 7, ground := Ground.guard }], guard := some (7, false) }) (v := .int .u64 1) rfl (by kernel_rfl) (by kernel_rfl) (by kernel_rfl) (fun _ _ _ h => h) (Or.inl ⟨by rfl, ?_⟩) (by assumption) ?_
  · (intro w' hSw; (try dsimp only at hSw); obtain ⟨x0, x1, x2, x3, x4, x5, y0⟩ := HS.out w' hSw; go_simp)
  try simp only [Act.put, List.setIfInBounds_toArray, List.set_cons_zero, List.set_cons_succ]
  refine wpAnyH_take (i := 10) (oi := { dst := some 15, op := Op.move (Operand.tmp 0), type := 44, pos := "cell.go:44", after := #[{ on := 7, ground := Ground.guard }], guard := some (7, false) }) (v := .pointer (some ⟨b, 0, none⟩)) rfl (by kernel_rfl) (by kernel_rfl) (by kernel_rfl) (fun _ _ _ h => h) (Or.inl ⟨by rfl, ?_⟩) (by assumption) ?_
  · (intro w' hSw; (try dsimp only at hSw); go_simp)
  try simp only [Act.put, List.setIfInBounds_toArray, List.set_cons_zero, List.set_cons_succ]
  refine wpAnyH_take (i := 11) (oi := { dst := some 16, op := Op.nilCheck (Operand.tmp 15), type := 0, pos := "cell.go:44", after := #[{ on := 10, ground := Ground.data }, { on := 7, ground := Ground.guard }], guard := some (7, false) }) (v := .pointer (some ⟨b, 0, none⟩)) rfl (by kernel_rfl) (by kernel_rfl) (by kernel_rfl) (fun _ _ _ h => h) (Or.inl ⟨by rfl, ?_⟩) (by assumption) ?_
  · (intro w' hSw; (try dsimp only at hSw); go_simp)
  try simp only [Act.put, List.setIfInBounds_toArray, List.set_cons_zero, List.set_cons_succ]
  refine wpAnyH_take (i := 12) (oi := { dst := some 17, op := Op.fieldAddr 62 (Operand.tmp 16) 0, type := 0, pos := "cell.go:44", after := #[{ on := 11, ground := Ground.data }, { on := 7, ground := Ground.guard }], guard := some (7, false) }) (v := .pointer (some ⟨b, 0, none⟩)) rfl (by kernel_rfl) (by kernel_rfl) (by kernel_rfl) (fun _ _ _ h => h) (Or.inl ⟨by rfl, ?_⟩) (by assumption) ?_
  · (intro w' hSw; (try dsimp only at hSw); go_simp)
  try simp only [Act.put, List.setIfInBounds_toArray, List.set_cons_zero, List.set_cons_succ]
  refine wpAnyH_take (i := 13) (oi := { dst := some 18, op := Op.fieldAddr 29 (Operand.tmp 17) 0, type := 0, pos := "cell.go:44", after := #[{ on := 12, ground := Ground.data }, { on := 7, ground := Ground.guard }], guard := some (7, false) }) (v := .pointer (some ⟨b, 0, none⟩)) rfl (by kernel_rfl) (by kernel_rfl) (by kernel_rfl) (fun _ _ _ h => h) (Or.inl ⟨by rfl, ?_⟩) (by assumption) ?_
  · (intro w' hSw; (try dsimp only at hSw); go_simp)
  try simp only [Act.put, List.setIfInBounds_toArray, List.set_cons_zero, List.set_cons_succ]
  refine wpAnyH_take (i := 14) (oi := { dst := some 19, op := Op.load 23 (Operand.tmp 18), type := 23, pos := "cell.go:44", after := #[{ on := 13, ground := Ground.data }, { on := 7, ground := Ground.guard }], guard := some (7, false) }) (v := .int .u64 1) rfl (by kernel_rfl) (by kernel_rfl) (by kernel_rfl) (fun _ _ _ h => h) (Or.inl ⟨by rfl, ?_⟩) (by assumption) ?_
  · (intro w' hSw; (try dsimp only at hSw); obtain ⟨x0, x1, x2, x3, x4, x5, y0⟩ := HS.out w' hSw; go_simp)
  try simp only [Act.put, List.setIfInBounds_toArray, List.set_cons_zero, List.set_cons_succ]
  refine wpAnyH_take (i := 15) (oi := { dst := some 20, op := Op.binOp BinOp.leq 23 (Operand.tmp 14) (Operand.tmp 19) 23, type := 4, pos := "cell.go:44", after := #[{ on := 9, ground := Ground.data }, { on := 14, ground := Ground.data }, { on := 7, ground := Ground.guard }], guard := some (7, false) }) (v := .bool true) rfl (by kernel_rfl) (by kernel_rfl) (by kernel_rfl) (fun _ _ _ h => h) (Or.inl ⟨by rfl, ?_⟩) (by assumption) ?_
  · (intro w' hSw; (try dsimp only at hSw); go_simp)
  try simp only [Act.put, List.setIfInBounds_toArray, List.set_cons_zero, List.set_cons_succ]
  refine wpAnyH_take (i := 16) (oi := { dst := some 21, op := Op.pick (Operand.tmp 12) (Operand.const (Value.bool true)) (Operand.tmp 20), type := 4, pos := "cell.go:44", after := #[{ on := 7, ground := Ground.data }, { on := 15, ground := Ground.data }], guard := none }) (v := .bool true) rfl (by kernel_rfl) (by kernel_rfl) (by kernel_rfl) (fun _ _ _ h => h) (Or.inl ⟨by rfl, ?_⟩) (by assumption) ?_
  · (intro w' hSw; (try dsimp only at hSw); go_simp)
  try simp only [Act.put, List.setIfInBounds_toArray, List.set_cons_zero, List.set_cons_succ]
  refine wpAnyH_done (by kernel_rfl) ?_ _
  go_wp2_with fail
  go_ret
  exact ⟨rfl, KW.out.trans K1.out⟩

set_option maxHeartbeats 16000000 in
theorem prepare_any (b : Nat) (most bal : Int) (v : Vw) (n : Int) (w : World) (h : CAt w b ⟨most, bal, v⟩) :
    Calls Try.prog 21 #[.pointer (some ⟨b, 0, none⟩), firstV.agg, .int .u64 n] w fun e w' => (n ≤ most → e = .returned (Pr.mk false 2 most bal v firstV).agg ∧ CAt w' b ⟨most, bal, v⟩) ∧ (most < n → e = .returned (Pr.mk true 2 n bal v firstV).agg ∧ CAt w' b ⟨n, bal, v⟩) ∧ Keep (fun q => q = b) w w' := by
  have HC := Lib.hid h
  have C1 := Lib.hid (fun W kw => learn_no b _ W (h.keep (S := fun _ => False) kw (fun e => e)))
  have hbl := lt_of_block h
  clear h
  unfold Vw.agg firstV
  unfold Vw.agg firstV at C1
  go_enter Try.func21, Try.ntmps21
  go_upto_region 3 with fail
  obtain ⟨W, hW⟩ : ∃ V, V = (w.alloc (.cells #[.int .u64 1, .int .i64 0, .int .u64 1, .int .i64 (-1), .int .u64 0, .int .u64 1] TVw)).alloc (.cells #[.bool false, .int .u64 0, .int .u64 0, .int .u64 0, .int .u64 0, .int .i64 0, .int .u64 0, .int .i64 0, .int .u64 0, .int .u64 0, .int .u64 0, .int .i64 0, .int .u64 0, .int .i64 0, .int .u64 0, .int .u64 0] TPm) := ⟨_, rfl⟩
  rw [← hW]
  have KW := Lib.hid (show Keep (fun _ => False) w W by rw [hW]; exact ((Keep.refl _ _).alloc _).alloc _)
  have HX := Lib.hid (show W.heap[w.heap.size]? = some (.cells #[.int .u64 1, .int .i64 0, .int .u64 1, .int .i64 (-1), .int .u64 0, .int .u64 1] TVw (0, 0)) by rw [hW]; exact block_alloc (block_new w _) _)
  have HZ := Lib.hid (show W.heap[w.heap.size + 1]? = some (.cells #[.bool false, .int .u64 0, .int .u64 0, .int .u64 0, .int .u64 0, .int .i64 0, .int .u64 0, .int .i64 0, .int .u64 0, .int .u64 0, .int .u64 0, .int .i64 0, .int .u64 0, .int .i64 0, .int .u64 0, .int .u64 0] TPm (0, 0)) by rw [hW]; exact block_new_at (by simp))
  clear hW
  have x0 := cell_at HX.out 0
  have x1 := cell_at HX.out 1
  have x2 := cell_at HX.out 2
  have x3 := cell_at HX.out 3
  have x4 := cell_at HX.out 4
  have x5 := cell_at HX.out 5
  simp at x0 x1 x2 x3 x4 x5
  go_upto_region 4 with (go_at_call 24; refine (C1.out _ KW.out).mono ?_; rintro e w1 ⟨rfl, k1⟩; replace k1 := Lib.hid k1)
  clear x0 x1 x2 x3 x4 x5
  have HX1 := Lib.hid ((k1.out.block _ (lt_of_block HX.out) (fun e => e)).trans HX.out)
  have HZ1 := Lib.hid ((k1.out.block _ (lt_of_block HZ.out) (fun e => e)).trans HZ.out)
  have HC1 := Lib.hid (HC.out.keep (KW.out.trans k1.out) (fun e => e))
  have HS := Lib.hid (show ∀ w' : World, Keep (fun _ => False) w1 w' → w'.cell? ⟨w.heap.size, 0, none⟩ = some (.int .u64 1) ∧ w'.cell? ⟨w.heap.size, 1, none⟩ = some (.int .i64 0) ∧ w'.cell? ⟨w.heap.size, 2, none⟩ = some (.int .u64 1) ∧ w'.cell? ⟨w.heap.size, 3, none⟩ = some (.int .i64 (-1)) ∧ w'.cell? ⟨w.heap.size, 4, none⟩ = some (.int .u64 0) ∧ w'.cell? ⟨w.heap.size, 5, none⟩ = some (.int .u64 1) ∧ w'.cell? ⟨b, 0, none⟩ = some (.int .u64 1) ∧ w'.cell? ⟨b, 1, none⟩ = some (.int .i64 0) ∧ w'.cell? ⟨b, 2, none⟩ = some (.int .u64 1) ∧ w'.cell? ⟨b, 3, none⟩ = some (.int .i64 (-1)) ∧ w'.cell? ⟨b, 4, none⟩ = some (.int .u64 0) ∧ w'.cell? ⟨b, 5, none⟩ = some (.int .u64 1) ∧ w'.cell? ⟨b, 6, none⟩ = some (.int .u64 most) from fun w' kw => by
    have hx := (kw.block _ (lt_of_block HX1.out) (fun e => e)).trans HX1.out
    have hc := HC1.out.keep kw (fun e => e)
    exact ⟨cell_at hx 0, cell_at hx 1, cell_at hx 2, cell_at hx 3, cell_at hx 4, cell_at hx 5, cell_at hc 0, cell_at hc 1, cell_at hc 2, cell_at hc 3, cell_at hc 4, cell_at hc 5, cell_at hc 6⟩)
  by_cases hn : n ≤ most
  · skip
    have hd : decide (n ≤ most) = true := decide_eq_true hn
    skip
    refine wp_region_held_drew (S := (fun w' => Keep (fun _ => False) w1 w')) (by kernel_rfl) ?_ (fun hHeld => ?_)
    · exact (Keep.refl _ w1).drew
    generalize hwd : w1.drew = wd at hHeld ⊢
    have KD := Lib.hid (show Keep (fun _ => False) w1 wd by rw [← hwd]; exact (Keep.refl _ w1).drew)
    clear hwd
    refine wpAnyH_take (i := 0) (oi := { dst := some 13, op := Op.load 29 (Operand.tmp 4), type := 29, pos := "cell.go:62", after := #[], guard := none }) (v := .agg #[.int .u64 1, .int .i64 0, .int .u64 1, .int .i64 (-1), .int .u64 0, .int .u64 1]) rfl (by kernel_rfl) (by kernel_rfl) (by kernel_rfl) (fun _ _ _ h => h) (Or.inl ⟨by rfl, ?_⟩) (by assumption) ?_
    · (intro w' hSw; (try dsimp only at hSw); obtain ⟨x0, x1, x2, x3, x4, x5, y0, y1, y2, y3, y4, y5, y6⟩ := HS.out w' hSw; go_simp)
    try simp only [Act.put, List.setIfInBounds_toArray, List.set_cons_zero, List.set_cons_succ]
    refine wpAnyH_take (i := 1) (oi := { dst := some 14, op := Op.move (Operand.tmp 0), type := 44, pos := "cell.go:62", after := #[], guard := none }) (v := .pointer (some ⟨b, 0, none⟩)) rfl (by kernel_rfl) (by kernel_rfl) (by kernel_rfl) (fun _ _ _ h => h) (Or.inl ⟨by rfl, ?_⟩) (by assumption) ?_
    · (intro w' hSw; (try dsimp only at hSw); go_simp)
    try simp only [Act.put, List.setIfInBounds_toArray, List.set_cons_zero, List.set_cons_succ]
    refine wpAnyH_take (i := 2) (oi := { dst := some 15, op := Op.nilCheck (Operand.tmp 14), type := 0, pos := "cell.go:62", after := #[{ on := 1, ground := Ground.data }], guard := none }) (v := .pointer (some ⟨b, 0, none⟩)) rfl (by kernel_rfl) (by kernel_rfl) (by kernel_rfl) (fun _ _ _ h => h) (Or.inl ⟨by rfl, ?_⟩) (by assumption) ?_
    · (intro w' hSw; (try dsimp only at hSw); go_simp)
    try simp only [Act.put, List.setIfInBounds_toArray, List.set_cons_zero, List.set_cons_succ]
    refine wpAnyH_take (i := 3) (oi := { dst := some 16, op := Op.fieldAddr 62 (Operand.tmp 15) 0, type := 0, pos := "cell.go:62", after := #[{ on := 2, ground := Ground.data }], guard := none }) (v := .pointer (some ⟨b, 0, none⟩)) rfl (by kernel_rfl) (by kernel_rfl) (by kernel_rfl) (fun _ _ _ h => h) (Or.inl ⟨by rfl, ?_⟩) (by assumption) ?_
    · (intro w' hSw; (try dsimp only at hSw); go_simp)
    try simp only [Act.put, List.setIfInBounds_toArray, List.set_cons_zero, List.set_cons_succ]
    refine wpAnyH_take (i := 4) (oi := { dst := some 17, op := Op.load 29 (Operand.tmp 16), type := 29, pos := "cell.go:62", after := #[{ on := 3, ground := Ground.data }], guard := none }) (v := .agg #[.int .u64 1, .int .i64 0, .int .u64 1, .int .i64 (-1), .int .u64 0, .int .u64 1]) rfl (by kernel_rfl) (by kernel_rfl) (by kernel_rfl) (fun _ _ _ h => h) (Or.inl ⟨by rfl, ?_⟩) (by assumption) ?_
    · (intro w' hSw; (try dsimp only at hSw); obtain ⟨x0, x1, x2, x3, x4, x5, y0, y1, y2, y3, y4, y5, y6⟩ := HS.out w' hSw; go_simp)
    try simp only [Act.put, List.setIfInBounds_toArray, List.set_cons_zero, List.set_cons_succ]
    refine wpAnyH_take (i := 5) (oi := { dst := some 18, op := Op.binOp BinOp.neq 29 (Operand.tmp 13) (Operand.tmp 17) 29, type := 4, pos := "cell.go:62", after := #[{ on := 0, ground := Ground.data }, { on := 4, ground := Ground.data }], guard := none }) (v := .bool false) rfl (by kernel_rfl) (by kernel_rfl) (by kernel_rfl) (fun _ _ _ h => h) (Or.inl ⟨by rfl, ?_⟩) (by assumption) ?_
    · (intro w' hSw; (try dsimp only at hSw); go_simp)
    try simp only [Act.put, List.setIfInBounds_toArray, List.set_cons_zero, List.set_cons_succ]
    refine wpAnyH_take (i := 6) (oi := { dst := some 19, op := Op.move (Operand.tmp 18), type := 4, pos := "cell.go:62", after := #[{ on := 5, ground := Ground.data }], guard := none }) (v := .bool false) rfl (by kernel_rfl) (by kernel_rfl) (by kernel_rfl) (fun _ _ _ h => h) (Or.inl ⟨by rfl, ?_⟩) (by assumption) ?_
    · (intro w' hSw; (try dsimp only at hSw); go_simp)
    try simp only [Act.put, List.setIfInBounds_toArray, List.set_cons_zero, List.set_cons_succ]
    refine wpAnyH_take (i := 7) (oi := { dst := some 20, op := Op.move (Operand.tmp 2), type := 23, pos := "cell.go:62", after := #[{ on := 6, ground := Ground.guard }], guard := some (6, false) }) (v := .int .u64 n) rfl (by kernel_rfl) (by kernel_rfl) (by kernel_rfl) (fun _ _ _ h => h) (Or.inl ⟨by rfl, ?_⟩) (by assumption) ?_
    · (intro w' hSw; (try dsimp only at hSw); go_simp)
    try simp only [Act.put, List.setIfInBounds_toArray, List.set_cons_zero, List.set_cons_succ]
    refine wpAnyH_take (i := 8) (oi := { dst := some 21, op := Op.move (Operand.tmp 0), type := 44, pos := "cell.go:62", after := #[{ on := 6, ground := Ground.guard }], guard := some (6, false) }) (v := .pointer (some ⟨b, 0, none⟩)) rfl (by kernel_rfl) (by kernel_rfl) (by kernel_rfl) (fun _ _ _ h => h) (Or.inl ⟨by rfl, ?_⟩) (by assumption) ?_
    · (intro w' hSw; (try dsimp only at hSw); go_simp)
    try simp only [Act.put, List.setIfInBounds_toArray, List.set_cons_zero, List.set_cons_succ]
    refine wpAnyH_take (i := 9) (oi := { dst := some 22, op := Op.nilCheck (Operand.tmp 21), type := 0, pos := "cell.go:62", after := #[{ on := 8, ground := Ground.data }, { on := 6, ground := Ground.guard }], guard := some (6, false) }) (v := .pointer (some ⟨b, 0, none⟩)) rfl (by kernel_rfl) (by kernel_rfl) (by kernel_rfl) (fun _ _ _ h => h) (Or.inl ⟨by rfl, ?_⟩) (by assumption) ?_
    · (intro w' hSw; (try dsimp only at hSw); go_simp)
    try simp only [Act.put, List.setIfInBounds_toArray, List.set_cons_zero, List.set_cons_succ]
    refine wpAnyH_take (i := 10) (oi := { dst := some 23, op := Op.fieldAddr 62 (Operand.tmp 22) 1, type := 0, pos := "cell.go:62", after := #[{ on := 9, ground := Ground.data }, { on := 6, ground := Ground.guard }], guard := some (6, false) }) (v := .pointer (some ⟨b, 6, none⟩)) rfl (by kernel_rfl) (by kernel_rfl) (by kernel_rfl) (fun _ _ _ h => h) (Or.inl ⟨by rfl, ?_⟩) (by assumption) ?_
    · (intro w' hSw; (try dsimp only at hSw); go_simp)
    try simp only [Act.put, List.setIfInBounds_toArray, List.set_cons_zero, List.set_cons_succ]
    refine wpAnyH_take (i := 11) (oi := { dst := some 24, op := Op.load 23 (Operand.tmp 23), type := 23, pos := "cell.go:62", after := #[{ on := 10, ground := Ground.data }, { on := 6, ground := Ground.guard }], guard := some (6, false) }) (v := .int .u64 most) rfl (by kernel_rfl) (by kernel_rfl) (by kernel_rfl) (fun _ _ _ h => h) (Or.inl ⟨by rfl, ?_⟩) (by assumption) ?_
    · (intro w' hSw; (try dsimp only at hSw); obtain ⟨x0, x1, x2, x3, x4, x5, y0, y1, y2, y3, y4, y5, y6⟩ := HS.out w' hSw; go_simp)
    try simp only [Act.put, List.setIfInBounds_toArray, List.set_cons_zero, List.set_cons_succ]
    refine wpAnyH_take (i := 12) (oi := { dst := some 25, op := Op.binOp BinOp.leq 23 (Operand.tmp 20) (Operand.tmp 24) 23, type := 4, pos := "cell.go:62", after := #[{ on := 7, ground := Ground.data }, { on := 11, ground := Ground.data }, { on := 6, ground := Ground.guard }], guard := some (6, false) }) (v := .bool true) rfl (by kernel_rfl) (by kernel_rfl) (by kernel_rfl) (fun _ _ _ h => h) (Or.inl ⟨by rfl, ?_⟩) (by assumption) ?_
    · (intro w' hSw; (try dsimp only at hSw); go_simp)
    try simp only [Act.put, List.setIfInBounds_toArray, List.set_cons_zero, List.set_cons_succ]
    refine wpAnyH_take (i := 13) (oi := { dst := some 26, op := Op.pick (Operand.tmp 19) (Operand.const (Value.bool true)) (Operand.tmp 25), type := 4, pos := "cell.go:62", after := #[{ on := 6, ground := Ground.data }, { on := 12, ground := Ground.data }], guard := none }) (v := .bool true) rfl (by kernel_rfl) (by kernel_rfl) (by kernel_rfl) (fun _ _ _ h => h) (Or.inl ⟨by rfl, ?_⟩) (by assumption) ?_
    · (intro w' hSw; (try dsimp only at hSw); go_simp)
    try simp only [Act.put, List.setIfInBounds_toArray, List.set_cons_zero, List.set_cons_succ]
    refine wpAnyH_done (by kernel_rfl) ?_ _
    have CP := Lib.hid (promise_any b false most bal v wd (HC1.out.keep KD.out (fun e => e)))
    unfold Pr.agg firstV at CP
    go_wp2_with (go_at_call 25; refine CP.out.mono ?_; clear CP; rintro e w2 ⟨rfl, k2⟩; replace k2 := Lib.hid k2
                 have HZ2 := Lib.hid (((KD.out.trans k2.out).block _ (lt_of_block HZ1.out) (fun e => e)).trans HZ1.out)
                 have z0 := cell_at HZ2.out 0
                 have z1 := cell_at HZ2.out 1
                 have z2 := cell_at HZ2.out 2
                 have z3 := cell_at HZ2.out 3
                 have z4 := cell_at HZ2.out 4
                 have z5 := cell_at HZ2.out 5
                 have z6 := cell_at HZ2.out 6
                 have z7 := cell_at HZ2.out 7
                 have z8 := cell_at HZ2.out 8
                 have z9 := cell_at HZ2.out 9
                 have z10 := cell_at HZ2.out 10
                 have z11 := cell_at HZ2.out 11
                 have z12 := cell_at HZ2.out 12
                 have z13 := cell_at HZ2.out 13
                 have z14 := cell_at HZ2.out 14
                 have z15 := cell_at HZ2.out 15
                 have zf0 := free_at HZ2.out 0
                 have zf1 := free_at HZ2.out 1
                 have zf2 := free_at HZ2.out 2
                 have zf3 := free_at HZ2.out 3
                 have zf4 := free_at HZ2.out 4
                 have zf5 := free_at HZ2.out 5
                 have zf6 := free_at HZ2.out 6
                 have zf7 := free_at HZ2.out 7
                 have zf8 := free_at HZ2.out 8
                 have zf9 := free_at HZ2.out 9
                 have zf10 := free_at HZ2.out 10
                 have zf11 := free_at HZ2.out 11
                 have zf12 := free_at HZ2.out 12
                 have zf13 := free_at HZ2.out 13
                 have zf14 := free_at HZ2.out 14
                 have zf15 := free_at HZ2.out 15
                 simp at z0 z1 z2 z3 z4 z5 z6 z7 z8 z9 z10 z11 z12 z13 z14 z15
                 skip)
    obtain ⟨wf, hwf⟩ : ∃ V, V = ((((((((((((((((w2.setCell ⟨(w.heap.size + 1), 0, none⟩ (.bool false)).setCell ⟨(w.heap.size + 1), 1, none⟩ (.int .u64 2)).setCell ⟨(w.heap.size + 1), 2, none⟩ (.int .u64 most)).setCell ⟨(w.heap.size + 1), 3, none⟩ (.int .u64 bal)).setCell ⟨(w.heap.size + 1), 4, none⟩ (.int .u64 v.v)).setCell ⟨(w.heap.size + 1), 5, none⟩ (.int .i64 v.p)).setCell ⟨(w.heap.size + 1), 6, none⟩ (.int .u64 v.pl)).setCell ⟨(w.heap.size + 1), 7, none⟩ (.int .i64 v.b)).setCell ⟨(w.heap.size + 1), 8, none⟩ (.int .u64 v.bl)).setCell ⟨(w.heap.size + 1), 9, none⟩ (.int .u64 v.e)).setCell ⟨(w.heap.size + 1), 10, none⟩ (.int .u64 1)).setCell ⟨(w.heap.size + 1), 11, none⟩ (.int .i64 0)).setCell ⟨(w.heap.size + 1), 12, none⟩ (.int .u64 1)).setCell ⟨(w.heap.size + 1), 13, none⟩ (.int .i64 (-1))).setCell ⟨(w.heap.size + 1), 14, none⟩ (.int .u64 0)).setCell ⟨(w.heap.size + 1), 15, none⟩ (.int .u64 1)) := ⟨_, rfl⟩
    rw [← hwf]
    have hq := (block_set (block_set (block_set (block_set (block_set (block_set (block_set (block_set (block_set (block_set (block_set (block_set (block_set (block_set (block_set (block_set HZ2.out 0 (.bool false)) 1 (.int .u64 2)) 2 (.int .u64 most)) 3 (.int .u64 bal)) 4 (.int .u64 v.v)) 5 (.int .i64 v.p)) 6 (.int .u64 v.pl)) 7 (.int .i64 v.b)) 8 (.int .u64 v.bl)) 9 (.int .u64 v.e)) 10 (.int .u64 1)) 11 (.int .i64 0)) 12 (.int .u64 1)) 13 (.int .i64 (-1))) 14 (.int .u64 0)) 15 (.int .u64 1))
    rw [← hwf] at hq
    simp at hq
    have KZ := Lib.hid (show Keep (fun q => q = (w.heap.size + 1)) w2 wf by rw [hwf]; exact (((((((((((((((((Keep.refl (fun q => q = (w.heap.size + 1)) w2).set1 _ _).set1 _ _).set1 _ _).set1 _ _).set1 _ _).set1 _ _).set1 _ _).set1 _ _).set1 _ _).set1 _ _).set1 _ _).set1 _ _).set1 _ _).set1 _ _).set1 _ _).set1 _ _))
    clear hwf
    have q0 := cell_at hq 0
    have q1 := cell_at hq 1
    have q2 := cell_at hq 2
    have q3 := cell_at hq 3
    have q4 := cell_at hq 4
    have q5 := cell_at hq 5
    have q6 := cell_at hq 6
    have q7 := cell_at hq 7
    have q8 := cell_at hq 8
    have q9 := cell_at hq 9
    have q10 := cell_at hq 10
    have q11 := cell_at hq 11
    have q12 := cell_at hq 12
    have q13 := cell_at hq 13
    have q14 := cell_at hq 14
    have q15 := cell_at hq 15
    simp at q0 q1 q2 q3 q4 q5 q6 q7 q8 q9 q10 q11 q12 q13 q14 q15
    refine bodyPost_ret (v := .agg #[.bool false, .int .u64 2, .int .u64 most, .int .u64 bal, .int .u64 v.v, .int .i64 v.p, .int .u64 v.pl, .int .i64 v.b, .int .u64 v.bl, .int .u64 v.e, .int .u64 1, .int .i64 0, .int .u64 1, .int .i64 (-1), .int .u64 0, .int .u64 1]) ?_ rfl ⟨fun _ => ⟨rfl, ((HC1.out.keep KD.out (fun e => e)).keep k2.out (fun e => e)).keep KZ.out (fun e => by omega)⟩, fun h => absurd h (by omega), (Keep.then (((KW.out.trans k1.out).trans KD.out).trans k2.out) KZ.out (fun q e => by omega)).toAny⟩
    simp [results, Try.results21, go_sem, q0, q1, q2, q3, q4, q5, q6, q7, q8, q9, q10, q11, q12, q13, q14, q15]
  · skip
    have hd : decide (n ≤ most) = false := decide_eq_false hn
    skip
    refine wp_region_held_drew (S := (fun w' => Keep (fun _ => False) w1 w')) (by kernel_rfl) ?_ (fun hHeld => ?_)
    · exact (Keep.refl _ w1).drew
    generalize hwd : w1.drew = wd at hHeld ⊢
    have KD := Lib.hid (show Keep (fun _ => False) w1 wd by rw [← hwd]; exact (Keep.refl _ w1).drew)
    clear hwd
    refine wpAnyH_take (i := 0) (oi := { dst := some 13, op := Op.load 29 (Operand.tmp 4), type := 29, pos := "cell.go:62", after := #[], guard := none }) (v := .agg #[.int .u64 1, .int .i64 0, .int .u64 1, .int .i64 (-1), .int .u64 0, .int .u64 1]) rfl (by kernel_rfl) (by kernel_rfl) (by kernel_rfl) (fun _ _ _ h => h) (Or.inl ⟨by rfl, ?_⟩) (by assumption) ?_
    · (intro w' hSw; (try dsimp only at hSw); obtain ⟨x0, x1, x2, x3, x4, x5, y0, y1, y2, y3, y4, y5, y6⟩ := HS.out w' hSw; go_simp)
    try simp only [Act.put, List.setIfInBounds_toArray, List.set_cons_zero, List.set_cons_succ]
    refine wpAnyH_take (i := 1) (oi := { dst := some 14, op := Op.move (Operand.tmp 0), type := 44, pos := "cell.go:62", after := #[], guard := none }) (v := .pointer (some ⟨b, 0, none⟩)) rfl (by kernel_rfl) (by kernel_rfl) (by kernel_rfl) (fun _ _ _ h => h) (Or.inl ⟨by rfl, ?_⟩) (by assumption) ?_
    · (intro w' hSw; (try dsimp only at hSw); go_simp)
    try simp only [Act.put, List.setIfInBounds_toArray, List.set_cons_zero, List.set_cons_succ]
    refine wpAnyH_take (i := 2) (oi := { dst := some 15, op := Op.nilCheck (Operand.tmp 14), type := 0, pos := "cell.go:62", after := #[{ on := 1, ground := Ground.data }], guard := none }) (v := .pointer (some ⟨b, 0, none⟩)) rfl (by kernel_rfl) (by kernel_rfl) (by kernel_rfl) (fun _ _ _ h => h) (Or.inl ⟨by rfl, ?_⟩) (by assumption) ?_
    · (intro w' hSw; (try dsimp only at hSw); go_simp)
    try simp only [Act.put, List.setIfInBounds_toArray, List.set_cons_zero, List.set_cons_succ]
    refine wpAnyH_take (i := 3) (oi := { dst := some 16, op := Op.fieldAddr 62 (Operand.tmp 15) 0, type := 0, pos := "cell.go:62", after := #[{ on := 2, ground := Ground.data }], guard := none }) (v := .pointer (some ⟨b, 0, none⟩)) rfl (by kernel_rfl) (by kernel_rfl) (by kernel_rfl) (fun _ _ _ h => h) (Or.inl ⟨by rfl, ?_⟩) (by assumption) ?_
    · (intro w' hSw; (try dsimp only at hSw); go_simp)
    try simp only [Act.put, List.setIfInBounds_toArray, List.set_cons_zero, List.set_cons_succ]
    refine wpAnyH_take (i := 4) (oi := { dst := some 17, op := Op.load 29 (Operand.tmp 16), type := 29, pos := "cell.go:62", after := #[{ on := 3, ground := Ground.data }], guard := none }) (v := .agg #[.int .u64 1, .int .i64 0, .int .u64 1, .int .i64 (-1), .int .u64 0, .int .u64 1]) rfl (by kernel_rfl) (by kernel_rfl) (by kernel_rfl) (fun _ _ _ h => h) (Or.inl ⟨by rfl, ?_⟩) (by assumption) ?_
    · (intro w' hSw; (try dsimp only at hSw); obtain ⟨x0, x1, x2, x3, x4, x5, y0, y1, y2, y3, y4, y5, y6⟩ := HS.out w' hSw; go_simp)
    try simp only [Act.put, List.setIfInBounds_toArray, List.set_cons_zero, List.set_cons_succ]
    refine wpAnyH_take (i := 5) (oi := { dst := some 18, op := Op.binOp BinOp.neq 29 (Operand.tmp 13) (Operand.tmp 17) 29, type := 4, pos := "cell.go:62", after := #[{ on := 0, ground := Ground.data }, { on := 4, ground := Ground.data }], guard := none }) (v := .bool false) rfl (by kernel_rfl) (by kernel_rfl) (by kernel_rfl) (fun _ _ _ h => h) (Or.inl ⟨by rfl, ?_⟩) (by assumption) ?_
    · (intro w' hSw; (try dsimp only at hSw); go_simp)
    try simp only [Act.put, List.setIfInBounds_toArray, List.set_cons_zero, List.set_cons_succ]
    refine wpAnyH_take (i := 6) (oi := { dst := some 19, op := Op.move (Operand.tmp 18), type := 4, pos := "cell.go:62", after := #[{ on := 5, ground := Ground.data }], guard := none }) (v := .bool false) rfl (by kernel_rfl) (by kernel_rfl) (by kernel_rfl) (fun _ _ _ h => h) (Or.inl ⟨by rfl, ?_⟩) (by assumption) ?_
    · (intro w' hSw; (try dsimp only at hSw); go_simp)
    try simp only [Act.put, List.setIfInBounds_toArray, List.set_cons_zero, List.set_cons_succ]
    refine wpAnyH_take (i := 7) (oi := { dst := some 20, op := Op.move (Operand.tmp 2), type := 23, pos := "cell.go:62", after := #[{ on := 6, ground := Ground.guard }], guard := some (6, false) }) (v := .int .u64 n) rfl (by kernel_rfl) (by kernel_rfl) (by kernel_rfl) (fun _ _ _ h => h) (Or.inl ⟨by rfl, ?_⟩) (by assumption) ?_
    · (intro w' hSw; (try dsimp only at hSw); go_simp)
    try simp only [Act.put, List.setIfInBounds_toArray, List.set_cons_zero, List.set_cons_succ]
    refine wpAnyH_take (i := 8) (oi := { dst := some 21, op := Op.move (Operand.tmp 0), type := 44, pos := "cell.go:62", after := #[{ on := 6, ground := Ground.guard }], guard := some (6, false) }) (v := .pointer (some ⟨b, 0, none⟩)) rfl (by kernel_rfl) (by kernel_rfl) (by kernel_rfl) (fun _ _ _ h => h) (Or.inl ⟨by rfl, ?_⟩) (by assumption) ?_
    · (intro w' hSw; (try dsimp only at hSw); go_simp)
    try simp only [Act.put, List.setIfInBounds_toArray, List.set_cons_zero, List.set_cons_succ]
    refine wpAnyH_take (i := 9) (oi := { dst := some 22, op := Op.nilCheck (Operand.tmp 21), type := 0, pos := "cell.go:62", after := #[{ on := 8, ground := Ground.data }, { on := 6, ground := Ground.guard }], guard := some (6, false) }) (v := .pointer (some ⟨b, 0, none⟩)) rfl (by kernel_rfl) (by kernel_rfl) (by kernel_rfl) (fun _ _ _ h => h) (Or.inl ⟨by rfl, ?_⟩) (by assumption) ?_
    · (intro w' hSw; (try dsimp only at hSw); go_simp)
    try simp only [Act.put, List.setIfInBounds_toArray, List.set_cons_zero, List.set_cons_succ]
    refine wpAnyH_take (i := 10) (oi := { dst := some 23, op := Op.fieldAddr 62 (Operand.tmp 22) 1, type := 0, pos := "cell.go:62", after := #[{ on := 9, ground := Ground.data }, { on := 6, ground := Ground.guard }], guard := some (6, false) }) (v := .pointer (some ⟨b, 6, none⟩)) rfl (by kernel_rfl) (by kernel_rfl) (by kernel_rfl) (fun _ _ _ h => h) (Or.inl ⟨by rfl, ?_⟩) (by assumption) ?_
    · (intro w' hSw; (try dsimp only at hSw); go_simp)
    try simp only [Act.put, List.setIfInBounds_toArray, List.set_cons_zero, List.set_cons_succ]
    refine wpAnyH_take (i := 11) (oi := { dst := some 24, op := Op.load 23 (Operand.tmp 23), type := 23, pos := "cell.go:62", after := #[{ on := 10, ground := Ground.data }, { on := 6, ground := Ground.guard }], guard := some (6, false) }) (v := .int .u64 most) rfl (by kernel_rfl) (by kernel_rfl) (by kernel_rfl) (fun _ _ _ h => h) (Or.inl ⟨by rfl, ?_⟩) (by assumption) ?_
    · (intro w' hSw; (try dsimp only at hSw); obtain ⟨x0, x1, x2, x3, x4, x5, y0, y1, y2, y3, y4, y5, y6⟩ := HS.out w' hSw; go_simp)
    try simp only [Act.put, List.setIfInBounds_toArray, List.set_cons_zero, List.set_cons_succ]
    refine wpAnyH_take (i := 12) (oi := { dst := some 25, op := Op.binOp BinOp.leq 23 (Operand.tmp 20) (Operand.tmp 24) 23, type := 4, pos := "cell.go:62", after := #[{ on := 7, ground := Ground.data }, { on := 11, ground := Ground.data }, { on := 6, ground := Ground.guard }], guard := some (6, false) }) (v := .bool false) rfl (by kernel_rfl) (by kernel_rfl) (by kernel_rfl) (fun _ _ _ h => h) (Or.inl ⟨by rfl, ?_⟩) (by assumption) ?_
    · (intro w' hSw; (try dsimp only at hSw); go_simp)
    try simp only [Act.put, List.setIfInBounds_toArray, List.set_cons_zero, List.set_cons_succ]
    refine wpAnyH_take (i := 13) (oi := { dst := some 26, op := Op.pick (Operand.tmp 19) (Operand.const (Value.bool true)) (Operand.tmp 25), type := 4, pos := "cell.go:62", after := #[{ on := 6, ground := Ground.data }, { on := 12, ground := Ground.data }], guard := none }) (v := .bool false) rfl (by kernel_rfl) (by kernel_rfl) (by kernel_rfl) (fun _ _ _ h => h) (Or.inl ⟨by rfl, ?_⟩) (by assumption) ?_
    · (intro w' hSw; (try dsimp only at hSw); go_simp)
    try simp only [Act.put, List.setIfInBounds_toArray, List.set_cons_zero, List.set_cons_succ]
    refine wpAnyH_done (by kernel_rfl) ?_ _
    have HC2 := Lib.hid (HC1.out.keep KD.out (fun e => e))
    have c6 := cell_at HC2.out 6
    have cf6 := free_at HC2.out 6
    simp [Ce.row] at c6
    go_upto_region 7 with fail
    clear c6 cf6
    obtain ⟨we, hwe⟩ : ∃ V, V = wd.setCell ⟨b, 6, none⟩ (.int .u64 n) := ⟨_, rfl⟩
    rw [← hwe]
    have HC3 := Lib.hid (show CAt we b ⟨n, bal, v⟩ by rw [hwe]; exact (block_set HC2.out 6 _).trans (by simp [Ce.row]))
    have KE := Lib.hid (show Keep (fun q => q = b) wd we by rw [hwe]; exact (Keep.refl _ _).set1 _ _)
    clear hwe
    have CP := Lib.hid (promise_any b true n bal v we HC3.out)
    unfold Pr.agg firstV at CP
    go_wp2_with (go_at_call 25; refine CP.out.mono ?_; clear CP; rintro e w2 ⟨rfl, k2⟩; replace k2 := Lib.hid k2
                 have HZ2 := Lib.hid ((k2.out.block _ (by have := lt_of_block HZ1.out; have := KD.out.size; have := KE.out.size; omega) (fun e => e)).trans ((KE.out.block _ (by have := lt_of_block HZ1.out; have := KD.out.size; omega) (by omega)).trans ((KD.out.block _ (lt_of_block HZ1.out) (fun e => e)).trans HZ1.out)))
                 have z0 := cell_at HZ2.out 0
                 have z1 := cell_at HZ2.out 1
                 have z2 := cell_at HZ2.out 2
                 have z3 := cell_at HZ2.out 3
                 have z4 := cell_at HZ2.out 4
                 have z5 := cell_at HZ2.out 5
                 have z6 := cell_at HZ2.out 6
                 have z7 := cell_at HZ2.out 7
                 have z8 := cell_at HZ2.out 8
                 have z9 := cell_at HZ2.out 9
                 have z10 := cell_at HZ2.out 10
                 have z11 := cell_at HZ2.out 11
                 have z12 := cell_at HZ2.out 12
                 have z13 := cell_at HZ2.out 13
                 have z14 := cell_at HZ2.out 14
                 have z15 := cell_at HZ2.out 15
                 have zf0 := free_at HZ2.out 0
                 have zf1 := free_at HZ2.out 1
                 have zf2 := free_at HZ2.out 2
                 have zf3 := free_at HZ2.out 3
                 have zf4 := free_at HZ2.out 4
                 have zf5 := free_at HZ2.out 5
                 have zf6 := free_at HZ2.out 6
                 have zf7 := free_at HZ2.out 7
                 have zf8 := free_at HZ2.out 8
                 have zf9 := free_at HZ2.out 9
                 have zf10 := free_at HZ2.out 10
                 have zf11 := free_at HZ2.out 11
                 have zf12 := free_at HZ2.out 12
                 have zf13 := free_at HZ2.out 13
                 have zf14 := free_at HZ2.out 14
                 have zf15 := free_at HZ2.out 15
                 simp at z0 z1 z2 z3 z4 z5 z6 z7 z8 z9 z10 z11 z12 z13 z14 z15
                 skip)
    obtain ⟨wf, hwf⟩ : ∃ V, V = ((((((((((((((((w2.setCell ⟨(w.heap.size + 1), 0, none⟩ (.bool true)).setCell ⟨(w.heap.size + 1), 1, none⟩ (.int .u64 2)).setCell ⟨(w.heap.size + 1), 2, none⟩ (.int .u64 n)).setCell ⟨(w.heap.size + 1), 3, none⟩ (.int .u64 bal)).setCell ⟨(w.heap.size + 1), 4, none⟩ (.int .u64 v.v)).setCell ⟨(w.heap.size + 1), 5, none⟩ (.int .i64 v.p)).setCell ⟨(w.heap.size + 1), 6, none⟩ (.int .u64 v.pl)).setCell ⟨(w.heap.size + 1), 7, none⟩ (.int .i64 v.b)).setCell ⟨(w.heap.size + 1), 8, none⟩ (.int .u64 v.bl)).setCell ⟨(w.heap.size + 1), 9, none⟩ (.int .u64 v.e)).setCell ⟨(w.heap.size + 1), 10, none⟩ (.int .u64 1)).setCell ⟨(w.heap.size + 1), 11, none⟩ (.int .i64 0)).setCell ⟨(w.heap.size + 1), 12, none⟩ (.int .u64 1)).setCell ⟨(w.heap.size + 1), 13, none⟩ (.int .i64 (-1))).setCell ⟨(w.heap.size + 1), 14, none⟩ (.int .u64 0)).setCell ⟨(w.heap.size + 1), 15, none⟩ (.int .u64 1)) := ⟨_, rfl⟩
    rw [← hwf]
    have hq := (block_set (block_set (block_set (block_set (block_set (block_set (block_set (block_set (block_set (block_set (block_set (block_set (block_set (block_set (block_set (block_set HZ2.out 0 (.bool true)) 1 (.int .u64 2)) 2 (.int .u64 n)) 3 (.int .u64 bal)) 4 (.int .u64 v.v)) 5 (.int .i64 v.p)) 6 (.int .u64 v.pl)) 7 (.int .i64 v.b)) 8 (.int .u64 v.bl)) 9 (.int .u64 v.e)) 10 (.int .u64 1)) 11 (.int .i64 0)) 12 (.int .u64 1)) 13 (.int .i64 (-1))) 14 (.int .u64 0)) 15 (.int .u64 1))
    rw [← hwf] at hq
    simp at hq
    have KZ := Lib.hid (show Keep (fun q => q = (w.heap.size + 1)) w2 wf by rw [hwf]; exact (((((((((((((((((Keep.refl (fun q => q = (w.heap.size + 1)) w2).set1 _ _).set1 _ _).set1 _ _).set1 _ _).set1 _ _).set1 _ _).set1 _ _).set1 _ _).set1 _ _).set1 _ _).set1 _ _).set1 _ _).set1 _ _).set1 _ _).set1 _ _).set1 _ _))
    clear hwf
    have q0 := cell_at hq 0
    have q1 := cell_at hq 1
    have q2 := cell_at hq 2
    have q3 := cell_at hq 3
    have q4 := cell_at hq 4
    have q5 := cell_at hq 5
    have q6 := cell_at hq 6
    have q7 := cell_at hq 7
    have q8 := cell_at hq 8
    have q9 := cell_at hq 9
    have q10 := cell_at hq 10
    have q11 := cell_at hq 11
    have q12 := cell_at hq 12
    have q13 := cell_at hq 13
    have q14 := cell_at hq 14
    have q15 := cell_at hq 15
    simp at q0 q1 q2 q3 q4 q5 q6 q7 q8 q9 q10 q11 q12 q13 q14 q15
    refine bodyPost_ret (v := .agg #[.bool true, .int .u64 2, .int .u64 n, .int .u64 bal, .int .u64 v.v, .int .i64 v.p, .int .u64 v.pl, .int .i64 v.b, .int .u64 v.bl, .int .u64 v.e, .int .u64 1, .int .i64 0, .int .u64 1, .int .i64 (-1), .int .u64 0, .int .u64 1]) ?_ rfl ⟨fun h => absurd h (by omega), fun _ => ⟨rfl, (HC3.out.keep k2.out (fun e => e)).keep KZ.out (fun e => by omega)⟩, Keep.trans' (((((KW.out.trans k1.out).trans KD.out).toAny.trans KE.out).trans k2.out.toAny)) KZ.out (fun q hq e => by omega)⟩
    simp [results, Try.results21, go_sem, q0, q1, q2, q3, q4, q5, q6, q7, q8, q9, q10, q11, q12, q13, q14, q15]

end Go.Proofs.Ytppnjkiegiokeaa.QuoC
