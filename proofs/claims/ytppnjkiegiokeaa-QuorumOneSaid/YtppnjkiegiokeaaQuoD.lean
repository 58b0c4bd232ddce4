/-
  Layer 17 (quorum): an arbiter's cell: Accept.
-/
import Derived.Test.YtppnjkiegiokeaaQuoC
import Derived.Deep.DeepCutAuto
namespace Go.Proofs.Ytppnjkiegiokeaa.QuoD
set_option linter.unusedVariables false
set_option linter.unusedSimpArgs false
set_option maxRecDepth 100000
open Go.RowKit Go.Proofs.Ytppnjkiegiokeaa.Mem Go.Proofs.Ytppnjkiegiokeaa.QuoW Go.Proofs.Ytppnjkiegiokeaa.QuoV Go.Proofs.Ytppnjkiegiokeaa.QuoU Go.Proofs.Ytppnjkiegiokeaa.QuoR Go.Proofs.Ytppnjkiegiokeaa.QuoS Go.Proofs.Ytppnjkiegiokeaa.QuoX Go.Proofs.Ytppnjkiegiokeaa.QuoC

set_option maxHeartbeats 16000000 in
theorem accept_any (b : Nat) (most bal : Int) (v0 v : Vw) (n : Int) (w : World) (h : CAt w b ⟨most, bal, v0⟩) (hv : QuoX.Good v) (hn0 : 0 < n) :
    Calls Try.prog 22 #[.pointer (some ⟨b, 0, none⟩), v.agg, .int .u64 n] w fun e w' => (n < most → e = .returned (Pr.mk false 2 most bal v0 firstV).agg ∧ CAt w' b ⟨most, bal, v0⟩) ∧ (most ≤ n → e = .returned (Pr.mk true 2 n n v firstV).agg ∧ CAt w' b ⟨n, n, v⟩) ∧ Keep (fun q => q = b) w w' := by
  have HC := Lib.hid h
  have hbl := lt_of_block h
  have hv2 : v.v = 2 := by obtain ⟨m, l, rfl, -⟩ := hv; rfl
  have hck : ∀ w : World, Calls Try.prog 18 #[v.agg] w fun e w' => e = .returned (.bool true) ∧ Below w.heap.size w w' := by
    obtain ⟨m, l, rfl, m0, m1, l0, l1⟩ := hv
    exact fun w => check_one 2 m l 1 (by omega) m0 (by omega) l0 (by omega) w
  unfold Vw.agg at hck ⊢
  have C1 := Lib.hid hck
  have d0 : decide (n = 0) = false := decide_eq_false (by omega)
  have d0' : (n == 0) = false := by simp; omega
  have HN0 := Lib.hid hn0
  have HV2 := Lib.hid hv2
  clear h hck hv hv2 hn0
  go_enter Try.func22, Try.ntmps22
  go_upto_region 3 with fail
  obtain ⟨W, hW⟩ : ∃ V, V = (w.alloc (.cells #[.int .u64 v.v, .int .i64 v.p, .int .u64 v.pl, .int .i64 v.b, .int .u64 v.bl, .int .u64 v.e] TVw)).alloc (.cells #[.bool false, .int .u64 0, .int .u64 0, .int .u64 0, .int .u64 0, .int .i64 0, .int .u64 0, .int .i64 0, .int .u64 0, .int .u64 0, .int .u64 0, .int .i64 0, .int .u64 0, .int .i64 0, .int .u64 0, .int .u64 0] TPm) := ⟨_, rfl⟩
  rw [← hW]
  have KW := Lib.hid (show Keep (fun _ => False) w W by rw [hW]; exact ((Keep.refl _ _).alloc _).alloc _)
  have HX := Lib.hid (show W.heap[w.heap.size]? = some (.cells #[.int .u64 v.v, .int .i64 v.p, .int .u64 v.pl, .int .i64 v.b, .int .u64 v.bl, .int .u64 v.e] TVw (0, 0)) by rw [hW]; exact block_alloc (block_new w _) _)
  have HZ := Lib.hid (show W.heap[w.heap.size + 1]? = some (.cells #[.bool false, .int .u64 0, .int .u64 0, .int .u64 0, .int .u64 0, .int .i64 0, .int .u64 0, .int .i64 0, .int .u64 0, .int .u64 0, .int .u64 0, .int .i64 0, .int .u64 0, .int .i64 0, .int .u64 0, .int .u64 0] TPm (0, 0)) by rw [hW]; exact block_new_at (by simp))
  clear hW
  have HC1 := Lib.hid (HC.out.keep KW.out (fun e => e))
  have HS := Lib.hid (show ∀ w' : World, Keep (fun _ => False) W w' → w'.cell? ⟨w.heap.size, 0, none⟩ = some (.int .u64 v.v) ∧ w'.cell? ⟨w.heap.size, 1, none⟩ = some (.int .i64 v.p) ∧ w'.cell? ⟨w.heap.size, 2, none⟩ = some (.int .u64 v.pl) ∧ w'.cell? ⟨w.heap.size, 3, none⟩ = some (.int .i64 v.b) ∧ w'.cell? ⟨w.heap.size, 4, none⟩ = some (.int .u64 v.bl) ∧ w'.cell? ⟨w.heap.size, 5, none⟩ = some (.int .u64 v.e) ∧ w'.cell? ⟨b, 0, none⟩ = some (.int .u64 1) ∧ w'.cell? ⟨b, 6, none⟩ = some (.int .u64 most) from fun w' kw => by
    have hx := (kw.block _ (lt_of_block HX.out) (fun e => e)).trans HX.out
    have hc := HC1.out.keep kw (fun e => e)
    exact ⟨cell_at hx 0, cell_at hx 1, cell_at hx 2, cell_at hx 3, cell_at hx 4, cell_at hx 5, cell_at hc 0, cell_at hc 6⟩)
  by_cases hn : n < most
  · skip
    have hd : decide (n < most) = true := decide_eq_true hn
    refine wp_region_held_drew (S := (fun w' => Keep (fun _ => False) W w')) (by kernel_rfl) ?_ (fun hHeld => ?_)
    · exact (Keep.refl _ W).drew
    generalize hwd : W.drew = wd at hHeld ⊢
    have KD := Lib.hid (show Keep (fun _ => False) W wd by rw [← hwd]; exact (Keep.refl _ W).drew)
    clear hwd
    refine wpAnyH_take (i := 0) (oi := { dst := some 10, op := Op.load 29 (Operand.tmp 4), type := 29, pos := "cell.go:74", after := #[], guard := none }) (v := .agg #[.int .u64 v.v, .int .i64 v.p, .int .u64 v.pl, .int .i64 v.b, .int .u64 v.bl, .int .u64 v.e]) rfl (by kernel_rfl) (by kernel_rfl) (by kernel_rfl) (fun _ _ _ h => h) (Or.inl ⟨by rfl, ?_⟩) (by assumption) ?_
    · (intro w' hSw; (try dsimp only at hSw); obtain ⟨x0, x1, x2, x3, x4, x5, y0, y6⟩ := HS.out w' hSw; go_simp)
    try simp only [Act.put, List.setIfInBounds_toArray, List.set_cons_zero, List.set_cons_succ]
    refine wpAnyH_ready (rs := [1]) (by kernel_rfl) (by simp) ?_
    refine AllReadyH.cons (o := { dst := some 11, op := Op.call { callee := Callee.value (Operand.func 18), args := #[Operand.tmp 10], argTypes := #[29] }, type := 4, pos := "cell.go:74", after := #[{ on := 0, ground := Ground.data }], guard := none }) rfl (fun K hK => ?_) AllReadyH.nil
    go_simp
    go_at_call 18
    refine (C1.out _).mono ?_
    rintro e w1 ⟨rfl, q1⟩
    have K1 := Lib.hid (KD.out.trans (Keep.of0 q1))
    clear q1
    go_simp
    refine hK.out _ _ (K1.out) (fun hHeld => ?_)
    clear hK K
    try simp only [Act.put, List.setIfInBounds_toArray, List.set_cons_zero, List.set_cons_succ]
    refine wpAnyH_take (i := 2) (oi := { dst := some 12, op := Op.unOp UnOp.not 4 (Operand.tmp 11), type := 4, pos := "cell.go:74", after := #[{ on := 1, ground := Ground.data }], guard := none }) (v := .bool false) rfl (by kernel_rfl) (by kernel_rfl) (by kernel_rfl) (fun _ _ _ h => h) (Or.inl ⟨by rfl, ?_⟩) (by assumption) ?_
    · (intro w' hSw; (try dsimp only at hSw); go_simp)
    try simp only [Act.put, List.setIfInBounds_toArray, List.set_cons_zero, List.set_cons_succ]
    refine wpAnyH_take (i := 3) (oi := { dst := some 13, op := Op.move (Operand.tmp 12), type := 4, pos := "cell.go:74", after := #[{ on := 2, ground := Ground.data }, { on := 1, ground := Ground.chain }], guard := none }) (v := .bool false) rfl (by kernel_rfl) (by kernel_rfl) (by kernel_rfl) (fun _ _ _ h => h) (Or.inl ⟨by rfl, ?_⟩) (by assumption) ?_
    · (intro w' hSw; (try dsimp only at hSw); go_simp)
    try simp only [Act.put, List.setIfInBounds_toArray, List.set_cons_zero, List.set_cons_succ]
    refine wpAnyH_take (i := 4) (oi := { dst := some 14, op := Op.fieldAddr 29 (Operand.tmp 4) 0, type := 0, pos := "cell.go:74", after := #[{ on := 3, ground := Ground.guard }], guard := some (3, false) }) (v := .pointer (some ⟨w.heap.size, 0, none⟩)) rfl (by kernel_rfl) (by kernel_rfl) (by kernel_rfl) (fun _ _ _ h => h) (Or.inl ⟨by rfl, ?_⟩) (by assumption) ?_
    · (intro w' hSw; (try dsimp only at hSw); go_simp)
    try simp only [Act.put, List.setIfInBounds_toArray, List.set_cons_zero, List.set_cons_succ]
    refine wpAnyH_take (i := 5) (oi := { dst := some 15, op := Op.load 23 (Operand.tmp 14), type := 23, pos := "cell.go:74", after := #[{ on := 4, ground := Ground.data }, { on := 3, ground := Ground.guard }], guard := some (3, false) }) (v := .int .u64 v.v) rfl (by kernel_rfl) (by kernel_rfl) (by kernel_rfl) (fun _ _ _ h => h) (Or.inl ⟨by rfl, ?_⟩) (by assumption) ?_
    · (intro w' hSw; (try dsimp only at hSw); obtain ⟨x0, x1, x2, x3, x4, x5, y0, y6⟩ := HS.out w' hSw; go_simp)
    try simp only [Act.put, List.setIfInBounds_toArray, List.set_cons_zero, List.set_cons_succ]
    refine wpAnyH_take (i := 6) (oi := { dst := some 16, op := Op.move (Operand.tmp 0), type := 44, pos := "cell.go:74", after := #[{ on := 3, ground := Ground.guard }], guard := some (3, false) }) (v := .pointer (some ⟨b, 0, none⟩)) rfl (by kernel_rfl) (by kernel_rfl) (by kernel_rfl) (fun _ _ _ h => h) (Or.inl ⟨by rfl, ?_⟩) (by assumption) ?_
    · (intro w' hSw; (try dsimp only at hSw); go_simp)
    try simp only [Act.put, List.setIfInBounds_toArray, List.set_cons_zero, List.set_cons_succ]
    refine wpAnyH_take (i := 7) (oi := { dst := some 17, op := Op.nilCheck (Operand.tmp 16), type := 0, pos := "cell.go:74", after := #[{ on := 6, ground := Ground.data }, { on := 3, ground := Ground.guard }], guard := some (3, false) }) (v := .pointer (some ⟨b, 0, none⟩)) rfl (by kernel_rfl) (by kernel_rfl) (by kernel_rfl) (fun _ _ _ h => h) (Or.inl ⟨by rfl, ?_⟩) (by assumption) ?_
    · (intro w' hSw; (try dsimp only at hSw); go_simp)
    try simp only [Act.put, List.setIfInBounds_toArray, List.set_cons_zero, List.set_cons_succ]
    refine wpAnyH_take (i := 8) (oi := { dst := some 18, op := Op.fieldAddr 62 (Operand.tmp 17) 0, type := 0, pos := "cell.go:74", after := #[{ on := 7, ground := Ground.data }, { on := 3, ground := Ground.guard }], guard := some (3, false) }) (v := .pointer (some ⟨b, 0, none⟩)) rfl (by kernel_rfl) (by kernel_rfl) (by kernel_rfl) (fun _ _ _ h => h) (Or.inl ⟨by rfl, ?_⟩) (by assumption) ?_
    · (intro w' hSw; (try dsimp only at hSw); go_simp)
    try simp only [Act.put, List.setIfInBounds_toArray, List.set_cons_zero, List.set_cons_succ]
    refine wpAnyH_take (i := 9) (oi := { dst := some 19, op := Op.fieldAddr 29 (Operand.tmp 18) 0, type := 0, pos := "cell.go:74", after := #[{ on := 8, ground := Ground.data }, { on := 3, ground := Ground.guard }], guard := some (3, false) }) (v := .pointer (some ⟨b, 0, none⟩)) rfl (by kernel_rfl) (by kernel_rfl) (by kernel_rfl) (fun _ _ _ h => h) (Or.inl ⟨by rfl, ?_⟩) (by assumption) ?_
    · (intro w' hSw; (try dsimp only at hSw); go_simp)
    try simp only [Act.put, List.setIfInBounds_toArray, List.set_cons_zero, List.set_cons_succ]
    refine wpAnyH_take (i := 10) (oi := { dst := some 20, op := Op.load 23 (Operand.tmp 19), type := 23, pos := "cell.go:74", after := #[{ on := 9, ground := Ground.data }, { on := 3, ground := Ground.guard }], guard := some (3, false) }) (v := .int .u64 1) rfl (by kernel_rfl) (by kernel_rfl) (by kernel_rfl) (fun _ _ _ h => h) (Or.inl ⟨by rfl, ?_⟩) (by assumption) ?_
    · (intro w' hSw; (try dsimp only at hSw); obtain ⟨x0, x1, x2, x3, x4, x5, y0, y6⟩ := HS.out w' hSw; go_simp)
    try simp only [Act.put, List.setIfInBounds_toArray, List.set_cons_zero, List.set_cons_succ]
    refine wpAnyH_take (i := 11) (oi := { dst := some 21, op := Op.binOp BinOp.add 23 (Operand.tmp 20) (Operand.const (Value.int IntKind.u64 1)) 23, type := 23, pos := "cell.go:74", after := #[{ on := 10, ground := Ground.data }, { on := 3, ground := Ground.guard }], guard := some (3, false) }) (v := .int .u64 2) rfl (by kernel_rfl) (by kernel_rfl) (by kernel_rfl) (fun _ _ _ h => h) (Or.inl ⟨by rfl, ?_⟩) (by assumption) ?_
    · (intro w' hSw; (try dsimp only at hSw); have hw2 : IntKind.u64.wrap 2 = 2 := (by rw [IntKind.wrap_u64]; omega); go_simp)
    try simp only [Act.put, List.setIfInBounds_toArray, List.set_cons_zero, List.set_cons_succ]
    refine wpAnyH_take (i := 12) (oi := { dst := some 22, op := Op.binOp BinOp.neq 23 (Operand.tmp 15) (Operand.tmp 21) 23, type := 4, pos := "cell.go:74", after := #[{ on := 5, ground := Ground.data }, { on := 11, ground := Ground.data }, { on := 3, ground := Ground.guard }], guard := some (3, false) }) (v := .bool false) rfl (by kernel_rfl) (by kernel_rfl) (by kernel_rfl) (fun _ _ _ h => h) (Or.inl ⟨by rfl, ?_⟩) (by assumption) ?_
    · (intro w' hSw; (try dsimp only at hSw); have := HV2.out; go_simp)
    try simp only [Act.put, List.setIfInBounds_toArray, List.set_cons_zero, List.set_cons_succ]
    refine wpAnyH_take (i := 13) (oi := { dst := some 23, op := Op.pick (Operand.tmp 13) (Operand.const (Value.bool true)) (Operand.tmp 22), type := 4, pos := "cell.go:74", after := #[{ on := 3, ground := Ground.data }, { on := 12, ground := Ground.data }], guard := none }) (v := .bool false) rfl (by kernel_rfl) (by kernel_rfl) (by kernel_rfl) (fun _ _ _ h => h) (Or.inl ⟨by rfl, ?_⟩) (by assumption) ?_
    · (intro w' hSw; (try dsimp only at hSw); go_simp)
    try simp only [Act.put, List.setIfInBounds_toArray, List.set_cons_zero, List.set_cons_succ]
    refine wpAnyH_take (i := 14) (oi := { dst := some 24, op := Op.move (Operand.tmp 23), type := 4, pos := "cell.go:74", after := #[{ on := 13, ground := Ground.data }, { on := 3, ground := Ground.chain }], guard := none }) (v := .bool false) rfl (by kernel_rfl) (by kernel_rfl) (by kernel_rfl) (fun _ _ _ h => h) (Or.inl ⟨by rfl, ?_⟩) (by assumption) ?_
    · (intro w' hSw; (try dsimp only at hSw); go_simp)
    try simp only [Act.put, List.setIfInBounds_toArray, List.set_cons_zero, List.set_cons_succ]
    refine wpAnyH_take (i := 15) (oi := { dst := some 25, op := Op.move (Operand.tmp 2), type := 23, pos := "cell.go:74", after := #[{ on := 14, ground := Ground.guard }], guard := some (14, false) }) (v := .int .u64 n) rfl (by kernel_rfl) (by kernel_rfl) (by kernel_rfl) (fun _ _ _ h => h) (Or.inl ⟨by rfl, ?_⟩) (by assumption) ?_
    · (intro w' hSw; (try dsimp only at hSw); go_simp)
    try simp only [Act.put, List.setIfInBounds_toArray, List.set_cons_zero, List.set_cons_succ]
    refine wpAnyH_take (i := 16) (oi := { dst := some 26, op := Op.move (Operand.tmp 0), type := 44, pos := "cell.go:74", after := #[{ on := 14, ground := Ground.guard }], guard := some (14, false) }) (v := .pointer (some ⟨b, 0, none⟩)) rfl (by kernel_rfl) (by kernel_rfl) (by kernel_rfl) (fun _ _ _ h => h) (Or.inl ⟨by rfl, ?_⟩) (by assumption) ?_
    · (intro w' hSw; (try dsimp only at hSw); go_simp)
    try simp only [Act.put, List.setIfInBounds_toArray, List.set_cons_zero, List.set_cons_succ]
    refine wpAnyH_take (i := 17) (oi := { dst := some 27, op := Op.nilCheck (Operand.tmp 26), type := 0, pos := "cell.go:74", after := #[{ on := 16, ground := Ground.data }, { on := 14, ground := Ground.guard }], guard := some (14, false) }) (v := .pointer (some ⟨b, 0, none⟩)) rfl (by kernel_rfl) (by kernel_rfl) (by kernel_rfl) (fun _ _ _ h => h) (Or.inl ⟨by rfl, ?_⟩) (by assumption) ?_
    · (intro w' hSw; (try dsimp only at hSw); go_simp)
    try simp only [Act.put, List.setIfInBounds_toArray, List.set_cons_zero, List.set_cons_succ]
    refine wpAnyH_take (i := 18) (oi := { dst := some 28, op := Op.fieldAddr 62 (Operand.tmp 27) 1, type := 0, pos := "cell.go:74", after := #[{ on := 17, ground := Ground.data }, { on := 14, ground := Ground.guard }], guard := some (14, false) }) (v := .pointer (some ⟨b, 6, none⟩)) rfl (by kernel_rfl) (by kernel_rfl) (by kernel_rfl) (fun _ _ _ h => h) (Or.inl ⟨by rfl, ?_⟩) (by assumption) ?_
    · (intro w' hSw; (try dsimp only at hSw); go_simp)
    try simp only [Act.put, List.setIfInBounds_toArray, List.set_cons_zero, List.set_cons_succ]
    refine wpAnyH_take (i := 19) (oi := { dst := some 29, op := Op.load 23 (Operand.tmp 28), type := 23, pos := "cell.go:74", after := #[{ on := 18, ground := Ground.data }, { on := 14, ground := Ground.guard }], guard := some (14, false) }) (v := .int .u64 most) rfl (by kernel_rfl) (by kernel_rfl) (by kernel_rfl) (fun _ _ _ h => h) (Or.inl ⟨by rfl, ?_⟩) (by assumption) ?_
    · (intro w' hSw; (try dsimp only at hSw); obtain ⟨x0, x1, x2, x3, x4, x5, y0, y6⟩ := HS.out w' hSw; go_simp)
    try simp only [Act.put, List.setIfInBounds_toArray, List.set_cons_zero, List.set_cons_succ]
    refine wpAnyH_take (i := 20) (oi := { dst := some 30, op := Op.binOp BinOp.lss 23 (Operand.tmp 25) (Operand.tmp 29) 23, type := 4, pos := "cell.go:74", after := #[{ on := 15, ground := Ground.data }, { on := 19, ground := Ground.data }, { on := 14, ground := Ground.guard }], guard := some (14, false) }) (v := .bool true) rfl (by kernel_rfl) (by kernel_rfl) (by kernel_rfl) (fun _ _ _ h => h) (Or.inl ⟨by rfl, ?_⟩) (by assumption) ?_
    · (intro w' hSw; (try dsimp only at hSw); go_simp)
    try simp only [Act.put, List.setIfInBounds_toArray, List.set_cons_zero, List.set_cons_succ]
    refine wpAnyH_take (i := 21) (oi := { dst := some 31, op := Op.pick (Operand.tmp 24) (Operand.const (Value.bool true)) (Operand.tmp 30), type := 4, pos := "cell.go:74", after := #[{ on := 14, ground := Ground.data }, { on := 20, ground := Ground.data }], guard := none }) (v := .bool true) rfl (by kernel_rfl) (by kernel_rfl) (by kernel_rfl) (fun _ _ _ h => h) (Or.inl ⟨by rfl, ?_⟩) (by assumption) ?_
    · (intro w' hSw; (try dsimp only at hSw); go_simp)
    try simp only [Act.put, List.setIfInBounds_toArray, List.set_cons_zero, List.set_cons_succ]
    refine wpAnyH_take (i := 22) (oi := { dst := some 32, op := Op.move (Operand.tmp 31), type := 4, pos := "cell.go:74", after := #[{ on := 21, ground := Ground.data }, { on := 14, ground := Ground.chain }], guard := none }) (v := .bool true) rfl (by kernel_rfl) (by kernel_rfl) (by kernel_rfl) (fun _ _ _ h => h) (Or.inl ⟨by rfl, ?_⟩) (by assumption) ?_
    · (intro w' hSw; (try dsimp only at hSw); go_simp)
    try simp only [Act.put, List.setIfInBounds_toArray, List.set_cons_zero, List.set_cons_succ]
    refine wpAnyH_take (i := 23) (oi := { dst := some 33, op := Op.move (Operand.tmp 2), type := 23, pos := "cell.go:74", after := #[{ on := 22, ground := Ground.guard }], guard := some (22, false) }) (v := undef) rfl (by kernel_rfl) (by kernel_rfl) (by kernel_rfl) (fun _ _ _ h => h) (Or.inr ⟨by rfl, rfl⟩) (by assumption) ?_
    try simp only [Act.put, List.setIfInBounds_toArray, List.set_cons_zero, List.set_cons_succ]
    refine wpAnyH_take (i := 24) (oi := { dst := some 34, op := Op.binOp BinOp.eql 23 (Operand.tmp 33) (Operand.const (Value.int IntKind.u64 0)) 23, type := 4, pos := "cell.go:74", after := #[{ on := 23, ground := Ground.data }, { on := 22, ground := Ground.guard }], guard := some (22, false) }) (v := undef) rfl (by kernel_rfl) (by kernel_rfl) (by kernel_rfl) (fun _ _ _ h => h) (Or.inr ⟨by rfl, rfl⟩) (by assumption) ?_
    try simp only [Act.put, List.setIfInBounds_toArray, List.set_cons_zero, List.set_cons_succ]
    refine wpAnyH_take (i := 25) (oi := { dst := some 35, op := Op.pick (Operand.tmp 32) (Operand.const (Value.bool true)) (Operand.tmp 34), type := 4, pos := "cell.go:74", after := #[{ on := 22, ground := Ground.data }, { on := 24, ground := Ground.data }], guard := none }) (v := .bool true) rfl (by kernel_rfl) (by kernel_rfl) (by kernel_rfl) (fun _ _ _ h => h) (Or.inl ⟨by rfl, ?_⟩) (by assumption) ?_
    · (intro w' hSw; (try dsimp only at hSw); go_simp)
    try simp only [Act.put, List.setIfInBounds_toArray, List.set_cons_zero, List.set_cons_succ]
    refine wpAnyH_done (by kernel_rfl) ?_ _
    have HC2 := Lib.hid (HC1.out.keep K1.out (fun e => e))
    have CP := Lib.hid (promise_any b false most bal v0 w1 HC2.out)
    unfold Pr.agg firstV at CP
    go_wp2_with (go_at_call 25; refine CP.out.mono ?_; clear CP; rintro e w2 ⟨rfl, k2⟩; replace k2 := Lib.hid k2
                 have HZ2 := Lib.hid (((K1.out.trans k2.out).block _ (lt_of_block HZ.out) (fun e => e)).trans HZ.out)
                 have z0 := cell_at HZ2.out 0
                 have z1 := cell_at HZ2.out 1
                 have z2 := cell_at HZ2.out 2
                 have z3 := cell_at HZ2.out 3
                 have z4 := cell_at HZ2.out 4
                 have z5 := cell_at HZ2.out 5
                 have z6 := cell_at HZ2.out 6
                 have z7 := cell_at HZ2.out 7
                 have z8 := cell_at HZ2.out 8
                 have z9 := cell_at HZ2.out 9
                 have z10 := cell_at HZ2.out 10
                 have z11 := cell_at HZ2.out 11
                 have z12 := cell_at HZ2.out 12
                 have z13 := cell_at HZ2.out 13
                 have z14 := cell_at HZ2.out 14
                 have z15 := cell_at HZ2.out 15
                 have zf0 := free_at HZ2.out 0
                 have zf1 := free_at HZ2.out 1
                 have zf2 := free_at HZ2.out 2
                 have zf3 := free_at HZ2.out 3
                 have zf4 := free_at HZ2.out 4
                 have zf5 := free_at HZ2.out 5
                 have zf6 := free_at HZ2.out 6
                 have zf7 := free_at HZ2.out 7
                 have zf8 := free_at HZ2.out 8
                 have zf9 := free_at HZ2.out 9
                 have zf10 := free_at HZ2.out 10
                 have zf11 := free_at HZ2.out 11
                 have zf12 := free_at HZ2.out 12
                 have zf13 := free_at HZ2.out 13
                 have zf14 := free_at HZ2.out 14
                 have zf15 := free_at HZ2.out 15
                 simp at z0 z1 z2 z3 z4 z5 z6 z7 z8 z9 z10 z11 z12 z13 z14 z15
                 skip)
    obtain ⟨wf, hwf⟩ : ∃ V, V = ((((((((((((((((w2.setCell ⟨(w.heap.size + 1), 0, none⟩ (.bool false)).setCell ⟨(w.heap.size + 1), 1, none⟩ (.int .u64 2)).setCell ⟨(w.heap.size + 1), 2, none⟩ (.int .u64 most)).setCell ⟨(w.heap.size + 1), 3, none⟩ (.int .u64 bal)).setCell ⟨(w.heap.size + 1), 4, none⟩ (.int .u64 v0.v)).setCell ⟨(w.heap.size + 1), 5, none⟩ (.int .i64 v0.p)).setCell ⟨(w.heap.size + 1), 6, none⟩ (.int .u64 v0.pl)).setCell ⟨(w.heap.size + 1), 7, none⟩ (.int .i64 v0.b)).setCell ⟨(w.heap.size + 1), 8, none⟩ (.int .u64 v0.bl)).setCell ⟨(w.heap.size + 1), 9, none⟩ (.int .u64 v0.e)).setCell ⟨(w.heap.size + 1), 10, none⟩ (.int .u64 1)).setCell ⟨(w.heap.size + 1), 11, none⟩ (.int .i64 0)).setCell ⟨(w.heap.size + 1), 12, none⟩ (.int .u64 1)).setCell ⟨(w.heap.size + 1), 13, none⟩ (.int .i64 (-1))).setCell ⟨(w.heap.size + 1), 14, none⟩ (.int .u64 0)).setCell ⟨(w.heap.size + 1), 15, none⟩ (.int .u64 1)) := ⟨_, rfl⟩
    rw [← hwf]
    have hq := (block_set (block_set (block_set (block_set (block_set (block_set (block_set (block_set (block_set (block_set (block_set (block_set (block_set (block_set (block_set (block_set HZ2.out 0 (.bool false)) 1 (.int .u64 2)) 2 (.int .u64 most)) 3 (.int .u64 bal)) 4 (.int .u64 v0.v)) 5 (.int .i64 v0.p)) 6 (.int .u64 v0.pl)) 7 (.int .i64 v0.b)) 8 (.int .u64 v0.bl)) 9 (.int .u64 v0.e)) 10 (.int .u64 1)) 11 (.int .i64 0)) 12 (.int .u64 1)) 13 (.int .i64 (-1))) 14 (.int .u64 0)) 15 (.int .u64 1))
    rw [← hwf] at hq
    simp at hq
    have KZ := Lib.hid (show Keep (fun q => q = (w.heap.size + 1)) w2 wf by rw [hwf]; exact (((((((((((((((((Keep.refl (fun q => q = (w.heap.size + 1)) w2).set1 _ _).set1 _ _).set1 _ _).set1 _ _).set1 _ _).set1 _ _).set1 _ _).set1 _ _).set1 _ _).set1 _ _).set1 _ _).set1 _ _).set1 _ _).set1 _ _).set1 _ _).set1 _ _))
    clear hwf
    have q0 := cell_at hq 0
    have q1 := cell_at hq 1
    have q2 := cell_at hq 2
    have q3 := cell_at hq 3
    have q4 := cell_at hq 4
    have q5 := cell_at hq 5
    have q6 := cell_at hq 6
    have q7 := cell_at hq 7
    have q8 := cell_at hq 8
    have q9 := cell_at hq 9
    have q10 := cell_at hq 10
    have q11 := cell_at hq 11
    have q12 := cell_at hq 12
    have q13 := cell_at hq 13
    have q14 := cell_at hq 14
    have q15 := cell_at hq 15
    simp at q0 q1 q2 q3 q4 q5 q6 q7 q8 q9 q10 q11 q12 q13 q14 q15
    refine bodyPost_ret (v := .agg #[.bool false, .int .u64 2, .int .u64 most, .int .u64 bal, .int .u64 v0.v, .int .i64 v0.p, .int .u64 v0.pl, .int .i64 v0.b, .int .u64 v0.bl, .int .u64 v0.e, .int .u64 1, .int .i64 0, .int .u64 1, .int .i64 (-1), .int .u64 0, .int .u64 1]) ?_ rfl ⟨fun _ => ⟨rfl, (HC2.out.keep k2.out (fun e => e)).keep KZ.out (fun e => by omega)⟩, fun h => absurd h (by omega), (Keep.then ((KW.out.trans K1.out).trans k2.out) KZ.out (fun q e => by omega)).toAny⟩
    simp [results, Try.results22, go_sem, q0, q1, q2, q3, q4, q5, q6, q7, q8, q9, q10, q11, q12, q13, q14, q15]
  · skip
    have hd : decide (n < most) = false := decide_eq_false hn
    refine wp_region_held_drew (S := (fun w' => Keep (fun _ => False) W w')) (by kernel_rfl) ?_ (fun hHeld => ?_)
    · exact (Keep.refl _ W).drew
    generalize hwd : W.drew = wd at hHeld ⊢
    have KD := Lib.hid (show Keep (fun _ => False) W wd by rw [← hwd]; exact (Keep.refl _ W).drew)
    clear hwd
    refine wpAnyH_take (i := 0) (oi := { dst := some 10, op := Op.load 29 (Operand.tmp 4), type := 29, pos := "cell.go:74", after := #[], guard := none }) (v := .agg #[.int .u64 v.v, .int .i64 v.p, .int .u64 v.pl, .int .i64 v.b, .int .u64 v.bl, .int .u64 v.e]) rfl (by kernel_rfl) (by kernel_rfl) (by kernel_rfl) (fun _ _ _ h => h) (Or.inl ⟨by rfl, ?_⟩) (by assumption) ?_
    · (intro w' hSw; (try dsimp only at hSw); obtain ⟨x0, x1, x2, x3, x4, x5, y0, y6⟩ := HS.out w' hSw; go_simp)
    try simp only [Act.put, List.setIfInBounds_toArray, List.set_cons_zero, List.set_cons_succ]
    refine wpAnyH_ready (rs := [1]) (by kernel_rfl) (by simp) ?_
    refine AllReadyH.cons (o := { dst := some 11, op := Op.call { callee := Callee.value (Operand.func 18), args := #[Operand.tmp 10], argTypes := #[29] }, type := 4, pos := "cell.go:74", after := #[{ on := 0, ground := Ground.data }], guard := none }) rfl (fun K hK => ?_) AllReadyH.nil
    go_simp
    go_at_call 18
    refine (C1.out _).mono ?_
    rintro e w1 ⟨rfl, q1⟩
    have K1 := Lib.hid (KD.out.trans (Keep.of0 q1))
    clear q1
    go_simp
    refine hK.out _ _ (K1.out) (fun hHeld => ?_)
    clear hK K
    try simp only [Act.put, List.setIfInBounds_toArray, List.set_cons_zero, List.set_cons_succ]
    refine wpAnyH_take (i := 2) (oi := { dst := some 12, op := Op.unOp UnOp.not 4 (Operand.tmp 11), type := 4, pos := "cell.go:74", after := #[{ on := 1, ground := Ground.data }], guard := none }) (v := .bool false) rfl (by kernel_rfl) (by kernel_rfl) (by kernel_rfl) (fun _ _ _ h => h) (Or.inl ⟨by rfl, ?_⟩) (by assumption) ?_
    · (intro w' hSw; (try dsimp only at hSw); go_simp)
    try simp only [Act.put, List.setIfInBounds_toArray, List.set_cons_zero, List.set_cons_succ]
    refine wpAnyH_take (i := 3) (oi := { dst := some 13, op := Op.move (Operand.tmp 12), type := 4, pos := "cell.go:74", after := #[{ on := 2, ground := Ground.data }, { on := 1, ground := Ground.chain }], guard := none }) (v := .bool false) rfl (by kernel_rfl) (by kernel_rfl) (by kernel_rfl) (fun _ _ _ h => h) (Or.inl ⟨by rfl, ?_⟩) (by assumption) ?_
    · (intro w' hSw; (try dsimp only at hSw); go_simp)
    try simp only [Act.put, List.setIfInBounds_toArray, List.set_cons_zero, List.set_cons_succ]
    refine wpAnyH_take (i := 4) (oi := { dst := some 14, op := Op.fieldAddr 29 (Operand.tmp 4) 0, type := 0, pos := "cell.go:74", after := #[{ on := 3, ground := Ground.guard }], guard := some (3, false) }) (v := .pointer (some ⟨w.heap.size, 0, none⟩)) rfl (by kernel_rfl) (by kernel_rfl) (by kernel_rfl) (fun _ _ _ h => h) (Or.inl ⟨by rfl, ?_⟩) (by assumption) ?_
    · (intro w' hSw; (try dsimp only at hSw); go_simp)
    try simp only [Act.put, List.setIfInBounds_toArray, List.set_cons_zero, List.set_cons_succ]
    refine wpAnyH_take (i := 5) (oi := { dst := some 15, op := Op.load 23 (Operand.tmp 14), type := 23, pos := "cell.go:74", after := #[{ on := 4, ground := Ground.data }, { on := 3, ground := Ground.guard }], guard := some (3, false) }) (v := .int .u64 v.v) rfl (by kernel_rfl) (by kernel_rfl) (by kernel_rfl) (fun _ _ _ h => h) (Or.inl ⟨by rfl, ?_⟩) (by assumption) ?_
    · (intro w' hSw; (try dsimp only at hSw); obtain ⟨x0, x1, x2, x3, x4, x5, y0, y6⟩ := HS.out w' hSw; go_simp)
    try simp only [Act.put, List.setIfInBounds_toArray, List.set_cons_zero, List.set_cons_succ]
    refine wpAnyH_take (i := 6) (oi := { dst := some 16, op := Op.move (Operand.tmp 0), type := 44, pos := "cell.go:74", after := #[{ on := 3, ground := Ground.guard }], guard := some (3, false) }) (v := .pointer (some ⟨b, 0, none⟩)) rfl (by kernel_rfl) (by kernel_rfl) (by kernel_rfl) (fun _ _ _ h => h) (Or.inl ⟨by rfl, ?_⟩) (by assumption) ?_
    · (intro w' hSw; (try dsimp only at hSw); go_simp)
    try simp only [Act.put, List.setIfInBounds_toArray, List.set_cons_zero, List.set_cons_succ]
    refine wpAnyH_take (i := 7) (oi := { dst := some 17, op := Op.nilCheck (Operand.tmp 16), type := 0, pos := "cell.go:74", after := #[{ on := 6, ground := Ground.data }, { on := 3, ground := Ground.guard }], guard := some (3, false) }) (v := .pointer (some ⟨b, 0, none⟩)) rfl (by kernel_rfl) (by kernel_rfl) (by kernel_rfl) (fun _ _ _ h => h) (Or.inl ⟨by rfl, ?_⟩) (by assumption) ?_
    · (intro w' hSw; (try dsimp only at hSw); go_simp)
    try simp only [Act.put, List.setIfInBounds_toArray, List.set_cons_zero, List.set_cons_succ]
    refine wpAnyH_take (i := 8) (oi := { dst := some 18, op := Op.fieldAddr 62 (Operand.tmp 17) 0, type := 0, pos := "cell.go:74", after := #[{ on := 7, ground := Ground.data }, { on := 3, ground := Ground.guard }], guard := some (3, false) }) (v := .pointer (some ⟨b, 0, none⟩)) rfl (by kernel_rfl) (by kernel_rfl) (by kernel_rfl) (fun _ _ _ h => h) (Or.inl ⟨by rfl, ?_⟩) (by assumption) ?_
    · (intro w' hSw; (try dsimp only at hSw); go_simp)
    try simp only [Act.put, List.setIfInBounds_toArray, List.set_cons_zero, List.set_cons_succ]
    refine wpAnyH_take (i := 9) (oi := { dst := some 19, op := Op.fieldAddr 29 (Operand.tmp 18) 0, type := 0, pos := "cell.go:74", after := #[{ on := 8, ground := Ground.data }, { on := 3, ground := Ground.guard }], guard := some (3, false) }) (v := .pointer (some ⟨b, 0, none⟩)) rfl (by kernel_rfl) (by kernel_rfl) (by kernel_rfl) (fun _ _ _ h => h) (Or.inl ⟨by rfl, ?_⟩) (by assumption) ?_
    · (intro w' hSw; (try dsimp only at hSw); go_simp)
    try simp only [Act.put, List.setIfInBounds_toArray, List.set_cons_zero, List.set_cons_succ]
    refine wpAnyH_take (i := 10) (oi := { dst := some 20, op := Op.load 23 (Operand.tmp 19), type := 23, pos := "cell.go:74", after := #[{ on := 9, ground := Ground.data }, { on := 3, ground := Ground.guard }], guard := some (3, false) }) (v := .int .u64 1) rfl (by kernel_rfl) (by kernel_rfl) (by kernel_rfl) (fun _ _ _ h => h) (Or.inl ⟨by rfl, ?_⟩) (by assumption) ?_
    · (intro w' hSw; (try dsimp only at hSw); obtain ⟨x0, x1, x2, x3, x4, x5, y0, y6⟩ := HS.out w' hSw; go_simp)
    try simp only [Act.put, List.setIfInBounds_toArray, List.set_cons_zero, List.set_cons_succ]
    refine wpAnyH_take (i := 11) (oi := { dst := some 21, op := Op.binOp BinOp.add 23 (Operand.tmp 20) (Operand.const (Value.int IntKind.u64 1)) 23, type := 23, pos := "cell.go:74", after := #[{ on := 10, ground := Ground.data }, { on := 3, ground := Ground.guard }], guard := some (3, false) }) (v := .int .u64 2) rfl (by kernel_rfl) (by kernel_rfl) (by kernel_rfl) (fun _ _ _ h => h) (Or.inl ⟨by rfl, ?_⟩) (by assumption) ?_
    · (intro w' hSw; (try dsimp only at hSw); have hw2 : IntKind.u64.wrap 2 = 2 := (by rw [IntKind.wrap_u64]; omega); go_simp)
    try simp only [Act.put, List.setIfInBounds_toArray, List.set_cons_zero, List.set_cons_succ]
    refine wpAnyH_take (i := 12) (oi := { dst := some 22, op := Op.binOp BinOp.neq 23 (Operand.tmp 15) (Operand.tmp 21) 23, type := 4, pos := "cell.go:74", after := #[{ on := 5, ground := Ground.data }, { on := 11, ground := Ground.data }, { on := 3, ground := Ground.guard }], guard := some (3, false) }) (v := .bool false) rfl (by kernel_rfl) (by kernel_rfl) (by kernel_rfl) (fun _ _ _ h => h) (Or.inl ⟨by rfl, ?_⟩) (by assumption) ?_
    · (intro w' hSw; (try dsimp only at hSw); have := HV2.out; go_simp)
    try simp only [Act.put, List.setIfInBounds_toArray, List.set_cons_zero, List.set_cons_succ]
    refine wpAnyH_take (i := 13) (oi := { dst := some 23, op := Op.pick (Operand.tmp 13) (Operand.const (Value.bool true)) (Operand.tmp 22), type := 4, pos := "cell.go:74", after := #[{ on := 3, ground := Ground.data }, { on := 12, ground := Ground.data }], guard := none }) (v := .bool false) rfl (by kernel_rfl) (by kernel_rfl) (by kernel_rfl) (fun _ _ _ h => h) (Or.inl ⟨by rfl, ?_⟩) (by assumption) ?_
    · (intro w' hSw; (try dsimp only at hSw); go_simp)
    try simp only [Act.put, List.setIfInBounds_toArray, List.set_cons_zero, List.set_cons_succ]
    refine wpAnyH_take (i := 14) (oi := { dst := some 24, op := Op.move (Operand.tmp 23), type := 4, pos := "cell.go:74", after := #[{ on := 13, ground := Ground.data }, { on := 3, ground := Ground.chain }], guard := none }) (v := .bool false) rfl (by kernel_rfl) (by kernel_rfl) (by kernel_rfl) (fun _ _ _ h => h) (Or.inl ⟨by rfl, ?_⟩) (by assumption) ?_
    · (intro w' hSw; (try dsimp only at hSw); go_simp)
    try simp only [Act.put, List.setIfInBounds_toArray, List.set_cons_zero, List.set_cons_succ]
    refine wpAnyH_take (i := 15) (oi := { dst := some 25, op := Op.move (Operand.tmp 2), type := 23, pos := "cell.go:74", after := #[{ on := 14, ground := Ground.guard }], guard := some (14, false) }) (v := .int .u64 n) rfl (by kernel_rfl) (by kernel_rfl) (by kernel_rfl) (fun _ _ _ h => h) (Or.inl ⟨by rfl, ?_⟩) (by assumption) ?_
    · (intro w' hSw; (try dsimp only at hSw); go_simp)
    try simp only [Act.put, List.setIfInBounds_toArray, List.set_cons_zero, List.set_cons_succ]
    refine wpAnyH_take (i := 16) (oi := { dst := some 26, op := Op.move (Operand.tmp 0), type := 44, pos := "cell.go:74", after := #[{ on := 14, ground := Ground.guard }], guard := some (14, false) }) (v := .pointer (some ⟨b, 0, none⟩)) rfl (by kernel_rfl) (by kernel_rfl) (by kernel_rfl) (fun _ _ _ h => h) (Or.inl ⟨by rfl, ?_⟩) (by assumption) ?_
    · (intro w' hSw; (try dsimp only at hSw); go_simp)
    try simp only [Act.put, List.setIfInBounds_toArray, List.set_cons_zero, List.set_cons_succ]
    refine wpAnyH_take (i := 17) (oi := { dst := some 27, op := Op.nilCheck (Operand.tmp 26), type := 0, pos := "cell.go:74", after := #[{ on := 16, ground := Ground.data }, { on := 14, ground := Ground.guard }], guard := some (14, false) }) (v := .pointer (some ⟨b, 0, none⟩)) rfl (by kernel_rfl) (by kernel_rfl) (by kernel_rfl) (fun _ _ _ h => h) (Or.inl ⟨by rfl, ?_⟩) (by assumption) ?_
    · (intro w' hSw; (try dsimp only at hSw); go_simp)
    try simp only [Act.put, List.setIfInBounds_toArray, List.set_cons_zero, List.set_cons_succ]
    refine wpAnyH_take (i := 18) (oi := { dst := some 28, op := Op.fieldAddr 62 (Operand.tmp 27) 1, type := 0, pos := "cell.go:74", after := #[{ on := 17, ground := Ground.data }, { on := 14, ground := Ground.guard }], guard := some (14, false) }) (v := .pointer (some ⟨b, 6, none⟩)) rfl (by kernel_rfl) (by kernel_rfl) (by kernel_rfl) (fun _ _ _ h => h) (Or.inl ⟨by rfl, ?_⟩) (by assumption) ?_
    · (intro w' hSw; (try dsimp only at hSw); go_simp)
    try simp only [Act.put, List.setIfInBounds_toArray, List.set_cons_zero, List.set_cons_succ]
    refine wpAnyH_take (i := 19) (oi := { dst := some 29, op := Op.load 23 (Operand.tmp 28), type := 23, pos := "cell.go:74", after := #[{ on := 18, ground := Ground.data }, { on := 14, ground := Ground.guard }], guard := some (14, false) }) (v := .int .u64 most) rfl (by kernel_rfl) (by kernel_rfl) (by kernel_rfl) (fun _ _ _ h => h) (Or.inl ⟨by rfl, ?_⟩) (by assumption) ?_
    · (intro w' hSw; (try dsimp only at hSw); obtain ⟨x0, x1, x2, x3, x4, x5, y0, y6⟩ := HS.out w' hSw; go_simp)
    try simp only [Act.put, List.setIfInBounds_toArray, List.set_cons_zero, List.set_cons_succ]
    refine wpAnyH_take (i := 20) (oi := { dst := some 30, op := Op.binOp BinOp.lss 23 (Operand.tmp 25) (Operand.tmp 29) 23, type := 4, pos := "cell.go:74", after := #[{ on := 15, ground := Ground.data }, { on := 19, ground := Ground.data }, { on := 14, ground := Ground.guard }], guard := some (14, false) }) (v := .bool false) rfl (by kernel_rfl) (by kernel_rfl) (by kernel_rfl) (fun _ _ _ h => h) (Or.inl ⟨by rfl, ?_⟩) (by assumption) ?_
    · (intro w' hSw; (try dsimp only at hSw); go_simp)
    try simp only [Act.put, List.setIfInBounds_toArray, List.set_cons_zero, List.set_cons_succ]
    refine wpAnyH_take (i := 21) (oi := { dst := some 31, op := Op.pick (Operand.tmp 24) (Operand.const (Value.bool true)) (Operand.tmp 30), type := 4, pos := "cell.go:74", after := #[{ on := 14, ground := Ground.data }, { on := 20, ground := Ground.data }], guard := none }) (v := .bool false) rfl (by kernel_rfl) (by kernel_rfl) (by kernel_rfl) (fun _ _ _ h => h) (Or.inl ⟨by rfl, ?_⟩) (by assumption) ?_
    · (intro w' hSw; (try dsimp only at hSw); go_simp)
    try simp only [Act.put, List.setIfInBounds_toArray, List.set_cons_zero, List.set_cons_succ]
    refine wpAnyH_take (i := 22) (oi := { dst := some 32, op := Op.move (Operand.tmp 31), type := 4, pos := "cell.go:74", after := #[{ on := 21, ground := Ground.data }, { on := 14, ground := Ground.chain }], guard := none }) (v := .bool false) rfl (by kernel_rfl) (by kernel_rfl) (by kernel_rfl) (fun _ _ _ h => h) (Or.inl ⟨by rfl, ?_⟩) (by assumption) ?_
    · (intro w' hSw; (try dsimp only at hSw); go_simp)
    try simp only [Act.put, List.setIfInBounds_toArray, List.set_cons_zero, List.set_cons_succ]
    refine wpAnyH_take (i := 23) (oi := { dst := some 33, op := Op.move (Operand.tmp 2), type := 23, pos := "cell.go:74", after := #[{ on := 22, ground := Ground.guard }], guard := some (22, false) }) (v := .int .u64 n) rfl (by kernel_rfl) (by kernel_rfl) (by kernel_rfl) (fun _ _ _ h => h) (Or.inl ⟨by rfl, ?_⟩) (by assumption) ?_
    · (intro w' hSw; (try dsimp only at hSw); go_simp)
    try simp only [Act.put, List.setIfInBounds_toArray, List.set_cons_zero, List.set_cons_succ]
    refine wpAnyH_take (i := 24) (oi := { dst := some 34, op := Op.binOp BinOp.eql 23 (Operand.tmp 33) (Operand.const (Value.int IntKind.u64 0)) 23, type := 4, pos := "cell.go:74", after := #[{ on := 23, ground := Ground.data }, { on := 22, ground := Ground.guard }], guard := some (22, false) }) (v := .bool false) rfl (by kernel_rfl) (by kernel_rfl) (by kernel_rfl) (fun _ _ _ h => h) (Or.inl ⟨by rfl, ?_⟩) (by assumption) ?_
    · (intro w' hSw; (try dsimp only at hSw); go_simp)
    try simp only [Act.put, List.setIfInBounds_toArray, List.set_cons_zero, List.set_cons_succ]
    refine wpAnyH_take (i := 25) (oi := { dst := some 35, op := Op.pick (Operand.tmp 32) (Operand.const (Value.bool true)) (Operand.tmp 34), type := 4, pos := "cell.go:74", after := #[{ on := 22, ground := Ground.data }, { on := 24, ground := Ground.data }], guard := none }) (v := .bool false) rfl (by kernel_rfl) (by kernel_rfl) (by kernel_rfl) (fun _ _ _ h => h) (Or.inl ⟨by rfl, ?_⟩) (by assumption) ?_
    · (intro w' hSw; (try dsimp only at hSw); go_simp)
    try simp only [Act.put, List.setIfInBounds_toArray, List.set_cons_zero, List.set_cons_succ]
    refine wpAnyH_done (by kernel_rfl) ?_ _
    have HC2 := Lib.hid (HC1.out.keep K1.out (fun e => e))
    have c6 := cell_at HC2.out 6
    have c7 := cell_at HC2.out 7
    have c8 := cell_at HC2.out 8
    have c9 := cell_at HC2.out 9
    have c10 := cell_at HC2.out 10
    have c11 := cell_at HC2.out 11
    have c12 := cell_at HC2.out 12
    have c13 := cell_at HC2.out 13
    have cf6 := free_at HC2.out 6
    have cf7 := free_at HC2.out 7
    have cf8 := free_at HC2.out 8
    have cf9 := free_at HC2.out 9
    have cf10 := free_at HC2.out 10
    have cf11 := free_at HC2.out 11
    have cf12 := free_at HC2.out 12
    have cf13 := free_at HC2.out 13
    simp [Ce.row] at c6 c7 c8 c9 c10 c11 c12 c13
    obtain ⟨x0, x1, x2, x3, x4, x5, y0, y6⟩ := HS.out w1 K1.out
    clear y0 y6
    go_upto_region 5 with fail
    go_cut [] (fun W' => Hid (CAt W' b ⟨n, n, v⟩ ∧ Keep (fun q => q = b) w1 W'))
    case first =>
      go_region
      all_goals (go_wp2_with fail)
      all_goals go_meet
      exact Lib.hid ⟨(block_drew (block_set (block_set (block_set (block_set (block_set (block_set (block_set (block_set HC2.out 6 (.int .u64 n)) 7 (.int .u64 n)) 8 (.int .u64 v.v)) 9 (.int .i64 v.p)) 10 (.int .u64 v.pl)) 11 (.int .i64 v.b)) 12 (.int .u64 v.bl)) 13 (.int .u64 v.e))).trans (by simp [Ce.row]), ((((((((((Keep.refl (fun q => q = b) w1).set1 _ _).set1 _ _).set1 _ _).set1 _ _).set1 _ _).set1 _ _).set1 _ _).set1 _ _)).drew⟩
    case rest =>
      clear c6 c7 c8 c9 c10 c11 c12 c13 cf6 cf7 cf8 cf9 cf10 cf11 cf12 cf13 x0 x1 x2 x3 x4 x5
      have HC3 := Lib.hid hcut.out.1
      have KE := Lib.hid hcut.out.2
      clear hcut
      have CP := Lib.hid (promise_any b true n n v wc HC3.out)
      unfold Pr.agg firstV at CP
      go_wp2_with (go_at_call 25; refine CP.out.mono ?_; clear CP; rintro e w2 ⟨rfl, k2⟩; replace k2 := Lib.hid k2
                   have HZ2 := Lib.hid ((k2.out.block _ (by have := lt_of_block HZ.out; have := K1.out.size; have := KE.out.size; omega) (fun e => e)).trans ((KE.out.block _ (by have := lt_of_block HZ.out; have := K1.out.size; omega) (by omega)).trans ((K1.out.block _ (lt_of_block HZ.out) (fun e => e)).trans HZ.out)))
                   have z0 := cell_at HZ2.out 0
                   have z1 := cell_at HZ2.out 1
                   have z2 := cell_at HZ2.out 2
                   have z3 := cell_at HZ2.out 3
                   have z4 := cell_at HZ2.out 4
                   have z5 := cell_at HZ2.out 5
                   have z6 := cell_at HZ2.out 6
                   have z7 := cell_at HZ2.out 7
                   have z8 := cell_at HZ2.out 8
                   have z9 := cell_at HZ2.out 9
                   have z10 := cell_at HZ2.out 10
                   have z11 := cell_at HZ2.out 11
                   have z12 := cell_at HZ2.out 12
                   have z13 := cell_at HZ2.out 13
                   have z14 := cell_at HZ2.out 14
                   have z15 := cell_at HZ2.out 15
                   have zf0 := free_at HZ2.out 0
                   have zf1 := free_at HZ2.out 1
                   have zf2 := free_at HZ2.out 2
                   have zf3 := free_at HZ2.out 3
                   have zf4 := free_at HZ2.out 4
                   have zf5 := free_at HZ2.out 5
                   have zf6 := free_at HZ2.out 6
                   have zf7 := free_at HZ2.out 7
                   have zf8 := free_at HZ2.out 8
                   have zf9 := free_at HZ2.out 9
                   have zf10 := free_at HZ2.out 10
                   have zf11 := free_at HZ2.out 11
                   have zf12 := free_at HZ2.out 12
                   have zf13 := free_at HZ2.out 13
                   have zf14 := free_at HZ2.out 14
                   have zf15 := free_at HZ2.out 15
                   simp at z0 z1 z2 z3 z4 z5 z6 z7 z8 z9 z10 z11 z12 z13 z14 z15
                   skip)
      obtain ⟨wf, hwf⟩ : ∃ V, V = ((((((((((((((((w2.setCell ⟨(w.heap.size + 1), 0, none⟩ (.bool true)).setCell ⟨(w.heap.size + 1), 1, none⟩ (.int .u64 2)).setCell ⟨(w.heap.size + 1), 2, none⟩ (.int .u64 n)).setCell ⟨(w.heap.size + 1), 3, none⟩ (.int .u64 n)).setCell ⟨(w.heap.size + 1), 4, none⟩ (.int .u64 v.v)).setCell ⟨(w.heap.size + 1), 5, none⟩ (.int .i64 v.p)).setCell ⟨(w.heap.size + 1), 6, none⟩ (.int .u64 v.pl)).setCell ⟨(w.heap.size + 1), 7, none⟩ (.int .i64 v.b)).setCell ⟨(w.heap.size + 1), 8, none⟩ (.int .u64 v.bl)).setCell ⟨(w.heap.size + 1), 9, none⟩ (.int .u64 v.e)).setCell ⟨(w.heap.size + 1), 10, none⟩ (.int .u64 1)).setCell ⟨(w.heap.size + 1), 11, none⟩ (.int .i64 0)).setCell ⟨(w.heap.size + 1), 12, none⟩ (.int .u64 1)).setCell ⟨(w.heap.size + 1), 13, none⟩ (.int .i64 (-1))).setCell ⟨(w.heap.size + 1), 14, none⟩ (.int .u64 0)).setCell ⟨(w.heap.size + 1), 15, none⟩ (.int .u64 1)) := ⟨_, rfl⟩
      rw [← hwf]
      have hq := (block_set (block_set (block_set (block_set (block_set (block_set (block_set (block_set (block_set (block_set (block_set (block_set (block_set (block_set (block_set (block_set HZ2.out 0 (.bool true)) 1 (.int .u64 2)) 2 (.int .u64 n)) 3 (.int .u64 n)) 4 (.int .u64 v.v)) 5 (.int .i64 v.p)) 6 (.int .u64 v.pl)) 7 (.int .i64 v.b)) 8 (.int .u64 v.bl)) 9 (.int .u64 v.e)) 10 (.int .u64 1)) 11 (.int .i64 0)) 12 (.int .u64 1)) 13 (.int .i64 (-1))) 14 (.int .u64 0)) 15 (.int .u64 1))
      rw [← hwf] at hq
      simp at hq
      have KZ := Lib.hid (show Keep (fun q => q = (w.heap.size + 1)) w2 wf by rw [hwf]; exact (((((((((((((((((Keep.refl (fun q => q = (w.heap.size + 1)) w2).set1 _ _).set1 _ _).set1 _ _).set1 _ _).set1 _ _).set1 _ _).set1 _ _).set1 _ _).set1 _ _).set1 _ _).set1 _ _).set1 _ _).set1 _ _).set1 _ _).set1 _ _).set1 _ _))
      clear hwf
      have q0 := cell_at hq 0
      have q1 := cell_at hq 1
      have q2 := cell_at hq 2
      have q3 := cell_at hq 3
      have q4 := cell_at hq 4
      have q5 := cell_at hq 5
      have q6 := cell_at hq 6
      have q7 := cell_at hq 7
      have q8 := cell_at hq 8
      have q9 := cell_at hq 9
      have q10 := cell_at hq 10
      have q11 := cell_at hq 11
      have q12 := cell_at hq 12
      have q13 := cell_at hq 13
      have q14 := cell_at hq 14
      have q15 := cell_at hq 15
      simp at q0 q1 q2 q3 q4 q5 q6 q7 q8 q9 q10 q11 q12 q13 q14 q15
      refine bodyPost_ret (v := .agg #[.bool true, .int .u64 2, .int .u64 n, .int .u64 n, .int .u64 v.v, .int .i64 v.p, .int .u64 v.pl, .int .i64 v.b, .int .u64 v.bl, .int .u64 v.e, .int .u64 1, .int .i64 0, .int .u64 1, .int .i64 (-1), .int .u64 0, .int .u64 1]) ?_ rfl ⟨fun h => absurd h (by omega), fun _ => ⟨rfl, (HC3.out.keep k2.out (fun e => e)).keep KZ.out (fun e => by omega)⟩, Keep.trans' ((((KW.out.trans K1.out).toAny.trans KE.out).trans k2.out.toAny)) KZ.out (fun q hq e => by omega)⟩
      simp [results, Try.results22, go_sem, q0, q1, q2, q3, q4, q5, q6, q7, q8, q9, q10, q11, q12, q13, q14, q15]

end Go.Proofs.Ytppnjkiegiokeaa.QuoD
