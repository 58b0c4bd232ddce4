/-
  Layer 17 (quorum): QuorumOne: what was told of a taking is told again (region 27), at whatever frame.
-/
import Derived.Test.YtppnjkiegiokeaaQuoQ
import Derived.Deep.DeepCutAuto
namespace Go.Proofs.Ytppnjkiegiokeaa.QuoQ8
set_option linter.unusedVariables false
set_option linter.unusedSimpArgs false
set_option maxRecDepth 100000
open Go.RowKit Go.Proofs.Ytppnjkiegiokeaa.Mem Go.Proofs.Ytppnjkiegiokeaa.Mask Go.Proofs.Ytppnjkiegiokeaa.QuoW Go.Proofs.Ytppnjkiegiokeaa.QuoV Go.Proofs.Ytppnjkiegiokeaa.QuoU Go.Proofs.Ytppnjkiegiokeaa.QuoR Go.Proofs.Ytppnjkiegiokeaa.QuoS Go.Proofs.Ytppnjkiegiokeaa.QuoX Go.Proofs.Ytppnjkiegiokeaa.QuoC Go.Proofs.Ytppnjkiegiokeaa.QuoD Go.Proofs.Ytppnjkiegiokeaa.QuoE Go.Proofs.Ytppnjkiegiokeaa.QuoF Go.Proofs.Ytppnjkiegiokeaa.QuoG Go.Proofs.Ytppnjkiegiokeaa.QuoH Go.Proofs.Ytppnjkiegiokeaa.QuoI Go.Proofs.Ytppnjkiegiokeaa.QuoK Go.Proofs.Ytppnjkiegiokeaa.QuoL Go.Proofs.Ytppnjkiegiokeaa.QuoM Go.Proofs.Ytppnjkiegiokeaa.QuoY Go.Proofs.Ytppnjkiegiokeaa.QuoQ
attribute [-go_sem] Act.eval Act.put
attribute [local go_sem] BigFrame.eval_const BigFrame.eval_global BigFrame.eval_func
theorem sz_put (A : Act) (d : Nat) (v : Value) : (A.put (some d) v).tmps.size = A.tmps.size := by simp [Act.put]
theorem put_none (A : Act) (v : Value) : A.put none v = A := rfl
theorem ev_same (A : Act) (i : Nat) (v : Value) (h : i < A.tmps.size) : (A.put (some i) v).eval (.tmp i) = v := by
  simp [Act.put, Act.eval, Array.getD_eq_getD_getElem?, Array.getElem?_setIfInBounds, h]
theorem ev_ne (A : Act) (i j : Nat) (v : Value) (h : i ≠ j) : (A.put (some i) v).eval (.tmp j) = A.eval (.tmp j) := by
  simp [Act.put, Act.eval, Array.getD_eq_getD_getElem?, Array.getElem?_setIfInBounds, h]
theorem put_comm (A : Act) (i j : Nat) (u v : Value) (h : j < i) : (A.put (some i) u).put (some j) v = (A.put (some j) v).put (some i) u := by
  simp only [Act.put]
  rw [Array.setIfInBounds_comm _ _ (by omega)]
attribute [local go_sem] sz_put put_none ev_same ev_ne
theorem not_wanted {ops : Array Oper} {o x : Oper} {A : Act} {j d : Nat} (hg : o.guard = some (j, true)) (hj : ops[j]? = some x) (hd : x.dst = some d) (he : A.eval (.tmp d) = .bool false) : Region.wanted o (yielded ops A.tmps) = false := by
  have h : A.tmps[d]? = some (.bool false) := by
    simp only [Act.eval, Array.getD_eq_getD_getElem?] at he
    cases e : A.tmps[d]? with
    | none => rw [e] at he; cases he
    | some v => rw [e] at he; exact congrArg some he
  unfold Region.wanted yielded
  rw [hg]
  simp [hj, hd, h]

set_option maxHeartbeats 16000000 in
theorem reg27 (A : Act) (hA : A.tmps.size = 229) (X pq : Nat) (h18 : A.eval (.tmp 18) = .pointer (some ⟨X, 0, none⟩)) (K : Act → World → Prop) (Q : Exit → Act → World → Prop) (w : World) (x : One) (s : PS) (HX : Hid (OAt w X pq x)) (HP : Hid (PAt w pq s)) (hl : Hid (Live s))
    (hno : Hid (okP s true x.fr x.bal x.told = false ∨ (x.fr = 0 ∧ s.t0 = true) ∨ (x.fr = 1 ∧ s.t1 = true) ∨ (x.fr = 2 ∧ s.t2 = true)))
    (hQ : ∀ (x : List PanicEntry) (A' : Act) (d : Nat) (v : Value) (W : World), Q (.panic x) (A'.put (some d) v) W → Q (.panic x) A' W)
    (hK : ∀ (v108 v109 v110 v111 v112 v113 v114 v115 v116 v117 v118 v119 v120 v121 v122 v123 v124 v125 v126 v127 : Value) (W' : World), Keep (fun _ => False) w W' → K (((((((((((((((((((((A.put (some 108) v108).put (some 109) v109).put (some 110) v110).put (some 111) v111).put (some 112) v112).put (some 113) v113).put (some 114) v114).put (some 115) v115).put (some 116) v116).put (some 117) v117).put (some 118) v118).put (some 119) v119).put (some 120) v120).put (some 121) v121).put (some 122) v122).put (some 123) v123).put (some 124) v124).put (some 125) v125).put (some 126) v126).put (some 127) v127).put (some 128) (.bool false)) W') :
    Code.wp Try.prog (Code.region 27 #[{ dst := some 108, op := Op.fieldAddr 49 (Operand.tmp 18) 0, type := 0, pos := "law.go:95", after := #[], guard := none }, { dst := some 109, op := Op.load 24 (Operand.tmp 108), type := 24, pos := "law.go:95", after := #[{ on := 0, ground := Ground.data }], guard := none }, { dst := some 110, op := Op.fieldAddr 49 (Operand.tmp 18) 1, type := 0, pos := "law.go:95", after := #[], guard := none }, { dst := some 111, op := Op.load 3 (Operand.tmp 110), type := 3, pos := "law.go:95", after := #[{ on := 2, ground := Ground.data }], guard := none }, { dst := some 112, op := Op.fieldAddr 49 (Operand.tmp 18) 2, type := 0, pos := "law.go:95", after := #[], guard := none }, { dst := some 113, op := Op.load 23 (Operand.tmp 112), type := 23, pos := "law.go:95", after := #[{ on := 4, ground := Ground.data }], guard := none }, { dst := some 114, op := Op.fieldAddr 49 (Operand.tmp 18) 3, type := 0, pos := "law.go:95", after := #[], guard := none }, { dst := some 115, op := Op.load 37 (Operand.tmp 114), type := 37, pos := "law.go:95", after := #[{ on := 6, ground := Ground.data }], guard := none }, { dst := some 116, op := Op.call { callee := Callee.value (Operand.func 16), args := #[Operand.tmp 109, Operand.tmp 111, Operand.tmp 113, Operand.tmp 115], argTypes := #[24, 3, 23, 37] }, type := 4, pos := "law.go:95", after := #[{ on := 1, ground := Ground.data }, { on := 3, ground := Ground.data }, { on := 5, ground := Ground.data }, { on := 7, ground := Ground.data }], guard := none }, { dst := some 117, op := Op.move (Operand.tmp 116), type := 4, pos := "law.go:95", after := #[{ on := 8, ground := Ground.data }, { on := 8, ground := Ground.chain }], guard := none }, { dst := some 118, op := Op.fieldAddr 29 (Operand.tmp 14) 0, type := 0, pos := "law.go:95", after := #[{ on := 9, ground := Ground.guard }], guard := some (9, true) }, { dst := some 119, op := Op.load 23 (Operand.tmp 118), type := 23, pos := "law.go:95", after := #[{ on := 10, ground := Ground.data }, { on := 9, ground := Ground.guard }], guard := some (9, true) }, { dst := some 120, op := Op.binOp BinOp.neq 23 (Operand.tmp 119) (Operand.const (Value.int IntKind.u64 0)) 23, type := 4, pos := "law.go:95", after := #[{ on := 11, ground := Ground.data }, { on := 9, ground := Ground.guard }], guard := some (9, true) }, { dst := some 121, op := Op.pick (Operand.tmp 117) (Operand.tmp 120) (Operand.const (Value.bool false)), type := 4, pos := "law.go:95", after := #[{ on := 9, ground := Ground.data }, { on := 12, ground := Ground.data }], guard := none }, { dst := some 122, op := Op.move (Operand.tmp 121), type := 4, pos := "law.go:95", after := #[{ on := 13, ground := Ground.data }, { on := 9, ground := Ground.chain }], guard := none }, { dst := some 123, op := Op.load 29 (Operand.tmp 14), type := 29, pos := "law.go:95", after := #[{ on := 14, ground := Ground.guard }], guard := some (14, true) }, { dst := some 124, op := Op.fieldAddr 49 (Operand.tmp 18) 0, type := 0, pos := "law.go:95", after := #[{ on := 14, ground := Ground.guard }], guard := some (14, true) }, { dst := some 125, op := Op.load 24 (Operand.tmp 124), type := 24, pos := "law.go:95", after := #[{ on := 16, ground := Ground.data }, { on := 14, ground := Ground.guard }], guard := some (14, true) }, { dst := some 126, op := Op.call { callee := Callee.value (Operand.func 17), args := #[Operand.tmp 125], argTypes := #[24] }, type := 29, pos := "law.go:95", after := #[{ on := 17, ground := Ground.data }, { on := 14, ground := Ground.chain }, { on := 14, ground := Ground.guard }], guard := some (14, true) }, { dst := some 127, op := Op.binOp BinOp.neq 29 (Operand.tmp 123) (Operand.tmp 126) 29, type := 4, pos := "law.go:95", after := #[{ on := 15, ground := Ground.data }, { on := 18, ground := Ground.data }, { on := 14, ground := Ground.guard }], guard := some (14, true) }, { dst := some 128, op := Op.pick (Operand.tmp 122) (Operand.tmp 127) (Operand.const (Value.bool false)), type := 4, pos := "law.go:95", after := #[{ on := 14, ground := Ground.data }, { on := 19, ground := Ground.data }], guard := none }] true) (Exit.then K Q) A w := by
  have HK := Lib.hid hK
  clear hK
  have HS := Lib.hid (show ∀ w' : World, Keep (fun _ => False) w w' → w'.cell? ⟨X, 0, none⟩ = some (.pointer (some ⟨pq, 0, none⟩)) ∧ w'.cell? ⟨X, 1, none⟩ = some (.int .i64 x.fr) ∧ w'.cell? ⟨X, 2, none⟩ = some (.int .u64 x.bal) ∧ w'.cell? ⟨X, 3, none⟩ = some (.bool x.told.ok) ∧ w'.cell? ⟨X, 4, none⟩ = some (.int .u64 x.told.v) ∧ w'.cell? ⟨X, 5, none⟩ = some (.int .u64 x.told.most) ∧ w'.cell? ⟨X, 6, none⟩ = some (.int .u64 x.told.bal) ∧ w'.cell? ⟨X, 7, none⟩ = some (.int .u64 x.told.val.v) ∧ w'.cell? ⟨X, 8, none⟩ = some (.int .i64 x.told.val.p) ∧ w'.cell? ⟨X, 9, none⟩ = some (.int .u64 x.told.val.pl) ∧ w'.cell? ⟨X, 10, none⟩ = some (.int .i64 x.told.val.b) ∧ w'.cell? ⟨X, 11, none⟩ = some (.int .u64 x.told.val.bl) ∧ w'.cell? ⟨X, 12, none⟩ = some (.int .u64 x.told.val.e) ∧ w'.cell? ⟨X, 13, none⟩ = some (.int .u64 x.told.ch.v) ∧ w'.cell? ⟨X, 14, none⟩ = some (.int .i64 x.told.ch.p) ∧ w'.cell? ⟨X, 15, none⟩ = some (.int .u64 x.told.ch.pl) ∧ w'.cell? ⟨X, 16, none⟩ = some (.int .i64 x.told.ch.b) ∧ w'.cell? ⟨X, 17, none⟩ = some (.int .u64 x.told.ch.bl) ∧ w'.cell? ⟨X, 18, none⟩ = some (.int .u64 x.told.ch.e) from fun w' kw => ⟨cell_at (HX.out.keep kw (fun e => e)) 0, cell_at (HX.out.keep kw (fun e => e)) 1, cell_at (HX.out.keep kw (fun e => e)) 2, cell_at (HX.out.keep kw (fun e => e)) 3, cell_at (HX.out.keep kw (fun e => e)) 4, cell_at (HX.out.keep kw (fun e => e)) 5, cell_at (HX.out.keep kw (fun e => e)) 6, cell_at (HX.out.keep kw (fun e => e)) 7, cell_at (HX.out.keep kw (fun e => e)) 8, cell_at (HX.out.keep kw (fun e => e)) 9, cell_at (HX.out.keep kw (fun e => e)) 10, cell_at (HX.out.keep kw (fun e => e)) 11, cell_at (HX.out.keep kw (fun e => e)) 12, cell_at (HX.out.keep kw (fun e => e)) 13, cell_at (HX.out.keep kw (fun e => e)) 14, cell_at (HX.out.keep kw (fun e => e)) 15, cell_at (HX.out.keep kw (fun e => e)) 16, cell_at (HX.out.keep kw (fun e => e)) 17, cell_at (HX.out.keep kw (fun e => e)) 18⟩)
  refine wp_region_held_drew (S := (fun w' => Keep (fun _ => False) w w')) (by kernel_rfl) ?_ (fun hHeld => ?_)
  · exact (Keep.refl _ w).drew
  generalize hwd : w.drew = wd at hHeld ⊢
  have KD := Lib.hid (show Keep (fun _ => False) w wd by rw [← hwd]; exact (Keep.refl _ w).drew)
  clear hwd
  refine wpAnyH_take (i := 0) (oi := { dst := some 108, op := Op.fieldAddr 49 (Operand.tmp 18) 0, type := 0, pos := "law.go:95", after := #[], guard := none }) (v := .pointer (some ⟨X, 0, none⟩)) rfl (by kernel_rfl) (by kernel_rfl) (by kernel_rfl) (fun _ _ _ h => hQ _ _ _ _ _ h) (Or.inl ⟨by rfl, ?_⟩) (by assumption) ?_
  · (intro w' hSw; (try dsimp only at hSw); go_simp)
  dsimp only
  refine wpAnyH_take (i := 1) (oi := { dst := some 109, op := Op.load 24 (Operand.tmp 108), type := 24, pos := "law.go:95", after := #[{ on := 0, ground := Ground.data }], guard := none }) (v := .pointer (some ⟨pq, 0, none⟩)) rfl (by kernel_rfl) (by kernel_rfl) (by kernel_rfl) (fun _ _ _ h => hQ _ _ _ _ _ h) (Or.inl ⟨by rfl, ?_⟩) (by assumption) ?_
  · (intro w' hSw; (try dsimp only at hSw); obtain ⟨x0, x1, x2, x3, x4, x5, x6, x7, x8, x9, x10, x11, x12, x13, x14, x15, x16, x17, x18⟩ := HS.out w' hSw; go_simp)
  dsimp only
  refine wpAnyH_take (i := 2) (oi := { dst := some 110, op := Op.fieldAddr 49 (Operand.tmp 18) 1, type := 0, pos := "law.go:95", after := #[], guard := none }) (v := .pointer (some ⟨X, 1, none⟩)) rfl (by kernel_rfl) (by kernel_rfl) (by kernel_rfl) (fun _ _ _ h => hQ _ _ _ _ _ h) (Or.inl ⟨by rfl, ?_⟩) (by assumption) ?_
  · (intro w' hSw; (try dsimp only at hSw); go_simp)
  dsimp only
  refine wpAnyH_take (i := 3) (oi := { dst := some 111, op := Op.load 3 (Operand.tmp 110), type := 3, pos := "law.go:95", after := #[{ on := 2, ground := Ground.data }], guard := none }) (v := .int .i64 x.fr) rfl (by kernel_rfl) (by kernel_rfl) (by kernel_rfl) (fun _ _ _ h => hQ _ _ _ _ _ h) (Or.inl ⟨by rfl, ?_⟩) (by assumption) ?_
  · (intro w' hSw; (try dsimp only at hSw); obtain ⟨x0, x1, x2, x3, x4, x5, x6, x7, x8, x9, x10, x11, x12, x13, x14, x15, x16, x17, x18⟩ := HS.out w' hSw; go_simp)
  dsimp only
  refine wpAnyH_take (i := 4) (oi := { dst := some 112, op := Op.fieldAddr 49 (Operand.tmp 18) 2, type := 0, pos := "law.go:95", after := #[], guard := none }) (v := .pointer (some ⟨X, 2, none⟩)) rfl (by kernel_rfl) (by kernel_rfl) (by kernel_rfl) (fun _ _ _ h => hQ _ _ _ _ _ h) (Or.inl ⟨by rfl, ?_⟩) (by assumption) ?_
  · (intro w' hSw; (try dsimp only at hSw); go_simp)
  dsimp only
  refine wpAnyH_take (i := 5) (oi := { dst := some 113, op := Op.load 23 (Operand.tmp 112), type := 23, pos := "law.go:95", after := #[{ on := 4, ground := Ground.data }], guard := none }) (v := .int .u64 x.bal) rfl (by kernel_rfl) (by kernel_rfl) (by kernel_rfl) (fun _ _ _ h => hQ _ _ _ _ _ h) (Or.inl ⟨by rfl, ?_⟩) (by assumption) ?_
  · (intro w' hSw; (try dsimp only at hSw); obtain ⟨x0, x1, x2, x3, x4, x5, x6, x7, x8, x9, x10, x11, x12, x13, x14, x15, x16, x17, x18⟩ := HS.out w' hSw; go_simp)
  dsimp only
  refine wpAnyH_take (i := 6) (oi := { dst := some 114, op := Op.fieldAddr 49 (Operand.tmp 18) 3, type := 0, pos := "law.go:95", after := #[], guard := none }) (v := .pointer (some ⟨X, 3, none⟩)) rfl (by kernel_rfl) (by kernel_rfl) (by kernel_rfl) (fun _ _ _ h => hQ _ _ _ _ _ h) (Or.inl ⟨by rfl, ?_⟩) (by assumption) ?_
  · (intro w' hSw; (try dsimp only at hSw); go_simp)
  dsimp only
  refine wpAnyH_take (i := 7) (oi := { dst := some 115, op := Op.load 37 (Operand.tmp 114), type := 37, pos := "law.go:95", after := #[{ on := 6, ground := Ground.data }], guard := none }) (v := .agg #[.bool x.told.ok, .int .u64 x.told.v, .int .u64 x.told.most, .int .u64 x.told.bal, .int .u64 x.told.val.v, .int .i64 x.told.val.p, .int .u64 x.told.val.pl, .int .i64 x.told.val.b, .int .u64 x.told.val.bl, .int .u64 x.told.val.e, .int .u64 x.told.ch.v, .int .i64 x.told.ch.p, .int .u64 x.told.ch.pl, .int .i64 x.told.ch.b, .int .u64 x.told.ch.bl, .int .u64 x.told.ch.e]) rfl (by kernel_rfl) (by kernel_rfl) (by kernel_rfl) (fun _ _ _ h => hQ _ _ _ _ _ h) (Or.inl ⟨by rfl, ?_⟩) (by assumption) ?_
  · (intro w' hSw; (try dsimp only at hSw); obtain ⟨x0, x1, x2, x3, x4, x5, x6, x7, x8, x9, x10, x11, x12, x13, x14, x15, x16, x17, x18⟩ := HS.out w' hSw; go_simp)
  dsimp only
  refine wpAnyH_ready (rs := [8]) (by kernel_rfl) (by simp) ?_
  refine AllReadyH.cons (o := { dst := some 116, op := Op.call { callee := Callee.value (Operand.func 16), args := #[Operand.tmp 109, Operand.tmp 111, Operand.tmp 113, Operand.tmp 115], argTypes := #[24, 3, 23, 37] }, type := 4, pos := "law.go:95", after := #[{ on := 1, ground := Ground.data }, { on := 3, ground := Ground.data }, { on := 5, ground := Ground.data }, { on := 7, ground := Ground.data }], guard := none }) rfl (fun K' hK => ?_) AllReadyH.nil
  have CT := Lib.hid (took_no s pq x.fr x.bal x.told wd ((KD.out.block _ (lt_of_block HP.out) (fun e => e)).trans HP.out) hl.out hno.out)
  unfold Pr.agg at CT
  go_simp
  go_at_call 16
  refine CT.out.mono ?_
  clear CT
  rintro e w1 ⟨rfl, q1⟩
  have K1 := Lib.hid (KD.out.trans (Keep.of0 q1))
  clear q1
  go_simp
  refine hK.out _ _ (K1.out) (fun hHeld => ?_)
  clear hK K'
  try dsimp only
  refine wpAnyH_take (i := 9) (oi := { dst := some 117, op := Op.move (Operand.tmp 116), type := 4, pos := "law.go:95", after := #[{ on := 8, ground := Ground.data }, { on := 8, ground := Ground.chain }], guard := none }) (v := .bool false) rfl (by kernel_rfl) (by kernel_rfl) (by kernel_rfl) (fun _ _ _ h => hQ _ _ _ _ _ h) (Or.inl ⟨by rfl, ?_⟩) (by assumption) ?_
  · (intro w' hSw; (try dsimp only at hSw); go_simp)
  dsimp only
  refine wpAnyH_take (i := 10) (oi := { dst := some 118, op := Op.fieldAddr 29 (Operand.tmp 14) 0, type := 0, pos := "law.go:95", after := #[{ on := 9, ground := Ground.guard }], guard := some (9, true) }) (v := undef) rfl (by kernel_rfl) (by kernel_rfl) (by kernel_rfl) (fun _ _ _ h => hQ _ _ _ _ _ h) (Or.inr ⟨not_wanted (d := 117) rfl rfl rfl (by go_simp), rfl⟩) (by assumption) ?_
  dsimp only
  refine wpAnyH_take (i := 11) (oi := { dst := some 119, op := Op.load 23 (Operand.tmp 118), type := 23, pos := "law.go:95", after := #[{ on := 10, ground := Ground.data }, { on := 9, ground := Ground.guard }], guard := some (9, true) }) (v := undef) rfl (by kernel_rfl) (by kernel_rfl) (by kernel_rfl) (fun _ _ _ h => hQ _ _ _ _ _ h) (Or.inr ⟨not_wanted (d := 117) rfl rfl rfl (by go_simp), rfl⟩) (by assumption) ?_
  dsimp only
  refine wpAnyH_take (i := 12) (oi := { dst := some 120, op := Op.binOp BinOp.neq 23 (Operand.tmp 119) (Operand.const (Value.int IntKind.u64 0)) 23, type := 4, pos := "law.go:95", after := #[{ on := 11, ground := Ground.data }, { on := 9, ground := Ground.guard }], guard := some (9, true) }) (v := undef) rfl (by kernel_rfl) (by kernel_rfl) (by kernel_rfl) (fun _ _ _ h => hQ _ _ _ _ _ h) (Or.inr ⟨not_wanted (d := 117) rfl rfl rfl (by go_simp), rfl⟩) (by assumption) ?_
  dsimp only
  refine wpAnyH_take (i := 13) (oi := { dst := some 121, op := Op.pick (Operand.tmp 117) (Operand.tmp 120) (Operand.const (Value.bool false)), type := 4, pos := "law.go:95", after := #[{ on := 9, ground := Ground.data }, { on := 12, ground := Ground.data }], guard := none }) (v := .bool false) rfl (by kernel_rfl) (by kernel_rfl) (by kernel_rfl) (fun _ _ _ h => hQ _ _ _ _ _ h) (Or.inl ⟨by rfl, ?_⟩) (by assumption) ?_
  · (intro w' hSw; (try dsimp only at hSw); go_simp)
  dsimp only
  refine wpAnyH_take (i := 14) (oi := { dst := some 122, op := Op.move (Operand.tmp 121), type := 4, pos := "law.go:95", after := #[{ on := 13, ground := Ground.data }, { on := 9, ground := Ground.chain }], guard := none }) (v := .bool false) rfl (by kernel_rfl) (by kernel_rfl) (by kernel_rfl) (fun _ _ _ h => hQ _ _ _ _ _ h) (Or.inl ⟨by rfl, ?_⟩) (by assumption) ?_
  · (intro w' hSw; (try dsimp only at hSw); go_simp)
  dsimp only
  refine wpAnyH_take (i := 15) (oi := { dst := some 123, op := Op.load 29 (Operand.tmp 14), type := 29, pos := "law.go:95", after := #[{ on := 14, ground := Ground.guard }], guard := some (14, true) }) (v := undef) rfl (by kernel_rfl) (by kernel_rfl) (by kernel_rfl) (fun _ _ _ h => hQ _ _ _ _ _ h) (Or.inr ⟨not_wanted (d := 122) rfl rfl rfl (by go_simp), rfl⟩) (by assumption) ?_
  dsimp only
  refine wpAnyH_take (i := 16) (oi := { dst := some 124, op := Op.fieldAddr 49 (Operand.tmp 18) 0, type := 0, pos := "law.go:95", after := #[{ on := 14, ground := Ground.guard }], guard := some (14, true) }) (v := undef) rfl (by kernel_rfl) (by kernel_rfl) (by kernel_rfl) (fun _ _ _ h => hQ _ _ _ _ _ h) (Or.inr ⟨not_wanted (d := 122) rfl rfl rfl (by go_simp), rfl⟩) (by assumption) ?_
  dsimp only
  refine wpAnyH_take (i := 17) (oi := { dst := some 125, op := Op.load 24 (Operand.tmp 124), type := 24, pos := "law.go:95", after := #[{ on := 16, ground := Ground.data }, { on := 14, ground := Ground.guard }], guard := some (14, true) }) (v := undef) rfl (by kernel_rfl) (by kernel_rfl) (by kernel_rfl) (fun _ _ _ h => hQ _ _ _ _ _ h) (Or.inr ⟨not_wanted (d := 122) rfl rfl rfl (by go_simp), rfl⟩) (by assumption) ?_
  dsimp only
  refine wpAnyH_take (i := 18) (oi := { dst := some 126, op := Op.call { callee := Callee.value (Operand.func 17), args := #[Operand.tmp 125], argTypes := #[24] }, type := 29, pos := "law.go:95", after := #[{ on := 17, ground := Ground.data }, { on := 14, ground := Ground.chain }, { on := 14, ground := Ground.guard }], guard := some (14, true) }) (v := undef) rfl (by kernel_rfl) (by kernel_rfl) (by kernel_rfl) (fun _ _ _ h => hQ _ _ _ _ _ h) (Or.inr ⟨not_wanted (d := 122) rfl rfl rfl (by go_simp), rfl⟩) (by assumption) ?_
  dsimp only
  refine wpAnyH_take (i := 19) (oi := { dst := some 127, op := Op.binOp BinOp.neq 29 (Operand.tmp 123) (Operand.tmp 126) 29, type := 4, pos := "law.go:95", after := #[{ on := 15, ground := Ground.data }, { on := 18, ground := Ground.data }, { on := 14, ground := Ground.guard }], guard := some (14, true) }) (v := undef) rfl (by kernel_rfl) (by kernel_rfl) (by kernel_rfl) (fun _ _ _ h => hQ _ _ _ _ _ h) (Or.inr ⟨not_wanted (d := 122) rfl rfl rfl (by go_simp), rfl⟩) (by assumption) ?_
  dsimp only
  refine wpAnyH_take (i := 20) (oi := { dst := some 128, op := Op.pick (Operand.tmp 122) (Operand.tmp 127) (Operand.const (Value.bool false)), type := 4, pos := "law.go:95", after := #[{ on := 14, ground := Ground.data }, { on := 19, ground := Ground.data }], guard := none }) (v := .bool false) rfl (by kernel_rfl) (by kernel_rfl) (by kernel_rfl) (fun _ _ _ h => hQ _ _ _ _ _ h) (Or.inl ⟨by rfl, ?_⟩) (by assumption) ?_
  · (intro w' hSw; (try dsimp only at hSw); go_simp)
  dsimp only
  refine wpAnyH_done (by kernel_rfl) ?_ _
  show K _ _
  exact HK.out _ _ _ _ _ _ _ _ _ _ _ _ _ _ _ _ _ _ _ _ _ K1.out

end Go.Proofs.Ytppnjkiegiokeaa.QuoQ8
