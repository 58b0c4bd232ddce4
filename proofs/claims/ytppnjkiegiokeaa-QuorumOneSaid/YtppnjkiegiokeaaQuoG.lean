/-
  Layer 17 (quorum): QuorumOne: an arbiter is asked (regions 39, 45), at whatever frame.
-/
import Derived.Test.YtppnjkiegiokeaaQuoF
import Derived.Deep.DeepCutAuto
namespace Go.Proofs.Ytppnjkiegiokeaa.QuoG
set_option linter.unusedVariables false
set_option linter.unusedSimpArgs false
set_option maxRecDepth 100000
open Go.RowKit Go.Proofs.Ytppnjkiegiokeaa.Mem Go.Proofs.Ytppnjkiegiokeaa.QuoW Go.Proofs.Ytppnjkiegiokeaa.QuoV Go.Proofs.Ytppnjkiegiokeaa.QuoU Go.Proofs.Ytppnjkiegiokeaa.QuoR Go.Proofs.Ytppnjkiegiokeaa.QuoS Go.Proofs.Ytppnjkiegiokeaa.QuoX Go.Proofs.Ytppnjkiegiokeaa.QuoC Go.Proofs.Ytppnjkiegiokeaa.QuoD Go.Proofs.Ytppnjkiegiokeaa.QuoE Go.Proofs.Ytppnjkiegiokeaa.QuoF
attribute [-go_sem] Act.eval Act.put
attribute [local go_sem] BigFrame.eval_const BigFrame.eval_global BigFrame.eval_func
theorem sz_put (A : Act) (d : Nat) (v : Value) : (A.put (some d) v).tmps.size = A.tmps.size := by simp [Act.put]
theorem put_none (A : Act) (v : Value) : A.put none v = A := rfl
theorem ev_same (A : Act) (i : Nat) (v : Value) (h : i < A.tmps.size) : (A.put (some i) v).eval (.tmp i) = v := by
  simp [Act.put, Act.eval, Array.getD_eq_getD_getElem?, Array.getElem?_setIfInBounds, h]
theorem ev_ne (A : Act) (i j : Nat) (v : Value) (h : i ≠ j) : (A.put (some i) v).eval (.tmp j) = A.eval (.tmp j) := by
  simp [Act.put, Act.eval, Array.getD_eq_getD_getElem?, Array.getElem?_setIfInBounds, h]
theorem put_comm (A : Act) (i j : Nat) (u v : Value) (h : j < i) : (A.put (some i) u).put (some j) v = (A.put (some j) v).put (some i) u := by
  simp only [Act.put]
  rw [Array.setIfInBounds_comm _ _ (by omega)]
attribute [local go_sem] sz_put put_none ev_same ev_ne

set_option maxHeartbeats 16000000 in
theorem reg39 (A : Act) (hA : A.tmps.size = 229) (XC X pc pq a : Nat) (h17 : A.eval (.tmp 17) = .int .i64 (a : Int)) (h5 : A.eval (.tmp 5) = .pointer (some ⟨XC, 0, none⟩)) (h18 : A.eval (.tmp 18) = .pointer (some ⟨X, 0, none⟩)) (ha : a < 3) (K : Act → World → Prop) (Q : Exit → Act → World → Prop) (w2 : World) (c : Ce) (x : One) (s : PS) (cc : Array Value)
    (HXC : Hid (w2.heap[XC]? = some (.cells cc 45 (0, 0)) ∧ cc[a]? = some (.pointer (some ⟨pc, 0, none⟩)))) (HX : Hid (OAt w2 X pq x)) (HC : Hid (CAt w2 pc c)) (hd : XC ≠ pc ∧ XC ≠ X ∧ X ≠ pc)
    (hQ : ∀ (x : List PanicEntry) (A' : Act) (d : Nat) (v : Value) (W : World), Q (.panic x) (A'.put (some d) v) W → Q (.panic x) A' W)
    (hK : ∀ (v164 v165 v166 v167 v168 v169 v170 v171 : Value) (W' : World) (tl : Pr), ((x.bal ≤ c.most → tl = ⟨false, 2, c.most, c.bal, c.val, firstV⟩ ∧ CAt W' pc c) ∧ (c.most < x.bal → tl = ⟨true, 2, x.bal, c.bal, c.val, firstV⟩ ∧ CAt W' pc ⟨x.bal, c.bal, c.val⟩)) → OAt W' X pq { x with told := tl } → Keep (fun q => q = pc ∨ q = X) w2 W' → K ((((((((A.put (some 164) v164).put (some 165) v165).put (some 166) v166).put (some 167) v167).put (some 168) v168).put (some 169) v169).put (some 170) v170).put (some 171) v171) W') :
    Code.wp Try.prog (Code.region 39 #[{ dst := some 164, op := Op.move (Operand.tmp 17), type := 3, pos := "law.go:75", after := #[], guard := none }, { dst := some 165, op := Op.indexAddr 45 (Operand.tmp 5) (Operand.tmp 164), type := 0, pos := "law.go:75", after := #[{ on := 0, ground := Ground.data }], guard := none }, { dst := some 166, op := Op.load 44 (Operand.tmp 165), type := 44, pos := "law.go:75", after := #[{ on := 1, ground := Ground.data }], guard := none }, { dst := some 167, op := Op.call { callee := Callee.value (Operand.func 9), args := #[], argTypes := #[] }, type := 29, pos := "law.go:75", after := #[], guard := none }, { dst := some 168, op := Op.fieldAddr 49 (Operand.tmp 18) 2, type := 0, pos := "law.go:75", after := #[], guard := none }, { dst := some 169, op := Op.load 23 (Operand.tmp 168), type := 23, pos := "law.go:75", after := #[{ on := 4, ground := Ground.data }], guard := none }, { dst := some 170, op := Op.call { callee := Callee.value (Operand.func 21), args := #[Operand.tmp 166, Operand.tmp 167, Operand.tmp 169], argTypes := #[44, 29, 23] }, type := 37, pos := "law.go:75", after := #[{ on := 2, ground := Ground.data }, { on := 3, ground := Ground.data }, { on := 5, ground := Ground.data }, { on := 3, ground := Ground.chain }], guard := none }, { dst := some 171, op := Op.fieldAddr 49 (Operand.tmp 18) 3, type := 0, pos := "law.go:75", after := #[{ on := 0, ground := Ground.phase }, { on := 1, ground := Ground.phase }, { on := 2, ground := Ground.phase }, { on := 3, ground := Ground.phase }, { on := 4, ground := Ground.phase }, { on := 5, ground := Ground.phase }, { on := 6, ground := Ground.phase }], guard := none }, { dst := none, op := Op.store 37 (Operand.tmp 171) (Operand.tmp 170), type := 0, pos := "law.go:75", after := #[{ on := 7, ground := Ground.data }, { on := 6, ground := Ground.data }, { on := 6, ground := Ground.chain }, { on := 0, ground := Ground.phase }, { on := 1, ground := Ground.phase }, { on := 2, ground := Ground.phase }, { on := 3, ground := Ground.phase }, { on := 4, ground := Ground.phase }, { on := 5, ground := Ground.phase }, { on := 6, ground := Ground.phase }], guard := none }] true) (Exit.then K Q) A w2 := by
  have HK := Lib.hid hK
  have hai : (a : Int) < 3 := by omega
  have ha0 : (0 : Int) ≤ (a : Int) := by omega
  clear hK
  have HS := Lib.hid (show ∀ w' : World, Keep (fun q => q = pc ∨ q = X) w2 w' → w'.cell? ⟨XC, a, none⟩ = some (.pointer (some ⟨pc, 0, none⟩)) from fun w' kw => by
    have h1 := (kw.block _ (lt_of_block HXC.out.1) (by omega)).trans HXC.out.1
    rw [cell_at h1]; exact HXC.out.2)
  have HB := Lib.hid (show ∀ w' : World, Keep (fun _ => False) w2 w' → w'.cell? ⟨X, 2, none⟩ = some (.int .u64 x.bal) ∧ w'.cell? ⟨X, 0, none⟩ = some (.pointer (some ⟨pq, 0, none⟩)) from fun w' kw => ⟨cell_at (HX.out.keep kw (fun e => e)) 2, cell_at (HX.out.keep kw (fun e => e)) 0⟩)
  refine wp_region_held_drew (S := (fun w' => Keep (fun q => q = pc ∨ q = X) w2 w' ∧ w'.cell? ⟨X, 2, none⟩ = some (.int .u64 x.bal) ∧ w'.cell? ⟨X, 0, none⟩ = some (.pointer (some ⟨pq, 0, none⟩)))) (by kernel_rfl) ?_ (fun hHeld => ?_)
  · exact ⟨(Keep.refl _ w2).drew, HB.out _ (Keep.refl _ w2).drew⟩
  generalize hwd : w2.drew = wd at hHeld ⊢
  have KD := Lib.hid (show Keep (fun _ => False) w2 wd by rw [← hwd]; exact (Keep.refl _ w2).drew)
  clear hwd
  refine wpAnyH_take (i := 0) (oi := { dst := some 164, op := Op.move (Operand.tmp 17), type := 3, pos := "law.go:75", after := #[], guard := none }) (v := .int .i64 (a : Int)) rfl (by kernel_rfl) (by kernel_rfl) (by kernel_rfl) (fun _ _ _ h => hQ _ _ _ _ _ h) (Or.inl ⟨by rfl, ?_⟩) (by assumption) ?_
  · (intro w' hSw; (try dsimp only at hSw); go_simp)
  dsimp only
  refine wpAnyH_take (i := 1) (oi := { dst := some 165, op := Op.indexAddr 45 (Operand.tmp 5) (Operand.tmp 164), type := 0, pos := "law.go:75", after := #[{ on := 0, ground := Ground.data }], guard := none }) (v := .pointer (some ⟨XC, a, none⟩)) rfl (by kernel_rfl) (by kernel_rfl) (by kernel_rfl) (fun _ _ _ h => hQ _ _ _ _ _ h) (Or.inl ⟨by rfl, ?_⟩) (by assumption) ?_
  · (intro w' hSw; (try dsimp only at hSw); go_simp)
  dsimp only
  refine wpAnyH_take (i := 2) (oi := { dst := some 166, op := Op.load 44 (Operand.tmp 165), type := 44, pos := "law.go:75", after := #[{ on := 1, ground := Ground.data }], guard := none }) (v := .pointer (some ⟨pc, 0, none⟩)) rfl (by kernel_rfl) (by kernel_rfl) (by kernel_rfl) (fun _ _ _ h => hQ _ _ _ _ _ h) (Or.inl ⟨by rfl, ?_⟩) (by assumption) ?_
  · (intro w' hSw; (try dsimp only at hSw); have x0 := HS.out w' hSw.1; go_simp)
  dsimp only
  refine wpAnyH_take (i := 4) (oi := { dst := some 168, op := Op.fieldAddr 49 (Operand.tmp 18) 2, type := 0, pos := "law.go:75", after := #[], guard := none }) (v := .pointer (some ⟨X, 2, none⟩)) rfl (by kernel_rfl) (by kernel_rfl) (by kernel_rfl) (fun _ _ _ h => hQ _ _ _ _ _ h) (Or.inl ⟨by rfl, ?_⟩) (by assumption) ?_
  · (intro w' hSw; (try dsimp only at hSw); go_simp)
  dsimp only
  refine wpAnyH_take (i := 5) (oi := { dst := some 169, op := Op.load 23 (Operand.tmp 168), type := 23, pos := "law.go:75", after := #[{ on := 4, ground := Ground.data }], guard := none }) (v := .int .u64 x.bal) rfl (by kernel_rfl) (by kernel_rfl) (by kernel_rfl) (fun _ _ _ h => hQ _ _ _ _ _ h) (Or.inl ⟨by rfl, ?_⟩) (by assumption) ?_
  · (intro w' hSw; (try dsimp only at hSw); have x2 := hSw.2.1; go_simp)
  dsimp only
  refine wpAnyH_ready (rs := [3]) (by kernel_rfl) (by simp) ?_
  refine AllReadyH.cons (o := { dst := some 167, op := Op.call { callee := Callee.value (Operand.func 9), args := #[], argTypes := #[] }, type := 29, pos := "law.go:75", after := #[], guard := none }) rfl (fun K' hK => ?_) AllReadyH.nil
  go_simp
  go_at_call 9
  refine (first_any _).mono ?_
  rintro e w1 ⟨rfl, q1⟩
  have K1 := Lib.hid (KD.out.trans (Keep.of0 q1))
  clear q1
  have CP := Lib.hid (prepare_any pc c.most c.bal c.val x.bal w1 (HC.out.keep K1.out (fun e => e)))
  unfold Vw.agg firstV at CP
  unfold Vw.agg firstV
  go_simp
  refine hK.out _ _ (⟨K1.out.toAny, HB.out _ K1.out⟩) (fun hHeld => ?_)
  clear hK K'
  try dsimp only
  refine wpAnyH_ready (rs := [6]) (by kernel_rfl) (by simp) ?_
  refine AllReadyH.cons (o := { dst := some 170, op := Op.call { callee := Callee.value (Operand.func 21), args := #[Operand.tmp 166, Operand.tmp 167, Operand.tmp 169], argTypes := #[44, 29, 23] }, type := 37, pos := "law.go:75", after := #[{ on := 2, ground := Ground.data }, { on := 3, ground := Ground.data }, { on := 5, ground := Ground.data }, { on := 3, ground := Ground.chain }], guard := none }) rfl (fun K' hK => ?_) AllReadyH.nil
  go_simp
  go_at_call 21
  refine CP.out.mono ?_
  clear CP
  rintro e w4 ⟨hno, hyes, k4⟩
  obtain ⟨tl, rfl, hpost⟩ : ∃ tl : Pr, e = .returned tl.agg ∧ ((x.bal ≤ c.most → tl = ⟨false, 2, c.most, c.bal, c.val, firstV⟩ ∧ CAt w4 pc c) ∧ (c.most < x.bal → tl = ⟨true, 2, x.bal, c.bal, c.val, firstV⟩ ∧ CAt w4 pc ⟨x.bal, c.bal, c.val⟩)) := by
    rcases Int.lt_or_le c.most x.bal with h | h
    · obtain ⟨e1, e2⟩ := hyes h
      exact ⟨_, e1, fun h2 => absurd h (by omega), fun _ => ⟨rfl, e2⟩⟩
    · obtain ⟨e1, e2⟩ := hno h
      exact ⟨_, e1, fun _ => ⟨rfl, e2⟩, fun h2 => absurd h (by omega)⟩
  clear hno hyes
  have HPO := Lib.hid hpost
  clear hpost
  have K4 := Lib.hid k4
  clear k4
  have HX4 := Lib.hid ((HX.out.keep K1.out (fun e => e)).keep K4.out hd.2.2)
  have KW4 := Lib.hid (K1.out.toAny.trans (K4.out.mono (fun q _ e => .inl e : ∀ q, q < w1.heap.size → q = pc → (q = pc ∨ q = X))))
  unfold Pr.agg
  go_simp
  refine hK.out _ _ (⟨KW4.out, cell_at HX4.out 2, cell_at HX4.out 0⟩) (fun hHeld => ?_)
  clear hK K'
  try dsimp only
  refine wpAnyH_take (i := 7) (oi := { dst := some 171, op := Op.fieldAddr 49 (Operand.tmp 18) 3, type := 0, pos := "law.go:75", after := #[{ on := 0, ground := Ground.phase }, { on := 1, ground := Ground.phase }, { on := 2, ground := Ground.phase }, { on := 3, ground := Ground.phase }, { on := 4, ground := Ground.phase }, { on := 5, ground := Ground.phase }, { on := 6, ground := Ground.phase }], guard := none }) (v := .pointer (some ⟨X, 3, none⟩)) rfl (by kernel_rfl) (by kernel_rfl) (by kernel_rfl) (fun _ _ _ h => hQ _ _ _ _ _ h) (Or.inl ⟨by rfl, ?_⟩) (by assumption) ?_
  · (intro w' hSw; (try dsimp only at hSw); go_simp)
  dsimp only
  have z3 := cell_at HX4.out 3
  have z4 := cell_at HX4.out 4
  have z5 := cell_at HX4.out 5
  have z6 := cell_at HX4.out 6
  have z7 := cell_at HX4.out 7
  have z8 := cell_at HX4.out 8
  have z9 := cell_at HX4.out 9
  have z10 := cell_at HX4.out 10
  have z11 := cell_at HX4.out 11
  have z12 := cell_at HX4.out 12
  have z13 := cell_at HX4.out 13
  have z14 := cell_at HX4.out 14
  have z15 := cell_at HX4.out 15
  have z16 := cell_at HX4.out 16
  have z17 := cell_at HX4.out 17
  have z18 := cell_at HX4.out 18
  have zf3 := free_at HX4.out 3
  have zf4 := free_at HX4.out 4
  have zf5 := free_at HX4.out 5
  have zf6 := free_at HX4.out 6
  have zf7 := free_at HX4.out 7
  have zf8 := free_at HX4.out 8
  have zf9 := free_at HX4.out 9
  have zf10 := free_at HX4.out 10
  have zf11 := free_at HX4.out 11
  have zf12 := free_at HX4.out 12
  have zf13 := free_at HX4.out 13
  have zf14 := free_at HX4.out 14
  have zf15 := free_at HX4.out 15
  have zf16 := free_at HX4.out 16
  have zf17 := free_at HX4.out 17
  have zf18 := free_at HX4.out 18
  simp [One.row] at z3 z4 z5 z6 z7 z8 z9 z10 z11 z12 z13 z14 z15 z16 z17 z18
  refine wpAnyH_ready (rs := [8]) (by kernel_rfl) (by simp) ?_
  refine AllReadyH.cons (o := { dst := none, op := Op.store 37 (Operand.tmp 171) (Operand.tmp 170), type := 0, pos := "law.go:75", after := #[{ on := 7, ground := Ground.data }, { on := 6, ground := Ground.data }, { on := 6, ground := Ground.chain }, { on := 0, ground := Ground.phase }, { on := 1, ground := Ground.phase }, { on := 2, ground := Ground.phase }, { on := 3, ground := Ground.phase }, { on := 4, ground := Ground.phase }, { on := 5, ground := Ground.phase }, { on := 6, ground := Ground.phase }], guard := none }) rfl (fun K' hK => ?_) AllReadyH.nil
  go_simp
  clear z3 zf3 z4 zf4 z5 zf5 z6 zf6 z7 zf7 z8 zf8 z9 zf9 z10 zf10 z11 zf11 z12 zf12 z13 zf13 z14 zf14 z15 zf15 z16 zf16 z17 zf17 z18 zf18
  obtain ⟨wf, hwf⟩ : ∃ V, V = ((((((((((((((((w4.setCell ⟨X, 3, none⟩ (.bool tl.ok)).setCell ⟨X, 4, none⟩ (.int .u64 tl.v)).setCell ⟨X, 5, none⟩ (.int .u64 tl.most)).setCell ⟨X, 6, none⟩ (.int .u64 tl.bal)).setCell ⟨X, 7, none⟩ (.int .u64 tl.val.v)).setCell ⟨X, 8, none⟩ (.int .i64 tl.val.p)).setCell ⟨X, 9, none⟩ (.int .u64 tl.val.pl)).setCell ⟨X, 10, none⟩ (.int .i64 tl.val.b)).setCell ⟨X, 11, none⟩ (.int .u64 tl.val.bl)).setCell ⟨X, 12, none⟩ (.int .u64 tl.val.e)).setCell ⟨X, 13, none⟩ (.int .u64 tl.ch.v)).setCell ⟨X, 14, none⟩ (.int .i64 tl.ch.p)).setCell ⟨X, 15, none⟩ (.int .u64 tl.ch.pl)).setCell ⟨X, 16, none⟩ (.int .i64 tl.ch.b)).setCell ⟨X, 17, none⟩ (.int .u64 tl.ch.bl)).setCell ⟨X, 18, none⟩ (.int .u64 tl.ch.e)) := ⟨_, rfl⟩
  rw [← hwf]
  have HO := Lib.hid (show OAt wf X pq { x with told := tl } by rw [hwf]; exact (block_set (block_set (block_set (block_set (block_set (block_set (block_set (block_set (block_set (block_set (block_set (block_set (block_set (block_set (block_set (block_set HX4.out 3 (.bool tl.ok)) 4 (.int .u64 tl.v)) 5 (.int .u64 tl.most)) 6 (.int .u64 tl.bal)) 7 (.int .u64 tl.val.v)) 8 (.int .i64 tl.val.p)) 9 (.int .u64 tl.val.pl)) 10 (.int .i64 tl.val.b)) 11 (.int .u64 tl.val.bl)) 12 (.int .u64 tl.val.e)) 13 (.int .u64 tl.ch.v)) 14 (.int .i64 tl.ch.p)) 15 (.int .u64 tl.ch.pl)) 16 (.int .i64 tl.ch.b)) 17 (.int .u64 tl.ch.bl)) 18 (.int .u64 tl.ch.e)).trans (by simp [One.row]))
  have KF := Lib.hid (show Keep (fun q => q = X) w4 wf by rw [hwf]; exact (((((((((((((((((Keep.refl (fun q => q = X) w4).set1 _ _).set1 _ _).set1 _ _).set1 _ _).set1 _ _).set1 _ _).set1 _ _).set1 _ _).set1 _ _).set1 _ _).set1 _ _).set1 _ _).set1 _ _).set1 _ _).set1 _ _).set1 _ _))
  clear hwf
  have KW := Lib.hid (KW4.out.trans (KF.out.mono (fun q _ e => .inr e : ∀ q, q < w4.heap.size → q = X → (q = pc ∨ q = X))))
  refine hK.out _ _ (⟨KW.out, cell_at HO.out 2, cell_at HO.out 0⟩) (fun hHeld => ?_)
  clear hK K'
  try dsimp only
  refine wpAnyH_done (by kernel_rfl) ?_ _
  show K _ _
  rw [put_comm _ 169 167 _ _ (by decide), put_comm _ 168 167 _ _ (by decide)]
  exact HK.out _ _ _ _ _ _ _ _ _ tl ⟨fun h => ⟨(HPO.out.1 h).1, (HPO.out.1 h).2.keep KF.out (fun e => hd.2.2 e.symm)⟩, fun h => ⟨(HPO.out.2 h).1, (HPO.out.2 h).2.keep KF.out (fun e => hd.2.2 e.symm)⟩⟩ HO.out KW.out

set_option maxHeartbeats 16000000 in
theorem reg45 (A : Act) (hA : A.tmps.size = 229) (XC X pc pq a : Nat) (h17 : A.eval (.tmp 17) = .int .i64 (a : Int)) (h5 : A.eval (.tmp 5) = .pointer (some ⟨XC, 0, none⟩)) (h18 : A.eval (.tmp 18) = .pointer (some ⟨X, 0, none⟩)) (ha : a < 3) (K : Act → World → Prop) (Q : Exit → Act → World → Prop) (w2 : World) (c : Ce) (x : One) (s : PS) (cc : Array Value)
    (HXC : Hid (w2.heap[XC]? = some (.cells cc 45 (0, 0)) ∧ cc[a]? = some (.pointer (some ⟨pc, 0, none⟩)))) (HX : Hid (OAt w2 X pq x)) (HC : Hid (CAt w2 pc c)) (hd : XC ≠ pc ∧ XC ≠ X ∧ X ≠ pc) (HP : Hid (PAt w2 pq s)) (hpp : x.sec = x.sec) (hne : pq ≠ pc ∧ pq ≠ X) (hsv : QuoX.Good s.val) (hn0 : 0 < x.bal)
    (hQ : ∀ (x : List PanicEntry) (A' : Act) (d : Nat) (v : Value) (W : World), Q (.panic x) (A'.put (some d) v) W → Q (.panic x) A' W)
    (hK : ∀ (v195 v196 v197 v198 v199 v200 v201 v202 v203 v204 : Value) (W' : World) (tl : Pr), ((x.bal < c.most → tl = ⟨false, 2, c.most, c.bal, c.val, firstV⟩ ∧ CAt W' pc c) ∧ (c.most ≤ x.bal → tl = ⟨true, 2, x.bal, x.bal, s.val, firstV⟩ ∧ CAt W' pc ⟨x.bal, x.bal, s.val⟩)) → OAt W' X pq { x with told := tl } → Keep (fun q => q = pc ∨ q = X) w2 W' → K ((((((((((A.put (some 195) v195).put (some 196) v196).put (some 197) v197).put (some 198) v198).put (some 199) v199).put (some 200) v200).put (some 201) v201).put (some 202) v202).put (some 203) v203).put (some 204) v204) W') :
    Code.wp Try.prog (Code.region 45 #[{ dst := some 195, op := Op.move (Operand.tmp 17), type := 3, pos := "law.go:82", after := #[], guard := none }, { dst := some 196, op := Op.indexAddr 45 (Operand.tmp 5) (Operand.tmp 195), type := 0, pos := "law.go:82", after := #[{ on := 0, ground := Ground.data }], guard := none }, { dst := some 197, op := Op.load 44 (Operand.tmp 196), type := 44, pos := "law.go:82", after := #[{ on := 1, ground := Ground.data }], guard := none }, { dst := some 198, op := Op.fieldAddr 49 (Operand.tmp 18) 0, type := 0, pos := "law.go:82", after := #[], guard := none }, { dst := some 199, op := Op.load 24 (Operand.tmp 198), type := 24, pos := "law.go:82", after := #[{ on := 3, ground := Ground.data }], guard := none }, { dst := some 200, op := Op.call { callee := Callee.value (Operand.func 17), args := #[Operand.tmp 199], argTypes := #[24] }, type := 29, pos := "law.go:82", after := #[{ on := 4, ground := Ground.data }], guard := none }, { dst := some 201, op := Op.fieldAddr 49 (Operand.tmp 18) 2, type := 0, pos := "law.go:82", after := #[], guard := none }, { dst := some 202, op := Op.load 23 (Operand.tmp 201), type := 23, pos := "law.go:82", after := #[{ on := 6, ground := Ground.data }], guard := none }, { dst := some 203, op := Op.call { callee := Callee.value (Operand.func 22), args := #[Operand.tmp 197, Operand.tmp 200, Operand.tmp 202], argTypes := #[44, 29, 23] }, type := 37, pos := "law.go:82", after := #[{ on := 2, ground := Ground.data }, { on := 5, ground := Ground.data }, { on := 7, ground := Ground.data }, { on := 5, ground := Ground.chain }], guard := none }, { dst := some 204, op := Op.fieldAddr 49 (Operand.tmp 18) 3, type := 0, pos := "law.go:82", after := #[{ on := 0, ground := Ground.phase }, { on := 1, ground := Ground.phase }, { on := 2, ground := Ground.phase }, { on := 3, ground := Ground.phase }, { on := 4, ground := Ground.phase }, { on := 5, ground := Ground.phase }, { on := 6, ground := Ground.phase }, { on := 7, ground := Ground.phase }, { on := 8, ground := Ground.phase }], guard := none }, { dst := none, op := Op.store 37 (Operand.tmp 204) (Operand.tmp 203), type := 0, pos := "law.go:82", after := #[{ on := 9, ground := Ground.data }, { on := 8, ground := Ground.data }, { on := 8, ground := Ground.chain }, { on := 0, ground := Ground.phase }, { on := 1, ground := Ground.phase }, { on := 2, ground := Ground.phase }, { on := 3, ground := Ground.phase }, { on := 4, ground := Ground.phase }, { on := 5, ground := Ground.phase }, { on := 6, ground := Ground.phase }, { on := 7, ground := Ground.phase }, { on := 8, ground := Ground.phase }], guard := none }] true) (Exit.then K Q) A w2 := by
  have HK := Lib.hid hK
  have hai : (a : Int) < 3 := by omega
  have ha0 : (0 : Int) ≤ (a : Int) := by omega
  clear hK
  have HS := Lib.hid (show ∀ w' : World, Keep (fun q => q = pc ∨ q = X) w2 w' → w'.cell? ⟨XC, a, none⟩ = some (.pointer (some ⟨pc, 0, none⟩)) from fun w' kw => by
    have h1 := (kw.block _ (lt_of_block HXC.out.1) (by omega)).trans HXC.out.1
    rw [cell_at h1]; exact HXC.out.2)
  have HB := Lib.hid (show ∀ w' : World, Keep (fun _ => False) w2 w' → w'.cell? ⟨X, 2, none⟩ = some (.int .u64 x.bal) ∧ w'.cell? ⟨X, 0, none⟩ = some (.pointer (some ⟨pq, 0, none⟩)) from fun w' kw => ⟨cell_at (HX.out.keep kw (fun e => e)) 2, cell_at (HX.out.keep kw (fun e => e)) 0⟩)
  refine wp_region_held_drew (S := (fun w' => Keep (fun q => q = pc ∨ q = X) w2 w' ∧ w'.cell? ⟨X, 2, none⟩ = some (.int .u64 x.bal) ∧ w'.cell? ⟨X, 0, none⟩ = some (.pointer (some ⟨pq, 0, none⟩)))) (by kernel_rfl) ?_ (fun hHeld => ?_)
  · exact ⟨(Keep.refl _ w2).drew, HB.out _ (Keep.refl _ w2).drew⟩
  generalize hwd : w2.drew = wd at hHeld ⊢
  have KD := Lib.hid (show Keep (fun _ => False) w2 wd by rw [← hwd]; exact (Keep.refl _ w2).drew)
  clear hwd
  refine wpAnyH_take (i := 0) (oi := { dst := some 195, op := Op.move (Operand.tmp 17), type := 3, pos := "law.go:82", after := #[], guard := none }) (v := .int .i64 (a : Int)) rfl (by kernel_rfl) (by kernel_rfl) (by kernel_rfl) (fun _ _ _ h => hQ _ _ _ _ _ h) (Or.inl ⟨by rfl, ?_⟩) (by assumption) ?_
  · (intro w' hSw; (try dsimp only at hSw); go_simp)
  dsimp only
  refine wpAnyH_take (i := 1) (oi := { dst := some 196, op := Op.indexAddr 45 (Operand.tmp 5) (Operand.tmp 195), type := 0, pos := "law.go:82", after := #[{ on := 0, ground := Ground.data }], guard := none }) (v := .pointer (some ⟨XC, a, none⟩)) rfl (by kernel_rfl) (by kernel_rfl) (by kernel_rfl) (fun _ _ _ h => hQ _ _ _ _ _ h) (Or.inl ⟨by rfl, ?_⟩) (by assumption) ?_
  · (intro w' hSw; (try dsimp only at hSw); go_simp)
  dsimp only
  refine wpAnyH_take (i := 2) (oi := { dst := some 197, op := Op.load 44 (Operand.tmp 196), type := 44, pos := "law.go:82", after := #[{ on := 1, ground := Ground.data }], guard := none }) (v := .pointer (some ⟨pc, 0, none⟩)) rfl (by kernel_rfl) (by kernel_rfl) (by kernel_rfl) (fun _ _ _ h => hQ _ _ _ _ _ h) (Or.inl ⟨by rfl, ?_⟩) (by assumption) ?_
  · (intro w' hSw; (try dsimp only at hSw); have x0 := HS.out w' hSw.1; go_simp)
  dsimp only
  refine wpAnyH_take (i := 3) (oi := { dst := some 198, op := Op.fieldAddr 49 (Operand.tmp 18) 0, type := 0, pos := "law.go:82", after := #[], guard := none }) (v := .pointer (some ⟨X, 0, none⟩)) rfl (by kernel_rfl) (by kernel_rfl) (by kernel_rfl) (fun _ _ _ h => hQ _ _ _ _ _ h) (Or.inl ⟨by rfl, ?_⟩) (by assumption) ?_
  · (intro w' hSw; (try dsimp only at hSw); go_simp)
  dsimp only
  refine wpAnyH_take (i := 4) (oi := { dst := some 199, op := Op.load 24 (Operand.tmp 198), type := 24, pos := "law.go:82", after := #[{ on := 3, ground := Ground.data }], guard := none }) (v := .pointer (some ⟨pq, 0, none⟩)) rfl (by kernel_rfl) (by kernel_rfl) (by kernel_rfl) (fun _ _ _ h => hQ _ _ _ _ _ h) (Or.inl ⟨by rfl, ?_⟩) (by assumption) ?_
  · (intro w' hSw; (try dsimp only at hSw); have x3 := hSw.2.2; go_simp)
  dsimp only
  refine wpAnyH_take (i := 6) (oi := { dst := some 201, op := Op.fieldAddr 49 (Operand.tmp 18) 2, type := 0, pos := "law.go:82", after := #[], guard := none }) (v := .pointer (some ⟨X, 2, none⟩)) rfl (by kernel_rfl) (by kernel_rfl) (by kernel_rfl) (fun _ _ _ h => hQ _ _ _ _ _ h) (Or.inl ⟨by rfl, ?_⟩) (by assumption) ?_
  · (intro w' hSw; (try dsimp only at hSw); go_simp)
  dsimp only
  refine wpAnyH_take (i := 7) (oi := { dst := some 202, op := Op.load 23 (Operand.tmp 201), type := 23, pos := "law.go:82", after := #[{ on := 6, ground := Ground.data }], guard := none }) (v := .int .u64 x.bal) rfl (by kernel_rfl) (by kernel_rfl) (by kernel_rfl) (fun _ _ _ h => hQ _ _ _ _ _ h) (Or.inl ⟨by rfl, ?_⟩) (by assumption) ?_
  · (intro w' hSw; (try dsimp only at hSw); have x2 := hSw.2.1; go_simp)
  dsimp only
  have CV := Lib.hid (value_any s pq wd ((KD.out.block _ (lt_of_block HP.out) (fun e => e)).trans HP.out))
  refine wpAnyH_ready (rs := [5]) (by kernel_rfl) (by simp) ?_
  refine AllReadyH.cons (o := { dst := some 200, op := Op.call { callee := Callee.value (Operand.func 17), args := #[Operand.tmp 199], argTypes := #[24] }, type := 29, pos := "law.go:82", after := #[{ on := 4, ground := Ground.data }], guard := none }) rfl (fun K' hK => ?_) AllReadyH.nil
  go_simp
  go_at_call 17
  refine CV.out.mono ?_
  clear CV
  rintro e w1 ⟨rfl, q1⟩
  have K1 := Lib.hid (KD.out.trans (Keep.of0 q1))
  clear q1
  have CP := Lib.hid (accept_any pc c.most c.bal c.val s.val x.bal w1 (HC.out.keep K1.out (fun e => e)) hsv hn0)
  unfold Vw.agg at CP
  unfold Vw.agg
  go_simp
  refine hK.out _ _ (⟨K1.out.toAny, HB.out _ K1.out⟩) (fun hHeld => ?_)
  clear hK K'
  try dsimp only
  refine wpAnyH_ready (rs := [8]) (by kernel_rfl) (by simp) ?_
  refine AllReadyH.cons (o := { dst := some 203, op := Op.call { callee := Callee.value (Operand.func 22), args := #[Operand.tmp 197, Operand.tmp 200, Operand.tmp 202], argTypes := #[44, 29, 23] }, type := 37, pos := "law.go:82", after := #[{ on := 2, ground := Ground.data }, { on := 5, ground := Ground.data }, { on := 7, ground := Ground.data }, { on := 5, ground := Ground.chain }], guard := none }) rfl (fun K' hK => ?_) AllReadyH.nil
  go_simp
  go_at_call 22
  refine CP.out.mono ?_
  clear CP
  rintro e w4 ⟨hno, hyes, k4⟩
  obtain ⟨tl, rfl, hpost⟩ : ∃ tl : Pr, e = .returned tl.agg ∧ ((x.bal < c.most → tl = ⟨false, 2, c.most, c.bal, c.val, firstV⟩ ∧ CAt w4 pc c) ∧ (c.most ≤ x.bal → tl = ⟨true, 2, x.bal, x.bal, s.val, firstV⟩ ∧ CAt w4 pc ⟨x.bal, x.bal, s.val⟩)) := by
    rcases Int.lt_or_le x.bal c.most with h | h
    · obtain ⟨e1, e2⟩ := hno h
      exact ⟨_, e1, fun _ => ⟨rfl, e2⟩, fun h2 => absurd h (by omega)⟩
    · obtain ⟨e1, e2⟩ := hyes h
      exact ⟨_, e1, fun h2 => absurd h (by omega), fun _ => ⟨rfl, e2⟩⟩
  clear hno hyes
  have HPO := Lib.hid hpost
  clear hpost
  have K4 := Lib.hid k4
  clear k4
  have HX4 := Lib.hid ((HX.out.keep K1.out (fun e => e)).keep K4.out hd.2.2)
  have KW4 := Lib.hid (K1.out.toAny.trans (K4.out.mono (fun q _ e => .inl e : ∀ q, q < w1.heap.size → q = pc → (q = pc ∨ q = X))))
  unfold Pr.agg
  go_simp
  refine hK.out _ _ (⟨KW4.out, cell_at HX4.out 2, cell_at HX4.out 0⟩) (fun hHeld => ?_)
  clear hK K'
  try dsimp only
  refine wpAnyH_take (i := 9) (oi := { dst := some 204, op := Op.fieldAddr 49 (Operand.tmp 18) 3, type := 0, pos := "law.go:82", after := #[{ on := 0, ground := Ground.phase }, { on := 1, ground := Ground.phase }, { on := 2, ground := Ground.phase }, { on := 3, ground := Ground.phase }, { on := 4, ground := Ground.phase }, { on := 5, ground := Ground.phase }, { on := 6, ground := Ground.phase }, { on := 7, ground := Ground.phase }, { on := 8, ground := Ground.phase }], guard := none }) (v := .pointer (some ⟨X, 3, none⟩)) rfl (by kernel_rfl) (by kernel_rfl) (by kernel_rfl) (fun _ _ _ h => hQ _ _ _ _ _ h) (Or.inl ⟨by rfl, ?_⟩) (by assumption) ?_
  · (intro w' hSw; (try dsimp only at hSw); go_simp)
  dsimp only
  have z3 := cell_at HX4.out 3
  have z4 := cell_at HX4.out 4
  have z5 := cell_at HX4.out 5
  have z6 := cell_at HX4.out 6
  have z7 := cell_at HX4.out 7
  have z8 := cell_at HX4.out 8
  have z9 := cell_at HX4.out 9
  have z10 := cell_at HX4.out 10
  have z11 := cell_at HX4.out 11
  have z12 := cell_at HX4.out 12
  have z13 := cell_at HX4.out 13
  have z14 := cell_at HX4.out 14
  have z15 := cell_at HX4.out 15
  have z16 := cell_at HX4.out 16
  have z17 := cell_at HX4.out 17
  have z18 := cell_at HX4.out 18
  have zf3 := free_at HX4.out 3
  have zf4 := free_at HX4.out 4
  have zf5 := free_at HX4.out 5
  have zf6 := free_at HX4.out 6
  have zf7 := free_at HX4.out 7
  have zf8 := free_at HX4.out 8
  have zf9 := free_at HX4.out 9
  have zf10 := free_at HX4.out 10
  have zf11 := free_at HX4.out 11
  have zf12 := free_at HX4.out 12
  have zf13 := free_at HX4.out 13
  have zf14 := free_at HX4.out 14
  have zf15 := free_at HX4.out 15
  have zf16 := free_at HX4.out 16
  have zf17 := free_at HX4.out 17
  have zf18 := free_at HX4.out 18
  simp [One.row] at z3 z4 z5 z6 z7 z8 z9 z10 z11 z12 z13 z14 z15 z16 z17 z18
  refine wpAnyH_ready (rs := [10]) (by kernel_rfl) (by simp) ?_
  refine AllReadyH.cons (o := { dst := none, op := Op.store 37 (Operand.tmp 204) (Operand.tmp 203), type := 0, pos := "law.go:82", after := #[{ on := 9, ground := Ground.data }, { on := 8, ground := Ground.data }, { on := 8, ground := Ground.chain }, { on := 0, ground := Ground.phase }, { on := 1, ground := Ground.phase }, { on := 2, ground := Ground.phase }, { on := 3, ground := Ground.phase }, { on := 4, ground := Ground.phase }, { on := 5, ground := Ground.phase }, { on := 6, ground := Ground.phase }, { on := 7, ground := Ground.phase }, { on := 8, ground := Ground.phase }], guard := none }) rfl (fun K' hK => ?_) AllReadyH.nil
  go_simp
  clear z3 zf3 z4 zf4 z5 zf5 z6 zf6 z7 zf7 z8 zf8 z9 zf9 z10 zf10 z11 zf11 z12 zf12 z13 zf13 z14 zf14 z15 zf15 z16 zf16 z17 zf17 z18 zf18
  obtain ⟨wf, hwf⟩ : ∃ V, V = ((((((((((((((((w4.setCell ⟨X, 3, none⟩ (.bool tl.ok)).setCell ⟨X, 4, none⟩ (.int .u64 tl.v)).setCell ⟨X, 5, none⟩ (.int .u64 tl.most)).setCell ⟨X, 6, none⟩ (.int .u64 tl.bal)).setCell ⟨X, 7, none⟩ (.int .u64 tl.val.v)).setCell ⟨X, 8, none⟩ (.int .i64 tl.val.p)).setCell ⟨X, 9, none⟩ (.int .u64 tl.val.pl)).setCell ⟨X, 10, none⟩ (.int .i64 tl.val.b)).setCell ⟨X, 11, none⟩ (.int .u64 tl.val.bl)).setCell ⟨X, 12, none⟩ (.int .u64 tl.val.e)).setCell ⟨X, 13, none⟩ (.int .u64 tl.ch.v)).setCell ⟨X, 14, none⟩ (.int .i64 tl.ch.p)).setCell ⟨X, 15, none⟩ (.int .u64 tl.ch.pl)).setCell ⟨X, 16, none⟩ (.int .i64 tl.ch.b)).setCell ⟨X, 17, none⟩ (.int .u64 tl.ch.bl)).setCell ⟨X, 18, none⟩ (.int .u64 tl.ch.e)) := ⟨_, rfl⟩
  rw [← hwf]
  have HO := Lib.hid (show OAt wf X pq { x with told := tl } by rw [hwf]; exact (block_set (block_set (block_set (block_set (block_set (block_set (block_set (block_set (block_set (block_set (block_set (block_set (block_set (block_set (block_set (block_set HX4.out 3 (.bool tl.ok)) 4 (.int .u64 tl.v)) 5 (.int .u64 tl.most)) 6 (.int .u64 tl.bal)) 7 (.int .u64 tl.val.v)) 8 (.int .i64 tl.val.p)) 9 (.int .u64 tl.val.pl)) 10 (.int .i64 tl.val.b)) 11 (.int .u64 tl.val.bl)) 12 (.int .u64 tl.val.e)) 13 (.int .u64 tl.ch.v)) 14 (.int .i64 tl.ch.p)) 15 (.int .u64 tl.ch.pl)) 16 (.int .i64 tl.ch.b)) 17 (.int .u64 tl.ch.bl)) 18 (.int .u64 tl.ch.e)).trans (by simp [One.row]))
  have KF := Lib.hid (show Keep (fun q => q = X) w4 wf by rw [hwf]; exact (((((((((((((((((Keep.refl (fun q => q = X) w4).set1 _ _).set1 _ _).set1 _ _).set1 _ _).set1 _ _).set1 _ _).set1 _ _).set1 _ _).set1 _ _).set1 _ _).set1 _ _).set1 _ _).set1 _ _).set1 _ _).set1 _ _).set1 _ _))
  clear hwf
  have KW := Lib.hid (KW4.out.trans (KF.out.mono (fun q _ e => .inr e : ∀ q, q < w4.heap.size → q = X → (q = pc ∨ q = X))))
  refine hK.out _ _ (⟨KW.out, cell_at HO.out 2, cell_at HO.out 0⟩) (fun hHeld => ?_)
  clear hK K'
  try dsimp only
  refine wpAnyH_done (by kernel_rfl) ?_ _
  show K _ _
  rw [put_comm _ 202 200 _ _ (by decide), put_comm _ 201 200 _ _ (by decide)]
  exact HK.out _ _ _ _ _ _ _ _ _ _ _ tl ⟨fun h => ⟨(HPO.out.1 h).1, (HPO.out.1 h).2.keep KF.out (fun e => hd.2.2 e.symm)⟩, fun h => ⟨(HPO.out.2 h).1, (HPO.out.2 h).2.keep KF.out (fun e => hd.2.2 e.symm)⟩⟩ HO.out KW.out

end Go.Proofs.Ytppnjkiegiokeaa.QuoG
