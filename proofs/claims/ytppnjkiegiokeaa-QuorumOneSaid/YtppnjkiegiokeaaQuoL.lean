/-
  Layer 17 (quorum): QuorumOne: who, and which arbiter (region 22), at whatever frame.
-/
import Derived.Test.YtppnjkiegiokeaaQuoI
import Derived.Deep.DeepCutAuto
namespace Go.Proofs.Ytppnjkiegiokeaa.QuoL
set_option linter.unusedVariables false
set_option linter.unusedSimpArgs false
set_option maxRecDepth 100000
open Go.RowKit Go.Proofs.Ytppnjkiegiokeaa.Mem Go.Proofs.Ytppnjkiegiokeaa.Mask Go.Proofs.Ytppnjkiegiokeaa.QuoW Go.Proofs.Ytppnjkiegiokeaa.QuoV Go.Proofs.Ytppnjkiegiokeaa.QuoU Go.Proofs.Ytppnjkiegiokeaa.QuoR Go.Proofs.Ytppnjkiegiokeaa.QuoS Go.Proofs.Ytppnjkiegiokeaa.QuoX Go.Proofs.Ytppnjkiegiokeaa.QuoC Go.Proofs.Ytppnjkiegiokeaa.QuoF Go.Proofs.Ytppnjkiegiokeaa.QuoH Go.Proofs.Ytppnjkiegiokeaa.QuoI
structure Rd (w wq : World) (XC XA XV : Nat) (cb pb : Nat → Nat) (la lb : Int) (N : Nat) (P : Nat → PS) (C : Nat → Ce) (T : Nat → One) (ch : Vw) (V : Votes) : Prop where
  st : St w wq XC XA XV cb pb P C T ch
  inv : Inv meI (lfI la lb) P C V (N : Int)
  told : ∀ q, q < 4 → QuoF.Told (P q) (N : Int) (T q)
  ch : ch.v = 0 ∨ Chosen V ch
theorem Cs.keepX {w wr w2 : World} {XC XA i : Nat} {cb : Nat → Nat} (h : Cs w wr XC i cb) (k : Keep (fun j => j = XA) wr w2) (hx : XC < XA) (ha : ∀ a, a < i → cb a < XA) (hw : w.heap.size ≤ XA) : Cs w w2 XC i cb :=
  ⟨(k.block _ (lt_of_block h.xc) (by show ¬ XC = XA; omega)).trans h.xc, fun a hi => ⟨(h.ca a hi).1.keep k (by have := ha a hi; show ¬ cb a = XA; omega), (h.ca a hi).2.1, Nat.lt_of_lt_of_le (h.ca a hi).2.2 k.size⟩, h.n, h.h, h.k.then k (fun j e => by omega)⟩
theorem rem3 (x : Int) : ∃ (r : Int) (a : Nat), x.tmod 3 = r ∧ a < 3 ∧ ((r = -2 ∧ a = 1) ∨ (r = -1 ∧ a = 2) ∨ (r = 0 ∧ a = 0) ∨ (r = 1 ∧ a = 1) ∨ (r = 2 ∧ a = 2)) := by
  by_cases h : 0 ≤ x
  · have e : x.tmod 3 = x % 3 := Int.tmod_eq_emod_of_nonneg h
    rcases (show x % 3 = 0 ∨ x % 3 = 1 ∨ x % 3 = 2 from by omega) with h1 | h1 | h1
    · exact ⟨0, 0, by omega, by omega, by omega⟩
    · exact ⟨1, 1, by omega, by omega, by omega⟩
    · exact ⟨2, 2, by omega, by omega, by omega⟩
  · have e : x.tmod 3 = -((-x) % 3) := by rw [← Int.tmod_eq_emod_of_nonneg (by omega), Int.neg_tmod, Int.neg_neg]
    rcases (show (-x) % 3 = 0 ∨ (-x) % 3 = 1 ∨ (-x) % 3 = 2 from by omega) with h1 | h1 | h1
    · exact ⟨0, 0, by omega, by omega, by omega⟩
    · exact ⟨-1, 2, by omega, by omega, by omega⟩
    · exact ⟨-2, 1, by omega, by omega, by omega⟩
attribute [-go_sem] Act.eval Act.put
attribute [local go_sem] BigFrame.eval_const BigFrame.eval_global BigFrame.eval_func
theorem sz_put (A : Act) (d : Nat) (v : Value) : (A.put (some d) v).tmps.size = A.tmps.size := by simp [Act.put]
theorem put_none (A : Act) (v : Value) : A.put none v = A := rfl
theorem ev_same (A : Act) (i : Nat) (v : Value) (h : i < A.tmps.size) : (A.put (some i) v).eval (.tmp i) = v := by
  simp [Act.put, Act.eval, Array.getD_eq_getD_getElem?, Array.getElem?_setIfInBounds, h]
theorem ev_ne (A : Act) (i j : Nat) (v : Value) (h : i ≠ j) : (A.put (some i) v).eval (.tmp j) = A.eval (.tmp j) := by
  simp [Act.put, Act.eval, Array.getD_eq_getD_getElem?, Array.getElem?_setIfInBounds, h]
theorem put_comm (A : Act) (i j : Nat) (u v : Value) (h : j < i) : (A.put (some i) u).put (some j) v = (A.put (some j) v).put (some i) u := by
  simp only [Act.put]
  rw [Array.setIfInBounds_comm _ _ (by omega)]
attribute [local go_sem] sz_put put_none ev_same ev_ne
set_option maxHeartbeats 16000000 in
theorem reg22 (A : Act) (hA : A.tmps.size = 229) (g off len cap i q a : Nat) (who arb r : Int) (h0 : A.eval (.tmp 0) = .slice (some ⟨g, off, none⟩) len cap) (h15 : A.eval (.tmp 15) = .int .i64 (i : Int)) (hi : i < len) (K : Act → World → Prop) (Q : Exit → Act → World → Prop) (w : World)
    (HW : Hid (w.cell? ⟨g, off + i * 3 + 1, none⟩ = some (.int .i64 who) ∧ w.cell? ⟨g, off + i * 3 + 2, none⟩ = some (.int .i64 arb) ∧ g < w.heap.size)) (hq : bits .and .i64 who 3 = (q : Int)) (hr : arb.tmod 3 = r) (H5 : Hid ((r = -2 ∧ a = 1) ∨ (r = -1 ∧ a = 2) ∨ (r = 0 ∧ a = 0) ∨ (r = 1 ∧ a = 1) ∨ (r = 2 ∧ a = 2)))
    (hQ : ∀ (x : List PanicEntry) (A' : Act) (d : Nat) (v : Value) (W : World), Q (.panic x) (A'.put (some d) v) W → Q (.panic x) A' W)
    (hK : ∀ (v81 v82 v83 v84 v85 v86 v87 v88 v89 v90 v91 v92 v93 v94 : Value) (W' : World), Keep (fun _ => False) w W' → K ((((((((((((((((A.put (some 16) (.int .i64 (q : Int))).put (some 17) (.int .i64 (a : Int))).put (some 81) v81).put (some 82) v82).put (some 83) v83).put (some 84) v84).put (some 85) v85).put (some 86) v86).put (some 87) v87).put (some 88) v88).put (some 89) v89).put (some 90) v90).put (some 91) v91).put (some 92) v92).put (some 93) v93).put (some 94) v94) W') :
    Code.wp Try.prog (Code.region 22 #[{ dst := some 81, op := Op.move (Operand.tmp 0), type := 42, pos := "law.go:61", after := #[], guard := none }, { dst := some 82, op := Op.move (Operand.tmp 15), type := 3, pos := "law.go:61", after := #[], guard := none }, { dst := some 83, op := Op.indexAddr 42 (Operand.tmp 81) (Operand.tmp 82), type := 0, pos := "law.go:61", after := #[{ on := 0, ground := Ground.data }, { on := 1, ground := Ground.data }], guard := none }, { dst := some 84, op := Op.fieldAddr 52 (Operand.tmp 83) 1, type := 0, pos := "law.go:61", after := #[{ on := 2, ground := Ground.data }], guard := none }, { dst := some 85, op := Op.load 3 (Operand.tmp 84), type := 3, pos := "law.go:61", after := #[{ on := 3, ground := Ground.data }], guard := none }, { dst := some 86, op := Op.binOp BinOp.and 3 (Operand.tmp 85) (Operand.const (Value.int IntKind.i64 3)) 3, type := 3, pos := "law.go:61", after := #[{ on := 4, ground := Ground.data }], guard := none }, { dst := some 87, op := Op.move (Operand.tmp 0), type := 42, pos := "law.go:61", after := #[{ on := 14, ground := Ground.gcOnly Departure.lateStores }], guard := none }, { dst := some 88, op := Op.move (Operand.tmp 15), type := 3, pos := "law.go:61", after := #[{ on := 14, ground := Ground.gcOnly Departure.lateStores }], guard := none }, { dst := some 89, op := Op.indexAddr 42 (Operand.tmp 87) (Operand.tmp 88), type := 0, pos := "law.go:61", after := #[{ on := 6, ground := Ground.data }, { on := 7, ground := Ground.data }, { on := 14, ground := Ground.gcOnly Departure.lateStores }], guard := none }, { dst := some 90, op := Op.fieldAddr 52 (Operand.tmp 89) 2, type := 0, pos := "law.go:61", after := #[{ on := 8, ground := Ground.data }, { on := 14, ground := Ground.gcOnly Departure.lateStores }], guard := none }, { dst := some 91, op := Op.load 3 (Operand.tmp 90), type := 3, pos := "law.go:61", after := #[{ on := 9, ground := Ground.data }, { on := 14, ground := Ground.gcOnly Departure.lateStores }], guard := none }, { dst := some 92, op := Op.binOp BinOp.rem 3 (Operand.tmp 91) (Operand.const (Value.int IntKind.i64 3)) 3, type := 3, pos := "law.go:61", after := #[{ on := 10, ground := Ground.data }, { on := 14, ground := Ground.gcOnly Departure.lateStores }], guard := none }, { dst := some 93, op := Op.binOp BinOp.add 3 (Operand.tmp 92) (Operand.const (Value.int IntKind.i64 3)) 3, type := 3, pos := "law.go:61", after := #[{ on := 11, ground := Ground.data }, { on := 14, ground := Ground.gcOnly Departure.lateStores }], guard := none }, { dst := some 94, op := Op.binOp BinOp.rem 3 (Operand.tmp 93) (Operand.const (Value.int IntKind.i64 3)) 3, type := 3, pos := "law.go:61", after := #[{ on := 12, ground := Ground.data }, { on := 14, ground := Ground.gcOnly Departure.lateStores }], guard := none }, { dst := some 16, op := Op.assign (Operand.tmp 86), type := 3, pos := "law.go:61", after := #[{ on := 5, ground := Ground.data }, { on := 0, ground := Ground.phase }, { on := 1, ground := Ground.phase }, { on := 2, ground := Ground.phase }, { on := 3, ground := Ground.phase }, { on := 4, ground := Ground.phase }, { on := 5, ground := Ground.phase }, { on := 6, ground := Ground.textOnly Departure.lateStores }, { on := 7, ground := Ground.textOnly Departure.lateStores }, { on := 8, ground := Ground.textOnly Departure.lateStores }, { on := 9, ground := Ground.textOnly Departure.lateStores }, { on := 10, ground := Ground.textOnly Departure.lateStores }, { on := 11, ground := Ground.textOnly Departure.lateStores }, { on := 12, ground := Ground.textOnly Departure.lateStores }, { on := 13, ground := Ground.textOnly Departure.lateStores }], guard := none }, { dst := some 17, op := Op.assign (Operand.tmp 94), type := 3, pos := "law.go:61", after := #[{ on := 13, ground := Ground.data }, { on := 14, ground := Ground.chain }, { on := 0, ground := Ground.phase }, { on := 1, ground := Ground.phase }, { on := 2, ground := Ground.phase }, { on := 3, ground := Ground.phase }, { on := 4, ground := Ground.phase }, { on := 5, ground := Ground.phase }, { on := 6, ground := Ground.phase }, { on := 7, ground := Ground.phase }, { on := 8, ground := Ground.phase }, { on := 9, ground := Ground.phase }, { on := 10, ground := Ground.phase }, { on := 11, ground := Ground.phase }, { on := 12, ground := Ground.phase }, { on := 13, ground := Ground.phase }, { on := 14, ground := Ground.phase }], guard := none }] true) (Exit.then K Q) A w := by
  have HK := Lib.hid hK
  have hw1 : IntKind.i64.wrap 1 = 1 := IntWalk.i64_in _ (by omega)
  have hw2 : IntKind.i64.wrap 2 = 2 := IntWalk.i64_in _ (by omega)
  have hw3 : IntKind.i64.wrap 3 = 3 := IntWalk.i64_in _ (by omega)
  have hw4 : IntKind.i64.wrap 4 = 4 := IntWalk.i64_in _ (by omega)
  have hw5 : IntKind.i64.wrap 5 = 5 := IntWalk.i64_in _ (by omega)
  have hii : (i : Int) < (len : Int) := by omega
  have hi0 : (0 : Int) ≤ (i : Int) := by omega
  clear hK
  have HS := Lib.hid (show ∀ w' : World, Keep (fun _ => False) w w' → w'.cell? ⟨g, off + i * 3 + 1, none⟩ = some (.int .i64 who) ∧ w'.cell? ⟨g, off + i * 3 + 2, none⟩ = some (.int .i64 arb) from fun w' kw => ⟨(kw.cell (p := ⟨g, _, none⟩) HW.out.2.2 (fun e => e)).trans HW.out.1, (kw.cell (p := ⟨g, _, none⟩) HW.out.2.2 (fun e => e)).trans HW.out.2.1⟩)
  refine wp_region_held_drew (S := (fun w' => Keep (fun _ => False) w w')) (by kernel_rfl) ?_ (fun hHeld => ?_)
  · exact (Keep.refl _ w).drew
  refine wpAnyH_take (i := 0) (oi := { dst := some 81, op := Op.move (Operand.tmp 0), type := 42, pos := "law.go:61", after := #[], guard := none }) (v := .slice (some ⟨g, off, none⟩) len cap) rfl (by kernel_rfl) (by kernel_rfl) (by kernel_rfl) (fun _ _ _ h => hQ _ _ _ _ _ h) (Or.inl ⟨by rfl, ?_⟩) (by assumption) ?_
  · (intro w' hSw; (try dsimp only at hSw); go_simp)
  dsimp only
  refine wpAnyH_take (i := 1) (oi := { dst := some 82, op := Op.move (Operand.tmp 15), type := 3, pos := "law.go:61", after := #[], guard := none }) (v := .int .i64 (i : Int)) rfl (by kernel_rfl) (by kernel_rfl) (by kernel_rfl) (fun _ _ _ h => hQ _ _ _ _ _ h) (Or.inl ⟨by rfl, ?_⟩) (by assumption) ?_
  · (intro w' hSw; (try dsimp only at hSw); go_simp)
  dsimp only
  refine wpAnyH_take (i := 2) (oi := { dst := some 83, op := Op.indexAddr 42 (Operand.tmp 81) (Operand.tmp 82), type := 0, pos := "law.go:61", after := #[{ on := 0, ground := Ground.data }, { on := 1, ground := Ground.data }], guard := none }) (v := .pointer (some ⟨g, off + i * 3, none⟩)) rfl (by kernel_rfl) (by kernel_rfl) (by kernel_rfl) (fun _ _ _ h => hQ _ _ _ _ _ h) (Or.inl ⟨by rfl, ?_⟩) (by assumption) ?_
  · (intro w' hSw; (try dsimp only at hSw); go_simp)
  dsimp only
  refine wpAnyH_take (i := 3) (oi := { dst := some 84, op := Op.fieldAddr 52 (Operand.tmp 83) 1, type := 0, pos := "law.go:61", after := #[{ on := 2, ground := Ground.data }], guard := none }) (v := .pointer (some ⟨g, off + i * 3 + 1, none⟩)) rfl (by kernel_rfl) (by kernel_rfl) (by kernel_rfl) (fun _ _ _ h => hQ _ _ _ _ _ h) (Or.inl ⟨by rfl, ?_⟩) (by assumption) ?_
  · (intro w' hSw; (try dsimp only at hSw); go_simp)
  dsimp only
  refine wpAnyH_take (i := 4) (oi := { dst := some 85, op := Op.load 3 (Operand.tmp 84), type := 3, pos := "law.go:61", after := #[{ on := 3, ground := Ground.data }], guard := none }) (v := .int .i64 who) rfl (by kernel_rfl) (by kernel_rfl) (by kernel_rfl) (fun _ _ _ h => hQ _ _ _ _ _ h) (Or.inl ⟨by rfl, ?_⟩) (by assumption) ?_
  · (intro w' hSw; (try dsimp only at hSw); obtain ⟨x0, x1⟩ := HS.out w' hSw; go_simp)
  dsimp only
  refine wpAnyH_take (i := 5) (oi := { dst := some 86, op := Op.binOp BinOp.and 3 (Operand.tmp 85) (Operand.const (Value.int IntKind.i64 3)) 3, type := 3, pos := "law.go:61", after := #[{ on := 4, ground := Ground.data }], guard := none }) (v := .int .i64 (q : Int)) rfl (by kernel_rfl) (by kernel_rfl) (by kernel_rfl) (fun _ _ _ h => hQ _ _ _ _ _ h) (Or.inl ⟨by rfl, ?_⟩) (by assumption) ?_
  · (intro w' hSw; (try dsimp only at hSw); go_simp)
  dsimp only
  refine wpAnyH_take (i := 6) (oi := { dst := some 87, op := Op.move (Operand.tmp 0), type := 42, pos := "law.go:61", after := #[{ on := 14, ground := Ground.gcOnly Departure.lateStores }], guard := none }) (v := .slice (some ⟨g, off, none⟩) len cap) rfl (by kernel_rfl) (by kernel_rfl) (by kernel_rfl) (fun _ _ _ h => hQ _ _ _ _ _ h) (Or.inl ⟨by rfl, ?_⟩) (by assumption) ?_
  · (intro w' hSw; (try dsimp only at hSw); go_simp)
  dsimp only
  refine wpAnyH_take (i := 7) (oi := { dst := some 88, op := Op.move (Operand.tmp 15), type := 3, pos := "law.go:61", after := #[{ on := 14, ground := Ground.gcOnly Departure.lateStores }], guard := none }) (v := .int .i64 (i : Int)) rfl (by kernel_rfl) (by kernel_rfl) (by kernel_rfl) (fun _ _ _ h => hQ _ _ _ _ _ h) (Or.inl ⟨by rfl, ?_⟩) (by assumption) ?_
  · (intro w' hSw; (try dsimp only at hSw); go_simp)
  dsimp only
  refine wpAnyH_take (i := 8) (oi := { dst := some 89, op := Op.indexAddr 42 (Operand.tmp 87) (Operand.tmp 88), type := 0, pos := "law.go:61", after := #[{ on := 6, ground := Ground.data }, { on := 7, ground := Ground.data }, { on := 14, ground := Ground.gcOnly Departure.lateStores }], guard := none }) (v := .pointer (some ⟨g, off + i * 3, none⟩)) rfl (by kernel_rfl) (by kernel_rfl) (by kernel_rfl) (fun _ _ _ h => hQ _ _ _ _ _ h) (Or.inl ⟨by rfl, ?_⟩) (by assumption) ?_
  · (intro w' hSw; (try dsimp only at hSw); go_simp)
  dsimp only
  refine wpAnyH_take (i := 9) (oi := { dst := some 90, op := Op.fieldAddr 52 (Operand.tmp 89) 2, type := 0, pos := "law.go:61", after := #[{ on := 8, ground := Ground.data }, { on := 14, ground := Ground.gcOnly Departure.lateStores }], guard := none }) (v := .pointer (some ⟨g, off + i * 3 + 2, none⟩)) rfl (by kernel_rfl) (by kernel_rfl) (by kernel_rfl) (fun _ _ _ h => hQ _ _ _ _ _ h) (Or.inl ⟨by rfl, ?_⟩) (by assumption) ?_
  · (intro w' hSw; (try dsimp only at hSw); go_simp)
  dsimp only
  refine wpAnyH_take (i := 10) (oi := { dst := some 91, op := Op.load 3 (Operand.tmp 90), type := 3, pos := "law.go:61", after := #[{ on := 9, ground := Ground.data }, { on := 14, ground := Ground.gcOnly Departure.lateStores }], guard := none }) (v := .int .i64 arb) rfl (by kernel_rfl) (by kernel_rfl) (by kernel_rfl) (fun _ _ _ h => hQ _ _ _ _ _ h) (Or.inl ⟨by rfl, ?_⟩) (by assumption) ?_
  · (intro w' hSw; (try dsimp only at hSw); obtain ⟨x0, x1⟩ := HS.out w' hSw; go_simp)
  dsimp only
  refine wpAnyH_take (i := 11) (oi := { dst := some 92, op := Op.binOp BinOp.rem 3 (Operand.tmp 91) (Operand.const (Value.int IntKind.i64 3)) 3, type := 3, pos := "law.go:61", after := #[{ on := 10, ground := Ground.data }, { on := 14, ground := Ground.gcOnly Departure.lateStores }], guard := none }) (v := .int .i64 r) rfl (by kernel_rfl) (by kernel_rfl) (by kernel_rfl) (fun _ _ _ h => hQ _ _ _ _ _ h) (Or.inl ⟨by rfl, ?_⟩) (by assumption) ?_
  · (intro w' hSw; (try dsimp only at hSw); go_simp)
  dsimp only
  refine wpAnyH_take (i := 12) (oi := { dst := some 93, op := Op.binOp BinOp.add 3 (Operand.tmp 92) (Operand.const (Value.int IntKind.i64 3)) 3, type := 3, pos := "law.go:61", after := #[{ on := 11, ground := Ground.data }, { on := 14, ground := Ground.gcOnly Departure.lateStores }], guard := none }) (v := .int .i64 (r + 3)) rfl (by kernel_rfl) (by kernel_rfl) (by kernel_rfl) (fun _ _ _ h => hQ _ _ _ _ _ h) (Or.inl ⟨by rfl, ?_⟩) (by assumption) ?_
  · (intro w' hSw; (try dsimp only at hSw); rcases H5.out with ⟨rfl, rfl⟩ | ⟨rfl, rfl⟩ | ⟨rfl, rfl⟩ | ⟨rfl, rfl⟩ | ⟨rfl, rfl⟩ <;> go_simp)
  dsimp only
  refine wpAnyH_take (i := 13) (oi := { dst := some 94, op := Op.binOp BinOp.rem 3 (Operand.tmp 93) (Operand.const (Value.int IntKind.i64 3)) 3, type := 3, pos := "law.go:61", after := #[{ on := 12, ground := Ground.data }, { on := 14, ground := Ground.gcOnly Departure.lateStores }], guard := none }) (v := .int .i64 (a : Int)) rfl (by kernel_rfl) (by kernel_rfl) (by kernel_rfl) (fun _ _ _ h => hQ _ _ _ _ _ h) (Or.inl ⟨by rfl, ?_⟩) (by assumption) ?_
  · (intro w' hSw; (try dsimp only at hSw); rcases H5.out with ⟨rfl, rfl⟩ | ⟨rfl, rfl⟩ | ⟨rfl, rfl⟩ | ⟨rfl, rfl⟩ | ⟨rfl, rfl⟩ <;> go_simp)
  dsimp only
  refine wpAnyH_take (i := 14) (oi := { dst := some 16, op := Op.assign (Operand.tmp 86), type := 3, pos := "law.go:61", after := #[{ on := 5, ground := Ground.data }, { on := 0, ground := Ground.phase }, { on := 1, ground := Ground.phase }, { on := 2, ground := Ground.phase }, { on := 3, ground := Ground.phase }, { on := 4, ground := Ground.phase }, { on := 5, ground := Ground.phase }, { on := 6, ground := Ground.textOnly Departure.lateStores }, { on := 7, ground := Ground.textOnly Departure.lateStores }, { on := 8, ground := Ground.textOnly Departure.lateStores }, { on := 9, ground := Ground.textOnly Departure.lateStores }, { on := 10, ground := Ground.textOnly Departure.lateStores }, { on := 11, ground := Ground.textOnly Departure.lateStores }, { on := 12, ground := Ground.textOnly Departure.lateStores }, { on := 13, ground := Ground.textOnly Departure.lateStores }], guard := none }) (v := .int .i64 (q : Int)) rfl (by kernel_rfl) (by kernel_rfl) (by kernel_rfl) (fun _ _ _ h => hQ _ _ _ _ _ h) (Or.inl ⟨by rfl, ?_⟩) (by assumption) ?_
  · (intro w' hSw; (try dsimp only at hSw); go_simp)
  dsimp only
  refine wpAnyH_take (i := 15) (oi := { dst := some 17, op := Op.assign (Operand.tmp 94), type := 3, pos := "law.go:61", after := #[{ on := 13, ground := Ground.data }, { on := 14, ground := Ground.chain }, { on := 0, ground := Ground.phase }, { on := 1, ground := Ground.phase }, { on := 2, ground := Ground.phase }, { on := 3, ground := Ground.phase }, { on := 4, ground := Ground.phase }, { on := 5, ground := Ground.phase }, { on := 6, ground := Ground.phase }, { on := 7, ground := Ground.phase }, { on := 8, ground := Ground.phase }, { on := 9, ground := Ground.phase }, { on := 10, ground := Ground.phase }, { on := 11, ground := Ground.phase }, { on := 12, ground := Ground.phase }, { on := 13, ground := Ground.phase }, { on := 14, ground := Ground.phase }], guard := none }) (v := .int .i64 (a : Int)) rfl (by kernel_rfl) (by kernel_rfl) (by kernel_rfl) (fun _ _ _ h => hQ _ _ _ _ _ h) (Or.inl ⟨by rfl, ?_⟩) (by assumption) ?_
  · (intro w' hSw; (try dsimp only at hSw); go_simp)
  dsimp only
  refine wpAnyH_done (by kernel_rfl) ?_ _
  show K _ _
  rw [put_comm _ 94 16 _ _ (by decide), put_comm _ 94 17 _ _ (by decide), put_comm _ 93 16 _ _ (by decide), put_comm _ 93 17 _ _ (by decide), put_comm _ 92 16 _ _ (by decide), put_comm _ 92 17 _ _ (by decide), put_comm _ 91 16 _ _ (by decide), put_comm _ 91 17 _ _ (by decide), put_comm _ 90 16 _ _ (by decide), put_comm _ 90 17 _ _ (by decide), put_comm _ 89 16 _ _ (by decide), put_comm _ 89 17 _ _ (by decide), put_comm _ 88 16 _ _ (by decide), put_comm _ 88 17 _ _ (by decide), put_comm _ 87 16 _ _ (by decide), put_comm _ 87 17 _ _ (by decide), put_comm _ 86 16 _ _ (by decide), put_comm _ 86 17 _ _ (by decide), put_comm _ 85 16 _ _ (by decide), put_comm _ 85 17 _ _ (by decide), put_comm _ 84 16 _ _ (by decide), put_comm _ 84 17 _ _ (by decide), put_comm _ 83 16 _ _ (by decide), put_comm _ 83 17 _ _ (by decide), put_comm _ 82 16 _ _ (by decide), put_comm _ 82 17 _ _ (by decide), put_comm _ 81 16 _ _ (by decide), put_comm _ 81 17 _ _ (by decide)]
  exact HK.out _ _ _ _ _ _ _ _ _ _ _ _ _ _ _ (Keep.refl _ w).drew

end Go.Proofs.Ytppnjkiegiokeaa.QuoL
