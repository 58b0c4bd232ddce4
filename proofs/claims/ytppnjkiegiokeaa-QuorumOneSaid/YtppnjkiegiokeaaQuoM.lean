/-
  Layer 17 (quorum): QuorumOne: a record is taken out and laid back (regions 23, 51), at whatever frame.
-/
import Derived.Test.YtppnjkiegiokeaaQuoK
import Derived.Deep.DeepCutAuto
namespace Go.Proofs.Ytppnjkiegiokeaa.QuoM
set_option linter.unusedVariables false
set_option linter.unusedSimpArgs false
set_option maxRecDepth 100000
open Go.RowKit Go.Proofs.Ytppnjkiegiokeaa.Mem Go.Proofs.Ytppnjkiegiokeaa.QuoW Go.Proofs.Ytppnjkiegiokeaa.QuoV Go.Proofs.Ytppnjkiegiokeaa.QuoU Go.Proofs.Ytppnjkiegiokeaa.QuoR Go.Proofs.Ytppnjkiegiokeaa.QuoS Go.Proofs.Ytppnjkiegiokeaa.QuoX Go.Proofs.Ytppnjkiegiokeaa.QuoC Go.Proofs.Ytppnjkiegiokeaa.QuoF Go.Proofs.Ytppnjkiegiokeaa.QuoH Go.Proofs.Ytppnjkiegiokeaa.QuoI Go.Proofs.Ytppnjkiegiokeaa.QuoK
theorem put_at : ∀ (vs : List Value) (cs : Array Value) (o j : Nat), o + vs.length ≤ cs.size → (put cs o vs)[j]? = if o ≤ j ∧ j < o + vs.length then vs[j - o]? else cs[j]?
  | [], cs, o, j, h => by
    rw [if_neg (fun hh => by have h1 := hh.1; have h2 := hh.2; rw [List.length_nil] at h2; omega)]
    rfl
  | v :: r, cs, o, j, h => by
    have ih := put_at r (cs.setIfInBounds o v) (o + 1) j (by simp at h ⊢; omega)
    show (put (cs.setIfInBounds o v) (o + 1) r)[j]? = _
    rw [ih, List.length_cons, Array.getElem?_setIfInBounds]
    by_cases e : o = j
    · subst e
      rw [if_neg (by omega), if_pos rfl, if_pos (by simp at h; omega), if_pos (by omega), Nat.sub_self]
      rfl
    · rw [if_neg e]
      by_cases e2 : o + 1 ≤ j ∧ j < o + 1 + r.length
      · rw [if_pos e2, if_pos (by omega), show j - o = (j - (o + 1)) + 1 from by omega]
        rfl
      · rw [if_neg e2, if_neg (by omega)]
theorem put_size : ∀ (vs : List Value) (cs : Array Value) (o : Nat), (put cs o vs).size = cs.size
  | [], cs, o => rfl
  | v :: r, cs, o => by show (put (cs.setIfInBounds o v) (o + 1) r).size = _; rw [put_size]; simp
theorem put_all84 (pb : Nat → Nat) (T : Nat → One) (q : Nat) (hq : q < 4) (x : One) : put (allRow pb T) (q * 21) (One.row (pb q) x).toList = allRow pb (upd T q x) := by
  refine allRow_put pb T q hq x _ (by rw [put_size, allRow_size]) (fun j hj => ?_)
  have hl : (One.row (pb q) x).toList.length = 21 := rfl
  rw [put_at _ _ _ _ (by rw [hl, allRow_size]; omega), hl]
  by_cases e : q * 21 ≤ j ∧ j < q * 21 + 21
  · rw [if_pos e, if_pos e, Array.getElem?_toList]
  · rw [if_neg e, if_neg e]
theorem infoOne : (Try.prog.info? TOne).map (·.size) = some 21 := by kernel_rfl
theorem zero49 (w : World) : (zeroValue TOne).run Try.prog w = .ok (.agg zr) w := by kernel_rfl
theorem oneRow (p : Nat) (x : One) : (One.row p x).all (·.oneCell') = true := by simp [One.row, Value.oneCell']
theorem load_one {w : World} {b o p : Nat} {x : One} (h : ∀ j, j < 21 → w.cell? ⟨b, o + j, none⟩ = (One.row p x)[j]?) : (Instr.loadAt TOne (.pointer (some ⟨b, o, none⟩))).run Try.prog w = .ok (.agg (One.row p x)) w := by
  have h1 : (loadVar TOne ⟨b, o, none⟩).run Try.prog w = .ok (.agg (One.row p x)) w := run_loadVar_mid (P := Try.prog) w b o TOne (One.row p x).toList _ (fun j v hj => by
    have hl : j < 21 := (List.getElem?_eq_some_iff.1 hj).1
    rw [h j hl, ← hj, Array.getElem?_toList]) Try.underlying49 rfl infoOne
  rw [QuoT.loadAt_ptr, h1]
attribute [-go_sem] Act.eval Act.put Instr.storeAt Instr.loadAt loadVar
attribute [local go_sem] BigFrame.eval_const BigFrame.eval_global BigFrame.eval_func
theorem sz_put (A : Act) (d : Nat) (v : Value) : (A.put (some d) v).tmps.size = A.tmps.size := by simp [Act.put]
theorem put_none (A : Act) (v : Value) : A.put none v = A := rfl
theorem ev_same (A : Act) (i : Nat) (v : Value) (h : i < A.tmps.size) : (A.put (some i) v).eval (.tmp i) = v := by
  simp [Act.put, Act.eval, Array.getD_eq_getD_getElem?, Array.getElem?_setIfInBounds, h]
theorem ev_ne (A : Act) (i j : Nat) (v : Value) (h : i ≠ j) : (A.put (some i) v).eval (.tmp j) = A.eval (.tmp j) := by
  simp [Act.put, Act.eval, Array.getD_eq_getD_getElem?, Array.getElem?_setIfInBounds, h]
theorem put_comm (A : Act) (i j : Nat) (u v : Value) (h : j < i) : (A.put (some i) u).put (some j) v = (A.put (some j) v).put (some i) u := by
  simp only [Act.put]
  rw [Array.setIfInBounds_comm _ _ (by omega)]
attribute [local go_sem] sz_put put_none ev_same ev_ne
set_option maxHeartbeats 8000000 in
theorem reg23 (A : Act) (hA : A.tmps.size = 229) (XA q : Nat) (pb : Nat → Nat) (T : Nat → One) (h16 : A.eval (.tmp 16) = .int .i64 (q : Int)) (h9 : A.eval (.tmp 9) = .pointer (some ⟨XA, 0, none⟩)) (hq : q < 4) (K : Act → World → Prop) (Q : Exit → Act → World → Prop) (w : World) (h : w.heap[XA]? = some (.cells (allRow pb T) T50 (0, 0)))
    (hK : ∀ (v95 v96 v97 : Value) (W' : World), Keep (fun _ => False) w W' → OAt W' w.heap.size (pb q) (T q) → K ((((A.put (some 18) (.pointer (some ⟨w.heap.size, 0, none⟩))).put (some 95) v95).put (some 96) v96).put (some 97) v97) W') :
    Code.wp Try.prog (Code.region 23 #[{ dst := some 95, op := Op.move (Operand.tmp 16), type := 3, pos := "law.go:62", after := #[], guard := none }, { dst := some 96, op := Op.indexAddr 50 (Operand.tmp 9) (Operand.tmp 95), type := 0, pos := "law.go:62", after := #[{ on := 0, ground := Ground.data }], guard := none }, { dst := some 97, op := Op.load 49 (Operand.tmp 96), type := 49, pos := "law.go:62", after := #[{ on := 1, ground := Ground.data }], guard := none }, { dst := some 18, op := Op.alloc 49, type := 0, pos := "law.go:62", after := #[], guard := none }, { dst := none, op := Op.store 49 (Operand.tmp 18) (Operand.tmp 97), type := 0, pos := "law.go:62", after := #[{ on := 3, ground := Ground.data }, { on := 2, ground := Ground.data }, { on := 0, ground := Ground.phase }, { on := 1, ground := Ground.phase }, { on := 2, ground := Ground.phase }, { on := 3, ground := Ground.phase }], guard := none }] false) (Exit.then K Q) A w := by
  have HK := Lib.hid hK
  have hz := zero49
  have hq4 : (q : Int) < 4 := by omega
  have hq0 : (0 : Int) ≤ (q : Int) := by omega
  have ld := load_one (w := w) (b := XA) (o := q * 21) (p := pb q) (x := T q) (fun j hj => by rw [cell_at h]; exact allRow_at pb T q hq j hj)
  have ha := block_new w (.cells zr TOne)
  have st := run_storeAt_mid (P := Try.prog) (w.alloc (.cells zr TOne)) w.heap.size 0 TOne (One.row (pb q) (T q)) (there_block ha 0 21 (by show 0 + 21 ≤ 21; omega)) infoOne (oneRow _ _)
  have HA := Lib.hid ha
  clear hK ha h hq
  go_wp2_with fail
  show K _ _
  rw [put_comm _ 97 18 _ _ (by decide), put_comm _ 96 18 _ _ (by decide), put_comm _ 95 18 _ _ (by decide)]
  refine HK.out _ _ _ _ (Keep.setCells (.inr (Nat.le_refl _)) _ _ _ ((Keep.refl _ w).alloc _)) ?_
  show _ = _
  rw [block_setCells _ _ _ 0 HA.out, put_row zr (One.row (pb q) (T q)) rfl]
set_option maxHeartbeats 8000000 in
theorem reg51 (A : Act) (hA : A.tmps.size = 229) (XA X q : Nat) (pb : Nat → Nat) (T : Nat → One) (x : One) (h16 : A.eval (.tmp 16) = .int .i64 (q : Int)) (h9 : A.eval (.tmp 9) = .pointer (some ⟨XA, 0, none⟩)) (h18 : A.eval (.tmp 18) = .pointer (some ⟨X, 0, none⟩)) (hq : q < 4) (Q0 : Exit → Act → World → Prop) (w : World) (h : w.heap[XA]? = some (.cells (allRow pb T) T50 (0, 0))) (hX : OAt w X (pb q) x)
    (hK : ∀ (v225 v226 v227 : Value) (W' : World), Keep (fun j => j = XA) w W' → W'.heap[XA]? = some (.cells (allRow pb (upd T q x)) T50 (0, 0)) → Q0 .normal (((A.put (some 225) v225).put (some 226) v226).put (some 227) v227) W') :
    Code.wp Try.prog (Code.region 51 #[{ dst := some 225, op := Op.move (Operand.tmp 16), type := 3, pos := "law.go:102", after := #[], guard := none }, { dst := some 226, op := Op.load 49 (Operand.tmp 18), type := 49, pos := "law.go:102", after := #[], guard := none }, { dst := some 227, op := Op.indexAddr 50 (Operand.tmp 9) (Operand.tmp 225), type := 0, pos := "law.go:102", after := #[{ on := 0, ground := Ground.data }, { on := 0, ground := Ground.phase }, { on := 1, ground := Ground.phase }], guard := none }, { dst := none, op := Op.store 49 (Operand.tmp 227) (Operand.tmp 226), type := 0, pos := "law.go:102", after := #[{ on := 2, ground := Ground.data }, { on := 1, ground := Ground.data }, { on := 0, ground := Ground.phase }, { on := 1, ground := Ground.phase }], guard := none }] false) Q0 A w := by
  have HK := Lib.hid hK
  have hq4 : (q : Int) < 4 := by omega
  have hq0 : (0 : Int) ≤ (q : Int) := by omega
  have ld := load_one (w := w) (b := X) (o := 0) (p := pb q) (x := x) (fun j hj => by rw [Nat.zero_add, cell_at hX])
  have st := run_storeAt_mid (P := Try.prog) w XA (q * 21) TOne (One.row (pb q) x) (there_block h (q * 21) 21 (by rw [allRow_size]; omega)) infoOne (oneRow _ _)
  have HA := Lib.hid h
  have HQ := Lib.hid hq
  clear hK h hq hX
  go_wp2_with fail
  show Q0 .normal _ _
  refine HK.out _ _ _ _ (Keep.setCells (S := fun j => j = XA) (.inl rfl) _ _ _ (Keep.refl _ w)) ?_
  rw [block_setCells _ _ _ _ HA.out, put_all84 _ _ _ HQ.out]

end Go.Proofs.Ytppnjkiegiokeaa.QuoM
