/-
  Layer 6 (ring): the law RingLast, its first part: keys go to the front of one list, and of a slice.
-/
import Derived.Test.YtcllfdplbefaeaaRinT
namespace Go.Proofs.Ytcllfdplbefaeaa.RinU
set_option linter.unusedVariables false
set_option linter.unusedSimpArgs false
open Go.RowKit Go.Shelf Go.Proofs.Ytcllfdplbefaeaa.Mem Go.Proofs.Ytcllfdplbefaeaa.RinM Go.Proofs.Ytcllfdplbefaeaa.RinP Go.Proofs.Ytcllfdplbefaeaa.RinW Go.Proofs.Ytcllfdplbefaeaa.RinL Go.Proofs.Ytcllfdplbefaeaa.RinF Go.Proofs.Ytcllfdplbefaeaa.RinG Go.Proofs.Ytcllfdplbefaeaa.RinH Go.Proofs.Ytcllfdplbefaeaa.RinD Go.Proofs.Ytcllfdplbefaeaa.RinN Go.Proofs.Ytcllfdplbefaeaa.RinA Go.Proofs.Ytcllfdplbefaeaa.RinK Go.Proofs.Ytcllfdplbefaeaa.Mask Go.Proofs.Ytcllfdplbefaeaa.Open Go.Proofs.Ytcllfdplbefaeaa.RinT

theorem eq_bytes (y x : ByteArray) : (y.toList == x.toList) = decide (y = x) := by
  rw [Bool.eq_iff_iff, beq_iff_eq, decide_eq_true_iff, ByteArray.toList_eq, ByteArray.toList_eq]
  constructor
  · intro h
    cases y; cases x
    congr 1
    exact Array.ext' h
  · rintro rfl; rfl
theorem infoStr : (Try.prog.info? 9).map (fun i => (i.zero, i.size, i.bytes)) = some (some (.string ⟨#[]⟩), 1, 16) := by kernel_rfl
def strs (l : List ByteArray) : List Value := l.map fun x => .string x
/-- A key at the front of a list, once. -/
def nxt (x : ByteArray) (ls : List ByteArray) : List ByteArray := x :: ls.filter fun y => decide (y ≠ x)
theorem nxt_len (x : ByteArray) (ls : List ByteArray) : (nxt x ls).length ≤ ls.length + 1 := by
  unfold nxt
  have := List.length_filter_le (fun y => decide (y ≠ x)) ls
  simp only [List.length_cons]
  omega
theorem front_last (x : ByteArray) (ls : List ByteArray) (hx : x.size ≤ 64) (hl : ls.length ≤ 99) : frontK 1 100 0 x [ls] = ([nxt x ls], true) := by
  unfold frontK
  rw [if_neg (by omega)]
  by_cases h : hasK x [ls] = true
  · rw [if_pos h]; rfl
  · rw [if_neg h, if_neg (by simp; omega)]
    have h2 : ¬ x ∈ ls := fun e => h ((hasK_iff _ _).2 (by simpa using e))
    have h3 : ls.filter (fun y => decide (y ≠ x)) = ls := List.filter_eq_self.2 (fun y hy => by rw [decide_eq_true_iff]; rintro rfl; exact h2 hy)
    show ([x :: ls], true) = _
    unfold nxt
    rw [h3]
/-- What was taken of the first j. -/
def upto (x : ByteArray) (ls : List ByteArray) (j : Nat) : List ByteArray := nxt x (ls.take j)
theorem upto_skip (x : ByteArray) (ls : List ByteArray) (j : Nat) (h : ls[j]? = some x) : upto x ls (j + 1) = upto x ls j := by
  unfold upto nxt
  rw [List.take_add_one, h, List.filter_append]
  simp
theorem upto_put (x y : ByteArray) (ls : List ByteArray) (j : Nat) (h : ls[j]? = some y) (hne : y ≠ x) : upto x ls (j + 1) = upto x ls j ++ [y] := by
  unfold upto nxt
  rw [List.take_add_one, h, List.filter_append]
  simp [hne]
theorem row_strs {w : World} {v : Value} {l : List ByteArray} (h : w.ownsRow 0 TStr 1 v l.length (strs l)) : ∃ ao cap, v = .slice ao l.length cap ∧ (l = [] ∨ ∃ g, ao = some ⟨g, 0, none⟩ ∧ v.ownBlock = some g ∧ g < w.heap.size ∧ ∀ (i : Nat) (x : ByteArray), l[i]? = some x → w.cell? ⟨g, i, none⟩ = some (.string x)) := by
  rcases h.2 with ⟨rfl, h0⟩ | ⟨g, cap, cur, rfl, hb, hg, h1, h2, h3, ht⟩
  · have : l = [] := List.length_eq_zero_iff.1 h0
    subst this
    exact ⟨none, 0, rfl, .inl rfl⟩
  · refine ⟨_, cap, rfl, .inr ⟨g, rfl, rfl, lt_of_block hg, fun i x hx => ?_⟩⟩
    rw [cell_at hg]
    have q : (strs l)[i]? = some (.string x) := by unfold strs; rw [List.getElem?_map, hx]; rfl
    have hi := (List.getElem?_eq_some_iff.1 hx).1
    rw [← ht, List.getElem?_take, if_pos (by omega)] at q
    rw [← q]; simp

/-- What a round keeps: all that lay when the loop began, but two blocks. -/
theorem Kq.b {B : Nat} {p : Nat → Prop} {w : World} (hB : B ≤ w.heap.size) (W : World) (l : Nat) (o o' : Obj) (hl : w.heap.size ≤ l) (h : W.heap[l]? = some o) (_ : o.isCells = false) (_ : o.isWalk = false) : Keep (fun j => ¬ (j < B ∧ p j)) W (W.putObj l o') :=
  (Keep.refl _ W).grown (grownBy_putObj' W l o') (fun k e => .inl (by cases e; omega))
/-- Is what came the list's beginning? -/
def okB (ls pre : List ByteArray) : Bool := decide (pre = ls.take pre.length)
theorem okB_step (ls pre : List ByteArray) (x y : ByteArray) (h : ls[pre.length]? = some y) : okB ls (pre ++ [x]) = (okB ls pre && decide (y = x)) := by
  unfold okB
  rw [Bool.eq_iff_iff, Bool.and_eq_true, decide_eq_true_iff, decide_eq_true_iff, decide_eq_true_iff, List.length_append, List.length_cons, List.length_nil, List.take_add_one, h]
  constructor
  · intro e
    have := List.append_inj' e rfl
    exact ⟨this.1, by simpa using this.2.symm⟩
  · rintro ⟨e1, rfl⟩
    rw [← e1]; rfl
theorem okB_all (ls : List ByteArray) : okB ls ls = true := by unfold okB; simp
theorem round_close {W W5 : World} {s B : Nat} {ls pre : List ByteArray} {x : ByteArray} (ob : Bool) {u : Bool} (hc : W.cell? ⟨s, 0, none⟩ = some (.int .i64 (pre.length : Int))) (hf : W.frozen? ⟨s, 0, none⟩ = false) (hc2 : W.cell? ⟨s + 1, 0, none⟩ = some (.bool u)) (hf2 : W.frozen? ⟨s + 1, 0, none⟩ = false)
    (hk : Keep (fun j => j = s ∨ j = s + 1) W5 W) (hp : pre.length < ls.length) (hob : okB ls (pre ++ [x]) = ob) :
    KeepsOthers W ((W.setCell ⟨s + 1, 0, none⟩ (.bool ob)).setCell ⟨s, 0, none⟩ (.int .i64 ((pre.length : Int) + 1))) ∧ Keep (fun j => ¬ (j < B ∧ j ≠ s ∧ j ≠ s + 1)) W ((W.setCell ⟨s + 1, 0, none⟩ (.bool ob)).setCell ⟨s, 0, none⟩ (.int .i64 ((pre.length : Int) + 1))) ∧
      (((W.setCell ⟨s + 1, 0, none⟩ (.bool ob)).setCell ⟨s, 0, none⟩ (.int .i64 ((pre.length : Int) + 1))).cell? ⟨s, 0, none⟩ = some (.int .i64 ((pre ++ [x]).length : Int)) ∧ ((W.setCell ⟨s + 1, 0, none⟩ (.bool ob)).setCell ⟨s, 0, none⟩ (.int .i64 ((pre.length : Int) + 1))).frozen? ⟨s, 0, none⟩ = false) ∧
      (((W.setCell ⟨s + 1, 0, none⟩ (.bool ob)).setCell ⟨s, 0, none⟩ (.int .i64 ((pre.length : Int) + 1))).cell? ⟨s + 1, 0, none⟩ = some (.bool (okB ls (pre ++ [x]))) ∧ ((W.setCell ⟨s + 1, 0, none⟩ (.bool ob)).setCell ⟨s, 0, none⟩ (.int .i64 ((pre.length : Int) + 1))).frozen? ⟨s + 1, 0, none⟩ = false) ∧
      Keep (fun j => j = s ∨ j = s + 1) W5 ((W.setCell ⟨s + 1, 0, none⟩ (.bool ob)).setCell ⟨s, 0, none⟩ (.int .i64 ((pre.length : Int) + 1))) ∧ (pre ++ [x]).length ≤ ls.length := by
  have g1 : (W.setCell ⟨s + 1, 0, none⟩ (.bool ob)).cell? ⟨s, 0, none⟩ = some (.int .i64 (pre.length : Int)) := by
    rw [World.cell?_setCell_other _ _ _ _ (by intro e; injection e; omega)]; exact hc
  refine ⟨(KeepsOthers.setCell _ _ _).trans (KeepsOthers.setCell _ _ _), ((Keep.refl _ W).setCell (.inl (by simp)) _).setCell (.inl (by simp)) _, ⟨?_, ?_⟩, ⟨?_, ?_⟩, (hk.setCell (.inl (.inr rfl)) _).setCell (.inl (.inl rfl)) _, by rw [List.length_append, List.length_cons, List.length_nil]; omega⟩
  · rw [World.cell?_setCell_same' _ _ _ (by rw [g1]; rfl), List.length_append]; rfl
  · rw [World.frozen?_setCell, World.frozen?_setCell]; exact hf
  · rw [World.cell?_setCell_other _ _ _ _ (by intro e; injection e; omega), World.cell?_setCell_same' _ _ _ (by rw [hc2]; rfl), hob]
  · rw [World.frozen?_setCell, World.frozen?_setCell]; exact hf2
/-- The ring of one list, the same list in a slice that lies in a box. -/
structure LAt (w wr : World) (F : Nat → Prop) (b B T : Nat) (ls : List ByteArray) (v : Value) : Prop where
  ring : Ring wr F b 1 100 T [ls]
  box : wr.heap[B]? = some (.cells #[v] 22 (0, 0))
  row : wr.ownsRow 0 TStr 1 v ls.length (strs ls)
  nB : ¬ F B
  nv : ∀ i, v.ownBlock = some i → ¬ F i ∧ i ≠ B ∧ w.heap.size ≤ i
  hF : ∀ i, F i → w.heap.size ≤ i
  hB : w.heap.size ≤ B
  keep : Keep (fun _ => False) w wr
theorem LAt.keep0 {w wr wq : World} {F : Nat → Prop} {b B T : Nat} {ls : List ByteArray} {v : Value} (h : LAt w wr F b B T ls v) (k : Keep (fun _ => False) wr wq) : LAt w wq F b B T ls v :=
  ⟨h.ring.keep0 k, (k.block B (lt_of_block h.box) (fun e => e)).trans h.box, owns_keep h.row k (fun _ _ e => e), h.nB, h.nv, h.hF, h.hB, h.keep.trans k⟩

end Go.Proofs.Ytcllfdplbefaeaa.RinU
