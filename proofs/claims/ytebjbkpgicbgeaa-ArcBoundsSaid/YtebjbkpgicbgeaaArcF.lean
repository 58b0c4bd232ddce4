/-
  Layer 7 (arc): texts of a slice; what stays of a list when some go (plain law of ArcKeeps).
-/
import Derived.Test.YtebjbkpgicbgeaaArcO
import Derived.Test.YtebjbkpgicbgeaaMask
import Derived.Test.YtebjbkpgicbgeaaOpen
namespace Go.Proofs.Ytebjbkpgicbgeaa.ArcF
set_option linter.unusedVariables false
set_option linter.unusedSimpArgs false
set_option maxRecDepth 100000
open Go.RowKit Go.Proofs.Ytebjbkpgicbgeaa.Mem Go.Proofs.Ytebjbkpgicbgeaa.RinM Go.Proofs.Ytebjbkpgicbgeaa.RinP Go.Proofs.Ytebjbkpgicbgeaa.RinG Go.Proofs.Ytebjbkpgicbgeaa.ArcP Go.Proofs.Ytebjbkpgicbgeaa.ArcK Go.Proofs.Ytebjbkpgicbgeaa.ArcQ Go.Proofs.Ytebjbkpgicbgeaa.ArcW Go.Proofs.Ytebjbkpgicbgeaa.ArcV Go.Proofs.Ytebjbkpgicbgeaa.ArcU Go.Proofs.Ytebjbkpgicbgeaa.ArcO Go.Proofs.Ytebjbkpgicbgeaa.Mask Go.Proofs.Ytebjbkpgicbgeaa.Open

def fewS (s : ByteArray) : ByteArray := if 80 < s.size then s.extract 0 80 else s
theorem fewS_le (s : ByteArray) : (fewS s).size ≤ 80 := by
  unfold fewS
  split
  · simp; omega
  · omega
theorem few_any (s : ByteArray) (hs : s.size ≤ 9223372036854775807) (w : World) :
    Calls Try.prog 11 #[.string s] w fun e w' => e = .returned (.string (fewS s)) ∧ w = w' := by
  unfold fewS
  by_cases h : 80 < s.size
  · rw [if_pos h]
    have h' : (80 : Int) < (s.size : Int) := by omega
    go_enter Try.func11, Try.ntmps11
    go_wp2_with fail
    go_ret
    exact ⟨rfl, rfl⟩
  · rw [if_neg h]
    have h' : ¬ (80 : Int) < (s.size : Int) := by omega
    go_enter Try.func11, Try.ntmps11
    go_wp2_with fail
    go_ret
    exact ⟨rfl, rfl⟩

theorem eq_bytes (y x : ByteArray) : (y.toList == x.toList) = decide (y = x) := by
  rw [Bool.eq_iff_iff, beq_iff_eq, decide_eq_true_iff, ByteArray.toList_eq, ByteArray.toList_eq]
  constructor
  · intro h
    cases y; cases x
    congr 1
    exact Array.ext' h
  · rintro rfl; rfl
theorem infoStr : (Try.prog.info? 9).map (fun i => (i.zero, i.size, i.bytes)) = some (some (.string ⟨#[]⟩), 1, 16) := by kernel_rfl
def strs (l : List ByteArray) : List Value := l.map fun x => .string x
theorem row_strs {w : World} {v : Value} {l : List ByteArray} (h : w.ownsRow 0 TStr 1 v l.length (strs l)) : ∃ ao cap, v = .slice ao l.length cap ∧ (l = [] ∨ ∃ g, ao = some ⟨g, 0, none⟩ ∧ v.ownBlock = some g ∧ g < w.heap.size ∧ ∀ (i : Nat) (x : ByteArray), l[i]? = some x → w.cell? ⟨g, i, none⟩ = some (.string x)) := by
  rcases h.2 with ⟨rfl, h0⟩ | ⟨g, cap, cur, rfl, hb, hg, h1, h2, h3, ht⟩
  · have : l = [] := List.length_eq_zero_iff.1 h0
    subst this
    exact ⟨none, 0, rfl, .inl rfl⟩
  · refine ⟨_, cap, rfl, .inr ⟨g, rfl, rfl, lt_of_block hg, fun i x hx => ?_⟩⟩
    rw [cell_at hg]
    have q : (strs l)[i]? = some (.string x) := by unfold strs; rw [List.getElem?_map, hx]; rfl
    have hi := (List.getElem?_eq_some_iff.1 hx).1
    rw [← ht, List.getElem?_take, if_pos (by omega)] at q
    rw [← q]; simp

theorem texts_form {W : World} {v : Value} {zs : List ByteArray} (h : Texts W v zs) :
    ∃ ao cap, v = .slice ao zs.length cap ∧ zs.length ≤ 9223372036854775807 ∧ (zs = [] ∨ ∃ g off, ao = some ⟨g, off, none⟩ ∧ g < W.heap.size ∧ ∀ (i : Nat) (z : ByteArray), zs[i]? = some z → W.cell? ⟨g, off + i, none⟩ = some (.string z)) := by
  obtain ⟨⟨ao, cap, h1, h2, h3, h4⟩, h5⟩ := h
  rw [List.length_map] at h1 h2
  refine ⟨ao, cap, h1, h2, ?_⟩
  rcases h4 with h4 | ⟨g, off, h6, h7, h8⟩
  · exact .inl (by simpa using h4)
  · refine .inr ⟨g, off, h6, h7, fun i z hz => ?_⟩
    have := h8 i [.string z] (by rw [List.getElem?_map, hz]; rfl) 0 (.string z) rfl
    simpa using this

/-- Does a key stay, where x comes and o goes? -/
def stays (x : ByteArray) (o : Option ByteArray) (y : ByteArray) : Bool := decide (y ≠ x) && decide (o ≠ some y)
def nxt (x : ByteArray) (o : Option ByteArray) (ls : List ByteArray) : List ByteArray := x :: ls.filter (stays x o)
theorem nxt_len (x : ByteArray) (o : Option ByteArray) (ls : List ByteArray) : (nxt x o ls).length ≤ ls.length + 1 := by
  unfold nxt
  have := List.length_filter_le (stays x o) ls
  simp only [List.length_cons]
  omega
def upto (x : ByteArray) (o : Option ByteArray) (ls : List ByteArray) (j : Nat) : List ByteArray := nxt x o (ls.take j)
theorem upto_skip (x y : ByteArray) (o : Option ByteArray) (ls : List ByteArray) (j : Nat) (h : ls[j]? = some y) (hs : stays x o y = false) : upto x o ls (j + 1) = upto x o ls j := by
  unfold upto nxt
  rw [List.take_add_one, h, List.filter_append]
  simp [hs]
theorem upto_put (x y : ByteArray) (o : Option ByteArray) (ls : List ByteArray) (j : Nat) (h : ls[j]? = some y) (hs : stays x o y = true) : upto x o ls (j + 1) = upto x o ls j ++ [y] := by
  unfold upto nxt
  rw [List.take_add_one, h, List.filter_append]
  simp [hs]
theorem keeps_law {c : Nat} {x : ByteArray} {s : Ac} {ls : List ByteArray} (h : AInv c s) (hp : ls.Perm (s.A ++ s.B)) (hx : x.size ≤ 64) :
    (nxt x (ins c x s).2 ls).Perm ((ins c x s).1.A ++ (ins c x s).1.B) := by
  obtain ⟨-, h2⟩ := ins_inv (x := x) h
  obtain ⟨R, r1, r2⟩ := h2 hx
  obtain ⟨nA, nB, nC, nD, pA, pB, pC, pD⟩ := parts h.nd
  have hn : (s.A ++ s.B).Nodup := by
    rw [List.nodup_append]
    exact ⟨nA, nB, fun a ha b hb e => (pA a ha).1 (by rw [e]; exact hb)⟩
  refine List.Perm.trans ?_ r1.symm
  unfold nxt
  refine List.Perm.cons x ?_
  have e1 : (ls.filter (stays x (ins c x s).2)).Perm ((s.A ++ s.B).filter (stays x (ins c x s).2)) := hp.filter _
  refine e1.trans ?_
  have e2 : (s.A ++ s.B).filter (stays x (ins c x s).2) = (rm x (s.A ++ s.B)).filter (fun y => decide ((ins c x s).2 ≠ some y)) := by
    unfold rm
    rw [List.filter_filter]
    apply List.filter_congr
    intro y _
    unfold stays
    rw [Bool.and_comm]
  rw [e2]
  generalize (ins c x s).2 = o at *
  have hn2 : (rm x (s.A ++ s.B)).Nodup := hn.filter _
  refine (r2.filter (fun y => decide (o ≠ some y))).symm.trans ?_
  have hn3 := r2.nodup_iff.2 hn2
  have hR : R.filter (fun y => decide (o ≠ some y)) = R := by
    refine List.filter_eq_self.2 fun y hy => ?_
    cases o with
    | none => simp
    | some k =>
      rw [decide_eq_true_iff]
      intro e
      injection e with e
      subst e
      exact (List.nodup_cons.1 hn3).1 hy
  rw [List.filter_append, hR]
  cases o with
  | none => exact List.Perm.refl _
  | some k => simp [optL]

/-- A policy, and the texts in a row. -/
def KAt (w wr : World) (ab b c T : Nat) (s : Ac) (v : Value) (ls : List ByteArray) : Prop := ∃ F, ArcAt wr F ab b c T s ∧ (∀ i, F i → w.heap.size ≤ i) ∧ w.heap.size ≤ ab ∧ Keep (fun _ => False) w wr ∧ wr.ownsRow 0 TStr 1 v ls.length (strs ls) ∧ ∀ g, v.ownBlock = some g → w.heap.size ≤ g ∧ ¬ F g ∧ g ≠ ab
section
variable {w wr : World} {ab b c T : Nat} {s : Ac} {v : Value} {ls : List ByteArray}
theorem KAt.own (h : KAt w wr ab b c T s v ls) : Own w wr ab b c T s := by
  obtain ⟨F, h1, h2, h3, h4, -⟩ := h
  exact ⟨F, h1, h2, h3, h4⟩
theorem KAt.row (h : KAt w wr ab b c T s v ls) : wr.ownsRow 0 TStr 1 v ls.length (strs ls) := by
  obtain ⟨F, h1, h2, h3, h4, h5, h6⟩ := h
  exact h5
theorem KAt.keep0 {w2 : World} (h : KAt w wr ab b c T s v ls) (k : Keep (fun _ => False) wr w2) : KAt w w2 ab b c T s v ls := by
  obtain ⟨F, h1, h2, h3, h4, h5, h6⟩ := h
  exact ⟨F, h1.keep0 k, h2, h3, h4.trans k, owns_keep h5 k (fun _ _ e => e), h6⟩
theorem KAt.turn {w2 : World} {v' : Value} {ls' : List ByteArray} (h : KAt w wr ab b c T s v ls) (k : Keep (fun _ => False) wr w2) (r : w2.ownsRow 0 TStr 1 v' ls'.length (strs ls')) (hn : ∀ g, v'.ownBlock = some g → wr.heap.size ≤ g) : KAt w w2 ab b c T s v' ls' := by
  obtain ⟨F, h1, h2, h3, h4, h5, h6⟩ := h
  refine ⟨F, h1.keep0 k, h2, h3, h4.trans k, r, fun g e => ⟨Nat.le_trans h4.size (hn g e), fun f => ?_, ?_⟩⟩
  · have := h1.hF g f
    have := hn g e
    omega
  · have := lt_of_block h1.h
    have := hn g e
    omega
theorem kat_insert (h : KAt w wr ab b c T s v ls) (hT : T ≤ 100000) (x : ByteArray) (hx : x.size ≤ 9223372036854775807) :
    Calls Try.prog 12 #[.pointer (some ⟨ab, 0, none⟩), .string x] wr fun e w2 => ∃ vo, e = .returned vo ∧ OutV w2 vo (ins c x s).2 wr.heap.size ∧ KAt w w2 ab b c (T + 2) (ins c x s).1 v ls := by
  obtain ⟨F, h1, h2, h3, h4, h5, h6⟩ := h
  refine (insert_at h1 hT x hx).mono ?_
  rintro e w2 ⟨vo, he, ho, F', g1, g2, g3⟩
  refine ⟨vo, he, ho, F', g1, fun i e => ?_, h3, h4.then g3 (fun i e => ?_), owns_keep h5 g3 (fun q e f => ?_), fun g e => ⟨(h6 g e).1, fun f => ?_, (h6 g e).2.2⟩⟩
  · rcases g2 i e with e | e
    · exact h2 i e
    · exact Nat.le_trans h4.size e
  · rcases e with e | e
    · exact h2 i e
    · omega
  · rcases f with f | f
    · exact (h6 q e).2.1 f
    · exact (h6 q e).2.2 f
  · rcases g2 g f with f | f
    · exact (h6 g e).2.1 f
    · rcases h5.2 with ⟨h7, -⟩ | ⟨q, cap, cur, hv, -, hg, -⟩
      · rw [h7] at e; cases e
      · rw [hv] at e
        have : q = g := by simpa [Value.ownBlock] using e
        subst this
        have := lt_of_block hg
        omega
theorem kat_len (h : KAt w wr ab b c T s v ls) (hp : ls.Perm (s.A ++ s.B)) :
    Calls Try.prog 13 #[.pointer (some ⟨ab, 0, none⟩)] wr fun e w2 => e = .returned (.int .i64 (ls.length : Int)) ∧ KAt w w2 ab b c T s v ls := by
  have h' := h
  obtain ⟨F, h1, -⟩ := h'
  refine (len_at h1).mono ?_
  rintro e w2 ⟨he, m, rfl⟩
  refine ⟨?_, h.keep0 ((Keep.refl _ wr).drewN m)⟩
  rw [he, hp.length_eq, List.length_append]
  rfl
theorem kat_has (h : KAt w wr ab b c T s v ls) (hp : ls.Perm (s.A ++ s.B)) (y : ByteArray) (hy : y ∈ ls) :
    Calls Try.prog 14 #[.pointer (some ⟨ab, 0, none⟩), .string y] wr fun e w2 => e = .returned (.bool true) ∧ wr = w2 := by
  obtain ⟨F, h1, -⟩ := h
  have hm := List.mem_append.1 (hp.mem_iff.1 hy)
  have hsz : y.size ≤ 64 := h1.i.sm y (mem_all.2 (hm.elim .inl (fun e => .inr (.inl e))))
  refine (has_at h1 y (by omega)).mono ?_
  rintro e w2 ⟨he, rfl⟩
  refine ⟨?_, rfl⟩
  have : (isIn y s.A || isIn y s.B) = true := by rw [Bool.or_eq_true, isIn_iff, isIn_iff]; exact hm
  rw [he, this]
end

end Go.Proofs.Ytebjbkpgicbgeaa.ArcF
