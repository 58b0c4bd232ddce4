/-
  Layer 7 (arc): Lists.
-/
import Derived.Test.YtebjbkpgicbgeaaArcE
import Derived.Test.YtebjbkpgicbgeaaRinK
import Derived.RangeFuncBox
import Derived.Deep.AppendLies
import Derived.StillTailTactics
namespace Go.Proofs.Ytebjbkpgicbgeaa.ArcL
set_option linter.unusedVariables false
set_option linter.unusedSimpArgs false
set_option maxRecDepth 100000
open Go.RowKit Go.Shelf Go.Proofs.Ytebjbkpgicbgeaa.Mem Go.Proofs.Ytebjbkpgicbgeaa.RinM Go.Proofs.Ytebjbkpgicbgeaa.RinP Go.Proofs.Ytebjbkpgicbgeaa.RinW Go.Proofs.Ytebjbkpgicbgeaa.RinL Go.Proofs.Ytebjbkpgicbgeaa.RinF Go.Proofs.Ytebjbkpgicbgeaa.RinG Go.Proofs.Ytebjbkpgicbgeaa.RinH Go.Proofs.Ytebjbkpgicbgeaa.RinD Go.Proofs.Ytebjbkpgicbgeaa.RinN Go.Proofs.Ytebjbkpgicbgeaa.RinK Go.Proofs.Ytebjbkpgicbgeaa.ArcP Go.Proofs.Ytebjbkpgicbgeaa.ArcQ Go.Proofs.Ytebjbkpgicbgeaa.ArcW Go.Proofs.Ytebjbkpgicbgeaa.ArcV Go.Proofs.Ytebjbkpgicbgeaa.ArcU Go.Proofs.Ytebjbkpgicbgeaa.ArcO Go.Proofs.Ytebjbkpgicbgeaa.ArcF Go.Proofs.Ytebjbkpgicbgeaa.ArcE Go.Proofs.Ytebjbkpgicbgeaa.Mask Go.Proofs.Ytebjbkpgicbgeaa.Open
attribute [local go_sem] Oper.semAt_some
attribute [-go_sem] Builtin.append_

theorem keys_call (o : Option Addr) (i : Int) (w : World) : Calls Try.prog 34 #[.pointer o, .int .i64 i] w fun e w' => e = .returned (.func (.func 50) #[] #[.pointer (some ⟨w.heap.size, 0, none⟩), .pointer (some ⟨w.heap.size + 1, 0, none⟩)]) ∧ w' = (w.alloc (.cells #[.pointer o] 54)).alloc (.cells #[.int .i64 i] 3) := by
  go_enter Try.func34, Try.ntmps34
  go_wp2_with fail
  go_ret
  exact ⟨rfl, rfl⟩

abbrev TArr : TypeId := 40
def arr (V : Nat → Value) : Array Value := #[V 0, V 1, V 2, V 3]
theorem arr_get (V : Nat → Value) (i : Nat) (h : i < 4) : (arr V)[i]? = some (V i) := by
  have : i = 0 ∨ i = 1 ∨ i = 2 ∨ i = 3 := by omega
  rcases this with rfl | rfl | rfl | rfl <;> rfl
theorem arr_set (V : Nat → Value) (i : Nat) (h : i < 4) (v : Value) : (arr V).setIfInBounds i v = arr (fun j => if j = i then v else V j) := by
  have : i = 0 ∨ i = 1 ∨ i = 2 ∨ i = 3 := by omega
  rcases this with rfl | rfl | rfl | rfl <;> rfl
/-- The four lists, in one block. -/
structure Rows4 (W : World) (B ob : Nat) (V : Nat → Value) (L : Nat → List ByteArray) : Prop where
  h : W.heap[ob]? = some (.cells (arr V) TArr (0, 0))
  r : ∀ j, j < 4 → W.ownsRow 0 TStr 1 (V j) (L j).length (strs (L j))
  n : ∀ j, j < 4 → ∀ g, (V j).ownBlock = some g → B ≤ g ∧ g ≠ ob
def lst (s : Ac) (j : Nat) : List ByteArray := (keys s).getD j []
def part (s : Ac) (i j : Nat) : List ByteArray := if j < i then lst s j else []

/-- What a round keeps: all that lay when the loop began, but the lists. -/
theorem Kq.b {B : Nat} {p : Nat → Prop} {w : World} (hB : B ≤ w.heap.size) (W : World) (l : Nat) (o o' : Obj) (hl : w.heap.size ≤ l) (h : W.heap[l]? = some o) (_ : o.isCells = false) (_ : o.isWalk = false) : Keep (fun j => ¬ (j < B ∧ p j)) W (W.putObj l o') :=
  (Keep.refl _ W).grown (grownBy_putObj' W l o') (fun k e => .inl (by cases e; omega))
def upd (V : Nat → Value) (i : Nat) (v : Value) : Nat → Value := fun j => if j = i then v else V j
/-- In the midst of a list: so much has come. -/
def Mid (W5 : World) (ob i : Nat) (V : Nat → Value) (ls pre : List ByteArray) (W : World) : Prop :=
  ∃ v, W.heap[ob]? = some (.cells (arr (upd V i v)) TArr (0, 0)) ∧ W.ownsRow 0 TStr 1 v pre.length (strs pre) ∧ (∀ g, v.ownBlock = some g → W5.heap.size ≤ g) ∧ Keep (fun j => j = ob) W5 W ∧ pre.length ≤ ls.length
theorem own_row {W W' : World} {row : Option Nat} {v : Value} {n : Nat} {xs : List Value} (h : W.ownsRow 0 TStr 1 v n xs) (hg : W.grownBy W' row) (hr : ∀ r, row = some r → ∃ o : Obj, W.heap[r]? = some o ∧ o.isCells = false) : W'.ownsRow 0 TStr 1 v n xs := by
  refine owns_keep (S := fun q => row = some q) h ((Keep.refl _ W).grown hg (fun k e => .inl e)) (fun k hk e => ?_)
  obtain ⟨o, ho, hc⟩ := hr k e
  rcases h.2 with ⟨rfl, -⟩ | ⟨g, cap, cur, rfl, -, hgb, -⟩
  · simp [Value.ownBlock] at hk
  · have : g = k := by simpa [Value.ownBlock] using hk
    subst this
    rw [hgb] at ho; cases ho; cases hc
theorem Mid.from (W5 : World) (ob i : Nat) (V : Nat → Value) (ls : List ByteArray) : OwnFrom W5.heap.size (Mid W5 ob i V ls) := by
  rintro pre A B row ⟨v, h1, h2, h3, h4, h5⟩ hg hr
  refine ⟨v, ?_, own_row h2 hg (fun r e => (hr r e).2), h3, h4.grown hg (fun k e => .inr (hr k e).1), h5⟩
  refine (hg.block ob (lt_of_block h1) (fun e => ?_)).trans h1
  obtain ⟨o, ho, hc⟩ := (hr ob e.symm).2
  rw [h1] at ho; cases ho; cases hc
theorem lst_len {w : World} {F : Nat → Prop} {ab b c T : Nat} {s : Ac} (h : ArcAt w F ab b c T s) (i : Nat) (hi : i < 4) : (lst s i).length ≤ 2000 := by
  have := h.lens
  have : i = 0 ∨ i = 1 ∨ i = 2 ∨ i = 3 := by omega
  rcases this with rfl | rfl | rfl | rfl
  · show s.A.length ≤ 2000; omega
  · show s.B.length ≤ 2000; omega
  · show s.C.length ≤ 2000; omega
  · show s.D.length ≤ 2000; omega
def dfr (D : Nat) : Deferred := { target := .collected D, args := #[] }
structure LState (w W : World) (s : Ac) (i : Nat) (Ds : List Nat) (V : Nat → Value) : Prop where
  hi : i ≤ 4
  hl : Ds.length = i
  d : ∀ D ∈ Ds, w.heap.size ≤ D ∧ W.heap[D]? = some (.deferred (some []))
  nd : Ds.Nodup
  z : W.heap[w.heap.size]? = some (.cells (arr fun _ => .slice none 0 0) TArr (0, 0))
  r : Rows4 W (w.heap.size + 2) (w.heap.size + 1) V (part s i)
  e : ∀ j, i ≤ j → V j = .slice none 0 0
  k : Keep (fun _ => False) w W
theorem LState.first (w : World) (s : Ac) : LState w ((w.alloc (.cells (arr fun _ => .slice none 0 0) TArr)).alloc (.cells (arr fun _ => .slice none 0 0) TArr)) s 0 [] (fun _ => .slice none 0 0) :=
  ⟨by omega, rfl, by simp, by simp, block_alloc (block_new w _) _, ⟨block_new_at (by simp), fun j _ => ⟨rfl, .inl ⟨rfl, rfl⟩⟩, fun j _ g e => by simp [Value.ownBlock] at e⟩, fun _ _ => rfl, ((Keep.refl _ w).alloc _).alloc _⟩

theorem mid_close {W5 W7 w6 : World} {ob i g' cap' : Nat} {V : Nat → Value} {ls pre : List ByteArray} {x : ByteArray} {v : Value} (hi : i < 4) (hob : ob < W5.heap.size) (hlen : pre.length < ls.length)
    (hv : W7.heap[ob]? = some (.cells (arr (upd V i v)) TArr (0, 0))) (hr : W7.ownsRow 0 TStr 1 v pre.length (strs pre)) (hn : ∀ g, v.ownBlock = some g → W5.heap.size ≤ g) (hk : Keep (fun j => j = ob) W5 W7)
    (hgrow : ((W7.alloc (.cells #[.string x] 9)).drew).grownBy w6 v.ownBlock) (hown : w6.ownsRow 0 TStr 1 (.slice (some ⟨g', 0, none⟩) (pre.length + 1) cap') (pre.length + 1) (strs pre ++ [.string x]))
    (hat : v.ownBlock = some g' ∨ g' = ((W7.alloc (.cells #[.string x] 9)).drew).heap.size) :
    KeepsOthers W7 (w6.setCell ⟨ob, i, none⟩ (.slice (some ⟨g', 0, none⟩) (pre.length + 1) cap')) ∧ Keep (fun j => ¬ (j < W5.heap.size ∧ j ≠ ob)) W7 (w6.setCell ⟨ob, i, none⟩ (.slice (some ⟨g', 0, none⟩) (pre.length + 1) cap')) ∧ Mid W5 ob i V ls (pre ++ [x]) (w6.setCell ⟨ob, i, none⟩ (.slice (some ⟨g', 0, none⟩) (pre.length + 1) cap')) := by
  have hsz := hk.size
  have k1 : Keep (fun j => v.ownBlock = some j) W7 w6 := (((Keep.refl _ W7).alloc _).drew).grown hgrow (fun k e => .inl e)
  have hvo : v.ownBlock ≠ some ob := fun e => by have := hn _ e; omega
  have b6 := (k1.block ob (by omega) hvo).trans hv
  have hg' : W5.heap.size ≤ g' := by
    rcases hat with e | e
    · exact hn _ e
    · rw [e]; simp; omega
  refine ⟨?_, ?_, .slice (some ⟨g', 0, none⟩) (pre.length + 1) cap', ?_, ?_, ?_, ?_, ?_⟩
  · refine (((KeepsOthers.alloc W7 _).trans (KeepsOthers.drew _)).trans (KeepsOthers.of_grownBy hgrow (fun j o ej hj => ?_))).trans (KeepsOthers.setCell _ _ _)
    rcases (hr.alloc (.cells #[.string x] 9)).2 with ⟨rfl, _⟩ | ⟨g, cap, cur, rfl, _, hgb, _⟩
    · simp [Value.ownBlock] at ej
    · obtain rfl : g = j := by simpa [Value.ownBlock] using ej
      have hj' : (W7.alloc (.cells #[.string x] 9)).heap[g]? = some o := hj
      rw [hgb] at hj'; cases hj'; rfl
  · exact ((k1.mono (fun j _ e => by have := hn j e; omega))).setCell (.inl (by simp)) _
  · rw [block_set b6, arr_set _ _ hi]
    congr 4
    funext j
    unfold upd
    split <;> simp_all
  · rw [List.length_append, List.length_cons, List.length_nil, show strs (pre ++ [x]) = strs pre ++ [.string x] from by simp [strs]]
    refine owns_keep hown ((Keep.refl (fun j => j = ob) w6).set1 _ _) (fun k e f => ?_)
    have : g' = k := by simpa [Value.ownBlock] using e
    omega
  · intro g e
    have : g' = g := by simpa [Value.ownBlock] using e
    omega
  · exact (hk.trans' k1 (fun j hj e => by have := hn j e; omega)).setCell (.inl rfl) _
  · rw [List.length_append, List.length_cons, List.length_nil]; omega
theorem lstate_next {w W W5 W' : World} {s : Ac} {i D : Nat} {Ds : List Nat} {V : Nat → Value} {ls : List ByteArray} (hL : LState w W s i Ds V) (hi : i < 4) (k5 : Keep (fun _ => False) W W5) (hls : ls = lst s i) (hm : Mid W5 (w.heap.size + 1) i V ls ls W') (hD : W5.heap.size ≤ D) (hdef : W'.heap[D]? = some (.deferred (some []))) :
    ∃ V', LState w W' s (i + 1) (D :: Ds) V' := by
  obtain ⟨v, h1, h2, h3, h4, h5⟩ := hm
  have s5 := k5.size
  have sw := hL.k.size
  have hob := lt_of_block hL.r.h
  have blk : ∀ q, q < W.heap.size → q ≠ w.heap.size + 1 → W'.heap[q]? = W.heap[q]? := fun q hq hne => (h4.block q (by omega) hne).trans (k5.block q hq (fun e => e))
  have hds : ∀ D' ∈ Ds, D' < W.heap.size ∧ D' ≠ w.heap.size + 1 := fun D' h => by
    have h6 := (hL.d D' h).2
    refine ⟨lt_of_block h6, fun e => ?_⟩
    rw [e, hL.r.h] at h6
    cases h6
  refine ⟨upd V i v, by omega, by rw [List.length_cons, hL.hl], fun D' h => ?_, ?_, (blk _ (by omega) (by omega)).trans hL.z, ⟨h1, fun j hj => ?_, fun j hj g e => ?_⟩, fun j hj => ?_, (hL.k.trans k5).then h4 (fun q e => by omega)⟩
  · rcases List.mem_cons.1 h with rfl | h
    · exact ⟨by omega, hdef⟩
    · exact ⟨(hL.d D' h).1, (blk D' (hds D' h).1 (hds D' h).2).trans (hL.d D' h).2⟩
  · refine List.nodup_cons.2 ⟨fun e => ?_, hL.nd⟩
    have := (hds D e).1
    omega
  · unfold upd part
    by_cases hji : j = i
    · subst hji
      rw [if_pos rfl, if_pos (by omega), ← hls]; exact h2
    · rw [if_neg hji]
      have h7 := hL.r.r j hj
      unfold part at h7
      have hpp : (if j < i + 1 then lst s j else []) = (if j < i then lst s j else []) := by
        by_cases h8 : j < i
        · rw [if_pos h8, if_pos (by omega)]
        · rw [if_neg h8, if_neg (by omega)]
      rw [hpp]
      exact owns_keep (owns_keep h7 k5 (fun _ _ e => e)) h4 (fun q e => (hL.r.n j hj q e).2)
  · unfold upd at e
    by_cases hji : j = i
    · rw [if_pos hji] at e
      have := h3 g e
      omega
    · rw [if_neg hji] at e
      exact hL.r.n j hj g e
  · unfold upd
    rw [if_neg (by omega)]
    exact hL.e j (by omega)

theorem wpIn_region_R {F : Fence} {n : Nat} {P : Program} {ops : Array Oper} {Q : Exit → Act → World → Prop} {id : Nat} {a : Act} {w : World} (hm : P.follows .mixedOrders = true)
    (h : ∀ R : Nat → Array Bool → Act → World → Prop, Hid (wpAnyIn F n P .any ops Q = R) → R ops.size (Array.replicate ops.size false) a w.drew) : (Code.region id ops true).wpIn F n P Q a w :=
  wpIn_region_any hm (h _ (Lib.hid rfl))
def actL (ab b B Wb i : Nat) (x : ByteArray) (u27 u19 u20 u21 u22 u23 u24 u25 u26 : Value) : Act :=
  { tmps := #[.pointer (some ⟨ab, 0, none⟩), undef, .pointer (some ⟨B, 0, none⟩), .pointer (some ⟨B + 1, 0, none⟩), .pointer (some ⟨Wb, 0, none⟩), .string x, .pointer (some ⟨ab, 0, none⟩), .bool false, undef, .int .i64 (i : Int), .bool true, .int .i64 (i : Int), .pointer (some ⟨ab, 0, none⟩), .pointer (some ⟨ab, 0, none⟩), .pointer (some ⟨ab, 2, none⟩), .pointer (some ⟨b, 0, none⟩), .int .i64 (i : Int), .func (.func 50) #[] #[.pointer (some ⟨Wb + 1, 0, none⟩), .pointer (some ⟨Wb + 1 + 1, 0, none⟩)], .string x, u19, u20, u21, u22, u23, u24, u25, u26, u27, undef], defers := [] }

def stz (W : World) (B : Nat) (v0 v1 v2 v3 : Value) : World := (((W.setCell ⟨B, 0, none⟩ v0).setCell ⟨B, 1, none⟩ v1).setCell ⟨B, 2, none⟩ v2).setCell ⟨B, 3, none⟩ v3
theorem stz_keep (W : World) (B : Nat) (v0 v1 v2 v3 : Value) : Keep (fun j => j = B) W (stz W B v0 v1 v2 v3) := by
  unfold stz
  exact ((((Keep.refl (fun j => j = B) W).set1 _ _).set1 _ _).set1 _ _).set1 _ _
theorem stz_block {W : World} {B : Nat} {V : Nat → Value} {v0 v1 v2 v3 : Value} (h : W.heap[B]? = some (.cells (arr fun _ => .slice none 0 0) TArr (0, 0))) (h0 : V 0 = v0) (h1 : V 1 = v1) (h2 : V 2 = v2) (h3 : V 3 = v3) : (stz W B v0 v1 v2 v3).heap[B]? = some (.cells (arr V) TArr (0, 0)) := by
  subst h0 h1 h2 h3
  have h' := block_set (block_set (block_set (block_set h 0 (V 0)) 1 (V 1)) 2 (V 2)) 3 (V 3)
  have e : ((((arr fun _ => Value.slice none 0 0).setIfInBounds 0 (V 0)).setIfInBounds 1 (V 1)).setIfInBounds 2 (V 2)).setIfInBounds 3 (V 3) = arr V := by simp [arr]
  rw [e] at h'
  exact h'
theorem lists_end {w W Wz : World} {s : Ac} {Ds : List Nat} {V : Nat → Value} (hL : LState w W s 4 Ds V) (kz : Keep (fun j => j = w.heap.size) W Wz) (bz : Wz.heap[w.heap.size]? = some (.cells (arr V) TArr (0, 0))) (x0 x1 x3 x4 x5 x6 x7 x8 x9 x10 x11 x12 x13 x14 x15 x16 x17 x18 x19 x20 x21 x22 x23 x24 x25 x26 x27 x28 : Value) :
    bodyPostM Fence.wide 5 Try.prog Try.f19 (fun e w' => ∃ V : Nat → Value, e = .returned (.agg (arr V)) ∧ Keep (fun _ => False) w w' ∧ (∀ j, j < 4 → w'.ownsRow 0 TStr 1 (V j) (lst s j).length (strs (lst s j)) ∧ ∀ g, (V j).ownBlock = some g → w.heap.size ≤ g)) Exit.ret { tmps := #[x0, x1, .pointer (some ⟨w.heap.size, 0, none⟩), x3, x4, x5, x6, x7, x8, x9, x10, x11, x12, x13, x14, x15, x16, x17, x18, x19, x20, x21, x22, x23, x24, x25, x26, x27, x28], defers := Ds.map dfr } Wz := by
  obtain ⟨d3, d2, d1, d0, rfl⟩ : ∃ d3 d2 d1 d0, Ds = [d3, d2, d1, d0] := by
    have := hL.hl
    match Ds, this with
    | [d3, d2, d1, d0], _ => exact ⟨d3, d2, d1, d0, rfl⟩
  have hnd := hL.nd
  simp only [List.nodup_cons, List.mem_cons, List.not_mem_nil, or_false, not_or] at hnd
  obtain ⟨⟨n32, n31, n30⟩, ⟨n21, n20⟩, n10, -, -⟩ := hnd
  have hz : ∀ D ∈ [d3, d2, d1, d0], Wz.heap[D]? = some (.deferred (some [])) ∧ D ≠ w.heap.size := fun D h => by
    have h6 := (hL.d D h).2
    have hne : D ≠ w.heap.size := fun e => by rw [e, hL.z] at h6; cases h6
    exact ⟨(kz.block D (lt_of_block h6) hne).trans h6, hne⟩
  have p3 := hz d3 (by simp)
  have p2 := hz d2 (by simp)
  have p1 := hz d1 (by simp)
  have p0 := hz d0 (by simp)
  have q2 : (Wz.putObj d3 (.deferred none)).heap[d2]? = some (.deferred (some [])) := (World.putObj_heap_other (by omega)).trans p2.1
  have q1 : ((Wz.putObj d3 (.deferred none)).putObj d2 (.deferred none)).heap[d1]? = some (.deferred (some [])) := (World.putObj_heap_other (by omega)).trans ((World.putObj_heap_other (by omega)).trans p1.1)
  have q0 : (((Wz.putObj d3 (.deferred none)).putObj d2 (.deferred none)).putObj d1 (.deferred none)).heap[d0]? = some (.deferred (some [])) := (World.putObj_heap_other (by omega)).trans ((World.putObj_heap_other (by omega)).trans ((World.putObj_heap_other (by omega)).trans p0.1))
  have kp : ∀ (X : World) (D : Nat), Keep (fun q => q = D) X (X.putObj D (.deferred none)) := fun X D => (Keep.refl (fun q => q = D) X).grown (grownBy_putObj' X D _) (fun q e => .inl (by cases e; rfl))
  have kd : Keep (fun q => q ∈ [d3, d2, d1, d0]) Wz ((((Wz.putObj d3 (.deferred none)).putObj d2 (.deferred none)).putObj d1 (.deferred none)).putObj d0 (.deferred none)) :=
    ((((kp Wz d3).mono (fun q _ e => by rw [e]; simp)).trans ((kp _ d2).mono (fun q _ e => by rw [e]; simp))).trans ((kp _ d1).mono (fun q _ e => by rw [e]; simp))).trans ((kp _ d0).mono (fun q _ e => by rw [e]; simp))
  obtain ⟨We, hWe⟩ : ∃ We, We = ((((Wz.putObj d3 (.deferred none)).putObj d2 (.deferred none)).putObj d1 (.deferred none)).putObj d0 (.deferred none)) := ⟨_, rfl⟩
  rw [← hWe] at kd
  have be : We.heap[w.heap.size]? = some (.cells (arr V) TArr (0, 0)) := (kd.block _ (lt_of_block bz) (fun e => (hz _ e).2 rfl)).trans bz
  have c0 : We.cell? ⟨w.heap.size, 0, none⟩ = some (V 0) := cell_at be 0
  have c1 : We.cell? ⟨w.heap.size, 1, none⟩ = some (V 1) := cell_at be 1
  have c2 : We.cell? ⟨w.heap.size, 2, none⟩ = some (V 2) := cell_at be 2
  have c3 : We.cell? ⟨w.heap.size, 3, none⟩ = some (V 3) := cell_at be 3
  refine ⟨by simp [dfr], .inl ⟨_, _, rfl, run_takeDeferred p3.1, ?_⟩⟩
  refine ⟨by simp [dfr], .inl ⟨_, _, rfl, run_takeDeferred q2, ?_⟩⟩
  refine ⟨by simp [dfr], .inl ⟨_, _, rfl, run_takeDeferred q1, ?_⟩⟩
  refine ⟨by simp [dfr], .inl ⟨_, _, rfl, run_takeDeferred q0, ?_⟩⟩
  rw [← hWe]
  refine ⟨.agg (arr V), ?_, V, rfl, ?_, fun j hj => ⟨?_, fun g e => ?_⟩⟩
  · simp [results, Try.results19, go_sem, c0, c1, c2, c3, arr]
  · exact (hL.k.then kz (fun q e => by omega)).then kd (fun q e => (hL.d q e).1)
  · have h7 := hL.r.r j hj
    unfold part at h7
    rw [if_pos hj] at h7
    refine owns_keep (owns_keep h7 kz (fun q e f => ?_)) kd (fun q e f => ?_)
    · have := (hL.r.n j hj q e).1; omega
    · rcases h7.2 with ⟨h8, -⟩ | ⟨g, cap, cur, h8, -, hgb, -⟩
      · rw [h8] at e; simp [Value.ownBlock] at e
      · rw [h8] at e
        have : g = q := by simpa [Value.ownBlock] using e
        subst this
        have := (hL.d g f).2
        rw [hgb] at this; cases this
  · have := (hL.r.n j hj g e).1; omega

set_option maxHeartbeats 16000000 in
theorem lists_at {w : World} {F : Nat → Prop} {ab b c T : Nat} {s : Ac} (h : ArcAt w F ab b c T s) :
    Calls Try.prog 19 #[.pointer (some ⟨ab, 0, none⟩)] w fun e w' => ∃ V : Nat → Value, e = .returned (.agg (arr V)) ∧ Keep (fun _ => False) w w' ∧ (∀ j, j < 4 → w'.ownsRow 0 TStr 1 (V j) (lst s j).length (strs (lst s j)) ∧ ∀ g, (V j).ownBlock = some g → w.heap.size ≤ g) := by
  obtain ⟨i0, hi, hz0, hz1, hz2⟩ := info_parts infoStr
  have H := Lib.hid h
  have hlab := lt_of_block h.h
  clear h
  refine (callsIn_wide (n := 5)).1 (callsIn_of_wp_marks Try.func19 rfl trivial ?_ rfl)
  rw [wpIn_wide]
  simp only [Try.ntmps19, List.size_toArray, List.length_cons, List.length_nil, Nat.reduceAdd, Nat.reduceSub, Array.replicate_succ, Array.replicate_zero, List.push_toArray, List.append_toArray, List.nil_append, List.cons_append]
  go_wp2_with fail
  refine wp_loop (fun a' W => ∃ (i : Nat) (Ds : List Nat) (V : Nat → Value) (u4 u5 u10 u11 u12 u13 u14 u15 u16 u17 u18 u19 u20 u21 u22 u23 u24 u25 u26 u27 : Value), LState w W s i Ds V ∧ a' = { tmps := #[.pointer (some ⟨ab, 0, none⟩), undef, .pointer (some ⟨w.heap.size, 0, none⟩), .pointer (some ⟨w.heap.size + 1, 0, none⟩), u4, u5, .pointer (some ⟨ab, 0, none⟩), .bool false, undef, .int .i64 (i : Int), u10, u11, u12, u13, u14, u15, u16, u17, u18, u19, u20, u21, u22, u23, u24, u25, u26, u27, undef], defers := Ds.map dfr }) (fun a' W => 4 - (intOf (a'.tmps.getD 9 undef)).toNat) ?_ ?_
  · exact ⟨0, [], fun _ => .slice none 0 0, undef, undef, undef, undef, undef, undef, undef, undef, undef, undef, undef, undef, undef, undef, undef, undef, undef, undef, undef, undef, LState.first w s, rfl⟩
  · rintro a' W ⟨i, Ds, V, u4, u5, u10, u11, u12, u13, u14, u15, u16, u17, u18, u19, u20, u21, u22, u23, u24, u25, u26, u27, hL, rfl⟩
    have hi4 := hL.hi
    have c2 : W.cell? ⟨ab, 2, none⟩ = some (.pointer (some ⟨b, 0, none⟩)) := (hL.k.cell (p := ⟨ab, 2, none⟩) hlab (fun e => e)).trans (cell_at H.out.h 2)
    by_cases hlt : i < 4
    · have hlt' : (i : Int) < 4 := by omega
      obtain ⟨W6, hW6⟩ : ∃ W6, W6 = W.alloc (.cells #[.int .i64 (i : Int)] 3) := ⟨_, rfl⟩
      have c6 : W6.drew.cell? ⟨ab, 2, none⟩ = some (.pointer (some ⟨b, 0, none⟩)) := by
        have k6 : Keep (fun _ => False) W W6.drew := by rw [hW6]; exact ((Keep.refl _ _).alloc _).drew
        exact (k6.cell (p := ⟨ab, 2, none⟩) (Nat.lt_of_lt_of_le hlab hL.k.size) (fun e => e)).trans c2
      have e6 : W6.drew.cell? ⟨W.heap.size, 0, none⟩ = some (.int .i64 (i : Int)) := by rw [hW6]; exact cell_at (block_new W _) 0
      have c6' : W6.cell? ⟨ab, 2, none⟩ = some (.pointer (some ⟨b, 0, none⟩)) := c6
      have e6' : W6.cell? ⟨W.heap.size, 0, none⟩ = some (.int .i64 (i : Int)) := e6
      go_upto_region 7 with fail
      rw [← hW6]
      have HW6 := Lib.hid hW6
      clear hW6
      refine wp_region_still_tail 5 (by kernel_rfl) (by kernel_rfl) ?_
      simp only [List.take_succ_cons, List.take_zero, List.drop_succ_cons, List.drop_zero]
      change wpStill _ _ W6.drew _ _ _
      repeat still_step
      refine wpStill_nil ?_
      change wpList _ _ _ _ _ W6.drew
      go_wp2_with (go_at_call 34; refine (keys_call _ _ _).mono ?_; rintro e w4 ⟨rfl, rfl⟩)
      obtain ⟨W5, hW5⟩ : ∃ W5, W5 = ((W6.alloc (.cells #[.pointer (some ⟨b, 0, none⟩)] 54)).alloc (.cells #[.int .i64 (i : Int)] 3)).drew := ⟨_, rfl⟩
      rw [← hW5]
      have hs6 : W6.heap.size = W.heap.size + 1 := by rw [HW6.out]; simp
      have hs5 : W5.heap.size = W.heap.size + 3 := by rw [hW5]; simp [hs6]
      have k56 : Keep (fun _ => False) W6 W5 := by rw [hW5]; exact (((Keep.refl _ _).alloc _).alloc _).drew
      have k5 : Keep (fun _ => False) W W5 := Keep.trans (by rw [HW6.out]; exact (Keep.refl _ _).alloc _) k56
      have bq : W5.heap[W.heap.size]? = some (.cells #[.int .i64 (i : Int)] 3 (0, 0)) := (k56.block _ (by omega) (fun e => e)).trans (by rw [HW6.out]; exact block_new W _)
      have br : W5.heap[W6.heap.size]? = some (.cells #[.pointer (some ⟨b, 0, none⟩)] 54 (0, 0)) := by rw [hW5]; exact block_drew (block_alloc (block_new W6 _) _)
      have bl : W5.heap[W6.heap.size + 1]? = some (.cells #[.int .i64 (i : Int)] 3 (0, 0)) := by rw [hW5]; exact block_drew (block_new_at (by simp))
      have hsw := hL.k.size
      have hob := lt_of_block hL.r.h
      have hR5 := (H.out.keep0 (hL.k.trans k5)).r
      have hst := keys_stops 4 b 4 (2 * c + 1) T i W6.heap.size (W6.heap.size + 1) (keys s) (lst s i) F (fun j => j < W5.heap.size ∧ j ≠ w.heap.size + 1) W5 (by omega) hR5 (by
        have : i = 0 ∨ i = 1 ∨ i = 2 ∨ i = 3 := by omega
        rcases this with rfl | rfl | rfl | rfl <;> rfl) (cell_at br 0) (cell_at bl 0) (fun j hj => by have := H.out.hF j hj; omega) (by omega) (by omega) (by omega) (by omega)
      obtain ⟨ls, hls⟩ : ∃ ls, ls = lst s i := ⟨_, rfl⟩
      rw [← hls] at hst
      have hm0 : Mid W5 (w.heap.size + 1) i V ls [] W5 := by
        refine ⟨V i, ?_, ?_, fun g e => ?_, Keep.refl _ _, Nat.zero_le _⟩
        · rw [show upd V i (V i) = V from by funext j; unfold upd; split <;> simp_all]
          exact (k5.block _ hob (fun e => e)).trans hL.r.h
        · have h1 := hL.r.r i hlt
          rw [show part s i i = [] from by unfold part; rw [if_neg (by omega)]] at h1
          exact owns_keep h1 k5 (fun _ _ e => e)
        · rw [hL.e i (Nat.le_refl _)] at e
          simp [Value.ownBlock] at e
      have hls16 : Hid (ls.length ≤ 2000) := Lib.hid (by rw [hls]; exact lst_len H.out i hlt)
      have HST := Lib.hid hst
      have HLS := Lib.hid hls
      have HW5 := Lib.hid hW5
      have K5 := Lib.hid k5
      have HM0 := Lib.hid hm0
      have BQ := Lib.hid bq
      have HL := Lib.hid hL
      clear hst hls hW5 k5 hm0 bq br bl hR5 hL k56 c6 e6 c6' e6' c2
      refine wpIn_wide.1 (wpIn_rangeFunc_ownF (F := Fence.wide) (n := 5) rfl (by decide) (gf := 50) (lb := #[.pointer (some ⟨W6.heap.size, 0, none⟩), .pointer (some ⟨W6.heap.size + 1, 0, none⟩)]) rfl trivial (enters_of Try.func50 (by kernel_rfl) rfl) HST.out (fun h k => Keep.trans h k) (Kq.b (Nat.le_refl _)) (Below.refl _ _) (fun _ => rfl)
        (Mid W5 (w.heap.size + 1) i V ls) (fun c pre W => False) (Mid.from _ _ _ _ _) (fun c s A B row hs hg hr => hs) HM0.out ?a1A ?assignA ?bodyA ?doneA ?stopA)
      case assignA =>
        intro l x W K0 hK0
        gi_wp2
        exact hK0
      case bodyA =>
        rintro l pre x W7 ⟨v, hv, hr, hn, hk, hp⟩ hlen
        have q1 : W7.cell? ⟨W.heap.size, 0, none⟩ = some (.int .i64 (i : Int)) := (hk.cell (p := ⟨W.heap.size, 0, none⟩) (by show W.heap.size < _; omega) (fun e => by have : W.heap.size = w.heap.size + 1 := e; omega)).trans (cell_at BQ.out 0)
        have q2 : W7.cell? ⟨w.heap.size + 1, i, none⟩ = some v := by rw [cell_at hv, arr_get _ _ hlt]; simp [upd]
        have q3 := free_at hv i
        have hle := hls16.out
        have r8 : ((W7.alloc (.cells #[.string x] 9)).drew).ownsRow 0 TStr 1 v pre.length (strs pre) := owns_keep (S := fun _ => False) hr ((Keep.refl _ W7).alloc _).drew (fun _ _ e => e)
        have nw : ∀ q u, [Value.string x][q]? = some u → ((W7.alloc (.cells #[.string x] 9)).drew).cell? ((⟨W7.heap.size, 0, none⟩ : Addr).add q) = some u := World.news_of_block (block_drew (block_new W7 _))
        obtain ⟨g', cap', w6, hrun, hown, hgrow, hat, hlt6⟩ := run_append_lies (P := Try.prog) (w := (W7.alloc (.cells #[.string x] 9)).drew) 22 22 0 9 i0 _ 1 16 Try.underlying22 hi hz0 hz1 hz2 rfl (by decide) v pre.length (strs pre) r8 ⟨W7.heap.size, 0, none⟩ 1 1 [.string x] rfl nw (by simp [Value.oneCell']) (by decide) (by unfold maxLen; omega) (by omega) (Nat.zero_le _) _ rfl
        have hvo : v.ownBlock ≠ some (w.heap.size + 1) := fun e => by have := hn _ e; omega
        have b6 := (hgrow.block (w.heap.size + 1) (Nat.lt_of_lt_of_le (lt_of_block hv) (by simp)) (fun e => hvo e.symm)).trans (block_drew (block_alloc hv _))
        have p1 : w6.cell? ⟨w.heap.size + 1, i, none⟩ = some v := by rw [cell_at b6, arr_get _ _ hlt]; simp [upd]
        have p2 := free_at b6 i
        have p0 : w6.cell? ⟨W.heap.size, 0, none⟩ = some (.int .i64 (i : Int)) := cell_at ((hgrow.block W.heap.size (Nat.lt_of_lt_of_le (show W.heap.size < W7.heap.size by have := hk.size; omega) (by simp)) (fun e => by have := hn _ e.symm; omega)).trans (block_drew (block_alloc ((hk.block W.heap.size (by omega) (fun e => by have : W.heap.size = w.heap.size + 1 := e; omega)).trans BQ.out) _))) 0
        have q1a : (W7.alloc (.cells #[.string x] 9)).cell? ⟨W.heap.size, 0, none⟩ = some (.int .i64 (i : Int)) := (cell_at (block_alloc ((hk.block W.heap.size (by omega) (fun e => by have : W.heap.size = w.heap.size + 1 := e; omega)).trans BQ.out) _) 0)
        have q2a : (W7.alloc (.cells #[.string x] 9)).cell? ⟨w.heap.size + 1, i, none⟩ = some v := by rw [cell_at (block_alloc hv _), arr_get _ _ hlt]; simp [upd]
        have HOWN := Lib.hid hown
        have HGROW := Lib.hid hgrow
        have HAT := Lib.hid hat
        have HV := Lib.hid hv
        have HR := Lib.hid hr
        have HN := Lib.hid hn
        have HK := Lib.hid hk
        have q1' : W7.drew.cell? ⟨W.heap.size, 0, none⟩ = some (.int .i64 (i : Int)) := q1
        have q2' : W7.drew.cell? ⟨w.heap.size + 1, i, none⟩ = some v := q2
        have hb7 := lt_of_block hv
        have hb8 : W.heap.size < W7.heap.size := by have := hk.size; omega
        clear hown hgrow hat r8 nw hv hr hn hk b6 hvo
        gi_wp2
        have h6s : W6.heap.size = W.heap.size + 1 := hs6
        refine wpIn_region_R (by kernel_rfl) (fun R HR0 => ?_)
        have s012345678 : R 0 #[true, true, true, true, true, true, true, true, true] (actL ab b w.heap.size W.heap.size i x u27 (.int .i64 (i : Int)) (.int .i64 (i : Int)) (.pointer (some ⟨w.heap.size + 1, i, none⟩)) (v) (.string x) (.slice (some ⟨W7.heap.size, 0, none⟩) 1 1) (.slice (some ⟨g', 0, none⟩) (pre.length + 1) cap') (.pointer (some ⟨w.heap.size + 1, i, none⟩))) (w6.setCell ⟨w.heap.size + 1, i, none⟩ (.slice (some ⟨g', 0, none⟩) (pre.length + 1) cap')) := by
          rw [← HR0.out]
          exact wpAnyIn_done (by kernel_rfl) (mid_close hlt (by omega) hlen HV.out HR.out HN.out HK.out HGROW.out HOWN.out HAT.out) _
        have s01234567 : R 1 #[true, true, true, true, true, true, true, true, false] (actL ab b w.heap.size W.heap.size i x u27 (.int .i64 (i : Int)) (.int .i64 (i : Int)) (.pointer (some ⟨w.heap.size + 1, i, none⟩)) (v) (.string x) (.slice (some ⟨W7.heap.size, 0, none⟩) 1 1) (.slice (some ⟨g', 0, none⟩) (pre.length + 1) cap') (.pointer (some ⟨w.heap.size + 1, i, none⟩))) (w6) := by
          rw [← HR0.out]
          unfold actL
          refine wpAnyIn_ready (rs := [8]) (by kernel_rfl) (by simp) ?_
          refine AllReadyIn.cons rfl (fun K hK => ?_) ?_
          · go_simp; refine hK _ _ ?_; rw [HR0.out]; exact s012345678
          exact AllReadyIn.nil
        have s0123456 : R 2 #[true, true, true, true, true, true, true, false, false] (actL ab b w.heap.size W.heap.size i x u27 (.int .i64 (i : Int)) (.int .i64 (i : Int)) (.pointer (some ⟨w.heap.size + 1, i, none⟩)) (v) (.string x) (.slice (some ⟨W7.heap.size, 0, none⟩) 1 1) (.slice (some ⟨g', 0, none⟩) (pre.length + 1) cap') u26) (w6) := by
          rw [← HR0.out]
          unfold actL
          refine wpAnyIn_ready (rs := [7]) (by kernel_rfl) (by simp) ?_
          refine AllReadyIn.cons rfl (fun K hK => ?_) ?_
          · go_simp; refine hK _ _ ?_; rw [HR0.out]; exact s01234567
          exact AllReadyIn.nil
        have s012345 : R 3 #[true, true, true, true, true, true, false, false, false] (actL ab b w.heap.size W.heap.size i x u27 (.int .i64 (i : Int)) (.int .i64 (i : Int)) (.pointer (some ⟨w.heap.size + 1, i, none⟩)) (v) (.string x) (.slice (some ⟨W7.heap.size, 0, none⟩) 1 1) u25 u26) ((W7.alloc (.cells #[.string x] 9)).drew) := by
          rw [← HR0.out]
          unfold actL
          refine wpAnyIn_ready (rs := [6]) (by kernel_rfl) (by simp) ?_
          refine AllReadyIn.cons rfl (fun K hK => ?_) ?_
          · go_simp; refine hK _ _ ?_; rw [HR0.out]; exact s0123456
          exact AllReadyIn.nil
        have s123456 : R 3 #[false, true, true, true, true, true, true, false, false] (actL ab b w.heap.size W.heap.size i x u27 u19 (.int .i64 (i : Int)) (.pointer (some ⟨w.heap.size + 1, i, none⟩)) (v) (.string x) (.slice (some ⟨W7.heap.size, 0, none⟩) 1 1) (.slice (some ⟨g', 0, none⟩) (pre.length + 1) cap') u26) (w6) := by
          rw [← HR0.out]
          unfold actL
          refine wpAnyIn_ready (rs := [0]) (by kernel_rfl) (by simp) ?_
          refine AllReadyIn.cons rfl (fun K hK => ?_) ?_
          · go_simp; refine hK _ _ ?_; rw [HR0.out]; exact s0123456
          exact AllReadyIn.nil
        have s01234 : R 4 #[true, true, true, true, true, false, false, false, false] (actL ab b w.heap.size W.heap.size i x u27 (.int .i64 (i : Int)) (.int .i64 (i : Int)) (.pointer (some ⟨w.heap.size + 1, i, none⟩)) (v) (.string x) u24 u25 u26) (W7.drew) := by
          rw [← HR0.out]
          unfold actL
          refine wpAnyIn_ready (rs := [5]) (by kernel_rfl) (by simp) ?_
          refine AllReadyIn.cons rfl (fun K hK => ?_) ?_
          · go_simp; refine hK _ _ ?_; rw [HR0.out]; exact s012345
          exact AllReadyIn.nil
        have s01245 : R 4 #[true, true, true, false, true, true, false, false, false] (actL ab b w.heap.size W.heap.size i x u27 (.int .i64 (i : Int)) (.int .i64 (i : Int)) (.pointer (some ⟨w.heap.size + 1, i, none⟩)) u22 (.string x) (.slice (some ⟨W7.heap.size, 0, none⟩) 1 1) u25 u26) ((W7.alloc (.cells #[.string x] 9)).drew) := by
          rw [← HR0.out]
          unfold actL
          refine wpAnyIn_ready (rs := [3]) (by kernel_rfl) (by simp) ?_
          refine AllReadyIn.cons rfl (fun K hK => ?_) ?_
          · go_simp; refine hK _ _ ?_; rw [HR0.out]; exact s012345
          exact AllReadyIn.nil
        have s12345 : R 4 #[false, true, true, true, true, true, false, false, false] (actL ab b w.heap.size W.heap.size i x u27 u19 (.int .i64 (i : Int)) (.pointer (some ⟨w.heap.size + 1, i, none⟩)) (v) (.string x) (.slice (some ⟨W7.heap.size, 0, none⟩) 1 1) u25 u26) ((W7.alloc (.cells #[.string x] 9)).drew) := by
          rw [← HR0.out]
          unfold actL
          refine wpAnyIn_ready (rs := [0, 6]) (by kernel_rfl) (by simp) ?_
          refine AllReadyIn.cons rfl (fun K hK => ?_) ?_
          · go_simp; refine hK _ _ ?_; rw [HR0.out]; exact s012345
          refine AllReadyIn.cons rfl (fun K hK => ?_) ?_
          · go_simp; refine hK _ _ ?_; rw [HR0.out]; exact s123456
          exact AllReadyIn.nil
        have s0123 : R 5 #[true, true, true, true, false, false, false, false, false] (actL ab b w.heap.size W.heap.size i x u27 (.int .i64 (i : Int)) (.int .i64 (i : Int)) (.pointer (some ⟨w.heap.size + 1, i, none⟩)) (v) u23 u24 u25 u26) (W7.drew) := by
          rw [← HR0.out]
          unfold actL
          refine wpAnyIn_ready (rs := [4]) (by kernel_rfl) (by simp) ?_
          refine AllReadyIn.cons rfl (fun K hK => ?_) ?_
          · go_simp; refine hK _ _ ?_; rw [HR0.out]; exact s01234
          exact AllReadyIn.nil
        have s0124 : R 5 #[true, true, true, false, true, false, false, false, false] (actL ab b w.heap.size W.heap.size i x u27 (.int .i64 (i : Int)) (.int .i64 (i : Int)) (.pointer (some ⟨w.heap.size + 1, i, none⟩)) u22 (.string x) u24 u25 u26) (W7.drew) := by
          rw [← HR0.out]
          unfold actL
          refine wpAnyIn_ready (rs := [3, 5]) (by kernel_rfl) (by simp) ?_
          refine AllReadyIn.cons rfl (fun K hK => ?_) ?_
          · go_simp; refine hK _ _ ?_; rw [HR0.out]; exact s01234
          refine AllReadyIn.cons rfl (fun K hK => ?_) ?_
          · go_simp; refine hK _ _ ?_; rw [HR0.out]; exact s01245
          exact AllReadyIn.nil
        have s0145 : R 5 #[true, true, false, false, true, true, false, false, false] (actL ab b w.heap.size W.heap.size i x u27 (.int .i64 (i : Int)) (.int .i64 (i : Int)) u21 u22 (.string x) (.slice (some ⟨W7.heap.size, 0, none⟩) 1 1) u25 u26) ((W7.alloc (.cells #[.string x] 9)).drew) := by
          rw [← HR0.out]
          unfold actL
          refine wpAnyIn_ready (rs := [2]) (by kernel_rfl) (by simp) ?_
          refine AllReadyIn.cons rfl (fun K hK => ?_) ?_
          · go_simp; refine hK _ _ ?_; rw [HR0.out]; exact s01245
          exact AllReadyIn.nil
        have s1234 : R 5 #[false, true, true, true, true, false, false, false, false] (actL ab b w.heap.size W.heap.size i x u27 u19 (.int .i64 (i : Int)) (.pointer (some ⟨w.heap.size + 1, i, none⟩)) (v) (.string x) u24 u25 u26) (W7.drew) := by
          rw [← HR0.out]
          unfold actL
          refine wpAnyIn_ready (rs := [0, 5]) (by kernel_rfl) (by simp) ?_
          refine AllReadyIn.cons rfl (fun K hK => ?_) ?_
          · go_simp; refine hK _ _ ?_; rw [HR0.out]; exact s01234
          refine AllReadyIn.cons rfl (fun K hK => ?_) ?_
          · go_simp; refine hK _ _ ?_; rw [HR0.out]; exact s12345
          exact AllReadyIn.nil
        have s1245 : R 5 #[false, true, true, false, true, true, false, false, false] (actL ab b w.heap.size W.heap.size i x u27 u19 (.int .i64 (i : Int)) (.pointer (some ⟨w.heap.size + 1, i, none⟩)) u22 (.string x) (.slice (some ⟨W7.heap.size, 0, none⟩) 1 1) u25 u26) ((W7.alloc (.cells #[.string x] 9)).drew) := by
          rw [← HR0.out]
          unfold actL
          refine wpAnyIn_ready (rs := [0, 3]) (by kernel_rfl) (by simp) ?_
          refine AllReadyIn.cons rfl (fun K hK => ?_) ?_
          · go_simp; refine hK _ _ ?_; rw [HR0.out]; exact s01245
          refine AllReadyIn.cons rfl (fun K hK => ?_) ?_
          · go_simp; refine hK _ _ ?_; rw [HR0.out]; exact s12345
          exact AllReadyIn.nil
        have s012 : R 6 #[true, true, true, false, false, false, false, false, false] (actL ab b w.heap.size W.heap.size i x u27 (.int .i64 (i : Int)) (.int .i64 (i : Int)) (.pointer (some ⟨w.heap.size + 1, i, none⟩)) u22 u23 u24 u25 u26) (W7.drew) := by
          rw [← HR0.out]
          unfold actL
          refine wpAnyIn_ready (rs := [3, 4]) (by kernel_rfl) (by simp) ?_
          refine AllReadyIn.cons rfl (fun K hK => ?_) ?_
          · go_simp; refine hK _ _ ?_; rw [HR0.out]; exact s0123
          refine AllReadyIn.cons rfl (fun K hK => ?_) ?_
          · go_simp; refine hK _ _ ?_; rw [HR0.out]; exact s0124
          exact AllReadyIn.nil
        have s014 : R 6 #[true, true, false, false, true, false, false, false, false] (actL ab b w.heap.size W.heap.size i x u27 (.int .i64 (i : Int)) (.int .i64 (i : Int)) u21 u22 (.string x) u24 u25 u26) (W7.drew) := by
          rw [← HR0.out]
          unfold actL
          refine wpAnyIn_ready (rs := [2, 5]) (by kernel_rfl) (by simp) ?_
          refine AllReadyIn.cons rfl (fun K hK => ?_) ?_
          · go_simp; refine hK _ _ ?_; rw [HR0.out]; exact s0124
          refine AllReadyIn.cons rfl (fun K hK => ?_) ?_
          · go_simp; refine hK _ _ ?_; rw [HR0.out]; exact s0145
          exact AllReadyIn.nil
        have s045 : R 6 #[true, false, false, false, true, true, false, false, false] (actL ab b w.heap.size W.heap.size i x u27 (.int .i64 (i : Int)) u20 u21 u22 (.string x) (.slice (some ⟨W7.heap.size, 0, none⟩) 1 1) u25 u26) ((W7.alloc (.cells #[.string x] 9)).drew) := by
          rw [← HR0.out]
          unfold actL
          refine wpAnyIn_ready (rs := [1]) (by kernel_rfl) (by simp) ?_
          refine AllReadyIn.cons rfl (fun K hK => ?_) ?_
          · go_simp; refine hK _ _ ?_; rw [HR0.out]; exact s0145
          exact AllReadyIn.nil
        have s123 : R 6 #[false, true, true, true, false, false, false, false, false] (actL ab b w.heap.size W.heap.size i x u27 u19 (.int .i64 (i : Int)) (.pointer (some ⟨w.heap.size + 1, i, none⟩)) (v) u23 u24 u25 u26) (W7.drew) := by
          rw [← HR0.out]
          unfold actL
          refine wpAnyIn_ready (rs := [0, 4]) (by kernel_rfl) (by simp) ?_
          refine AllReadyIn.cons rfl (fun K hK => ?_) ?_
          · go_simp; refine hK _ _ ?_; rw [HR0.out]; exact s0123
          refine AllReadyIn.cons rfl (fun K hK => ?_) ?_
          · go_simp; refine hK _ _ ?_; rw [HR0.out]; exact s1234
          exact AllReadyIn.nil
        have s124 : R 6 #[false, true, true, false, true, false, false, false, false] (actL ab b w.heap.size W.heap.size i x u27 u19 (.int .i64 (i : Int)) (.pointer (some ⟨w.heap.size + 1, i, none⟩)) u22 (.string x) u24 u25 u26) (W7.drew) := by
          rw [← HR0.out]
          unfold actL
          refine wpAnyIn_ready (rs := [0, 3, 5]) (by kernel_rfl) (by simp) ?_
          refine AllReadyIn.cons rfl (fun K hK => ?_) ?_
          · go_simp; refine hK _ _ ?_; rw [HR0.out]; exact s0124
          refine AllReadyIn.cons rfl (fun K hK => ?_) ?_
          · go_simp; refine hK _ _ ?_; rw [HR0.out]; exact s1234
          refine AllReadyIn.cons rfl (fun K hK => ?_) ?_
          · go_simp; refine hK _ _ ?_; rw [HR0.out]; exact s1245
          exact AllReadyIn.nil
        have s145 : R 6 #[false, true, false, false, true, true, false, false, false] (actL ab b w.heap.size W.heap.size i x u27 u19 (.int .i64 (i : Int)) u21 u22 (.string x) (.slice (some ⟨W7.heap.size, 0, none⟩) 1 1) u25 u26) ((W7.alloc (.cells #[.string x] 9)).drew) := by
          rw [← HR0.out]
          unfold actL
          refine wpAnyIn_ready (rs := [0, 2]) (by kernel_rfl) (by simp) ?_
          refine AllReadyIn.cons rfl (fun K hK => ?_) ?_
          · go_simp; refine hK _ _ ?_; rw [HR0.out]; exact s0145
          refine AllReadyIn.cons rfl (fun K hK => ?_) ?_
          · go_simp; refine hK _ _ ?_; rw [HR0.out]; exact s1245
          exact AllReadyIn.nil
        have s01 : R 7 #[true, true, false, false, false, false, false, false, false] (actL ab b w.heap.size W.heap.size i x u27 (.int .i64 (i : Int)) (.int .i64 (i : Int)) u21 u22 u23 u24 u25 u26) (W7.drew) := by
          rw [← HR0.out]
          unfold actL
          refine wpAnyIn_ready (rs := [2, 4]) (by kernel_rfl) (by simp) ?_
          refine AllReadyIn.cons rfl (fun K hK => ?_) ?_
          · go_simp; refine hK _ _ ?_; rw [HR0.out]; exact s012
          refine AllReadyIn.cons rfl (fun K hK => ?_) ?_
          · go_simp; refine hK _ _ ?_; rw [HR0.out]; exact s014
          exact AllReadyIn.nil
        have s04 : R 7 #[true, false, false, false, true, false, false, false, false] (actL ab b w.heap.size W.heap.size i x u27 (.int .i64 (i : Int)) u20 u21 u22 (.string x) u24 u25 u26) (W7.drew) := by
          rw [← HR0.out]
          unfold actL
          refine wpAnyIn_ready (rs := [1, 5]) (by kernel_rfl) (by simp) ?_
          refine AllReadyIn.cons rfl (fun K hK => ?_) ?_
          · go_simp; refine hK _ _ ?_; rw [HR0.out]; exact s014
          refine AllReadyIn.cons rfl (fun K hK => ?_) ?_
          · go_simp; refine hK _ _ ?_; rw [HR0.out]; exact s045
          exact AllReadyIn.nil
        have s12 : R 7 #[false, true, true, false, false, false, false, false, false] (actL ab b w.heap.size W.heap.size i x u27 u19 (.int .i64 (i : Int)) (.pointer (some ⟨w.heap.size + 1, i, none⟩)) u22 u23 u24 u25 u26) (W7.drew) := by
          rw [← HR0.out]
          unfold actL
          refine wpAnyIn_ready (rs := [0, 3, 4]) (by kernel_rfl) (by simp) ?_
          refine AllReadyIn.cons rfl (fun K hK => ?_) ?_
          · go_simp; refine hK _ _ ?_; rw [HR0.out]; exact s012
          refine AllReadyIn.cons rfl (fun K hK => ?_) ?_
          · go_simp; refine hK _ _ ?_; rw [HR0.out]; exact s123
          refine AllReadyIn.cons rfl (fun K hK => ?_) ?_
          · go_simp; refine hK _ _ ?_; rw [HR0.out]; exact s124
          exact AllReadyIn.nil
        have s14 : R 7 #[false, true, false, false, true, false, false, false, false] (actL ab b w.heap.size W.heap.size i x u27 u19 (.int .i64 (i : Int)) u21 u22 (.string x) u24 u25 u26) (W7.drew) := by
          rw [← HR0.out]
          unfold actL
          refine wpAnyIn_ready (rs := [0, 2, 5]) (by kernel_rfl) (by simp) ?_
          refine AllReadyIn.cons rfl (fun K hK => ?_) ?_
          · go_simp; refine hK _ _ ?_; rw [HR0.out]; exact s014
          refine AllReadyIn.cons rfl (fun K hK => ?_) ?_
          · go_simp; refine hK _ _ ?_; rw [HR0.out]; exact s124
          refine AllReadyIn.cons rfl (fun K hK => ?_) ?_
          · go_simp; refine hK _ _ ?_; rw [HR0.out]; exact s145
          exact AllReadyIn.nil
        have s45 : R 7 #[false, false, false, false, true, true, false, false, false] (actL ab b w.heap.size W.heap.size i x u27 u19 u20 u21 u22 (.string x) (.slice (some ⟨W7.heap.size, 0, none⟩) 1 1) u25 u26) ((W7.alloc (.cells #[.string x] 9)).drew) := by
          rw [← HR0.out]
          unfold actL
          refine wpAnyIn_ready (rs := [0, 1]) (by kernel_rfl) (by simp) ?_
          refine AllReadyIn.cons rfl (fun K hK => ?_) ?_
          · go_simp; refine hK _ _ ?_; rw [HR0.out]; exact s045
          refine AllReadyIn.cons rfl (fun K hK => ?_) ?_
          · go_simp; refine hK _ _ ?_; rw [HR0.out]; exact s145
          exact AllReadyIn.nil
        have s0 : R 8 #[true, false, false, false, false, false, false, false, false] (actL ab b w.heap.size W.heap.size i x u27 (.int .i64 (i : Int)) u20 u21 u22 u23 u24 u25 u26) (W7.drew) := by
          rw [← HR0.out]
          unfold actL
          refine wpAnyIn_ready (rs := [1, 4]) (by kernel_rfl) (by simp) ?_
          refine AllReadyIn.cons rfl (fun K hK => ?_) ?_
          · go_simp; refine hK _ _ ?_; rw [HR0.out]; exact s01
          refine AllReadyIn.cons rfl (fun K hK => ?_) ?_
          · go_simp; refine hK _ _ ?_; rw [HR0.out]; exact s04
          exact AllReadyIn.nil
        have s1 : R 8 #[false, true, false, false, false, false, false, false, false] (actL ab b w.heap.size W.heap.size i x u27 u19 (.int .i64 (i : Int)) u21 u22 u23 u24 u25 u26) (W7.drew) := by
          rw [← HR0.out]
          unfold actL
          refine wpAnyIn_ready (rs := [0, 2, 4]) (by kernel_rfl) (by simp) ?_
          refine AllReadyIn.cons rfl (fun K hK => ?_) ?_
          · go_simp; refine hK _ _ ?_; rw [HR0.out]; exact s01
          refine AllReadyIn.cons rfl (fun K hK => ?_) ?_
          · go_simp; refine hK _ _ ?_; rw [HR0.out]; exact s12
          refine AllReadyIn.cons rfl (fun K hK => ?_) ?_
          · go_simp; refine hK _ _ ?_; rw [HR0.out]; exact s14
          exact AllReadyIn.nil
        have s4 : R 8 #[false, false, false, false, true, false, false, false, false] (actL ab b w.heap.size W.heap.size i x u27 u19 u20 u21 u22 (.string x) u24 u25 u26) (W7.drew) := by
          rw [← HR0.out]
          unfold actL
          refine wpAnyIn_ready (rs := [0, 1, 5]) (by kernel_rfl) (by simp) ?_
          refine AllReadyIn.cons rfl (fun K hK => ?_) ?_
          · go_simp; refine hK _ _ ?_; rw [HR0.out]; exact s04
          refine AllReadyIn.cons rfl (fun K hK => ?_) ?_
          · go_simp; refine hK _ _ ?_; rw [HR0.out]; exact s14
          refine AllReadyIn.cons rfl (fun K hK => ?_) ?_
          · go_simp; refine hK _ _ ?_; rw [HR0.out]; exact s45
          exact AllReadyIn.nil
        rw [← HR0.out]
        refine wpAnyIn_ready (rs := [0, 1, 4]) (by kernel_rfl) (by simp) ?_
        refine AllReadyIn.cons rfl (fun K hK => ?_) ?_
        · go_simp; refine hK _ _ ?_; rw [HR0.out]; exact s0
        refine AllReadyIn.cons rfl (fun K hK => ?_) ?_
        · go_simp; refine hK _ _ ?_; rw [HR0.out]; exact s1
        refine AllReadyIn.cons rfl (fun K hK => ?_) ?_
        · go_simp; refine hK _ _ ?_; rw [HR0.out]; exact s4
        exact AllReadyIn.nil
      case doneA =>
        rintro D ys W' hD hys hM hdef
        rw [hys] at hM
        obtain ⟨V', hN⟩ := lstate_next HL.out hlt K5.out HLS.out hM hD hdef
        have HN := Lib.hid hN
        clear hN hM hdef
        gi_wp2
        go_wp2_with fail
        refine ⟨⟨i + 1, D :: Ds, V', _, _, _, _, _, _, _, _, _, _, _, _, _, _, _, _, _, _, _, _, HN.out, by rw [show ((i + 1 : Nat) : Int) = (i : Int) + 1 from by omega]; rfl⟩, ?_⟩
        simp [intOf]
        omega
      case stopA =>
        rintro D c pre W hD hpre h hdef
        exact h.elim
    · obtain rfl : i = 4 := by omega
      have q0 : W.cell? ⟨w.heap.size + 1, 0, none⟩ = some (V 0) := cell_at hL.r.h 0
      have q1 : W.cell? ⟨w.heap.size + 1, 1, none⟩ = some (V 1) := cell_at hL.r.h 1
      have q2 : W.cell? ⟨w.heap.size + 1, 2, none⟩ = some (V 2) := cell_at hL.r.h 2
      have q3 : W.cell? ⟨w.heap.size + 1, 3, none⟩ = some (V 3) := cell_at hL.r.h 3
      obtain ⟨a0, n0, h0⟩ := owns_slice (hL.r.r 0 (by omega))
      obtain ⟨a1, n1, h1⟩ := owns_slice (hL.r.r 1 (by omega))
      obtain ⟨a2, n2, h2⟩ := owns_slice (hL.r.r 2 (by omega))
      obtain ⟨a3, n3, h3⟩ := owns_slice (hL.r.r 3 (by omega))
      rw [h0] at q0
      rw [h1] at q1
      rw [h2] at q2
      rw [h3] at q3
      have z0 := hL.z
      have z1 := block_set z0 0 (.slice a0 (part s 4 0).length n0)
      have z2 := block_set z1 1 (.slice a1 (part s 4 1).length n1)
      have z3 := block_set z2 2 (.slice a2 (part s 4 2).length n2)
      have z4 := block_set z3 3 (.slice a3 (part s 4 3).length n3)
      have x0 : W.cell? ⟨w.heap.size, 0, none⟩ = some (.slice none 0 0) := cell_at z0 0
      have y0 := free_at z0 0
      have x1 := cell_at z1 1
      have y1 := free_at z1 1
      have x2 := cell_at z2 2
      have y2 := free_at z2 2
      have x3 := cell_at z3 3
      have y3 := free_at z3 3
      simp [arr] at x1 x2 x3
      have Z4 := Lib.hid z4
      clear z0 z1 z2 z3 z4
      go_wp2_with fail
      change bodyPostM _ _ _ _ _ _ _ (stz W w.heap.size (.slice a0 (part s 4 0).length n0) (.slice a1 (part s 4 1).length n1) (.slice a2 (part s 4 2).length n2) (.slice a3 (part s 4 3).length n3))
      exact lists_end hL (stz_keep _ _ _ _ _ _) (stz_block hL.z h0 h1 h2 h3) _ _ _ _ _ _ _ _ _ _ _ _ _ _ _ _ _ _ _ _ _ _ _ _ _ _ _ _

end Go.Proofs.Ytebjbkpgicbgeaa.ArcL
