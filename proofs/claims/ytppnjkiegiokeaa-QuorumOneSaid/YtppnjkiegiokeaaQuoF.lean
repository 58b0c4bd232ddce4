/-
  Layer 17 (quorum): QuorumOne: what stands in memory, and what a proposer was told.
-/
import Derived.Test.YtppnjkiegiokeaaQuoD
import Derived.Test.YtppnjkiegiokeaaQuoE
namespace Go.Proofs.Ytppnjkiegiokeaa.QuoF
set_option linter.unusedVariables false
set_option linter.unusedSimpArgs false
set_option maxRecDepth 100000
open Go.RowKit Go.Proofs.Ytppnjkiegiokeaa.Mem Go.Proofs.Ytppnjkiegiokeaa.QuoW Go.Proofs.Ytppnjkiegiokeaa.QuoV Go.Proofs.Ytppnjkiegiokeaa.QuoU Go.Proofs.Ytppnjkiegiokeaa.QuoR Go.Proofs.Ytppnjkiegiokeaa.QuoS Go.Proofs.Ytppnjkiegiokeaa.QuoX Go.Proofs.Ytppnjkiegiokeaa.QuoC

abbrev TOne : TypeId := 49
def Pr.lst (x : Pr) : List Value := [.bool x.ok, .int .u64 x.v, .int .u64 x.most, .int .u64 x.bal,
  .int .u64 x.val.v, .int .i64 x.val.p, .int .u64 x.val.pl, .int .i64 x.val.b, .int .u64 x.val.bl, .int .u64 x.val.e,
  .int .u64 x.ch.v, .int .i64 x.ch.p, .int .u64 x.ch.pl, .int .i64 x.ch.b, .int .u64 x.ch.bl, .int .u64 x.ch.e]
/-- What the law keeps beside a proposer. -/
structure One where
  fr : Int
  bal : Int
  told : Pr
  sec : Bool
  some_ : Bool
def One.row (p : Nat) (x : One) : Array Value := #[.pointer (some ⟨p, 0, none⟩), .int .i64 x.fr, .int .u64 x.bal, .bool x.told.ok, .int .u64 x.told.v, .int .u64 x.told.most, .int .u64 x.told.bal,
  .int .u64 x.told.val.v, .int .i64 x.told.val.p, .int .u64 x.told.val.pl, .int .i64 x.told.val.b, .int .u64 x.told.val.bl, .int .u64 x.told.val.e,
  .int .u64 x.told.ch.v, .int .i64 x.told.ch.p, .int .u64 x.told.ch.pl, .int .i64 x.told.ch.b, .int .u64 x.told.ch.bl, .int .u64 x.told.ch.e, .bool x.sec, .bool x.some_]
def zeroP : Pr := ⟨false, 0, 0, 0, zeroV, zeroV⟩
def zeroO : One := ⟨0, 0, zeroP, false, false⟩
def OAt (w : World) (b p : Nat) (x : One) : Prop := w.heap[b]? = some (.cells (One.row p x) TOne (0, 0))
theorem OAt.keep {w w' : World} {b p : Nat} {x : One} {S : Nat → Prop} (h : OAt w b p x) (k : Keep S w w') (hn : ¬ S b) : OAt w' b p x := (k.block b (lt_of_block h) hn).trans h
/-- The four's cells, one behind the other. -/
def allRow (pb : Nat → Nat) (T : Nat → One) : Array Value := One.row (pb 0) (T 0) ++ One.row (pb 1) (T 1) ++ One.row (pb 2) (T 2) ++ One.row (pb 3) (T 3)
theorem row_size (p : Nat) (x : One) : (One.row p x).size = 21 := rfl
theorem four_at (f : Nat → Array Value) (h : ∀ q, (f q).size = 21) (q : Nat) (hq : q < 4) (j : Nat) (hj : j < 21) : (f 0 ++ f 1 ++ f 2 ++ f 3)[q * 21 + j]? = (f q)[j]? := by
  have h0 := h 0
  have h1 := h 1
  have h2 := h 2
  rcases (show q = 0 ∨ q = 1 ∨ q = 2 ∨ q = 3 from by omega) with rfl | rfl | rfl | rfl
  · rw [Array.getElem?_append_left (by simp [h0, h1, h2]; omega), Array.getElem?_append_left (by simp [h0, h1, h2]; omega), Array.getElem?_append_left (by simp [h0, h1, h2]; omega)]; simp
  · rw [Array.getElem?_append_left (by simp [h0, h1, h2]; omega), Array.getElem?_append_left (by simp [h0, h1, h2]; omega), Array.getElem?_append_right (by simp [h0, h1, h2])]; congr 1; simp [h0, h1, h2]
  · rw [Array.getElem?_append_left (by simp [h0, h1, h2]; omega), Array.getElem?_append_right (by simp [h0, h1, h2])]; congr 1; simp [h0, h1, h2]
  · rw [Array.getElem?_append_right (by simp [h0, h1, h2])]; congr 1; simp [h0, h1, h2]
theorem four_size (f : Nat → Array Value) (h : ∀ q, (f q).size = 21) : (f 0 ++ f 1 ++ f 2 ++ f 3).size = 84 := by simp [h]
theorem allRow_at (pb : Nat → Nat) (T : Nat → One) (q : Nat) (hq : q < 4) (j : Nat) (hj : j < 21) : (allRow pb T)[q * 21 + j]? = (One.row (pb q) (T q))[j]? :=
  four_at (fun q => One.row (pb q) (T q)) (fun _ => rfl) q hq j hj
theorem allRow_size (pb : Nat → Nat) (T : Nat → One) : (allRow pb T).size = 84 := four_size (fun q => One.row (pb q) (T q)) (fun _ => rfl)

/-- What was told before, told again, changes nothing. -/
def Told (s : PS) (N : Int) (x : One) : Prop :=
  x.some_ = true → 0 ≤ x.told.most ∧ x.told.most < (N + 1) * 4294967296 ∧ (∃ r, 0 < r ∧ r ≤ s.round ∧ x.bal = enc r s.life s.me) ∧
    (x.sec = false → okP s false x.fr x.bal x.told = false ∨ (x.fr = 0 ∧ s.y0 = true) ∨ (x.fr = 1 ∧ s.y1 = true) ∨ (x.fr = 2 ∧ s.y2 = true)) ∧
    (x.sec = true → (x.bal = ballotI s → s.sec = true) ∧ (okP s true x.fr x.bal x.told = false ∨ (x.fr = 0 ∧ s.t0 = true) ∨ (x.fr = 1 ∧ s.t1 = true) ∨ (x.fr = 2 ∧ s.t2 = true)))
theorem Told.mono {s : PS} {N N' : Int} {x : One} (h : Told s N x) (hn : N ≤ N') : Told s N' x := fun e => by
  obtain ⟨h1, h2, h3⟩ := h e
  exact ⟨h1, by omega, h3⟩
theorem okP_stale {s : PS} {part : Bool} {fr bal : Int} {x : Pr} (h : bal ≠ ballotI s) : okP s part fr bal x = false := by
  unfold okP
  rw [decide_eq_false h]
  simp
/-- A new ballot: what was told is of another one. -/
theorem Told.start {s s' : PS} {N : Int} {x : One} (h : Told s N x) (h1 : s'.life = s.life) (h2 : s'.me = s.me) (h3 : s.round < s'.round) (h0 : 0 ≤ s.round) : Told s' (N + 1) x := fun e => by
  obtain ⟨a1, a2, ⟨r, r0, r1, r2⟩, -, -⟩ := h e
  have hne : x.bal ≠ ballotI s' := by
    unfold ballotI
    rw [if_neg (by omega), r2, h1, h2]
    unfold enc
    omega
  exact ⟨a1, by omega, ⟨r, r0, by omega, by rw [r2, h1, h2]⟩, fun _ => .inl (okP_stale hne), fun _ => ⟨fun e => absurd e hne, .inl (okP_stale hne)⟩⟩

/-- What stands in memory. -/
structure St (w wr : World) (XC XA XV : Nat) (cb pb : Nat → Nat) (P : Nat → PS) (C : Nat → Ce) (T : Nat → One) (ch : Vw) : Prop where
  xc : wr.heap[XC]? = some (.cells #[.pointer (some ⟨cb 0, 0, none⟩), .pointer (some ⟨cb 1, 0, none⟩), .pointer (some ⟨cb 2, 0, none⟩)] 45 (0, 0))
  xa : wr.heap[XA]? = some (.cells (allRow pb T) 50 (0, 0))
  xv : wr.heap[XV]? = some (.cells (Vw.cells ch).toArray TVw (0, 0))
  ca : ∀ a, a < 3 → CAt wr (cb a) (C a)
  pa : ∀ q, q < 4 → PAt wr (pb q) (P q)
  n1 : w.heap.size ≤ XC ∧ w.heap.size ≤ XA ∧ w.heap.size ≤ XV ∧ XC ≠ XA ∧ XC ≠ XV ∧ XA ≠ XV
  n2 : ∀ a, a < 3 → w.heap.size ≤ cb a ∧ cb a ≠ XC ∧ cb a ≠ XA ∧ cb a ≠ XV
  n3 : ∀ q, q < 4 → w.heap.size ≤ pb q ∧ pb q ≠ XC ∧ pb q ≠ XA ∧ pb q ≠ XV
  n4 : ∀ a q, a < 3 → q < 4 → cb a ≠ pb q
  n5 : ∀ a a', a < 3 → a' < 3 → cb a = cb a' → a = a'
  n6 : ∀ q q', q < 4 → q' < 4 → pb q = pb q' → q = q'
  k : Keep (fun _ => False) w wr

theorem St.keep0 {w wr w2 : World} {XC XA XV : Nat} {cb pb : Nat → Nat} {P : Nat → PS} {C : Nat → Ce} {T : Nat → One} {ch : Vw} (h : St w wr XC XA XV cb pb P C T ch) (k : Keep (fun _ => False) wr w2) : St w w2 XC XA XV cb pb P C T ch :=
  ⟨(k.block _ (lt_of_block h.xc) (fun e => e)).trans h.xc, (k.block _ (lt_of_block h.xa) (fun e => e)).trans h.xa, (k.block _ (lt_of_block h.xv) (fun e => e)).trans h.xv, fun a ha => (h.ca a ha).keep k (fun e => e), fun q hq => (k.block _ (lt_of_block (h.pa q hq)) (fun e => e)).trans (h.pa q hq), h.n1, h.n2, h.n3, h.n4, h.n5, h.n6, h.k.trans k⟩
/-- A proposer is another one. -/
theorem St.prop {w wr w2 : World} {XC XA XV : Nat} {cb pb : Nat → Nat} {P : Nat → PS} {C : Nat → Ce} {T : Nat → One} {ch : Vw} (h : St w wr XC XA XV cb pb P C T ch) {q : Nat} (hq : q < 4) {s : PS} (hs : PAt w2 (pb q) s) (k : Keep (fun j => j = pb q) wr w2) : St w w2 XC XA XV cb pb (upd P q s) C T ch := by
  obtain ⟨a1, a2, a3, a4⟩ := h.n3 q hq
  refine ⟨(k.block _ (lt_of_block h.xc) (fun e => a2 e.symm)).trans h.xc, (k.block _ (lt_of_block h.xa) (fun e => a3 e.symm)).trans h.xa, (k.block _ (lt_of_block h.xv) (fun e => a4 e.symm)).trans h.xv, fun a ha => (h.ca a ha).keep k (h.n4 a q ha hq), fun j hj => ?_, h.n1, h.n2, h.n3, h.n4, h.n5, h.n6, h.k.then k (fun i e => by omega)⟩
  by_cases e : j = q
  · subst e; rw [upd_same]; exact hs
  · rw [upd_ne _ _ e]
    exact (k.block _ (lt_of_block (h.pa j hj)) (fun e2 => e (h.n6 j q hj hq e2))).trans (h.pa j hj)
/-- An arbiter's cell is another one. -/
theorem St.cell {w wr w2 : World} {XC XA XV : Nat} {cb pb : Nat → Nat} {P : Nat → PS} {C : Nat → Ce} {T : Nat → One} {ch : Vw} (h : St w wr XC XA XV cb pb P C T ch) {a : Nat} (ha : a < 3) {c : Ce} (hc : CAt w2 (cb a) c) (k : Keep (fun j => j = cb a) wr w2) : St w w2 XC XA XV cb pb P (upd C a c) T ch := by
  obtain ⟨a1, a2, a3, a4⟩ := h.n2 a ha
  refine ⟨(k.block _ (lt_of_block h.xc) (fun e => a2 e.symm)).trans h.xc, (k.block _ (lt_of_block h.xa) (fun e => a3 e.symm)).trans h.xa, (k.block _ (lt_of_block h.xv) (fun e => a4 e.symm)).trans h.xv, fun j hj => ?_, fun q hq => (k.block _ (lt_of_block (h.pa q hq)) (fun e => h.n4 a q ha hq e.symm)).trans (h.pa q hq), h.n1, h.n2, h.n3, h.n4, h.n5, h.n6, h.k.then k (fun i e => by omega)⟩
  by_cases e : j = a
  · subst e; rw [upd_same]; exact hc
  · rw [upd_ne _ _ e]
    exact (h.ca j hj).keep k (fun e2 => e (h.n5 j a hj ha e2))
/-- What is kept beside a proposer is another one. -/
theorem allRow_put (pb : Nat → Nat) (T : Nat → One) (q : Nat) (hq : q < 4) (x : One) (cur : Array Value) (h1 : cur.size = 84) (h2 : ∀ j, j < 84 → cur[j]? = if q * 21 ≤ j ∧ j < q * 21 + 21 then (One.row (pb q) x)[j - q * 21]? else (allRow pb T)[j]?) : cur = allRow pb (upd T q x) := by
  apply Array.ext_getElem?
  intro j
  by_cases hj : j < 84
  · obtain ⟨q', j', rfl, hq', hj'⟩ : ∃ q' j', j = q' * 21 + j' ∧ q' < 4 ∧ j' < 21 := ⟨j / 21, j % 21, by omega, by omega, by omega⟩
    rw [h2 _ hj, allRow_at pb (upd T q x) q' hq' j' hj']
    by_cases e : q' = q
    · subst e
      rw [if_pos (by omega), upd_same]
      congr 1
      omega
    · rw [if_neg (by omega), upd_ne _ _ e, allRow_at pb T q' hq' j' hj']
  · rw [Array.getElem?_eq_none (by omega), Array.getElem?_eq_none (by rw [allRow_size]; omega)]

end Go.Proofs.Ytppnjkiegiokeaa.QuoF
