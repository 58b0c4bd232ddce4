/-
  Layer 22 (net): the law's own model: do.
-/
import Derived.Test.YtdmdegjomikmlaaNdA
namespace Go.Proofs.Ytdmdegjomikmlaa.NdB
set_option linter.unusedVariables false
set_option linter.unusedSimpArgs false
set_option maxRecDepth 100000
open Go.RowKit Go.Proofs.Ytdmdegjomikmlaa.Mem Go.Proofs.Ytdmdegjomikmlaa.NetM Go.Proofs.Ytdmdegjomikmlaa.NetW Go.Proofs.Ytdmdegjomikmlaa.NetS Go.Proofs.Ytdmdegjomikmlaa.NetD Go.Proofs.Ytdmdegjomikmlaa.NetT Go.Proofs.Ytdmdegjomikmlaa.NetA Go.Proofs.Ytdmdegjomikmlaa.NetY Go.Proofs.Ytdmdegjomikmlaa.NetZ Go.Proofs.Ytdmdegjomikmlaa.NetO Go.Proofs.Ytdmdegjomikmlaa.NetB Go.Proofs.Ytdmdegjomikmlaa.NetF Go.Proofs.Ytdmdegjomikmlaa.NetH Go.Proofs.Ytdmdegjomikmlaa.NetU Go.Proofs.Ytdmdegjomikmlaa.NdA

/-- What 'do' comes to. -/
def Did (w w' : World) (F : Nat → Prop) (b mb : Nat) (ps : List Pk) (cs : List (Int × Int)) (n : Nat) (B : Nat) (vl vc : Value) : Prop :=
  ∃ F' ps' cs' n' S' v', NetAt w' F' b ps' n' S' v' mb ∧ (∀ i, F' i → i < w'.heap.size) ∧ (∀ i, F' i → F i ∨ w.heap.size ≤ i) ∧ Keep F w w' ∧ Same S' cs' ∧ (∀ p ∈ ps', offL cs' p.fr p.to_ = false) ∧
    GRow w' F' B vl ps'.length (flat ps') ∧ GRow w' F' B vc cs'.length (NetY.ways cs') ∧ ps'.length ≤ ps.length + 1 ∧ cs'.length ≤ cs.length + 1 ∧ n' ≤ n + 1

theorem Did.of {w W w2 wf : World} {F F2 S0 : Nat → Prop} {b mb B n n' : Nat} {ps ps' : List Pk} {cs cs' : List (Int × Int)} {S' : Int → Int → Bool} {v' vl vc : Value} (hF : ∀ i, F i → i < w.heap.size) (k1 : Keep (fun _ => False) w W) (hN : NetAt w2 F2 b ps' n' S' v' mb) (f1 : ∀ i, F2 i → i < w2.heap.size) (f2 : ∀ i, F2 i → F i ∨ W.heap.size ≤ i) (k2 : Keep F W w2)
    (hS0 : ∀ i, S0 i → w.heap.size ≤ i ∧ i < W.heap.size) (kf : Keep S0 w2 wf) (hS : Same S' cs') (ho : ∀ p ∈ ps', offL cs' p.fr p.to_ = false) (hr : Keep F w wf → GRow wf F2 B vl ps'.length (flat ps') ∧ GRow wf F2 B vc cs'.length (NetY.ways cs')) (h1 : ps'.length ≤ ps.length + 1) (h2 : cs'.length ≤ cs.length + 1) (h3 : n' ≤ n + 1) : Did w wf F b mb ps cs n B vl vc := by
  have s1 := k1.size
  have s2 := kf.size
  have kall : Keep F w wf := (k1.toAny.trans k2).trans' kf (fun i hi e => by have := hS0 i e; omega)
  obtain ⟨r1, r2⟩ := hr kall
  refine ⟨F2, ps', cs', n', S', v', hN.keep kf (fun i f e => ?_), fun i f => Nat.lt_of_lt_of_le (f1 i f) s2, fun i f => (f2 i f).imp id (fun e => by omega), kall, hS, ho, r1, r2, h1, h2, h3⟩
  have h4 := hS0 i e
  rcases f2 i f with h5 | h5
  · have := hF i h5; omega
  · omega

/-- What 'do' is given. -/
structure In (w : World) (F : Nat → Prop) (B b mb n k m cl cc : Nat) (al ac : Option Addr) (ps : List Pk) (cs : List (Int × Int)) (S : Int → Int → Bool) (v : Value) : Prop where
  net : NetAt w F b ps n S v mb
  foot : ∀ i, F i → i < w.heap.size
  same : Same S cs
  off : ∀ p ∈ ps, offL cs p.fr p.to_ = false
  hk : k = ps.length
  hm : m = cs.length
  k9 : k ≤ 500
  m9 : m ≤ 500
  n9 : n ≤ 500
  l : GRow w F B (.slice al k cl) k (flat ps)
  c : GRow w F B (.slice ac m cc) m (NetY.ways cs)
  b : B ≤ w.heap.size

theorem pk_four (ps : List Pk) : ∀ (j : Nat) (p : Pk), ps[j]? = some p → ∀ q, q < 4 → (flat ps)[j * 4 + q]? = p.cells[q]? := by
  induction ps with
  | nil => intro j p h; simp at h
  | cons x ps ih =>
    intro j p h q hq
    have e : flat (x :: ps) = x.cells ++ flat ps := rfl
    have hl : x.cells.length = 4 := rfl
    cases j with
    | zero =>
      have : x = p := by simpa using h
      subst this
      rw [e, List.getElem?_append_left (by omega)]
      simp
    | succ j =>
      rw [e, List.getElem?_append_right (by omega), ← ih j p (by simpa using h) q hq]
      congr 1
      omega

theorem In.at4 {w W : World} {F : Nat → Prop} {B b mb n k m cl cc : Nat} {al ac : Option Addr} {ps : List Pk} {cs : List (Int × Int)} {S : Int → Int → Bool} {v : Value} (h : In w F B b mb n k m cl cc al ac ps cs S v) (kk : Keep F w W) (i : Nat) (hi : i < k) :
    ∃ g off p, al = some ⟨g, off, none⟩ ∧ k ≤ cl ∧ cl ≤ 9223372036854775807 ∧ ps[i]? = some p ∧ p ∈ ps ∧ g < w.heap.size ∧ ¬ F g ∧ (∀ q, q < 4 → w.cell? ⟨g, off + i * 4 + q, none⟩ = p.cells[q]?) := by
  obtain ⟨ao, cap, hv, h1, h9, h2⟩ := h.l
  simp only [Value.slice.injEq, true_and] at hv
  obtain ⟨rfl, rfl⟩ := hv
  rcases h2 with h2 | ⟨g, off, h4, h5, h6, h7, h8⟩
  · omega
  · have hk := h.hk
    obtain ⟨p, hp⟩ : ∃ p, ps[i]? = some p := ⟨ps[i]'(by omega), List.getElem?_eq_getElem _⟩
    refine ⟨g, off, p, h4, h1, h9, hp, List.mem_of_getElem? hp, h6, h7, fun q hq => ?_⟩
    have e := pk_four ps i p hp q hq
    have hc : ∃ u, p.cells[q]? = some u := ⟨p.cells[q]'(by simp [Pk.cells]; omega), List.getElem?_eq_getElem _⟩
    obtain ⟨u, hu⟩ := hc
    rw [hu, Nat.add_assoc]
    exact h8 _ u (e.trans hu)
/-- Nothing happened. -/
theorem Did.stay {w W w2 wf : World} {F : Nat → Prop} {B b mb n k m cl cc : Nat} {al ac : Option Addr} {ps : List Pk} {cs : List (Int × Int)} {S : Int → Int → Bool} {v : Value} (hI : In w F B b mb n k m cl cc al ac ps cs S v) (k1 : Keep (fun _ => False) w W) (hsW : W.heap.size = w.heap.size + 3) (k2 : Keep (fun _ => False) W w2) (kz : Keep (fun q => q = w.heap.size + 1 + 1) w2 wf) :
    Did w wf F b mb ps cs n B (.slice al k cl) (.slice ac m cc) := by
  refine Did.of (S0 := fun q => q = w.heap.size + 1 + 1) hI.foot k1 (hI.net.keep0 (k1.trans k2)) (fun i f => by have := hI.foot i f; have := k2.size; omega) (fun i f => .inl f) k2.toAny (fun i e => by omega) kz hI.same hI.off (fun kk => ?_) (by omega) (by omega) (by omega)
  rw [← hI.hk, ← hI.hm]
  exact ⟨hI.l.keep kk (fun _ _ e => e), hI.c.keep kk (fun _ _ e => e)⟩
/-- A packet came, or was lost. -/
theorem Did.less {w W w2 w3 wf : World} {F : Nat → Prop} {B b mb n k m cl cc i g2 c2 : Nat} {al ac : Option Addr} {ps : List Pk} {cs : List (Int × Int)} {S : Int → Int → Bool} {v v' : Value} (hI : In w F B b mb n k m cl cc al ac ps cs S v) (k1 : Keep (fun _ => False) w W) (hsW : W.heap.size = w.heap.size + 3) (hi : i < k)
    (hN : NetAt w2 F b (ps.eraseIdx i) n S v' mb) (k2 : Keep F W w2) (k3 : Keep (fun _ => False) w2 w3) (hr : w3.ownsRow 0 TP 4 (.slice (some ⟨g2, 0, none⟩) (k - 1) c2) (k - 1) (flat (ps.take i ++ ps.drop (i + 1)))) (hg : W.heap.size ≤ g2) (kz : Keep (fun q => q = w.heap.size + 1 + 1) w3 wf) :
    Did w wf F b mb ps cs n B (.slice (some ⟨g2, 0, none⟩) (k - 1) c2) (.slice ac m cc) := by
  have hk := hI.hk
  have hl : (ps.eraseIdx i).length = k - 1 := by rw [List.length_eraseIdx_of_lt (by omega), ← hk]
  refine Did.of (S0 := fun q => q = w.heap.size + 1 + 1) hI.foot k1 hN (fun i f => by have := hI.foot i f; have := k2.size; omega) (fun i f => .inl f) k2 (fun i e => by omega) (k3.toAny.trans kz) hI.same (fun p hp => hI.off p (List.mem_of_mem_eraseIdx hp)) (fun kk => ?_) (by omega) (by omega) (by omega)
  rw [hl, ← hI.hm, List.eraseIdx_eq_take_drop_succ]
  refine ⟨row_grow (owns_keep hr kz (fun q e f => ?_)) (by have := hI.b; omega) (fun f => by have := hI.foot _ f; omega), hI.c.keep kk (fun _ _ e => e)⟩
  have : g2 = q := by simpa [Value.ownBlock] using e
  omega

end Go.Proofs.Ytdmdegjomikmlaa.NdB
