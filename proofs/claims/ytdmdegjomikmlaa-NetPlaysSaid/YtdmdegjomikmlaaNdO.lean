/-
  Layer 22 (net): the law NetPlays: the network and the model, at play.
-/
import Derived.Test.YtdmdegjomikmlaaNdB
namespace Go.Proofs.Ytdmdegjomikmlaa.NdO
set_option linter.unusedVariables false
set_option linter.unusedSimpArgs false
set_option maxRecDepth 100000
open Go.RowKit Go.Proofs.Ytdmdegjomikmlaa.Mem Go.Proofs.Ytdmdegjomikmlaa.NetM Go.Proofs.Ytdmdegjomikmlaa.NetW Go.Proofs.Ytdmdegjomikmlaa.NetS Go.Proofs.Ytdmdegjomikmlaa.NetD Go.Proofs.Ytdmdegjomikmlaa.NetT Go.Proofs.Ytdmdegjomikmlaa.NetA Go.Proofs.Ytdmdegjomikmlaa.NetY Go.Proofs.Ytdmdegjomikmlaa.NetZ Go.Proofs.Ytdmdegjomikmlaa.NetO Go.Proofs.Ytdmdegjomikmlaa.NetB Go.Proofs.Ytdmdegjomikmlaa.NdA Go.Proofs.Ytdmdegjomikmlaa.NdB

/-- A row of numbers does not lie in a box of slices. -/
theorem GRow.apart {W : World} {F : Nat → Prop} {B K n : Nat} {v a b : Value} {xs : List Value} {T : TypeId} {fr : Nat × Nat} (h : GRow W F B v n xs) (hK : W.heap[K]? = some (.cells #[a, b] T fr)) (ha : ∀ y, a ≠ .int .i64 y) (hb : ∀ y, b ≠ .int .i64 y) (hx : n = 0 ∨ ∃ y, xs[0]? = some (.int .i64 y)) : GRow W (fun i => F i ∨ i = K) B v n xs := by
  obtain ⟨ao, cap, h1, h2, h9, h3⟩ := h
  refine ⟨ao, cap, h1, h2, h9, ?_⟩
  rcases h3 with h3 | ⟨g, off, h4, h5, h6, h7, h8⟩
  · exact .inl h3
  · rcases hx with hx | ⟨y, hy⟩
    · exact .inl hx
    refine .inr ⟨g, off, h4, h5, h6, fun f => f.elim h7 (fun e => ?_), h8⟩
    subst e
    have h10 := h8 0 _ hy
    rw [cell_at hK, Nat.add_zero] at h10
    match off, h10 with
    | 0, h10 => simp at h10; exact ha y h10
    | 1, h10 => simp at h10; exact hb y h10
    | q + 2, h10 => simp at h10
theorem flat0 (ps : List Pk) : ps.length = 0 ∨ ∃ y, (flat ps)[0]? = some (.int .i64 y) := by
  cases ps with
  | nil => exact .inl rfl
  | cons p ps => exact .inr ⟨p.fr, by simp [flat, Pk.cells]⟩
theorem ways0 (cs : List (Int × Int)) : cs.length = 0 ∨ ∃ y, (NetY.ways cs)[0]? = some (.int .i64 y) := by
  cases cs with
  | nil => exact .inl rfl
  | cons c cs => exact .inr ⟨c.1, by simp [NetY.ways]⟩

/-- The network and the model, at play. -/
structure Pl (w wr : World) (F : Nat → Prop) (b mb M n : Nat) (vl vc : Value) (ps : List Pk) (cs : List (Int × Int)) (S : Int → Int → Bool) (v : Value) : Prop where
  net : NetAt wr F b ps n S v mb
  foot : ∀ i, F i → i < wr.heap.size
  fw : ∀ i, F i → w.heap.size ≤ i
  same : Same S cs
  off : ∀ p ∈ ps, offL cs p.fr p.to_ = false
  l : GRow wr F w.heap.size vl ps.length (flat ps)
  c : GRow wr F w.heap.size vc cs.length (NetY.ways cs)
  m : wr.heap[M]? = some (.cells #[vl, vc] TMo (0, 0))
  n : ¬ F M
  hM : w.heap.size ≤ M
  k : Keep (fun _ => False) w wr
theorem Pl.keep0 {w wr w2 : World} {F : Nat → Prop} {b mb M n : Nat} {vl vc v : Value} {ps : List Pk} {cs : List (Int × Int)} {S : Int → Int → Bool} (h : Pl w wr F b mb M n vl vc ps cs S v) (k : Keep (fun _ => False) wr w2) : Pl w w2 F b mb M n vl vc ps cs S v :=
  ⟨h.net.keep0 k, fun i f => Nat.lt_of_lt_of_le (h.foot i f) k.size, h.fw, h.same, h.off, h.l.keep k (fun _ _ e => e.elim), h.c.keep k (fun _ _ e => e.elim), (k.block _ (lt_of_block h.m) (fun e => e)).trans h.m, h.n, h.hM, h.k.trans k⟩
theorem Pl.to {w wr : World} {F : Nat → Prop} {b mb M n k m cl cc : Nat} {al ac : Option Addr} {v : Value} {ps : List Pk} {cs : List (Int × Int)} {S : Int → Int → Bool} (h : Pl w wr F b mb M n (.slice al k cl) (.slice ac m cc) ps cs S v) (h1 : ps.length ≤ 500) (h2 : cs.length ≤ 500) (h3 : n ≤ 500) : In wr F w.heap.size b mb n k m cl cc al ac ps cs S v := by
  have hk : k = ps.length := by
    obtain ⟨ao, cap, e, -⟩ := h.l
    simp only [Value.slice.injEq] at e
    exact e.2.1
  have hm : m = cs.length := by
    obtain ⟨ao, cap, e, -⟩ := h.c
    simp only [Value.slice.injEq] at e
    exact e.2.1
  exact ⟨h.net, h.foot, h.same, h.off, hk, hm, by omega, by omega, h3, by rw [hk]; have := h.l; rwa [hk] at this, by rw [hm]; have := h.c; rwa [hm] at this, h.k.size⟩
/-- Behind a round's 'do': the network, the model in its new box and in its old one. -/
def Nx (w W : World) (b mb M K : Nat) (n : Nat) (ps : List Pk) (cs : List (Int × Int)) (vl vc : Value) : Prop :=
  ∃ F' ps' cs' n' S' v', NetAt W F' b ps' n' S' v' mb ∧ (∀ i, F' i → i < W.heap.size) ∧ (∀ i, F' i → w.heap.size ≤ i) ∧ Same S' cs' ∧ (∀ p ∈ ps', offL cs' p.fr p.to_ = false) ∧ GRow W F' w.heap.size vl ps'.length (flat ps') ∧ GRow W F' w.heap.size vc cs'.length (NetY.ways cs') ∧
    (∃ a0 a1, W.heap[M]? = some (.cells #[a0, a1] TMo (0, 0)) ∧ (∀ y, a0 ≠ .int .i64 y) ∧ (∀ y, a1 ≠ .int .i64 y)) ∧ W.heap[K]? = some (.cells #[vl, vc] TMo (0, 0)) ∧ ¬ F' M ∧ K ≠ M ∧ Keep (fun _ => False) w W ∧ w.heap.size ≤ M ∧ ps'.length ≤ ps.length + 1 ∧ cs'.length ≤ cs.length + 1 ∧ n' ≤ n + 1
theorem Nx.mk {w wr wc w4 wk : World} {F : Nat → Prop} {b mb M K n : Nat} {vl vc vl4 vc4 v e0 e1 : Value} {ps : List Pk} {cs : List (Int × Int)} {S : Int → Int → Bool} (hP : Pl w wr F b mb M n vl vc ps cs S v) (k0 : Keep (fun _ => False) wr wc) (hD : Did wc w4 F b mb ps cs n w.heap.size vl4 vc4) (kk : Keep (fun _ => False) w4 wk)
    (hz : wk.heap[K]? = some (.cells #[e0, e1] TMo (0, 0))) (he0 : ∀ y, e0 ≠ .int .i64 y) (he1 : ∀ y, e1 ≠ .int .i64 y) (hK : K = w4.heap.size ∨ (wr.heap.size ≤ K ∧ K < wc.heap.size)) :
    Nx w ((wk.setCell ⟨K, 0, none⟩ vl4).setCell ⟨K, 1, none⟩ vc4) b mb M K n ps cs vl4 vc4 := by
  obtain ⟨F', ps', cs', n', S', v', hN, f1, f2, k, hS, ho, r1, r2, h1, h2, h3⟩ := hD
  have s0 := k0.size
  have s1 := k.size
  have s2 := kk.size
  have sw := hP.k.size
  have hMw := lt_of_block hP.m
  have hKF : ¬ F' K := fun e => by
    have h5 := f1 K e
    rcases hK with h6 | ⟨h6, h7⟩
    · omega
    · rcases f2 K e with h8 | h8
      · have := hP.foot K h8; omega
      · omega
  have hKM : K ≠ M := by rcases hK with h6 | ⟨h6, h7⟩ <;> omega
  have hMF : ¬ F' M := fun e => by
    rcases f2 M e with h8 | h8
    · exact hP.n h8
    · omega
  have kK : Keep (fun j => j = K) wk ((wk.setCell ⟨K, 0, none⟩ vl4).setCell ⟨K, 1, none⟩ vc4) := ((Keep.refl _ _).set1 _ _).set1 _ _
  have hF9 : ∀ i, F' i → w.heap.size ≤ i := fun i e => (f2 i e).elim (hP.fw i) (fun h => by omega)
  have hl : vl = vl ∧ ∀ y, vl ≠ .int .i64 y := ⟨rfl, fun y e => by obtain ⟨a, c, e2, -⟩ := hP.l; rw [e2] at e; cases e⟩
  have hc : ∀ y, vc ≠ .int .i64 y := fun y e => by obtain ⟨a, c, e2, -⟩ := hP.c; rw [e2] at e; cases e
  refine ⟨F', ps', cs', n', S', v', (hN.keep0 kk).keep kK (fun i f e => hKF (by rw [← e]; exact f)), fun i f => Nat.lt_of_lt_of_le (f1 i f) (Nat.le_trans s2 kK.size), hF9, hS, ho, ?_, ?_, ⟨vl, vc, ?_, hl.2, hc⟩, ?_, hMF, hKM, ?_, hP.hM, h1, h2, h3⟩
  · exact ((GRow.apart (r1.keep kk (fun _ _ e => e.elim)) hz he0 he1 (flat0 _)).keep kK (fun i _ e => .inr e)).turn (fun i _ e => .inl e)
  · exact ((GRow.apart (r2.keep kk (fun _ _ e => e.elim)) hz he0 he1 (ways0 _)).keep kK (fun i _ e => .inr e)).turn (fun i _ e => .inl e)
  · exact (kK.block _ (by omega) (fun e => hKM e.symm)).trans ((kk.block _ (by omega) (fun e => e)).trans ((k.block _ (by omega) hP.n).trans ((k0.block _ hMw (fun e => e)).trans hP.m)))
  · have := block_set (block_set hz 0 vl4) 1 vc4
    simpa using this
  · refine (((hP.k.trans k0).then k (fun i e => hP.fw i e)).trans kk).then kK (fun i e => ?_)
    rcases hK with h6 | ⟨h6, h7⟩ <;> omega
/-- The new model is laid into the old one's box. -/
theorem Nx.put {w W : World} {b mb M K n : Nat} {ps : List Pk} {cs : List (Int × Int)} {vl vc : Value} (h : Nx w W b mb M K n ps cs vl vc) :
    ∃ F' ps' cs' n' S' v', Pl w ((W.setCell ⟨M, 0, none⟩ vl).setCell ⟨M, 1, none⟩ vc) F' b mb M n' vl vc ps' cs' S' v' ∧ ps'.length ≤ ps.length + 1 ∧ cs'.length ≤ cs.length + 1 ∧ n' ≤ n + 1 := by
  obtain ⟨F', ps', cs', n', S', v', hN, f1, f2, hS, ho, r1, r2, ⟨a0, a1, hM, ha0, ha1⟩, hK, nM, nKM, k, hMw, h1, h2, h3⟩ := h
  have kM : Keep (fun j => j = M) W ((W.setCell ⟨M, 0, none⟩ vl).setCell ⟨M, 1, none⟩ vc) := ((Keep.refl _ _).set1 _ _).set1 _ _
  refine ⟨F', ps', cs', n', S', v', ⟨hN.keep kM (fun i f e => nM (by rw [← e]; exact f)), fun i f => Nat.lt_of_lt_of_le (f1 i f) kM.size, f2, hS, ho, ?_, ?_, ?_, nM, hMw, k.then kM (fun i e => by omega)⟩, h1, h2, h3⟩
  · exact ((GRow.apart r1 hM ha0 ha1 (flat0 _)).keep kM (fun i _ e => .inr e)).turn (fun i _ e => .inl e)
  · exact ((GRow.apart r2 hM ha0 ha1 (ways0 _)).keep kM (fun i _ e => .inr e)).turn (fun i _ e => .inl e)
  · have := block_set (block_set hM 0 vl) 1 vc
    simpa using this

end Go.Proofs.Ytdmdegjomikmlaa.NdO
