/-
  Layer 22 (net): the model's ways, one more of them; packets that are kept.
-/
import Derived.Test.YtdmdegjomikmlaaNdB
namespace Go.Proofs.Ytdmdegjomikmlaa.NdT
set_option linter.unusedVariables false
set_option linter.unusedSimpArgs false
set_option maxRecDepth 100000
open Go.RowKit Go.Proofs.Ytdmdegjomikmlaa.Mem Go.Proofs.Ytdmdegjomikmlaa.NetM Go.Proofs.Ytdmdegjomikmlaa.NetW Go.Proofs.Ytdmdegjomikmlaa.NetS Go.Proofs.Ytdmdegjomikmlaa.NetD Go.Proofs.Ytdmdegjomikmlaa.NetT Go.Proofs.Ytdmdegjomikmlaa.NetA Go.Proofs.Ytdmdegjomikmlaa.NetY Go.Proofs.Ytdmdegjomikmlaa.NetZ Go.Proofs.Ytdmdegjomikmlaa.NetO Go.Proofs.Ytdmdegjomikmlaa.NetB Go.Proofs.Ytdmdegjomikmlaa.NdA Go.Proofs.Ytdmdegjomikmlaa.NdB
attribute [-go_sem] Builtin.append_

abbrev TWa : TypeId := 61
abbrev TWs : TypeId := 37
theorem infoWa : (Try.prog.info? TWa).map (fun i => (i.zero, i.size, i.bytes)) = some (some (.agg #[.int .i64 0, .int .i64 0]), 2, 16) := by kernel_rfl
theorem ways_len (cs : List (Int × Int)) : (NetY.ways cs).length = cs.length * 2 := by
  induction cs with
  | nil => rfl
  | cons c cs ih =>
    have e : NetY.ways (c :: cs) = .int .i64 c.1 :: .int .i64 c.2 :: NetY.ways cs := rfl
    rw [e, List.length_cons, List.length_cons, ih, List.length_cons]
    omega
theorem ways_one (cs : List (Int × Int)) : ∀ u ∈ NetY.ways cs, u.oneCell' = true := by
  intro u hu
  simp only [NetY.ways, List.mem_flatMap] at hu
  obtain ⟨c, _, hc⟩ := hu
  simp at hc
  rcases hc with rfl | rfl <;> rfl
theorem ways_app (cs ds : List (Int × Int)) : NetY.ways cs ++ NetY.ways ds = NetY.ways (cs ++ ds) := by simp [NetY.ways]
theorem wapp2 {W : World} {F : Nat → Prop} {B g1 n c1 m : Nat} {v : Value} {cs ds : List (Int × Int)} (hrow : W.ownsRow 0 TWa 2 (.slice (some ⟨g1, 0, none⟩) n c1) n (NetY.ways cs)) (h : GRow W F B v m (NetY.ways ds)) (hn : n ≤ 10000) (hm : m ≤ 10000) (hq : m = ds.length) :
    ∃ g2 c2 w2, (Builtin.append_ #[TWs, TWs] TWs #[.slice (some ⟨g1, 0, none⟩) n c1, v]).run Try.prog W = .ok (.slice (some ⟨g2, 0, none⟩) (n + m) c2) w2 ∧ w2.ownsRow 0 TWa 2 (.slice (some ⟨g2, 0, none⟩) (n + m) c2) (n + m) (NetY.ways (cs ++ ds)) ∧ Keep (fun j => j = g1) W w2 ∧ (g2 = g1 ∨ g2 = W.heap.size) := by
  obtain ⟨i0, hi, hz0, hz1, hz2⟩ := info_parts infoWa
  have h9 := papp TWs TWs TWa i0 _ 2 16 Try.underlying37 hi hz0 hz1 hz2 rfl (by decide) (by decide) hrow h (by rw [ways_len, hq]) (ways_one ds) (by omega) (by omega)
  rw [ways_app] at h9
  exact h9
theorem wapp1 {W : World} {F : Nat → Prop} {B E m : Nat} {v : Value} {ds : List (Int × Int)} (hE : W.heap[E]? = some (.cells #[] TWa (0, 0))) (h : GRow W F B v m (NetY.ways ds)) (hm : m ≤ 10000) (hq : m = ds.length) :
    ∃ g2 c2 w2, (Builtin.append_ #[TWs, TWs] TWs #[.slice (some ⟨E, 0, none⟩) 0 0, v]).run Try.prog W = .ok (.slice (some ⟨g2, 0, none⟩) m c2) w2 ∧ w2.ownsRow 0 TWa 2 (.slice (some ⟨g2, 0, none⟩) m c2) m (NetY.ways ds) ∧ Keep (fun j => j = E) W w2 ∧ (g2 = E ∨ g2 = W.heap.size) := by
  have hrow : W.ownsRow 0 TWa 2 (.slice (some ⟨E, 0, none⟩) 0 0) 0 (NetY.ways []) := ⟨rfl, .inr ⟨E, 0, #[], rfl, Nat.zero_le _, hE, Nat.le_refl _, by unfold maxLen; omega, rfl, rfl⟩⟩
  have h9 := wapp2 hrow h (by omega) hm hq
  simpa using h9
theorem one_way {W : World} {Y : Nat} {a c : Int} (h : W.heap[Y]? = some (.cells #[.int .i64 a, .int .i64 c] TWa (0, 0))) : GRow W (fun _ => False) 0 (.slice (some ⟨Y, 0, none⟩) 1 1) 1 (NetY.ways [(a, c)]) := by
  refine ⟨_, 1, rfl, Nat.le_refl _, by omega, .inr ⟨Y, 0, rfl, Nat.zero_le _, lt_of_block h, fun e => e, fun j u e => ?_⟩⟩
  rw [Nat.zero_add, cell_at h, ← e]
  simp [NetY.ways]
/-- The model's ways lie in a new row. -/
structure Ww (W0 W : World) (M n : Nat) (vl : Value) (cs : List (Int × Int)) (g c : Nat) : Prop where
  m : W.heap[M]? = some (.cells #[vl, .slice (some ⟨g, 0, none⟩) n c] TMo (0, 0))
  k : Keep (fun j => j = M) W0 W
  r : W.ownsRow 0 TWa 2 (.slice (some ⟨g, 0, none⟩) n c) n (NetY.ways cs)
  g : W0.heap.size ≤ g
theorem Ww.mk2 {W0 w3 : World} {M n g c : Nat} {vl v1 : Value} {cs : List (Int × Int)} (hM : W0.heap[M]? = some (.cells #[vl, v1] TMo (0, 0))) (k : Keep (fun _ => False) W0 w3) (hr : w3.ownsRow 0 TWa 2 (.slice (some ⟨g, 0, none⟩) n c) n (NetY.ways cs)) (hg : W0.heap.size ≤ g) :
    Ww W0 (w3.setCell ⟨M, 1, none⟩ (.slice (some ⟨g, 0, none⟩) n c)) M n vl cs g c := by
  have hb := (k.block _ (lt_of_block hM) (fun e => e)).trans hM
  refine ⟨(block_set hb 1 _).trans (by simp), k.to1.set1 _ _, owns_keep hr ((Keep.refl (fun j => j = M) w3).set1 _ _) (fun q e f => ?_), hg⟩
  have : g = q := by simpa [Value.ownBlock] using e
  have := lt_of_block hM
  omega

/-- Of the first packets those that are kept lie in a new row. -/
structure Kp (W0 wr : World) (ps : List Pk) (f : Pk → Bool) (j g c : Nat) : Prop where
  k : Keep (fun _ => False) W0 wr
  r : wr.ownsRow 0 TP 4 (.slice (some ⟨g, 0, none⟩) ((ps.take j).filter f).length c) ((ps.take j).filter f).length (flat ((ps.take j).filter f))
  g : W0.heap.size ≤ g
theorem Kp.start {W0 : World} {ps : List Pk} {f : Pk → Bool} : Kp W0 (W0.alloc (.cells #[] TP)) ps f 0 W0.heap.size 0 :=
  ⟨(Keep.refl _ _).alloc _, ⟨rfl, .inr ⟨W0.heap.size, 0, #[], rfl, Nat.zero_le _, block_new W0 _, Nat.le_refl _, by unfold maxLen; omega, rfl, rfl⟩⟩, Nat.le_refl _⟩
theorem Kp.keep {W0 wr w2 : World} {ps : List Pk} {f : Pk → Bool} {j g c : Nat} (h : Kp W0 wr ps f j g c) (k : Keep (fun _ => False) wr w2) : Kp W0 w2 ps f j g c :=
  ⟨h.k.trans k, owns_keep h.r k (fun _ _ e => e), h.g⟩
theorem Kp.skip {W0 wr : World} {ps : List Pk} {f : Pk → Bool} {j g c : Nat} {p : Pk} (h : Kp W0 wr ps f j g c) (hp : ps[j]? = some p) (hf : f p = false) : Kp W0 wr ps f (j + 1) g c := by
  have e : (ps.take (j + 1)).filter f = (ps.take j).filter f := by rw [List.take_add_one, hp]; simp [hf]
  exact ⟨h.k, by rw [e]; exact h.r, h.g⟩
theorem kept_len (ps : List Pk) (f : Pk → Bool) (j : Nat) : ((ps.take j).filter f).length ≤ ps.length := by
  have h1 := List.length_filter_le f (ps.take j)
  have h2 := List.length_take_le j ps
  have h3 : (ps.take j).length ≤ ps.length := by rw [List.length_take]; omega
  omega
theorem Kp.more {W0 wr : World} {ps : List Pk} {f : Pk → Bool} {j g c : Nat} {p : Pk} (h : Kp W0 wr ps f j g c) (hp : ps[j]? = some p) (hf : f p = true) (hn : ps.length ≤ 5000) :
    ∃ g2 c2 w2, (Builtin.append_ #[TSl, TSl] TSl #[.slice (some ⟨g, 0, none⟩) ((ps.take j).filter f).length c, .slice (some ⟨wr.heap.size, 0, none⟩) 1 1]).run Try.prog (wr.alloc (.cells p.cells.toArray TP)) = .ok (.slice (some ⟨g2, 0, none⟩) ((ps.take (j + 1)).filter f).length c2) w2 ∧ Kp W0 w2 ps f (j + 1) g2 c2 := by
  have ka : Keep (fun _ => False) wr (wr.alloc (.cells p.cells.toArray TP)) := (Keep.refl _ _).alloc _
  have hl := kept_len ps f j
  obtain ⟨g2, c2, w2, hrun, hr, hk, hg⟩ := app2 (owns_keep h.r ka (fun _ _ e => e)) (one_grow (block_new wr _)) (by omega) (by omega) rfl
  have e : (ps.take (j + 1)).filter f = (ps.take j).filter f ++ [p] := by rw [List.take_add_one, hp]; simp [hf]
  have e2 : ((ps.take (j + 1)).filter f).length = ((ps.take j).filter f).length + 1 := by rw [e]; simp
  refine ⟨g2, c2, w2, by rw [e2]; exact hrun, ?_, by rw [e2, e]; exact hr, ?_⟩
  · exact (h.k.trans ka).then hk (fun q e => by have := h.g; omega)
  · have := h.g
    have := (h.k.trans ka).size
    omega

end Go.Proofs.Ytdmdegjomikmlaa.NdT
