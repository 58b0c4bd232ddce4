/-
  Layer 22 (net): the law's own model: rows put behind rows.
-/
import Derived.Test.YtdmdegjomikmlaaNetY
namespace Go.Proofs.Ytdmdegjomikmlaa.NetZ
set_option linter.unusedVariables false
set_option linter.unusedSimpArgs false
set_option maxRecDepth 100000
open Go.RowKit Go.Proofs.Ytdmdegjomikmlaa.Mem Go.Proofs.Ytdmdegjomikmlaa.NetM Go.Proofs.Ytdmdegjomikmlaa.NetW Go.Proofs.Ytdmdegjomikmlaa.NetS Go.Proofs.Ytdmdegjomikmlaa.NetD Go.Proofs.Ytdmdegjomikmlaa.NetT Go.Proofs.Ytdmdegjomikmlaa.NetA Go.Proofs.Ytdmdegjomikmlaa.NetY

/-- Nothing is put behind a row. -/
theorem app_none (T ty : TypeId) (e n c : Nat) (ao : Option Addr) (cap : Nat) (E : TypeId) (i : TypeInfo) (z : Value) (ht : Try.prog.underlying T = some (.slice E)) (hi : Try.prog.info? E = some i) (hz : i.zero = some z) (hn : n ≤ c) (hn9 : n ≤ 1000000) (w : World) :
    (Builtin.append_ #[T, T] ty #[.slice (some ⟨e, 0, none⟩) n c, .slice ao 0 cap]).run Try.prog w = .ok (.slice (some ⟨e, 0, none⟩) n c) w := by
  have hs : (sizeOf E).run Try.prog w = .ok i.size w := by simp [sizeOf, typeInfo, go_sem, hi]
  cases ao <;> simp [go_sem, storeCells, run_underlying ht, hi, hz, hn, hs]
/-- A row is put behind a row of one's own. -/
theorem papp {W : World} {F : Nat → Prop} {B g1 n c1 m : Nat} {v : Value} {xs ys : List Value} (T ty E : TypeId) (i : TypeInfo) (z : Value) (size bytes : Nat) (ht : Try.prog.underlying T = some (.slice E)) (hi : Try.prog.info? E = some i) (hz : i.zero = some z) (hsize : i.size = size) (hby : i.bytes = bytes) (hzs : z.cells.size = size) (hsz : 0 < size) (hb64 : bytes ≤ 64)
    (hrow : W.ownsRow 0 E size (.slice (some ⟨g1, 0, none⟩) n c1) n xs) (h : GRow W F B v m ys) (hl : ys.length = m * size) (h1 : ∀ u ∈ ys, u.oneCell' = true) (hn : n ≤ 100000) (hm : m ≤ 100000) :
    ∃ g2 c2 w2, (Builtin.append_ #[T, T] ty #[.slice (some ⟨g1, 0, none⟩) n c1, v]).run Try.prog W = .ok (.slice (some ⟨g2, 0, none⟩) (n + m) c2) w2 ∧ w2.ownsRow 0 E size (.slice (some ⟨g2, 0, none⟩) (n + m) c2) (n + m) (xs ++ ys) ∧ Keep (fun j => j = g1) W w2 ∧ (g2 = g1 ∨ g2 = W.heap.size) := by
  obtain ⟨ao, cap, hv, hc, hc9, hm1⟩ := h
  subst hv
  by_cases h0 : m = 0
  · subst h0
    have hys : ys = [] := List.eq_nil_of_length_eq_zero (by simpa using hl)
    subst hys
    have hnc : n ≤ c1 := by
      rcases hrow.2 with ⟨h5, -⟩ | ⟨g, cap', cur, h5, -, -, h6, -, -, -⟩
      · cases h5
      · simp only [Value.slice.injEq] at h5
        obtain ⟨-, -, rfl⟩ := h5
        exact h6
    exact ⟨g1, c1, W, app_none T ty g1 n c1 ao cap E i z ht hi hz hnc (by omega) W, by simpa using hrow, Keep.refl _ _, .inl rfl⟩
  · rcases hm1 with hm1 | ⟨g, off, rfl, hg1, hg2, hg3, hg4⟩
    · exact absurd hm1 h0
    have hby2 : (n + m) * bytes ≤ 140737488355328 := by
      have : (n + m) * bytes ≤ 200000 * 64 := Nat.mul_le_mul (by omega) hb64
      omega
    obtain ⟨g', c', w2, hrun, hown, hgrow, hat, hlt⟩ := run_append_lies (P := Try.prog) (w := W) T ty 0 E i z size bytes ht hi hz hsize hby hzs hsz (.slice (some ⟨g1, 0, none⟩) n c1) n xs hrow ⟨g, off, none⟩ m cap ys hl
      (fun j u e => by have := hg4 j u e; rw [← this]; congr 1; unfold Addr.add; split <;> simp_all) h1 (by omega) (by unfold maxLen; omega) hby2 (Nat.zero_le _) _ rfl
    refine ⟨g', c', w2, hrun, hown, (Keep.refl _ W).grown hgrow (fun k e => .inl ?_), ?_⟩
    · simpa [Value.ownBlock] using e.symm
    · rcases hat with e | e
      · left; simpa [Value.ownBlock] using e.symm
      · exact .inr e
/-- A row of one's own is read. -/
theorem row_grow {W : World} {F : Nat → Prop} {B g n c size : Nat} {E : TypeId} {xs : List Value} (h : W.ownsRow 0 E size (.slice (some ⟨g, 0, none⟩) n c) n xs) (hB : B ≤ g) (hF : ¬ F g) : GRow W F B (.slice (some ⟨g, 0, none⟩) n c) n xs := by
  rcases h.2 with ⟨h1, -⟩ | ⟨g', cap, cur, hv, hb, hg, h1, h2, h3, ht⟩
  · cases h1
  · simp only [Value.slice.injEq, Option.some.injEq, Addr.mk.injEq, and_true, true_and] at hv
    obtain ⟨rfl, rfl⟩ := hv
    refine ⟨_, c, rfl, h1, by unfold maxLen at h2; omega, .inr ⟨g, 0, rfl, hB, lt_of_block hg, hF, fun j u e => ?_⟩⟩
    rw [Nat.zero_add, cell_at hg]
    have hj := (List.getElem?_eq_some_iff.1 e).1
    rw [← ht, List.getElem?_take] at e
    split at e
    · rw [← e]; simp
    · cases e
/-- A part of a row. -/
theorem GRow.part {W : World} {F : Nat → Prop} {B n size d m : Nat} {ao : Option Addr} {cap : Nat} {xs : List Value} (h : GRow W F B (.slice ao n cap) n xs) (hl : xs.length = n * size) (hd : d + m ≤ n) (hm : 0 < m) (ao' : Option Addr) (cap' : Nat) (hc : m ≤ cap') (hc9 : cap' ≤ 9223372036854775807)
    (ha : ∀ g off, ao = some ⟨g, off, none⟩ → ao' = some ⟨g, off + d * size, none⟩) : GRow W F B (.slice ao' m cap') m ((xs.drop (d * size)).take (m * size)) := by
  obtain ⟨a1, c1, hv, h2, h9, h3⟩ := h
  simp only [Value.slice.injEq, true_and] at hv
  obtain ⟨rfl, rfl⟩ := hv
  refine ⟨ao', cap', rfl, hc, hc9, ?_⟩
  rcases h3 with h3 | ⟨g, off, rfl, h5, h6, h7, h8⟩
  · omega
  · refine .inr ⟨g, off + d * size, ha g off rfl, h5, h6, h7, fun j u e => ?_⟩
    rw [List.getElem?_take] at e
    split at e
    · rw [List.getElem?_drop] at e
      have := h8 _ u e
      rw [Nat.add_assoc]
      exact this
    · cases e

end Go.Proofs.Ytdmdegjomikmlaa.NetZ
