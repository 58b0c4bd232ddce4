/-
  Layer 22 (net): a packet is put into a row in place of another one.
-/
import Derived.Test.YtdmdegjomikmlaaNdB
namespace Go.Proofs.Ytdmdegjomikmlaa.NdR
set_option linter.unusedVariables false
set_option linter.unusedSimpArgs false
set_option maxRecDepth 100000
open Go.RowKit Go.Proofs.Ytdmdegjomikmlaa.Mem Go.Proofs.Ytdmdegjomikmlaa.NetM Go.Proofs.Ytdmdegjomikmlaa.NetW Go.Proofs.Ytdmdegjomikmlaa.NetS Go.Proofs.Ytdmdegjomikmlaa.NetD Go.Proofs.Ytdmdegjomikmlaa.NetT Go.Proofs.Ytdmdegjomikmlaa.NetA Go.Proofs.Ytdmdegjomikmlaa.NetY Go.Proofs.Ytdmdegjomikmlaa.NetZ Go.Proofs.Ytdmdegjomikmlaa.NetO Go.Proofs.Ytdmdegjomikmlaa.NetB Go.Proofs.Ytdmdegjomikmlaa.NdA Go.Proofs.Ytdmdegjomikmlaa.NdB

theorem set_has {xs : List Value} {arr : Array Value} (h : ∀ (j : Nat) (u : Value), xs[j]? = some u → arr[j]? = some u) (a : Nat) (v : Value) : ∀ (j : Nat) (u : Value), (xs.set a v)[j]? = some u → (arr.setIfInBounds a v)[j]? = some u := by
  intro j u e
  rw [List.getElem?_set] at e
  rw [Array.getElem?_setIfInBounds]
  by_cases hj : a = j
  · subst hj
    rw [if_pos rfl] at e ⊢
    split at e
    · rename_i hl
      have h1 := h a _ (List.getElem?_eq_getElem hl)
      have h2 : a < arr.size := (Array.getElem?_eq_some_iff.1 h1).1
      rw [if_pos h2]
      exact e
    · cases e
  · rw [if_neg hj] at e ⊢
    exact h j u e
theorem flat_set4 (p p' : Pk) : ∀ (ps : List Pk) (i : Nat), ps[i]? = some p → flat (ps.set i p') = ((((flat ps).set (i * 4) (.int .i64 p'.fr)).set (i * 4 + 1) (.int .i64 p'.to_)).set (i * 4 + 2) (.string p'.s)).set (i * 4 + 3) (.bool p'.sp)
  | [], i, h => by simp at h
  | a :: rs, 0, h => by
    simp at h
    subst h
    simp [flat, Pk.cells]
  | a :: rs, i + 1, h => by
    simp at h
    have ih := flat_set4 p p' rs i h
    show a.cells ++ flat (rs.set i _) = ((((a.cells ++ flat rs).set _ _).set _ _).set _ _).set _ _
    rw [ih, show (i + 1) * 4 + 2 = (i * 4 + 2) + 1 + 1 + 1 + 1 from by omega, show (i + 1) * 4 + 3 = (i * 4 + 3) + 1 + 1 + 1 + 1 from by omega, show (i + 1) * 4 + 1 = (i * 4 + 1) + 1 + 1 + 1 + 1 from by omega, show (i + 1) * 4 = (i * 4) + 1 + 1 + 1 + 1 from by omega]
    rfl
theorem row_put {W : World} {g1 c1 k i : Nat} {ps : List Pk} {p : Pk} (h : W.ownsRow 0 TP 4 (.slice (some ⟨g1, 0, none⟩) k c1) k (flat ps)) (hp : ps[i]? = some p) :
    (∀ q, q < 4 → W.cell? ⟨g1, i * 4 + q, none⟩ = p.cells[q]?) ∧ (∀ j, W.frozen? ⟨g1, j, none⟩ = false) ∧ k ≤ c1 ∧
    ∀ p' : Pk, ∃ W', W' = ((((W.setCell ⟨g1, i * 4, none⟩ (.int .i64 p'.fr)).setCell ⟨g1, i * 4 + 1, none⟩ (.int .i64 p'.to_)).setCell ⟨g1, i * 4 + 2, none⟩ (.string p'.s)).setCell ⟨g1, i * 4 + 3, none⟩ (.bool p'.sp)) ∧ Keep (fun q => q = g1) W W' ∧
      ∀ (F S : Nat → Prop) (B : Nat) (wf : World), B ≤ g1 → ¬ F g1 → Keep S W' wf → ¬ S g1 → GRow wf F B (.slice (some ⟨g1, 0, none⟩) k c1) k (flat (ps.set i p')) := by
  rcases h.2 with ⟨h1, -⟩ | ⟨g', cap, cur, hv, hb, hg, h1, h2, h3, ht⟩
  · cases h1
  · simp only [Value.slice.injEq, Option.some.injEq, Addr.mk.injEq, and_true, true_and] at hv
    obtain ⟨rfl, rfl⟩ := hv
    have hx : ∀ (j : Nat) (u : Value), (flat ps)[j]? = some u → cur[j]? = some u := by
      intro j u e
      rw [← ht, List.getElem?_take] at e
      split at e
      · rw [← e]; simp
      · cases e
    refine ⟨fun q hq => ?_, fun j => free_at hg j, h1, fun p' => ⟨_, rfl, ((((Keep.refl (fun q => q = g1) W).set1 _ _).set1 _ _).set1 _ _).set1 _ _, fun F S B wf hB hF kk hS => ?_⟩⟩
    · rw [cell_at hg]
      have e := pk_four ps i p hp q hq
      obtain ⟨u, hu⟩ : ∃ u, p.cells[q]? = some u := ⟨p.cells[q]'(by simp [Pk.cells]; omega), List.getElem?_eq_getElem _⟩
      rw [hu] at e ⊢
      exact hx _ _ e
    · have b4 := block_set (block_set (block_set (block_set hg (i * 4) (.int .i64 p'.fr)) (i * 4 + 1) (.int .i64 p'.to_)) (i * 4 + 2) (.string p'.s)) (i * 4 + 3) (.bool p'.sp)
      have b5 := (kk.block _ (lt_of_block b4) hS).trans b4
      refine ⟨_, c1, rfl, h1, by unfold maxLen at h2; omega, .inr ⟨g1, 0, rfl, hB, lt_of_block b5, hF, fun j u e => ?_⟩⟩
      rw [Nat.zero_add, cell_at b5]
      rw [flat_set4 p p' ps i hp] at e
      exact set_has (set_has (set_has (set_has hx _ _) _ _) _ _) _ _ j u e

end Go.Proofs.Ytdmdegjomikmlaa.NdR
