/-
  Layer 13 (log): records put behind records, in a new row.
-/
import Derived.Test.YtiokngcfenfieaaLogA
import Derived.Deep.AppendLies
import Derived.Test.YtiokngcfenfieaaMem2
namespace Go.Proofs.Ytiokngcfenfieaa.LogC
set_option linter.unusedVariables false
set_option linter.unusedSimpArgs false
set_option maxRecDepth 100000
open Go.RowKit Go.Proofs.Ytiokngcfenfieaa.Mem Go.Proofs.Ytiokngcfenfieaa.LogW Go.Proofs.Ytiokngcfenfieaa.LogV Go.Proofs.Ytiokngcfenfieaa.LogU Go.Proofs.Ytiokngcfenfieaa.LogT Go.Proofs.Ytiokngcfenfieaa.LogS Go.Proofs.Ytiokngcfenfieaa.LogL Go.Proofs.Ytiokngcfenfieaa.LogA

abbrev TS : TypeId := 34
theorem app_empty (ao : Option Addr) (cap : Nat) (ty : TypeId) (e : Nat) (w : World) : (Builtin.append_ #[TS, TS] ty #[.slice (some ⟨e, 0, none⟩) 0 0, .slice ao 0 cap]).run Try.prog w = .ok (.slice (some ⟨e, 0, none⟩) 0 0) w := by
  cases ao <;> simp [go_sem, storeCells]

theorem infoR3 : ∃ i : TypeInfo, Try.prog.info? TR = some i ∧ i.zero = some (.agg #[.int .u64 0, .int .u64 0, .int .u64 0, .int .u64 0, .int .i64 0, .string ⟨#[]⟩, .string ⟨#[]⟩, .int .u64 0, .int .u64 0]) ∧ i.size = 9 ∧ i.bytes = 88 := info_parts Try.info_rec
theorem app_first {W : World} {E : Nat} {F : Nat → Prop} {B n cap : Nat} {ao : Option Addr} {rs : List Rec} (hE : W.heap[E]? = some (.cells #[] TR (0, 0))) (h : MRow W F B (.slice ao n cap) rs) (hn : n ≤ 256) (hnr : n = rs.length) (ty : TypeId) :
    ∃ g1 c1 w2, (Builtin.append_ #[TS, TS] ty #[.slice (some ⟨E, 0, none⟩) 0 0, .slice ao n cap]).run Try.prog W = .ok (.slice (some ⟨g1, 0, none⟩) n c1) w2 ∧ w2.ownsRow 0 TR 9 (.slice (some ⟨g1, 0, none⟩) n c1) n (flat rs) ∧ Keep (fun j => j = E) W w2 ∧ (g1 = E ∨ g1 = W.heap.size) := by
  have hrow : W.ownsRow 0 TR 9 (.slice (some ⟨E, 0, none⟩) 0 0) 0 [] := ⟨rfl, .inr ⟨E, 0, #[], rfl, Nat.zero_le _, hE, Nat.le_refl _, by unfold maxLen; omega, rfl, rfl⟩⟩
  obtain ⟨a1, cap1, hv, hc, hc9, hm⟩ := h
  simp only [Value.slice.injEq] at hv
  obtain ⟨rfl, -, rfl⟩ := hv
  rcases hm with rfl | ⟨g, off, rfl, hg1, hg2, hg3, hg4⟩
  · have : n = 0 := by simpa using hnr
    subst this
    exact ⟨E, 0, W, app_empty ao cap ty E W, hrow, Keep.refl _ _, .inl rfl⟩
  · by_cases h0 : n = 0
    · subst h0
      have hrs : rs = [] := List.eq_nil_of_length_eq_zero hnr.symm
      subst hrs
      exact ⟨E, 0, W, app_empty _ cap ty E W, hrow, Keep.refl _ _, .inl rfl⟩
    · obtain ⟨i0, hi, hz0, hz1, hz2⟩ := infoR3
      obtain ⟨g', c', w2, hrun, hown, hgrow, hat, hlt⟩ := run_append_lies (P := Try.prog) (w := W) TS ty 0 TR i0 _ 9 88 Try.underlying34 hi hz0 hz1 hz2 rfl (by decide) (.slice (some ⟨E, 0, none⟩) 0 0) 0 [] hrow ⟨g, off, none⟩ n cap (flat rs) (by rw [flat_length, hnr])
        (fun j u e => by have := hg4 j u e; rw [← this]; congr 1; unfold Addr.add; split <;> simp_all) (flat_one_cell rs) (by omega) (by unfold maxLen; omega) (by omega) (Nat.zero_le _) _ rfl
      rw [Nat.zero_add, List.nil_append] at hown
      rw [Nat.zero_add] at hrun
      refine ⟨g', c', w2, hrun, hown, (Keep.refl _ W).grown hgrow (fun k e => .inl ?_), ?_⟩
      · simpa [Value.ownBlock] using e.symm
      · rcases hat with e | e
        · left; simpa [Value.ownBlock] using e.symm
        · exact .inr e
theorem app_second {W : World} {g1 n c1 Y : Nat} {rs : List Rec} (hrow : W.ownsRow 0 TR 9 (.slice (some ⟨g1, 0, none⟩) n c1) n (flat rs)) (r : Rec) (hY : W.heap[Y]? = some (.cells r.cells.toArray TR (0, 0))) (hn : n ≤ 256) (ty : TypeId) :
    ∃ g2 c2 w3, (Builtin.append_ #[TS, TS] ty #[.slice (some ⟨g1, 0, none⟩) n c1, .slice (some ⟨Y, 0, none⟩) 1 1]).run Try.prog W = .ok (.slice (some ⟨g2, 0, none⟩) (n + 1) c2) w3 ∧ w3.ownsRow 0 TR 9 (.slice (some ⟨g2, 0, none⟩) (n + 1) c2) (n + 1) (flat (rs ++ [r])) ∧ Keep (fun j => j = g1) W w3 ∧ (g2 = g1 ∨ g2 = W.heap.size) := by
  obtain ⟨i0, hi, hz0, hz1, hz2⟩ := infoR3
  obtain ⟨g', c', w2, hrun, hown, hgrow, hat, hlt⟩ := run_append_lies (P := Try.prog) (w := W) TS ty 0 TR i0 _ 9 88 Try.underlying34 hi hz0 hz1 hz2 rfl (by decide) (.slice (some ⟨g1, 0, none⟩) n c1) n (flat rs) hrow ⟨Y, 0, none⟩ 1 1 r.cells (by simp [Rec.cells])
    (World.news_of_block hY) (by have := flat_one_cell [r]; rw [flat_one] at this; exact this) (by omega) (by unfold maxLen; omega) (by omega) (Nat.zero_le _) _ rfl
  refine ⟨g', c', w2, hrun, ?_, (Keep.refl _ W).grown hgrow (fun k e => .inl ?_), ?_⟩
  · rw [flat_append, flat_one]; exact hown
  · simpa [Value.ownBlock] using e.symm
  · rcases hat with e | e
    · left; simpa [Value.ownBlock] using e.symm
    · exact .inr e

theorem row_mrow {W : World} {F : Nat → Prop} {B g n c : Nat} {rs : List Rec} (h : W.ownsRow 0 TR 9 (.slice (some ⟨g, 0, none⟩) n c) n (flat rs)) (hn : n = rs.length) (hB : B ≤ g) (hF : ¬ F g) : MRow W F B (.slice (some ⟨g, 0, none⟩) n c) rs := by
  rcases h.2 with ⟨h1, -⟩ | ⟨g', cap, cur, hv, hb, hg, h1, h2, h3, ht⟩
  · cases h1
  · simp only [Value.slice.injEq, Option.some.injEq, Addr.mk.injEq, and_true, true_and] at hv
    obtain ⟨rfl, rfl⟩ := hv
    refine ⟨_, c, by rw [hn], by rw [← hn]; exact h1, by unfold maxLen at h2; omega, .inr ⟨g, 0, rfl, hB, lt_of_block hg, hF, fun j u e => ?_⟩⟩
    rw [Nat.zero_add, cell_at hg]
    have hj := (List.getElem?_eq_some_iff.1 e).1
    rw [← ht, List.getElem?_take] at e
    split at e
    · rw [← e]; simp
    · cases e

/-- The model's records lie in a new row. -/
structure App (W0 W : World) (M base most n : Nat) (rs : List Rec) (g c : Nat) : Prop where
  m : W.heap[M]? = some (.cells #[.int .u64 (base : Int), .slice (some ⟨g, 0, none⟩) n c, .int .i64 (most : Int)] TM (0, 0))
  k : Keep (fun j => j = M) W0 W
  r : W.ownsRow 0 TR 9 (.slice (some ⟨g, 0, none⟩) n c) n (flat rs)
  g : W0.heap.size ≤ g
theorem App.mk2 {W0 w3 : World} {M base most n g c : Nat} {v0 : Value} {rs : List Rec} (hM : W0.heap[M]? = some (.cells #[.int .u64 (base : Int), v0, .int .i64 (most : Int)] TM (0, 0))) (k : Keep (fun _ => False) W0 w3) (hr : w3.ownsRow 0 TR 9 (.slice (some ⟨g, 0, none⟩) n c) n (flat rs)) (hg : W0.heap.size ≤ g) :
    App W0 (w3.setCell ⟨M, 1, none⟩ (.slice (some ⟨g, 0, none⟩) n c)) M base most n rs g c := by
  have hb := (k.block _ (lt_of_block hM) (fun e => e)).trans hM
  refine ⟨(block_set hb 1 _).trans (by simp), k.to1.set1 _ _, owns_keep hr ((Keep.refl (fun j => j = M) w3).set1 _ _) (fun q e f => ?_), hg⟩
  have : g = q := by simpa [Value.ownBlock] using e
  have := lt_of_block hM
  omega

end Go.Proofs.Ytiokngcfenfieaa.LogC
