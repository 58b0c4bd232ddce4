/-
  Layer 17 (quorum): the law on what is let be.
-/
import Derived.Test.YtppnjkiegiokeaaQuoO0
import Derived.Test.YtppnjkiegiokeaaQuoO1
import Derived.Test.YtppnjkiegiokeaaQuoO2
import Derived.Test.YtppnjkiegiokeaaQuoO3
import Derived.Test.YtppnjkiegiokeaaQuoOp
namespace Go.Proofs.Ytppnjkiegiokeaa.QuoOth
open Go.RowKit Go.Proofs.Ytppnjkiegiokeaa.QuoW Go.Proofs.Ytppnjkiegiokeaa.QuoU Go.Proofs.Ytppnjkiegiokeaa.QuoA Go.Proofs.Ytppnjkiegiokeaa.QuoT
theorem quorumOther_walk (frm bal : Int) (v : Value) (w : World) (_ : (Lit.int .i64 frm).wf = true) (_ : (Lit.int .u64 bal).wf = true) (hv : ∃ x : Pr, v = x.agg) :
    Calls Try.prog 4 #[.int .i64 frm, .int .u64 bal, v] w fun e w' => e = .returned (.bool true) ∧ Below w.heap.size w w' := by
  obtain ⟨⟨ok, xv, xm, xb, va, vc⟩, rfl⟩ := hv
  cases h : okP s03 false frm bal ⟨ok, xv, xm, xb, va, vc⟩
  · by_cases hn : frm < 0
    · have e : frm.tmod 3 = -((-frm) % 3) := by rw [← Int.tmod_eq_emod_of_nonneg (by omega), Int.neg_tmod, Int.neg_neg]
      have hr : frm.tmod 3 = 0 ∨ frm.tmod 3 = -2 ∨ frm.tmod 3 = -1 := by omega
      rcases hr with hr | hr | hr
      · exact QuoO1.lets0 frm bal ok xv xm xb va vc w h (.inl ⟨hn, hr⟩)
      · exact QuoO2.lets1 frm bal ok xv xm xb va vc w h (.inl ⟨hn, hr⟩)
      · exact QuoO3.lets2 frm bal ok xv xm xb va vc w h (.inl ⟨hn, hr⟩)
    · have hr : frm % 3 = 0 ∨ frm % 3 = 1 ∨ frm % 3 = 2 := by omega
      rcases hr with hr | hr | hr
      · exact QuoO1.lets0 frm bal ok xv xm xb va vc w h (.inr ⟨by omega, hr⟩)
      · exact QuoO2.lets1 frm bal ok xv xm xb va vc w h (.inr ⟨by omega, hr⟩)
      · exact QuoO3.lets2 frm bal ok xv xm xb va vc w h (.inr ⟨by omega, hr⟩)
  · unfold okP at h
    simp only [Bool.and_eq_true, decide_eq_true_eq] at h
    obtain ⟨⟨⟨⟨⟨h1, h2⟩, -⟩, h3⟩, h4⟩, h5⟩ := h
    have h3' : bal = 4294967302 := h3
    have h4' : ok = true := h4
    have h5' : xv = 2 := h5
    subst h3' h4' h5'
    have hk : frm = 0 ∨ frm = 1 ∨ frm = 2 := by omega
    rcases hk with rfl | rfl | rfl
    · exact QuoO0.counts0 xm xb va vc w
    · exact QuoO0.counts1 xm xb va vc w
    · exact QuoO0.counts2 xm xb va vc w
end Go.Proofs.Ytppnjkiegiokeaa.QuoOth
