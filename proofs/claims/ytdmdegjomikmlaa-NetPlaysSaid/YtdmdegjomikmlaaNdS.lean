/-
  Layer 22 (net): the law's own model: do, one packet is sent: what both come to.
-/
import Derived.Test.YtdmdegjomikmlaaNdB
import Derived.Test.YtdmdegjomikmlaaNetX
namespace Go.Proofs.Ytdmdegjomikmlaa.NdS
set_option linter.unusedVariables false
set_option linter.unusedSimpArgs false
set_option maxRecDepth 100000
open Go.RowKit Go.Proofs.Ytdmdegjomikmlaa.Mem Go.Proofs.Ytdmdegjomikmlaa.NetM Go.Proofs.Ytdmdegjomikmlaa.NetW Go.Proofs.Ytdmdegjomikmlaa.NetS Go.Proofs.Ytdmdegjomikmlaa.NetD Go.Proofs.Ytdmdegjomikmlaa.NetT Go.Proofs.Ytdmdegjomikmlaa.NetA Go.Proofs.Ytdmdegjomikmlaa.NetY Go.Proofs.Ytdmdegjomikmlaa.NetZ Go.Proofs.Ytdmdegjomikmlaa.NetO Go.Proofs.Ytdmdegjomikmlaa.NetB Go.Proofs.Ytdmdegjomikmlaa.NetF Go.Proofs.Ytdmdegjomikmlaa.NetH Go.Proofs.Ytdmdegjomikmlaa.NetU Go.Proofs.Ytdmdegjomikmlaa.NdA Go.Proofs.Ytdmdegjomikmlaa.NdB

theorem snd_len {S : Int → Int → Bool} {cs : List (Int × Int)} (h : Same S cs) (ps : List Pk) (p : Pk) : (snd S ps [p]).1.length ≤ ps.length + 1 := by
  rw [stp_eq h ps p]
  split <;> simp
theorem snd_off {S : Int → Int → Bool} {cs : List (Int × Int)} (h : Same S cs) {ps : List Pk} {p : Pk} (ho : ∀ q ∈ ps, offL cs q.fr q.to_ = false) : ∀ q ∈ (snd S ps [p]).1, offL cs q.fr q.to_ = false := by
  rw [stp_eq h ps p]
  split
  · exact ho
  · rename_i h1
    intro q hq
    rw [List.mem_append, List.mem_singleton] at hq
    rcases hq with hq | rfl
    · exact ho q hq
    · have : ¬ offL cs q.fr q.to_ = true := fun e => h1 (.inr e)
      simpa using this
theorem send_m2 {w : World} {F : Nat → Prop} {B n cl m cc : Nat} {al ac : Option Addr} {ps : List Pk} {cs : List (Int × Int)} {S : Int → Int → Bool} {p : Pk} (hS : Same S cs) (hF : ∀ i, F i → i < w.heap.size) (hB : B ≤ w.heap.size) (hn : n = ps.length) (hn9 : n ≤ 500) (hm : m = cs.length) (hm9 : m ≤ 500) (hp : GRow w F B (.slice al n cl) n (flat ps)) (hc : GRow w F B (.slice ac m cc) m (NetY.ways cs)) :
    Calls Try.prog 27 #[.agg #[.slice al n cl, .slice ac m cc], p.agg] w fun e w' => ∃ a c, e = .returned (.tuple #[.agg #[.slice a (snd S ps [p]).1.length c, .slice ac m cc], .bool ((snd S ps [p]).2 == 1)]) ∧ GRow w' F B (.slice a (snd S ps [p]).1.length c) (snd S ps [p]).1.length (flat (snd S ps [p]).1) ∧ Keep (fun _ => False) w w' := by
  refine (send_m al n cl ac m cc cs ps p w F B hn (by omega) hm (by omega) hp hc).mono ?_
  intro e w' h
  unfold Sent at h
  rw [stp_eq hS ps p]
  split at h
  · rename_i h1
    rw [if_pos h1]
    obtain ⟨rfl, k⟩ := h
    refine ⟨al, cl, by rw [← hn]; rfl, ?_, k⟩
    rw [← hn]
    exact hp.keep k (fun _ _ e => e.elim)
  · rename_i h1
    rw [if_neg h1]
    obtain ⟨g2, c2, rfl, r, hg, k⟩ := h
    have hl : (ps ++ [p]).length = n + 1 := by simp [hn]
    refine ⟨some ⟨g2, 0, none⟩, c2, by rw [hl]; rfl, ?_, k⟩
    rw [hl]
    exact row_grow r (by omega) (fun f => by have := hF _ f; omega)

/-- The model behind send lies in a box of its own. -/
structure Nx (w2 w' : World) (F : Nat → Prop) (B X k2 : Nat) (a : Option Addr) (c m cc : Nat) (ac : Option Addr) (xs : List Value) : Prop where
  x : w2.heap.size ≤ X
  k : Keep (fun _ => False) w2 w'
  b : w'.heap[X]? = some (.cells #[.slice a k2 c, .slice ac m cc] TMo (0, 0))
  r : GRow w' F B (.slice a k2 c) k2 xs

/-- One packet is sent: the network first, then the model. -/
theorem Did.sent {w W w2 w3 wf : World} {F F2 : Nat → Prop} {B b mb n k m cl cc c : Nat} {al ac a : Option Addr} {ps ps' : List Pk} {cs : List (Int × Int)} {S : Int → Int → Bool} {v v2 : Value} (hI : In w F B b mb n k m cl cc al ac ps cs S v) (k1 : Keep (fun _ => False) w W) (hsW : W.heap.size = w.heap.size + 3)
    (hN : NetAt w2 F2 b ps' n S v2 mb) (f1 : ∀ i, F2 i → i < w2.heap.size) (f2 : ∀ i, F2 i → F i ∨ W.heap.size ≤ i) (k2 : Keep F W w2) (hl : ps'.length ≤ ps.length + 1) (ho : ∀ q ∈ ps', offL cs q.fr q.to_ = false)
    (hr : GRow w3 (fun q => F2 q ∨ q = w.heap.size + 1 + 1) B (.slice a ps'.length c) ps'.length (flat ps')) (k3 : Keep (fun _ => False) w2 w3) (kz : Keep (fun q => q = w.heap.size + 1 + 1) w3 wf) :
    Did w wf F b mb ps cs n B (.slice a ps'.length c) (.slice ac m cc) := by
  refine Did.of (S0 := fun q => q = w.heap.size + 1 + 1) hI.foot k1 hN f1 f2 k2 (fun i e => by omega) (k3.toAny.trans kz) hI.same ho (fun kk => ⟨?_, ?_⟩) hl (by omega) (by omega)
  · exact (hr.keep kz (fun i _ e => .inr e)).turn (fun i _ e => .inl e)
  · rw [← hI.hm]
    exact hI.c.move kk (fun i f => (f2 i f).imp id (fun e => by omega))

end Go.Proofs.Ytdmdegjomikmlaa.NdS
