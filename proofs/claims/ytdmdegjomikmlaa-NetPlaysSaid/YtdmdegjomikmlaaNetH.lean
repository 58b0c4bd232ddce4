/-
  Layer 22 (net): Heal; the closure of Cut.
-/
import Derived.Test.YtdmdegjomikmlaaNetC
import Derived.Test.YtdmdegjomikmlaaNetR
namespace Go.Proofs.Ytdmdegjomikmlaa.NetH
set_option linter.unusedVariables false
set_option linter.unusedSimpArgs false
open Go.RowKit Go.Proofs.Ytdmdegjomikmlaa.Mem Go.Proofs.Ytdmdegjomikmlaa.NetM Go.Proofs.Ytdmdegjomikmlaa.NetW Go.Proofs.Ytdmdegjomikmlaa.NetS Go.Proofs.Ytdmdegjomikmlaa.NetD Go.Proofs.Ytdmdegjomikmlaa.NetT Go.Proofs.Ytdmdegjomikmlaa.NetA
attribute [-go_sem] Instr.loadAt loadVar
attribute [local go_sem] loadAt_ptr lv_int lv_bool lv_string lv_u8 lv_ps lv_map

theorem heal_at {w : World} {F : Nat → Prop} {b n mb : Nat} {ps : List Pk} {S : Int → Int → Bool} {v : Value} (h : NetAt w F b ps n S v mb) :
    Calls Try.prog 16 #[.pointer (some ⟨b, 0, none⟩)] w fun e w' => e = .returned (.tuple #[]) ∧ NetAt w' F b ps n no v mb ∧ Keep F w w' := by
  obtain ⟨w1, hrun, hc1, hg1⟩ := h.c.clear
  have c1 : w.cell? ⟨b, 1, none⟩ = some (.map (some mb)) := cell_at h.h 1
  have k1 : Keep (fun k => k = mb) w w1 := (Keep.refl _ w).grown hg1 (fun k e => .inl (by cases e; rfl))
  have hmb := net_mb_ne h
  have n1 : NetAt w1 F b ps n no v mb := ⟨(k1.block b (lt_of_block h.h) (fun e => hmb e.symm)).trans h.h, owns_keep h.o k1 (fun i e e2 => net_nm h (by rw [e, e2])), hc1.mono (Nat.zero_le _), h.nb, h.fb, h.fm, h.fo, h.ok⟩
  have k2 : Keep F w w1 := k1.mono (fun k _ e => by subst e; exact h.fm)
  have N1 := Lib.hid n1
  have K2 := Lib.hid k2
  clear n1 k2 k1 hc1 hg1 h
  go_enter Try.func16, Try.ntmps16
  go_wp2_with fail
  exact bodyPost_end (v := .tuple #[]) (by simp [results, Try.results16, go_sem]) rfl ⟨rfl, N1.out, K2.out⟩

/-- The way of a packet is (a, b)'s, whichever end is named first. -/
def same (a b : Int) (p : Pk) : Bool := min p.fr p.to_ == min a b && max p.fr p.to_ == max a b

end Go.Proofs.Ytdmdegjomikmlaa.NetH
