/-
  Layer 22 (net): a packet that comes twice, whatever ways are cut.
-/
import Derived.Test.YtdmdegjomikmlaaNetX
import Derived.Test.YtdmdegjomikmlaaNetC
namespace Go.Proofs.Ytdmdegjomikmlaa.NetL
set_option linter.unusedVariables false
set_option linter.unusedSimpArgs false
open Go.RowKit Go.Proofs.Ytdmdegjomikmlaa.Mem Go.Proofs.Ytdmdegjomikmlaa.NetM Go.Proofs.Ytdmdegjomikmlaa.NetW Go.Proofs.Ytdmdegjomikmlaa.NetS Go.Proofs.Ytdmdegjomikmlaa.NetD Go.Proofs.Ytdmdegjomikmlaa.NetT Go.Proofs.Ytdmdegjomikmlaa.NetA Go.Proofs.Ytdmdegjomikmlaa.NetC Go.Proofs.Ytdmdegjomikmlaa.NetX
attribute [-go_sem] Instr.loadAt loadVar
attribute [local go_sem] loadAt_ptr lv_int lv_bool lv_string lv_u8 lv_ps lv_map

/-- One packet comes twice, whatever ways are cut. -/
theorem double_any {w : World} {F : Nat → Prop} {b n mb : Nat} {ps : List Pk} {S : Int → Int → Bool} {v : Value} (h : NetAt w F b ps n S v mb) (hF : ∀ k, F k → k < w.heap.size) (i : Nat) (p : Pk) (hp : ps[i]? = some p) (hn : ps.length ≤ 99999) :
    Calls Try.prog 13 #[.pointer (some ⟨b, 0, none⟩), .int .i64 i] w fun e w' => e = .returned (.bool ((snd S ps [p]).2 == 1)) ∧ Up w w' F b (snd S ps [p]).1 n S mb := by
  have hi : i < ps.length := (List.getElem?_eq_some_iff.1 hp).1
  have his := is_at h i
  have hd : (decide ((0 : Int) ≤ i) && decide ((i : Int) < (ps.length : Int))) = true := by
    rw [Bool.and_eq_true, decide_eq_true_eq, decide_eq_true_eq]; omega
  rw [hd] at his
  have His := Lib.hid his
  have hne : ps ≠ [] := by intro e; rw [e] at hi; simp at hi
  have hs := send_any h hF TP [p] (by intro q hq; rw [List.mem_singleton.1 hq]; exact h.ok p (List.mem_of_getElem? hp)) (by simp; omega)
  obtain ⟨g, cap, rfl, hg, -, hcell⟩ := row_cells (g := 0) h.o hne
  have c0 : w.cell? ⟨b, 0, none⟩ = some (.slice (some ⟨g, 0, none⟩) ps.length cap) := cell_at h.h 0
  have ld := load_pk w g (i * 4) p (hcell i p hp)
  have HS := Lib.hid hs
  have hi' : (i : Int) < (ps.length : Int) := by omega
  obtain ⟨q, hq⟩ : ∃ q, q = (snd S ps [p]).2 := ⟨_, rfl⟩
  have Hq := Lib.hid hq
  clear h his hd hne hg hcell hp hs hq
  generalize hm : ps.length = m at *
  replace hm := Lib.hid hm
  go_enter Try.func13, Try.ntmps13
  go_wp2_with (first
    | (go_at_call 22; refine His.out.mono ?_; rintro e w1 ⟨rfl, rfl⟩)
    | (go_at_call 10; refine HS.out.mono ?_; rintro e w2 ⟨rfl, U2⟩; rw [← Hq.out]))
  go_ret
  refine ⟨?_, U2⟩
  rw [← Hq.out]
  show Ending.returned (.bool _) = _
  congr 2
  by_cases e : q = 1
  · subst e; rfl
  · rw [beq_eq_false_iff_ne.2 e, beq_eq_false_iff_ne]; omega


end Go.Proofs.Ytdmdegjomikmlaa.NetL
