/-
  Layer 22 (net): All (slices.Clone of packets), Double.
-/
import Derived.Test.YtdmdegjomikmlaaNetA
namespace Go.Proofs.Ytdmdegjomikmlaa.NetC
set_option linter.unusedVariables false
set_option linter.unusedSimpArgs false
open Go.RowKit Go.Proofs.Ytdmdegjomikmlaa.Mem Go.Proofs.Ytdmdegjomikmlaa.NetM Go.Proofs.Ytdmdegjomikmlaa.NetW Go.Proofs.Ytdmdegjomikmlaa.NetS Go.Proofs.Ytdmdegjomikmlaa.NetD Go.Proofs.Ytdmdegjomikmlaa.NetT Go.Proofs.Ytdmdegjomikmlaa.NetA
attribute [-go_sem] Instr.loadAt loadVar
attribute [local go_sem] loadAt_ptr lv_int lv_bool lv_string lv_u8 lv_ps lv_map

theorem clone_nil (w : World) :
    Calls Try.prog 23 #[.slice none 0 0] w fun e w' => e = .returned (.slice none 0 0) ∧ w = w' := by
  have hn := fun w => Lib.run_eql_slice_nil (P := Try.prog) w 32 27 none 0 0 0 0 Try.underlying32
  go_enter Try.func23, Try.ntmps23
  go_wp2
  go_ret
  exact ⟨rfl, rfl⟩

theorem clone_some (g off n cap : Nat) (xs : List Value) (w : World) (hg : g < w.heap.size) (hx : xs.length = n * 4) (hone : ∀ u ∈ xs, u.oneCell' = true) (hc : ∀ j u, xs[j]? = some u → w.cell? ⟨g, off + j, none⟩ = some u) (hn : n ≤ 1000000) :
    Calls Try.prog 23 #[.slice (some ⟨g, off, none⟩) n cap] w fun e w' => ∃ v', e = .returned v' ∧ w'.ownsRow w.heap.size TP 4 v' n xs ∧ Keep (fun _ => False) w w' := by
  have hn' := fun w => Lib.run_eql_slice_nil (P := Try.prog) w 32 27 (some ⟨g, off, none⟩) n cap 0 0 Try.underlying32
  obtain ⟨i0, hi, hz0, hz1, hz2⟩ := info_parts infoPk
  have Hx := Lib.hid hx
  clear hx
  have Hc := Lib.hid hc
  clear hc
  have Ho := Lib.hid hone
  clear hone
  go_enter Try.func23, Try.ntmps23
  go_wp2_with (at_builtin; refine wpList_append_own _ rfl (.tmp 5) (.tmp 6) 32 rfl w.heap.size 27 i0 _ 4 40 Try.underlying32 hi hz0 hz1 hz2 rfl (by decide) _ 0 [] rfl ?c1 ⟨g, off, none⟩ n cap xs rfl Hx.out ?c2 Ho.out (by unfold maxLen; omega) (by omega) ?c3 ?c4)
  case c1 => exact World.ownsRow_made w #[] 0 (Nat.le_refl _) (by unfold maxLen; omega) rfl
  case c2 =>
    intro j u hj
    rw [show (⟨g, off, none⟩ : Addr).add j = ⟨g, off + j, none⟩ from by simp [Addr.add], World.cell?_alloc_past _ _ _ hg]
    exact Hc.out j u hj
  case c3 => simp
  case c4 =>
    intro v' w' hown hgrow _
    go_wp2
    go_ret
    exact ⟨_, rfl, hown, Keep.grown ((Keep.refl _ _).alloc _) hgrow (fun k hk => .inr (by
      have : w.heap.size = k := by simpa [Value.ownBlock] using hk
      omega))⟩

theorem all_at {w : World} {F : Nat → Prop} {b n mb : Nat} {ps : List Pk} {S : Int → Int → Bool} {v : Value} (h : NetAt w F b ps n S v mb) (hn : ps.length ≤ 1000000) :
    Calls Try.prog 14 #[.pointer (some ⟨b, 0, none⟩)] w fun e w' => ∃ v', e = .returned v' ∧ w'.ownsRow w.heap.size TP 4 v' ps.length (flat ps) ∧ Keep (fun _ => False) w w' := by
  have ho := h.o
  rcases ho.2 with ⟨rfl, h0⟩ | ⟨g, cap, cur, rfl, -, hg, h1, h2, h3, ht⟩
  · have c0 : w.cell? ⟨b, 0, none⟩ = some (.slice none 0 0) := cell_at h.h 0
    have hps := List.length_eq_zero_iff.1 h0
    clear h ho
    go_enter Try.func14, Try.ntmps14
    go_wp2_with (go_at_call 23; refine (clone_nil _).mono ?_; rintro e w1 ⟨rfl, rfl⟩)
    go_ret
    exact ⟨_, rfl, by rw [hps]; exact World.ownsRow_nil _ _ _ _, Keep.refl _ _⟩
  · have c0 : w.cell? ⟨b, 0, none⟩ = some (.slice (some ⟨g, 0, none⟩) ps.length cap) := cell_at h.h 0
    have hcl := clone_some g 0 ps.length cap (flat ps) w (lt_of_block hg) (flat_length ps) (flat_one_cell ps) (fun j u hj => by
      rw [Nat.zero_add, cell_at hg, ← Array.getElem?_toList]
      rw [← ht, List.getElem?_take] at hj
      split at hj
      · exact hj
      · cases hj) hn
    have Hcl := Lib.hid hcl
    clear h ho hg ht hcl h3
    generalize ps.length = m at *
    go_enter Try.func14, Try.ntmps14
    go_wp2_with (go_at_call 23; refine Hcl.out.mono ?_; rintro e w1 ⟨v', rfl, o1, k1⟩)
    go_ret
    exact ⟨_, rfl, o1, k1⟩

theorem double_out {w : World} {F : Nat → Prop} {b n mb : Nat} {ps : List Pk} {S : Int → Int → Bool} {v : Value} (h : NetAt w F b ps n S v mb) (i : Int) (hi : ¬ (0 ≤ i ∧ i < ps.length)) :
    Calls Try.prog 13 #[.pointer (some ⟨b, 0, none⟩), .int .i64 i] w fun e w' => e = .returned (.bool false) ∧ w = w' := by
  have his := is_at h i
  have hd : (decide (0 ≤ i) && decide (i < (ps.length : Int))) = false := by
    rw [← Bool.not_eq_true, Bool.and_eq_true, decide_eq_true_eq, decide_eq_true_eq]; exact hi
  rw [hd] at his
  have His := Lib.hid his
  clear h his hi hd
  go_enter Try.func13, Try.ntmps13
  go_wp2_with (go_at_call 22; refine His.out.mono ?_; rintro e w1 ⟨rfl, rfl⟩)
  go_ret
  exact ⟨rfl, rfl⟩

theorem double_in {w : World} {F : Nat → Prop} {b n mb : Nat} {ps : List Pk} {S : Int → Int → Bool} {v : Value} (h : NetAt w F b ps n S v mb) (hF : ∀ k, F k → k < w.heap.size) (i : Nat) (p : Pk) (hp : ps[i]? = some p) (hn : ps.length ≤ 99999) (hop : S (min p.fr p.to_) (max p.fr p.to_) = false) :
    Calls Try.prog 13 #[.pointer (some ⟨b, 0, none⟩), .int .i64 i] w fun e w' => e = .returned (.bool ((snd S ps [p]).2 == 1)) ∧ Up w w' F b (snd S ps [p]).1 n S mb := by
  have hi : i < ps.length := (List.getElem?_eq_some_iff.1 hp).1
  have his := is_at h i
  have hd : (decide ((0 : Int) ≤ i) && decide ((i : Int) < (ps.length : Int))) = true := by
    rw [Bool.and_eq_true, decide_eq_true_eq, decide_eq_true_eq]; omega
  rw [hd] at his
  have His := Lib.hid his
  have hne : ps ≠ [] := by intro e; rw [e] at hi; simp at hi
  have hs := send_row h hF TP [p] (by intro q hq; rw [List.mem_singleton.1 hq]; exact h.ok p (List.mem_of_getElem? hp)) (by simp; omega) (by intro q hq; rw [List.mem_singleton.1 hq]; exact hop)
  obtain ⟨g, cap, rfl, hg, -, hcell⟩ := row_cells (g := 0) h.o hne
  have c0 : w.cell? ⟨b, 0, none⟩ = some (.slice (some ⟨g, 0, none⟩) ps.length cap) := cell_at h.h 0
  have ld := load_pk w g (i * 4) p (hcell i p hp)
  have HS := Lib.hid hs
  have hi' : (i : Int) < (ps.length : Int) := by omega
  obtain ⟨q, hq⟩ : ∃ q, q = (snd S ps [p]).2 := ⟨_, rfl⟩
  have Hq := Lib.hid hq
  clear h his hd hne hg hcell hp hs hop hq
  generalize hm : ps.length = m at *
  replace hm := Lib.hid hm
  go_enter Try.func13, Try.ntmps13
  go_wp2_with (first
    | (go_at_call 22; refine His.out.mono ?_; rintro e w1 ⟨rfl, rfl⟩)
    | (go_at_call 10; refine HS.out.mono ?_; rintro e w2 ⟨rfl, U2⟩; rw [← Hq.out]))
  go_ret
  refine ⟨?_, U2⟩
  rw [← Hq.out]
  show Ending.returned (.bool _) = _
  congr 2
  by_cases e : q = 1
  · subst e; rfl
  · rw [beq_eq_false_iff_ne.2 e, beq_eq_false_iff_ne]; omega

end Go.Proofs.Ytdmdegjomikmlaa.NetC
