/-
  Layer 19 (ship): when nothing is lost any more, the other one has all.
-/
import Derived.Test.YtiboacnjmogjaaaShpF
import Derived.Test.YtiboacnjmogjaaaOpen
import Derived.Test.YtiboacnjmogjaaaMask
namespace Go.Proofs.Ytiboacnjmogjaaa.ShpG
set_option linter.unusedVariables false
set_option linter.unusedSimpArgs false
open Go.RowKit Go.Proofs.Ytiboacnjmogjaaa.Mem Go.Proofs.Ytiboacnjmogjaaa.Open Go.Proofs.Ytiboacnjmogjaaa.Mask Go.Proofs.Ytiboacnjmogjaaa.LogW Go.Proofs.Ytiboacnjmogjaaa.LogV Go.Proofs.Ytiboacnjmogjaaa.LogU Go.Proofs.Ytiboacnjmogjaaa.LogL Go.Proofs.Ytiboacnjmogjaaa.ShpW Go.Proofs.Ytiboacnjmogjaaa.ShpA Go.Proofs.Ytiboacnjmogjaaa.ShpF

theorem frs_all (q : Int) (L : List Rec) (hq : 0 ≤ q) (h : ∀ (i : Nat) (r : Rec), L[i]? = some r → r.seq = q + i + 1) : frs q L = (q + L.length, L) := by
  have key : ∀ k, k ≤ L.length → frs q (L.take k) = (q + k, L.take k) := by
    intro k
    induction k with
    | zero => intro _; simp [frs]
    | succ k ih =>
      intro hk
      obtain ⟨r, hr⟩ : ∃ r, L[k]? = some r := ⟨L[k]'(by omega), List.getElem?_eq_getElem _⟩
      have hs := h k r hr
      rw [take_snoc' L k r hr, frs_snoc, ih (by omega)]
      unfold stp
      rw [if_pos (by simp only; omega)]
      congr 1
      simp only
      omega
  have := key L.length (Nat.le_refl _)
  rwa [List.take_length] at this
theorem frs_none (q : Int) (L : List Rec) (h : ∀ r ∈ L, r.seq - 1 ≠ q) : frs q L = (q, []) := by
  have key : ∀ (L : List Rec), (∀ r ∈ L, r.seq - 1 ≠ q) → L.foldl stp (q, []) = (q, []) := by
    intro L
    induction L with
    | nil => intro _; rfl
    | cons r L ih =>
      intro h
      rw [List.foldl_cons]
      have : stp (q, []) r = (q, []) := by unfold stp; rw [if_neg (fun hc => h r (by simp) hc.2)]
      rw [this]
      exact ih (fun x hx => h x (List.mem_cons_of_mem _ hx))
  exact key L h
theorem bat_seq (n u i : Nat) (r : Rec) (h : (batch (seqs 0 n) u)[i]? = some r) : r.seq = (u : Int) + i + 1 := by
  have hi : i < bat n u := by
    rcases Nat.lt_or_ge i (bat n u) with h' | h'
    · exact h'
    · rw [List.getElem?_eq_none (by rw [bat_length]; exact h')] at h; cases h
  rw [bat_at n u i hi] at h
  cases h
  rfl
theorem bat_mem (n u : Nat) (r : Rec) (h : r ∈ batch (seqs 0 n) u) : ∃ i : Nat, i < bat n u ∧ r.seq = (u : Int) + i + 1 := by
  obtain ⟨i, hi⟩ := List.mem_iff_getElem?.1 h
  refine ⟨i, ?_, bat_seq n u i r hi⟩
  have := (List.getElem?_eq_some_iff.1 hi).1
  rwa [bat_length] at this

section
variable {w0 w : World} {F F' : Nat → Prop} {b lb a s t n u : Nat} {v : Value}
theorem sl_fresh_all (h : SL w0 w F b lb a s t n) (hr : RowAt w F' v (batch (seqs 0 n) u)) (hn : n ≤ 256) (hu : u ≤ n) :
    Calls Try.prog 15 #[.int .u64 u, v] w fun e w' => (∃ ao cap, e = .returned (.slice ao (bat n u) cap)) ∧ SL w0 w' F b lb a s t n := by
  refine (fresh_any u _ v w F' hr (by rw [bat_length]; unfold bat; omega) (by omega) (by omega) (fun r hr => ?_)).mono ?_
  · obtain ⟨i, hi, e⟩ := bat_mem n u r hr
    unfold bat at hi
    omega
  · rintro e w' ⟨⟨v', rfl, ao, cap, rfl, -⟩, k⟩
    rw [frs_all (u : Int) _ (by omega) (fun i r hr => bat_seq n u i r hr), bat_length]
    exact ⟨⟨ao, cap, rfl⟩, h.keep k⟩
theorem sl_fresh_none (h : SL w0 w F b lb a s t n) (hr : RowAt w F' v (batch (seqs 0 n) u)) (hn : n ≤ 256) (hu : u ≤ n) (q : Nat) (hq : q < u) :
    Calls Try.prog 15 #[.int .u64 q, v] w fun e w' => (∃ ao cap, e = .returned (.slice ao 0 cap)) ∧ SL w0 w' F b lb a s t n := by
  refine (fresh_any q _ v w F' hr (by rw [bat_length]; unfold bat; omega) (by omega) (by omega) (fun r hr => ?_)).mono ?_
  · obtain ⟨i, hi, e⟩ := bat_mem n u r hr
    unfold bat at hi
    omega
  · rintro e w' ⟨⟨v', rfl, ao, cap, rfl, -⟩, k⟩
    rw [frs_none (q : Int) _ (fun r hr => by obtain ⟨i, hi, e⟩ := bat_mem n u r hr; omega)]
    exact ⟨⟨ao, cap, rfl⟩, h.keep k⟩
end

theorem bools_form {W : World} {v : Value} {zs : List Bool} (h : Bools W v zs) :
    ∃ ao cap, v = .slice ao zs.length cap ∧ zs.length ≤ 9223372036854775807 ∧ (zs = [] ∨ ∃ g off, ao = some ⟨g, off, none⟩ ∧ g < W.heap.size ∧ ∀ (i : Nat) (z : Bool), zs[i]? = some z → W.cell? ⟨g, off + i, none⟩ = some (.bool z)) := by
  obtain ⟨ao, cap, h1, h2, h3, h4⟩ := h
  rw [List.length_map] at h1 h2
  refine ⟨ao, cap, h1, h2, ?_⟩
  rcases h4 with h4 | ⟨g, off, h6, h7, h8⟩
  · exact .inl (by simpa using h4)
  · refine .inr ⟨g, off, h6, h7, fun i z hz => ?_⟩
    have := h8 i [.bool z] (by rw [List.getElem?_map, hz]; rfl) 0 (.bool z) rfl
    simpa using this

/-- How far it is yet. -/
def Far (i h s t m : Nat) : Prop := 50 ≤ i → (s = h ∧ m - h + i ≤ 400) ∨ (h < s ∧ (m - s) + (3 - t) + (m - h) + i ≤ 400)

set_option maxRecDepth 100000 in
set_option maxHeartbeats 8000000 in
theorem shipAll_walk (n : Int) (v : Value) (w : World) (w0 : (Lit.int .i64 n).wf = true) (hv : ∃ zs, Bools w v zs) :
    Calls Try.prog 6 #[.int .i64 n, v] w fun e w' => e = .returned (.bool true) ∧ Below w.heap.size w w' := by
  obtain ⟨zs, hz⟩ := hv
  obtain ⟨ao, cap, rfl, hlen, hc⟩ := bools_form hz
  clear hz
  obtain ⟨m, hm, hm2, -⟩ := i64_and n 7 (by omega)
  rw [show ((2 ^ 7 - 1 : Nat) : Int) = 127 from rfl] at hm
  rw [show 2 ^ 7 = 128 from rfl] at hm2
  clear w0
  have HC := Lib.hid hc
  clear hc
  obtain ⟨len, hl⟩ : ∃ len, len = zs.length := ⟨_, rfl⟩
  rw [← hl] at hlen
  simp only [← hl]
  replace hl := Lib.hid hl
  have FI := Lib.hid (fun w => filled_any m (by omega) w)
  go_enter Try.func6, Try.ntmps6
  go_wp2_with fail
  refine (new_any 0 _).mono ?_
  rintro e w1 ⟨rfl, h1, k1⟩
  have hbw := h1.lt
  have hbb := Nat.le_refl w.heap.size
  obtain ⟨b, hbe⟩ : ∃ b, b = w.heap.size := ⟨_, rfl⟩
  rw [← hbe] at h1 hbw
  rw [← hbe]
  have Hbe := Lib.hid hbe
  clear hbe hbb
  go_wp2_with fail
  refine (FI.out _).mono ?_
  rintro e w2 ⟨lb, F, rfl, l2, f2, k2⟩
  clear FI hm
  have S2 : SL w w2 F b lb 0 0 0 m := ⟨h1.keep k2 (fun e => e), l2, fun k hk => Nat.le_trans k1.size (f2 k hk), fun e => by have := f2 b e; omega, by rw [Hbe.out]; exact Nat.le_refl _, k1.trans k2⟩
  clear h1 hbw k1 l2 f2 k2
  go_wp2_with fail
  refine (awake_any _).mono ?_
  rintro e w3 ⟨rfl, k3⟩
  have S3 := S2.keep (Keep.of0 k3)
  clear S2 k3
  go_wp2_with fail
  go_loopw [9, 10] (fun xh xi wr => ∃ (k h s t : Nat), k ≤ 400 ∧ h ≤ s ∧ s ≤ m ∧ t ≤ 2 ∧ Far k h s t m ∧ xh = .int .u64 h ∧ xi = .int .i64 k ∧ SL w wr F b lb h s t m) (fun xh xi wr => 400 - (intOf xi).toNat)
  case atStart => exact ⟨0, 0, 0, 0, by omega, by omega, by omega, by omega, (fun h => by omega), rfl, rfl, S3⟩
  case round =>
    obtain ⟨k, h, s, t, hk, hhs, hsm, ht, hfar, rfl, rfl, S⟩ := hrel
    clear S3
    have HF := Lib.hid hfar
    clear hfar
    by_cases hlt : h < m
    · have hk4 : k < 400 := by
        have := HF.out
        unfold Far at this
        omega
      have HX : len ≤ k ∨ ∃ g off z, ao = some ⟨g, off, none⟩ ∧ k < len ∧ ∀ w', Keep (fun _ => False) w w' → w'.cell? ⟨g, off + k, none⟩ = some (.bool z) := by
        by_cases hkl : k < len
        · right
          have hne : zs ≠ [] := by intro h; have := hl.out; rw [h] at this; simp at this; omega
          obtain ⟨g, off, rfl, hg, hcell⟩ := HC.out.resolve_left hne
          obtain ⟨z, hzk⟩ : ∃ z, zs[k]? = some z := ⟨zs[k]'(by have := hl.out; omega), List.getElem?_eq_getElem _⟩
          exact ⟨g, off, z, rfl, hkl, fun w' kk => (kk.cell (p := ⟨g, _, none⟩) hg (fun e => e)).trans (hcell k z hzk)⟩
        · left; omega
      replace HX := Lib.hid HX
      clear HC
      have HS := Lib.hid S
      clear S
      by_cases hs : s < m
      · have CM := HS.out.more hsm (by omega)
        rw [decide_eq_true hs] at CM
        have CM' := Lib.hid CM
        clear CM
        by_cases hal : s = h
        · subst hal
          go_wp2_with fail
          refine CM'.out.mono ?_
          rintro e w4 ⟨v4, rfl, r4, S4⟩
          have R4 := Lib.hid r4
          have HS4 := Lib.hid S4
          clear r4 S4 CM' HS
          have hbat : 1 ≤ bat m s ∧ bat m s ≤ 16 ∧ bat m s ≤ m - s ∧ (bat m s = 16 ∨ bat m s = m - s) := by unfold bat; omega
          rcases HX.out with hx | ⟨g, off, z, rfl, hkl, hx⟩
          · have hx' : ¬ ((k : Int) < len) := by omega
            have CF := Lib.hid (sl_fresh_all HS4.out R4.out (by omega) (by omega))
            go_wp2_with fail
            refine CF.out.mono ?_
            rintro e w5 ⟨⟨ao5, cap5, rfl⟩, S5⟩
            clear CF R4 HS4
            have CK := S5.ack_yes (s + bat m s) (by omega) (by omega) (by omega)
            rw [show max (s + bat m s) (s + bat m s) = s + bat m s from Nat.max_self _, show ((s + bat m s : Nat) : Int) = (s : Int) + (bat m s : Nat) from by omega] at CK
            have CK' := Lib.hid CK
            clear CK S5
            go_wp2_with fail
            refine CK'.out.mono ?_
            rintro e w6 ⟨rfl, S6⟩
            clear CK'
            go_wp2_with fail
            go_roundw
            case rel => exact ⟨k + 1, _, _, _, by omega, by omega, by omega, by omega, (by have hf := HF.out; unfold Far at hf ⊢; omega), by first | rfl | go_num, by go_num, S6⟩
            case measure => simp [intOf]; omega
          · have hx4 := hx w4 HS4.out.w
            clear HX hx
            cases z
            · skip
              have CF := Lib.hid (sl_fresh_all HS4.out R4.out (by omega) (by omega))
              go_wp2_with fail
              refine CF.out.mono ?_
              rintro e w5 ⟨⟨ao5, cap5, rfl⟩, S5⟩
              clear CF R4 HS4
              have CK := S5.ack_yes (s + bat m s) (by omega) (by omega) (by omega)
              rw [show max (s + bat m s) (s + bat m s) = s + bat m s from Nat.max_self _, show ((s + bat m s : Nat) : Int) = (s : Int) + (bat m s : Nat) from by omega] at CK
              have CK' := Lib.hid CK
              clear CK S5
              go_wp2_with fail
              refine CK'.out.mono ?_
              rintro e w6 ⟨rfl, S6⟩
              clear CK'
              go_wp2_with fail
              go_roundw
              case rel => exact ⟨k + 1, _, _, _, by omega, by omega, by omega, by omega, (by have hf := HF.out; unfold Far at hf ⊢; omega), by first | rfl | go_num, by go_num, S6⟩
              case measure => simp [intOf]; omega
            · by_cases h50 : k < 50
              · go_wp2_with fail
                go_roundw
                case rel => exact ⟨k + 1, _, _, _, by omega, by omega, by omega, by omega, (by have hf := HF.out; unfold Far at hf ⊢; omega), by first | rfl | go_num, by go_num, HS4.out⟩
                case measure => simp [intOf]; omega
              · skip
                have CF := Lib.hid (sl_fresh_all HS4.out R4.out (by omega) (by omega))
                go_wp2_with fail
                refine CF.out.mono ?_
                rintro e w5 ⟨⟨ao5, cap5, rfl⟩, S5⟩
                clear CF R4 HS4
                have CK := S5.ack_yes (s + bat m s) (by omega) (by omega) (by omega)
                rw [show max (s + bat m s) (s + bat m s) = s + bat m s from Nat.max_self _, show ((s + bat m s : Nat) : Int) = (s : Int) + (bat m s : Nat) from by omega] at CK
                have CK' := Lib.hid CK
                clear CK S5
                go_wp2_with fail
                refine CK'.out.mono ?_
                rintro e w6 ⟨rfl, S6⟩
                clear CK'
                go_wp2_with fail
                go_roundw
                case rel => exact ⟨k + 1, _, _, _, by omega, by omega, by omega, by omega, (by have hf := HF.out; unfold Far at hf ⊢; omega), by first | rfl | go_num, by go_num, S6⟩
                case measure => simp [intOf]; omega
        · have hal' : h < s := by omega
          go_wp2_with fail
          refine CM'.out.mono ?_
          rintro e w4 ⟨v4, rfl, r4, S4⟩
          have R4 := Lib.hid r4
          have HS4 := Lib.hid S4
          clear r4 S4 CM' HS
          have hbat : 1 ≤ bat m s ∧ bat m s ≤ 16 ∧ bat m s ≤ m - s ∧ (bat m s = 16 ∨ bat m s = m - s) := by unfold bat; omega
          rcases HX.out with hx | ⟨g, off, z, rfl, hkl, hx⟩
          · have hx' : ¬ ((k : Int) < len) := by omega
            have CF := Lib.hid (sl_fresh_none HS4.out R4.out (by omega) (by omega) h (by omega))
            go_wp2_with fail
            refine CF.out.mono ?_
            rintro e w5 ⟨⟨ao5, cap5, rfl⟩, S5⟩
            clear CF R4 HS4
            have CK := Lib.hid (S5.ack_no h (.inl (Nat.le_refl _)) (by omega))
            go_wp2_with fail
            refine CK.out.mono ?_
            rintro e w6 ⟨rfl, S6⟩
            clear CK
            go_wp2_with fail
            go_roundw
            case rel => exact ⟨k + 1, _, _, _, by omega, by omega, by omega, by omega, (by have hf := HF.out; unfold Far at hf ⊢; omega), by first | rfl | go_num, by go_num, S6⟩
            case measure => simp [intOf]; omega
          · have hx4 := hx w4 HS4.out.w
            clear HX hx
            cases z
            · skip
              have CF := Lib.hid (sl_fresh_none HS4.out R4.out (by omega) (by omega) h (by omega))
              go_wp2_with fail
              refine CF.out.mono ?_
              rintro e w5 ⟨⟨ao5, cap5, rfl⟩, S5⟩
              clear CF R4 HS4
              have CK := Lib.hid (S5.ack_no h (.inl (Nat.le_refl _)) (by omega))
              go_wp2_with fail
              refine CK.out.mono ?_
              rintro e w6 ⟨rfl, S6⟩
              clear CK
              go_wp2_with fail
              go_roundw
              case rel => exact ⟨k + 1, _, _, _, by omega, by omega, by omega, by omega, (by have hf := HF.out; unfold Far at hf ⊢; omega), by first | rfl | go_num, by go_num, S6⟩
              case measure => simp [intOf]; omega
            · by_cases h50 : k < 50
              · go_wp2_with fail
                go_roundw
                case rel => exact ⟨k + 1, _, _, _, by omega, by omega, by omega, by omega, (by have hf := HF.out; unfold Far at hf ⊢; omega), by first | rfl | go_num, by go_num, HS4.out⟩
                case measure => simp [intOf]; omega
              · skip
                have CF := Lib.hid (sl_fresh_none HS4.out R4.out (by omega) (by omega) h (by omega))
                go_wp2_with fail
                refine CF.out.mono ?_
                rintro e w5 ⟨⟨ao5, cap5, rfl⟩, S5⟩
                clear CF R4 HS4
                have CK := Lib.hid (S5.ack_no h (.inl (Nat.le_refl _)) (by omega))
                go_wp2_with fail
                refine CK.out.mono ?_
                rintro e w6 ⟨rfl, S6⟩
                clear CK
                go_wp2_with fail
                go_roundw
                case rel => exact ⟨k + 1, _, _, _, by omega, by omega, by omega, by omega, (by have hf := HF.out; unfold Far at hf ⊢; omega), by first | rfl | go_num, by go_num, S6⟩
                case measure => simp [intOf]; omega
      · obtain rfl : s = m := by omega
        have CM := HS.out.more (by omega) (by omega)
        rw [decide_eq_false (Nat.lt_irrefl s), show bat s s = 0 from by unfold bat; omega] at CM
        have CM' := Lib.hid CM
        clear CM
        go_wp2_with fail
        refine CM'.out.mono ?_
        rintro e w3 ⟨v3, rfl, -, S3⟩
        clear CM' HS
        by_cases ht2 : t < 2
        · have CT := Lib.hid (S3.tick_no ht2)
          clear S3
          go_wp2_with fail
          refine CT.out.mono ?_
          rintro e w4 ⟨rfl, S4⟩
          clear CT
          go_wp2_with fail
          go_roundw
          case rel => exact ⟨k + 1, _, _, _, by omega, by omega, by omega, by omega, (by have hf := HF.out; unfold Far at hf ⊢; omega), by first | rfl | go_num, by go_num, S4⟩
          case measure => simp [intOf]; omega
        · obtain rfl : t = 2 := by omega
          have CT := Lib.hid (S3.tick_yes (by omega) (by omega))
          clear S3
          go_wp2_with fail
          refine CT.out.mono ?_
          rintro e w4 ⟨v4, rfl, r4, S4⟩
          have R4 := Lib.hid r4
          have HS4 := Lib.hid S4
          clear r4 S4 CT
          have hbat : 1 ≤ bat s h ∧ bat s h ≤ 16 ∧ bat s h ≤ s - h ∧ (bat s h = 16 ∨ bat s h = s - h) := by unfold bat; omega
          rcases HX.out with hx | ⟨g, off, z, rfl, hkl, hx⟩
          · have hx' : ¬ ((k : Int) < len) := by omega
            have CF := Lib.hid (sl_fresh_all HS4.out R4.out (by omega) (by omega))
            go_wp2_with fail
            refine CF.out.mono ?_
            rintro e w5 ⟨⟨ao5, cap5, rfl⟩, S5⟩
            clear CF R4 HS4
            have CK := S5.ack_yes (h + bat s h) (by omega) (by omega) (by omega)
            rw [show max (h + bat s h) (h + bat s h) = h + bat s h from Nat.max_self _, show ((h + bat s h : Nat) : Int) = (h : Int) + (bat s h : Nat) from by omega] at CK
            have CK' := Lib.hid CK
            clear CK S5
            go_wp2_with fail
            refine CK'.out.mono ?_
            rintro e w6 ⟨rfl, S6⟩
            clear CK'
            go_wp2_with fail
            go_roundw
            case rel => exact ⟨k + 1, _, _, _, by omega, by omega, by omega, by omega, (by have hf := HF.out; unfold Far at hf ⊢; omega), by first | rfl | go_num, by go_num, S6⟩
            case measure => simp [intOf]; omega
          · have hx4 := hx w4 HS4.out.w
            clear HX hx
            cases z
            · skip
              have CF := Lib.hid (sl_fresh_all HS4.out R4.out (by omega) (by omega))
              go_wp2_with fail
              refine CF.out.mono ?_
              rintro e w5 ⟨⟨ao5, cap5, rfl⟩, S5⟩
              clear CF R4 HS4
              have CK := S5.ack_yes (h + bat s h) (by omega) (by omega) (by omega)
              rw [show max (h + bat s h) (h + bat s h) = h + bat s h from Nat.max_self _, show ((h + bat s h : Nat) : Int) = (h : Int) + (bat s h : Nat) from by omega] at CK
              have CK' := Lib.hid CK
              clear CK S5
              go_wp2_with fail
              refine CK'.out.mono ?_
              rintro e w6 ⟨rfl, S6⟩
              clear CK'
              go_wp2_with fail
              go_roundw
              case rel => exact ⟨k + 1, _, _, _, by omega, by omega, by omega, by omega, (by have hf := HF.out; unfold Far at hf ⊢; omega), by first | rfl | go_num, by go_num, S6⟩
              case measure => simp [intOf]; omega
            · by_cases h50 : k < 50
              · go_wp2_with fail
                go_roundw
                case rel => exact ⟨k + 1, _, _, _, by omega, by omega, by omega, by omega, (by have hf := HF.out; unfold Far at hf ⊢; omega), by first | rfl | go_num, by go_num, HS4.out⟩
                case measure => simp [intOf]; omega
              · skip
                have CF := Lib.hid (sl_fresh_all HS4.out R4.out (by omega) (by omega))
                go_wp2_with fail
                refine CF.out.mono ?_
                rintro e w5 ⟨⟨ao5, cap5, rfl⟩, S5⟩
                clear CF R4 HS4
                have CK := S5.ack_yes (h + bat s h) (by omega) (by omega) (by omega)
                rw [show max (h + bat s h) (h + bat s h) = h + bat s h from Nat.max_self _, show ((h + bat s h : Nat) : Int) = (h : Int) + (bat s h : Nat) from by omega] at CK
                have CK' := Lib.hid CK
                clear CK S5
                go_wp2_with fail
                refine CK'.out.mono ?_
                rintro e w6 ⟨rfl, S6⟩
                clear CK'
                go_wp2_with fail
                go_roundw
                case rel => exact ⟨k + 1, _, _, _, by omega, by omega, by omega, by omega, (by have hf := HF.out; unfold Far at hf ⊢; omega), by first | rfl | go_num, by go_num, S6⟩
                case measure => simp [intOf]; omega
    · obtain rfl : h = m := by omega
      have e1 : ((h : Int) == (h : Int)) = true := by simp
      by_cases hk4 : k < 400
      · go_wp2_with fail
        go_ret
        exact ⟨rfl, S.w.below0⟩
      · obtain rfl : k = 400 := by omega
        go_wp2_with fail
        go_ret
        exact ⟨rfl, S.w.below0⟩

end Go.Proofs.Ytiboacnjmogjaaa.ShpG
