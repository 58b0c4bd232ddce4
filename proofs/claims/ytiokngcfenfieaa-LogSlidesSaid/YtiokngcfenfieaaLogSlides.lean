/-
  The law LogSlides of layer 13 (log): the walk.
-/
import Derived.Test.YtiokngcfenfieaaLogL
namespace Go.Proofs.Ytiokngcfenfieaa.LogSlides
set_option linter.unusedVariables false
set_option linter.unusedSimpArgs false
open Go.RowKit Go.Proofs.Ytiokngcfenfieaa.Mask Go.Proofs.Ytiokngcfenfieaa.Mem Go.Proofs.Ytiokngcfenfieaa.LogW Go.Proofs.Ytiokngcfenfieaa.LogV Go.Proofs.Ytiokngcfenfieaa.LogU Go.Proofs.Ytiokngcfenfieaa.LogT Go.Proofs.Ytiokngcfenfieaa.LogS Go.Proofs.Ytiokngcfenfieaa.LogL

theorem seqs_slide (b n : Nat) (hn : 1 ≤ n) : (seqs b n).drop 1 ++ [rec0 ((b : Int) + n + 1) 0] = seqs (b + 1) n := by
  obtain ⟨n, rfl⟩ : ∃ m, n = m + 1 := ⟨n - 1, by omega⟩
  apply List.ext_getElem?
  intro i
  by_cases hi : i < n + 1
  · rw [seqs_at (b + 1) (n + 1) i hi]
    by_cases h2 : i < n
    · rw [List.getElem?_append_left (by rw [List.length_drop, seqs_length]; omega), List.getElem?_drop, seqs_at b (n + 1) (1 + i) (by omega)]
      congr 2; omega
    · obtain rfl : i = n := by omega
      rw [List.getElem?_append_right (by rw [List.length_drop, seqs_length]; omega)]
      rw [show i - ((seqs b (i + 1)).drop 1).length = 0 from by rw [List.length_drop, seqs_length]; omega]
      simp only [List.getElem?_cons_zero]
      congr 2; omega
  · rw [List.getElem?_eq_none (by rw [List.length_append, List.length_drop, seqs_length]; simp; omega), List.getElem?_eq_none (by rw [seqs_length]; omega)]

theorem cell_lt {w : World} {g i : Nat} {v : Value} (h : w.cell? ⟨g, i, none⟩ = some v) : g < w.heap.size := by
  rcases Nat.lt_or_ge g w.heap.size with h' | h'
  · exact h'
  · simp [World.cell?, Array.getElem?_eq_none h'] at h

/-- the log behind i records that slid in, of n places -/
def slid (n i : Nat) : List Rec := seqs (i - min i n) (min i n)

set_option maxHeartbeats 1000000 in
theorem logSlides_walk (a0 a1 : Int) (w : World) (w0 : (Lit.int .i64 a0).wf = true) (w1 : (Lit.int .i64 a1).wf = true) :
    Calls Try.prog 5 #[.int .i64 a0, .int .i64 a1] w fun e w' => e = .returned (.bool true) ∧ Below w.heap.size w w' := by
  obtain ⟨n', hn, hn2, -⟩ := i64_and a0 5 (by omega)
  rw [show ((2 ^ 5 - 1 : Nat) : Int) = 31 from rfl] at hn
  rw [show 2 ^ 5 = 32 from rfl] at hn2
  obtain ⟨m, hm, hm2, -⟩ := i64_and a1 7 (by omega)
  rw [show ((2 ^ 7 - 1 : Nat) : Int) = 127 from rfl] at hm
  rw [show 2 ^ 7 = 128 from rfl] at hm2
  clear w0 w1
  obtain ⟨n, hnn⟩ : ∃ n : Nat, n = 1 + n' := ⟨_, rfl⟩
  have hcast : (1 : Int) + (n' : Int) = (n : Int) := by omega
  have hn1 : 1 ≤ n := by omega
  have hn3 : n ≤ 32 := by omega
  clear hnn hn2
  go_enter Try.func5, Try.ntmps5
  go_wp2_with fail
  refine (new_at 0 n (by omega) (by omega) _).mono ?_
  rintro e w1 ⟨rfl, l1, k1⟩
  clear hn hm hcast
  go_wp2_with fail
  refine (awake_any _).mono ?_
  rintro e w2 ⟨rfl, k2⟩
  have L2 := Lib.hid (l1.keep k2 (fun _ _ e => e))
  have K2 := Lib.hid (k1.trans k2)
  clear l1 k1 k2
  go_wp2_with fail
  go_loopw [9] (fun i wr => ∃ (k : Nat) (F : Nat → Prop), k ≤ m ∧ i = .int .i64 k ∧ LogAt wr F w.heap.size n (k - min k n) (slid n k) ∧ (∀ j, F j → w.heap.size ≤ j) ∧ Keep (fun _ => False) w wr) (fun i wr => m - (intOf i).toNat)
  case atStart => exact ⟨0, _, by omega, rfl, by rw [show 0 - min 0 n = 0 from by omega]; unfold slid; rw [show min 0 n = 0 from by omega]; exact L2.out, fun j e => by omega, K2.out⟩
  case round =>
    obtain ⟨k, F, hk, rfl, l3, hF, k3⟩ := hrel
    have hsl : (slid n k).length = min k n := seqs_length _ _
    have L3 := Lib.hid l3
    have K3 := Lib.hid k3
    have HF := Lib.hid hF
    have Hsl := Lib.hid hsl
    clear l3 k3 hF hsl
    by_cases hlt : k < m
    · have c : Calls Try.prog 12 #[.pointer (some ⟨w.heap.size, 0, none⟩), (rec0 ((k : Int) + 1) 0).agg] wr fun e w' => e = .returned (.int .i64 0) ∧ ∃ F', LogAt w' F' w.heap.size n (k + 1 - min (k + 1) n) (slid n (k + 1)) ∧ (∀ j, F' j → F j ∨ wr.heap.size ≤ j) ∧ Keep F wr w' := by
        by_cases hr : k < n
        · have := slide_room L3.out (rec0 ((k : Int) + 1) 0) (by omega) (by rw [Hsl.out]; omega) (by omega) (by rw [Hsl.out]; simp [rec0]; omega)
          refine this.mono ?_
          rintro e w' ⟨rfl, F', g1, g2⟩
          refine ⟨rfl, F', ?_, g2⟩
          unfold slid at g1 ⊢
          rw [show k - min k n = 0 from by omega, show min k n = k from by omega] at g1
          rw [show k + 1 - min (k + 1) n = 0 from by omega, show min (k + 1) n = k + 1 from by omega, seqs_succ]
          simpa using g1
        · have := slide_full L3.out (rec0 ((k : Int) + 1) 0) (by omega) (by rw [Hsl.out]; omega) hn1 (by omega) (by rw [Hsl.out]; simp [rec0]; omega)
          refine this.mono ?_
          rintro e w' ⟨rfl, F', g1, g2⟩
          refine ⟨rfl, F', ?_, g2⟩
          unfold slid at g1 ⊢
          rw [show min k n = n from by omega] at g1
          rw [show min (k + 1) n = n from by omega, show k + 1 - n = k - n + 1 from by omega, ← seqs_slide _ _ hn1]
          rw [show (((k - n : Nat) : Int) + n + 1) = (k : Int) + 1 from by omega]
          exact g1
      have C := Lib.hid c
      clear c
      go_wp2_with fail
      refine C.out.mono ?_
      rintro e w4 ⟨rfl, F4, l4, d4, k4⟩
      have L4 := Lib.hid l4
      have D4 := Lib.hid d4
      have K4 := Lib.hid k4
      clear l4 d4 k4
      go_wp2_with fail
      go_roundw
      case rel => exact ⟨k + 1, F4, by omega, by go_num, L4.out, fun j e => by rcases D4.out j e with h | h; exact HF.out j h; have := K3.out.size; omega, fresh K3.out K4.out HF.out⟩
      case measure => simp [intOf]; omega
    · obtain rfl : k = m := by omega
      obtain ⟨q, hq⟩ : ∃ q, q = min k n := ⟨_, rfl⟩
      have hq1 : q ≤ k := by omega
      have hq2 : q ≤ n := by omega
      have hmin : (q = n ∧ n ≤ k) ∨ (q = k ∧ k < n) := by omega
      go_wp2_with fail
      refine (base_at L3.out).mono ?_
      rintro e w4 ⟨rfl, rfl⟩
      go_wp2_with fail
      refine Calls.mono (by have h := from_yes L3.out 0 q 200 (by omega) (by rw [Hsl.out]; omega) (by omega) (by rw [Hsl.out]; omega); simpa using h) ?_
      rintro e w4 ⟨v4, rfl, r4, k4⟩
      have hlen : (List.take q (slid n k)).length = q := by rw [List.length_take, Hsl.out]; omega
      have hcell : ∃ ao cap, v4 = .slice ao q cap ∧ (q = 0 ∨ ∃ g, ao = some ⟨g, 0, none⟩ ∧ w4.cell? ⟨g, (q - 1) * 9, none⟩ = some (.int .u64 (k : Int))) := by
        obtain ⟨ao, cap, hv, h | ⟨g, cur, hao, hF4, hg, ht⟩⟩ := RowAt.form r4
        · refine ⟨ao, cap, by rw [hv, hlen], .inl ?_⟩
          rw [h] at hlen; exact hlen.symm
        · refine ⟨ao, cap, by rw [hv, hlen], ?_⟩
          by_cases hz : q = 0
          · exact .inl hz
          · refine .inr ⟨g, hao, ?_⟩
            have he : (List.take q (slid n k))[q - 1]? = some (rec0 (((k - min k n : Nat) : Int) + ((q - 1 : Nat) : Int) + 1) 0) := by
              rw [List.getElem?_take, if_pos (by omega)]
              exact seqs_at _ _ _ (by omega)
            have := rec_cell hg ht he 0 (by omega)
            rw [Nat.add_zero] at this
            rw [this]
            show some (Value.int .u64 _) = _
            congr 2
            simp [rec0]; omega
      obtain ⟨ao, cap, rfl, hcell⟩ := hcell
      have L5 := Lib.hid (L3.out.keep k4 (fun _ _ e => e))
      have K5 := Lib.hid (K3.out.trans k4)
      have HC := Lib.hid hcell
      clear r4 k4 hlen hcell hq
      rcases hmin with ⟨rfl, hmn⟩ | ⟨rfl, hmn⟩
      · have hl : (slid q k).length = q := by rw [Hsl.out]; omega
        have Hl := Lib.hid hl
        clear hl
        have hle : ((q : Int) ≤ (k : Int)) := by omega
        go_wp2_with fail
        refine Calls.mono (by have h := last_of L5.out (by omega) (by rw [Hl.out]; omega); rw [Hl.out] at h; exact h) ?_
        rintro e w6 ⟨rfl, q6, rfl⟩
        have he : ((((k - min k q : Nat) : Int) + (q : Nat)) != (k : Int)) = false := by simp; omega
        go_wp2_with fail
        refine (slide_seq (L5.out.keep ((Keep.refl (fun _ => False) w4).drewN q6) (fun _ _ e => e)) (rec0 ((k : Int) + 2) 0) (by omega) (by rw [Hl.out]; omega) (by simp [rec0]; omega) (by simp [rec0]; omega) (by rw [Hl.out]; simp [rec0]; omega)).mono ?_
        rintro e w7 ⟨rfl, k7⟩
        have K7 := Lib.hid ((K5.out.drewN q6).trans k7)
        rcases HC.out with hz | ⟨g, rfl, hc⟩
        · have hz0 : ((q : Int) == 0) = true := by simp; omega
          go_wp2_with fail
          go_ret
          exact ⟨rfl, K7.out.below (Nat.le_refl _) (fun _ e => e.elim)⟩
        · by_cases hz : q = 0
          · have hz0 : ((q : Int) == 0) = true := by simp; omega
            go_wp2_with fail
            go_ret
            exact ⟨rfl, K7.out.below (Nat.le_refl _) (fun _ e => e.elim)⟩
          · have hz0 : ((q : Int) == 0) = false := by simp; omega
            have hq0 : (1 : Int) ≤ (q : Int) := by omega
            have hto : ((q : Int) - 1).toNat = q - 1 := by omega
            have hc' : w7.cell? ⟨g, (q - 1) * 9, none⟩ = some (.int .u64 (k : Int)) := (k7.cell (p := ⟨g, _, none⟩) (cell_lt hc) (fun e => e)).trans hc
            go_wp2_with fail
            go_ret
            exact ⟨rfl, K7.out.below (Nat.le_refl _) (fun _ e => e.elim)⟩
      · have hl : (slid n q).length = q := by rw [Hsl.out]; omega
        have Hl := Lib.hid hl
        clear hl
        have hle : ((q : Int) < (n : Int)) := by omega
        go_wp2_with fail
        refine Calls.mono (by have h := last_of L5.out (by omega) (by rw [Hl.out]; omega); rw [Hl.out] at h; exact h) ?_
        rintro e w6 ⟨rfl, q6, rfl⟩
        have he : ((((q - min q n : Nat) : Int) + (q : Nat)) != (q : Int)) = false := by simp; omega
        go_wp2_with fail
        refine (slide_seq (L5.out.keep ((Keep.refl (fun _ => False) w4).drewN q6) (fun _ _ e => e)) (rec0 ((q : Int) + 2) 0) (by omega) (by rw [Hl.out]; omega) (by simp [rec0]; omega) (by simp [rec0]; omega) (by rw [Hl.out]; simp [rec0]; omega)).mono ?_
        rintro e w7 ⟨rfl, k7⟩
        have K7 := Lib.hid ((K5.out.drewN q6).trans k7)
        rcases HC.out with hz | ⟨g, rfl, hc⟩
        · have hz0 : ((q : Int) == 0) = true := by simp; omega
          go_wp2_with fail
          go_ret
          exact ⟨rfl, K7.out.below (Nat.le_refl _) (fun _ e => e.elim)⟩
        · by_cases hz : q = 0
          · have hz0 : ((q : Int) == 0) = true := by simp; omega
            go_wp2_with fail
            go_ret
            exact ⟨rfl, K7.out.below (Nat.le_refl _) (fun _ e => e.elim)⟩
          · have hz0 : ((q : Int) == 0) = false := by simp; omega
            have hq0 : (1 : Int) ≤ (q : Int) := by omega
            have hto : ((q : Int) - 1).toNat = q - 1 := by omega
            have hc' : w7.cell? ⟨g, (q - 1) * 9, none⟩ = some (.int .u64 (q : Int)) := (k7.cell (p := ⟨g, _, none⟩) (cell_lt hc) (fun e => e)).trans hc
            go_wp2_with fail
            go_ret
            exact ⟨rfl, K7.out.below (Nat.le_refl _) (fun _ e => e.elim)⟩

end Go.Proofs.Ytiokngcfenfieaa.LogSlides
