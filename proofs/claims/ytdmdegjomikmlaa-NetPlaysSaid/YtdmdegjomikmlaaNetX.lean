/-
  Layer 22 (net): the law NetCuts.
-/
import Derived.Test.YtdmdegjomikmlaaNetG
import Derived.Test.YtdmdegjomikmlaaNetU
import Derived.Test.YtdmdegjomikmlaaNetK
namespace Go.Proofs.Ytdmdegjomikmlaa.NetX
set_option linter.unusedVariables false
set_option linter.unusedSimpArgs false
open Go.RowKit Go.Proofs.Ytdmdegjomikmlaa.Mem Go.Proofs.Ytdmdegjomikmlaa.NetM Go.Proofs.Ytdmdegjomikmlaa.NetW Go.Proofs.Ytdmdegjomikmlaa.NetS Go.Proofs.Ytdmdegjomikmlaa.NetD Go.Proofs.Ytdmdegjomikmlaa.NetT Go.Proofs.Ytdmdegjomikmlaa.NetA Go.Proofs.Ytdmdegjomikmlaa.NetH Go.Proofs.Ytdmdegjomikmlaa.NetF Go.Proofs.Ytdmdegjomikmlaa.NetG Go.Proofs.Ytdmdegjomikmlaa.NetU Go.Proofs.Ytdmdegjomikmlaa.NetK
attribute [-go_sem] Instr.loadAt loadVar
attribute [local go_sem] loadAt_ptr lv_int lv_bool lv_string lv_u8 lv_ps lv_map

theorem send_any {w : World} {F : Nat → Prop} {b n mb : Nat} {ps : List Pk} {S : Int → Int → Bool} {v : Value} (h : NetAt w F b ps n S v mb) (hF : ∀ k, F k → k < w.heap.size) (T : TypeId) (qs : List Pk) (hok : ∀ p ∈ qs, p.Ok) (hn : ps.length + qs.length ≤ 100000) :
    Calls Try.prog 10 #[.pointer (some ⟨b, 0, none⟩), .slice (some ⟨w.heap.size, 0, none⟩) qs.length qs.length] (w.alloc (.cells (flat qs).toArray T)) fun e w' => e = .returned (.int .i64 (snd S ps qs).2) ∧ Up w w' F b (snd S ps qs).1 n S mb := by
  have ka : Keep (fun _ => False) w (w.alloc (.cells (flat qs).toArray T)) := (Keep.refl _ w).alloc _
  have hs : (w.alloc (.cells (flat qs).toArray T)).heap.size = w.heap.size + 1 := by simp
  refine (send_gen (h.keep0 ka) (fun k hk => by have := hF k hk; omega) qs w.heap.size qs.length (fun e => by have := hF _ e; omega) (by omega) ?_ hok hn).mono ?_
  · intro i p hp j hj
    rw [cell_at (block_new w _)]
    have := flat_at qs i j p hp hj
    rw [← this]; simp
  · rintro e w' ⟨rfl, F', v', n1, f1, f2, k1⟩
    exact ⟨rfl, F', v', n1, f1, fun k hk => (f2 k hk).imp id (fun e => by omega), ka.toAny.trans k1⟩

def X1 : ByteArray := ⟨#[120]⟩
def Y1 : ByteArray := ⟨#[121]⟩
theorem snd_few (ps : List Pk) (q : Pk) (h : ps.length < 64) : snd no ps [q] = (ps ++ [q], 1) := by
  unfold snd
  rw [List.foldl_cons, List.foldl_nil, stp_in no ps 0 q rfl (by have := cnt_le q.fr q.to_ ps; omega)]
theorem snd_three (p q r : Pk) : snd no [] [p, q, r] = ([p, q, r], 3) := by
  unfold snd
  rw [List.foldl_cons, List.foldl_cons, List.foldl_cons, List.foldl_nil, stp_in no [] 0 p rfl (by have := cnt_le p.fr p.to_ []; simp at this; omega), stp_in no _ _ q rfl (by have := cnt_le q.fr q.to_ ([] ++ [p]); simp at this ⊢; omega), stp_in no _ _ r rfl (by have := cnt_le r.fr r.to_ ([] ++ [p] ++ [q]); simp at this ⊢; omega)]
  rfl
theorem snd_off (S : Int → Int → Bool) (ps : List Pk) (q : Pk) (h : S (min q.fr q.to_) (max q.fr q.to_) = true) : snd S ps [q] = (ps, 0) := by
  unfold snd stp
  rw [List.foldl_cons, List.foldl_nil, if_pos (.inl h)]
theorem cuts_left (a b c : Int) : left (same a b) [⟨a, b, X1, false⟩, ⟨b, a, X1, false⟩, ⟨a, c, Y1, false⟩] = if c = b then [] else [⟨a, c, Y1, false⟩] := by
  have h1 : same a b ⟨a, b, X1, false⟩ = true := by simp [same]
  have h2 : same a b ⟨b, a, X1, false⟩ = true := by simp [same, Int.min_comm, Int.max_comm]
  by_cases h : c = b
  · have h3 : same a b ⟨a, c, Y1, false⟩ = true := by simp [same, h]
    rw [if_pos h]
    simp [left, h1, h2, h3]
  · have h3 : same a b ⟨a, c, Y1, false⟩ = false := by
      simp only [same, Bool.and_eq_false_iff, beq_eq_false_iff_ne]
      omega
    rw [if_neg h]
    simp [left, h1, h2, h3]
theorem more_on (a b : Int) : more no a b (min a b) (max a b) = true ∧ more no a b (min b a) (max b a) = true := by
  simp [more, Int.min_comm, Int.max_comm]

set_option maxHeartbeats 8000000 in
set_option maxRecDepth 100000 in
theorem netCuts_part (a b c : Int) (l : List Pk) (t : Bool) (w : World) (wa : (Lit.int .i64 a).wf = true) (wb : (Lit.int .i64 b).wf = true) (wc : (Lit.int .i64 c).wf = true)
    (hl : left (same a b) [⟨a, b, X1, false⟩, ⟨b, a, X1, false⟩, ⟨a, c, Y1, false⟩] = l) (hq : (c == b) = t) (hq2 : t = true ∨ (a == b) = false ∨ (a == b) = true ∧ (c == a) = false) (hll : l.length = if t then 0 else 1) :
    Calls Try.prog 5 #[.int .i64 a, .int .i64 b, .int .i64 c] w fun e w' => e = .returned (.bool true) ∧ Below w.heap.size w w' := by
  have P1 : ∀ p ∈ ([⟨a, b, X1, false⟩, ⟨b, a, X1, false⟩, ⟨a, c, Y1, false⟩] : List Pk), p.Ok := by
    intro p hp
    simp only [List.mem_cons, List.not_mem_nil, or_false] at hp
    rcases hp with rfl | rfl | rfl
    · exact ⟨wa, wb, by show (1 : Nat) ≤ _; omega⟩
    · exact ⟨wb, wa, by show (1 : Nat) ≤ _; omega⟩
    · exact ⟨wa, wc, by show (1 : Nat) ≤ _; omega⟩
  have P2 : ∀ p ∈ ([⟨a, b, ⟨#[]⟩, false⟩] : List Pk), p.Ok := by
    intro p hp; rw [List.mem_singleton.1 hp]; exact ⟨wa, wb, by show (0 : Nat) ≤ _; omega⟩
  have P3 : ∀ p ∈ ([⟨b, a, ⟨#[]⟩, false⟩] : List Pk), p.Ok := by
    intro p hp; rw [List.mem_singleton.1 hp]; exact ⟨wb, wa, by show (0 : Nat) ≤ _; omega⟩
  have S1 := snd_three ⟨a, b, X1, false⟩ ⟨b, a, X1, false⟩ ⟨a, c, Y1, false⟩
  have S2 := snd_off (more no a b) l ⟨a, b, ⟨#[]⟩, false⟩ (more_on a b).1
  have S3 := snd_off (more no a b) l ⟨b, a, ⟨#[]⟩, false⟩ (more_on a b).2
  have S4 := snd_few l ⟨b, a, ⟨#[]⟩, false⟩ (by rw [hll]; cases t <;> simp)
  have hl1 : l.length ≤ 1 := by rw [hll]; cases t <;> simp
  have HP1 := Lib.hid P1
  have HP2 := Lib.hid P2
  have HP3 := Lib.hid P3
  have HS1 := Lib.hid S1
  have HS2 := Lib.hid S2
  have HS3 := Lib.hid S3
  have HS4 := Lib.hid S4
  have Hl := Lib.hid hl
  have Hl1 := Lib.hid hl1
  clear P1 P2 P3 S1 S2 S3 S4 hl hl1
  cases t with
  | true =>
    have hll' : l.length = 0 := hll
    have Hll := Lib.hid hll'
    clear hll hll' hq2
    go_enter Try.func5, Try.ntmps5
    go_wp2_with (first
      | (go_at_call 9; refine (new_tight _).mono ?_; rintro e w1 ⟨nb, mb, F1, rfl, n1, f1, g1, k1⟩
         have T1 := Lib.hid (send_any n1 f1 TP [⟨a, b, X1, false⟩, ⟨b, a, X1, false⟩, ⟨a, c, Y1, false⟩] HP1.out (show 0 + 3 ≤ 100000 by omega))
         clear n1)
      | (go_at_call 10; refine T1.out.mono ?_; clear T1; rintro e w2 ⟨rfl, F2, v2, n2, f2, g2, k2⟩
         rw [HS1.out] at n2 ⊢
         have T2 := Lib.hid (cut_at n2 f2 a b wa wb (show 3 ≤ 1000000 by omega) (show 0 ≤ 1000000 by omega))
         rw [Hl.out] at T2
         clear n2)
      | (go_at_call 15; refine T2.out.mono ?_; clear T2; rintro e w3 ⟨rfl, v3, n3, k3⟩
         have f3 : ∀ k, F2 k → k < w3.heap.size := fun k hk => Nat.lt_of_lt_of_le (f2 k hk) k3.size
         have T3 := Lib.hid (len_at n3)
         rw [Hll.out] at T3
         have T4 := Lib.hid (send_any n3 f3 TP [⟨a, b, ⟨#[]⟩, false⟩] HP2.out (show l.length + 1 ≤ 100000 by have := Hl1.out; omega))
         rw [HS2.out] at T4
         clear n3)
      | (go_at_call 11; refine T3.out.mono ?_; clear T3; rintro e w4 ⟨rfl, rfl⟩)
      | (go_at_call 10; refine T4.out.mono ?_; clear T4; rintro e w4 ⟨rfl, F4, v4, n4, f4, g4, k4⟩
         have T5 := Lib.hid (send_any n4 f4 TP [⟨b, a, ⟨#[]⟩, false⟩] HP3.out (show l.length + 1 ≤ 100000 by have := Hl1.out; omega))
         rw [HS3.out] at T5
         clear n4)
      | (go_at_call 10; refine T5.out.mono ?_; clear T5; rintro e w5 ⟨rfl, F5, v5, n5, f5, g5, k5⟩
         have T6 := Lib.hid (heal_at n5)
         clear n5)
      | (go_at_call 16; refine T6.out.mono ?_; clear T6; rintro e w6 ⟨rfl, n6, k6⟩
         have f6 : ∀ k, F5 k → k < w6.heap.size := fun k hk => Nat.lt_of_lt_of_le (f5 k hk) k6.size
         replace n6 := Lib.hid n6)
      | (go_at_call 8; refine (awake_any _).mono ?_; rintro e w7 ⟨rfl, k7⟩
         have T8 := Lib.hid (send_any (n6.out.keep0 k7) (fun k hk => Nat.lt_of_lt_of_le (f6 k hk) k7.size) TP [⟨b, a, ⟨#[]⟩, false⟩] HP3.out (show l.length + 1 ≤ 100000 by have := Hl1.out; omega))
         rw [HS4.out] at T8)
      | (go_at_call 10; refine T8.out.mono ?_; clear T8; rintro e w8 ⟨rfl, F8, v8, n8, f8, g8, k8⟩
         have T9 := Lib.hid (len_at n8)
         rw [List.length_append, Hll.out] at T9
         clear n8)
      | (go_at_call 11; refine T9.out.mono ?_; clear T9; rintro e w9 ⟨rfl, rfl⟩))
    go_ret
    have a2 : ∀ i, F2 i → w.heap.size ≤ i := fun i hi => (g2 i hi).elim (g1 i) (fun e => Nat.le_trans k1.size e)
    have c3 := (k1.then k2 g1).then k3 a2
    have a4 : ∀ i, F4 i → w.heap.size ≤ i := fun i hi => (g4 i hi).elim (a2 i) (fun e => Nat.le_trans c3.size e)
    have c4 := c3.then k4 a2
    have a5 : ∀ i, F5 i → w.heap.size ≤ i := fun i hi => (g5 i hi).elim (a4 i) (fun e => Nat.le_trans c4.size e)
    exact ⟨rfl, ((((c4.then k5 a4).then k6 a5).trans k7).then k8 a5).below0⟩
  | false =>
    have hq3 := hq2.resolve_left (by simp)
    clear hq2
    have hll' : l.length = 1 := hll
    have Hll := Lib.hid hll'
    clear hll hll'
    rcases hq3 with hq3 | ⟨hq3, hq4⟩
    all_goals
      go_enter Try.func5, Try.ntmps5
      go_wp2_with (first
        | (go_at_call 9; refine (new_tight _).mono ?_; rintro e w1 ⟨nb, mb, F1, rfl, n1, f1, g1, k1⟩
           have T1 := Lib.hid (send_any n1 f1 TP [⟨a, b, X1, false⟩, ⟨b, a, X1, false⟩, ⟨a, c, Y1, false⟩] HP1.out (show 0 + 3 ≤ 100000 by omega))
           clear n1)
        | (go_at_call 10; refine T1.out.mono ?_; clear T1; rintro e w2 ⟨rfl, F2, v2, n2, f2, g2, k2⟩
           rw [HS1.out] at n2 ⊢
           have T2 := Lib.hid (cut_at n2 f2 a b wa wb (show 3 ≤ 1000000 by omega) (show 0 ≤ 1000000 by omega))
           rw [Hl.out] at T2
           clear n2)
        | (go_at_call 15; refine T2.out.mono ?_; clear T2; rintro e w3 ⟨rfl, v3, n3, k3⟩
           have f3 : ∀ k, F2 k → k < w3.heap.size := fun k hk => Nat.lt_of_lt_of_le (f2 k hk) k3.size
           have T3 := Lib.hid (len_at n3)
           rw [Hll.out] at T3
           have T4 := Lib.hid (send_any n3 f3 TP [⟨a, b, ⟨#[]⟩, false⟩] HP2.out (show l.length + 1 ≤ 100000 by have := Hl1.out; omega))
           rw [HS2.out] at T4
           clear n3)
        | (go_at_call 11; refine T3.out.mono ?_; clear T3; rintro e w4 ⟨rfl, rfl⟩)
        | (go_at_call 10; refine T4.out.mono ?_; clear T4; rintro e w4 ⟨rfl, F4, v4, n4, f4, g4, k4⟩
           have T5 := Lib.hid (send_any n4 f4 TP [⟨b, a, ⟨#[]⟩, false⟩] HP3.out (show l.length + 1 ≤ 100000 by have := Hl1.out; omega))
           rw [HS3.out] at T5
           clear n4)
        | (go_at_call 10; refine T5.out.mono ?_; clear T5; rintro e w5 ⟨rfl, F5, v5, n5, f5, g5, k5⟩
           have T6 := Lib.hid (heal_at n5)
           clear n5)
        | (go_at_call 16; refine T6.out.mono ?_; clear T6; rintro e w6 ⟨rfl, n6, k6⟩
           have f6 : ∀ k, F5 k → k < w6.heap.size := fun k hk => Nat.lt_of_lt_of_le (f5 k hk) k6.size
           replace n6 := Lib.hid n6)
        | (go_at_call 8; refine (awake_any _).mono ?_; rintro e w7 ⟨rfl, k7⟩
           have T8 := Lib.hid (send_any (n6.out.keep0 k7) (fun k hk => Nat.lt_of_lt_of_le (f6 k hk) k7.size) TP [⟨b, a, ⟨#[]⟩, false⟩] HP3.out (show l.length + 1 ≤ 100000 by have := Hl1.out; omega))
           rw [HS4.out] at T8)
        | (go_at_call 10; refine T8.out.mono ?_; clear T8; rintro e w8 ⟨rfl, F8, v8, n8, f8, g8, k8⟩
           have T9 := Lib.hid (len_at n8)
           rw [List.length_append, Hll.out] at T9
           clear n8)
        | (go_at_call 11; refine T9.out.mono ?_; clear T9; rintro e w9 ⟨rfl, rfl⟩))
      go_ret
      have a2 : ∀ i, F2 i → w.heap.size ≤ i := fun i hi => (g2 i hi).elim (g1 i) (fun e => Nat.le_trans k1.size e)
      have c3 := (k1.then k2 g1).then k3 a2
      have a4 : ∀ i, F4 i → w.heap.size ≤ i := fun i hi => (g4 i hi).elim (a2 i) (fun e => Nat.le_trans c3.size e)
      have c4 := c3.then k4 a2
      have a5 : ∀ i, F5 i → w.heap.size ≤ i := fun i hi => (g5 i hi).elim (a4 i) (fun e => Nat.le_trans c4.size e)
      exact ⟨rfl, ((((c4.then k5 a4).then k6 a5).trans k7).then k8 a5).below0⟩

theorem netCuts_walk (a b c : Int) (w : World) (wa : (Lit.int .i64 a).wf = true) (wb : (Lit.int .i64 b).wf = true) (wc : (Lit.int .i64 c).wf = true) :
    Calls Try.prog 5 #[.int .i64 a, .int .i64 b, .int .i64 c] w fun e w' => e = .returned (.bool true) ∧ Below w.heap.size w w' := by
  by_cases h : c = b
  · exact netCuts_part a b c [] true w wa wb wc (by rw [cuts_left, if_pos h]) (by rw [beq_iff_eq]; exact h) (.inl rfl) rfl
  · refine netCuts_part a b c _ false w wa wb wc (by rw [cuts_left, if_neg h]) (by rw [beq_eq_false_iff_ne]; exact h) (.inr ?_) rfl
    by_cases h2 : a = b
    · exact .inr ⟨by rw [beq_iff_eq]; exact h2, by rw [beq_eq_false_iff_ne]; omega⟩
    · exact .inl (by rw [beq_eq_false_iff_ne]; exact h2)

end Go.Proofs.Ytdmdegjomikmlaa.NetX
