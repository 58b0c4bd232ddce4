/-
  Layer 22 (net): the law NetLinks.
-/
import Derived.Test.YtdmdegjomikmlaaNetA
import Derived.Test.YtdmdegjomikmlaaMask
namespace Go.Proofs.Ytdmdegjomikmlaa.NetK
set_option linter.unusedVariables false
set_option linter.unusedSimpArgs false
open Go.RowKit Go.Proofs.Ytdmdegjomikmlaa.Mem Go.Proofs.Ytdmdegjomikmlaa.NetM Go.Proofs.Ytdmdegjomikmlaa.NetW Go.Proofs.Ytdmdegjomikmlaa.NetS Go.Proofs.Ytdmdegjomikmlaa.NetD Go.Proofs.Ytdmdegjomikmlaa.NetT Go.Proofs.Ytdmdegjomikmlaa.NetA Go.Proofs.Ytdmdegjomikmlaa.Mask
attribute [-go_sem] Instr.loadAt loadVar
attribute [local go_sem] loadAt_ptr lv_int lv_bool lv_string lv_u8 lv_ps lv_map

theorem cnt_same (a b : Int) (c : Nat) : cnt a b (List.replicate c ⟨a, b, ⟨#[]⟩, false⟩) = c := by
  unfold cnt
  rw [List.filter_eq_self.2 (by intro p hp; rw [List.eq_of_mem_replicate hp]; simp), List.length_replicate]
theorem cnt_other (a b : Int) (h : a ≠ b) (c : Nat) : cnt b a (List.replicate c ⟨a, b, ⟨#[]⟩, false⟩) = 0 := by
  unfold cnt
  rw [List.filter_eq_nil_iff.2 (by intro p hp; rw [List.eq_of_mem_replicate hp]; simp; intro e; exact absurd e h)]
  rfl
theorem snd_more (a b : Int) (c : Nat) (h : c < 64) : snd no (List.replicate c ⟨a, b, ⟨#[]⟩, false⟩) [⟨a, b, ⟨#[]⟩, false⟩] = (List.replicate (c + 1) ⟨a, b, ⟨#[]⟩, false⟩, 1) := by
  unfold snd stp
  rw [List.foldl_cons, List.foldl_nil, if_neg (by rw [cnt_same]; simp [no]; omega), List.replicate_succ']
theorem snd_full (a b : Int) : snd no (List.replicate 64 ⟨a, b, ⟨#[]⟩, false⟩) [⟨a, b, ⟨#[]⟩, false⟩] = (List.replicate 64 ⟨a, b, ⟨#[]⟩, false⟩, 0) := by
  unfold snd stp
  rw [List.foldl_cons, List.foldl_nil, if_pos (by rw [cnt_same]; simp)]
theorem stp_in (S : Int → Int → Bool) (ps : List Pk) (c : Nat) (q : Pk) (h1 : S (min q.fr q.to_) (max q.fr q.to_) = false) (h2 : cnt q.fr q.to_ ps < 64) : stp S (ps, c) q = (ps ++ [q], c + 1) := by
  unfold stp
  rw [if_neg]
  intro e
  rcases e with e | e
  · rw [h1] at e; cases e
  · have e' : 64 ≤ cnt q.fr q.to_ ps := e
    omega
theorem snd_two (a b : Int) (h : a ≠ b) (c : Nat) : snd no (List.replicate c ⟨a, b, ⟨#[]⟩, false⟩) [⟨b, a, ⟨#[]⟩, false⟩, ⟨b, a, ⟨#[]⟩, false⟩] = (List.replicate c ⟨a, b, ⟨#[]⟩, false⟩ ++ [⟨b, a, ⟨#[]⟩, false⟩, ⟨b, a, ⟨#[]⟩, false⟩], 2) := by
  have h1 : cnt b a (List.replicate c ⟨a, b, ⟨#[]⟩, false⟩) = 0 := cnt_other a b h c
  have h2 : cnt b a (List.replicate c ⟨a, b, ⟨#[]⟩, false⟩ ++ [⟨b, a, ⟨#[]⟩, false⟩]) = 1 := by rw [cnt_snoc, h1]; simp
  unfold snd
  rw [List.foldl_cons, List.foldl_cons, List.foldl_nil, stp_in no (List.replicate c ⟨a, b, ⟨#[]⟩, false⟩) 0 ⟨b, a, ⟨#[]⟩, false⟩ rfl (by show cnt b a _ < 64; rw [h1]; omega), stp_in no (List.replicate c (⟨a, b, ⟨#[]⟩, false⟩ : Pk) ++ [(⟨b, a, ⟨#[]⟩, false⟩ : Pk)]) (0 + 1) ⟨b, a, ⟨#[]⟩, false⟩ rfl (by show cnt b a _ < 64; rw [h2]; omega)]
  simp

set_option maxHeartbeats 4000000 in
theorem netLinks_walk (a b many : Int) (w : World) (wa : (Lit.int .i64 a).wf = true) (wb : (Lit.int .i64 b).wf = true) (wm : (Lit.int .i64 many).wf = true) :
    Calls Try.prog 3 #[.int .i64 a, .int .i64 b, .int .i64 many] w fun e w' => e = .returned (.bool true) ∧ Below w.heap.size w w' := by
  obtain ⟨m, hm, hm2, -⟩ := i64_and many 7 (by omega)
  have hm' : bits .and .i64 many 127 = (m : Int) := hm
  clear hm
  by_cases hab : a = b
  · have hq : (a == b) = true := by rw [beq_iff_eq]; exact hab
    clear hab
    go_enter Try.func3, Try.ntmps3
    go_wp2_with (go_at_call 8; refine (awake_any _).mono ?_; rintro e w1 ⟨rfl, k1⟩)
    go_ret
    exact ⟨rfl, k1.below0⟩
  · have hq : (a == b) = false := by rw [beq_eq_false_iff_ne]; exact hab
    replace hab := Lib.hid hab
    have P1 : Pk.Ok ⟨a, b, ⟨#[]⟩, false⟩ := ⟨wa, wb, by show (0 : Nat) ≤ _; omega⟩
    have P2 : Pk.Ok ⟨b, a, ⟨#[]⟩, false⟩ := ⟨wb, wa, by show (0 : Nat) ≤ _; omega⟩
    have HP1 := Lib.hid P1
    have HP2 := Lib.hid P2
    clear P1 P2
    go_enter Try.func3, Try.ntmps3
    go_wp2_with (go_at_call 9; refine (new_tight _).mono ?_; rintro e w1 ⟨nb, mb, F1, rfl, n1, f1, g1, k1⟩; replace n1 := Lib.hid n1; replace f1 := Lib.hid f1; replace g1 := Lib.hid g1; replace k1 := Lib.hid k1)
    go_loopw [9] (fun xi wr => ∃ (k : Nat) (F' : Nat → Prop) (v' : Value), k ≤ m ∧ xi = .int .i64 k ∧ NetAt wr F' nb (List.replicate (min k 64) ⟨a, b, ⟨#[]⟩, false⟩) 0 no v' mb ∧ Hid (∀ k, F' k → k < wr.heap.size) ∧ Hid (∀ k, F' k → w.heap.size ≤ k) ∧ Hid (Keep (fun _ => False) w wr)) (fun xi wr => m - (intOf xi).toNat)
    case atStart => exact ⟨0, F1, _, by omega, rfl, n1.out, f1, g1, k1⟩
    case round =>
      obtain ⟨k, F', v', hk, rfl, hN, hF1, hF2, hK⟩ := hrel
      have HN := Lib.hid hN
      clear hN
      by_cases hlt : k < m
      · by_cases h64 : k < 64
        · have h64i : (k : Int) < 64 := by omega
          have hs := send_row HN.out hF1.out TP [⟨a, b, ⟨#[]⟩, false⟩] (by intro p hp; rw [List.mem_singleton.1 hp]; exact HP1.out) (by simp; omega) (fun _ _ => rfl)
          rw [show min k 64 = k from by omega, snd_more a b k h64] at hs
          have HS := Lib.hid hs
          clear hs
          go_wp2_with (go_at_call 10; refine HS.out.mono ?_; rintro e w2 ⟨rfl, F2, v2, n2, f2, g2, k2⟩; replace n2 := Lib.hid n2; replace f2 := Lib.hid f2; replace g2 := Lib.hid g2; replace k2 := Lib.hid k2)
          go_roundw
          case rel => exact ⟨k + 1, F2, v2, by omega, by go_num, by rw [show min (k + 1) 64 = k + 1 from by omega]; exact n2.out, f2, Lib.hid (fun i hi => (g2.out i hi).elim (hF2.out i) (fun e => Nat.le_trans hK.out.size e)), Lib.hid (hK.out.then k2.out hF2.out)⟩
          case measure => simp [intOf]; omega
        · have h64i : ¬ (k : Int) < 64 := by omega
          have hs := send_row HN.out hF1.out TP [⟨a, b, ⟨#[]⟩, false⟩] (by intro p hp; rw [List.mem_singleton.1 hp]; exact HP1.out) (by simp; omega) (fun _ _ => rfl)
          rw [show min k 64 = 64 from by omega, snd_full a b] at hs
          have HS := Lib.hid hs
          clear hs
          go_wp2_with (go_at_call 10; refine HS.out.mono ?_; rintro e w2 ⟨rfl, F2, v2, n2, f2, g2, k2⟩; replace n2 := Lib.hid n2; replace f2 := Lib.hid f2; replace g2 := Lib.hid g2; replace k2 := Lib.hid k2)
          go_roundw
          case rel => exact ⟨k + 1, F2, v2, by omega, by go_num, by rw [show min (k + 1) 64 = 64 from by omega]; exact n2.out, f2, Lib.hid (fun i hi => (g2.out i hi).elim (hF2.out i) (fun e => Nat.le_trans hK.out.size e)), Lib.hid (hK.out.then k2.out hF2.out)⟩
          case measure => simp [intOf]; omega
      · obtain rfl : k = m := by omega
        have hs := fun w2 (kk : Keep (fun _ => False) wr w2) => send_row (HN.out.keep0 kk) (fun i hi => Nat.lt_of_lt_of_le (hF1.out i hi) kk.size) TP [⟨b, a, ⟨#[]⟩, false⟩, ⟨b, a, ⟨#[]⟩, false⟩] (by intro p hp; simp only [List.mem_cons, List.not_mem_nil, or_false, or_self] at hp; rw [hp]; exact HP2.out) (by simp; omega) (fun _ _ => rfl)
        rw [snd_two a b hab.out] at hs
        have HS := Lib.hid hs
        have hmn : min (k : Int) 64 = ((min k 64 : Nat) : Int) := by omega
        have hl2 : ((List.replicate (min k 64) (⟨a, b, ⟨#[]⟩, false⟩ : Pk) ++ [(⟨b, a, ⟨#[]⟩, false⟩ : Pk), (⟨b, a, ⟨#[]⟩, false⟩ : Pk)]).length : Int) = ((min k 64 : Nat) : Int) + 2 := by simp
        have HL := Lib.hid hl2
        clear hs hl2
        go_wp2_with (first
          | (go_at_call 8; refine (awake_any _).mono ?_; rintro e w2 ⟨rfl, k2⟩)
          | (go_at_call 10; refine (HS.out w2 k2).mono ?_; rintro e w3 ⟨rfl, F3, v3, n3, f3, g3, k3⟩)
          | (go_at_call 11; refine (len_at n3).mono ?_; rintro e w4 ⟨rfl, rfl⟩; rw [HL.out]))
        all_goals
          go_ret
          refine ⟨?_, Keep.below0 ((hK.out.trans k2).then k3 hF2.out)⟩
          show Ending.returned (.bool _) = _
          congr 2
          rw [beq_iff_eq]
          omega

end Go.Proofs.Ytdmdegjomikmlaa.NetK
