/-
  Layer 22 (net): the law NetSpoils.
-/
import Derived.Test.YtdmdegjomikmlaaNetR
import Derived.Test.YtdmdegjomikmlaaNetK
namespace Go.Proofs.Ytdmdegjomikmlaa.NetV
set_option linter.unusedVariables false
set_option linter.unusedSimpArgs false
open Go.RowKit Go.Proofs.Ytdmdegjomikmlaa.Mem Go.Proofs.Ytdmdegjomikmlaa.NetM Go.Proofs.Ytdmdegjomikmlaa.NetW Go.Proofs.Ytdmdegjomikmlaa.NetS Go.Proofs.Ytdmdegjomikmlaa.NetD Go.Proofs.Ytdmdegjomikmlaa.NetT Go.Proofs.Ytdmdegjomikmlaa.NetA Go.Proofs.Ytdmdegjomikmlaa.NetP Go.Proofs.Ytdmdegjomikmlaa.NetQ Go.Proofs.Ytdmdegjomikmlaa.NetC Go.Proofs.Ytdmdegjomikmlaa.NetR Go.Proofs.Ytdmdegjomikmlaa.NetK
attribute [-go_sem] Instr.loadAt loadVar
attribute [local go_sem] loadAt_ptr lv_int lv_bool lv_string lv_u8 lv_ps lv_map

theorem wrap_u8_in (x : Int) : 0 ≤ x % 256 ∧ x % 256 < 256 := by omega

set_option maxHeartbeats 8000000 in
set_option maxRecDepth 100000 in
theorem netSpoils_walk (s : ByteArray) (at_ bits_ : Int) (w : World) (ws : s.size ≤ 9223372036854775807) (wa : (Lit.int .i64 at_).wf = true) (wb : (Lit.int .i64 bits_).wf = true) :
    Calls Try.prog 4 #[.string s, .int .i64 at_, .int .i64 bits_] w fun e w' => e = .returned (.bool true) ∧ Below w.heap.size w w' := by
  go_enter Try.func4, Try.ntmps4
  go_upto_if 15 with fail
  go_cut [0] (fun s0 wx => (∃ T : ByteArray, s0 = .string T ∧ T.size ≤ 50) ∧ wx = w)
  case first =>
    by_cases h : (50 : Int) < s.size
    · go_wp2_with fail
      go_meet
      exact ⟨⟨s.extract 0 50, rfl, by simp; omega⟩, rfl⟩
    · go_wp2_with fail
      go_meet
      exact ⟨⟨s, rfl, by omega⟩, rfl⟩
  case rest =>
    obtain ⟨⟨T, rfl, hT⟩, rfl⟩ := hcut
    obtain ⟨c, hc⟩ : ∃ c, c = bits_ % 256 := ⟨_, rfl⟩
    have hcw := wrap_u8_in bits_
    rw [← hc] at hcw
    obtain ⟨hc0, hc1⟩ := hcw
    have P1 : Pk.Ok ⟨1, 2, T, false⟩ := ⟨rfl, rfl, by show T.size ≤ _; omega⟩
    obtain ⟨p1, hp1⟩ : ∃ p1, p1 = sp1 ⟨1, 2, T, false⟩ at_ c := ⟨_, rfl⟩
    obtain ⟨ok, hok⟩ : ∃ ok, ok = canSpoil ⟨1, 2, T, false⟩ at_ c := ⟨_, rfl⟩
    have hs1 : snd no [] [⟨1, 2, T, false⟩] = ([⟨1, 2, T, false⟩], 1) := by simp [snd, stp, no, cnt]
    have HP1 := Lib.hid P1
    have Hp1 := Lib.hid hp1
    have Hok := Lib.hid hok
    have Hs1 := Lib.hid hs1
    have Hc := Lib.hid hc
    clear P1 hp1 hok hs1
    go_upto_region 6 with (first
      | (go_at_call 9; refine (new_tight _).mono ?_; rintro e w1 ⟨nb, mb, F1, rfl, n1, f1, g1, k1⟩
         have HS := Lib.hid (send_row n1 f1 TP [⟨1, 2, T, false⟩] (by intro p hp; rw [List.mem_singleton.1 hp]; exact HP1.out) (show 0 + 1 ≤ 100000 by omega) (fun _ _ => rfl))
         clear n1)
      | (go_at_call 10; refine HS.out.mono ?_; rintro e w2 ⟨rfl, F2, v2, n2, f2, g2, k2⟩
         rw [Hs1.out] at n2 ⊢
         have HT := Lib.hid (spoil_any n2 0 _ rfl (show 1 ≤ 1000000 by omega) at_ c hc0 hc1)
         clear n2)
      | (go_at_call 12; rw [← Hc.out]; refine HT.out.mono ?_; rintro e w3 ⟨rfl, v3, n3, k3⟩; rw [← Hp1.out] at n3; rw [← Hok.out]; replace n3 := Lib.hid n3))
    go_cut [43] (fun s43 wx => s43 = .bool false ∧ wx = w3)
    case first =>
      have hq : ok = (!false && !(c == 0) && decide (0 ≤ at_) && decide (at_ < (T.size : Int))) := Hok.out
      have Hq := Lib.hid hq
      clear hq
      by_cases h1 : 0 ≤ at_
      · by_cases h2 : at_ < (T.size : Int)
        · cases h3 : (c == 0)
          · have h3' : (bits_ % 256 == 0) = false := by rw [← Hc.out]; exact h3
            obtain rfl : ok = true := by rw [Hq.out, h3, decide_eq_true h1, decide_eq_true h2]; rfl
            clear h3
            go_wp2_with fail
            go_meet
            exact ⟨by show Value.bool _ = _; congr 1; simp [bne, h3'], rfl⟩
          · have h3' : (bits_ % 256 == 0) = true := by rw [← Hc.out]; exact h3
            obtain rfl : ok = false := by rw [Hq.out, h3]; rfl
            clear h3
            go_wp2_with fail
            go_meet
            exact ⟨by show Value.bool _ = _; congr 1; simp [bne, h3'], rfl⟩
        · obtain rfl : ok = false := by rw [Hq.out, decide_eq_false h2, Bool.and_false]
          go_wp2_with fail
          go_meet
          exact ⟨rfl, rfl⟩
      · obtain rfl : ok = false := by rw [Hq.out, decide_eq_false h1, Bool.and_false, Bool.false_and]
        go_wp2_with fail
        go_meet
        exact ⟨rfl, rfl⟩
    case rest =>
      obtain ⟨rfl, rfl⟩ := hcut
      have n3' : NetAt wc F2 nb [p1] 0 no v3 mb := n3.out
      obtain ⟨p2, hp2⟩ : ∃ p2, p2 = sp1 p1 0 1 := ⟨_, rfl⟩
      obtain ⟨ag, hag⟩ : ∃ ag, ag = canSpoil p1 0 1 := ⟨_, rfl⟩
      have HT2 := Lib.hid (spoil_any n3' 0 p1 rfl (show 1 ≤ 1000000 by omega) 0 1 (by omega) (by omega))
      have hag2 : ag = (!ok && decide (0 < T.size)) := by
        rw [hag, Hok.out]
        unfold canSpoil
        rw [Hp1.out, sp1_sp _ _ _ rfl, sp1_size]
        simp [canSpoil]
      have Hp2 := Lib.hid hp2
      have Hag := Lib.hid hag
      have Hag2 := Lib.hid hag2
      clear hp2 hag hag2 n3'
      go_upto_region 9 with (go_at_call 12; refine HT2.out.mono ?_; rintro e w4 ⟨rfl, v4, n4, k4⟩; rw [← Hp2.out] at n4; rw [← Hag.out]; replace n4 := Lib.hid n4; replace k4 := Lib.hid k4)
      have n4' : NetAt w4 F2 nb [p2] 0 no v4 mb := n4.out
      have hs2 : snd no [p2] [p2] = ([p2, p2], 1) := by
        show stp no ([p2], 0) p2 = _
        rw [stp_in no [p2] 0 p2 rfl (by have := cnt_le p2.fr p2.to_ [p2]; simp at this; omega)]
        rfl
      have hd := double_in n4' (fun i hi => Nat.lt_of_lt_of_le (f2 i hi) (Nat.le_trans k3.size k4.out.size)) 0 p2 rfl (show 1 ≤ 99999 by omega) rfl
      rw [hs2] at hd
      have HD := Lib.hid hd
      clear n4' hs2 hd
      go_cut [59] (fun s59 wx => s59 = .bool false ∧ Up w4 wx F2 nb [p2, p2] 0 no mb)
      case first =>
        cases hok : ok
        · subst hok
          by_cases hz : 0 < T.size
          · obtain rfl : ag = true := by rw [Hag2.out, decide_eq_true hz]; rfl
            have hz' : (0 : Int) < (T.size : Int) := by omega
            go_wp2_with (go_at_call 13; refine HD.out.mono ?_; rintro e w5 ⟨rfl, U5⟩)
            go_meet
            exact ⟨rfl, U5⟩
          · obtain rfl : ag = false := by rw [Hag2.out, decide_eq_false hz]; rfl
            have hz' : ¬ (0 : Int) < (T.size : Int) := by omega
            go_wp2_with (go_at_call 13; refine HD.out.mono ?_; rintro e w5 ⟨rfl, U5⟩)
            go_meet
            exact ⟨rfl, U5⟩
        · subst hok
          obtain rfl : ag = false := by rw [Hag2.out]; rfl
          go_wp2_with (go_at_call 13; refine HD.out.mono ?_; rintro e w5 ⟨rfl, U5⟩)
          go_meet
          exact ⟨rfl, U5⟩
      case rest =>
        obtain ⟨rfl, F5, v5, n5, f5, g5, k5⟩ := hcut
        have HA := Lib.hid (all_at n5 (show 2 ≤ 1000000 by omega))
        clear n5
        go_upto_region 12 with (go_at_call 14; refine HA.out.mono ?_; rintro e w6 ⟨v6, rfl, o6, k6⟩)
        obtain ⟨g, cap, rfl, hg, -, hcell⟩ := row_cells (g := 0) o6 (by simp)
        have hsp : p2.sp = (ok || ag) := by
          rw [Hp2.out]
          unfold sp1
          rw [← Hag.out]
          cases ag
          · rw [if_neg (by simp), Hp1.out, sp1_sp _ _ _ rfl, Hok.out, Bool.or_false]
          · rw [if_pos rfl, Bool.or_true]; rfl
        have hsz : p2.s.size = T.size := by rw [Hp2.out, sp1_size, Hp1.out, sp1_size]
        have hdf : dif p2.s.data.toList T.data.toList T.size = if (ok || ag) = true then 1 else 0 := by
          cases hag : ag
          · have e : p2 = p1 := by rw [Hp2.out]; unfold sp1; rw [← Hag.out, hag, if_neg (by simp)]
            rw [e, Hp1.out, Bool.or_false, Hok.out]
            exact sp1_dif ⟨1, 2, T, false⟩ at_ c hc0 hc1
          · have hok : ok = false := by have := Hag2.out; rw [hag] at this; cases ok; rfl; simp at this
            have e : p1 = ⟨1, 2, T, false⟩ := by rw [Hp1.out]; unfold sp1; rw [← Hok.out, hok, if_neg (by simp)]
            rw [Hp2.out, e, Bool.or_true, if_pos rfl]
            have := sp1_dif ⟨1, 2, T, false⟩ 0 1 (by omega) (by omega)
            rw [e] at Hag
            rw [← Hag.out, hag] at this
            exact this
        have q0 := hcell 0 p2 rfl
        have q1 := hcell 1 p2 rfl
        have KW := (((((k1.then k2 g1).then k3 (fun i hi => by rcases g2 i hi with e | e; exact g1 i e; have := k1.size; omega)).then k4.out (fun i hi => by rcases g2 i hi with e | e; exact g1 i e; have := k1.size; omega)).then k5 (fun i hi => by rcases g2 i hi with e | e; exact g1 i e; have := k1.size; omega)).trans k6)
        have HKW := Lib.hid KW
        clear KW k1 k2 k3 k4 k5 k6 f1 g1 f2 g2 f5 g5 hcell o6 n3 n4 HA HD HT HT2 HS Hs1 Hag2 Hp2 Hag Hp1 Hok HP1
        clear p1
        obtain ⟨fr, to_, s2, sp2⟩ := p2
        simp only at hsp hsz hdf q0 q1
        subst hsp
        have hsz' : (s2.size : Int) = (T.size : Int) := by omega
        have a2 : w6.cell? ⟨g, 2, none⟩ = some (.string s2) := (q0 2 (by omega)).trans rfl
        have a3 : w6.cell? ⟨g, 3, none⟩ = some (.bool (ok || ag)) := (q0 3 (by omega)).trans rfl
        have l0 := fun q => load_pk (w6.drewN q) g 0 ⟨fr, to_, s2, ok || ag⟩ (fun j hj => by have := q0 j hj; rw [Nat.zero_mul] at this; exact (((Keep.refl (fun _ => False) w6).drewN q).cell (p := ⟨g, _, none⟩) hg (fun e => e)).trans this)
        have l1 := fun q => load_pk (w6.drewN q) g 4 ⟨fr, to_, s2, ok || ag⟩ (fun j hj => by have := q1 j hj; rw [Nat.one_mul] at this; exact (((Keep.refl (fun _ => False) w6).drewN q).cell (p := ⟨g, _, none⟩) hg (fun e => e)).trans this)
        simp only at l0 l1
        have Hdf := Lib.hid hdf
        clear hdf q0 q1
        go_cut [94] (fun s94 wx => s94 = .bool false ∧ Keep (fun _ => False) w6 wx)
        case first =>
          cases ok <;> cases ag
          all_goals
            simp only [Bool.or_true, Bool.or_false, Bool.true_or, Bool.false_or] at a3 l0 l1
            go_quiet (fail)
            go_wp2
            go_meet
            exact ⟨rfl, (Keep.refl _ _).drewN _⟩
        case rest =>
          obtain ⟨rfl, k7⟩ := hcut
          clear l0 l1 a3
          go_wp2_with fail
          go_loopw [11, 12] (fun x11 x12 wr => ∃ i : Nat, i ≤ T.size ∧ x12 = .int .i64 i ∧ x11 = .int .i64 ((dif s2.data.toList T.data.toList i : Nat) : Int) ∧ Hid (dif s2.data.toList T.data.toList i ≤ i) ∧ Hid (Keep (fun _ => False) w6 wr)) (fun x11 x12 wr => T.size - (intOf x12).toNat)
          case atStart => exact ⟨0, by omega, rfl, rfl, Lib.hid (Nat.le_refl _), Lib.hid k7⟩
          case round =>
            obtain ⟨i, hi, rfl, rfl, hdi, hkr⟩ := hrel
            have b2 : wr.cell? ⟨g, 2, none⟩ = some (.string s2) := (hkr.out.cell (p := ⟨g, 2, none⟩) hg (fun e => e)).trans a2
            by_cases hlt : i < T.size
            · have hlt' : (i : Int) < (T.size : Int) := by omega
              have hlt2 : (i : Int) < (s2.size : Int) := by omega
              have hlt3 : i < s2.size := by omega
              go_upto_region 18 with fail
              go_cut [110] from 95 to 112 (fun s110 wx => s110 = .bool (s2.data.toList[i]?.getD 0 != T.data.toList[i]?.getD 0) ∧ Keep (fun _ => False) wr wx)
              case first =>
                go_quiet (fail)
                go_wp2
                go_meet
                refine ⟨congrArg Value.bool ?_, (Keep.refl _ _).drewN _⟩
                have e1 : i < s2.data.toList.length := by simpa using hlt3
                have e2 : i < T.data.toList.length := by simpa using hlt
                rw [List.getElem?_eq_getElem e1, List.getElem?_eq_getElem e2]
                first
                  | rfl
                  | (simp [bne, ← UInt8.toNat_inj]; done)
                  | (show (((s2.data.toList[i]'e1).toNat : Int) != ((T.data.toList[i]'e2).toNat : Int)) = ((s2.data.toList[i]'e1) != (T.data.toList[i]'e2)); rw [Bool.eq_iff_iff, bne_iff_ne, bne_iff_ne, ne_eq, ne_eq, ← UInt8.toNat_inj]; omega)
              case rest =>
                obtain ⟨rfl, k8⟩ := hcut
                have hds : dif s2.data.toList T.data.toList (i + 1) = dif s2.data.toList T.data.toList i + if (s2.data.toList[i]?.getD 0 != T.data.toList[i]?.getD 0) = true then 1 else 0 := rfl
                have Hds := Lib.hid hds
                clear hds
                obtain ⟨di, hdi2⟩ : ∃ di, dif s2.data.toList T.data.toList i = di := ⟨_, rfl⟩
                have hdi3 := hdi.out
                rw [hdi2] at hdi3 ⊢
                have Hdi2 := Lib.hid hdi2
                clear hdi2
                cases hb : (s2.data.toList[i]?.getD 0 != T.data.toList[i]?.getD 0)
                · have Hb := Lib.hid hb
                  clear hb
                  go_wp2_with fail
                  go_roundw
                  case rel => exact ⟨i + 1, by omega, by go_num, by rw [Hds.out, Hb.out, Hdi2.out]; rfl, Lib.hid (by rw [Hds.out, Hb.out, Hdi2.out]; simp; omega), Lib.hid (hkr.out.trans k8)⟩
                  case measure => simp [intOf]; omega
                · have Hb := Lib.hid hb
                  clear hb
                  go_wp2_with fail
                  go_roundw
                  case rel => exact ⟨i + 1, by omega, by go_num, by rw [Hds.out, Hb.out, Hdi2.out]; rfl, Lib.hid (by rw [Hds.out, Hb.out, Hdi2.out]; simp; omega), Lib.hid (hkr.out.trans k8)⟩
                  case measure => simp [intOf]; omega
            · obtain rfl : i = T.size := by omega
              have hd2 := Hdf.out
              clear b2 a2
              cases ok <;> cases ag
              all_goals
                simp only [Bool.or_true, Bool.or_false, Bool.true_or, Bool.false_or, if_true, Bool.false_eq_true, if_false] at hd2
                rw [hd2]
                go_wp2_with (go_at_call 8; refine (awake_any _).mono ?_; rintro e w9 ⟨rfl, k9⟩)
                go_ret
                exact ⟨rfl, Keep.below0 ((HKW.out.trans hkr.out).trans k9)⟩

end Go.Proofs.Ytdmdegjomikmlaa.NetV
