/-
  Layer 22 (net): the law's own model: do, NdJ.
-/
import Derived.Test.YtdmdegjomikmlaaNdB
import Derived.Test.YtdmdegjomikmlaaNetR
import Derived.Test.YtdmdegjomikmlaaMask
import Derived.Test.YtdmdegjomikmlaaNdR
namespace Go.Proofs.Ytdmdegjomikmlaa.NdJ
set_option linter.unusedVariables false
set_option linter.unusedSimpArgs false
set_option maxRecDepth 100000
open Go.RowKit Go.Proofs.Ytdmdegjomikmlaa.Mem Go.Proofs.Ytdmdegjomikmlaa.NetM Go.Proofs.Ytdmdegjomikmlaa.NetW Go.Proofs.Ytdmdegjomikmlaa.NetS Go.Proofs.Ytdmdegjomikmlaa.NetD Go.Proofs.Ytdmdegjomikmlaa.NetT Go.Proofs.Ytdmdegjomikmlaa.NetA Go.Proofs.Ytdmdegjomikmlaa.NetY Go.Proofs.Ytdmdegjomikmlaa.NetZ Go.Proofs.Ytdmdegjomikmlaa.NetO Go.Proofs.Ytdmdegjomikmlaa.NetB Go.Proofs.Ytdmdegjomikmlaa.NetF Go.Proofs.Ytdmdegjomikmlaa.NetH Go.Proofs.Ytdmdegjomikmlaa.NetU Go.Proofs.Ytdmdegjomikmlaa.NdA Go.Proofs.Ytdmdegjomikmlaa.NdB Go.Proofs.Ytdmdegjomikmlaa.NetP Go.Proofs.Ytdmdegjomikmlaa.NetQ Go.Proofs.Ytdmdegjomikmlaa.NetR Go.Proofs.Ytdmdegjomikmlaa.Mask Go.Proofs.Ytdmdegjomikmlaa.NdR
attribute [-go_sem] Builtin.append_

set_option maxHeartbeats 64000000 in
theorem do_7y (b mb n k m cl cc : Nat) (al ac : Option Addr) (ps : List Pk) (cs : List (Int × Int)) (S : Int → Int → Bool) (v : Value) (x : Do) (w : World) (F : Nat → Prop) (B : Nat) (hI : In w F B b mb n k m cl cc al ac ps cs S v) (hx : x.Ok) (hkd : x.kind = 7) (i : Nat) (hi : x.at_ = (i : Int)) (hik : i < k) (hcs : ∀ p, ps[i]? = some p → canSpoil p (Go.bits .and .i64 x.b 15) (x.bits % 256) = true) :
    Calls Try.prog 17 #[.agg #[.slice al k cl, .slice ac m cc], .pointer (some ⟨b, 0, none⟩), .agg x.cells.toArray] w fun e w' => ∃ vl vc, e = .returned (.tuple #[.agg #[vl, vc], .bool true]) ∧ Did w w' F b mb ps cs n B vl vc := by
  have HI := Lib.hid hI
  have hk9 := hI.k9
  have hm9 := hI.m9
  have hn9 := hI.n9
  clear hI
  obtain ⟨kd, a, c, at_, bits, s⟩ := x
  obtain ⟨wa, wc', wt, wb, ws⟩ := hx
  simp only at wa wc' wt wb ws hkd hi hcs
  subst hkd
  have HI2 := Lib.hid hi
  have HIK := Lib.hid hik
  have HCS1 := Lib.hid hcs
  clear hi hik hcs
  unfold Do.cells
  go_enter Try.func17, Try.ntmps17
  go_upto_region 1 with fail
  obtain ⟨W, hW⟩ : ∃ W, W = ((w.alloc (.cells #[.slice al k cl, .slice ac m cc] TMo)).alloc (.cells #[.int .i64 7, .int .i64 a, .int .i64 c, .int .i64 at_, .int .i64 bits, .string s] 43)).alloc (.cells #[.slice none 0 0, .slice none 0 0] TMo) := ⟨_, rfl⟩
  rw [← hW]
  have hM0 : W.heap[w.heap.size]? = some (.cells #[.slice al k cl, .slice ac m cc] TMo (0, 0)) := by rw [hW]; exact block_alloc (block_alloc (block_new w _) _) _
  have hA0 : W.heap[w.heap.size + 1]? = some (.cells #[.int .i64 7, .int .i64 a, .int .i64 c, .int .i64 at_, .int .i64 bits, .string s] 43 (0, 0)) := by rw [hW]; exact block_alloc (block_new_at (by simp)) _
  have hZ0 : W.heap[w.heap.size + 1 + 1]? = some (.cells #[.slice none 0 0, .slice none 0 0] TMo (0, 0)) := by rw [hW]; exact block_new_at (by simp)
  have hkW : Keep (fun _ => False) w W := by rw [hW]; exact (((Keep.refl _ w).alloc _).alloc _).alloc _
  have hsW : W.heap.size = w.heap.size + 3 := by rw [hW]; simp
  have HMb := Lib.hid hM0
  have HAb := Lib.hid hA0
  have HZb := Lib.hid hZ0
  have HKW := Lib.hid hkW
  have HSW := Lib.hid hsW
  have HBIG := Lib.hid (show ∀ q, w.heap.size ≤ q → ¬ F q from fun q hq f => by have := HI.out.foot q f; omega)
  have m0 := cell_at hM0 0
  have m1 := cell_at hM0 1
  have a0 := cell_at hA0 0
  have a1 := cell_at hA0 1
  have a2 := cell_at hA0 2
  have a3 := cell_at hA0 3
  have a4 := cell_at hA0 4
  have a5 := cell_at hA0 5
  simp at m0 m1 a0 a1 a2 a3 a4 a5
  clear hW hM0 hA0 hZ0 hkW hsW
  go_cut [8] (fun x8 W' => x8 = .bool (decide (0 ≤ at_) && decide (at_ < (k : Int))) ∧ W' = W)
  case first =>
    by_cases h1 : 0 ≤ at_
    · by_cases h2 : at_ < (k : Int)
      · go_wp2_with fail
        go_meet
        exact ⟨by simp [h1, h2], rfl⟩
      · go_wp2_with fail
        go_meet
        exact ⟨by simp [h1, h2], rfl⟩
    · go_wp2_with fail
      go_meet
      exact ⟨by rw [decide_eq_false (by omega)]; rfl, rfl⟩
  case rest =>
    obtain ⟨rfl, rfl⟩ := hcut
    obtain ⟨A, hA, hA2, -⟩ := i64_and c 4 (by omega)
    have hA' : Go.bits .and .i64 c 15 = (A : Int) := hA
    have hA16 : A < 16 := hA2
    clear hA hA2
    obtain ⟨C, hC⟩ : ∃ C, C = bits % 256 := ⟨_, rfl⟩
    have hC0 : 0 ≤ C := by omega
    have hC9 : C < 256 := by omega
    have hi := HI2.out
    have hik := HIK.out
    have hcs := HCS1.out
    clear HI2 HIK HCS1
    subst hi
    simp only [hA', ← hC] at hcs
    have HCS0 := Lib.hid hcs
    clear hcs
    go_upto_region 20 with fail
    go_cut [15, 16] (fun x y W' => x = .int .i64 (A : Int) ∧ y = .int .u8 C ∧ Hid (Keep (fun _ => False) wc W' ∧ W'.heap.size = wc.heap.size))
    case first =>
      go_quiet (fail)
      go_wp2_with fail
      go_meet
      exact ⟨rfl, by rw [hC], Lib.hid ⟨(Keep.refl _ _).drewN _, rfl⟩⟩
    case rest =>
      obtain ⟨rfl, rfl, hK⟩ := hcut
      have HKc := Lib.hid (HKW.out.trans hK.out.1)
      have HSc := Lib.hid (hK.out.2.trans HSW.out)
      have HMc := Lib.hid ((hK.out.1.block _ (lt_of_block HMb.out) (fun e => e)).trans HMb.out)
      have HAc := Lib.hid ((hK.out.1.block _ (lt_of_block HAb.out) (fun e => e)).trans HAb.out)
      have HZc := Lib.hid ((hK.out.1.block _ (lt_of_block HZb.out) (fun e => e)).trans HZb.out)
      clear m0 m1 a0 a1 a2 a3 a4 a5 hK HMb HAb HZb HKW HSW hA' hC
      have m0 := cell_at HMc.out 0
      have m1 := cell_at HMc.out 1
      have a3 := cell_at HAc.out 3
      simp at m0 m1 a3
      have hb : (decide ((0 : Int) ≤ (i : Int)) && decide ((i : Int) < (k : Int))) = true := by rw [Bool.and_eq_true, decide_eq_true_eq, decide_eq_true_eq]; omega
      rw [hb]
      clear hb
      obtain ⟨g, off, p, rfl, hcl, hcl9, hp, hpm, hgl, hgF, hcell⟩ := HI.out.at4 (Keep.refl F w) i hik
      have hcs := HCS0.out p hp
      obtain ⟨fr, to_, ss, sp⟩ := p
      have hps := (HI.out.net.ok _ hpm)
      have HPS := Lib.hid hps
      have HP := Lib.hid hp
      have HC := Lib.hid hcell
      have HGL := Lib.hid hgl
      have HGF := Lib.hid hgF
      unfold Pk.cells at HC
      have hn6 : ps.length ≤ 1000000 := by have := HI.out.hk; have := HI.out.k9; omega
      clear hps hpm hcell hgl hgF
      have hq : (!sp && !(C == 0) && decide ((0 : Int) ≤ (A : Int)) && decide ((A : Int) < (ss.size : Int))) = true := hcs
      have hsp : sp = false := by cases sp <;> simp at hq ⊢
      subst hsp
      have hc0 : (C == 0) = false := by cases h : (C == 0) <;> simp [h] at hq ⊢
      have ha9 : (A : Int) < (ss.size : Int) := by simp at hq; omega
      clear hq hcs
      have hh := Lib.hid (spoil_yes (HI.out.net.keep0 HKc.out) i _ hp hn6 A C rfl hc0 (by simpa using ha9) hC0 hC9)
      clear hp
      go_upto_region 22 with (go_at_call 12; refine hh.out.mono ?_; clear hh; rintro e w2 ⟨rfl, v2, n2, k2⟩)
      have HN2 := Lib.hid n2
      have K2 := Lib.hid k2
      have HM2 := Lib.hid ((k2.block _ (lt_of_block HMc.out) (HBIG.out _ (by omega))).trans HMc.out)
      have HA2 := Lib.hid ((k2.block _ (lt_of_block HAc.out) (HBIG.out _ (by omega))).trans HAc.out)
      have HZ2 := Lib.hid ((k2.block _ (lt_of_block HZc.out) (HBIG.out _ (by omega))).trans HZc.out)
      clear n2 k2 m0 m1 a3
      have HPC := Lib.hid (fun q hq => ((K2.out.cell (p := ⟨g, off + i * 4 + q, none⟩) (Nat.lt_of_lt_of_le HGL.out HKc.out.size) HGF.out).trans (HKc.out.cell (p := ⟨g, off + i * 4 + q, none⟩) HGL.out (fun e => e))).trans (HC.out q hq))
      have m0 := cell_at HM2.out 0
      have m1 := cell_at HM2.out 1
      have a3 := cell_at HA2.out 3
      have c2 := HPC.out 2 (by omega)
      have c3 := HPC.out 3 (by omega)
      simp at m0 m1 a3 c2 c3
      go_cut [156] (fun x W' => x = .bool false ∧ Hid (Keep (fun _ => False) w2 W'))
      case first =>
        have hc9 : ¬ C = 0 := by simpa using hc0
        have ha8 : ¬ (ss.size : Int) ≤ (A : Int) := by omega
        go_wp2_with fail
        go_meet
        exact ⟨rfl, Lib.hid (Keep.refl _ _)⟩
      case rest =>
        obtain ⟨rfl, hk2⟩ := hcut
        have HMd := Lib.hid ((hk2.out.block _ (lt_of_block HM2.out) (fun e => e)).trans HM2.out)
        have HAd := Lib.hid ((hk2.out.block _ (lt_of_block HA2.out) (fun e => e)).trans HA2.out)
        have HZd := Lib.hid ((hk2.out.block _ (lt_of_block HZ2.out) (fun e => e)).trans HZ2.out)
        clear m0 m1 a3 c2 c3
        have m0 := cell_at HMd.out 0
        have a3 := cell_at HAd.out 3
        simp at m0 a3
        have hg2 : g < w2.heap.size := Nat.lt_of_lt_of_le (Nat.lt_of_lt_of_le HGL.out HKc.out.size) K2.out.size
        have c0 := (hk2.out.cell (p := ⟨g, off + i * 4 + 0, none⟩) hg2 (fun e => e)).trans (HPC.out 0 (by omega))
        have c1 := (hk2.out.cell (p := ⟨g, off + i * 4 + 1, none⟩) hg2 (fun e => e)).trans (HPC.out 1 (by omega))
        have c2 := (hk2.out.cell (p := ⟨g, off + i * 4 + 2, none⟩) hg2 (fun e => e)).trans (HPC.out 2 (by omega))
        have c3 := (hk2.out.cell (p := ⟨g, off + i * 4 + 3, none⟩) hg2 (fun e => e)).trans (HPC.out 3 (by omega))
        simp at c0 c1 c2 c3
        clear hg2
        go_upto_region 25 with fail
        clear m0 a3 c0 c1 c2 c3
        obtain ⟨w3, hw3⟩ : ∃ V, V = wc.alloc (.cells #[.int .i64 fr, .int .i64 to_, .string ss, .bool false] TP) := ⟨_, rfl⟩
        rw [← hw3]
        have KA := Lib.hid (show Keep (fun _ => False) wc w3 by rw [hw3]; exact (Keep.refl _ _).alloc _)
        have HX3 := Lib.hid (show w3.heap[wc.heap.size]? = some (.cells #[.int .i64 fr, .int .i64 to_, .string ss, .bool false] TP (0, 0)) by rw [hw3]; exact block_new wc _)
        clear hw3
        have kc := run_bytes_of_string (P := Try.prog) w3 9 55 5 ss Try.underlying9 Try.underlying55 Try.underlying5
        obtain ⟨gc, hgc⟩ : ∃ gc, gc = grownCap w3 ss.size 0 5 := ⟨_, rfl⟩
        rw [← hgc] at kc
        clear hgc
        obtain ⟨u1, hu1⟩ : ∃ u1, u1 = w3.drew.alloc (.cells (bytesRow ss gc) 5 ((bytesRow ss gc).size, (bytesRow ss gc).size + 1)) := ⟨_, rfl⟩
        rw [← hu1] at kc
        have K31 := Lib.hid (show Keep (fun _ => False) w3 u1 by rw [hu1]; exact ((Keep.refl _ w3).drew).alloc _)
        have HB1 := Lib.hid (show u1.heap[w3.heap.size]? = some (.cells (bytesRow ss gc) 5 ((bytesRow ss gc).size, (bytesRow ss gc).size + 1)) by rw [hu1]; exact block_new w3.drew _)
        clear hu1
        have x2 := cell_at HX3.out 2
        simp at x2
        go_upto_region 26 with fail
        clear kc x2
        obtain ⟨x, hx⟩ : ∃ x, x = ss.data.toList[A]?.getD 0 := ⟨_, rfl⟩
        have hrow : ∀ j, j < ss.size → (bytesRow ss gc)[j]? = some (.int .u8 ((ss.data.toList[j]?.getD 0).toNat : Int)) := by
          intro j hj
          have hj' : j < ss.data.size := hj
          unfold bytesRow
          rw [Array.getElem?_append_left (by simp; exact hj'), Array.getElem?_map, Array.getElem?_eq_getElem hj']
          rw [Array.getElem?_toList, Array.getElem?_eq_getElem hj']
          rfl
        have hA9 : A < ss.size := by omega
        have bc : u1.cell? ⟨w3.heap.size, A, none⟩ = some (.int .u8 (x.toNat : Int)) := by rw [cell_at HB1.out, hx]; exact hrow A hA9
        have hrs : ss.size ≤ (bytesRow ss gc).size := by unfold bytesRow; simp
        have bf : u1.frozen? ⟨w3.heap.size, A, none⟩ = false := by
          have := HB1.out
          simp [World.frozen?, this]
          omega
        have hxb := xb_bits x C hC0 hC9
        have HX := Lib.hid hx
        have HROW := Lib.hid hrow
        have HRS := Lib.hid hrs
        have HPS2 := HPS.out.2.2
        simp only at HPS2
        clear hx hrow hrs
        have hai : (0 : Int) ≤ (A : Int) := by omega
        have hai3 : ¬ (A : Int) < 0 := by omega
        have hai4 : ¬ (ss.size : Int) ≤ (A : Int) := by omega
        go_upto_region 27 with fail
        clear bc bf hxb
        obtain ⟨u2, hu2⟩ : ∃ V, V = u1.setCell ⟨w3.heap.size, A, none⟩ (.int .u8 ((xb x C).toNat : Int)) := ⟨_, rfl⟩
        rw [← hu2]
        have K32 := Lib.hid (show Keep (fun _ => False) w3 u2 by rw [hu2]; exact Keep.then K31.out ((Keep.refl (fun q => q = w3.heap.size) u1).set1 _ _) (fun i e => by omega))
        have hbx2 : u2.heap[w3.heap.size]? = some (.cells ((bytesRow ss gc).setIfInBounds A (.int .u8 ((xb x C).toNat : Int))) 5 ((bytesRow ss gc).size, (bytesRow ss gc).size + 1)) := by rw [hu2]; exact block_set HB1.out _ _
        clear hu2
        obtain ⟨ls, hls⟩ : ∃ ls, ls = ss.data.toList.set A (xb x C) := ⟨_, rfl⟩
        have hll : ls.length = ss.size := by rw [hls]; simp
        have cv : (convert 55 9 (.slice (some ⟨w3.heap.size, 0, none⟩) ss.size gc)).run Try.prog u2 = .ok (.string ⟨ls.toArray⟩) u2 := by
          rw [← hll]
          refine run_convert_bytes_back u2 55 9 5 ⟨w3.heap.size, 0, none⟩ gc ls Try.underlying55 Try.underlying5 Try.underlying9 (fun j hj => ?_)
          rw [Addr.add_lit, Nat.zero_add, cell_at hbx2, Array.getElem?_setIfInBounds]
          have hj' : j < ss.data.toList.length := by rw [hll] at hj; simpa using hj
          by_cases e : A = j
          · subst e
            rw [if_pos rfl, if_pos (by have := HRS.out; omega)]
            simp [hls]
          · rw [if_neg e, HROW.out j (by rw [← hll]; exact hj)]
            simp only [hls, List.getElem_set_ne e, List.getElem?_eq_getElem hj', Option.getD_some]
        have hp' : (⟨fr, to_, ⟨ls.toArray⟩, true⟩ : Pk) = spoilt ⟨fr, to_, ss, false⟩ A C := by rw [hls, HX.out]; rfl
        have HP' := Lib.hid hp'
        clear hls hll hbx2 hp'
        obtain ⟨s2, hs2⟩ : ∃ s2 : ByteArray, s2 = ⟨ls.toArray⟩ := ⟨_, rfl⟩
        rw [← hs2] at cv HP'
        clear hs2
        have HX2 := Lib.hid ((K32.out.block _ (lt_of_block HX3.out) (fun e => e)).trans HX3.out)
        have e2 := cell_at HX2.out 2
        have e3 := cell_at HX2.out 3
        have f2 := free_at HX2.out 2
        have f3 := free_at HX2.out 3
        simp at e2 e3
        go_upto_region 28 with fail
        clear cv e2 e3 f2 f3
        obtain ⟨u3, hu3⟩ : ∃ V, V = (u2.setCell ⟨wc.heap.size, 2, none⟩ (.string s2)).setCell ⟨wc.heap.size, 3, none⟩ (.bool true) := ⟨_, rfl⟩
        rw [← hu3]
        have hb3 := block_set (block_set HX2.out 2 (.string s2)) 3 (.bool true)
        rw [← hu3] at hb3
        simp at hb3
        have HX5 := Lib.hid hb3
        have KC3 := Lib.hid (show Keep (fun _ => False) wc u3 by rw [hu3]; exact Keep.setCell (p := ⟨wc.heap.size, 3, none⟩) (Keep.setCell (p := ⟨wc.heap.size, 2, none⟩) (KA.out.trans K32.out) (.inr (Nat.le_refl _)) _) (.inr (Nat.le_refl _)) _)
        clear hu3 hb3
        have HMe := Lib.hid ((KC3.out.block _ (lt_of_block HMd.out) (fun e => e)).trans HMd.out)
        have HAe := Lib.hid ((KC3.out.block _ (lt_of_block HAd.out) (fun e => e)).trans HAd.out)
        have HZe := Lib.hid ((KC3.out.block _ (lt_of_block HZd.out) (fun e => e)).trans HZd.out)
        have m0 := cell_at (block_alloc HMe.out (.cells #[] TP)) 0
        simp only [List.getElem?_toArray, List.getElem?_cons_zero] at m0
        have KFU := Lib.hid ((HKc.out.toAny.trans K2.out).trans (hk2.out.trans KC3.out).toAny)
        obtain ⟨g1, c1, w5, hrun1, rw5, ks, hg1⟩ := app1 (block_new u3 (.cells #[] TP)) (HI.out.l.keep (KFU.out.trans ((Keep.refl F u3).alloc (.cells #[] TP))) (fun _ _ e => e)) (by omega) HI.out.hk
        have K35 := Lib.hid (Keep.then ((Keep.refl (fun _ => False) u3).alloc (.cells #[] TP)) ks (fun q e => by omega))
        have HG1 := Lib.hid (show u3.heap.size ≤ g1 by have := ks.size; simp at hg1 this; omega)
        have RW5 := Lib.hid rw5
        clear rw5 ks hg1
        go_upto_region 29 with fail
        clear hrun1 m0
        obtain ⟨hrc, hrf, hkc, hput⟩ := row_put RW5.out HP.out
        unfold Pk.cells at hrc
        have r0 := hrc 0 (by omega)
        have r1 := hrc 1 (by omega)
        have r2 := hrc 2 (by omega)
        have r3 := hrc 3 (by omega)
        simp at r0 r1 r2 r3
        have hf := hrf
        have rf0 := hrf (i * 4)
        have rf1 := hrf (i * 4 + 1)
        have rf2 := hrf (i * 4 + 2)
        have rf3 := hrf (i * 4 + 3)
        have HA5 := Lib.hid ((K35.out.block _ (lt_of_block HAe.out) (fun e => e)).trans HAe.out)
        have a3 := cell_at HA5.out 3
        have HX6 := Lib.hid ((K35.out.block _ (lt_of_block HX5.out) (fun e => e)).trans HX5.out)
        have x0 := cell_at HX6.out 0
        have x1 := cell_at HX6.out 1
        have x2 := cell_at HX6.out 2
        have x3 := cell_at HX6.out 3
        simp at a3 x0 x1 x2 x3
        have HPUT := Lib.hid hput
        clear hput hrc hrf hf
        go_upto_region 30 with fail
        clear r0 r1 r2 r3 rf0 rf1 rf2 rf3 a3 x0 x1 x2 x3
        obtain ⟨w6, hw6, k56, hrow6⟩ := HPUT.out ⟨fr, to_, s2, true⟩
        simp only at hw6
        rw [← hw6]
        rw [HP'.out] at hrow6
        have HR6 := Lib.hid hrow6
        have K26 := Lib.hid (Keep.then ((hk2.out.trans KC3.out).trans K35.out) k56 (fun q e => by have := HG1.out; have := (hk2.out.trans KC3.out).size; omega))
        clear hw6 k56 hrow6
        have HM6 := Lib.hid ((K26.out.block _ (lt_of_block HM2.out) (fun e => e)).trans HM2.out)
        have HZ6 := Lib.hid ((K26.out.block _ (lt_of_block HZ2.out) (fun e => e)).trans HZ2.out)
        have m0 := cell_at HM6.out 0
        have fm := free_at HM6.out 0
        simp at m0
        go_upto_region 31 with fail
        clear m0 fm
        obtain ⟨w7, hw7⟩ : ∃ V, V = w6.setCell ⟨w.heap.size, 0, none⟩ (.slice (some ⟨g1, 0, none⟩) k c1) := ⟨_, rfl⟩
        rw [← hw7]
        have hm7 := block_set HM6.out 0 (.slice (some ⟨g1, 0, none⟩) k c1)
        rw [← hw7] at hm7
        simp at hm7
        have KM := Lib.hid (show Keep (fun q => q = w.heap.size) w6 w7 by rw [hw7]; exact (Keep.refl _ _).set1 _ _)
        clear hw7
        have m0 := cell_at hm7 0
        have m1 := cell_at hm7 1
        simp at m0 m1
        clear hm7
        have HZr := Lib.hid ((KM.out.block _ (lt_of_block HZ6.out) (by omega)).trans HZ6.out)
        have z0 := cell_at HZr.out 0
        have f0 := free_at HZr.out 0
        have hz1 := block_set HZr.out 0 (.slice (some ⟨g1, 0, none⟩) k c1)
        have z1 := cell_at hz1 1
        have f1 := free_at hz1 1
        have hz2 := block_set hz1 1 (.slice ac m cc)
        simp at z0 z1
        have HQ := Lib.hid hz2
        have HKZ := Lib.hid (show Keep (fun q => q = w.heap.size + 1 + 1) w7 ((w7.setCell ⟨w.heap.size + 1 + 1, 0, none⟩ (.slice (some ⟨g1, 0, none⟩) k c1)).setCell ⟨w.heap.size + 1 + 1, 1, none⟩ (.slice ac m cc)) from ((Keep.refl (fun q => q = w.heap.size + 1 + 1) w7).set1 _ _).set1 _ _)
        clear hz1 hz2
        go_wp2_with fail
        have KF := Lib.hid (show Keep (fun q => q = w.heap.size ∨ q = w.heap.size + 1 + 1) w6 _ from (KM.out.mono (fun q _ e => .inl e)).trans (HKZ.out.mono (fun q _ e => .inr e)))
        have hsz : w.heap.size + 3 ≤ g1 := by have h1 := HG1.out; have h2 := (hk2.out.trans KC3.out).size; have h3 := K2.out.size; have h4 := HSc.out; omega
        have q0 := cell_at HQ.out 0
        have q1 := cell_at HQ.out 1
        simp at q0 q1
        refine bodyPost_ret (v := .tuple #[.agg #[.slice (some ⟨g1, 0, none⟩) k c1, .slice ac m cc], .bool true]) ?_ rfl ⟨_, _, rfl, Did.of (S0 := fun q => q = w.heap.size ∨ q = w.heap.size + 1 + 1) (ps' := ps.set i (spoilt ⟨fr, to_, ss, false⟩ A C)) (cs' := cs) HI.out.foot HKc.out HN2.out (fun q f => by have := HI.out.foot q f; have := HKc.out.size; have := K2.out.size; omega) (fun q f => .inl f) K2.out (fun q e => by have := HSc.out; omega) (K26.out.toAny.trans KF.out) HI.out.same (fun q hq => by rcases List.mem_or_eq_of_mem_set hq with h | h; exact HI.out.off q h; subst h; exact HI.out.off ⟨fr, to_, ss, false⟩ (List.mem_of_getElem? HP.out)) (fun kk => ⟨by rw [List.length_set, ← HI.out.hk]; exact HR6.out F _ B _ (by have := HI.out.b; omega) (fun f => by have := HI.out.foot _ f; omega) KF.out (fun e => by omega), by rw [← HI.out.hm]; exact HI.out.c.keep kk (fun _ _ e => e)⟩) (by simp) (by omega) (by omega)⟩
        simp [results, Try.results17, go_sem, q0, q1]

end Go.Proofs.Ytdmdegjomikmlaa.NdJ
