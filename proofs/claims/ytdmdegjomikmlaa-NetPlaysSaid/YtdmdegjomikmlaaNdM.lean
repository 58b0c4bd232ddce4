/-
  Layer 22 (net): the law's own model: do, NdM.
-/
import Derived.Test.YtdmdegjomikmlaaNdB
import Derived.Test.YtdmdegjomikmlaaNetR
import Derived.Test.YtdmdegjomikmlaaMask
import Derived.Test.YtdmdegjomikmlaaNdR
namespace Go.Proofs.Ytdmdegjomikmlaa.NdM
set_option linter.unusedVariables false
set_option linter.unusedSimpArgs false
set_option maxRecDepth 100000
open Go.RowKit Go.Proofs.Ytdmdegjomikmlaa.Mem Go.Proofs.Ytdmdegjomikmlaa.NetM Go.Proofs.Ytdmdegjomikmlaa.NetW Go.Proofs.Ytdmdegjomikmlaa.NetS Go.Proofs.Ytdmdegjomikmlaa.NetD Go.Proofs.Ytdmdegjomikmlaa.NetT Go.Proofs.Ytdmdegjomikmlaa.NetA Go.Proofs.Ytdmdegjomikmlaa.NetY Go.Proofs.Ytdmdegjomikmlaa.NetZ Go.Proofs.Ytdmdegjomikmlaa.NetO Go.Proofs.Ytdmdegjomikmlaa.NetB Go.Proofs.Ytdmdegjomikmlaa.NetF Go.Proofs.Ytdmdegjomikmlaa.NetH Go.Proofs.Ytdmdegjomikmlaa.NetU Go.Proofs.Ytdmdegjomikmlaa.NdA Go.Proofs.Ytdmdegjomikmlaa.NdB Go.Proofs.Ytdmdegjomikmlaa.NetP Go.Proofs.Ytdmdegjomikmlaa.NetQ Go.Proofs.Ytdmdegjomikmlaa.NetR Go.Proofs.Ytdmdegjomikmlaa.Mask Go.Proofs.Ytdmdegjomikmlaa.NdR
attribute [-go_sem] Builtin.append_

set_option maxHeartbeats 64000000 in
theorem do_7n2 (b mb n k m cl cc : Nat) (al ac : Option Addr) (ps : List Pk) (cs : List (Int × Int)) (S : Int → Int → Bool) (v : Value) (x : Do) (w : World) (F : Nat → Prop) (B : Nat) (hI : In w F B b mb n k m cl cc al ac ps cs S v) (hx : x.Ok) (hkd : x.kind = 7) (i : Nat) (hi : x.at_ = (i : Int)) (hik : i < k) (hcs : ∀ p, ps[i]? = some p → canSpoil p (Go.bits .and .i64 x.b 15) (x.bits % 256) = false) (hsub : ∀ p, ps[i]? = some p → p.sp = false ∧ x.bits % 256 = 0) :
    Calls Try.prog 17 #[.agg #[.slice al k cl, .slice ac m cc], .pointer (some ⟨b, 0, none⟩), .agg x.cells.toArray] w fun e w' => ∃ vl vc, e = .returned (.tuple #[.agg #[vl, vc], .bool true]) ∧ Did w w' F b mb ps cs n B vl vc := by
  have HI := Lib.hid hI
  have hk9 := hI.k9
  have hm9 := hI.m9
  have hn9 := hI.n9
  clear hI
  obtain ⟨kd, a, c, at_, bits, s⟩ := x
  obtain ⟨wa, wc', wt, wb, ws⟩ := hx
  simp only at wa wc' wt wb ws hkd hi hcs hsub
  subst hkd
  have HI2 := Lib.hid hi
  have HIK := Lib.hid hik
  have HCS1 := Lib.hid hcs
  clear hi hik hcs
  have HSUB := Lib.hid hsub
  clear hsub
  unfold Do.cells
  go_enter Try.func17, Try.ntmps17
  go_upto_region 1 with fail
  obtain ⟨W, hW⟩ : ∃ W, W = ((w.alloc (.cells #[.slice al k cl, .slice ac m cc] TMo)).alloc (.cells #[.int .i64 7, .int .i64 a, .int .i64 c, .int .i64 at_, .int .i64 bits, .string s] 43)).alloc (.cells #[.slice none 0 0, .slice none 0 0] TMo) := ⟨_, rfl⟩
  rw [← hW]
  have hM0 : W.heap[w.heap.size]? = some (.cells #[.slice al k cl, .slice ac m cc] TMo (0, 0)) := by rw [hW]; exact block_alloc (block_alloc (block_new w _) _) _
  have hA0 : W.heap[w.heap.size + 1]? = some (.cells #[.int .i64 7, .int .i64 a, .int .i64 c, .int .i64 at_, .int .i64 bits, .string s] 43 (0, 0)) := by rw [hW]; exact block_alloc (block_new_at (by simp)) _
  have hZ0 : W.heap[w.heap.size + 1 + 1]? = some (.cells #[.slice none 0 0, .slice none 0 0] TMo (0, 0)) := by rw [hW]; exact block_new_at (by simp)
  have hkW : Keep (fun _ => False) w W := by rw [hW]; exact (((Keep.refl _ w).alloc _).alloc _).alloc _
  have hsW : W.heap.size = w.heap.size + 3 := by rw [hW]; simp
  have HMb := Lib.hid hM0
  have HAb := Lib.hid hA0
  have HZb := Lib.hid hZ0
  have HKW := Lib.hid hkW
  have HSW := Lib.hid hsW
  have HBIG := Lib.hid (show ∀ q, w.heap.size ≤ q → ¬ F q from fun q hq f => by have := HI.out.foot q f; omega)
  have m0 := cell_at hM0 0
  have m1 := cell_at hM0 1
  have a0 := cell_at hA0 0
  have a1 := cell_at hA0 1
  have a2 := cell_at hA0 2
  have a3 := cell_at hA0 3
  have a4 := cell_at hA0 4
  have a5 := cell_at hA0 5
  simp at m0 m1 a0 a1 a2 a3 a4 a5
  clear hW hM0 hA0 hZ0 hkW hsW
  go_cut [8] (fun x8 W' => x8 = .bool (decide (0 ≤ at_) && decide (at_ < (k : Int))) ∧ W' = W)
  case first =>
    by_cases h1 : 0 ≤ at_
    · by_cases h2 : at_ < (k : Int)
      · go_wp2_with fail
        go_meet
        exact ⟨by simp [h1, h2], rfl⟩
      · go_wp2_with fail
        go_meet
        exact ⟨by simp [h1, h2], rfl⟩
    · go_wp2_with fail
      go_meet
      exact ⟨by rw [decide_eq_false (by omega)]; rfl, rfl⟩
  case rest =>
    obtain ⟨rfl, rfl⟩ := hcut
    obtain ⟨A, hA, hA2, -⟩ := i64_and c 4 (by omega)
    have hA' : Go.bits .and .i64 c 15 = (A : Int) := hA
    have hA16 : A < 16 := hA2
    clear hA hA2
    obtain ⟨C, hC⟩ : ∃ C, C = bits % 256 := ⟨_, rfl⟩
    have hC0 : 0 ≤ C := by omega
    have hC9 : C < 256 := by omega
    have hi := HI2.out
    have hik := HIK.out
    have hcs := HCS1.out
    clear HI2 HIK HCS1
    subst hi
    simp only [hA', ← hC] at hcs
    have HCS0 := Lib.hid hcs
    clear hcs
    have hsub := HSUB.out
    simp only [← hC] at hsub
    have HSUB2 := Lib.hid hsub
    clear hsub
    go_upto_region 20 with fail
    go_cut [15, 16] (fun x y W' => x = .int .i64 (A : Int) ∧ y = .int .u8 C ∧ Hid (Keep (fun _ => False) wc W' ∧ W'.heap.size = wc.heap.size))
    case first =>
      go_quiet (fail)
      go_wp2_with fail
      go_meet
      exact ⟨rfl, by rw [hC], Lib.hid ⟨(Keep.refl _ _).drewN _, rfl⟩⟩
    case rest =>
      obtain ⟨rfl, rfl, hK⟩ := hcut
      have HKc := Lib.hid (HKW.out.trans hK.out.1)
      have HSc := Lib.hid (hK.out.2.trans HSW.out)
      have HMc := Lib.hid ((hK.out.1.block _ (lt_of_block HMb.out) (fun e => e)).trans HMb.out)
      have HAc := Lib.hid ((hK.out.1.block _ (lt_of_block HAb.out) (fun e => e)).trans HAb.out)
      have HZc := Lib.hid ((hK.out.1.block _ (lt_of_block HZb.out) (fun e => e)).trans HZb.out)
      clear m0 m1 a0 a1 a2 a3 a4 a5 hK HMb HAb HZb HKW HSW hA' hC
      have m0 := cell_at HMc.out 0
      have m1 := cell_at HMc.out 1
      have a3 := cell_at HAc.out 3
      simp at m0 m1 a3
      have hb : (decide ((0 : Int) ≤ (i : Int)) && decide ((i : Int) < (k : Int))) = true := by rw [Bool.and_eq_true, decide_eq_true_eq, decide_eq_true_eq]; omega
      rw [hb]
      clear hb
      obtain ⟨g, off, p, rfl, hcl, hcl9, hp, hpm, hgl, hgF, hcell⟩ := HI.out.at4 (Keep.refl F w) i hik
      have hcs := HCS0.out p hp
      have hsub := HSUB2.out p hp
      have HSB := Lib.hid hsub
      clear hsub
      obtain ⟨fr, to_, ss, sp⟩ := p
      have hps := (HI.out.net.ok _ hpm)
      have HPS := Lib.hid hps
      have HP := Lib.hid hp
      have HC := Lib.hid hcell
      have HGL := Lib.hid hgl
      have HGF := Lib.hid hgF
      unfold Pk.cells at HC
      have hn6 : ps.length ≤ 1000000 := by have := HI.out.hk; have := HI.out.k9; omega
      clear hps hpm hcell hgl hgF
      have hh := Lib.hid (spoil_no (HI.out.net.keep0 HKc.out) i _ hp hn6 (A : Int) C hcs)
      have HCS := Lib.hid hcs
      clear hp hcs
      go_upto_region 22 with (go_at_call 12; refine hh.out.mono ?_; clear hh; rintro e w2 ⟨rfl, hw2⟩)
      subst hw2
      have c2 := (HKc.out.cell (p := ⟨g, off + i * 4 + 2, none⟩) HGL.out (fun e => e)).trans (HC.out 2 (by omega))
      have c3 := (HKc.out.cell (p := ⟨g, off + i * 4 + 3, none⟩) HGL.out (fun e => e)).trans (HC.out 3 (by omega))
      simp at c2 c3
      go_cut [156] (fun x W' => x = .bool true ∧ Hid (Keep (fun _ => False) wc W'))
      case first =>
        obtain ⟨hsp, hc0⟩ : sp = false ∧ C = 0 := HSB.out
        subst hsp
        subst hc0
        go_wp2_with fail
        go_meet
        exact ⟨rfl, Lib.hid (Keep.refl _ _)⟩
      case rest =>
        obtain ⟨rfl, hk2⟩ := hcut
        clear m0 m1 a3
        have HMd := Lib.hid ((hk2.out.block _ (lt_of_block HMc.out) (fun e => e)).trans HMc.out)
        have m0 := cell_at HMd.out 0
        have m1 := cell_at HMd.out 1
        simp at m0 m1
        have HZr := Lib.hid ((hk2.out.block _ (lt_of_block HZc.out) (fun e => e)).trans HZc.out)
        have z0 := cell_at HZr.out 0
        have f0 := free_at HZr.out 0
        have hz1 := block_set HZr.out 0 (.slice (some ⟨g, off, none⟩) k cl)
        have z1 := cell_at hz1 1
        have f1 := free_at hz1 1
        have hz2 := block_set hz1 1 (.slice ac m cc)
        simp at z0 z1
        have HQ := Lib.hid hz2
        have HKZ := Lib.hid (show Keep (fun q => q = w.heap.size + 1 + 1) wc ((wc.setCell ⟨w.heap.size + 1 + 1, 0, none⟩ (.slice (some ⟨g, off, none⟩) k cl)).setCell ⟨w.heap.size + 1 + 1, 1, none⟩ (.slice ac m cc)) from ((Keep.refl (fun q => q = w.heap.size + 1 + 1) wc).set1 _ _).set1 _ _)
        clear hz1 hz2
        go_wp2_with fail
        have q0 := cell_at HQ.out 0
        have q1 := cell_at HQ.out 1
        simp at q0 q1
        refine bodyPost_ret (v := .tuple #[.agg #[.slice (some ⟨g, off, none⟩) k cl, .slice ac m cc], .bool true]) ?_ rfl ⟨_, _, rfl, Did.stay HI.out HKc.out HSc.out hk2.out HKZ.out⟩
        simp [results, Try.results17, go_sem, q0, q1]

end Go.Proofs.Ytdmdegjomikmlaa.NdM
