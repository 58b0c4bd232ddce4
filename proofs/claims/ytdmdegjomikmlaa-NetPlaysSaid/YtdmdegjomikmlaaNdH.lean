/-
  Layer 22 (net): the law's own model: do, NdH.
-/
import Derived.Test.YtdmdegjomikmlaaNdB
namespace Go.Proofs.Ytdmdegjomikmlaa.NdH
set_option linter.unusedVariables false
set_option linter.unusedSimpArgs false
set_option maxRecDepth 100000
open Go.RowKit Go.Proofs.Ytdmdegjomikmlaa.Mem Go.Proofs.Ytdmdegjomikmlaa.NetM Go.Proofs.Ytdmdegjomikmlaa.NetW Go.Proofs.Ytdmdegjomikmlaa.NetS Go.Proofs.Ytdmdegjomikmlaa.NetD Go.Proofs.Ytdmdegjomikmlaa.NetT Go.Proofs.Ytdmdegjomikmlaa.NetA Go.Proofs.Ytdmdegjomikmlaa.NetY Go.Proofs.Ytdmdegjomikmlaa.NetZ Go.Proofs.Ytdmdegjomikmlaa.NetO Go.Proofs.Ytdmdegjomikmlaa.NetB Go.Proofs.Ytdmdegjomikmlaa.NetF Go.Proofs.Ytdmdegjomikmlaa.NetH Go.Proofs.Ytdmdegjomikmlaa.NetU Go.Proofs.Ytdmdegjomikmlaa.NdA Go.Proofs.Ytdmdegjomikmlaa.NdB
attribute [-go_sem] Builtin.append_

set_option maxHeartbeats 16000000 in
theorem do_9 (b mb n k m cl cc : Nat) (al ac : Option Addr) (ps : List Pk) (cs : List (Int × Int)) (S : Int → Int → Bool) (v : Value) (x : Do) (w : World) (F : Nat → Prop) (B : Nat) (hI : In w F B b mb n k m cl cc al ac ps cs S v) (hx : x.Ok) (hkd : x.kind = 9) :
    Calls Try.prog 17 #[.agg #[.slice al k cl, .slice ac m cc], .pointer (some ⟨b, 0, none⟩), .agg x.cells.toArray] w fun e w' => ∃ vl vc, e = .returned (.tuple #[.agg #[vl, vc], .bool true]) ∧ Did w w' F b mb ps cs n B vl vc := by
  have HI := Lib.hid hI
  have hk9 := hI.k9
  have hm9 := hI.m9
  have hn9 := hI.n9
  clear hI
  obtain ⟨kd, a, c, at_, bits, s⟩ := x
  obtain ⟨wa, wc', wt, wb, ws⟩ := hx
  simp only at wa wc' wt wb ws hkd
  subst hkd
  unfold Do.cells
  go_enter Try.func17, Try.ntmps17
  go_upto_region 1 with fail
  obtain ⟨W, hW⟩ : ∃ W, W = ((w.alloc (.cells #[.slice al k cl, .slice ac m cc] TMo)).alloc (.cells #[.int .i64 9, .int .i64 a, .int .i64 c, .int .i64 at_, .int .i64 bits, .string s] 43)).alloc (.cells #[.slice none 0 0, .slice none 0 0] TMo) := ⟨_, rfl⟩
  rw [← hW]
  have hM0 : W.heap[w.heap.size]? = some (.cells #[.slice al k cl, .slice ac m cc] TMo (0, 0)) := by rw [hW]; exact block_alloc (block_alloc (block_new w _) _) _
  have hA0 : W.heap[w.heap.size + 1]? = some (.cells #[.int .i64 9, .int .i64 a, .int .i64 c, .int .i64 at_, .int .i64 bits, .string s] 43 (0, 0)) := by rw [hW]; exact block_alloc (block_new_at (by simp)) _
  have hZ0 : W.heap[w.heap.size + 1 + 1]? = some (.cells #[.slice none 0 0, .slice none 0 0] TMo (0, 0)) := by rw [hW]; exact block_new_at (by simp)
  have hkW : Keep (fun _ => False) w W := by rw [hW]; exact (((Keep.refl _ w).alloc _).alloc _).alloc _
  have hsW : W.heap.size = w.heap.size + 3 := by rw [hW]; simp
  have HMb := Lib.hid hM0
  have HAb := Lib.hid hA0
  have HZb := Lib.hid hZ0
  have HKW := Lib.hid hkW
  have HSW := Lib.hid hsW
  have HBIG := Lib.hid (show ∀ q, w.heap.size ≤ q → ¬ F q from fun q hq f => by have := HI.out.foot q f; omega)
  have m0 := cell_at hM0 0
  have m1 := cell_at hM0 1
  have a0 := cell_at hA0 0
  have a1 := cell_at hA0 1
  have a2 := cell_at hA0 2
  have a3 := cell_at hA0 3
  have a4 := cell_at hA0 4
  have a5 := cell_at hA0 5
  simp at m0 m1 a0 a1 a2 a3 a4 a5
  clear hW hM0 hA0 hZ0 hkW hsW
  go_cut [8] (fun x8 W' => x8 = .bool (decide (0 ≤ at_) && decide (at_ < (k : Int))) ∧ W' = W)
  case first =>
    by_cases h1 : 0 ≤ at_
    · by_cases h2 : at_ < (k : Int)
      · go_wp2_with fail
        go_meet
        exact ⟨by simp [h1, h2], rfl⟩
      · go_wp2_with fail
        go_meet
        exact ⟨by simp [h1, h2], rfl⟩
    · go_wp2_with fail
      go_meet
      exact ⟨by rw [decide_eq_false (by omega)]; rfl, rfl⟩
  case rest =>
    obtain ⟨rfl, rfl⟩ := hcut
    have hh := heal_at (HI.out.net.keep0 HKW.out)
    have HH := Lib.hid hh
    clear hh
    go_upto_region 45 with (go_at_call 16; refine HH.out.mono ?_; clear HH; rintro e w2 ⟨rfl, n2, k2⟩)
    have HN2 := Lib.hid n2
    have K2 := Lib.hid k2
    have HM2 := Lib.hid ((k2.block _ (lt_of_block HMb.out) (HBIG.out _ (Nat.le_refl _))).trans HMb.out)
    have HZ2 := Lib.hid ((k2.block _ (lt_of_block HZb.out) (HBIG.out _ (by omega))).trans HZb.out)
    clear n2 k2 m0 m1 a0 a1 a2 a3 a4 a5
    have m0 := cell_at HM2.out 0
    have m1 := cell_at HM2.out 1
    have g1 := free_at HM2.out 1
    have hM3 := block_set HM2.out 1 (.slice none 0 0)
    simp at m0 m1 hM3
    have HZ3 := Lib.hid ((((Keep.refl (fun q => q = w.heap.size) w2).set1 1 (.slice none 0 0)).block _ (lt_of_block HZ2.out) (by omega)).trans HZ2.out)
    have HKM := Lib.hid (show Keep (fun q => q = w.heap.size) w2 (w2.setCell ⟨w.heap.size, 1, none⟩ (.slice none 0 0)) from (Keep.refl _ _).set1 _ _)
    go_upto_region 46 with fail
    clear m0 m1
    obtain ⟨w3, hw3⟩ : ∃ w3, w3 = w2.setCell ⟨w.heap.size, 1, none⟩ (.slice none 0 0) := ⟨_, rfl⟩
    rw [← hw3] at hM3 HZ3 HKM ⊢
    clear hw3 g1
    have m0 := cell_at hM3 0
    have m1 := cell_at hM3 1
    simp at m0 m1
    clear hM3
    have HZr := Lib.hid (HZ3.out)
    have z0 := cell_at HZr.out 0
    have f0 := free_at HZr.out 0
    have hz1 := block_set HZr.out 0 (.slice al k cl)
    have z1 := cell_at hz1 1
    have f1 := free_at hz1 1
    have hz2 := block_set hz1 1 (.slice none 0 0)
    simp at z0 z1
    have HQ := Lib.hid hz2
    have HKZ := Lib.hid (show Keep (fun q => q = w.heap.size + 1 + 1) w3 ((w3.setCell ⟨w.heap.size + 1 + 1, 0, none⟩ (.slice al k cl)).setCell ⟨w.heap.size + 1 + 1, 1, none⟩ (.slice none 0 0)) from ((Keep.refl (fun q => q = w.heap.size + 1 + 1) w3).set1 _ _).set1 _ _)
    clear hz1 hz2
    go_wp2_with fail
    have q0 := cell_at HQ.out 0
    have q1 := cell_at HQ.out 1
    simp at q0 q1
    refine bodyPost_ret (v := .tuple #[.agg #[.slice al k cl, .slice none 0 0], .bool true]) ?_ rfl ⟨_, _, rfl, Did.of (S0 := fun q => q = w.heap.size ∨ q = w.heap.size + 1 + 1) (ps' := ps) (cs' := []) HI.out.foot HKW.out HN2.out (fun i f => by have := HI.out.foot i f; have := HKW.out.size; have := K2.out.size; omega) (fun i f => .inl f) K2.out (fun i e => by have := HSW.out; omega) ((HKM.out.mono (fun i _ e => .inl e)).trans (HKZ.out.mono (fun i _ e => .inr e))) same_no (fun p hp => rfl) (fun kk => ⟨by rw [← HI.out.hk]; exact HI.out.l.keep kk (fun _ _ e => e), ⟨none, 0, rfl, Nat.le_refl _, by omega, .inl rfl⟩⟩) (by omega) (by simp) (by omega)⟩
    simp [results, Try.results17, go_sem, q0, q1]

end Go.Proofs.Ytdmdegjomikmlaa.NdH
