/-
  Layer 6 (ring): a place is put at the front of a list.
-/
import Derived.Test.YtebjbkpgicbgeaaRinW
namespace Go.Proofs.Ytebjbkpgicbgeaa.RinL
set_option linter.unusedVariables false
set_option linter.unusedSimpArgs false
open Go.RowKit Go.Proofs.Ytebjbkpgicbgeaa.Mem Go.Proofs.Ytebjbkpgicbgeaa.RinM Go.Proofs.Ytebjbkpgicbgeaa.RinP Go.Proofs.Ytebjbkpgicbgeaa.RinW

theorem flat_set3 (sl : List Sl) (a i q : Nat) (ha : a < sl.length) : (((flat sl).set (a * 4 + 1) (.int .i64 (i : Int))).set (a * 4 + 2) (.int .i64 (i : Int))).set (a * 4 + 3) (.int .i64 (q : Int)) = flat (sl.set a { gt sl a with ls := i, pv := i, nx := q }) := by
  refine flat_ext (by simp [flat_length]) (fun x j hx hj => ?_)
  rw [List.length_set] at hx
  rw [gt_set _ _ _ ha]
  simp only [List.getElem?_set, flat_length, List.length_set]
  by_cases e : x = a
  · subst e
    rw [if_pos rfl]
    have : j = 0 ∨ j = 1 ∨ j = 2 ∨ j = 3 := by omega
    rcases this with rfl | rfl | rfl | rfl
    · rw [if_neg (by omega), if_neg (by omega), if_neg (by omega), flat_at sl x 0 _ (gt_some sl x ha) (by omega)]; rfl
    · rw [if_neg (by omega), if_neg (by omega), if_pos rfl, if_pos (by omega)]; rfl
    · rw [if_neg (by omega), if_pos rfl, if_pos (by omega)]; rfl
    · rw [if_pos rfl, if_pos (by omega)]; rfl
  · rw [if_neg e, if_neg (by omega), if_neg (by omega), if_neg (by omega), flat_at sl x j _ (gt_some sl x hx) hj]

set_option maxRecDepth 100000 in
set_option maxHeartbeats 4000000 in
theorem link_any {w : World} {F : Nat → Prop} {b n N T gs gm mb : Nat} {sl : List Sl} {fr mn : List Nat} {M : ByteArray → Option Nat} {v : Value} (h : RAt w F b n N T sl fr mn M gs gm mb v) (a i m : Nat) (ha : a < N) (hi : i < n) (hnN : n ≤ N) (hq : nx sl i < N) (hm : mn[i]? = some m) (hm2 : m ≤ 100000) :
    Calls Try.prog 49 #[.pointer (some ⟨b, 0, none⟩), .int .i64 (a : Int), .int .i64 (i : Int)] w fun e w' => e = .returned (.tuple #[]) ∧ RAt w' F b n N T (linkS sl a i) fr (mn.set i (m + 1)) M gs gm mb v ∧ Keep F w w' := by
  have hN := h.hN
  obtain ⟨q, hqe⟩ : ∃ q, q = nx sl i := ⟨_, rfl⟩
  rw [← hqe] at hq
  have hiN : i < N := by omega
  have cb1 : w.cell? ⟨b, 1, none⟩ = some (.slice (some ⟨gs, 0, none⟩) N N) := cell_at h.h 1
  have ci3 := h.cell3 i hiN
  rw [← hqe] at ci3
  have ca1 := h.cell1 a ha
  have ca2 := h.cell2 a ha
  have ca3 := h.cell3 a ha
  have f1 := h.free (a * 4 + 1)
  have f2 := h.free (a * 4 + 2)
  have f3 := h.free (a * 4 + 3)
  have g2 : (w.setCell ⟨gs, a * 4 + 1, none⟩ (.int .i64 (i : Int))).cell? ⟨gs, a * 4 + 2, none⟩ = some (.int .i64 (pv sl a : Int)) := by
    rw [World.cell?_setCell_other _ _ _ _ (by intro e; injection e; omega)]; exact ca2
  have g3 : ((w.setCell ⟨gs, a * 4 + 1, none⟩ (.int .i64 (i : Int))).setCell ⟨gs, a * 4 + 2, none⟩ (.int .i64 (i : Int))).cell? ⟨gs, a * 4 + 3, none⟩ = some (.int .i64 (nx sl a : Int)) := by
    rw [World.cell?_setCell_other _ _ _ _ (by intro e; injection e; omega), World.cell?_setCell_other _ _ _ _ (by intro e; injection e; omega)]; exact ca3
  have H := Lib.hid h
  have Hq := Lib.hid hqe
  have Hm := Lib.hid hm
  clear h hqe hm
  go_enter Try.func49, Try.ntmps49
  go_wp2_with fail
  obtain ⟨W1, hW1⟩ : ∃ W1, W1 = ((w.setCell ⟨gs, a * 4 + 1, none⟩ (.int .i64 (i : Int))).setCell ⟨gs, a * 4 + 2, none⟩ (.int .i64 (i : Int))).setCell ⟨gs, a * 4 + 3, none⟩ (.int .i64 (q : Int)) := ⟨_, rfl⟩
  rw [← hW1]
  have hN0 := H.out
  have k1 : Keep (fun i => i = gs) w W1 := by rw [hW1]; exact (((Keep.refl _ w).set1 _ _).set1 _ _).set1 _ _
  have b1 : W1.heap[gs]? = some (.cells (flat (sl.set a { gt sl a with ls := i, pv := i, nx := q })).toArray TS (0, 0)) := by
    rw [hW1]
    refine (block_set (block_set (block_set hN0.s _ _) _ _) _ _).trans ?_
    rw [← flat_set3 sl a i q (by rw [hN0.lsl]; exact ha)]
    simp
  have h1 := hN0.slots k1 b1 (by simp)
  have d1 : W1.cell? ⟨b, 1, none⟩ = some (.slice (some ⟨gs, 0, none⟩) N N) := cell_at h1.h 1
  have d3 := h1.cell3 a ha
  rw [show nx (sl.set a { gt sl a with ls := i, pv := i, nx := q }) a = q from by show (gt _ a).nx = q; rw [gt_set _ _ _ (by rw [hN0.lsl]; exact ha), if_pos rfl]] at d3
  have dq := h1.cell2 q hq
  have di := h1.cell3 i hiN
  have r1 := h1.free (q * 4 + 2)
  have r2 := h1.free (i * 4 + 3)
  generalize hvq : pv (sl.set a { gt sl a with ls := i, pv := i, nx := q }) q = vq at dq
  generalize hvi : nx (sl.set a { gt sl a with ls := i, pv := i, nx := q }) i = vi at di
  have d1' : W1.drew.cell? ⟨b, 1, none⟩ = some (.slice (some ⟨gs, 0, none⟩) N N) := d1
  have d3' : W1.drew.cell? ⟨gs, a * 4 + 3, none⟩ = some (.int .i64 (q : Int)) := d3
  have dq' : W1.drew.cell? ⟨gs, q * 4 + 2, none⟩ = some (.int .i64 (vq : Int)) := dq
  have di' : W1.drew.cell? ⟨gs, i * 4 + 3, none⟩ = some (.int .i64 (vi : Int)) := di
  have r1' : W1.drew.frozen? ⟨gs, q * 4 + 2, none⟩ = false := r1
  have r2' : W1.drew.frozen? ⟨gs, i * 4 + 3, none⟩ = false := r2
  have g4 : (W1.setCell ⟨gs, q * 4 + 2, none⟩ (.int .i64 (a : Int))).cell? ⟨gs, i * 4 + 3, none⟩ = some (.int .i64 (vi : Int)) := by
    rw [World.cell?_setCell_other _ _ _ _ (by intro e; injection e; omega)]; exact di
  have g5 : (W1.setCell ⟨gs, i * 4 + 3, none⟩ (.int .i64 (a : Int))).cell? ⟨gs, q * 4 + 2, none⟩ = some (.int .i64 (vq : Int)) := by
    rw [World.cell?_setCell_other _ _ _ _ (by intro e; injection e; omega)]; exact dq
  have K1 := Lib.hid k1
  have H1 := Lib.hid h1
  clear hW1 k1 b1 h1 hN0 cb1 ci3 ca1 ca2 ca3 f1 f2 f3 g2 g3 hvq hvi
  go_region
  obtain ⟨W2, hW2⟩ : ∃ W2, W2 = ((W1.setCell ⟨gs, q * 4 + 2, none⟩ (.int .i64 (a : Int))).setCell ⟨gs, i * 4 + 3, none⟩ (.int .i64 (a : Int))).drew := ⟨_, rfl⟩
  rw [← hW2]
  have k2 : Keep (fun i => i = gs) W1 W2 := by rw [hW2]; exact (((Keep.refl _ W1).set1 _ _).set1 _ _).drew
  have b2 : W2.heap[gs]? = some (.cells (flat (linkS sl a i)).toArray TS (0, 0)) := by
    rw [hW2]
    refine (block_drew (block_set (block_set H1.out.s _ _) _ _)).trans ?_
    have hl0 := H.out.lsl
    unfold linkS
    rw [← Hq.out, ← flat_setNx _ _ _ (by rw [len_setPv, List.length_set, hl0]; exact hiN), ← flat_setPv _ _ _ (by rw [List.length_set, hl0]; exact hq)]
    simp
  have h2 := H1.out.slots k2 b2 (by rw [len_linkS]; simp)
  have e4 : W2.cell? ⟨b, 4, none⟩ = some (.slice (some ⟨gm, 0, none⟩) n n) := cell_at h2.h 4
  have em := h2.cellm i m Hm.out
  have fm := h2.freem i
  have hi' : (i : Int) < (n : Int) := by omega
  have K2 := Lib.hid k2
  have H2 := Lib.hid h2
  clear hW2 k2 b2 h2 d1 d3 dq di d1' d3' dq' di' r1 r2 r1' r2' g4 g5
  go_wp2_with fail
  have k3 : Keep (fun i => i = gm) W2 (W2.setCell ⟨gm, i, none⟩ (.int .i64 ((m : Int) + 1))) := (Keep.refl _ W2).set1 _ _
  have hm' : ((m + 1 : Nat) : Int) = (m : Int) + 1 := by omega
  have b3 : (W2.setCell ⟨gm, i, none⟩ (.int .i64 ((m : Int) + 1))).heap[gm]? = some (.cells (ints (mn.set i (m + 1))).toArray TInt (0, 0)) := by
    refine (block_set H2.out.m _ _).trans ?_
    rw [← ints_set, hm']
    simp
  have h3 := H2.out.many k3 b3 (by simp)
  have hN0 := H.out
  have kk : Keep F w (W2.setCell ⟨gm, i, none⟩ (.int .i64 ((m : Int) + 1))) := ((K1.out.mono (fun k _ e => by rw [e]; exact hN0.fs)).trans (K2.out.mono (fun k _ e => by rw [e]; exact hN0.fs))).trans (k3.mono (fun k _ e => by rw [e]; exact hN0.fm))
  exact bodyPost_end (v := .tuple #[]) (by simp [results, Try.results49, go_sem]) rfl ⟨rfl, h3, kk⟩

end Go.Proofs.Ytebjbkpgicbgeaa.RinL
