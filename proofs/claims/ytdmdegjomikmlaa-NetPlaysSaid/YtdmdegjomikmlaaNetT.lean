/-
  Layer 22 (net): Take, Drop.
-/
import Derived.Test.YtdmdegjomikmlaaNetD
namespace Go.Proofs.Ytdmdegjomikmlaa.NetT
set_option linter.unusedVariables false
set_option linter.unusedSimpArgs false
open Go.RowKit Go.Proofs.Ytdmdegjomikmlaa.Mem Go.Proofs.Ytdmdegjomikmlaa.NetM Go.Proofs.Ytdmdegjomikmlaa.NetW Go.Proofs.Ytdmdegjomikmlaa.NetS Go.Proofs.Ytdmdegjomikmlaa.NetD
attribute [-go_sem] Instr.loadAt loadVar
attribute [local go_sem] loadAt_ptr lv_int lv_bool lv_string lv_u8 lv_ps lv_map

def noPk : Value := .agg #[.int .i64 0, .int .i64 0, .string ⟨#[]⟩, .bool false]

theorem take_no {w : World} {F : Nat → Prop} {b n mb : Nat} {ps : List Pk} {S : Int → Int → Bool} {v : Value} (h : NetAt w F b ps n S v mb) (i : Int) (hi : ¬ (0 ≤ i ∧ i < ps.length)) :
    Calls Try.prog 18 #[.pointer (some ⟨b, 0, none⟩), .int .i64 i] w fun e w' => e = .returned (.tuple #[noPk, .bool false]) ∧ Keep (fun _ => False) w w' := by
  have his := fun o => is_at (h.keep0 ((Keep.refl (fun _ => False) w).alloc o)) i
  have hd : (decide (0 ≤ i) && decide (i < (ps.length : Int))) = false := by
    rw [← Bool.not_eq_true, Bool.and_eq_true, decide_eq_true_eq, decide_eq_true_eq]; exact hi
  rw [hd] at his
  have His := Lib.hid his
  clear h his hi hd
  go_enter Try.func18, Try.ntmps18
  go_wp2_with (go_at_call 22; refine (His.out _).mono ?_; rintro e w1 ⟨rfl, rfl⟩)
  have ln := load_new w ⟨0, 0, ⟨#[]⟩, false⟩
  simp only at ln
  exact bodyPost_ret (v := .tuple #[noPk, .bool false]) (by simp [results, Try.results18, go_sem, ln, noPk]) rfl ⟨rfl, (Keep.refl _ _).alloc _⟩

set_option maxHeartbeats 4000000 in
theorem take_yes {w : World} {F : Nat → Prop} {b n mb : Nat} {ps : List Pk} {S : Int → Int → Bool} {v : Value} (h : NetAt w F b ps n S v mb) (i : Nat) (p : Pk) (hp : ps[i]? = some p) (hn : ps.length ≤ 1000000) :
    Calls Try.prog 18 #[.pointer (some ⟨b, 0, none⟩), .int .i64 i] w fun e w' => e = .returned (.tuple #[p.agg, .bool true]) ∧ ∃ v', NetAt w' F b (ps.eraseIdx i) n S v' mb ∧ Keep F w w' := by
  have hi : i < ps.length := (List.getElem?_eq_some_iff.1 hp).1
  have ho := h.o
  rcases ho.2 with ⟨-, h0⟩ | ⟨g, cap, cur, rfl, -, hg, h1, h2, h3, ht⟩
  · omega
  obtain ⟨m, hm⟩ : ∃ m, m = ps.length := ⟨_, rfl⟩
  have hmg : mb ≠ g := fun e => net_nm h (by simp [Value.ownBlock, e])
  have hmb := net_mb_ne h
  have hml := h.c.lt
  have hle : (ps.eraseIdx i).length = ps.length - 1 := by rw [List.length_eraseIdx_of_lt hi]
  have his := is_at (h.keep0 ((Keep.refl (fun _ => False) w).alloc (.cells #[.int .i64 0, .int .i64 0, .string ⟨#[]⟩, .bool false] TP))) i
  have hd : (decide ((0 : Int) ≤ i) && decide ((i : Int) < (ps.length : Int))) = true := by
    rw [Bool.and_eq_true, decide_eq_true_eq, decide_eq_true_eq]; omega
  rw [hd] at his
  rw [← hm] at h hi hn h1 hle
  have Hle := Lib.hid hle
  have hbw := lt_of_block h.h
  have hgw := lt_of_block hg
  have hgb : g ≠ b := fun e => h.nb (by simp [Value.ownBlock, e])
  have hpo := h.ok p (List.mem_of_getElem? hp)
  have hcell : ∀ j, j < 4 → w.cell? ⟨g, i * 4 + j, none⟩ = p.cells[j]? := by
    intro j hj
    have q := flat_at ps i j p hp hj
    rw [← ht, List.getElem?_take, if_pos (by omega)] at q
    rw [cell_at hg, ← q]; simp
  obtain ⟨fr, to_, s, sp⟩ := p
  -- the worlds: the result's box, the packet's box
  obtain ⟨u1, hu1⟩ : ∃ u, u = w.alloc (.cells #[.int .i64 0, .int .i64 0, .string ⟨#[]⟩, .bool false] TP) := ⟨_, rfl⟩
  obtain ⟨u2, hu2⟩ : ∃ u, u = u1.alloc (.cells #[.int .i64 fr, .int .i64 to_, .string s, .bool sp] TP) := ⟨_, rfl⟩
  rw [← hu1] at his
  have His := Lib.hid his
  have z1 : u1.heap.size = w.heap.size + 1 := by rw [hu1]; simp
  have k1 : Keep (fun _ => False) w u1 := by rw [hu1]; exact (Keep.refl _ _).alloc _
  have k2 : Keep (fun _ => False) u1 u2 := by rw [hu2]; exact (Keep.refl _ _).alloc _
  have b1 : u1.heap[w.heap.size]? = some (.cells #[.int .i64 0, .int .i64 0, .string ⟨#[]⟩, .bool false] TP (0, 0)) := by rw [hu1]; exact block_new w _
  have b2 : u2.heap[u1.heap.size]? = some (.cells #[.int .i64 fr, .int .i64 to_, .string s, .bool sp] TP (0, 0)) := by rw [hu2]; exact block_new u1 _
  have c1 : u1.cell? ⟨b, 0, none⟩ = some (.slice (some ⟨g, 0, none⟩) m cap) := (k1.cell (p := ⟨b, 0, none⟩) hbw (fun e => e)).trans (cell_at h.h 0)
  have ld1 := load_pk u1 g (i * 4) ⟨fr, to_, s, sp⟩ (fun j hj => (k1.cell (p := ⟨g, _, none⟩) hgw (fun e => e)).trans (hcell j hj))
  have c2 : u2.cell? ⟨b, 0, none⟩ = some (.slice (some ⟨g, 0, none⟩) m cap) := (k2.cell (p := ⟨b, 0, none⟩) (show b < _ by omega) (fun e => e)).trans c1
  have hg2 : u2.heap[g]? = some (.cells cur TP (0, 0)) := ((k1.trans k2).block g hgw (fun e => e)).trans hg
  have hdel := delete_one u2 g cap i m cur ps hg2 h3 ht hm h1 (by unfold maxLen at h2; omega) hi hn
  simp only at ld1
  have HD := Lib.hid hdel
  have Hu1 := Lib.hid hu1
  have Hu2 := Lib.hid hu2
  have H := Lib.hid h
  have K1 := Lib.hid k1
  have K2 := Lib.hid k2
  have B1 := Lib.hid b1
  have B2 := Lib.hid b2
  have HM := Lib.hid hm
  have HT := Lib.hid ht
  have hcm : (i : Int) < (m : Int) := by omega
  clear h ho hg ht h2 h3 hm his hd hpo hcell hu1 hu2 k1 k2 b1 b2 hg2 hdel hp hle
  go_enter Try.func18, Try.ntmps18
  have Hd := HD
  go_wp2_with (first
    | (go_at_call 22; rw [← Hu1.out]; refine His.out.mono ?_; rintro e w1 ⟨rfl, rfl⟩)
    | (go_at_call 29; rw [← Hu2.out]; refine Hd.out.mono ?_; rintro e w3 ⟨rfl, Ho, K3⟩; have cb3 := (K3.block b (by have := H.out.h; have := lt_of_block this; have := K1.out.size; have := K2.out.size; omega) (fun e => hgb e.symm)).trans (((K1.out.trans K2.out).block b hbw (fun e => e)).trans H.out.h); have Hcb3 := Lib.hid cb3; have Ho := Lib.hid Ho; have HK3 := Lib.hid K3; have c3 := cell_at cb3 0; have f3 := free_at cb3 0
       have K4 : Keep (fun k => k = g ∨ k = b) u2 (w3.setCell ⟨b, 0, none⟩ (.slice (some ⟨g, 0, none⟩) (m - 1) cap)) := (K3.mono (fun k _ e => .inl e)).setCell (.inl (.inr rfl)) _
       have B24 := (K4.block _ (lt_of_block B2.out) (by omega)).trans B2.out
       rw [z1] at B24
       have B14 := (K4.block _ (Nat.lt_of_lt_of_le (lt_of_block B1.out) K2.out.size) (by omega)).trans ((K2.out.block _ (lt_of_block B1.out) (fun e => e)).trans B1.out)
       obtain ⟨w4, hw4⟩ : ∃ w4, w4 = w3.setCell ⟨b, 0, none⟩ (.slice (some ⟨g, 0, none⟩) (m - 1) cap) := ⟨_, rfl⟩
       have Hw4 := Lib.hid hw4
       have ld4 : (loadVar 27 ⟨w.heap.size + 1, 0, none⟩).run Try.prog w4 = .ok (.agg #[.int .i64 fr, .int .i64 to_, .string s, .bool sp]) w4 := load_pk w4 (w.heap.size + 1) 0 ⟨fr, to_, s, sp⟩ (fun j hj => by rw [Nat.zero_add, hw4, cell_at B24 j]; simp [Pk.cells])
       rw [hw4] at ld4
       have q0 := cell_at B14 0; have q1 := cell_at B14 1; have q2 := cell_at B14 2; have q3 := cell_at B14 3
       have r0 := free_at B14 0; have r1 := free_at B14 1; have r2 := free_at B14 2; have r3 := free_at B14 3
       have HK4 := Lib.hid K4
       have HB14 := Lib.hid B14
       clear K4 B24 B14 hw4 cb3 K3))
  rw [← Hw4.out]
  have s0 := w.heap.size
  have e0 := block_set (block_set (block_set (block_set ((by rw [Hw4.out]; exact HB14.out) : w4.heap[w.heap.size]? = _) 0 (.int .i64 fr)) 1 (.int .i64 to_)) 2 (.string s)) 3 (.bool sp)
  have k5 : Keep (fun k => k = w.heap.size) w4 ((((w4.setCell ⟨w.heap.size, 0, none⟩ (.int .i64 fr)).setCell ⟨w.heap.size, 1, none⟩ (.int .i64 to_)).setCell ⟨w.heap.size, 2, none⟩ (.string s)).setCell ⟨w.heap.size, 3, none⟩ (.bool sp)) := ((((Keep.refl _ w4).set1 _ _).set1 _ _).set1 _ _).set1 _ _
  generalize ((((w4.setCell ⟨w.heap.size, 0, none⟩ (.int .i64 fr)).setCell ⟨w.heap.size, 1, none⟩ (.int .i64 to_)).setCell ⟨w.heap.size, 2, none⟩ (.string s)).setCell ⟨w.heap.size, 3, none⟩ (.bool sp)) = R at e0 k5 ⊢
  have e0' : R.heap[w.heap.size]? = some (.cells #[.int .i64 fr, .int .i64 to_, .string s, .bool sp] TP (0, 0)) := e0.trans rfl
  have ld5 := load_pk R w.heap.size 0 ⟨fr, to_, s, sp⟩ (fun j hj => by rw [Nat.zero_add, cell_at e0' j]; simp [Pk.cells])
  simp only at ld5
  refine bodyPost_ret (v := .tuple #[.agg #[.int .i64 fr, .int .i64 to_, .string s, .bool sp], .bool true]) (by simp [results, Try.results18, go_sem, ld5]) rfl ⟨rfl, .slice (some ⟨g, 0, none⟩) (m - 1) cap, ?_, ?_⟩
  · have hN := H.out
    have kk : Keep (fun k => k = g ∨ k = b ∨ k = w.heap.size) w R := by
      have a1 : Keep (fun k => k = g ∨ k = b ∨ k = w.heap.size) u2 w4 := by rw [Hw4.out]; exact HK4.out.mono (fun k _ e => by omega)
      exact ((K1.out.trans K2.out).toAny.trans a1).trans (k5.mono (fun k _ e => .inr (.inr e)))
    have hb4 : w4.heap[b]? = some (.cells #[.slice (some ⟨g, 0, none⟩) (m - 1) cap, .map (some mb)] TN (0, 0)) := by rw [Hw4.out]; exact (block_set Hcb3.out 0 _).trans rfl
    have k3R : Keep (fun k => k = b ∨ k = w.heap.size) w3 R := by
      have a1 : Keep (fun k => k = b ∨ k = w.heap.size) w3 w4 := by rw [Hw4.out]; exact (Keep.refl _ w3).setCell (.inl (.inl rfl)) _
      exact a1.trans (k5.mono (fun k _ e => .inr e))
    refine ⟨(k5.block b (lt_of_block hb4) (by omega)).trans hb4, ?_, hN.c.keep kk (by omega), by simp [Value.ownBlock]; exact hgb, hN.fb, hN.fm, ?_, ?_⟩
    · rw [Hle.out]
      exact owns_keep Ho.out k3R (fun k e => by simp [Value.ownBlock] at e; omega)
    · intro k e
      exact hN.fo k e
    · intro p hp
      exact hN.ok p (List.mem_of_mem_eraseIdx hp)
  · refine Keep.trans' (K1.out.trans K2.out).toAny (Keep.mono (S := fun k => k = g ∨ k = b ∨ k = w.heap.size) ?_ (fun k _ e => e)) ?_
    · have a1 : Keep (fun k => k = g ∨ k = b ∨ k = w.heap.size) u2 w4 := by rw [Hw4.out]; exact HK4.out.mono (fun k _ e => by omega)
      exact a1.trans (k5.mono (fun k _ e => .inr (.inr e)))
    · intro k hk e
      rcases e with rfl | rfl | rfl
      · exact H.out.fo k rfl
      · exact H.out.fb
      · omega

end Go.Proofs.Ytdmdegjomikmlaa.NetT
