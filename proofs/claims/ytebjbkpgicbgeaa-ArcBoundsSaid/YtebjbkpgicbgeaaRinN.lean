/-
  Layer 6 (ring): New.
-/
import Derived.Test.YtebjbkpgicbgeaaRinD
import Derived.Laws.MakeOwn
import Derived.Laws.OwnMore
namespace Go.Proofs.Ytebjbkpgicbgeaa.RinN
set_option linter.unusedVariables false
set_option linter.unusedSimpArgs false
set_option maxRecDepth 100000
open Go.RowKit Go.Proofs.Ytebjbkpgicbgeaa.Mem Go.Proofs.Ytebjbkpgicbgeaa.RinM Go.Proofs.Ytebjbkpgicbgeaa.RinP Go.Proofs.Ytebjbkpgicbgeaa.RinW Go.Proofs.Ytebjbkpgicbgeaa.RinL Go.Proofs.Ytebjbkpgicbgeaa.RinF Go.Proofs.Ytebjbkpgicbgeaa.RinG Go.Proofs.Ytebjbkpgicbgeaa.RinH Go.Proofs.Ytebjbkpgicbgeaa.RinD

theorem flat_set4 (sl : List Sl) (a : Nat) (s : Sl) (ha : a < sl.length) : ((((flat sl).set (a * 4) (.string s.key)).set (a * 4 + 1) (.int .i64 (s.ls : Int))).set (a * 4 + 2) (.int .i64 (s.pv : Int))).set (a * 4 + 3) (.int .i64 (s.nx : Int)) = flat (sl.set a s) := by
  refine flat_ext (by simp [flat_length]) (fun y j hy hj => ?_)
  rw [List.length_set] at hy
  rw [gt_set _ _ _ ha]
  simp only [List.getElem?_set, flat_length, List.length_set]
  by_cases e : y = a
  · subst e
    rw [if_pos rfl]
    have : j = 0 ∨ j = 1 ∨ j = 2 ∨ j = 3 := by omega
    rcases this with rfl | rfl | rfl | rfl
    · rw [if_neg (by omega), if_neg (by omega), if_neg (by omega), if_pos (by omega), if_pos (by omega)]; rfl
    · rw [if_neg (by omega), if_neg (by omega), if_pos rfl, if_pos (by omega)]; rfl
    · rw [if_neg (by omega), if_pos rfl, if_pos (by omega)]; rfl
    · rw [if_pos rfl, if_pos (by omega)]; rfl
  · rw [if_neg e, if_neg (by omega), if_neg (by omega), if_neg (by omega), if_neg (by omega), flat_at sl y j _ (gt_some sl y hy) hj]

theorem infoS : (Try.prog.info? 86).map (fun i => (i.zero, i.size, i.bytes)) = some (some (.agg #[.string ⟨#[]⟩, .int .i64 0, .int .i64 0, .int .i64 0]), 4, 40) := by kernel_rfl
theorem run_makeN (t e : TypeId) (i : TypeInfo) (z : Value) (ht : Try.prog.underlying t = some (.slice e)) (hi : Try.prog.info? e = some i) (hz : i.zero = some z) (n : Nat) (hb : (i.bytes : Int) * (n : Int) ≤ 281474976710656) (h63 : n ≤ 9223372036854775807) (w : World) :
    (Instr.makeSlice t (.int .i64 (n : Int)) (.int .i64 (n : Int))).run Try.prog w = .ok (.slice (some ⟨w.heap.size, 0, none⟩) n n) (w.alloc (.cells (madeCells z.cells (n * i.size)) e)) := by
  have h := run_make (P := Try.prog) w t e i z ht hi hz .i64 .i64 (n : Int) (n : Int) (by omega) (Int.le_refl _) hb (by omega)
  simp only [Int.toNat_natCast] at h
  exact h
theorem made_slots (N : Nat) : madeCells (Value.agg #[.string ⟨#[]⟩, .int .i64 0, .int .i64 0, .int .i64 0]).cells (N * 4) = (flat (List.replicate N z)).toArray := by
  apply Array.ext'
  apply flat_ext
  · simp [madeCells]
  · intro i j hi hj
    rw [List.length_replicate] at hi
    have hg : gt (List.replicate N z) i = z := by unfold gt; rw [List.getElem?_replicate, if_pos hi]; rfl
    rw [hg]
    have e : i * 4 + j < N * 4 := by omega
    have hm : (i * 4 + j) % 4 = j := by omega
    unfold madeCells
    rw [Array.toList_map, List.getElem?_map, Array.getElem?_toList, Array.getElem?_range, if_pos e]
    simp only [Option.map_some]
    have : j = 0 ∨ j = 1 ∨ j = 2 ∨ j = 3 := by omega
    show some ((#[Value.string ⟨#[]⟩, .int .i64 0, .int .i64 0, .int .i64 0] : Array Value)[(i * 4 + j) % 4]!) = _
    rw [hm]
    rcases this with rfl | rfl | rfl | rfl <;> rfl
theorem made_ints (n : Nat) : madeCells (Value.int .i64 0).cells (n * 1) = (ints (List.replicate n 0)).toArray := by
  apply Array.ext'
  show (madeCells #[Value.int .i64 0] (n * 1)).toList = _
  rw [toList_madeCells_one, Nat.mul_one]
  simp [ints]

/-- The places when j lists are begun. -/
def part (N j : Nat) : List Sl := (List.range j).map (fun i => ⟨⟨#[]⟩, i, i, i⟩) ++ List.replicate (N - j) z
theorem part_len (N j : Nat) (h : j ≤ N) : (part N j).length = N := by simp [part]; omega
theorem part_zero (N : Nat) : part N 0 = List.replicate N z := by simp [part]
theorem part_all (n k : Nat) : part (n + k) n = first n (List.replicate k z) := by unfold part first; rw [Nat.add_sub_cancel_left]
theorem part_step (N j : Nat) (h : j < N) : (part N j).set j ⟨⟨#[]⟩, j, j, j⟩ = part N (j + 1) := by
  unfold part
  obtain ⟨m, hm⟩ : ∃ m, N - j = m + 1 := ⟨N - j - 1, by omega⟩
  rw [hm, show N - (j + 1) = m by omega, List.set_append_right _ _ (by simp), List.length_map, List.length_range, Nat.sub_self, List.replicate_succ, List.set_cons_zero, List.range_succ, List.map_append, List.append_assoc]
  rfl
/-- The free places when those above j were put. -/
def frL (n k j : Nat) : List Nat := (List.range (k - j)).map fun t => n + (k - 1 - t)
theorem frL_len (n k j : Nat) : (frL n k j).length = k - j := by simp [frL]
theorem frL_step (n k j : Nat) (h : j + 1 ≤ k) : frL n k j = frL n k (j + 1) ++ [n + j] := by
  unfold frL
  rw [show k - j = (k - (j + 1)) + 1 by omega, List.range_succ, List.map_append]
  congr 1
  simp
  omega
theorem frL_all (n k : Nat) : (frL n k 0).Perm ((List.range k).map (n + ·)) := by
  have e : frL n k 0 = ((List.range k).map (n + ·)).reverse := by
    apply List.ext_getElem
    · simp [frL]
    · intro i h1 h2
      simp [frL]
  rw [e]
  exact List.reverse_perm _

theorem new_no (x y : Int) (h : ¬ (1 ≤ x ∧ x ≤ 8 ∧ 0 ≤ y ∧ y ≤ 4096)) (w : World) :
    Calls Try.prog 25 #[.int .i64 x, .int .i64 y] w fun e w' => e = .returned (.tuple #[.pointer none, .int .i64 1]) ∧ w = w' := by
  by_cases h1 : x < 1
  · clear h
    go_enter Try.func25, Try.ntmps25
    go_wp2_with fail
    go_ret2
    exact ⟨rfl, rfl⟩
  · by_cases h2 : 8 < x
    · clear h
      go_enter Try.func25, Try.ntmps25
      go_wp2_with fail
      go_ret2
      exact ⟨rfl, rfl⟩
    · by_cases h3 : y < 0
      · clear h
        go_enter Try.func25, Try.ntmps25
        go_wp2_with fail
        go_ret2
        exact ⟨rfl, rfl⟩
      · have h4 : 4096 < y := by omega
        clear h
        go_enter Try.func25, Try.ntmps25
        go_wp2_with fail
        go_ret2
        exact ⟨rfl, rfl⟩

/-- What is made ahead of the loops. -/
def NewAt (w : World) (n N : Nat) (wx : World) (s6 : Value) : Prop :=
  ∃ b gs gm mb, s6 = .pointer (some ⟨b, 0, none⟩) ∧ wx.heap[b]? = some (.cells #[.int .i64 (n : Int), .slice (some ⟨gs, 0, none⟩) N N, .slice none 0 0, .map (some mb), .slice (some ⟨gm, 0, none⟩) n n] TR (0, 0)) ∧
    wx.heap[gs]? = some (.cells (flat (List.replicate N z)).toArray TS (0, 0)) ∧ wx.heap[gm]? = some (.cells (ints (List.replicate n 0)).toArray TInt (0, 0)) ∧ wx.heap[mb]? = some (.map #[] 0) ∧
    gs ≠ b ∧ gm ≠ b ∧ gs ≠ gm ∧ w.heap.size ≤ b ∧ w.heap.size ≤ gs ∧ w.heap.size ≤ gm ∧ w.heap.size ≤ mb ∧ Keep (fun _ => False) w wx

theorem slot_cells {w : World} {gs : Nat} {sl : List Sl} (h : w.heap[gs]? = some (.cells (flat sl).toArray TS (0, 0))) (a : Nat) (ha : a < sl.length) :
    w.cell? ⟨gs, a * 4, none⟩ = some (.string (ky sl a)) ∧ w.cell? ⟨gs, a * 4 + 1, none⟩ = some (.int .i64 ((gt sl a).ls : Int)) ∧ w.cell? ⟨gs, a * 4 + 2, none⟩ = some (.int .i64 (pv sl a : Int)) ∧ w.cell? ⟨gs, a * 4 + 3, none⟩ = some (.int .i64 (nx sl a : Int)) := by
  have q : ∀ j, j < 4 → w.cell? ⟨gs, a * 4 + j, none⟩ = (cells (gt sl a))[j]? := fun j hj => by rw [cell_at h, List.getElem?_toArray]; exact flat_at sl a j _ (gt_some sl a ha) hj
  exact ⟨q 0 (by omega), q 1 (by omega), q 2 (by omega), q 3 (by omega)⟩
theorem heap4 (w : World) (o0 o1 o2 o3 : Obj) : (((((w.alloc o0).alloc o1).alloc o2).alloc o3).drew.heap[w.heap.size]? = some o0) ∧ (((((w.alloc o0).alloc o1).alloc o2).alloc o3).drew.heap[w.heap.size + 1]? = some o1) ∧ (((((w.alloc o0).alloc o1).alloc o2).alloc o3).drew.heap[w.heap.size + 1 + 1]? = some o2) ∧ (((((w.alloc o0).alloc o1).alloc o2).alloc o3).drew.heap[w.heap.size + 1 + 1 + 1]? = some o3) ∧ Keep (fun _ => False) w ((((w.alloc o0).alloc o1).alloc o2).alloc o3).drew :=
  ⟨block_drew (block_alloc (block_alloc (block_alloc (block_new w o0) o1) o2) o3), block_drew (block_alloc (block_alloc (block_new_at (by simp)) o2) o3), block_drew (block_alloc (block_new_at (by simp)) o3), block_drew (block_new_at (by simp)), ((((Keep.refl _ w).alloc _).alloc _).alloc _).alloc _ |>.drew⟩

set_option maxRecDepth 100000 in
set_option maxHeartbeats 4000000 in
theorem new_ok (n k : Nat) (hn1 : 1 ≤ n) (hn8 : n ≤ 8) (hk : k ≤ 4096) (w : World) :
    Calls Try.prog 25 #[.int .i64 (n : Int), .int .i64 (k : Int)] w fun e w' => ∃ b F, e = .returned (.tuple #[.pointer (some ⟨b, 0, none⟩), .int .i64 0]) ∧ Ring w' F b n k 0 (List.replicate n []) ∧ (∀ i, F i → i < w'.heap.size) ∧ (∀ i, F i → w.heap.size ≤ i) ∧ Keep (fun _ => False) w w' := by
  obtain ⟨i0, hi, hz0, hz1, hz2⟩ := info_parts infoInt
  obtain ⟨i1, hj, hy0, hy1, hy2⟩ := info_parts infoS
  have hmm := @run_makeMap Try.prog
  have mk1 := run_makeN 81 3 i0 _ Try.underlying81 hi hz0 n (by rw [hz2]; omega) (by omega)
  have mk2 := run_makeN 82 86 i1 _ Try.underlying82 hj hy0 (n + k) (by rw [hy2]; omega) (by omega)
  rw [hz1, made_ints] at mk1
  rw [hy1, made_slots] at mk2
  generalize hS : (flat (List.replicate (n + k) z)).toArray = CS at mk2
  generalize hI : (ints (List.replicate n 0)).toArray = CI at mk1
  obtain ⟨N, hN⟩ : ∃ N, N = n + k := ⟨_, rfl⟩
  rw [← hN] at mk2 hS
  have hNc : (n : Int) + (k : Int) = (N : Int) := by omega
  have hNc' : IntKind.i64.wrap ((n : Int) + (k : Int)) = (N : Int) := by rw [hNc]; exact IntWalk.i64_in _ (by omega)
  have hN9 : N ≤ 100000 := by omega
  have h1 : ¬ (n : Int) < 1 := by omega
  have h2 : ¬ (8 : Int) < (n : Int) := by omega
  have h3 : ¬ (k : Int) < 0 := by omega
  have h4 : ¬ (4096 : Int) < (k : Int) := by omega
  have HS := Lib.hid hS
  have HI := Lib.hid hI
  have HN := Lib.hid hN
  clear hS hI hN
  go_enter Try.func25, Try.ntmps25
  go_upto_region 3 with fail
  go_cut [6] (fun s6 wx => NewAt w n N wx s6)
  case first =>
    go_region
    all_goals
      go_wp2_with fail
      go_meet
      have q := heap4 w
      refine ⟨_, _, _, _, rfl, (q _ _ _ _).2.2.2.1, ?_, ?_, ?_, ?_, ?_, ?_, ?_, ?_, ?_, ?_, (q _ _ _ _).2.2.2.2⟩
      · rw [HS.out]; first | exact (q _ _ _ _).1 | exact (q _ _ _ _).2.1 | exact (q _ _ _ _).2.2.1
      · rw [HI.out]; first | exact (q _ _ _ _).1 | exact (q _ _ _ _).2.1 | exact (q _ _ _ _).2.2.1
      · first | exact (q _ _ _ _).1 | exact (q _ _ _ _).2.1 | exact (q _ _ _ _).2.2.1
      all_goals omega
  case rest =>
    obtain ⟨b, gs, gm, mb, rfl, hb, hs, hm, hc, e1, e2, e3, l1, l2, l3, l4, k0⟩ := hcut
    have HB := Lib.hid hb
    have HGS := Lib.hid hs
    have HGM := Lib.hid hm
    have HMB := Lib.hid hc
    have K0 := Lib.hid k0
    clear hb hs hm hc k0 h1 h2 h3 h4 mk1 mk2 hmm
    have hbl : b < wc.heap.size := lt_of_block HB.out
    go_wp2_with fail
    go_loopw [34] (fun xi wr => ∃ j : Nat, j ≤ n ∧ xi = .int .i64 (j : Int) ∧ Hid (wr.heap[gs]? = some (.cells (flat (part N j)).toArray TS (0, 0))) ∧ Hid (Keep (fun i => i = gs) wc wr)) (fun xi wr => n - (intOf xi).toNat)
    case atStart => exact ⟨0, by omega, rfl, Lib.hid (by rw [part_zero]; exact HGS.out), Lib.hid (Keep.refl _ _)⟩
    case round =>
      obtain ⟨j, hjn, rfl, hG, hK⟩ := hrel
      have HBr := Lib.hid ((hK.out.block b hbl (fun e => e1 e.symm)).trans HB.out)
      have cb1 : wr.cell? ⟨b, 1, none⟩ = some (.slice (some ⟨gs, 0, none⟩) N N) := cell_at HBr.out 1
      have hnN : n ≤ N := by have := HN.out; omega
      by_cases hlt : j < n
      · obtain ⟨s0, s1, s2, s3⟩ := slot_cells hG.out j (by rw [part_len N j (by omega)]; omega)
        have f0 := free_at hG.out (j * 4)
        have f1 := free_at hG.out (j * 4 + 1)
        have f2 := free_at hG.out (j * 4 + 2)
        have f3 := free_at hG.out (j * 4 + 3)
        generalize (gt (part N j) j).ls = y1 at s1
        generalize pv (part N j) j = y2 at s2
        generalize nx (part N j) j = y3 at s3
        have t1 : (wr.setCell ⟨gs, j * 4, none⟩ (.string ⟨#[]⟩)).cell? ⟨gs, j * 4 + 1, none⟩ = some (.int .i64 (y1 : Int)) := by
          rw [World.cell?_setCell_other _ _ _ _ (by intro e; injection e; omega)]; exact s1
        have t2 : ((wr.setCell ⟨gs, j * 4, none⟩ (.string ⟨#[]⟩)).setCell ⟨gs, j * 4 + 1, none⟩ (.int .i64 (j : Int))).cell? ⟨gs, j * 4 + 2, none⟩ = some (.int .i64 (y2 : Int)) := by
          rw [World.cell?_setCell_other _ _ _ _ (by intro e; injection e; omega), World.cell?_setCell_other _ _ _ _ (by intro e; injection e; omega)]; exact s2
        have t3 : (((wr.setCell ⟨gs, j * 4, none⟩ (.string ⟨#[]⟩)).setCell ⟨gs, j * 4 + 1, none⟩ (.int .i64 (j : Int))).setCell ⟨gs, j * 4 + 2, none⟩ (.int .i64 (j : Int))).cell? ⟨gs, j * 4 + 3, none⟩ = some (.int .i64 (y3 : Int)) := by
          rw [World.cell?_setCell_other _ _ _ _ (by intro e; injection e; omega), World.cell?_setCell_other _ _ _ _ (by intro e; injection e; omega), World.cell?_setCell_other _ _ _ _ (by intro e; injection e; omega)]; exact s3
        have hjN : j < N := by omega
        go_wp2_with fail
        go_roundw
        case rel =>
          refine ⟨j + 1, by omega, by go_num, Lib.hid ?_, Lib.hid ((((hK.out.set1 _ _).set1 _ _).set1 _ _).set1 _ _)⟩
          refine (block_set (block_set (block_set (block_set hG.out _ _) _ _) _ _) _ _).trans ?_
          rw [← part_step N j hjN, ← flat_set4 _ _ _ (by rw [part_len N j (by omega)]; exact hjN)]
          simp
        case measure => simp [intOf]; omega
      · obtain rfl : j = n := by omega
        have hb2 := HBr.out
        have hgm2 := (hK.out.block gm (lt_of_block HGM.out) (fun e => e3 e.symm)).trans HGM.out
        have hmb2 := (hK.out.block mb (lt_of_block HMB.out) (by rintro rfl; have := HMB.out; rw [HGS.out] at this; cases this)).trans HMB.out
        have kw : Keep (fun _ => False) w wr := K0.out.then hK.out (fun i e => by rw [e]; exact l2)
        have hmp : Mp wr mb 0 (fun _ => none) := Mp.of_empty hmb2
        have ra : RAt wr (fun i => w.heap.size ≤ i) b j N 0 (part N j) (frL j k k) (List.replicate j 0) (fun _ => none) gs gm mb (.slice none 0 0) := by
          have e : frL j k k = [] := by simp [frL]
          rw [e]
          exact ⟨hb2, hG.out, hgm2, World.ownsRow_nil _ _ _ _, hmp, part_len N j hnN, by simp, hN9, e1, e2, e3, by simp [Value.ownBlock], by simp [Value.ownBlock], by simp [Value.ownBlock], l1, l2, l3, l4, by simp [Value.ownBlock]⟩
        have RA := Lib.hid ra
        have KW := Lib.hid kw
        clear hb2 hgm2 hmb2 hmp ra kw cb1 HB HGS HGM HMB K0 hG hK
        go_wp2_with fail
        go_loopw [8] (fun xi wq => ∃ (t : Nat) (y : Int) (v : Value), t ≤ k ∧ y = (t : Int) - 1 ∧ xi = .int .i64 y ∧ Hid (RAt wq (fun i => w.heap.size ≤ i) b j N 0 (part N j) (frL j k t) (List.replicate j 0) (fun _ => none) gs gm mb v) ∧ Hid (Keep (fun _ => False) w wq)) (fun xi wq => (intOf xi + 1).toNat)
        case atStart => exact ⟨k, (k : Int) - 1, _, by omega, rfl, rfl, RA, KW⟩
        case round =>
          obtain ⟨t, y, v, htk, hy, rfl, hR, hQ⟩ := hrel
          cases t with
          | succ t =>
            obtain rfl : y = (t : Int) := by omega
            clear hy
            obtain ⟨ao, cp, hv⟩ := owns_slice hR.out.o
            have HV := Lib.hid hv
            have ow : ∀ o, (wr.alloc o).ownsRow 0 3 1 (.slice ao (frL j k (t + 1)).length cp) (frL j k (t + 1)).length (ints (frL j k (t + 1))) := fun o => by rw [← hv]; exact hR.out.o.alloc o
            have c2 : wr.cell? ⟨b, 2, none⟩ = some (.slice ao (frL j k (t + 1)).length cp) := by rw [← hv]; exact cell_at hR.out.h 2
            have hml := frL_len j k (t + 1)
            generalize hm : (frL j k (t + 1)).length = m at *
            have Hm := Lib.hid hm
            have hm9 : m ≤ 10000 := by omega
            have nw : ∀ q u, [Value.int .i64 ((j : Int) + (t : Int))][q]? = some u → (wr.alloc (.cells #[.int .i64 ((j : Int) + (t : Int))] 3)).cell? ((⟨wr.heap.size, 0, none⟩ : Addr).add q) = some u := World.news_of_block (block_new wr _)
            have on1 : ∀ u ∈ ([.int .i64 ((j : Int) + (t : Int))] : List Value), u.oneCell' = true := by simp [Value.oneCell']
            have How := Lib.hid ow
            have Hon := Lib.hid on1
            have Hnw := Lib.hid nw
            have hblr := lt_of_block hR.out.h
            clear ow nw on1 hv hml hm
            go_wp2_with (at_builtin; refine wpList_append_lies _ rfl (.tmp 58) (.tmp 62) 81 rfl 0 3 i0 _ 1 8 Try.underlying81 hi hz0 hz1 hz2 rfl (by decide) (.slice ao m cp) m (ints (frL j k (t + 1))) rfl (How.out _) ⟨wr.heap.size, 0, none⟩ 1 1 [.int .i64 ((j : Int) + (t : Int))] rfl rfl Hnw.out Hon.out (by decide) (by unfold maxLen; omega) (by omega) (Nat.zero_le _) _ rfl ?_; intro g cq w4 hown4 hgrow hat hlt4
                         have hb4 := block_grown hgrow (block_alloc hR.out.h _) (by rw [← HV.out]; exact Ne.symm hR.out.o1)
                         have c4 := cell_at hb4 2
                         have f4 := free_at hb4 2
                         have HB4 := Lib.hid hb4
                         have HO4 := Lib.hid hown4
                         have HG4 := Lib.hid hgrow
                         have HA4 := Lib.hid hat
                         clear hb4 hown4 hgrow hat)
            rw [← HV.out] at HG4 HA4
            have kA : Keep (fun i => v.ownBlock = some i) wr w4 := ((Keep.refl _ wr).alloc _).grown HG4.out (fun i e => .inl e)
            have k5 : Keep (fun i => i = b) w4 (w4.setCell ⟨b, 2, none⟩ (.slice (some ⟨g, 0, none⟩) (m + 1) cq)) := (Keep.refl _ w4).set1 _ _
            have hgne : g ≠ b := by
              rintro rfl
              rcases HA4.out with e | e
              · exact hR.out.o1 e
              · simp at e; omega
            have r4 := rowTurn (fr' := frL j k t) (v' := .slice (some ⟨g, 0, none⟩) (m + 1) cq) hR.out ((kA.mono (fun i _ e => .inr e)).trans' (k5.mono (fun i _ e => .inl e)) (fun i _ e => e)) ((block_set HB4.out 2 _).trans rfl) (by
              rw [frL_step j k t htk]
              have e : (frL j k (t + 1) ++ [j + t]).length = m + 1 := by rw [List.length_append, Hm.out]; rfl
              rw [e]
              have e2 : ints (frL j k (t + 1) ++ [j + t]) = ints (frL j k (t + 1)) ++ [.int .i64 ((j : Int) + (t : Int))] := by simp [ints]
              rw [e2]
              exact owns_keep HO4.out k5 (fun i e e' => by simp [Value.ownBlock] at e; omega)) (fun i e => by
              simp [Value.ownBlock] at e
              subst e
              rcases HA4.out with e | e
              · exact .inl e
              · right; simp at e; omega)
            have hwr := hQ.out.size
            have r5 := r4.mono (F' := fun i => w.heap.size ≤ i) (fun i e => by
              rcases e with e | e
              · exact e
              · simp [Value.ownBlock] at e
                subst e
                rcases HA4.out with e | e
                · exact hR.out.fo _ e
                · simp at e; omega) (Nat.le_refl _)
            have kq : Keep (fun _ => False) w (w4.setCell ⟨b, 2, none⟩ (.slice (some ⟨g, 0, none⟩) (m + 1) cq)) := (hQ.out.then kA (fun i e => hR.out.fo i e)).then k5 (fun i e => by rw [e]; exact l1)
            have R5 := Lib.hid r5
            have KQ := Lib.hid kq
            clear r4 r5 kq kA k5
            go_wp2_with fail
            go_roundw
            case rel => exact ⟨t, (t : Int) - 1, _, by omega, rfl, rfl, R5, KQ⟩
            case measure => simp [intOf]
          | zero =>
            obtain rfl : y = -1 := by omega
            clear hy
            go_wp2_with fail
            go_ret2
            have hp : part N j = first j (List.replicate k z) := by rw [HN.out, part_all]
            have iv := Inv.begin_ j k hn1 (List.range k) (frL j k 0) (by simp) (frL_all j k)
            have rr : Ring wr (fun i => w.heap.size ≤ i) b j k 0 (List.replicate j []) := by
              refine ⟨first j (List.replicate k z), frL j k 0, fun _ => none, gs, gm, mb, v, List.replicate j [], ?_, iv, by simp [keysOf]⟩
              have := hR.out
              rw [hp, HN.out] at this
              have e : lens (List.replicate j []) = List.replicate j 0 := by simp [lens]
              rw [e]
              exact this
            exact ⟨b, _, rfl, rr.tight, fun i e => e.2, fun i e => e.1, hQ.out⟩

end Go.Proofs.Ytebjbkpgicbgeaa.RinN
