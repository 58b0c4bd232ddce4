/-
  Layer 6 (ring): the law RingNone.
-/
import Derived.Test.YtcllfdplbefaeaaRinU
namespace Go.Proofs.Ytcllfdplbefaeaa.RinX
set_option linter.unusedVariables false
set_option linter.unusedSimpArgs false
open Go.RowKit Go.Shelf Go.Proofs.Ytcllfdplbefaeaa.Mem Go.Proofs.Ytcllfdplbefaeaa.RinM Go.Proofs.Ytcllfdplbefaeaa.RinP Go.Proofs.Ytcllfdplbefaeaa.RinW Go.Proofs.Ytcllfdplbefaeaa.RinL Go.Proofs.Ytcllfdplbefaeaa.RinF Go.Proofs.Ytcllfdplbefaeaa.RinG Go.Proofs.Ytcllfdplbefaeaa.RinH Go.Proofs.Ytcllfdplbefaeaa.RinD Go.Proofs.Ytcllfdplbefaeaa.RinN Go.Proofs.Ytcllfdplbefaeaa.RinA Go.Proofs.Ytcllfdplbefaeaa.RinK Go.Proofs.Ytcllfdplbefaeaa.Mask Go.Proofs.Ytcllfdplbefaeaa.Open Go.Proofs.Ytcllfdplbefaeaa.RinT Go.Proofs.Ytcllfdplbefaeaa.RinU
attribute [local go_sem] Oper.semAt_some

theorem front_nil (i : Int) (x : ByteArray) (w : World) : Calls Try.prog 10 #[.pointer none, .int .i64 i, .string x] w fun e w' => e = .returned (.bool false) ∧ w = w' := by
  go_enter Try.func10, Try.ntmps10
  go_wp2_with (go_at_call 27; refine (is_nil _ _).mono ?_; rintro e w1 ⟨rfl, rfl⟩)
  go_ret
  exact ⟨rfl, rfl⟩
theorem export_nil (w : World) : Calls Try.prog 19 #[.pointer none] w fun e w' => e = .returned (.string ⟨#[]⟩) ∧ w = w' := by
  go_enter Try.func19, Try.ntmps19
  go_wp2_with fail
  go_ret
  exact ⟨rfl, rfl⟩

set_option maxRecDepth 100000 in
theorem keys_nil (m br bl : Nat) (G : Nat → Prop) (i : Int) (w : World) (hm : 2 ≤ m) (hbr : w.cell? ⟨br, 0, none⟩ = some (.pointer none)) (hbl : w.cell? ⟨bl, 0, none⟩ = some (.int .i64 i)) (hrl : br < w.heap.size) (hll : bl < w.heap.size) :
    SeqStopsK Fence.wide m Try.prog 30 #[.pointer (some ⟨br, 0, none⟩), .pointer (some ⟨bl, 0, none⟩)] (fun x : ByteArray => #[.string x]) (fun W W' => Keep (fun j => ¬ G j) W W') (· = []) (· <+: []) 0 w := by
  intro lp J Jx W hW hJ hJx hY h0
  have k0 : Keep (fun _ => False) w W := Keep.of0 hW
  have hbr1 : W.cell? ⟨br, 0, none⟩ = some (.pointer none) := (k0.cell (p := ⟨br, 0, none⟩) hrl (fun e => e)).trans hbr
  have hbl1 : W.cell? ⟨bl, 0, none⟩ = some (.int .i64 i) := (k0.cell (p := ⟨bl, 0, none⟩) hll (fun e => e)).trans hbl
  have H0 := Lib.hid h0
  clear hW hJ hJx hY h0 k0 hbr hbl
  refine callsIn_of_wp Try.func30 rfl trivial ?_ rfl
  simp only [Try.ntmps30, List.size_toArray, List.length_cons, List.length_nil, Nat.reduceAdd, Nat.reduceSub, Array.replicate_succ, Array.replicate_zero, List.push_toArray, List.append_toArray, List.nil_append, List.cons_append]
  gi_wp2_with (refine ⟨trivial, fun _ => by omega, ?_⟩; gi_at_call 27; refine (callsIn_wide.2 (is_nil _ _)).mono ?_; rintro e w1 ⟨rfl, rfl⟩)
  refine bodyPost_ret (results_none rfl _ _ _) rfl ?_
  exact ⟨⟨_, rfl⟩, .inl ⟨[], rfl, H0.out⟩⟩

set_option maxHeartbeats 8000000 in
set_option maxRecDepth 100000 in
theorem ringNone_walk (lists places : Int) (key : ByteArray) (w : World) (wl : (Lit.int .i64 lists).wf = true) (wp : (Lit.int .i64 places).wf = true) (wk : key.size ≤ 9223372036854775807) :
    Calls Try.prog 6 #[.int .i64 lists, .int .i64 places, .string key] w fun e w' => e = .returned (.bool true) ∧ Below w.heap.size w w' := by
  obtain ⟨x, hx, hx2, -⟩ := i64_and lists 4 (by omega)
  have hx' : bits .and .i64 lists 15 = (x : Int) := hx
  have hx16 : x < 16 := hx2
  obtain ⟨y, hy, hy2, -⟩ := i64_and places 13 (by omega)
  have hy' : bits .and .i64 places 8191 = (y : Int) := hy
  have hy16 : y < 8192 := hy2
  clear hx hx2 hy hy2
  by_cases c1 : x < 1
  · have N1 := Lib.hid (fun W => new_no (x : Int) (y : Int) (by omega) W)
    have q1 : ¬ (1 : Int) ≤ (x : Int) := by omega
    clear c1
    refine (callsIn_wide (n := 5)).1 (callsIn_of_wp_marks Try.func6 rfl trivial ?_ rfl)
    rw [wpIn_wide]
    simp only [Try.ntmps6, List.size_toArray, List.length_cons, List.length_nil, Nat.reduceAdd, Nat.reduceSub, Array.replicate_succ, Array.replicate_zero, List.push_toArray, List.append_toArray, List.nil_append, List.cons_append]
    go_wp2_with (first
      | (go_at_call 16; refine (back_nil _ _).mono ?_; rintro e w1 ⟨rfl, rfl⟩)
      | (go_at_call 11; refine (few_any key wk _).mono ?_; rintro e w1 ⟨rfl, rfl⟩)
      | (go_at_call 17; refine (in_nil _ _).mono ?_; rintro e w1 ⟨rfl, rfl⟩)
      | (go_at_call 8; refine (N1.out _).mono ?_; rintro e w2 ⟨rfl, rfl⟩; have k2 : Keep (fun _ => False) w w := Keep.refl _ w)
      | (go_at_call 9; refine (awake_any _).mono ?_; rintro e w3 ⟨rfl, k3⟩)
      | (go_at_call 12; refine (keys_call _ _ _).mono ?_; rintro e w4 ⟨rfl, rfl⟩))
    obtain ⟨W5, hW5⟩ : ∃ W5, W5 = ((w3.alloc (.cells #[.int .i64 0] 3)).alloc (.cells #[.pointer none] 23)).alloc (.cells #[.int .i64 0] 3) := ⟨_, rfl⟩
    have k5 : Keep (fun _ => False) w3 W5 := by rw [hW5]; exact (((Keep.refl _ _).alloc _).alloc _).alloc _
    have hs5 : W5.heap.size = w3.heap.size + 3 := by rw [hW5]; simp
    have b8 : W5.heap[w3.heap.size]? = some (.cells #[.int .i64 0] 3 (0, 0)) := by rw [hW5]; exact block_alloc (block_alloc (block_new w3 _) _) _
    have br : W5.heap[w3.heap.size + 1]? = some (.cells #[.pointer none] 23 (0, 0)) := by rw [hW5]; exact block_alloc (block_new_at (by simp)) _
    have bl : W5.heap[w3.heap.size + 1 + 1]? = some (.cells #[.int .i64 0] 3 (0, 0)) := by rw [hW5]; exact block_new_at (by simp)
    have hst := keys_nil 4 (w3.heap.size + 1) (w3.heap.size + 1 + 1) (fun j => j < W5.heap.size ∧ j ≠ w3.heap.size) 0 W5 (by omega) (cell_at br 0) (cell_at bl 0) (by omega) (by omega)
    have kw : Keep (fun _ => False) w W5 := (k2.trans k3).trans k5
    have HST := Lib.hid hst
    have HW5 := Lib.hid hW5
    have KW := Lib.hid kw
    have B8 := Lib.hid b8
    have hws : w.heap.size ≤ w3.heap.size := (k2.trans k3).size
    clear hst hW5 k5 b8 br bl kw k2 k3
    rw [← HW5.out]
    refine wpIn_wide.1 (wpIn_rangeFunc_ownF (F := Fence.wide) (n := 5) rfl (by decide) (gf := 30) (lb := #[.pointer (some ⟨w3.heap.size + 1, 0, none⟩), .pointer (some ⟨w3.heap.size + 1 + 1, 0, none⟩)]) rfl trivial (enters_of Try.func30 (by kernel_rfl) rfl) HST.out (fun h k => Keep.trans h k) (Kq.b (Nat.le_refl _)) (Below.refl _ _) (fun _ => rfl)
      (fun pre W => (W.cell? ⟨w3.heap.size, 0, none⟩ = some (.int .i64 0) ∧ W.frozen? ⟨w3.heap.size, 0, none⟩ = false) ∧ Keep (fun j => j = w3.heap.size) W5 W)
      (fun c pre W => False)
      (fun s A B row hs hg hr => ⟨⟨cell_kept hs.1.1 hg (fun r e => (hr r e).2), (frozen_kept hs.1.1 hg (fun r e => (hr r e).2)).trans hs.1.2⟩, ownFrom_keep (β := Unit) (Nat.le_refl _) () A B row hs.2 hg hr⟩)
      (fun c s A B row hs hg hr => hs)
      ⟨⟨cell_at B8.out 0, free_at B8.out 0⟩, Keep.refl _ _⟩ ?a10 ?assign0 ?body0 ?done0 ?stop0)
    case assign0 =>
      intro l x W K0 hK0
      gi_wp2
      exact hK0
    case body0 =>
      rintro l pre x W hI hlen
      exact absurd hlen (by omega)
    case done0 =>
      rintro D ys W hD hys ⟨⟨hc, hf⟩, hk⟩ hdef
      have kall : Keep (fun _ => False) w (W.putObj D (.deferred none)) := (KW.out.then hk (fun q e => by omega)).then ((Keep.refl (fun q => q = D) W).grown (grownBy_putObj' W D _) (fun q e => .inl (by cases e; rfl))) (fun q e => by omega)
      have KALL := Lib.hid kall
      have HD := Lib.hid hdef
      clear hdef kall hk
      gi_wp2
      go_wp2_with (first
        | (go_at_call 11; refine (few_any key wk _).mono ?_; rintro e w1 ⟨rfl, rfl⟩)
        | (go_at_call 10; refine (front_nil _ _ _).mono ?_; rintro e w1 ⟨rfl, rfl⟩)
        | (go_at_call 15; refine (drop_nil _ _).mono ?_; rintro e w1 ⟨rfl, rfl⟩)
        | (go_at_call 13; refine (len_nil _ _).mono ?_; rintro e w1 ⟨rfl, rfl⟩)
        | (go_at_call 14; refine (free_nil _).mono ?_; rintro e w1 ⟨rfl, rfl⟩)
        | (go_at_call 18; refine (lists_nil _).mono ?_; rintro e w1 ⟨rfl, rfl⟩)
        | (go_at_call 19; refine (export_nil _).mono ?_; rintro e w1 ⟨rfl, rfl⟩))
      all_goals
        refine ⟨by simp, .inl ⟨_, _, rfl, run_takeDeferred HD.out, ?_⟩⟩
        exact ⟨_, results_tmp rfl _ _ _, by first | (simp; done) | (simp; omega), KALL.out.below0⟩
    case stop0 =>
      rintro D c pre W hD hpre h hdef
      exact h.elim
  · by_cases c2 : 8 < x
    · have N1 := Lib.hid (fun W => new_no (x : Int) (y : Int) (by omega) W)
      have q1 : (1 : Int) ≤ (x : Int) := by omega
      have q2 : ¬ (x : Int) ≤ 8 := by omega
      clear c1 c2
      refine (callsIn_wide (n := 5)).1 (callsIn_of_wp_marks Try.func6 rfl trivial ?_ rfl)
      rw [wpIn_wide]
      simp only [Try.ntmps6, List.size_toArray, List.length_cons, List.length_nil, Nat.reduceAdd, Nat.reduceSub, Array.replicate_succ, Array.replicate_zero, List.push_toArray, List.append_toArray, List.nil_append, List.cons_append]
      go_wp2_with (first
        | (go_at_call 16; refine (back_nil _ _).mono ?_; rintro e w1 ⟨rfl, rfl⟩)
        | (go_at_call 11; refine (few_any key wk _).mono ?_; rintro e w1 ⟨rfl, rfl⟩)
        | (go_at_call 17; refine (in_nil _ _).mono ?_; rintro e w1 ⟨rfl, rfl⟩)
        | (go_at_call 8; refine (N1.out _).mono ?_; rintro e w2 ⟨rfl, rfl⟩; have k2 : Keep (fun _ => False) w w := Keep.refl _ w)
        | (go_at_call 9; refine (awake_any _).mono ?_; rintro e w3 ⟨rfl, k3⟩)
        | (go_at_call 12; refine (keys_call _ _ _).mono ?_; rintro e w4 ⟨rfl, rfl⟩))
      obtain ⟨W5, hW5⟩ : ∃ W5, W5 = ((w3.alloc (.cells #[.int .i64 0] 3)).alloc (.cells #[.pointer none] 23)).alloc (.cells #[.int .i64 0] 3) := ⟨_, rfl⟩
      have k5 : Keep (fun _ => False) w3 W5 := by rw [hW5]; exact (((Keep.refl _ _).alloc _).alloc _).alloc _
      have hs5 : W5.heap.size = w3.heap.size + 3 := by rw [hW5]; simp
      have b8 : W5.heap[w3.heap.size]? = some (.cells #[.int .i64 0] 3 (0, 0)) := by rw [hW5]; exact block_alloc (block_alloc (block_new w3 _) _) _
      have br : W5.heap[w3.heap.size + 1]? = some (.cells #[.pointer none] 23 (0, 0)) := by rw [hW5]; exact block_alloc (block_new_at (by simp)) _
      have bl : W5.heap[w3.heap.size + 1 + 1]? = some (.cells #[.int .i64 0] 3 (0, 0)) := by rw [hW5]; exact block_new_at (by simp)
      have hst := keys_nil 4 (w3.heap.size + 1) (w3.heap.size + 1 + 1) (fun j => j < W5.heap.size ∧ j ≠ w3.heap.size) 0 W5 (by omega) (cell_at br 0) (cell_at bl 0) (by omega) (by omega)
      have kw : Keep (fun _ => False) w W5 := (k2.trans k3).trans k5
      have HST := Lib.hid hst
      have HW5 := Lib.hid hW5
      have KW := Lib.hid kw
      have B8 := Lib.hid b8
      have hws : w.heap.size ≤ w3.heap.size := (k2.trans k3).size
      clear hst hW5 k5 b8 br bl kw k2 k3
      rw [← HW5.out]
      refine wpIn_wide.1 (wpIn_rangeFunc_ownF (F := Fence.wide) (n := 5) rfl (by decide) (gf := 30) (lb := #[.pointer (some ⟨w3.heap.size + 1, 0, none⟩), .pointer (some ⟨w3.heap.size + 1 + 1, 0, none⟩)]) rfl trivial (enters_of Try.func30 (by kernel_rfl) rfl) HST.out (fun h k => Keep.trans h k) (Kq.b (Nat.le_refl _)) (Below.refl _ _) (fun _ => rfl)
        (fun pre W => (W.cell? ⟨w3.heap.size, 0, none⟩ = some (.int .i64 0) ∧ W.frozen? ⟨w3.heap.size, 0, none⟩ = false) ∧ Keep (fun j => j = w3.heap.size) W5 W)
        (fun c pre W => False)
        (fun s A B row hs hg hr => ⟨⟨cell_kept hs.1.1 hg (fun r e => (hr r e).2), (frozen_kept hs.1.1 hg (fun r e => (hr r e).2)).trans hs.1.2⟩, ownFrom_keep (β := Unit) (Nat.le_refl _) () A B row hs.2 hg hr⟩)
        (fun c s A B row hs hg hr => hs)
        ⟨⟨cell_at B8.out 0, free_at B8.out 0⟩, Keep.refl _ _⟩ ?a11 ?assign1 ?body1 ?done1 ?stop1)
      case assign1 =>
        intro l x W K0 hK0
        gi_wp2
        exact hK0
      case body1 =>
        rintro l pre x W hI hlen
        exact absurd hlen (by omega)
      case done1 =>
        rintro D ys W hD hys ⟨⟨hc, hf⟩, hk⟩ hdef
        have kall : Keep (fun _ => False) w (W.putObj D (.deferred none)) := (KW.out.then hk (fun q e => by omega)).then ((Keep.refl (fun q => q = D) W).grown (grownBy_putObj' W D _) (fun q e => .inl (by cases e; rfl))) (fun q e => by omega)
        have KALL := Lib.hid kall
        have HD := Lib.hid hdef
        clear hdef kall hk
        gi_wp2
        go_wp2_with (first
          | (go_at_call 11; refine (few_any key wk _).mono ?_; rintro e w1 ⟨rfl, rfl⟩)
          | (go_at_call 10; refine (front_nil _ _ _).mono ?_; rintro e w1 ⟨rfl, rfl⟩)
          | (go_at_call 15; refine (drop_nil _ _).mono ?_; rintro e w1 ⟨rfl, rfl⟩)
          | (go_at_call 13; refine (len_nil _ _).mono ?_; rintro e w1 ⟨rfl, rfl⟩)
          | (go_at_call 14; refine (free_nil _).mono ?_; rintro e w1 ⟨rfl, rfl⟩)
          | (go_at_call 18; refine (lists_nil _).mono ?_; rintro e w1 ⟨rfl, rfl⟩)
          | (go_at_call 19; refine (export_nil _).mono ?_; rintro e w1 ⟨rfl, rfl⟩))
        all_goals
          refine ⟨by simp, .inl ⟨_, _, rfl, run_takeDeferred HD.out, ?_⟩⟩
          exact ⟨_, results_tmp rfl _ _ _, by first | (simp; done) | (simp; omega), KALL.out.below0⟩
      case stop1 =>
        rintro D c pre W hD hpre h hdef
        exact h.elim
    · by_cases c3 : 4096 < y
      · have N1 := Lib.hid (fun W => new_no (x : Int) (y : Int) (by omega) W)
        have q1 : (1 : Int) ≤ (x : Int) := by omega
        have q2 : (x : Int) ≤ 8 := by omega
        have q3 : ¬ (y : Int) ≤ 4096 := by omega
        clear c1 c2 c3
        refine (callsIn_wide (n := 5)).1 (callsIn_of_wp_marks Try.func6 rfl trivial ?_ rfl)
        rw [wpIn_wide]
        simp only [Try.ntmps6, List.size_toArray, List.length_cons, List.length_nil, Nat.reduceAdd, Nat.reduceSub, Array.replicate_succ, Array.replicate_zero, List.push_toArray, List.append_toArray, List.nil_append, List.cons_append]
        go_wp2_with (first
          | (go_at_call 16; refine (back_nil _ _).mono ?_; rintro e w1 ⟨rfl, rfl⟩)
          | (go_at_call 11; refine (few_any key wk _).mono ?_; rintro e w1 ⟨rfl, rfl⟩)
          | (go_at_call 17; refine (in_nil _ _).mono ?_; rintro e w1 ⟨rfl, rfl⟩)
          | (go_at_call 8; refine (N1.out _).mono ?_; rintro e w2 ⟨rfl, rfl⟩; have k2 : Keep (fun _ => False) w w := Keep.refl _ w)
          | (go_at_call 9; refine (awake_any _).mono ?_; rintro e w3 ⟨rfl, k3⟩)
          | (go_at_call 12; refine (keys_call _ _ _).mono ?_; rintro e w4 ⟨rfl, rfl⟩))
        obtain ⟨W5, hW5⟩ : ∃ W5, W5 = ((w3.alloc (.cells #[.int .i64 0] 3)).alloc (.cells #[.pointer none] 23)).alloc (.cells #[.int .i64 0] 3) := ⟨_, rfl⟩
        have k5 : Keep (fun _ => False) w3 W5 := by rw [hW5]; exact (((Keep.refl _ _).alloc _).alloc _).alloc _
        have hs5 : W5.heap.size = w3.heap.size + 3 := by rw [hW5]; simp
        have b8 : W5.heap[w3.heap.size]? = some (.cells #[.int .i64 0] 3 (0, 0)) := by rw [hW5]; exact block_alloc (block_alloc (block_new w3 _) _) _
        have br : W5.heap[w3.heap.size + 1]? = some (.cells #[.pointer none] 23 (0, 0)) := by rw [hW5]; exact block_alloc (block_new_at (by simp)) _
        have bl : W5.heap[w3.heap.size + 1 + 1]? = some (.cells #[.int .i64 0] 3 (0, 0)) := by rw [hW5]; exact block_new_at (by simp)
        have hst := keys_nil 4 (w3.heap.size + 1) (w3.heap.size + 1 + 1) (fun j => j < W5.heap.size ∧ j ≠ w3.heap.size) 0 W5 (by omega) (cell_at br 0) (cell_at bl 0) (by omega) (by omega)
        have kw : Keep (fun _ => False) w W5 := (k2.trans k3).trans k5
        have HST := Lib.hid hst
        have HW5 := Lib.hid hW5
        have KW := Lib.hid kw
        have B8 := Lib.hid b8
        have hws : w.heap.size ≤ w3.heap.size := (k2.trans k3).size
        clear hst hW5 k5 b8 br bl kw k2 k3
        rw [← HW5.out]
        refine wpIn_wide.1 (wpIn_rangeFunc_ownF (F := Fence.wide) (n := 5) rfl (by decide) (gf := 30) (lb := #[.pointer (some ⟨w3.heap.size + 1, 0, none⟩), .pointer (some ⟨w3.heap.size + 1 + 1, 0, none⟩)]) rfl trivial (enters_of Try.func30 (by kernel_rfl) rfl) HST.out (fun h k => Keep.trans h k) (Kq.b (Nat.le_refl _)) (Below.refl _ _) (fun _ => rfl)
          (fun pre W => (W.cell? ⟨w3.heap.size, 0, none⟩ = some (.int .i64 0) ∧ W.frozen? ⟨w3.heap.size, 0, none⟩ = false) ∧ Keep (fun j => j = w3.heap.size) W5 W)
          (fun c pre W => False)
          (fun s A B row hs hg hr => ⟨⟨cell_kept hs.1.1 hg (fun r e => (hr r e).2), (frozen_kept hs.1.1 hg (fun r e => (hr r e).2)).trans hs.1.2⟩, ownFrom_keep (β := Unit) (Nat.le_refl _) () A B row hs.2 hg hr⟩)
          (fun c s A B row hs hg hr => hs)
          ⟨⟨cell_at B8.out 0, free_at B8.out 0⟩, Keep.refl _ _⟩ ?a12 ?assign2 ?body2 ?done2 ?stop2)
        case assign2 =>
          intro l x W K0 hK0
          gi_wp2
          exact hK0
        case body2 =>
          rintro l pre x W hI hlen
          exact absurd hlen (by omega)
        case done2 =>
          rintro D ys W hD hys ⟨⟨hc, hf⟩, hk⟩ hdef
          have kall : Keep (fun _ => False) w (W.putObj D (.deferred none)) := (KW.out.then hk (fun q e => by omega)).then ((Keep.refl (fun q => q = D) W).grown (grownBy_putObj' W D _) (fun q e => .inl (by cases e; rfl))) (fun q e => by omega)
          have KALL := Lib.hid kall
          have HD := Lib.hid hdef
          clear hdef kall hk
          gi_wp2
          go_wp2_with (first
            | (go_at_call 11; refine (few_any key wk _).mono ?_; rintro e w1 ⟨rfl, rfl⟩)
            | (go_at_call 10; refine (front_nil _ _ _).mono ?_; rintro e w1 ⟨rfl, rfl⟩)
            | (go_at_call 15; refine (drop_nil _ _).mono ?_; rintro e w1 ⟨rfl, rfl⟩)
            | (go_at_call 13; refine (len_nil _ _).mono ?_; rintro e w1 ⟨rfl, rfl⟩)
            | (go_at_call 14; refine (free_nil _).mono ?_; rintro e w1 ⟨rfl, rfl⟩)
            | (go_at_call 18; refine (lists_nil _).mono ?_; rintro e w1 ⟨rfl, rfl⟩)
            | (go_at_call 19; refine (export_nil _).mono ?_; rintro e w1 ⟨rfl, rfl⟩))
          all_goals
            refine ⟨by simp, .inl ⟨_, _, rfl, run_takeDeferred HD.out, ?_⟩⟩
            exact ⟨_, results_tmp rfl _ _ _, by first | (simp; done) | (simp; omega), KALL.out.below0⟩
        case stop2 =>
          rintro D c pre W hD hpre h hdef
          exact h.elim
      · have N1 := Lib.hid (fun W => new_ok x y (by omega) (by omega) (by omega) W)
        have q1 : (1 : Int) ≤ (x : Int) := by omega
        have q2 : (x : Int) ≤ 8 := by omega
        have q3 : (y : Int) ≤ 4096 := by omega
        clear c1 c2 c3
        refine (callsIn_wide (n := 5)).1 (callsIn_of_wp_marks Try.func6 rfl trivial ?_ rfl)
        rw [wpIn_wide]
        simp only [Try.ntmps6, List.size_toArray, List.length_cons, List.length_nil, Nat.reduceAdd, Nat.reduceSub, Array.replicate_succ, Array.replicate_zero, List.push_toArray, List.append_toArray, List.nil_append, List.cons_append]
        go_wp2_with (first
          | (go_at_call 16; refine (back_nil _ _).mono ?_; rintro e w1 ⟨rfl, rfl⟩)
          | (go_at_call 11; refine (few_any key wk _).mono ?_; rintro e w1 ⟨rfl, rfl⟩)
          | (go_at_call 17; refine (in_nil _ _).mono ?_; rintro e w1 ⟨rfl, rfl⟩)
          | (go_at_call 8; refine (N1.out _).mono ?_; rintro e w2 ⟨b, F, rfl, r2, f2, g2, k2⟩; clear r2 f2 g2)
          | (go_at_call 9; refine (awake_any _).mono ?_; rintro e w3 ⟨rfl, k3⟩)
          | (go_at_call 12; refine (keys_call _ _ _).mono ?_; rintro e w4 ⟨rfl, rfl⟩))
        obtain ⟨W5, hW5⟩ : ∃ W5, W5 = ((w3.alloc (.cells #[.int .i64 0] 3)).alloc (.cells #[.pointer none] 23)).alloc (.cells #[.int .i64 0] 3) := ⟨_, rfl⟩
        have k5 : Keep (fun _ => False) w3 W5 := by rw [hW5]; exact (((Keep.refl _ _).alloc _).alloc _).alloc _
        have hs5 : W5.heap.size = w3.heap.size + 3 := by rw [hW5]; simp
        have b8 : W5.heap[w3.heap.size]? = some (.cells #[.int .i64 0] 3 (0, 0)) := by rw [hW5]; exact block_alloc (block_alloc (block_new w3 _) _) _
        have br : W5.heap[w3.heap.size + 1]? = some (.cells #[.pointer none] 23 (0, 0)) := by rw [hW5]; exact block_alloc (block_new_at (by simp)) _
        have bl : W5.heap[w3.heap.size + 1 + 1]? = some (.cells #[.int .i64 0] 3 (0, 0)) := by rw [hW5]; exact block_new_at (by simp)
        have hst := keys_nil 4 (w3.heap.size + 1) (w3.heap.size + 1 + 1) (fun j => j < W5.heap.size ∧ j ≠ w3.heap.size) 0 W5 (by omega) (cell_at br 0) (cell_at bl 0) (by omega) (by omega)
        have kw : Keep (fun _ => False) w W5 := (k2.trans k3).trans k5
        have HST := Lib.hid hst
        have HW5 := Lib.hid hW5
        have KW := Lib.hid kw
        have B8 := Lib.hid b8
        have hws : w.heap.size ≤ w3.heap.size := (k2.trans k3).size
        clear hst hW5 k5 b8 br bl kw k2 k3
        rw [← HW5.out]
        refine wpIn_wide.1 (wpIn_rangeFunc_ownF (F := Fence.wide) (n := 5) rfl (by decide) (gf := 30) (lb := #[.pointer (some ⟨w3.heap.size + 1, 0, none⟩), .pointer (some ⟨w3.heap.size + 1 + 1, 0, none⟩)]) rfl trivial (enters_of Try.func30 (by kernel_rfl) rfl) HST.out (fun h k => Keep.trans h k) (Kq.b (Nat.le_refl _)) (Below.refl _ _) (fun _ => rfl)
          (fun pre W => (W.cell? ⟨w3.heap.size, 0, none⟩ = some (.int .i64 0) ∧ W.frozen? ⟨w3.heap.size, 0, none⟩ = false) ∧ Keep (fun j => j = w3.heap.size) W5 W)
          (fun c pre W => False)
          (fun s A B row hs hg hr => ⟨⟨cell_kept hs.1.1 hg (fun r e => (hr r e).2), (frozen_kept hs.1.1 hg (fun r e => (hr r e).2)).trans hs.1.2⟩, ownFrom_keep (β := Unit) (Nat.le_refl _) () A B row hs.2 hg hr⟩)
          (fun c s A B row hs hg hr => hs)
          ⟨⟨cell_at B8.out 0, free_at B8.out 0⟩, Keep.refl _ _⟩ ?a13 ?assign3 ?body3 ?done3 ?stop3)
        case assign3 =>
          intro l x W K0 hK0
          gi_wp2
          exact hK0
        case body3 =>
          rintro l pre x W hI hlen
          exact absurd hlen (by omega)
        case done3 =>
          rintro D ys W hD hys ⟨⟨hc, hf⟩, hk⟩ hdef
          have kall : Keep (fun _ => False) w (W.putObj D (.deferred none)) := (KW.out.then hk (fun q e => by omega)).then ((Keep.refl (fun q => q = D) W).grown (grownBy_putObj' W D _) (fun q e => .inl (by cases e; rfl))) (fun q e => by omega)
          have KALL := Lib.hid kall
          have HD := Lib.hid hdef
          clear hdef kall hk
          gi_wp2
          go_wp2_with (first
            | (go_at_call 11; refine (few_any key wk _).mono ?_; rintro e w1 ⟨rfl, rfl⟩)
            | (go_at_call 10; refine (front_nil _ _ _).mono ?_; rintro e w1 ⟨rfl, rfl⟩)
            | (go_at_call 15; refine (drop_nil _ _).mono ?_; rintro e w1 ⟨rfl, rfl⟩)
            | (go_at_call 13; refine (len_nil _ _).mono ?_; rintro e w1 ⟨rfl, rfl⟩)
            | (go_at_call 14; refine (free_nil _).mono ?_; rintro e w1 ⟨rfl, rfl⟩)
            | (go_at_call 18; refine (lists_nil _).mono ?_; rintro e w1 ⟨rfl, rfl⟩)
            | (go_at_call 19; refine (export_nil _).mono ?_; rintro e w1 ⟨rfl, rfl⟩))
          all_goals
            refine ⟨by simp, .inl ⟨_, _, rfl, run_takeDeferred HD.out, ?_⟩⟩
            exact ⟨_, results_tmp rfl _ _ _, by first | (simp; done) | (simp; omega), KALL.out.below0⟩
        case stop3 =>
          rintro D c pre W hD hpre h hdef
          exact h.elim

end Go.Proofs.Ytcllfdplbefaeaa.RinX
