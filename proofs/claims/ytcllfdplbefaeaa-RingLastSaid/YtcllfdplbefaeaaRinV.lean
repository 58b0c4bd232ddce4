/-
  Layer 6 (ring): the law RingLast.
-/
import Derived.Test.YtcllfdplbefaeaaRinU
namespace Go.Proofs.Ytcllfdplbefaeaa.RinV
set_option linter.unusedVariables false
set_option linter.unusedSimpArgs false
open Go.RowKit Go.Shelf Go.Proofs.Ytcllfdplbefaeaa.Mem Go.Proofs.Ytcllfdplbefaeaa.RinM Go.Proofs.Ytcllfdplbefaeaa.RinP Go.Proofs.Ytcllfdplbefaeaa.RinW Go.Proofs.Ytcllfdplbefaeaa.RinL Go.Proofs.Ytcllfdplbefaeaa.RinF Go.Proofs.Ytcllfdplbefaeaa.RinG Go.Proofs.Ytcllfdplbefaeaa.RinH Go.Proofs.Ytcllfdplbefaeaa.RinD Go.Proofs.Ytcllfdplbefaeaa.RinN Go.Proofs.Ytcllfdplbefaeaa.RinA Go.Proofs.Ytcllfdplbefaeaa.RinK Go.Proofs.Ytcllfdplbefaeaa.Mask Go.Proofs.Ytcllfdplbefaeaa.Open Go.Proofs.Ytcllfdplbefaeaa.RinT Go.Proofs.Ytcllfdplbefaeaa.RinU
attribute [local go_sem] Oper.semAt_some

set_option maxHeartbeats 16000000 in
set_option maxRecDepth 100000 in
theorem ringLast_walk (v : Value) (w : World) (hv : ∃ zs, Texts w v zs) :
    Calls Try.prog 4 #[v] w fun e w' => e = .returned (.bool true) ∧ Below w.heap.size w w' := by
  obtain ⟨zs, hz⟩ := hv
  obtain ⟨ao, cap, rfl, hlen, hcs⟩ := texts_form hz
  have HZ := Lib.hid hz.2
  have HCS := Lib.hid hcs
  clear hz hcs
  generalize hlz : zs.length = len at *
  have HLZ := Lib.hid hlz
  clear hlz
  obtain ⟨i0, hi, hz0, hz1, hz2⟩ := info_parts infoStr
  have N1 := Lib.hid (new_ok 1 100 (by omega) (by omega) (by omega) w)
  refine (callsIn_wide (n := 5)).1 (callsIn_of_wp_marks Try.func4 rfl trivial ?_ rfl)
  rw [wpIn_wide]
  simp only [Try.ntmps4, List.size_toArray, List.length_cons, List.length_nil, Nat.reduceAdd, Nat.reduceSub, Array.replicate_succ, Array.replicate_zero, List.push_toArray, List.append_toArray, List.nil_append, List.cons_append]
  go_wp2_with (first
    | (go_at_call 8; refine N1.out.mono ?_; rintro e w2 ⟨b, F, rfl, r2, f2, g2, k2⟩; replace r2 := Lib.hid r2; replace f2 := Lib.hid f2; replace g2 := Lib.hid g2; replace k2 := Lib.hid k2)
    | (go_at_call 9; refine (awake_any _).mono ?_; rintro e w3 ⟨rfl, k3⟩; replace k3 := Lib.hid k3))
  go_loopw [6] (fun xi wr => ∃ (i T : Nat) (ls : List ByteArray) (v : Value), i ≤ len ∧ i ≤ 60 ∧ ls.length ≤ i ∧ T ≤ 100 + i ∧ xi = .int .i64 (i : Int) ∧ Hid (LAt w wr F b (w3.heap.size + 1) T ls v)) (fun xi wr => 60 - (intOf xi).toNat)
  case atStart =>
    refine ⟨0, 0, [], .slice (some ⟨w3.heap.size, 0, none⟩) 0 0, by omega, by omega, Nat.le_refl _, by omega, rfl, Lib.hid ?_⟩
    have kk : Keep (fun _ => False) w3 ((w3.alloc (.cells #[] 9)).alloc (.cells #[.slice (some ⟨w3.heap.size, 0, none⟩) 0 0] 22)) := ((Keep.refl _ _).alloc _).alloc _
    have s3 := k3.out.size
    have s2 := k2.out.size
    refine ⟨(r2.out.keep0 k3.out).keep0 kk, block_new_at (by simp), ⟨rfl, .inr ⟨w3.heap.size, 0, #[], rfl, Nat.zero_le _, block_alloc (block_new w3 _) _, Nat.le_refl _, by unfold maxLen; omega, rfl, rfl⟩⟩, fun e => ?_, fun i hi => ?_, g2.out, by omega, (k2.out.trans k3.out).trans kk⟩
    · have := f2.out _ e; omega
    · simp [Value.ownBlock] at hi
      subst hi
      exact ⟨fun e => by have := f2.out _ e; omega, by omega, by omega⟩
  case round =>
    obtain ⟨i, T, ls, v, hi1, hi60, hli, hT, rfl, hL⟩ := hrel
    have hsz := hL.out.keep.size
    by_cases hlt : i < len ∧ i < 60
    · obtain ⟨hlt, hlt2⟩ := hlt
      obtain ⟨z, hz⟩ : ∃ z, zs[i]? = some z := ⟨zs[i]'(by have := HLZ.out; omega), List.getElem?_eq_getElem _⟩
      have hz9 := HZ.out z (List.mem_of_getElem? hz)
      rcases HCS.out with h0 | ⟨g, off, rfl, hg, hcell⟩
      · rw [h0] at hz; simp at hz
      have cz : wr.cell? ⟨g, off + i, none⟩ = some (.string z) := (hL.out.keep.cell (p := ⟨g, _, none⟩) hg (fun e => e)).trans (hcell i z hz)
      obtain ⟨x, hx⟩ : ∃ x, x = fewS z := ⟨_, rfl⟩
      have HX := Lib.hid hx
      clear hz hcell hg
      by_cases h64 : 64 < x.size
      · have h64' : (64 : Int) < (x.size : Int) := by omega
        clear hx
        go_wp2_with (go_at_call 11; refine (few_any z hz9 _).mono ?_; rintro e w4 ⟨rfl, rfl⟩; rw [← HX.out])
        go_roundw
        case rel => exact ⟨i + 1, T, ls, v, by omega, by omega, by omega, by omega, by go_num, hL⟩
        case measure => simp [intOf]; omega
      · have h64' : ¬ (64 : Int) < (x.size : Int) := by omega
        have T1 := Lib.hid (front_any hL.out.ring (by omega) 0 x)
        rw [front_last x ls (by omega) (by omega)] at T1
        clear hx
        go_wp2_with (first
          | (go_at_call 11; refine (few_any z hz9 _).mono ?_; rintro e w4 ⟨rfl, rfl⟩; rw [← HX.out])
          | (go_at_call 10; refine T1.out.mono ?_; clear T1; rintro e w4 ⟨rfl, r4, k4⟩; replace r4 := Lib.hid r4; replace k4 := Lib.hid k4))
        have hboxr := lt_of_block hL.out.box
        have hbox4 := (k4.out.block _ hboxr hL.out.nB).trans hL.out.box
        have hrow4 := owns_keep hL.out.row k4.out (fun q e => (hL.out.nv q e).1)
        obtain ⟨bo, bc, hv, hrow⟩ := row_strs hrow4
        rw [hv] at hbox4
        have HRW := Lib.hid hrow
        have hlx : ls.length ≤ 60 := by omega
        have HB4 := Lib.hid hbox4
        have HR4 := Lib.hid hrow4
        have HV := Lib.hid hv
        have hs4 := k4.out.size
        clear hbox4 hrow4 hv hrow
        go_loopw [8, 9] (fun x8 xj wq => ∃ (j : Nat) (v8 : Value), j ≤ ls.length ∧ x8 = v8 ∧ xj = .int .i64 (j : Int) ∧ Hid (wq.ownsRow 0 TStr 1 v8 (upto x ls j).length (strs (upto x ls j))) ∧ Hid (∀ q, v8.ownBlock = some q → w4.heap.size ≤ q) ∧ Hid (Keep (fun _ => False) w4 wq)) (fun x8 xj wq => ls.length - (intOf xj).toNat)
        case atStart =>
          refine ⟨0, _, by omega, rfl, rfl, Lib.hid ⟨rfl, .inr ⟨w4.heap.size, 1, _, rfl, Nat.zero_le _, block_new w4 _, Nat.le_refl _, by unfold maxLen; omega, rfl, rfl⟩⟩, Lib.hid (fun q e => ?_), Lib.hid ((Keep.refl _ w4).alloc _)⟩
          simp [Value.ownBlock] at e
          omega
        case round =>
          obtain ⟨j, v8, hj, rfl, rfl, hr8, hn8, hk8⟩ := hrel
          have hbx := (hk8.out.block _ (lt_of_block HB4.out) (fun e => e)).trans HB4.out
          have cb : wr.cell? ⟨w3.heap.size + 1, 0, none⟩ = some (.slice bo ls.length bc) := cell_at hbx 0
          by_cases hlj : j < ls.length
          · obtain ⟨y, hy⟩ : ∃ y, ls[j]? = some y := ⟨ls[j], List.getElem?_eq_getElem hlj⟩
            rcases HRW.out with h0 | ⟨g, rfl, hgo, hg, hcell⟩
            · rw [h0] at hy; simp at hy
            have cy : wr.cell? ⟨g, j, none⟩ = some (.string y) := (hk8.out.cell (p := ⟨g, j, none⟩) hg (fun e => e)).trans (hcell j y hy)
            by_cases hyx : y = x
            · have hq : (y.toList == x.toList) = true := by rw [eq_bytes]; exact decide_eq_true hyx
              have hus := upto_skip x ls j (by rw [hy, hyx])
              have HUS := Lib.hid hus
              clear hyx hy hus hgo hcell hbx
              go_wp2_with fail
              go_roundw
              case rel => exact ⟨j + 1, _, by omega, rfl, by go_num, Lib.hid (by rw [HUS.out]; exact hr8.out), hn8, hk8⟩
              case measure => simp [intOf]; omega
            · have hq : (y.toList == x.toList) = false := by rw [eq_bytes]; exact decide_eq_false hyx
              have hup := upto_put x y ls j hy hyx
              have hul : (upto x ls j).length ≤ 100 := by
                have h1 := nxt_len x (ls.take j)
                have h2 : (ls.take j).length ≤ ls.length := by rw [List.length_take]; omega
                unfold upto
                omega
              obtain ⟨ao8, cp8, hv8⟩ := owns_slice hr8.out
              have HV8 := Lib.hid hv8
              have ow : ∀ o, (wr.alloc o).ownsRow 0 9 1 (.slice ao8 (upto x ls j).length cp8) (upto x ls j).length (strs (upto x ls j)) := fun o => by rw [← hv8]; exact hr8.out.alloc o
              subst hv8
              generalize hm : (upto x ls j).length = m at *
              have nw : ∀ q u, [Value.string y][q]? = some u → (wr.alloc (.cells #[.string y] 9)).cell? ((⟨wr.heap.size, 0, none⟩ : Addr).add q) = some u := World.news_of_block (block_new wr _)
              have on1 : ∀ u ∈ ([.string y] : List Value), u.oneCell' = true := by simp [Value.oneCell']
              have How := Lib.hid ow
              have Hon := Lib.hid on1
              have Hnw := Lib.hid nw
              have HUP := Lib.hid hup
              have HM := Lib.hid hm
              have hs8 := hk8.out.size
              clear ow nw on1 hup hm hyx hy hgo hcell hbx
              go_wp2_with (at_builtin; refine wpList_append_lies _ rfl (.tmp 59) (.tmp 64) 22 rfl 0 9 i0 _ 1 16 Try.underlying22 hi hz0 hz1 hz2 rfl (by decide) (.slice ao8 m cp8) m (strs (upto x ls j)) rfl (How.out _) ⟨wr.heap.size, 0, none⟩ 1 1 [.string y] rfl rfl Hnw.out Hon.out (by decide) (by unfold maxLen; omega) (by omega) (Nat.zero_le _) _ rfl ?_; intro g' cq w6 hown6 hgrow hat hlt6
                           have HO6 := Lib.hid hown6
                           have HG6 := Lib.hid hgrow
                           have HA6 := Lib.hid hat
                           clear hown6 hgrow hat)
              have k6 : Keep (fun _ => False) w4 w6 := hk8.out.then (((Keep.refl _ wr).alloc _).grown HG6.out (fun q e => .inl e)) hn8.out
              have K6 := Lib.hid k6
              clear k6
              go_roundw
              case rel =>
                refine ⟨j + 1, _, by omega, rfl, by go_num, Lib.hid ?_, Lib.hid ?_, K6⟩
                · rw [HUP.out, List.length_append, HM.out]
                  have e : strs (upto x ls j ++ [y]) = strs (upto x ls j) ++ [.string y] := by simp [strs]
                  rw [e]
                  exact HO6.out
                · intro q e
                  simp [Value.ownBlock] at e
                  subst e
                  rcases HA6.out with e | e
                  · exact hn8.out _ e
                  · simp at e; omega
              case measure => simp [intOf]; omega
          · obtain rfl : j = ls.length := by omega
            have hlL := hL.out
            have k84 : Keep (fun _ => False) w4 wr := hk8.out
            have hrw : Ring wr F b 1 100 (T + 1) [nxt x ls] := r4.out.keep0 k84
            have hfin : upto x ls ls.length = nxt x ls := by unfold upto; rw [List.take_length]
            have hn8' := hn8.out
            have hr8' := hr8.out
            rw [hfin] at hr8'
            obtain ⟨ao8, cp8, hv8⟩ := owns_slice hr8'
            subst hv8
            have fb := free_at hbx 0
            have hnl := nxt_len x ls
            have HBX := Lib.hid hbx
            have HRW2 := Lib.hid hrw
            have HR8 := Lib.hid hr8'
            have HLL := Lib.hid hlL
            clear hbx hrw hr8' hfin hr8 hlL
            go_wp2_with fail
            go_roundw
            case rel =>
              have hl := HLL.out
              have kB : Keep (fun q => q = w3.heap.size + 1) wr (wr.setCell ⟨w3.heap.size + 1, 0, none⟩ (.slice ao8 (nxt x ls).length cp8)) := (Keep.refl _ wr).set1 _ _
              have hnn : ∀ q, (Value.slice ao8 (nxt x ls).length cp8).ownBlock = some q → ¬ F q ∧ q ≠ w3.heap.size + 1 ∧ w.heap.size ≤ q := fun q e => by
                have e1 := hn8' q e
                have e2 : w.heap.size ≤ w4.heap.size := by have := hl.keep.size; omega
                refine ⟨fun e3 => ?_, fun e3 => ?_, by omega⟩
                · have := f2.out q e3
                  have := k3.out.size
                  have := lt_of_block hl.box
                  omega
                · have := lt_of_block hl.box
                  omega
              refine ⟨i + 1, T + 1, nxt x ls, .slice ao8 (nxt x ls).length cp8, by omega, by omega, by omega, by omega, by go_num, Lib.hid ⟨HRW2.out.keep kB (fun q hq e => hl.nB (by rw [← e]; exact hq)), (block_set HBX.out 0 _).trans rfl, owns_keep HR8.out kB (fun q e e2 => (hnn q e).2.1 e2), hl.nB, hnn, hl.hF, hl.hB, ((hl.keep.then k4.out hl.hF).trans k84).then kB (fun q e => by rw [e]; exact hl.hB)⟩⟩
            case measure => simp [intOf]; omega
    · have hge : ¬ i < len ∨ (i < len ∧ ¬ i < 60) := by omega
      obtain ⟨W5, hW5⟩ : ∃ W5, W5 = (((wr.alloc (.cells #[.int .i64 0] 3)).alloc (.cells #[.bool true] 4)).alloc (.cells #[.pointer (some ⟨b, 0, none⟩)] 23)).alloc (.cells #[.int .i64 0] 3) := ⟨_, rfl⟩
      have k5 : Keep (fun _ => False) wr W5 := by rw [hW5]; exact ((((Keep.refl _ _).alloc _).alloc _).alloc _).alloc _
      have hs5 : W5.heap.size = wr.heap.size + 4 := by rw [hW5]; simp
      have b8 : W5.heap[wr.heap.size]? = some (.cells #[.int .i64 0] 3 (0, 0)) := by rw [hW5]; exact block_alloc (block_alloc (block_alloc (block_new wr _) _) _) _
      have b9 : W5.heap[wr.heap.size + 1]? = some (.cells #[.bool true] 4 (0, 0)) := by rw [hW5]; exact block_alloc (block_alloc (block_new_at (by simp)) _) _
      have br : W5.heap[wr.heap.size + 1 + 1]? = some (.cells #[.pointer (some ⟨b, 0, none⟩)] 23 (0, 0)) := by rw [hW5]; exact block_alloc (block_new_at (by simp)) _
      have bl : W5.heap[wr.heap.size + 1 + 1 + 1]? = some (.cells #[.int .i64 0] 3 (0, 0)) := by rw [hW5]; exact block_new_at (by simp)
      have r5 := hL.out.ring.tight.keep0 k5
      have hst := keys_stops 4 b 1 100 T 0 (wr.heap.size + 1 + 1) (wr.heap.size + 1 + 1 + 1) [ls] ls _ (fun j => j < W5.heap.size ∧ j ≠ wr.heap.size ∧ j ≠ wr.heap.size + 1) W5 (by omega) r5 rfl (cell_at br 0) (cell_at bl 0) (fun j hj => by have := hj.2; omega) (by omega) (by omega) (by omega) (by omega)
      obtain ⟨bo, bc, hv, hrow⟩ := row_strs hL.out.row
      have hbx := (k5.block _ (lt_of_block hL.out.box) (fun e => e)).trans hL.out.box
      rw [hv] at hbx
      have HBL := Lib.hid (lt_of_block hL.out.box)
      have HST := Lib.hid hst
      have HW5 := Lib.hid hW5
      have K5 := Lib.hid k5
      have HBX := Lib.hid hbx
      have HRW := Lib.hid hrow
      have B8 := Lib.hid b8
      have B9 := Lib.hid b9
      clear hst hW5 k5 r5 b8 b9 br bl hbx hrow hv
      rcases hge with hge | ⟨hge0, hge⟩
      · go_wp2_with (go_at_call 12; refine (keys_call _ _ _).mono ?_; rintro e w4 ⟨rfl, rfl⟩)
        rw [← HW5.out]
        refine wpIn_wide.1 (wpIn_rangeFunc_ownF (F := Fence.wide) (n := 5) rfl (by decide) (gf := 30) (lb := #[.pointer (some ⟨wr.heap.size + 1 + 1, 0, none⟩), .pointer (some ⟨wr.heap.size + 1 + 1 + 1, 0, none⟩)]) rfl trivial (enters_of Try.func30 (by kernel_rfl) rfl) HST.out (fun h k => Keep.trans h k) (Kq.b (Nat.le_refl _)) (Below.refl _ _) (fun _ => rfl)
          (fun pre W => (W.cell? ⟨wr.heap.size, 0, none⟩ = some (.int .i64 (pre.length : Int)) ∧ W.frozen? ⟨wr.heap.size, 0, none⟩ = false) ∧ (W.cell? ⟨wr.heap.size + 1, 0, none⟩ = some (.bool (okB ls pre)) ∧ W.frozen? ⟨wr.heap.size + 1, 0, none⟩ = false) ∧ Keep (fun j => j = wr.heap.size ∨ j = wr.heap.size + 1) W5 W ∧ pre.length ≤ ls.length)
          (fun c pre W => False)
          (fun s A B row hs hg hr => ⟨⟨cell_kept hs.1.1 hg (fun r e => (hr r e).2), (frozen_kept hs.1.1 hg (fun r e => (hr r e).2)).trans hs.1.2⟩, ⟨cell_kept hs.2.1.1 hg (fun r e => (hr r e).2), (frozen_kept hs.2.1.1 hg (fun r e => (hr r e).2)).trans hs.2.1.2⟩, ownFrom_keep (β := Unit) (Nat.le_refl _) () A B row hs.2.2.1 hg hr, hs.2.2.2⟩)
          (fun c s A B row hs hg hr => hs)
          ⟨⟨cell_at B8.out 0, free_at B8.out 0⟩, ⟨cell_at B9.out 0, free_at B9.out 0⟩, Keep.refl _ _, Nat.zero_le _⟩ ?a1A ?assignA ?bodyA ?doneA ?stopA)
        case assignA =>
          intro l x W K0 hK0
          gi_wp2
          exact hK0
        case bodyA =>
          rintro l pre x W ⟨⟨hc, hf⟩, ⟨hc2, hf2⟩, hk, hp⟩ hlen
          obtain ⟨y, hy⟩ : ∃ y, ls[pre.length]? = some y := ⟨ls[pre.length], List.getElem?_eq_getElem hlen⟩
          rcases HRW.out with h0 | ⟨g, rfl, hgo, hg, hcell⟩
          · rw [h0] at hy; simp at hy
          have ne1 : g ≠ wr.heap.size ∧ g ≠ wr.heap.size + 1 := by omega
          have cb : W.cell? ⟨w3.heap.size + 1, 0, none⟩ = some (.slice (some ⟨g, 0, none⟩) ls.length bc) := (hk.cell (p := ⟨w3.heap.size + 1, 0, none⟩) (lt_of_block HBX.out) (fun e => by have := HBL.out; simp at e; omega)).trans (cell_at HBX.out 0)
          have cy : W.cell? ⟨g, pre.length, none⟩ = some (.string y) := (hk.cell (p := ⟨g, pre.length, none⟩) (by have := K5.out.size; show g < _; omega) (fun e => by simp at e; omega)).trans ((K5.out.cell (p := ⟨g, pre.length, none⟩) hg (fun e => e)).trans (hcell _ y hy))
          have hb9 : pre.length ≤ 100 := by omega
          have hln : (pre.length : Int) < (ls.length : Int) := by omega
          have hls9 : ls.length ≤ 100 := by omega
          have hstep := okB_step ls pre x y hy
          have hxy := eq_bytes y x
          have HSTEP := Lib.hid hstep
          generalize hob : okB ls pre = ob at *
          replace hob := Lib.hid hob
          have g1 : ∀ u, (W.setCell ⟨wr.heap.size + 1, 0, none⟩ u).cell? ⟨wr.heap.size, 0, none⟩ = some (.int .i64 (pre.length : Int)) := fun u => by
            rw [World.cell?_setCell_other _ _ _ _ (by intro e; injection e; omega)]; exact hc
          clear hstep hy hcell hgo
          cases ob with
          | false =>
            gi_wp2
            exact round_close false hc hf hc2 hf2 hk hlen HSTEP.out
          | true =>
            by_cases hyx : y = x
            · have hq : (y.toList == x.toList) = true := by rw [hxy]; exact decide_eq_true hyx
              clear hxy
              gi_wp2
              exact round_close true hc hf hc2 hf2 hk hlen (by rw [HSTEP.out, decide_eq_true hyx]; rfl)
            · have hq : (y.toList == x.toList) = false := by rw [hxy]; exact decide_eq_false hyx
              clear hxy
              gi_wp2
              exact round_close false hc hf hc2 hf2 hk hlen (by rw [HSTEP.out, decide_eq_false hyx]; rfl)
        case doneA =>
          rintro D ys W hD hys ⟨⟨hc, hf⟩, ⟨hc2, hf2⟩, hk, hp⟩ hdef
          rw [hys] at hc hc2
          rw [okB_all] at hc2
          have cb : W.cell? ⟨w3.heap.size + 1, 0, none⟩ = some (.slice bo ls.length bc) := (hk.cell (p := ⟨w3.heap.size + 1, 0, none⟩) (lt_of_block HBX.out) (fun e => by have := HBL.out; simp at e; omega)).trans (cell_at HBX.out 0)
          have kall : Keep (fun _ => False) w (W.putObj D (.deferred none)) := (((hL.out.keep.trans K5.out).then hk (fun q e => by omega)).then ((Keep.refl (fun q => q = D) W).grown (grownBy_putObj' W D _) (fun q e => .inl (by cases e; rfl))) (fun q e => by omega))
          have KALL := Lib.hid kall
          have HD := Lib.hid hdef
          clear hdef kall
          gi_wp2
          go_wp2_with fail
          refine ⟨by simp, .inl ⟨_, _, rfl, run_takeDeferred HD.out, ?_⟩⟩
          exact ⟨_, results_tmp rfl _ _ _, by simp, KALL.out.below0⟩
        case stopA =>
          rintro D c pre W hD hpre h hdef
          exact h.elim
      · go_wp2_with (go_at_call 12; refine (keys_call _ _ _).mono ?_; rintro e w4 ⟨rfl, rfl⟩)
        rw [← HW5.out]
        refine wpIn_wide.1 (wpIn_rangeFunc_ownF (F := Fence.wide) (n := 5) rfl (by decide) (gf := 30) (lb := #[.pointer (some ⟨wr.heap.size + 1 + 1, 0, none⟩), .pointer (some ⟨wr.heap.size + 1 + 1 + 1, 0, none⟩)]) rfl trivial (enters_of Try.func30 (by kernel_rfl) rfl) HST.out (fun h k => Keep.trans h k) (Kq.b (Nat.le_refl _)) (Below.refl _ _) (fun _ => rfl)
          (fun pre W => (W.cell? ⟨wr.heap.size, 0, none⟩ = some (.int .i64 (pre.length : Int)) ∧ W.frozen? ⟨wr.heap.size, 0, none⟩ = false) ∧ (W.cell? ⟨wr.heap.size + 1, 0, none⟩ = some (.bool (okB ls pre)) ∧ W.frozen? ⟨wr.heap.size + 1, 0, none⟩ = false) ∧ Keep (fun j => j = wr.heap.size ∨ j = wr.heap.size + 1) W5 W ∧ pre.length ≤ ls.length)
          (fun c pre W => False)
          (fun s A B row hs hg hr => ⟨⟨cell_kept hs.1.1 hg (fun r e => (hr r e).2), (frozen_kept hs.1.1 hg (fun r e => (hr r e).2)).trans hs.1.2⟩, ⟨cell_kept hs.2.1.1 hg (fun r e => (hr r e).2), (frozen_kept hs.2.1.1 hg (fun r e => (hr r e).2)).trans hs.2.1.2⟩, ownFrom_keep (β := Unit) (Nat.le_refl _) () A B row hs.2.2.1 hg hr, hs.2.2.2⟩)
          (fun c s A B row hs hg hr => hs)
          ⟨⟨cell_at B8.out 0, free_at B8.out 0⟩, ⟨cell_at B9.out 0, free_at B9.out 0⟩, Keep.refl _ _, Nat.zero_le _⟩ ?a1B ?assignB ?bodyB ?doneB ?stopB)
        case assignB =>
          intro l x W K0 hK0
          gi_wp2
          exact hK0
        case bodyB =>
          rintro l pre x W ⟨⟨hc, hf⟩, ⟨hc2, hf2⟩, hk, hp⟩ hlen
          obtain ⟨y, hy⟩ : ∃ y, ls[pre.length]? = some y := ⟨ls[pre.length], List.getElem?_eq_getElem hlen⟩
          rcases HRW.out with h0 | ⟨g, rfl, hgo, hg, hcell⟩
          · rw [h0] at hy; simp at hy
          have ne1 : g ≠ wr.heap.size ∧ g ≠ wr.heap.size + 1 := by omega
          have cb : W.cell? ⟨w3.heap.size + 1, 0, none⟩ = some (.slice (some ⟨g, 0, none⟩) ls.length bc) := (hk.cell (p := ⟨w3.heap.size + 1, 0, none⟩) (lt_of_block HBX.out) (fun e => by have := HBL.out; simp at e; omega)).trans (cell_at HBX.out 0)
          have cy : W.cell? ⟨g, pre.length, none⟩ = some (.string y) := (hk.cell (p := ⟨g, pre.length, none⟩) (by have := K5.out.size; show g < _; omega) (fun e => by simp at e; omega)).trans ((K5.out.cell (p := ⟨g, pre.length, none⟩) hg (fun e => e)).trans (hcell _ y hy))
          have hb9 : pre.length ≤ 100 := by omega
          have hln : (pre.length : Int) < (ls.length : Int) := by omega
          have hls9 : ls.length ≤ 100 := by omega
          have hstep := okB_step ls pre x y hy
          have hxy := eq_bytes y x
          have HSTEP := Lib.hid hstep
          generalize hob : okB ls pre = ob at *
          replace hob := Lib.hid hob
          have g1 : ∀ u, (W.setCell ⟨wr.heap.size + 1, 0, none⟩ u).cell? ⟨wr.heap.size, 0, none⟩ = some (.int .i64 (pre.length : Int)) := fun u => by
            rw [World.cell?_setCell_other _ _ _ _ (by intro e; injection e; omega)]; exact hc
          clear hstep hy hcell hgo
          cases ob with
          | false =>
            gi_wp2
            exact round_close false hc hf hc2 hf2 hk hlen HSTEP.out
          | true =>
            by_cases hyx : y = x
            · have hq : (y.toList == x.toList) = true := by rw [hxy]; exact decide_eq_true hyx
              clear hxy
              gi_wp2
              exact round_close true hc hf hc2 hf2 hk hlen (by rw [HSTEP.out, decide_eq_true hyx]; rfl)
            · have hq : (y.toList == x.toList) = false := by rw [hxy]; exact decide_eq_false hyx
              clear hxy
              gi_wp2
              exact round_close false hc hf hc2 hf2 hk hlen (by rw [HSTEP.out, decide_eq_false hyx]; rfl)
        case doneB =>
          rintro D ys W hD hys ⟨⟨hc, hf⟩, ⟨hc2, hf2⟩, hk, hp⟩ hdef
          rw [hys] at hc hc2
          rw [okB_all] at hc2
          have cb : W.cell? ⟨w3.heap.size + 1, 0, none⟩ = some (.slice bo ls.length bc) := (hk.cell (p := ⟨w3.heap.size + 1, 0, none⟩) (lt_of_block HBX.out) (fun e => by have := HBL.out; simp at e; omega)).trans (cell_at HBX.out 0)
          have kall : Keep (fun _ => False) w (W.putObj D (.deferred none)) := (((hL.out.keep.trans K5.out).then hk (fun q e => by omega)).then ((Keep.refl (fun q => q = D) W).grown (grownBy_putObj' W D _) (fun q e => .inl (by cases e; rfl))) (fun q e => by omega))
          have KALL := Lib.hid kall
          have HD := Lib.hid hdef
          clear hdef kall
          gi_wp2
          go_wp2_with fail
          refine ⟨by simp, .inl ⟨_, _, rfl, run_takeDeferred HD.out, ?_⟩⟩
          exact ⟨_, results_tmp rfl _ _ _, by simp, KALL.out.below0⟩
        case stopB =>
          rintro D c pre W hD hpre h hdef
          exact h.elim

end Go.Proofs.Ytcllfdplbefaeaa.RinV
