/-
  Layer 6 (ring): the law RingStops.
-/
import Derived.Test.YtcllfdplbefaeaaRinK
import Derived.Test.YtcllfdplbefaeaaMask
import Derived.Test.YtcllfdplbefaeaaOpen
namespace Go.Proofs.Ytcllfdplbefaeaa.RinT
set_option linter.unusedVariables false
set_option linter.unusedSimpArgs false
open Go.RowKit Go.Shelf Go.Proofs.Ytcllfdplbefaeaa.Mem Go.Proofs.Ytcllfdplbefaeaa.RinM Go.Proofs.Ytcllfdplbefaeaa.RinP Go.Proofs.Ytcllfdplbefaeaa.RinW Go.Proofs.Ytcllfdplbefaeaa.RinL Go.Proofs.Ytcllfdplbefaeaa.RinF Go.Proofs.Ytcllfdplbefaeaa.RinG Go.Proofs.Ytcllfdplbefaeaa.RinH Go.Proofs.Ytcllfdplbefaeaa.RinD Go.Proofs.Ytcllfdplbefaeaa.RinN Go.Proofs.Ytcllfdplbefaeaa.RinA Go.Proofs.Ytcllfdplbefaeaa.RinK Go.Proofs.Ytcllfdplbefaeaa.Mask Go.Proofs.Ytcllfdplbefaeaa.Open
attribute [local go_sem] Oper.semAt_some

theorem texts_form {W : World} {v : Value} {zs : List ByteArray} (h : Texts W v zs) :
    ∃ ao cap, v = .slice ao zs.length cap ∧ zs.length ≤ 9223372036854775807 ∧ (zs = [] ∨ ∃ g off, ao = some ⟨g, off, none⟩ ∧ g < W.heap.size ∧ ∀ (i : Nat) (z : ByteArray), zs[i]? = some z → W.cell? ⟨g, off + i, none⟩ = some (.string z)) := by
  obtain ⟨⟨ao, cap, h1, h2, h3, h4⟩, h5⟩ := h
  rw [List.length_map] at h1 h2
  refine ⟨ao, cap, h1, h2, ?_⟩
  rcases h4 with h4 | ⟨g, off, h6, h7, h8⟩
  · exact .inl (by simpa using h4)
  · refine .inr ⟨g, off, h6, h7, fun i z hz => ?_⟩
    have := h8 i [.string z] (by rw [List.getElem?_map, hz]; rfl) 0 (.string z) rfl
    simpa using this

theorem keys_call (o : Option Addr) (i : Int) (w : World) : Calls Try.prog 12 #[.pointer o, .int .i64 i] w fun e w' => e = .returned (.func (.func 30) #[] #[.pointer (some ⟨w.heap.size, 0, none⟩), .pointer (some ⟨w.heap.size + 1, 0, none⟩)]) ∧ w' = (w.alloc (.cells #[.pointer o] 23)).alloc (.cells #[.int .i64 i] 3) := by
  go_enter Try.func12, Try.ntmps12
  go_wp2_with fail
  go_ret
  exact ⟨rfl, rfl⟩

theorem ownFrom_keep {β : Type} {S : Nat → Prop} {B : Nat} {w₀ : World} (hB : w₀.heap.size ≤ B) : OwnFrom B (fun (_ : β) W => Keep S w₀ W) :=
  fun _ _ _ _ hs hg hr => hs.grown hg (fun k e => .inr (Nat.le_trans hB (hr k e).1))
/-- What a round keeps: all that lay when the loop began, but a block. -/
def Kp (B c : Nat) (W W' : World) : Prop := Keep (fun j => ¬ (j < B ∧ j ≠ c)) W W'
theorem Kp.t {B c : Nat} {A D E : World} (h : Kp B c A D) (k : Kp B c D E) : Kp B c A E := h.trans k
theorem Kp.b {B c : Nat} {w : World} (hB : B ≤ w.heap.size) (W : World) (l : Nat) (o o' : Obj) (hl : w.heap.size ≤ l) (h : W.heap[l]? = some o) (_ : o.isCells = false) (_ : o.isWalk = false) : Kp B c W (W.putObj l o') :=
  (Keep.refl _ W).grown (grownBy_putObj' W l o') (fun k e => .inl (by cases e; omega))

set_option maxHeartbeats 8000000 in
set_option maxRecDepth 100000 in
theorem ringStops_walk (v : Value) (n : Int) (w : World) (hv : ∃ zs, Texts w v zs) (wn : (Lit.int .i64 n).wf = true) :
    Calls Try.prog 3 #[v, .int .i64 n] w fun e w' => e = .returned (.bool true) ∧ Below w.heap.size w w' := by
  obtain ⟨m, hm, hm2, -⟩ := i64_and n 5 (by omega)
  have hm' : bits .and .i64 n 31 = (m : Int) := hm
  have hm32 : m < 32 := hm2
  clear hm hm2
  obtain ⟨zs, hz⟩ := hv
  obtain ⟨ao, cap, rfl, hlen, hcs⟩ := texts_form hz
  have HZ := Lib.hid hz.2
  have HCS := Lib.hid hcs
  clear hz hcs
  generalize hlz : zs.length = len at *
  have HLZ := Lib.hid hlz
  clear hlz
  obtain ⟨W1, hW1⟩ : ∃ W1, W1 = w.alloc (.cells #[.int .i64 n] 3) := ⟨_, rfl⟩
  have k1 : Keep (fun _ => False) w W1 := by rw [hW1]; exact (Keep.refl _ w).alloc _
  have b3 : W1.heap[w.heap.size]? = some (.cells #[.int .i64 n] 3 (0, 0)) := by rw [hW1]; exact block_new w _
  have N1 := Lib.hid (new_ok 1 40 (by omega) (by omega) (by omega) W1)
  have HW1 := Lib.hid hW1
  have K1 := Lib.hid k1
  have B3 := Lib.hid b3
  clear hW1 k1 b3
  refine (callsIn_wide (n := 5)).1 (callsIn_of_wp_marks Try.func3 rfl trivial ?_ rfl)
  rw [wpIn_wide]
  simp only [Try.ntmps3, List.size_toArray, List.length_cons, List.length_nil, Nat.reduceAdd, Nat.reduceSub, Array.replicate_succ, Array.replicate_zero, List.push_toArray, List.append_toArray, List.nil_append, List.cons_append]
  go_wp2_with (first
    | (go_at_call 8; rw [← HW1.out]; refine N1.out.mono ?_; rintro e w2 ⟨b, F, rfl, r2, f2, g2, k2⟩; replace r2 := Lib.hid r2; replace f2 := Lib.hid f2; replace g2 := Lib.hid g2; replace k2 := Lib.hid k2)
    | (go_at_call 9; refine (awake_any _).mono ?_; rintro e w3 ⟨rfl, k3⟩; replace k3 := Lib.hid k3))
  go_loopw [7] (fun xi wr => ∃ (i T : Nat) (K : Keys), i ≤ len ∧ i ≤ 30 ∧ T ≤ 100 + i ∧ xi = .int .i64 (i : Int) ∧ Hid (Ring wr F b 1 40 T K) ∧ Hid (Keep (fun _ => False) W1 wr)) (fun xi wr => 30 - (intOf xi).toNat)
  case atStart => exact ⟨0, 0, _, by omega, by omega, by omega, rfl, Lib.hid (r2.out.keep0 k3.out), Lib.hid (k2.out.trans k3.out)⟩
  case round =>
    obtain ⟨i, T, K, hi, hi30, hT, rfl, hR, hK⟩ := hrel
    have hsz := hK.out.size
    by_cases hlt : i < len ∧ i < 30
    · obtain ⟨hlt, hlt2⟩ := hlt
      obtain ⟨z, hz⟩ : ∃ z, zs[i]? = some z := ⟨zs[i]'(by have := HLZ.out; omega), List.getElem?_eq_getElem _⟩
      have hz9 := HZ.out z (List.mem_of_getElem? hz)
      rcases HCS.out with h0 | ⟨g, off, rfl, hg, hcell⟩
      · rw [h0] at hz; simp at hz
      have cz : wr.cell? ⟨g, off + i, none⟩ = some (.string z) := (hK.out.cell (p := ⟨g, _, none⟩) (Nat.lt_of_lt_of_le hg K1.out.size) (fun e => e)).trans ((K1.out.cell (p := ⟨g, _, none⟩) hg (fun e => e)).trans (hcell i z hz))
      have T1 := Lib.hid (front_any hR.out (by omega) 0 (fewS z))
      clear hz hcell hg
      generalize (frontK 1 40 0 (fewS z) K).2 = ok at T1
      generalize (frontK 1 40 0 (fewS z) K).1 = K' at T1
      go_wp2_with (first
        | (go_at_call 11; refine (few_any z hz9 _).mono ?_; rintro e w4 ⟨rfl, rfl⟩)
        | (go_at_call 10; refine T1.out.mono ?_; clear T1; rintro e w4 ⟨rfl, r4, k4⟩; replace r4 := Lib.hid r4; replace k4 := Lib.hid k4))
      go_roundw
      case rel => exact ⟨i + 1, T + 1, K', by omega, by omega, by omega, by go_num, r4, Lib.hid (hK.out.then k4.out g2.out)⟩
      case measure => simp [intOf]; omega
    · have hge : ¬ i < len ∨ (i < len ∧ ¬ i < 30) := by omega
      obtain ⟨ls, hls⟩ : ∃ ls, K[0]? = some ls := ⟨K[0]'(by rw [hR.out.len]; omega), List.getElem?_eq_getElem _⟩
      obtain ⟨W5, hW5⟩ : ∃ W5, W5 = ((wr.alloc (.cells #[.int .i64 0] 3)).alloc (.cells #[.pointer (some ⟨b, 0, none⟩)] 23)).alloc (.cells #[.int .i64 0] 3) := ⟨_, rfl⟩
      have k5 : Keep (fun _ => False) wr W5 := by rw [hW5]; exact (((Keep.refl _ _).alloc _).alloc _).alloc _
      have hs5 : W5.heap.size = wr.heap.size + 3 := by rw [hW5]; simp
      have b8 : W5.heap[wr.heap.size]? = some (.cells #[.int .i64 0] 3 (0, 0)) := by rw [hW5]; exact block_alloc (block_alloc (block_new wr _) _) _
      have br : W5.heap[wr.heap.size + 1]? = some (.cells #[.pointer (some ⟨b, 0, none⟩)] 23 (0, 0)) := by rw [hW5]; exact block_alloc (block_new_at (by simp)) _
      have bl : W5.heap[wr.heap.size + 1 + 1]? = some (.cells #[.int .i64 0] 3 (0, 0)) := by rw [hW5]; exact block_new_at (by simp)
      have r5 := hR.out.tight.keep0 k5
      have hst := keys_stops 4 b 1 40 T 0 (wr.heap.size + 1) (wr.heap.size + 1 + 1) K ls _ (fun j => j < W5.heap.size ∧ j ≠ wr.heap.size) W5 (by omega) r5 hls (cell_at br 0) (cell_at bl 0) (fun j hj => by have := hj.2; omega) (by omega) (by omega) (by omega) (by omega)
      have b3 := (k5.block _ (Nat.lt_of_lt_of_le (lt_of_block B3.out) hsz) (fun e => e)).trans ((hK.out.block _ (lt_of_block B3.out) (fun e => e)).trans B3.out)
      have HST := Lib.hid hst
      have HW5 := Lib.hid hW5
      have K5 := Lib.hid k5
      have R5 := Lib.hid r5
      have B8 := Lib.hid b8
      have C3 := Lib.hid b3
      have HLS := Lib.hid hls
      have hw8 : w.heap.size < wr.heap.size := Nat.lt_of_lt_of_le (lt_of_block B3.out) hsz
      clear hst hW5 k5 r5 b8 b3 br bl hls
      rcases hge with hge | ⟨hge0, hge⟩
      · go_wp2_with (go_at_call 12; refine (keys_call _ _ _).mono ?_; rintro e w4 ⟨rfl, rfl⟩)
        rw [← HW5.out]
        refine wpIn_wide.1 (wpIn_rangeFunc_ownF (F := Fence.wide) (n := 5) rfl (by decide) (gf := 30) (lb := #[.pointer (some ⟨wr.heap.size + 1, 0, none⟩), .pointer (some ⟨wr.heap.size + 1 + 1, 0, none⟩)]) rfl trivial (enters_of Try.func30 (by kernel_rfl) rfl) HST.out (fun h k => Kp.t h k) (Kp.b (Nat.le_refl _)) (Below.refl _ _) (fun _ => rfl)
          (fun pre W => (W.cell? ⟨wr.heap.size, 0, none⟩ = some (.int .i64 (pre.length : Int)) ∧ W.frozen? ⟨wr.heap.size, 0, none⟩ = false) ∧ Keep (fun j => j = wr.heap.size) W5 W ∧ pre.length ≤ m)
          (fun c pre W => (W.cell? ⟨wr.heap.size, 0, none⟩ = some (.int .i64 (m : Int)) ∧ W.frozen? ⟨wr.heap.size, 0, none⟩ = false) ∧ Keep (fun j => j = wr.heap.size) W5 W ∧ pre.length = m + 1 ∧ c = .exit 2)
          (fun s A B row hs hg hr => ⟨⟨cell_kept hs.1.1 hg (fun r e => (hr r e).2), (frozen_kept hs.1.1 hg (fun r e => (hr r e).2)).trans hs.1.2⟩, ownFrom_keep (β := Unit) (Nat.le_refl _) () A B row hs.2.1 hg hr, hs.2.2⟩)
          (fun c s A B row hs hg hr => ⟨⟨cell_kept hs.1.1 hg (fun r e => (hr r e).2), (frozen_kept hs.1.1 hg (fun r e => (hr r e).2)).trans hs.1.2⟩, ownFrom_keep (β := Unit) (Nat.le_refl _) () A B row hs.2.1 hg hr, hs.2.2⟩)
          ⟨⟨cell_at B8.out 0, free_at B8.out 0⟩, Keep.refl _ _, Nat.zero_le _⟩ ?a1A ?assignA ?bodyA ?doneA ?stopA)
        case assignA =>
          intro l x W K0 hK0
          gi_wp2
          exact hK0
        case bodyA =>
          rintro l pre x W ⟨⟨hc, hf⟩, hk, hp⟩ hlen
          have c3 : W.cell? ⟨w.heap.size, 0, none⟩ = some (.int .i64 n) := (hk.cell (p := ⟨w.heap.size, 0, none⟩) (lt_of_block C3.out) (fun e => by simp at e; omega)).trans (cell_at C3.out 0)
          by_cases hq : pre.length = m
          · have hb : ((pre.length : Int) == (m : Int)) = true := by rw [beq_iff_eq]; omega
            gi_wp2
            exact ⟨KeepsOthers.refl _, ⟨⟨by rw [hc, hq], hf⟩, hk, by rw [List.length_append, hq]; rfl, rfl⟩⟩
          · have hb : ((pre.length : Int) == (m : Int)) = false := by rw [beq_eq_false_iff_ne]; omega
            have hp32 : pre.length ≤ 100 := by omega
            gi_wp2
            exact ⟨KeepsOthers.setCell _ _ _, (Keep.refl _ W).setCell (.inl (by simp)) _, ⟨⟨by rw [World.cell?_setCell_same' _ _ _ (by rw [hc]; rfl), List.length_append]; rfl, by rw [World.frozen?_setCell]; exact hf⟩, hk.setCell (.inl rfl) _, by rw [List.length_append, List.length_cons, List.length_nil]; omega⟩⟩
        case doneA =>
          rintro D ys W hD hys ⟨⟨hc, hf⟩, hk, hp⟩ hdef
          rw [hys] at hc hp
          gi_wp2
          have rW := R5.out.keep hk (fun q hq e => by have := hq.2; omega)
          have c3 : W.cell? ⟨w.heap.size, 0, none⟩ = some (.int .i64 n) := (hk.cell (p := ⟨w.heap.size, 0, none⟩) (lt_of_block C3.out) (fun e => by simp at e; omega)).trans (cell_at C3.out 0)
          have HL := Lib.hid (len_yes (rW.keep0 ((Keep.refl _ W).drew)) 0 ls HLS.out)
          have hmin : min (m : Int) (ls.length : Int) = (ls.length : Int) := by omega
          have hkD := hdef
          have kall : Keep (fun _ => False) w (W.drew.putObj D (.deferred none)) := ((((K1.out.trans hK.out).trans K5.out).then hk (fun q e => by omega)).then ((Keep.refl (fun q => q = D) W).drew.grown (grownBy_putObj' W.drew D _) (fun q e => .inl (by cases e; rfl))) (fun q e => by omega))
          have KALL := Lib.hid kall
          have HD := Lib.hid hdef
          clear rW hdef hkD kall
          go_wp2_with fail
          go_region_held3 (fun w' => w'.cell? ⟨wr.heap.size, 0, none⟩ = some (.int .i64 (ls.length : Int)) ∧ w'.cell? ⟨w.heap.size, 0, none⟩ = some (.int .i64 n))
            (first | exact ⟨hc, c3⟩ | assumption)
            (first
              | (go_at_call 13; refine HL.out.mono ?_; rintro e w1 ⟨rfl, rfl⟩))
          go_wp2_with fail
          all_goals
            refine ⟨by simp, .inl ⟨_, _, rfl, run_takeDeferred HD.out, ?_⟩⟩
            refine ⟨_, results_tmp rfl _ _ _, ?_, KALL.out.below0⟩
            first
              | rfl
              | (show Ending.returned (.bool _) = _
                 congr 2
                 rw [beq_iff_eq]
                 omega)
        case stopA =>
          rintro D c pre W hD hpre ⟨⟨hc, hf⟩, hk, hp, rfl⟩ hdef
          have hpl := hpre.length_le
          gi_wp2
          have rW := R5.out.keep hk (fun q hq e => by have := hq.2; omega)
          have c3 : W.cell? ⟨w.heap.size, 0, none⟩ = some (.int .i64 n) := (hk.cell (p := ⟨w.heap.size, 0, none⟩) (lt_of_block C3.out) (fun e => by simp at e; omega)).trans (cell_at C3.out 0)
          have HL := Lib.hid (len_yes (rW.keep0 ((Keep.refl _ W).drew)) 0 ls HLS.out)
          have hmin : min (m : Int) (ls.length : Int) = (m : Int) := by omega
          have hkD := hdef
          have kall : Keep (fun _ => False) w (W.drew.putObj D (.deferred none)) := ((((K1.out.trans hK.out).trans K5.out).then hk (fun q e => by omega)).then ((Keep.refl (fun q => q = D) W).drew.grown (grownBy_putObj' W.drew D _) (fun q e => .inl (by cases e; rfl))) (fun q e => by omega))
          have KALL := Lib.hid kall
          have HD := Lib.hid hdef
          clear rW hdef hkD kall
          go_wp2_with fail
          go_region_held3 (fun w' => w'.cell? ⟨wr.heap.size, 0, none⟩ = some (.int .i64 (m : Int)) ∧ w'.cell? ⟨w.heap.size, 0, none⟩ = some (.int .i64 n))
            (first | exact ⟨hc, c3⟩ | assumption)
            (first
              | (go_at_call 13; refine HL.out.mono ?_; rintro e w1 ⟨rfl, rfl⟩))
          go_wp2_with fail
          all_goals
            refine ⟨by simp, .inl ⟨_, _, rfl, run_takeDeferred HD.out, ?_⟩⟩
            refine ⟨_, results_tmp rfl _ _ _, ?_, KALL.out.below0⟩
            first
              | rfl
              | (show Ending.returned (.bool _) = _
                 congr 2
                 rw [beq_iff_eq]
                 omega)
      · go_wp2_with (go_at_call 12; refine (keys_call _ _ _).mono ?_; rintro e w4 ⟨rfl, rfl⟩)
        rw [← HW5.out]
        refine wpIn_wide.1 (wpIn_rangeFunc_ownF (F := Fence.wide) (n := 5) rfl (by decide) (gf := 30) (lb := #[.pointer (some ⟨wr.heap.size + 1, 0, none⟩), .pointer (some ⟨wr.heap.size + 1 + 1, 0, none⟩)]) rfl trivial (enters_of Try.func30 (by kernel_rfl) rfl) HST.out (fun h k => Kp.t h k) (Kp.b (Nat.le_refl _)) (Below.refl _ _) (fun _ => rfl)
          (fun pre W => (W.cell? ⟨wr.heap.size, 0, none⟩ = some (.int .i64 (pre.length : Int)) ∧ W.frozen? ⟨wr.heap.size, 0, none⟩ = false) ∧ Keep (fun j => j = wr.heap.size) W5 W ∧ pre.length ≤ m)
          (fun c pre W => (W.cell? ⟨wr.heap.size, 0, none⟩ = some (.int .i64 (m : Int)) ∧ W.frozen? ⟨wr.heap.size, 0, none⟩ = false) ∧ Keep (fun j => j = wr.heap.size) W5 W ∧ pre.length = m + 1 ∧ c = .exit 2)
          (fun s A B row hs hg hr => ⟨⟨cell_kept hs.1.1 hg (fun r e => (hr r e).2), (frozen_kept hs.1.1 hg (fun r e => (hr r e).2)).trans hs.1.2⟩, ownFrom_keep (β := Unit) (Nat.le_refl _) () A B row hs.2.1 hg hr, hs.2.2⟩)
          (fun c s A B row hs hg hr => ⟨⟨cell_kept hs.1.1 hg (fun r e => (hr r e).2), (frozen_kept hs.1.1 hg (fun r e => (hr r e).2)).trans hs.1.2⟩, ownFrom_keep (β := Unit) (Nat.le_refl _) () A B row hs.2.1 hg hr, hs.2.2⟩)
          ⟨⟨cell_at B8.out 0, free_at B8.out 0⟩, Keep.refl _ _, Nat.zero_le _⟩ ?a1B ?assignB ?bodyB ?doneB ?stopB)
        case assignB =>
          intro l x W K0 hK0
          gi_wp2
          exact hK0
        case bodyB =>
          rintro l pre x W ⟨⟨hc, hf⟩, hk, hp⟩ hlen
          have c3 : W.cell? ⟨w.heap.size, 0, none⟩ = some (.int .i64 n) := (hk.cell (p := ⟨w.heap.size, 0, none⟩) (lt_of_block C3.out) (fun e => by simp at e; omega)).trans (cell_at C3.out 0)
          by_cases hq : pre.length = m
          · have hb : ((pre.length : Int) == (m : Int)) = true := by rw [beq_iff_eq]; omega
            gi_wp2
            exact ⟨KeepsOthers.refl _, ⟨⟨by rw [hc, hq], hf⟩, hk, by rw [List.length_append, hq]; rfl, rfl⟩⟩
          · have hb : ((pre.length : Int) == (m : Int)) = false := by rw [beq_eq_false_iff_ne]; omega
            have hp32 : pre.length ≤ 100 := by omega
            gi_wp2
            exact ⟨KeepsOthers.setCell _ _ _, (Keep.refl _ W).setCell (.inl (by simp)) _, ⟨⟨by rw [World.cell?_setCell_same' _ _ _ (by rw [hc]; rfl), List.length_append]; rfl, by rw [World.frozen?_setCell]; exact hf⟩, hk.setCell (.inl rfl) _, by rw [List.length_append, List.length_cons, List.length_nil]; omega⟩⟩
        case doneB =>
          rintro D ys W hD hys ⟨⟨hc, hf⟩, hk, hp⟩ hdef
          rw [hys] at hc hp
          gi_wp2
          have rW := R5.out.keep hk (fun q hq e => by have := hq.2; omega)
          have c3 : W.cell? ⟨w.heap.size, 0, none⟩ = some (.int .i64 n) := (hk.cell (p := ⟨w.heap.size, 0, none⟩) (lt_of_block C3.out) (fun e => by simp at e; omega)).trans (cell_at C3.out 0)
          have HL := Lib.hid (len_yes (rW.keep0 ((Keep.refl _ W).drew)) 0 ls HLS.out)
          have hmin : min (m : Int) (ls.length : Int) = (ls.length : Int) := by omega
          have hkD := hdef
          have kall : Keep (fun _ => False) w (W.drew.putObj D (.deferred none)) := ((((K1.out.trans hK.out).trans K5.out).then hk (fun q e => by omega)).then ((Keep.refl (fun q => q = D) W).drew.grown (grownBy_putObj' W.drew D _) (fun q e => .inl (by cases e; rfl))) (fun q e => by omega))
          have KALL := Lib.hid kall
          have HD := Lib.hid hdef
          clear rW hdef hkD kall
          go_wp2_with fail
          go_region_held3 (fun w' => w'.cell? ⟨wr.heap.size, 0, none⟩ = some (.int .i64 (ls.length : Int)) ∧ w'.cell? ⟨w.heap.size, 0, none⟩ = some (.int .i64 n))
            (first | exact ⟨hc, c3⟩ | assumption)
            (first
              | (go_at_call 13; refine HL.out.mono ?_; rintro e w1 ⟨rfl, rfl⟩))
          go_wp2_with fail
          all_goals
            refine ⟨by simp, .inl ⟨_, _, rfl, run_takeDeferred HD.out, ?_⟩⟩
            refine ⟨_, results_tmp rfl _ _ _, ?_, KALL.out.below0⟩
            first
              | rfl
              | (show Ending.returned (.bool _) = _
                 congr 2
                 rw [beq_iff_eq]
                 omega)
        case stopB =>
          rintro D c pre W hD hpre ⟨⟨hc, hf⟩, hk, hp, rfl⟩ hdef
          have hpl := hpre.length_le
          gi_wp2
          have rW := R5.out.keep hk (fun q hq e => by have := hq.2; omega)
          have c3 : W.cell? ⟨w.heap.size, 0, none⟩ = some (.int .i64 n) := (hk.cell (p := ⟨w.heap.size, 0, none⟩) (lt_of_block C3.out) (fun e => by simp at e; omega)).trans (cell_at C3.out 0)
          have HL := Lib.hid (len_yes (rW.keep0 ((Keep.refl _ W).drew)) 0 ls HLS.out)
          have hmin : min (m : Int) (ls.length : Int) = (m : Int) := by omega
          have hkD := hdef
          have kall : Keep (fun _ => False) w (W.drew.putObj D (.deferred none)) := ((((K1.out.trans hK.out).trans K5.out).then hk (fun q e => by omega)).then ((Keep.refl (fun q => q = D) W).drew.grown (grownBy_putObj' W.drew D _) (fun q e => .inl (by cases e; rfl))) (fun q e => by omega))
          have KALL := Lib.hid kall
          have HD := Lib.hid hdef
          clear rW hdef hkD kall
          go_wp2_with fail
          go_region_held3 (fun w' => w'.cell? ⟨wr.heap.size, 0, none⟩ = some (.int .i64 (m : Int)) ∧ w'.cell? ⟨w.heap.size, 0, none⟩ = some (.int .i64 n))
            (first | exact ⟨hc, c3⟩ | assumption)
            (first
              | (go_at_call 13; refine HL.out.mono ?_; rintro e w1 ⟨rfl, rfl⟩))
          go_wp2_with fail
          all_goals
            refine ⟨by simp, .inl ⟨_, _, rfl, run_takeDeferred HD.out, ?_⟩⟩
            refine ⟨_, results_tmp rfl _ _ _, ?_, KALL.out.below0⟩
            first
              | rfl
              | (show Ending.returned (.bool _) = _
                 congr 2
                 rw [beq_iff_eq]
                 omega)

end Go.Proofs.Ytcllfdplbefaeaa.RinT
