/-
  Layer 7 (arc): the law ArcKeeps, its walk.
-/
import Derived.Test.YtebjbkpgicbgeaaArcF
namespace Go.Proofs.Ytebjbkpgicbgeaa.ArcG
set_option linter.unusedVariables false
set_option linter.unusedSimpArgs false
set_option maxRecDepth 100000
open Go.RowKit Go.Proofs.Ytebjbkpgicbgeaa.Mem Go.Proofs.Ytebjbkpgicbgeaa.RinM Go.Proofs.Ytebjbkpgicbgeaa.RinP Go.Proofs.Ytebjbkpgicbgeaa.RinG Go.Proofs.Ytebjbkpgicbgeaa.ArcP Go.Proofs.Ytebjbkpgicbgeaa.ArcQ Go.Proofs.Ytebjbkpgicbgeaa.ArcW Go.Proofs.Ytebjbkpgicbgeaa.ArcV Go.Proofs.Ytebjbkpgicbgeaa.ArcU Go.Proofs.Ytebjbkpgicbgeaa.ArcO Go.Proofs.Ytebjbkpgicbgeaa.ArcF Go.Proofs.Ytebjbkpgicbgeaa.Mask Go.Proofs.Ytebjbkpgicbgeaa.Open

set_option maxHeartbeats 16000000 in
theorem arcKeeps_walk (most : Int) (v : Value) (w : World) (wp : (Lit.int .i64 most).wf = true) (hv : ∃ zs, Texts w v zs) :
    Calls Try.prog 3 #[.int .i64 most, v] w fun e w' => e = .returned (.bool true) ∧ Below w.heap.size w w' := by
  obtain ⟨zs, hz⟩ := hv
  obtain ⟨ao, cap, rfl, hlen, hcs⟩ := texts_form hz
  have HZ := Lib.hid hz.2
  have HCS := Lib.hid hcs
  clear hz hcs
  generalize hlz : zs.length = len at *
  have HLZ := Lib.hid hlz
  clear hlz
  obtain ⟨i0, hi, hz0, hz1, hz2⟩ := info_parts infoStr
  obtain ⟨c0, hc, hc2, -⟩ := i64_and most 4 (by omega)
  have hc' : bits .and .i64 most 15 = (c0 : Int) := hc
  have hc16 : c0 < 16 := hc2
  obtain ⟨c, hcc⟩ : ∃ c, c = 1 + c0 := ⟨_, rfl⟩
  have N := Lib.hid (own_new c (by omega) (by omega) w)
  have hcc' : IntKind.i64.wrap ((1 : Int) + (c0 : Int)) = (c : Int) := (IntWalk.i64_in _ (by omega)).trans (by omega)
  have hc2c : 1 ≤ c := by omega
  have hcm : c ≤ 16 := by omega
  clear hcc hc16 hc hc2
  go_enter Try.func3, Try.ntmps3
  go_upto_region 5 with (first
    | (go_at_call 9; refine N.out.mono ?_; rintro e w1 ⟨ab, b, rfl, O1⟩; replace O1 := Lib.hid O1)
    | (go_at_call 10; refine (awake_any _).mono ?_; rintro e w2 ⟨rfl, k2⟩
       have O2 := Lib.hid (O1.out.keep0 k2)))
  go_wp2_with fail
  go_loopw [8, 9] (fun x8 xi wr => ∃ (i T : Nat) (s : Ac) (ls : List ByteArray) (v : Value), i ≤ len ∧ i ≤ 100 ∧ T ≤ 2 * i ∧ x8 = v ∧ xi = .int .i64 (i : Int) ∧ Hid (KAt w wr ab b c T s v ls) ∧ Hid (ls.Perm (s.A ++ s.B))) (fun x8 xi wr => 100 - (intOf xi).toNat)
  case atStart =>
    refine ⟨0, 0, ⟨0, [], [], [], []⟩, [], _, by omega, by omega, by omega, rfl, rfl, Lib.hid ?_, Lib.hid (List.Perm.refl _)⟩
    obtain ⟨F, h1, h2, h3, h4⟩ := O2.out
    have := h4.size
    refine ⟨F, h1.keep0 ((Keep.refl _ _).alloc _), h2, h3, h4.alloc _, ⟨rfl, .inr ⟨w2.heap.size, 0, #[], rfl, Nat.zero_le _, block_new w2 _, Nat.le_refl _, by unfold maxLen; omega, rfl, rfl⟩⟩, fun g e => ?_⟩
    simp [Value.ownBlock] at e
    subst e
    refine ⟨by omega, fun f => ?_, ?_⟩
    · have := h1.hF _ f; omega
    · have := lt_of_block h1.h; omega
  case round =>
    obtain ⟨i, T, s, ls, v, hi1, hi100, hT, rfl, rfl, hK, hP⟩ := hrel
    by_cases hlt : i < len ∧ i < 100
    · obtain ⟨hlt, hlt2⟩ := hlt
      obtain ⟨z, hz⟩ : ∃ z, zs[i]? = some z := ⟨zs[i]'(by have := HLZ.out; omega), List.getElem?_eq_getElem _⟩
      have hz9 := HZ.out z (List.mem_of_getElem? hz)
      have hkk := hK.out.own.kept
      rcases HCS.out with h0 | ⟨g, off, rfl, hg, hcell⟩
      · rw [h0] at hz; simp at hz
      have cz : wr.cell? ⟨g, off + i, none⟩ = some (.string z) := (hkk.cell (p := ⟨g, _, none⟩) hg (fun e => e)).trans (hcell i z hz)
      obtain ⟨x, hx⟩ : ∃ x, x = fewS z := ⟨_, rfl⟩
      have HX := Lib.hid hx
      clear hz hcell hg hkk
      by_cases h64 : 64 < x.size
      · have h64' : (64 : Int) < (x.size : Int) := by omega
        clear hx
        go_wp2_with (go_at_call 11; refine (few_any z hz9 _).mono ?_; rintro e w4 ⟨rfl, rfl⟩; rw [← HX.out])
        go_roundw
        case rel => exact ⟨i + 1, T, s, ls, _, by omega, by omega, by omega, rfl, by go_num, hK, hP⟩
        case measure => simp [intOf]; omega
      · have h64' : ¬ (64 : Int) < (x.size : Int) := by omega
        have hx64 : x.size ≤ 64 := by omega
        have T1 := Lib.hid (kat_insert hK.out (by omega) x (by omega))
        have HP2 := Lib.hid (keeps_law hK.out.own.inv hP.out hx64)
        have hab := hK.out.own.inv.ab
        have hll := hP.out.length_eq
        rw [List.length_append] at hll
        have hls16 : ls.length ≤ 16 := by omega
        clear hx hab hll hP hK
        generalize (ins c x s).2 = o at *
        generalize (ins c x s).1 = s2 at *
        go_upto_region 12 with (first
          | (go_at_call 11; refine (few_any z hz9 _).mono ?_; rintro e w4 ⟨rfl, rfl⟩; rw [← HX.out])
          | (go_at_call 12; refine T1.out.mono ?_; clear T1; rintro e w4 ⟨vo, rfl, o4, K4⟩; replace K4 := Lib.hid K4))
        obtain ⟨bo, bc, hvv, hrow⟩ := row_strs K4.out.row
        subst hvv
        have HRW := Lib.hid hrow
        obtain ⟨ag, n, hvo⟩ := o4.form
        subst hvo
        have hform : (o = none ∧ n = 0) ∨ ∃ k q, o = some k ∧ n = 1 ∧ ag = some ⟨q, 0, none⟩ ∧ w4.heap[q]? = some (.cells #[.string k] 9 (0, 0)) := by
          cases o with
          | none => left; injection o4 with _ e2; exact ⟨rfl, e2⟩
          | some k =>
            obtain ⟨q, e1, e2, -⟩ := o4
            injection e1 with e3 e4
            exact .inr ⟨k, q, rfl, e4, e3, e2⟩
        have HF := Lib.hid hform
        have hn1 : (n : Int) ≤ 1 := by rcases hform with ⟨-, rfl⟩ | ⟨k, q, -, rfl, -⟩ <;> omega
        clear hform hrow o4
        go_wp2_with fail
        go_loopw [12, 13] (fun x12 xj wq => ∃ (j : Nat) (v8 : Value), j ≤ ls.length ∧ x12 = v8 ∧ xj = .int .i64 (j : Int) ∧ Hid (wq.ownsRow 0 TStr 1 v8 (upto x o ls j).length (strs (upto x o ls j))) ∧ Hid (∀ q, v8.ownBlock = some q → w4.heap.size ≤ q) ∧ Hid (Keep (fun _ => False) w4 wq)) (fun x12 xj wq => ls.length - (intOf xj).toNat)
        case atStart =>
          refine ⟨0, _, by omega, rfl, rfl, Lib.hid ⟨rfl, .inr ⟨w4.heap.size, 1, _, rfl, Nat.zero_le _, block_new w4 _, Nat.le_refl _, by unfold maxLen; omega, rfl, rfl⟩⟩, Lib.hid (fun q e => ?_), Lib.hid ((Keep.refl _ w4).alloc _)⟩
          simp [Value.ownBlock] at e
          omega
        case round =>
          obtain ⟨j, v8, hj, rfl, rfl, hr8, hn8, hk8⟩ := hrel
          by_cases hlj : j < ls.length
          · obtain ⟨y, hy⟩ : ∃ y, ls[j]? = some y := ⟨ls[j], List.getElem?_eq_getElem hlj⟩
            rcases HRW.out with h0 | ⟨g, rfl, hgo, hg, hcell⟩
            · rw [h0] at hy; simp at hy
            have cy : wr.cell? ⟨g, j, none⟩ = some (.string y) := (hk8.out.cell (p := ⟨g, j, none⟩) hg (fun e => e)).trans (hcell j y hy)
            rcases HF.out with ⟨ho, rfl⟩ | ⟨k, q, ho, rfl, rfl, hqb⟩
            · by_cases hyx : y = x
              · have hq : (y.toList == x.toList) = true := by rw [eq_bytes]; exact decide_eq_true hyx
                have HUS := Lib.hid (upto_skip x y o ls j hy (by simp [stays, hyx]))
                clear hyx
                go_wp2_with fail
                go_quiet (fail)
                go_wp2_with fail
                go_roundw
                case rel => exact ⟨j + 1, _, by omega, rfl, by go_num, Lib.hid (by rw [HUS.out]; exact owns_keep hr8.out ((Keep.refl (fun _ => False) wr).drewN _) (fun _ _ e => e)), hn8, Lib.hid (hk8.out.drewN _)⟩
                case measure => simp [intOf]; omega
              · have hq : (y.toList == x.toList) = false := by rw [eq_bytes]; exact decide_eq_false hyx
                have HUP := Lib.hid (upto_put x y o ls j hy (by simp [stays, hyx, ho]))
                clear hyx
                go_wp2_with fail
                go_quiet (fail)
                obtain ⟨w5, hw5⟩ : ∃ W, W = wr.drewN nq := ⟨_, rfl⟩
                have k5 : Keep (fun _ => False) wr w5 := by rw [hw5]; exact (Keep.refl _ wr).drewN _
                have r5 := owns_keep hr8.out k5 (fun _ _ e => e)
                rw [← hw5]
                clear hw5
                have cy5 : w5.cell? ⟨g, j, none⟩ = some (.string y) := (k5.cell (p := ⟨g, j, none⟩) (Nat.lt_of_lt_of_le hg hk8.out.size) (fun e => e)).trans cy
                clear cy
                obtain ⟨ao8, cp8, hv8⟩ := owns_slice r5
                have HV8 := Lib.hid hv8
                have hul : (upto x o ls j).length ≤ 100 := by
                  have h1 := nxt_len x o (ls.take j)
                  have h2 : (ls.take j).length ≤ ls.length := by rw [List.length_take]; omega
                  unfold upto
                  omega
                have ow : ∀ ob, (w5.alloc ob).ownsRow 0 9 1 (.slice ao8 (upto x o ls j).length cp8) (upto x o ls j).length (strs (upto x o ls j)) := fun ob => by rw [← hv8]; exact r5.alloc ob
                subst hv8
                generalize hm : (upto x o ls j).length = m at *
                have nw : ∀ q u, [Value.string y][q]? = some u → (w5.alloc (.cells #[.string y] 9)).cell? ((⟨w5.heap.size, 0, none⟩ : Addr).add q) = some u := World.news_of_block (block_new w5 _)
                have on1 : ∀ u ∈ ([.string y] : List Value), u.oneCell' = true := by simp [Value.oneCell']
                have How := Lib.hid ow
                have Hon := Lib.hid on1
                have Hnw := Lib.hid nw
                have HM := Lib.hid hm
                have hs8 := hk8.out.size
                have hs5 := k5.size
                clear ow nw on1 hm hy hgo hcell
                go_wp2_with (at_builtin; refine wpList_append_lies _ rfl (.tmp 80) (.tmp 85) 22 rfl 0 9 i0 _ 1 16 Try.underlying22 hi hz0 hz1 hz2 rfl (by decide) (.slice ao8 m cp8) m (strs (upto x o ls j)) rfl (How.out _) ⟨w5.heap.size, 0, none⟩ 1 1 [.string y] rfl rfl Hnw.out Hon.out (by decide) (by unfold maxLen; omega) (by omega) (Nat.zero_le _) _ rfl ?_; intro g' cq w6 hown6 hgrow hat hlt6
                             have HO6 := Lib.hid hown6
                             have HG6 := Lib.hid hgrow
                             have HA6 := Lib.hid hat
                             clear hown6 hgrow hat)
                have k6 : Keep (fun _ => False) w4 w6 := (hk8.out.trans k5).then (((Keep.refl _ w5).alloc _).grown HG6.out (fun q e => .inl e)) hn8.out
                have K6 := Lib.hid k6
                clear k6
                go_roundw
                case rel =>
                  refine ⟨j + 1, _, by omega, rfl, by go_num, Lib.hid ?_, Lib.hid ?_, K6⟩
                  · rw [HUP.out, List.length_append, HM.out]
                    have e : strs (upto x o ls j ++ [y]) = strs (upto x o ls j) ++ [.string y] := by simp [strs]
                    rw [e]
                    exact HO6.out
                  · intro q e
                    simp [Value.ownBlock] at e
                    subst e
                    rcases HA6.out with e | e
                    · exact hn8.out _ e
                    · simp at e; omega
                case measure => simp [intOf]; omega
            · have cq : wr.cell? ⟨q, 0, none⟩ = some (.string k) := (hk8.out.cell (p := ⟨q, 0, none⟩) (lt_of_block hqb) (fun e => e)).trans (cell_at hqb 0)
              by_cases hyx : y = x
              · have hq : (y.toList == x.toList) = true := by rw [eq_bytes]; exact decide_eq_true hyx
                have HUS := Lib.hid (upto_skip x y o ls j hy (by simp [stays, hyx]))
                clear hyx
                go_wp2_with fail
                go_quiet (fail)
                go_wp2_with fail
                go_roundw
                case rel => exact ⟨j + 1, _, by omega, rfl, by go_num, Lib.hid (by rw [HUS.out]; exact owns_keep hr8.out ((Keep.refl (fun _ => False) wr).drewN _) (fun _ _ e => e)), hn8, Lib.hid (hk8.out.drewN _)⟩
                case measure => simp [intOf]; omega
              · have hq : (y.toList == x.toList) = false := by rw [eq_bytes]; exact decide_eq_false hyx
                by_cases hyk : y = k
                · have hqk : (y.toList == k.toList) = true := by rw [eq_bytes]; exact decide_eq_true hyk
                  have HUS := Lib.hid (upto_skip x y o ls j hy (by simp [stays, hyk, ho]))
                  clear hyx hyk
                  go_wp2_with fail
                  go_quiet (fail)
                  go_wp2_with fail
                  go_roundw
                  case rel => exact ⟨j + 1, _, by omega, rfl, by go_num, Lib.hid (by rw [HUS.out]; exact owns_keep hr8.out ((Keep.refl (fun _ => False) wr).drewN _) (fun _ _ e => e)), hn8, Lib.hid (hk8.out.drewN _)⟩
                  case measure => simp [intOf]; omega
                · have hqk : (y.toList == k.toList) = false := by rw [eq_bytes]; exact decide_eq_false hyk
                  have HUP := Lib.hid (upto_put x y o ls j hy (by simp only [stays, ho, Bool.and_eq_true, decide_eq_true_iff]; exact ⟨hyx, fun e => hyk (by injection e with e; exact e.symm)⟩))
                  clear hyx hyk
                  go_wp2_with fail
                  go_quiet (fail)
                  clear cq
                  obtain ⟨w5, hw5⟩ : ∃ W, W = wr.drewN nq := ⟨_, rfl⟩
                  have k5 : Keep (fun _ => False) wr w5 := by rw [hw5]; exact (Keep.refl _ wr).drewN _
                  have r5 := owns_keep hr8.out k5 (fun _ _ e => e)
                  rw [← hw5]
                  clear hw5
                  have cy5 : w5.cell? ⟨g, j, none⟩ = some (.string y) := (k5.cell (p := ⟨g, j, none⟩) (Nat.lt_of_lt_of_le hg hk8.out.size) (fun e => e)).trans cy
                  clear cy
                  obtain ⟨ao8, cp8, hv8⟩ := owns_slice r5
                  have HV8 := Lib.hid hv8
                  have hul : (upto x o ls j).length ≤ 100 := by
                    have h1 := nxt_len x o (ls.take j)
                    have h2 : (ls.take j).length ≤ ls.length := by rw [List.length_take]; omega
                    unfold upto
                    omega
                  have ow : ∀ ob, (w5.alloc ob).ownsRow 0 9 1 (.slice ao8 (upto x o ls j).length cp8) (upto x o ls j).length (strs (upto x o ls j)) := fun ob => by rw [← hv8]; exact r5.alloc ob
                  subst hv8
                  generalize hm : (upto x o ls j).length = m at *
                  have nw : ∀ q u, [Value.string y][q]? = some u → (w5.alloc (.cells #[.string y] 9)).cell? ((⟨w5.heap.size, 0, none⟩ : Addr).add q) = some u := World.news_of_block (block_new w5 _)
                  have on1 : ∀ u ∈ ([.string y] : List Value), u.oneCell' = true := by simp [Value.oneCell']
                  have How := Lib.hid ow
                  have Hon := Lib.hid on1
                  have Hnw := Lib.hid nw
                  have HM := Lib.hid hm
                  have hs8 := hk8.out.size
                  have hs5 := k5.size
                  clear ow nw on1 hm hy hgo hcell
                  go_wp2_with (at_builtin; refine wpList_append_lies _ rfl (.tmp 80) (.tmp 85) 22 rfl 0 9 i0 _ 1 16 Try.underlying22 hi hz0 hz1 hz2 rfl (by decide) (.slice ao8 m cp8) m (strs (upto x o ls j)) rfl (How.out _) ⟨w5.heap.size, 0, none⟩ 1 1 [.string y] rfl rfl Hnw.out Hon.out (by decide) (by unfold maxLen; omega) (by omega) (Nat.zero_le _) _ rfl ?_; intro g' cq w6 hown6 hgrow hat hlt6
                               have HO6 := Lib.hid hown6
                               have HG6 := Lib.hid hgrow
                               have HA6 := Lib.hid hat
                               clear hown6 hgrow hat)
                  have k6 : Keep (fun _ => False) w4 w6 := (hk8.out.trans k5).then (((Keep.refl _ w5).alloc _).grown HG6.out (fun q e => .inl e)) hn8.out
                  have K6 := Lib.hid k6
                  clear k6
                  go_roundw
                  case rel =>
                    refine ⟨j + 1, _, by omega, rfl, by go_num, Lib.hid ?_, Lib.hid ?_, K6⟩
                    · rw [HUP.out, List.length_append, HM.out]
                      have e : strs (upto x o ls j ++ [y]) = strs (upto x o ls j) ++ [.string y] := by simp [strs]
                      rw [e]
                      exact HO6.out
                    · intro q e
                      simp [Value.ownBlock] at e
                      subst e
                      rcases HA6.out with e | e
                      · exact hn8.out _ e
                      · simp at e; omega
                  case measure => simp [intOf]; omega
          · obtain rfl : j = ls.length := by omega
            have hr8' := hr8.out
            rw [show upto x o ls ls.length = nxt x o ls from by unfold upto; rw [List.take_length]] at hr8'
            have K5 := Lib.hid (KAt.turn K4.out hk8.out hr8' hn8.out)
            have hL0 := nxt_len x o ls
            have HP3 := HP2
            obtain ⟨L, hL⟩ : ∃ L, L = nxt x o ls := ⟨_, rfl⟩
            rw [← hL] at K5 hL0 HP3 hr8'
            obtain ⟨ao8, cp8, hv8⟩ := owns_slice hr8'
            subst hv8
            have T2 := Lib.hid (kat_len K5.out HP3.out)
            have hL17 : L.length ≤ 17 := by omega
            clear hr8' hr8 hn8 hk8 hL
            generalize hlL : L.length = m at *
            have HLL := Lib.hid hlL
            clear hlL hL0
            go_wp2_with (go_at_call 13; refine T2.out.mono ?_; clear T2; rintro e w6 ⟨rfl, K6⟩; replace K6 := Lib.hid K6)
            have hrow6 := K6.out.row
            rw [HLL.out] at hrow6
            have hrw7 := row_strs (l := L) (by rw [HLL.out]; exact hrow6)
            obtain ⟨bo7, bc7, hv7, hrw⟩ := hrw7
            rw [HLL.out] at hv7
            injection hv7 with e7 e8 e9
            subst e7 e9
            have HR7 := Lib.hid hrw
            clear hrow6 hrw
            go_loopw [14] (fun xm wq => ∃ (p : Nat), p ≤ m ∧ xm = .int .i64 (p : Int) ∧ Hid (Keep (fun _ => False) w6 wq)) (fun xm wq => m - (intOf xm).toNat)
            case atStart => exact ⟨0, by omega, rfl, Lib.hid (Keep.refl _ _)⟩
            case round =>
              obtain ⟨p, hp, rfl, hk6⟩ := hrel
              by_cases hpm : p < m
              · obtain ⟨y, hy⟩ : ∃ y, L[p]? = some y := ⟨L[p]'(by have := HLL.out; omega), List.getElem?_eq_getElem _⟩
                rcases HR7.out with h0 | ⟨g7, rfl, hgo, hg7, hcell⟩
                · rw [h0] at hy; simp at hy
                have cy : wr.cell? ⟨g7, p, none⟩ = some (.string y) := (hk6.out.cell (p := ⟨g7, p, none⟩) hg7 (fun e => e)).trans (hcell p y hy)
                have T3 := Lib.hid (kat_has (K6.out.keep0 hk6.out) HP3.out y (List.mem_of_getElem? hy))
                clear hgo hcell hy
                go_wp2_with (go_at_call 14; refine T3.out.mono ?_; rintro e w7 ⟨rfl, rfl⟩)
                go_roundw
                case rel => exact ⟨p + 1, by omega, by go_num, hk6⟩
                case measure => simp [intOf]; omega
              · obtain rfl : p = m := by omega
                go_wp2_with fail
                go_roundw
                case rel =>
                  refine ⟨i + 1, T + 2, s2, L, _, by omega, by omega, by omega, rfl, by go_num, Lib.hid (K6.out.keep0 hk6.out), HP3⟩
                case measure => simp [intOf]; omega
    · have hge : ¬ i < len ∨ (i < len ∧ ¬ i < 100) := by omega
      rcases hge with h1 | ⟨h1, h2⟩
      · go_wp2_with fail
        go_ret
        exact ⟨rfl, hK.out.own.kept.below0⟩
      · obtain rfl : i = 100 := by omega
        go_wp2_with fail
        go_ret
        exact ⟨rfl, hK.out.own.kept.below0⟩

end Go.Proofs.Ytebjbkpgicbgeaa.ArcG
