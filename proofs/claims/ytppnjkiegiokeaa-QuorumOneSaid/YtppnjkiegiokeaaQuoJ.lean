/-
  Layer 17 (quorum): QuorumOne, its walk.
-/
import Derived.Test.YtppnjkiegiokeaaQuoI
import Derived.Test.YtppnjkiegiokeaaQuoG
import Derived.Test.YtppnjkiegiokeaaQuoP0
import Derived.Test.YtppnjkiegiokeaaQuoP1
import Derived.Test.YtppnjkiegiokeaaQuoP2
import Derived.Test.YtppnjkiegiokeaaQuoK0
import Derived.Test.YtppnjkiegiokeaaQuoK1
import Derived.Test.YtppnjkiegiokeaaQuoK2
import Derived.Test.YtppnjkiegiokeaaQuoA
import Derived.Test.YtppnjkiegiokeaaQuoK
import Derived.Test.YtppnjkiegiokeaaQuoL
import Derived.Test.YtppnjkiegiokeaaQuoM
import Derived.Test.YtppnjkiegiokeaaQuoY
import Derived.Test.YtppnjkiegiokeaaQuoQA
import Derived.Deep.DeepCutAuto
namespace Go.Proofs.Ytppnjkiegiokeaa.QuoJ
set_option linter.unusedVariables false
set_option linter.unusedSimpArgs false
set_option maxRecDepth 100000
open Go.RowKit Go.Proofs.Ytppnjkiegiokeaa.Mem Go.Proofs.Ytppnjkiegiokeaa.Mask Go.Proofs.Ytppnjkiegiokeaa.QuoW Go.Proofs.Ytppnjkiegiokeaa.QuoV Go.Proofs.Ytppnjkiegiokeaa.QuoU Go.Proofs.Ytppnjkiegiokeaa.QuoR Go.Proofs.Ytppnjkiegiokeaa.QuoS Go.Proofs.Ytppnjkiegiokeaa.QuoX Go.Proofs.Ytppnjkiegiokeaa.QuoC Go.Proofs.Ytppnjkiegiokeaa.QuoD Go.Proofs.Ytppnjkiegiokeaa.QuoE Go.Proofs.Ytppnjkiegiokeaa.QuoF Go.Proofs.Ytppnjkiegiokeaa.QuoG Go.Proofs.Ytppnjkiegiokeaa.QuoH Go.Proofs.Ytppnjkiegiokeaa.QuoI Go.Proofs.Ytppnjkiegiokeaa.QuoK Go.Proofs.Ytppnjkiegiokeaa.QuoL Go.Proofs.Ytppnjkiegiokeaa.QuoM Go.Proofs.Ytppnjkiegiokeaa.QuoY Go.Proofs.Ytppnjkiegiokeaa.QuoQ
set_option maxHeartbeats 64000000 in
theorem quorumOne_walk (v vl : Value) (w : World) (hv : ∃ l, Dos w v l) (hl : ∃ a b : Int, vl = .agg #[.int .u64 a, .int .u64 b]) :
    Calls Try.prog 7 #[v, vl] w fun e w' => e = .returned (.bool true) ∧ Below w.heap.size w w' := by
  obtain ⟨zs, hz⟩ := hv
  obtain ⟨la, lb, rfl⟩ := hl
  obtain ⟨ao, cap, rfl, hlen, hcs⟩ := dos_form hz
  have HZ := Lib.hid hz.2
  have HCS := Lib.hid hcs
  clear hz hcs
  generalize hlz : zs.length = len at *
  have HLZ := Lib.hid hlz
  clear hlz
  go_enter Try.func7, Try.ntmps7
  go_wp2_with fail
  obtain ⟨W, hW⟩ : ∃ V, V = (w.alloc (.cells #[.int .u64 la, .int .u64 lb] 43)).alloc (.cells #[.pointer none, .pointer none, .pointer none] 45) := ⟨_, rfl⟩
  rw [← hW]
  have HL := Lib.hid (show W.heap[w.heap.size]? = some (.cells #[.int .u64 la, .int .u64 lb] 43 (0, 0)) by rw [hW]; exact block_alloc (block_new w _) _)
  have HC0 := Lib.hid (show Cs w W (w.heap.size + 1) 0 (fun _ => 0) from ⟨by rw [hW]; exact block_new_at (by simp), fun a h => absurd h (Nat.not_lt_zero a), fun a _ h => absurd h (Nat.not_lt_zero a), by omega, by rw [hW]; exact ((Keep.refl _ _).alloc _).alloc _⟩)
  clear hW
  obtain ⟨XC, hXC⟩ : ∃ x, x = w.heap.size + 1 := ⟨_, rfl⟩
  rw [← hXC] at HC0 ⊢
  have HXC := Lib.hid hXC
  clear hXC
  go_loopw [6] (fun x6 wr => ∃ (i : Nat) (cb : Nat → Nat), i ≤ 3 ∧ x6 = .int .i64 (i : Int) ∧ Hid (Cs w wr XC i cb) ∧ Hid (wr.heap[w.heap.size]? = some (.cells #[.int .u64 la, .int .u64 lb] 43 (0, 0)))) (fun x6 wr => 3 - (intOf x6).toNat)
  case atStart => exact ⟨0, _, by omega, rfl, HC0, HL⟩
  case round =>
    obtain ⟨i, cb, hi, rfl, hC, hL⟩ := hrel
    by_cases hlt : i < 3
    · skip
      have NC := Lib.hid new_cell
      go_upto_region 8 with (first
        | (go_at_call 9; refine (first_any _).mono ?_; rintro e u ⟨rfl, q1⟩; have KU := Lib.hid (Keep.of0 q1); clear q1)
        | (go_at_call 20; refine (NC.out _).mono ?_; rintro e w1 ⟨b, rfl, hb, hc, k1⟩
           have K1 := Lib.hid (KU.out.trans k1)
           have HB := Lib.hid (Nat.le_trans KU.out.size hb)
           have HCC := Lib.hid hc
           clear hb hc k1 KU))
      obtain ⟨z, hz⟩ : ∃ z, (cRow cb i)[i]? = some z := ⟨_, Array.getElem?_eq_getElem (show i < (cRow cb i).size from hlt)⟩
      have hxc := (K1.out.block _ (lt_of_block hC.out.xc) (fun e => e)).trans hC.out.xc
      have z0 : w1.cell? ⟨XC, i, none⟩ = some z := (cell_at hxc i).trans hz
      have zf := free_at hxc i
      have HC1 := Lib.hid (hC.out.put hlt K1.out HB.out HCC.out)
      have HL1 := Lib.hid (((Keep.refl (fun j => j = XC) w1).set1 i (ptr b)).block _ (by have := lt_of_block hL.out; have := K1.out.size; omega) (by have := HXC.out; omega) |>.trans ((K1.out.block _ (lt_of_block hL.out) (fun e => e)).trans hL.out))
      clear hxc hz
      go_wp2_with fail
      go_roundw
      case rel => exact ⟨i + 1, _, by omega, by go_num, HC1, HL1⟩
      case measure => simp [intOf]; omega
    · skip
      obtain rfl : i = 3 := by omega
      go_upto_region 9 with fail
      refine reg9 _ rfl _ _ _ ?_
      intro W2 k2 hb2
      simp only [Act.put, List.setIfInBounds_toArray, List.set_cons_zero, List.set_cons_succ]
      rename_i hk9
      refine hk9 _ _ ?_
      clear hk9
      have K2 := Lib.hid k2
      have HP0 := Lib.hid (show Ps w W2 wr.heap.size 0 (fun _ => 0) la lb from ⟨⟨_, hb2, z84_row _⟩, fun q h => absurd h (Nat.not_lt_zero q), fun q _ h => absurd h (Nat.not_lt_zero q)⟩)
      clear k2 hb2
      have HC3 := Lib.hid (hC.out.keep0 K2.out)
      have HL3 := Lib.hid ((K2.out.block _ (lt_of_block hL.out) (fun e => e)).trans hL.out)
      have HX3 := Lib.hid (show ∀ a, a < 3 → cb a < wr.heap.size from fun a ha => (hC.out.ca a ha).2.2)
      have HXX := Lib.hid (lt_of_block hC.out.xc)
      obtain ⟨XA, hXA⟩ : ∃ x, x = wr.heap.size := ⟨_, rfl⟩
      rw [← hXA] at HP0 HX3 HXX ⊢
      have HXA := Lib.hid (show w.heap.size < XA by have := HXC.out; have := HXX.out; omega)
      clear hXA hC hL K2
      go_wp2_with fail
      go_loopw [10] (fun x10 wq => ∃ (i : Nat) (pb : Nat → Nat), i ≤ 4 ∧ x10 = .int .i64 (i : Int) ∧ Hid (Cs w wq XC 3 cb) ∧ Hid (Ps w wq XA i pb la lb) ∧ Hid (wq.heap[w.heap.size]? = some (.cells #[.int .u64 la, .int .u64 lb] 43 (0, 0)))) (fun x10 wq => 4 - (intOf x10).toNat)
      case atStart => exact ⟨0, _, by omega, rfl, HC3, HP0, HL3⟩
      case round =>
        obtain ⟨i, pb, hi, rfl, hC, hP, hL⟩ := hrel
        by_cases hlt : i < 4
        · skip
          have hb := one_bit i hlt
          have m2 : i % 2 < 2 := Nat.mod_lt _ (by omega)
          obtain ⟨k7, hk, hk8⟩ := seven (lv la lb (i % 2))
          have hme : meI i = ((i % 2 : Nat) : Int) := rfl
          have hlf : lfI la lb i = 1 + (k7 : Int) + ((i / 2 : Nat) : Int) * 8 := by unfold lfI; rw [hk]
          have hd1 : (i : Int).tdiv 2 = ((i / 2 : Nat) : Int) := by rw [Int.tdiv_eq_ediv_of_nonneg (by omega)]; rfl
          have hd2 : (i : Int) / 2 = ((i / 2 : Nat) : Int) := rfl
          have hd9 : i / 2 < 2 := by omega
          have hl1 : wr.cell? ⟨w.heap.size, i % 2, none⟩ = some (.int .u64 (lv la lb (i % 2))) := by
            rw [cell_at hL.out]
            rcases (show i % 2 = 0 ∨ i % 2 = 1 from by omega) with e | e <;> rw [e] <;> rfl
          generalize hmm : i % 2 = m at *
          generalize hdd : i / 2 = d at *
          generalize hlm : lv la lb m = lm at *
          have HMM := Lib.hid hmm
          have HDD := Lib.hid hdd
          have HME := Lib.hid hme
          have HLF := Lib.hid hlf
          clear hmm hdd hlm hme hlf
          go_upto_region 14 with fail
          clear hb hk hl1 hd1 hd2
          have N0 := Lib.hid (fun W => new_ok 1 0 1 1 (m : Int) (1 + (k7 : Int) + (d : Int) * 8) 1 (m : Int) (1 + (k7 : Int) + (d : Int) * 8) (by omega) (by omega) (by omega) (by omega) (by omega) (by omega) (by omega) (by omega) (by omega) (by omega) (by omega) (by omega) (by omega) (by omega) W)
          have hb := one_bit i hlt
          rw [HMM.out] at hb
          go_upto_region 17 with (first
            | (go_at_call 9; refine (first_any _).mono ?_; rintro e u ⟨rfl, q1⟩; have KU := Lib.hid (Keep.of0 q1); clear q1)
            | (go_at_call 10; refine (want_any _ _ _).mono ?_; rintro e u2 ⟨rfl, q2⟩; have KU2 := Lib.hid (KU.out.trans (Keep.of0 q2)); clear q2)
            | (go_at_call 8; refine (N0.out _).mono ?_; rintro e w1 ⟨b, rfl, hb1, hp1, q3⟩
               have K1 := Lib.hid (KU2.out.trans (Keep.of0 q3))
               have HB := Lib.hid (Nat.le_trans KU2.out.size hb1)
               have HPP := Lib.hid hp1
               clear hb1 hp1 q3))
          obtain ⟨cur, hc1, hc2⟩ := hP.out.xa
          have hxa := (K1.out.block _ (lt_of_block hc1) (fun e => e)).trans hc1
          have z0 : w1.cell? ⟨XA, i * 21, none⟩ = some (.pointer none) := by
            have h9 := hc2.2 i hlt 0 (by omega)
            rw [if_pos rfl, if_neg (Nat.lt_irrefl i)] at h9
            exact (cell_at hxa (i * 21)).trans h9
          have zf := free_at hxa (i * 21)
          have KX := Lib.hid (show Keep (fun j => j = XA) w1 (w1.setCell ⟨XA, i * 21, none⟩ (ptr b)) from (Keep.refl _ _).set1 _ _)
          have HP1 := Lib.hid (hP.out.put hlt K1.out HB.out (by rw [HME.out, HLF.out]; exact HPP.out))
          have HC1 := Lib.hid (Cs.keepX (hC.out.keep0 K1.out) KX.out HXX.out HX3.out (Nat.le_of_lt HXA.out))
          have HL1 := Lib.hid ((KX.out.block _ (by have := lt_of_block hL.out; have := K1.out.size; omega) (by have := HXA.out; omega)).trans ((K1.out.block _ (lt_of_block hL.out) (fun e => e)).trans hL.out))
          clear hc1 hc2 hxa hb
          go_wp2_with fail
          go_roundw
          case rel =>
            iterate 38 (apply Exists.intro)
            refine ⟨?_, rfl⟩
            exact ⟨i + 1, _, by omega, by go_num, HC1, HP1, HL1⟩
          case measure => simp [intOf]; omega
        · skip
          obtain rfl : i = 4 := by omega
          go_wp2_with fail
          obtain ⟨W4, hW4⟩ : ∃ V, V = wr.alloc (.cells #[.int .u64 0, .int .i64 0, .int .u64 0, .int .i64 0, .int .u64 0, .int .u64 0] TVw) := ⟨_, rfl⟩
          rw [← hW4]
          have K4 := Lib.hid (show Keep (fun _ => False) wr W4 by rw [hW4]; exact (Keep.refl _ _).alloc _)
          have HST := Lib.hid (St.begin hC.out hP.out HX3.out HXX.out K4.out (by rw [hW4]; exact block_new wr _))
          clear hW4
          obtain ⟨XV, hXV⟩ : ∃ x, x = wr.heap.size := ⟨_, rfl⟩
          rw [← hXV] at HST ⊢
          clear hXV
          go_loopw [15] (fun x15 wq => ∃ (i : Nat) (P : Nat → PS) (C : Nat → Ce) (T : Nat → One) (ch : Vw) (V : Votes), i ≤ len ∧ i ≤ 200 ∧ x15 = .int .i64 (i : Int) ∧ Hid (Rd w wq XC XA XV cb pb la lb i P C T ch V)) (fun x15 wq => 200 - (intOf x15).toNat)
          case atStart => exact ⟨0, _, _, _, _, _, by omega, by omega, rfl, Lib.hid ⟨HST.out, Inv.none (who la lb), fun q hq e => (by cases e), .inl rfl⟩⟩
          case round =>
            obtain ⟨i, P, C, T, ch, V, hi, hi2, rfl, hR⟩ := hrel
            by_cases hlt : i < len ∧ i < 200
            · skip
              obtain ⟨hlt, hlt2⟩ := hlt
              obtain ⟨z, hz⟩ : ∃ z, zs[i]? = some z := ⟨zs[i]'(by have := HLZ.out; omega), List.getElem?_eq_getElem _⟩
              rcases HCS.out with h0 | ⟨g, off, rfl, hg, hcell⟩
              · rw [h0] at hz; simp at hz
              obtain ⟨e0, e1, e2⟩ := hcell i z hz
              obtain ⟨kd, zw, za⟩ := z
              simp only at e0 e1 e2
              have HG := Lib.hid (show ∀ W', Keep (fun _ => False) w W' → W'.cell? ⟨g, off + i * 3, none⟩ = some (.int .i64 kd) ∧ W'.cell? ⟨g, off + i * 3 + 1, none⟩ = some (.int .i64 zw) ∧ W'.cell? ⟨g, off + i * 3 + 2, none⟩ = some (.int .i64 za) from fun W' kw => ⟨(kw.cell (p := ⟨g, _, none⟩) hg (fun e => e)).trans e0, (kw.cell (p := ⟨g, _, none⟩) hg (fun e => e)).trans e1, (kw.cell (p := ⟨g, _, none⟩) hg (fun e => e)).trans e2⟩)
              have HGL := Lib.hid hg
              clear e0 e1 e2 hcell hg hz
              obtain ⟨q, hq, hq4, -⟩ := i64_and zw 2 (by omega)
              have hq' : bits .and .i64 zw 3 = (q : Int) := hq
              have hq4' : q < 4 := hq4
              have HQ := Lib.hid hq'
              have HQ4 := Lib.hid hq4'
              obtain ⟨r, a, hr, ha3, h5⟩ := rem3 za
              have HA3 := Lib.hid ha3
              have H5 := Lib.hid h5
              have HRR := Lib.hid hr
              clear hq hq' hq4 hq4' hr ha3 h5
              go_upto_region 22 with fail
              refine reg22 _ rfl g off len cap i q a zw za r rfl rfl hlt _ _ wr (Lib.hid ⟨(HG.out wr hR.out.st.k).2.1, (HG.out wr hR.out.st.k).2.2, Nat.lt_of_lt_of_le HGL.out hR.out.st.k.size⟩) HQ.out HRR.out H5 (fun _ _ _ _ _ h => h) ?_
              intro v81 v82 v83 v84 v85 v86 v87 v88 v89 v90 v91 v92 v93 v94 w1 k1
              simp only [Act.put, List.setIfInBounds_toArray, List.set_cons_zero, List.set_cons_succ]
              rename_i KX hk
              refine hk _ _ ?_
              clear hk KX
              have hR1 := Lib.hid (⟨hR.out.st.keep0 k1, hR.out.inv, hR.out.told, hR.out.ch⟩ : Rd w w1 XC XA XV cb pb la lb i P C T ch V)
              clear k1
              go_upto_region 23 with fail
              refine reg23 _ rfl XA q pb T rfl rfl HQ4.out _ _ w1 hR1.out.st.xa ?_
              intro v95 v96 v97 w2 k2 hx2
              simp only [Act.put, List.setIfInBounds_toArray, List.set_cons_zero, List.set_cons_succ]
              rename_i KX hk
              refine hk _ _ ?_
              clear hk KX
              have hR2 := Lib.hid (⟨hR1.out.st.keep0 k2, hR1.out.inv, hR1.out.told, hR1.out.ch⟩ : Rd w w2 XC XA XV cb pb la lb i P C T ch V)
              obtain ⟨X, hX⟩ : ∃ x, x = w1.heap.size := ⟨_, rfl⟩
              rw [← hX] at hx2 ⊢
              have HX2 := Lib.hid hx2
              have HXN := Lib.hid (show X ≠ XC ∧ X ≠ XA ∧ X ≠ XV ∧ (∀ j, j < 3 → X ≠ cb j) ∧ (∀ j, j < 4 → X ≠ pb j) ∧ w.heap.size ≤ X from ⟨by have := lt_of_block hR1.out.st.xc; omega, by have := lt_of_block hR1.out.st.xa; omega, by have := lt_of_block hR1.out.st.xv; omega, fun j hj => by have := lt_of_block (hR1.out.st.ca j hj); omega, fun j hj => by have := lt_of_block (hR1.out.st.pa j hj); omega, by have := hR1.out.st.k.size; omega⟩)
              clear hX k2 hx2 hR hR1
              skip
              refine QuoQA.act_any w w2 g off len cap i q a X XC XA XV cb pb la lb kd P C T ch V _ _ _ _ _ _ _ _ _ _ _ _ _ _ _ _ _ _ _ _ _ _ _ _ _ _ _ _ _ _ _ _ _ _ _ _ _ _ _ _ _ _ _ _ _ _ _ _ _ _ _ _ _ _ _ _ _ _ _ _ _ _ _ _ _ _ _ _ _ _ _ _ _ _ _ _ _ _ _ _ _ _ _ _ _ _ _ _ _ _ _ _ _ _ _ _ _ _ _ _ _ _ _ _ _ _ _ _ _ _ _ _ _ _ _ _ _ _ _ _ _ _ _ _ _ _ _ _ _ _ _ _ _ _ _ _ _ _ _ _ _ _ _ _ _ _ _ _ _ _ _ _ _ _ _ _ _ _ _ _ _ _ _ _ _ _ _ _ _ _ _ _ _ _ _ _ _ _ _ _ _ _ _ _ _ _ _ _ _ _ _ _ _ _ _ _ _ _ _ _ _ _ _ _ _ _ _ _ _ _ _ _ _ _ _ _ _ _ _ _ _ (HG.out w2 hR2.out.st.k).1 hlt hlt2 hR2 HX2 HXN HQ4 HA3 _ (fun _ _ _ _ _ h => h) ?_ ?_
              · intro y19 y20 y98 y99 y100 y101 y102 y103 y104 y105 y106 y107 y108 y109 y110 y111 y112 y113 y114 y115 y116 y117 y118 y119 y120 y121 y122 y123 y124 y125 y126 y127 y128 y129 y130 y131 y132 y133 y134 y135 y136 y137 y138 y139 y140 y141 y142 y143 y144 y145 y146 y147 y148 y149 y150 y151 y152 y153 y154 y155 y156 y157 y158 y159 y160 y161 y162 y163 y164 y165 y166 y167 y168 y169 y170 y171 y172 y173 y174 y175 y176 y177 y178 y179 y180 y181 y182 y183 y184 y185 y186 y187 y188 y189 y190 y191 y192 y193 y194 y195 y196 y197 y198 y199 y200 y201 y202 y203 y204 y205 y206 y207 y208 y209 y210 y211 y212 y213 y214 y215 y216 y217 y218 y219 y220 y221 y222 y223 y224 y225 y226 y227 W' hE
                obtain ⟨P', C', T', ch', V', hF⟩ := hE
                have HF := Lib.hid hF
                clear hF
                simp only [Exit.inBlock, Exit.then]
                rename_i hk
                refine hk _ _ ?_
                clear hk
                go_wp2_with fail
                go_roundw
                case rel => first | exact ⟨i + 1, _, _, _, _, _, by omega, by omega, by go_num, HF⟩ | (iterate 164 (apply Exists.intro)); refine ⟨?_, rfl⟩; exact ⟨i + 1, _, _, _, _, _, by omega, by omega, by go_num, HF⟩
                case measure => simp [intOf]; omega
              · intro y19 y20 y98 y99 y100 y101 y102 y103 y104 y105 y106 y107 y108 y109 y110 y111 y112 y113 y114 y115 y116 y117 y118 y119 y120 y121 y122 y123 y124 y125 y126 y127 y128 y129 y130 y131 y132 y133 y134 y135 y136 y137 y138 y139 y140 y141 y142 y143 y144 y145 y146 y147 y148 y149 y150 y151 y152 y153 y154 y155 y156 y157 y158 y159 y160 y161 y162 y163 y164 y165 y166 y167 y168 y169 y170 y171 y172 y173 y174 y175 y176 y177 y178 y179 y180 y181 y182 y183 y184 y185 y186 y187 y188 y189 y190 y191 y192 y193 y194 y195 y196 y197 y198 y199 y200 y201 y202 y203 y204 y205 y206 y207 y208 y209 y210 y211 y212 y213 y214 y215 y216 y217 y218 y219 y220 y221 y222 y223 y224 y225 y226 y227 W' hE
                obtain ⟨P', C', T', ch', V', hF⟩ := hE
                have HF := Lib.hid hF
                clear hF
                simp only [Exit.inBlock, Exit.then, if_true, reduceIte]
                rename_i hk
                refine hk _ _ ?_
                clear hk
                go_wp2_with fail
                go_roundw
                case rel => first | exact ⟨i + 1, _, _, _, _, _, by omega, by omega, by go_num, HF⟩ | (iterate 164 (apply Exists.intro)); refine ⟨?_, rfl⟩; exact ⟨i + 1, _, _, _, _, _, by omega, by omega, by go_num, HF⟩
                case measure => simp [intOf]; omega
            · skip
              have hge : ¬ i < len ∨ (i < len ∧ ¬ i < 200) := by omega
              have KR := Lib.hid hR.out.st.k
              have AW := Lib.hid (QuoA.awake_any wr)
              clear hR
              rcases hge with h1 | ⟨h1, h2⟩
              · have hii : ¬ (i : Int) < (len : Int) := by omega
                go_wp2_with (go_at_call 11; refine AW.out.mono ?_; rintro e w9 ⟨rfl, q9⟩)
                go_ret
                exact ⟨rfl, (KR.out.below (Nat.le_refl _) (fun j e => False.elim e)).trans (q9.mono KR.out.size)⟩
              · obtain rfl : i = 200 := by omega
                have hii : ((200 : Nat) : Int) < (len : Int) := by omega
                go_wp2_with (go_at_call 11; refine AW.out.mono ?_; rintro e w9 ⟨rfl, q9⟩)
                go_ret
                exact ⟨rfl, (KR.out.below (Nat.le_refl _) (fun j e => False.elim e)).trans (q9.mono KR.out.size)⟩

end Go.Proofs.Ytppnjkiegiokeaa.QuoJ
