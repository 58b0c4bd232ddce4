/-
  Layer 22 (net): the law's own model: do, NdI.
-/
import Derived.Test.YtdmdegjomikmlaaNdB
import Derived.Test.YtdmdegjomikmlaaNdS
namespace Go.Proofs.Ytdmdegjomikmlaa.NdI
set_option linter.unusedVariables false
set_option linter.unusedSimpArgs false
set_option maxRecDepth 100000
open Go.RowKit Go.Proofs.Ytdmdegjomikmlaa.Mem Go.Proofs.Ytdmdegjomikmlaa.NetM Go.Proofs.Ytdmdegjomikmlaa.NetW Go.Proofs.Ytdmdegjomikmlaa.NetS Go.Proofs.Ytdmdegjomikmlaa.NetD Go.Proofs.Ytdmdegjomikmlaa.NetT Go.Proofs.Ytdmdegjomikmlaa.NetA Go.Proofs.Ytdmdegjomikmlaa.NetY Go.Proofs.Ytdmdegjomikmlaa.NetZ Go.Proofs.Ytdmdegjomikmlaa.NetO Go.Proofs.Ytdmdegjomikmlaa.NetB Go.Proofs.Ytdmdegjomikmlaa.NetF Go.Proofs.Ytdmdegjomikmlaa.NetH Go.Proofs.Ytdmdegjomikmlaa.NetU Go.Proofs.Ytdmdegjomikmlaa.NdA Go.Proofs.Ytdmdegjomikmlaa.NdB Go.Proofs.Ytdmdegjomikmlaa.NetC Go.Proofs.Ytdmdegjomikmlaa.NetX Go.Proofs.Ytdmdegjomikmlaa.NdS
attribute [-go_sem] Builtin.append_

set_option maxHeartbeats 32000000 in
theorem do_0 (b mb n k m cl cc : Nat) (al ac : Option Addr) (ps : List Pk) (cs : List (Int × Int)) (S : Int → Int → Bool) (v : Value) (x : Do) (w : World) (F : Nat → Prop) (B : Nat) (hI : In w F B b mb n k m cl cc al ac ps cs S v) (hx : x.Ok) (hkd : x.kind ≠ 4 ∧ x.kind ≠ 5 ∧ x.kind ≠ 6 ∧ x.kind ≠ 7 ∧ x.kind ≠ 8 ∧ x.kind ≠ 9) :
    Calls Try.prog 17 #[.agg #[.slice al k cl, .slice ac m cc], .pointer (some ⟨b, 0, none⟩), .agg x.cells.toArray] w fun e w' => ∃ vl vc, e = .returned (.tuple #[.agg #[vl, vc], .bool true]) ∧ Did w w' F b mb ps cs n B vl vc := by
  have HI := Lib.hid hI
  have hk9 := hI.k9
  have hm9 := hI.m9
  have hn9 := hI.n9
  clear hI
  obtain ⟨kd, a, c, at_, bits, s⟩ := x
  obtain ⟨wa, wc', wt, wb, ws⟩ := hx
  simp only at wa wc' wt wb ws hkd
  obtain ⟨n4, n5, n6, n7, n8, n9⟩ := hkd
  have o4 : (kd == 4) = false := beq_eq_false_iff_ne.2 n4
  have o5 : (kd == 5) = false := beq_eq_false_iff_ne.2 n5
  have o6 : (kd == 6) = false := beq_eq_false_iff_ne.2 n6
  have o7 : (kd == 7) = false := beq_eq_false_iff_ne.2 n7
  have o8 : (kd == 8) = false := beq_eq_false_iff_ne.2 n8
  have o9 : (kd == 9) = false := beq_eq_false_iff_ne.2 n9
  unfold Do.cells
  go_enter Try.func17, Try.ntmps17
  go_upto_region 1 with fail
  obtain ⟨W, hW⟩ : ∃ W, W = ((w.alloc (.cells #[.slice al k cl, .slice ac m cc] TMo)).alloc (.cells #[.int .i64 kd, .int .i64 a, .int .i64 c, .int .i64 at_, .int .i64 bits, .string s] 43)).alloc (.cells #[.slice none 0 0, .slice none 0 0] TMo) := ⟨_, rfl⟩
  rw [← hW]
  have hM0 : W.heap[w.heap.size]? = some (.cells #[.slice al k cl, .slice ac m cc] TMo (0, 0)) := by rw [hW]; exact block_alloc (block_alloc (block_new w _) _) _
  have hA0 : W.heap[w.heap.size + 1]? = some (.cells #[.int .i64 kd, .int .i64 a, .int .i64 c, .int .i64 at_, .int .i64 bits, .string s] 43 (0, 0)) := by rw [hW]; exact block_alloc (block_new_at (by simp)) _
  have hZ0 : W.heap[w.heap.size + 1 + 1]? = some (.cells #[.slice none 0 0, .slice none 0 0] TMo (0, 0)) := by rw [hW]; exact block_new_at (by simp)
  have hkW : Keep (fun _ => False) w W := by rw [hW]; exact (((Keep.refl _ w).alloc _).alloc _).alloc _
  have hsW : W.heap.size = w.heap.size + 3 := by rw [hW]; simp
  have HMb := Lib.hid hM0
  have HAb := Lib.hid hA0
  have HZb := Lib.hid hZ0
  have HKW := Lib.hid hkW
  have HSW := Lib.hid hsW
  have HBIG := Lib.hid (show ∀ q, w.heap.size ≤ q → ¬ F q from fun q hq f => by have := HI.out.foot q f; omega)
  have m0 := cell_at hM0 0
  have m1 := cell_at hM0 1
  have a0 := cell_at hA0 0
  have a1 := cell_at hA0 1
  have a2 := cell_at hA0 2
  have a3 := cell_at hA0 3
  have a4 := cell_at hA0 4
  have a5 := cell_at hA0 5
  simp at m0 m1 a0 a1 a2 a3 a4 a5
  clear hW hM0 hA0 hZ0 hkW hsW
  go_cut [8] (fun x8 W' => x8 = .bool (decide (0 ≤ at_) && decide (at_ < (k : Int))) ∧ W' = W)
  case first =>
    by_cases h1 : 0 ≤ at_
    · by_cases h2 : at_ < (k : Int)
      · go_wp2_with fail
        go_meet
        exact ⟨by simp [h1, h2], rfl⟩
      · go_wp2_with fail
        go_meet
        exact ⟨by simp [h1, h2], rfl⟩
    · go_wp2_with fail
      go_meet
      exact ⟨by rw [decide_eq_false (by omega)]; rfl, rfl⟩
  case rest =>
    obtain ⟨rfl, rfl⟩ := hcut
    obtain ⟨isb, hisb⟩ : ∃ q, q = (decide (0 ≤ at_) && decide (at_ < (k : Int))) := ⟨_, rfl⟩
    rw [← hisb]
    clear hisb
    go_upto_if 257 with fail
    go_cut [23] (fun x W' => (∃ s2 : ByteArray, x = .string s2 ∧ s2.size ≤ 9223372036854775807) ∧ W' = wc)
    case first =>
      by_cases h : (50 : Int) < s.size
      · go_wp2_with fail
        go_meet
        exact ⟨⟨s.extract 0 50, rfl, by simp; omega⟩, rfl⟩
      · go_wp2_with fail
        go_meet
        exact ⟨⟨s, rfl, ws⟩, rfl⟩
    case rest =>
      obtain ⟨⟨s2, rfl, hs2⟩, rfl⟩ := hcut
      clear n4 n5 n6 n7 n8 n9 o4 o5 o6 o7 o8 o9 m0 m1 a0 a3 a4 a5
      go_upto_region 51 with fail
      clear a1 a2
      obtain ⟨w3, hw3⟩ : ∃ V, V = wc.alloc (.cells #[.int .i64 a, .int .i64 c, .string s2, .bool false] TP) := ⟨_, rfl⟩
      rw [← hw3]
      have KA := Lib.hid (show Keep (fun _ => False) wc w3 by rw [hw3]; exact (Keep.refl _ _).alloc _)
      have HX3 := Lib.hid (show w3.heap[wc.heap.size]? = some (.cells #[.int .i64 a, .int .i64 c, .string s2, .bool false] TP (0, 0)) by rw [hw3]; exact block_new wc _)
      clear hw3
      have HM3 := Lib.hid ((KA.out.block _ (lt_of_block HMb.out) (fun e => e)).trans HMb.out)
      have HZ3 := Lib.hid ((KA.out.block _ (lt_of_block HZb.out) (fun e => e)).trans HZb.out)
      have KW3 := Lib.hid (HKW.out.trans KA.out)
      have HW9 := Lib.hid (lt_of_block HZ3.out)
      have hlen := snd_len HI.out.same ps ⟨a, c, s2, false⟩
      have hoff := snd_off HI.out.same (p := ⟨a, c, s2, false⟩) HI.out.off
      have hsm := send_m2 (w := w3) (F := (fun q => F q ∨ q = w.heap.size + 1 + 1)) (B := B) (p := ⟨a, c, s2, false⟩) HI.out.same (fun q f => f.elim (fun f => by have := HI.out.foot q f; have := HW9.out; omega) (fun e => by have := HW9.out; omega)) (by have := HI.out.b; have := HW9.out; omega) HI.out.hk HI.out.k9 HI.out.hm HI.out.m9 (HI.out.l.move (F2 := (fun q => F q ∨ q = w.heap.size + 1 + 1)) (KW3.out.toAny) (fun q f => f.imp id (fun e => by omega))) (HI.out.c.move (F2 := (fun q => F q ∨ q = w.heap.size + 1 + 1)) (KW3.out.toAny) (fun q f => f.imp id (fun e => by omega)))
      have hsd := fun (w6 : World) (k6 : Keep (fun _ => False) w w6) => send_any (HI.out.net.keep0 k6) (fun q f => by have := HI.out.foot q f; have := k6.size; omega) TP [⟨a, c, s2, false⟩] (fun p hp => by rw [List.mem_singleton.1 hp]; exact ⟨wa, wc', hs2⟩) (by have := HI.out.hk; have := HI.out.k9; show ps.length + 1 ≤ 100000; omega)
      obtain ⟨R, hR⟩ : ∃ R, R = snd S ps [⟨a, c, s2, false⟩] := ⟨_, rfl⟩
      rw [← hR] at hlen hoff hsm
      simp only [← hR] at hsd
      clear hR
      have hq := (show ((R.2 : Int) == 1) = (R.2 == 1) by rw [Bool.eq_iff_iff, beq_iff_eq, beq_iff_eq]; omega)
      have HRL := Lib.hid (rfl : R.1.length = R.1.length)
      obtain ⟨bb, hbb⟩ : ∃ q, q = (R.2 == 1) := ⟨_, rfl⟩
      rw [← hbb] at hsm hq
      clear hbb
      obtain ⟨k2, hk2⟩ : ∃ q, q = R.1.length := ⟨_, rfl⟩
      have HK2 := Lib.hid hk2
      rw [← hk2] at hsm
      clear hk2
      obtain ⟨q2, hq2⟩ : ∃ q : Int, q = (R.2 : Int) := ⟨_, rfl⟩
      rw [← hq2] at hq
      simp only [← hq2] at hsd
      clear hq2
      unfold Pk.agg Pk.cells at hsm
      have HSM := Lib.hid hsm
      have HL := Lib.hid hlen
      have HO := Lib.hid hoff
      have HSD := Lib.hid hsd
      have HQ2 := Lib.hid hq
      clear hsm hlen hoff hsd hq HRL
      have m0 := cell_at HM3.out 0
      have m1 := cell_at HM3.out 1
      have x0 := cell_at HX3.out 0
      have x1 := cell_at HX3.out 1
      have x2 := cell_at HX3.out 2
      have x3 := cell_at HX3.out 3
      simp at m0 m1 x0 x1 x2 x3
      go_upto_region 52 with (go_at_call 27; refine HSM.out.mono ?_; clear HSM; rintro e w4 ⟨a4, c4, rfl, r4, k4⟩; replace r4 := Lib.hid r4; replace k4 := Lib.hid k4)
      clear m0 m1 x0 x1 x2 x3
      obtain ⟨w5, hw5⟩ : ∃ V, V = w4.alloc (.cells #[.slice a4 k2 c4, .slice ac m cc] TMo) := ⟨_, rfl⟩
      rw [← hw5]
      have K45 := Lib.hid (show Keep (fun _ => False) w4 w5 by rw [hw5]; exact (Keep.refl _ _).alloc _)
      have HY5 := Lib.hid (show w5.heap[w4.heap.size]? = some (.cells #[.slice a4 k2 c4, .slice ac m cc] TMo (0, 0)) by rw [hw5]; exact block_new w4 _)
      clear hw5
      have K35 := Lib.hid (k4.out.trans K45.out)
      have HX5 := Lib.hid ((K35.out.block _ (lt_of_block HX3.out) (fun e => e)).trans HX3.out)
      have HZ5 := Lib.hid ((K35.out.block _ (lt_of_block HZ3.out) (fun e => e)).trans HZ3.out)
      have KW5 := Lib.hid (KW3.out.trans K35.out)
      have K4S := Lib.hid k4.out.size
      have HS := Lib.hid (show ∀ w' : World, Keep (fun q => F q ∨ q = w.heap.size + 1 + 1) w5 w' → w'.cell? ⟨w4.heap.size, 0, none⟩ = some (.slice a4 k2 c4) ∧ w'.cell? ⟨w4.heap.size, 1, none⟩ = some (.slice ac m cc) ∧ w'.cell? ⟨wc.heap.size, 0, none⟩ = some (.int .i64 a) ∧ w'.cell? ⟨wc.heap.size, 1, none⟩ = some (.int .i64 c) ∧ w'.cell? ⟨wc.heap.size, 2, none⟩ = some (.string s2) ∧ w'.cell? ⟨wc.heap.size, 3, none⟩ = some (.bool false) from fun w' kw => by
        have hf := fun q (hq : w.heap.size ≤ q) (hz : q ≠ w.heap.size + 1 + 1) => (fun (f : F q ∨ q = w.heap.size + 1 + 1) => f.elim (HBIG.out q hq) hz : ¬ (F q ∨ q = w.heap.size + 1 + 1))
        have hy := (kw.block _ (lt_of_block HY5.out) (hf _ (by have := HW9.out; have := K4S.out; omega) (by have := HW9.out; have := K4S.out; omega))).trans HY5.out
        have hx := (kw.block _ (lt_of_block HX5.out) (hf _ (by have := HSW.out; omega) (by have := HSW.out; omega))).trans HX5.out
        exact ⟨cell_at hy 0, cell_at hy 1, cell_at hx 0, cell_at hx 1, cell_at hx 2, cell_at hx 3⟩)
      refine wp_region_held_drew (S := (fun w' => Keep (fun q => F q ∨ q = w.heap.size + 1 + 1) w5 w')) (by kernel_rfl) ?_ (fun hHeld => ?_)
      · exact (Keep.refl _ w5).drew
      generalize hw6 : w5.drew = w6 at hHeld ⊢
      have KD := Lib.hid (show Keep (fun _ => False) w5 w6 by rw [← hw6]; exact (Keep.refl _ w5).drew)
      clear hw6
      refine wpAnyH_take (i := 0) (oi := { dst := some 272, op := Op.load 39 (Operand.tmp 25), type := 39, pos := "law.go:119", after := #[], guard := none }) (v := .agg #[.slice a4 k2 c4, .slice ac m cc]) rfl (by kernel_rfl) (by kernel_rfl) (by kernel_rfl) (fun _ _ _ h => h) (Or.inl ⟨by rfl, ?_⟩) (by assumption) ?_
      · (intro w' hSw; (try dsimp only at hSw); obtain ⟨x0, x1, x2, x3, x4, x5⟩ := HS.out w' hSw; go_simp)
      try simp only [Act.put, List.setIfInBounds_toArray, List.set_cons_zero, List.set_cons_succ]
      refine wpAnyH_take (i := 1) (oi := { dst := some 273, op := Op.move (Operand.tmp 1), type := 23, pos := "law.go:119", after := #[], guard := none }) (v := .pointer (some ⟨b, 0, none⟩)) rfl (by kernel_rfl) (by kernel_rfl) (by kernel_rfl) (fun _ _ _ h => h) (Or.inl ⟨by rfl, ?_⟩) (by assumption) ?_
      · (intro w' hSw; (try dsimp only at hSw); go_simp)
      try simp only [Act.put, List.setIfInBounds_toArray, List.set_cons_zero, List.set_cons_succ]
      refine wpAnyH_take (i := 2) (oi := { dst := some 274, op := Op.load 27 (Operand.tmp 24), type := 27, pos := "law.go:119", after := #[], guard := none }) (v := .agg #[.int .i64 a, .int .i64 c, .string s2, .bool false]) rfl (by kernel_rfl) (by kernel_rfl) (by kernel_rfl) (fun _ _ _ h => h) (Or.inl ⟨by rfl, ?_⟩) (by assumption) ?_
      · (intro w' hSw; (try dsimp only at hSw); obtain ⟨x0, x1, x2, x3, x4, x5⟩ := HS.out w' hSw; go_simp)
      try simp only [Act.put, List.setIfInBounds_toArray, List.set_cons_zero, List.set_cons_succ]
      refine wpAnyH_take (i := 6) (oi := { dst := some 278, op := Op.move (Operand.tmp 26), type := 4, pos := "law.go:119", after := #[{ on := 8, ground := Ground.gcOnly Departure.lateStores }], guard := none }) (v := .bool bb) rfl (by kernel_rfl) (by kernel_rfl) (by kernel_rfl) (fun _ _ _ h => h) (Or.inl ⟨by rfl, ?_⟩) (by assumption) ?_
      · (intro w' hSw; (try dsimp only at hSw); go_simp)
      try simp only [Act.put, List.setIfInBounds_toArray, List.set_cons_zero, List.set_cons_succ]
      refine wpAnyH_ready (rs := [3]) (by kernel_rfl) (by simp) ?_
      refine AllReadyH.cons (o := { dst := some 275, op := Op.buildSlice 32 1 #[(0, Operand.tmp 274)], type := 32, pos := "law.go:119", after := #[{ on := 2, ground := Ground.data }], guard := none }) rfl (fun K hK => ?_) AllReadyH.nil
      have hsd : Calls Try.prog 10 #[.pointer (some ⟨b, 0, none⟩), .slice (some ⟨w6.heap.size, 0, none⟩) 1 1] (w6.alloc (.cells #[.int .i64 a, .int .i64 c, .string s2, .bool false] TP)) fun e w' => e = .returned (.int .i64 q2) ∧ Up w6 w' F b R.1 n S mb := HSD.out w6 (KW5.out.trans KD.out)
      go_simp
      obtain ⟨w7, hw7⟩ : ∃ V, V = w6.alloc (.cells #[.int .i64 a, .int .i64 c, .string s2, .bool false] TP) := ⟨_, rfl⟩
      rw [← hw7] at hsd ⊢
      have K67 := Lib.hid (show Keep (fun _ => False) w6 w7 by rw [hw7]; exact (Keep.refl _ _).alloc _)
      clear hw7
      have HD := Lib.hid hsd
      clear hsd
      refine hK.out _ _ ((KD.out.trans K67.out).toAny) (fun hHeld => ?_)
      clear hK K
      try simp only [Act.put, List.setIfInBounds_toArray, List.set_cons_zero, List.set_cons_succ]
      refine wpAnyH_ready (rs := [4]) (by kernel_rfl) (by simp) ?_
      refine AllReadyH.cons (o := { dst := some 276, op := Op.call { callee := Callee.value (Operand.func 10), args := #[Operand.tmp 273, Operand.tmp 275], argTypes := #[23, 32] }, type := 3, pos := "law.go:119", after := #[{ on := 1, ground := Ground.data }, { on := 3, ground := Ground.data }], guard := none }) rfl (fun K hK => ?_) AllReadyH.nil
      go_simp
      go_at_call 10
      refine HD.out.mono ?_
      clear HD
      rintro e w8 ⟨rfl, F2, v2, n8, g1, g2, k8⟩
      replace n8 := Lib.hid n8
      replace g1 := Lib.hid g1
      replace g2 := Lib.hid g2
      replace k8 := Lib.hid k8
      have KG := Lib.hid (show Keep (fun q => F q ∨ q = w.heap.size + 1 + 1) w6 w8 from k8.out.mono (fun q _ f => .inl f))
      go_simp
      refine hK.out _ _ (KD.out.toAny.trans KG.out) (fun hHeld => ?_)
      clear hK K
      try simp only [Act.put, List.setIfInBounds_toArray, List.set_cons_zero, List.set_cons_succ]
      refine wpAnyH_take (i := 5) (oi := { dst := some 277, op := Op.binOp BinOp.eql 3 (Operand.tmp 276) (Operand.const (Value.int IntKind.i64 1)) 3, type := 4, pos := "law.go:119", after := #[{ on := 4, ground := Ground.data }, { on := 8, ground := Ground.gcOnly Departure.lateStores }], guard := none }) (v := .bool bb) rfl (by kernel_rfl) (by kernel_rfl) (by kernel_rfl) (fun _ _ _ h => h) (Or.inl ⟨by rfl, ?_⟩) (by assumption) ?_
      · (intro w' hSw; (try dsimp only at hSw); have hq1 := HQ2.out; have hq3 : decide (q2 = 1) = bb := hq1; go_simp)
      try simp only [Act.put, List.setIfInBounds_toArray, List.set_cons_zero, List.set_cons_succ]
      refine wpAnyH_take (i := 7) (oi := { dst := some 279, op := Op.binOp BinOp.eql 4 (Operand.tmp 277) (Operand.tmp 278) 4, type := 4, pos := "law.go:119", after := #[{ on := 5, ground := Ground.data }, { on := 6, ground := Ground.data }, { on := 8, ground := Ground.gcOnly Departure.lateStores }], guard := none }) (v := .bool true) rfl (by kernel_rfl) (by kernel_rfl) (by kernel_rfl) (fun _ _ _ h => h) (Or.inl ⟨by rfl, ?_⟩) (by assumption) ?_
      · (intro w' hSw; (try dsimp only at hSw); go_simp)
      try simp only [Act.put, List.setIfInBounds_toArray, List.set_cons_zero, List.set_cons_succ]
      have HZr := Lib.hid ((k8.out.block _ (by have := lt_of_block HZ5.out; have := KD.out.size; omega) (HBIG.out _ (by omega))).trans ((KD.out.block _ (lt_of_block HZ5.out) (fun e => e)).trans HZ5.out))
      have z0 := cell_at HZr.out 0
      have f0 := free_at HZr.out 0
      have hz1 := block_set HZr.out 0 (.slice a4 k2 c4)
      have z1 := cell_at hz1 1
      have f1 := free_at hz1 1
      have hz2 := block_set hz1 1 (.slice ac m cc)
      simp at z0 z1
      have HQ := Lib.hid hz2
      have HKZ := Lib.hid (show Keep (fun q => q = w.heap.size + 1 + 1) w8 ((w8.setCell ⟨w.heap.size + 1 + 1, 0, none⟩ (.slice a4 k2 c4)).setCell ⟨w.heap.size + 1 + 1, 1, none⟩ (.slice ac m cc)) from ((Keep.refl (fun q => q = w.heap.size + 1 + 1) w8).set1 _ _).set1 _ _)
      clear hz1 hz2
      refine wpAnyH_ready (rs := [8]) (by kernel_rfl) (by simp) ?_
      refine AllReadyH.cons (o := { dst := none, op := Op.store 39 (Operand.tmp 6) (Operand.tmp 272), type := 0, pos := "law.go:119", after := #[{ on := 0, ground := Ground.data }, { on := 4, ground := Ground.chain }, { on := 0, ground := Ground.phase }, { on := 1, ground := Ground.textOnly Departure.lateStores }, { on := 2, ground := Ground.textOnly Departure.lateStores }, { on := 3, ground := Ground.textOnly Departure.lateStores }, { on := 4, ground := Ground.textOnly Departure.lateStoresUnsure }, { on := 5, ground := Ground.textOnly Departure.lateStores }, { on := 6, ground := Ground.textOnly Departure.lateStores }, { on := 7, ground := Ground.textOnly Departure.lateStores }], guard := none }) rfl (fun K hK => ?_) AllReadyH.nil
      go_simp
      refine hK.out _ _ ((KD.out.toAny.trans KG.out).trans (HKZ.out.mono (fun q _ e => .inr e))) (fun hHeld => ?_)
      clear hK K
      try simp only [Act.put, List.setIfInBounds_toArray, List.set_cons_zero, List.set_cons_succ]
      refine wpAnyH_take (i := 9) (oi := { dst := some 7, op := Op.assign (Operand.tmp 279), type := 4, pos := "law.go:119", after := #[{ on := 7, ground := Ground.data }, { on := 8, ground := Ground.chain }, { on := 0, ground := Ground.phase }, { on := 1, ground := Ground.phase }, { on := 2, ground := Ground.phase }, { on := 3, ground := Ground.phase }, { on := 4, ground := Ground.phase }, { on := 5, ground := Ground.phase }, { on := 6, ground := Ground.phase }, { on := 7, ground := Ground.phase }, { on := 8, ground := Ground.phase }], guard := none }) (v := .bool true) rfl (by kernel_rfl) (by kernel_rfl) (by kernel_rfl) (fun _ _ _ h => h) (Or.inl ⟨by rfl, ?_⟩) (by assumption) ?_
      · (intro w' hSw; (try dsimp only at hSw); go_simp)
      try simp only [Act.put, List.setIfInBounds_toArray, List.set_cons_zero, List.set_cons_succ]
      refine wpAnyH_done (by kernel_rfl) ?_ _
      go_wp2_with fail
      have e2 := HK2.out
      subst e2
      have K46 := Lib.hid (K45.out.trans KD.out)
      have KF := Lib.hid (KG.out.trans (HKZ.out.mono (fun q _ e => .inr e)))
      have q0 := cell_at HQ.out 0
      have q1 := cell_at HQ.out 1
      simp at q0 q1
      refine bodyPost_ret (v := .tuple #[.agg #[.slice a4 R.1.length c4, .slice ac m cc], .bool true]) ?_ rfl ⟨_, _, rfl, Did.of (S0 := fun q => q = w.heap.size + 1 + 1) (W := w6) (w2 := w8) (ps' := R.1) (cs' := cs) HI.out.foot (KW5.out.trans KD.out) n8.out g1.out g2.out k8.out (fun i e => by have := lt_of_block HZ5.out; have := KD.out.size; omega) HKZ.out HI.out.same HO.out (fun kk => ⟨(r4.out.keep K46.out (fun _ _ e => e.elim)).move KF.out (fun q f => (g2.out q f).imp .inl id), by rw [← HI.out.hm]; exact HI.out.c.move kk (fun q f => (g2.out q f).imp id (fun e => by have := KW5.out.size; have := KD.out.size; omega))⟩) HL.out (by omega) (by omega)⟩
      simp [results, Try.results17, go_sem, q0, q1]

end Go.Proofs.Ytdmdegjomikmlaa.NdI
