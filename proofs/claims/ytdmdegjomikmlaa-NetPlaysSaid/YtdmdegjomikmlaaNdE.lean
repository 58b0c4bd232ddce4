/-
  Layer 22 (net): the law's own model: do, NdE.
-/
import Derived.Test.YtdmdegjomikmlaaNdB
import Derived.Test.YtdmdegjomikmlaaNdS
namespace Go.Proofs.Ytdmdegjomikmlaa.NdE
set_option linter.unusedVariables false
set_option linter.unusedSimpArgs false
set_option maxRecDepth 100000
open Go.RowKit Go.Proofs.Ytdmdegjomikmlaa.Mem Go.Proofs.Ytdmdegjomikmlaa.NetM Go.Proofs.Ytdmdegjomikmlaa.NetW Go.Proofs.Ytdmdegjomikmlaa.NetS Go.Proofs.Ytdmdegjomikmlaa.NetD Go.Proofs.Ytdmdegjomikmlaa.NetT Go.Proofs.Ytdmdegjomikmlaa.NetA Go.Proofs.Ytdmdegjomikmlaa.NetY Go.Proofs.Ytdmdegjomikmlaa.NetZ Go.Proofs.Ytdmdegjomikmlaa.NetO Go.Proofs.Ytdmdegjomikmlaa.NetB Go.Proofs.Ytdmdegjomikmlaa.NetF Go.Proofs.Ytdmdegjomikmlaa.NetH Go.Proofs.Ytdmdegjomikmlaa.NetU Go.Proofs.Ytdmdegjomikmlaa.NdA Go.Proofs.Ytdmdegjomikmlaa.NdB Go.Proofs.Ytdmdegjomikmlaa.NetC Go.Proofs.Ytdmdegjomikmlaa.NetX Go.Proofs.Ytdmdegjomikmlaa.NdS
attribute [-go_sem] Builtin.append_

set_option maxHeartbeats 16000000 in
theorem do_6 (b mb n k m cl cc : Nat) (al ac : Option Addr) (ps : List Pk) (cs : List (Int × Int)) (S : Int → Int → Bool) (v : Value) (x : Do) (w : World) (F : Nat → Prop) (B : Nat) (hI : In w F B b mb n k m cl cc al ac ps cs S v) (hx : x.Ok) (hkd : x.kind = 6) :
    Calls Try.prog 17 #[.agg #[.slice al k cl, .slice ac m cc], .pointer (some ⟨b, 0, none⟩), .agg x.cells.toArray] w fun e w' => ∃ vl vc, e = .returned (.tuple #[.agg #[vl, vc], .bool true]) ∧ Did w w' F b mb ps cs n B vl vc := by
  have HI := Lib.hid hI
  have hk9 := hI.k9
  have hm9 := hI.m9
  have hn9 := hI.n9
  clear hI
  obtain ⟨kd, a, c, at_, bits, s⟩ := x
  obtain ⟨wa, wc', wt, wb, ws⟩ := hx
  simp only at wa wc' wt wb ws hkd
  subst hkd
  unfold Do.cells
  go_enter Try.func17, Try.ntmps17
  go_upto_region 1 with fail
  obtain ⟨W, hW⟩ : ∃ W, W = ((w.alloc (.cells #[.slice al k cl, .slice ac m cc] TMo)).alloc (.cells #[.int .i64 6, .int .i64 a, .int .i64 c, .int .i64 at_, .int .i64 bits, .string s] 43)).alloc (.cells #[.slice none 0 0, .slice none 0 0] TMo) := ⟨_, rfl⟩
  rw [← hW]
  have hM0 : W.heap[w.heap.size]? = some (.cells #[.slice al k cl, .slice ac m cc] TMo (0, 0)) := by rw [hW]; exact block_alloc (block_alloc (block_new w _) _) _
  have hA0 : W.heap[w.heap.size + 1]? = some (.cells #[.int .i64 6, .int .i64 a, .int .i64 c, .int .i64 at_, .int .i64 bits, .string s] 43 (0, 0)) := by rw [hW]; exact block_alloc (block_new_at (by simp)) _
  have hZ0 : W.heap[w.heap.size + 1 + 1]? = some (.cells #[.slice none 0 0, .slice none 0 0] TMo (0, 0)) := by rw [hW]; exact block_new_at (by simp)
  have hkW : Keep (fun _ => False) w W := by rw [hW]; exact (((Keep.refl _ w).alloc _).alloc _).alloc _
  have hsW : W.heap.size = w.heap.size + 3 := by rw [hW]; simp
  have HMb := Lib.hid hM0
  have HAb := Lib.hid hA0
  have HZb := Lib.hid hZ0
  have HKW := Lib.hid hkW
  have HSW := Lib.hid hsW
  have HBIG := Lib.hid (show ∀ q, w.heap.size ≤ q → ¬ F q from fun q hq f => by have := HI.out.foot q f; omega)
  have m0 := cell_at hM0 0
  have m1 := cell_at hM0 1
  have a0 := cell_at hA0 0
  have a1 := cell_at hA0 1
  have a2 := cell_at hA0 2
  have a3 := cell_at hA0 3
  have a4 := cell_at hA0 4
  have a5 := cell_at hA0 5
  simp at m0 m1 a0 a1 a2 a3 a4 a5
  clear hW hM0 hA0 hZ0 hkW hsW
  go_cut [8] (fun x8 W' => x8 = .bool (decide (0 ≤ at_) && decide (at_ < (k : Int))) ∧ W' = W)
  case first =>
    by_cases h1 : 0 ≤ at_
    · by_cases h2 : at_ < (k : Int)
      · go_wp2_with fail
        go_meet
        exact ⟨by simp [h1, h2], rfl⟩
      · go_wp2_with fail
        go_meet
        exact ⟨by simp [h1, h2], rfl⟩
    · go_wp2_with fail
      go_meet
      exact ⟨by rw [decide_eq_false (by omega)]; rfl, rfl⟩
  case rest =>
    obtain ⟨rfl, rfl⟩ := hcut
    by_cases his : 0 ≤ at_ ∧ at_ < (k : Int)
    · skip
      have hb : (decide (0 ≤ at_) && decide (at_ < (k : Int))) = true := by rw [Bool.and_eq_true, decide_eq_true_eq, decide_eq_true_eq]; exact his
      rw [hb]
      clear hb
      obtain ⟨i, rfl⟩ : ∃ i : Nat, at_ = (i : Int) := ⟨at_.toNat, by omega⟩
      have hik : i < k := by omega
      clear his
      obtain ⟨g, off, p, rfl, hcl, hcl9, hp, hpm, hgl, hgF, hcell⟩ := HI.out.at4 (Keep.refl F w) i hik
      have hh := double_in (HI.out.net.keep0 HKW.out) (fun q f => by have := HI.out.foot q f; have := HKW.out.size; omega) i p hp (by have := HI.out.hk; have := HI.out.k9; omega) ((HI.out.same _ _).trans (HI.out.off p hpm))
      have hlen := snd_len HI.out.same ps p
      have hoff := snd_off HI.out.same (p := p) HI.out.off
      have hsm := fun (W2 : World) (F2 : Nat → Prop) (hF : ∀ q, F2 q → q < W2.heap.size) (hB : B ≤ W2.heap.size) (hl : GRow W2 F2 B (.slice (some ⟨g, off, none⟩) k cl) k (flat ps)) (hc : GRow W2 F2 B (.slice ac m cc) m (NetY.ways cs)) => send_m2 (p := p) HI.out.same hF hB HI.out.hk HI.out.k9 HI.out.hm HI.out.m9 hl hc
      obtain ⟨R, hR⟩ : ∃ R, R = snd S ps [p] := ⟨_, rfl⟩
      rw [← hR] at hh hlen hoff
      simp only [← hR] at hsm
      clear hR
      obtain ⟨fr, to_, ss, sp⟩ := p
      unfold Pk.agg at hsm
      unfold Pk.cells at hcell hsm
      have HH := Lib.hid hh
      have HL := Lib.hid hlen
      have HO := Lib.hid hoff
      have HSM := Lib.hid hsm
      have HC := Lib.hid hcell
      have HGL := Lib.hid hgl
      have HGF := Lib.hid hgF
      clear hh hlen hoff hsm hcell hp hpm hgl hgF
      obtain ⟨bb, hbb⟩ : ∃ q, q = (R.2 == 1) := ⟨_, rfl⟩
      rw [← hbb] at HH HSM
      clear hbb
      obtain ⟨k2, hk2⟩ : ∃ q, q = R.1.length := ⟨_, rfl⟩
      have HK2 := Lib.hid hk2
      rw [← hk2] at HSM
      clear hk2
      go_upto_region 17 with (go_at_call 13; refine HH.out.mono ?_; clear HH; rintro e w2 ⟨rfl, F2, v2, n2, f1, f2, k2'⟩)
      have HN2 := Lib.hid n2
      have F1 := Lib.hid f1
      have HF2 := Lib.hid f2
      have K2 := Lib.hid k2'
      have HM2 := Lib.hid ((k2'.block _ (lt_of_block HMb.out) (HBIG.out _ (by omega))).trans HMb.out)
      have HA2 := Lib.hid ((k2'.block _ (lt_of_block HAb.out) (HBIG.out _ (by omega))).trans HAb.out)
      have HZ2 := Lib.hid ((k2'.block _ (lt_of_block HZb.out) (HBIG.out _ (by omega))).trans HZb.out)
      clear n2 f1 f2 k2'
      clear a0 a1 a2 a3 a4 a5 m0 m1
      have HP := Lib.hid (fun q hq => ((K2.out.cell (p := ⟨g, off + i * 4 + q, none⟩) (Nat.lt_of_lt_of_le HGL.out HKW.out.size) HGF.out).trans (HKW.out.cell (p := ⟨g, off + i * 4 + q, none⟩) HGL.out (fun e => e))).trans (HC.out q hq))
      have HW9 := Lib.hid (lt_of_block HZ2.out)
      have CS := Lib.hid (fun (W2 : World) (kw : Keep (fun _ => False) w2 W2) (G : Nat → Prop) (hG : ∀ q, G q → q < W2.heap.size) (hG2 : ∀ q, G q → F2 q ∨ w.heap.size ≤ q) => HSM.out W2 G hG (by have := HI.out.b; have := HW9.out; have := kw.size; omega) (HI.out.l.move ((HKW.out.toAny.trans K2.out).trans kw.toAny) (fun q f => (hG2 q f).elim (fun f => (HF2.out q f).imp id (fun e => by have := HSW.out; omega)) .inr)) (HI.out.c.move ((HKW.out.toAny.trans K2.out).trans kw.toAny) (fun q f => (hG2 q f).elim (fun f => (HF2.out q f).imp id (fun e => by have := HSW.out; omega)) .inr)))
      have HS := Lib.hid (show ∀ w' : World, Keep (fun _ => False) w2 w' → w'.cell? ⟨w.heap.size, 0, none⟩ = some (.slice (some ⟨g, off, none⟩) k cl) ∧ w'.cell? ⟨w.heap.size, 1, none⟩ = some (.slice ac m cc) ∧ w'.cell? ⟨w.heap.size + 1, 3, none⟩ = some (.int .i64 (i : Int)) ∧ w'.cell? ⟨g, off + i * 4, none⟩ = some (.int .i64 fr) ∧ w'.cell? ⟨g, off + i * 4 + 1, none⟩ = some (.int .i64 to_) ∧ w'.cell? ⟨g, off + i * 4 + 2, none⟩ = some (.string ss) ∧ w'.cell? ⟨g, off + i * 4 + 3, none⟩ = some (.bool sp) from fun w' kw => by
        have hb := fun q (hq : q < w2.heap.size) => kw.block q hq (fun e => e)
        have hg2 : g < w2.heap.size := by have := HGL.out; have := HW9.out; omega
        have hc := fun q (hq : q < 4) => (kw.cell (p := ⟨g, off + i * 4 + q, none⟩) hg2 (fun e => e)).trans (HP.out q hq)
        exact ⟨cell_at ((hb _ (lt_of_block HM2.out)).trans HM2.out) 0, cell_at ((hb _ (lt_of_block HM2.out)).trans HM2.out) 1, cell_at ((hb _ (lt_of_block HA2.out)).trans HA2.out) 3, hc 0 (by omega), hc 1 (by omega), hc 2 (by omega), hc 3 (by omega)⟩)
      go_cut [13, 14] (fun x13 x14 W' => ∃ X a c, x13 = .pointer (some ⟨X, 0, none⟩) ∧ x14 = .bool bb ∧ Hid (Nx w2 W' (fun q => F2 q ∨ q = w.heap.size + 1 + 1) B X k2 a c m cc ac (flat R.1)))
      case first =>
        refine wp_region_held_drew (S := (fun w' => Keep (fun _ => False) w2 w')) (by kernel_rfl) ?_ (fun hHeld => ?_)
        · exact (Keep.refl _ w2).drew
        generalize hw3 : w2.drew = w3 at hHeld ⊢
        have KD := Lib.hid (show Keep (fun _ => False) w2 w3 by rw [← hw3]; exact (Keep.refl _ w2).drew)
        clear hw3
        refine wpAnyH_take (i := 0) (oi := { dst := some 102, op := Op.load 39 (Operand.tmp 3), type := 39, pos := "law.go:81", after := #[], guard := none }) (v := .agg #[.slice (some ⟨g, off, none⟩) k cl, .slice ac m cc]) rfl (by kernel_rfl) (by kernel_rfl) (by kernel_rfl) (fun _ _ _ h => h) (Or.inl ⟨by rfl, ?_⟩) (by assumption) ?_
        · (intro w' hSw; (try dsimp only at hSw); obtain ⟨x0, x1, x2, x3, x4, x5, x6⟩ := HS.out w' hSw; go_simp)
        try simp only [Act.put, List.setIfInBounds_toArray, List.set_cons_zero, List.set_cons_succ]
        refine wpAnyH_take (i := 1) (oi := { dst := some 103, op := Op.fieldAddr 39 (Operand.tmp 3) 0, type := 0, pos := "law.go:81", after := #[], guard := none }) (v := .pointer (some ⟨w.heap.size, 0, none⟩)) rfl (by kernel_rfl) (by kernel_rfl) (by kernel_rfl) (fun _ _ _ h => h) (Or.inl ⟨by rfl, ?_⟩) (by assumption) ?_
        · (intro w' hSw; (try dsimp only at hSw); go_simp)
        try simp only [Act.put, List.setIfInBounds_toArray, List.set_cons_zero, List.set_cons_succ]
        refine wpAnyH_take (i := 2) (oi := { dst := some 104, op := Op.load 32 (Operand.tmp 103), type := 32, pos := "law.go:81", after := #[{ on := 1, ground := Ground.data }], guard := none }) (v := .slice (some ⟨g, off, none⟩) k cl) rfl (by kernel_rfl) (by kernel_rfl) (by kernel_rfl) (fun _ _ _ h => h) (Or.inl ⟨by rfl, ?_⟩) (by assumption) ?_
        · (intro w' hSw; (try dsimp only at hSw); obtain ⟨x0, x1, x2, x3, x4, x5, x6⟩ := HS.out w' hSw; go_simp)
        try simp only [Act.put, List.setIfInBounds_toArray, List.set_cons_zero, List.set_cons_succ]
        refine wpAnyH_take (i := 3) (oi := { dst := some 105, op := Op.fieldAddr 43 (Operand.tmp 5) 3, type := 0, pos := "law.go:81", after := #[], guard := none }) (v := .pointer (some ⟨w.heap.size + 1, 3, none⟩)) rfl (by kernel_rfl) (by kernel_rfl) (by kernel_rfl) (fun _ _ _ h => h) (Or.inl ⟨by rfl, ?_⟩) (by assumption) ?_
        · (intro w' hSw; (try dsimp only at hSw); go_simp)
        try simp only [Act.put, List.setIfInBounds_toArray, List.set_cons_zero, List.set_cons_succ]
        refine wpAnyH_take (i := 4) (oi := { dst := some 106, op := Op.load 3 (Operand.tmp 105), type := 3, pos := "law.go:81", after := #[{ on := 3, ground := Ground.data }], guard := none }) (v := .int .i64 (i : Int)) rfl (by kernel_rfl) (by kernel_rfl) (by kernel_rfl) (fun _ _ _ h => h) (Or.inl ⟨by rfl, ?_⟩) (by assumption) ?_
        · (intro w' hSw; (try dsimp only at hSw); obtain ⟨x0, x1, x2, x3, x4, x5, x6⟩ := HS.out w' hSw; go_simp)
        try simp only [Act.put, List.setIfInBounds_toArray, List.set_cons_zero, List.set_cons_succ]
        refine wpAnyH_take (i := 5) (oi := { dst := some 107, op := Op.indexAddr 32 (Operand.tmp 104) (Operand.tmp 106), type := 0, pos := "law.go:81", after := #[{ on := 2, ground := Ground.data }, { on := 4, ground := Ground.data }], guard := none }) (v := .pointer (some ⟨g, off + i * 4, none⟩)) rfl (by kernel_rfl) (by kernel_rfl) (by kernel_rfl) (fun _ _ _ h => h) (Or.inl ⟨by rfl, ?_⟩) (by assumption) ?_
        · (intro w' hSw; (try dsimp only at hSw); go_simp)
        try simp only [Act.put, List.setIfInBounds_toArray, List.set_cons_zero, List.set_cons_succ]
        refine wpAnyH_take (i := 6) (oi := { dst := some 108, op := Op.load 27 (Operand.tmp 107), type := 27, pos := "law.go:81", after := #[{ on := 5, ground := Ground.data }], guard := none }) (v := .agg #[.int .i64 fr, .int .i64 to_, .string ss, .bool sp]) rfl (by kernel_rfl) (by kernel_rfl) (by kernel_rfl) (fun _ _ _ h => h) (Or.inl ⟨by rfl, ?_⟩) (by assumption) ?_
        · (intro w' hSw; (try dsimp only at hSw); obtain ⟨x0, x1, x2, x3, x4, x5, x6⟩ := HS.out w' hSw; go_simp)
        try simp only [Act.put, List.setIfInBounds_toArray, List.set_cons_zero, List.set_cons_succ]
        refine wpAnyH_ready (rs := [7, 11]) (by kernel_rfl) (by simp) ?_
        refine AllReadyH.cons (o := { dst := some 109, op := Op.call { callee := Callee.value (Operand.func 27), args := #[Operand.tmp 102, Operand.tmp 108], argTypes := #[39, 27] }, type := 40, pos := "law.go:81", after := #[{ on := 0, ground := Ground.data }, { on := 6, ground := Ground.data }], guard := none }) rfl (fun K hK => ?_) ?_
        · skip
          go_simp
          go_at_call 27
          refine (CS.out _ KD.out (fun q => F2 q ∨ q = w.heap.size + 1 + 1) (fun q f => f.elim (fun f => Nat.lt_of_lt_of_le (F1.out q f) KD.out.size) (fun e => by have := HW9.out; have := KD.out.size; omega)) (fun q f => f.imp id (fun e => by omega))).mono ?_
          rintro e w4 ⟨a4, c4, rfl, r4, k4⟩
          replace r4 := Lib.hid r4
          have kq := Lib.hid k4
          replace k4 := Lib.hid (Keep.trans KD.out k4)
          go_simp
          refine hK.out _ _ (k4.out) (fun hHeld => ?_)
          clear hK K
          try simp only [Act.put, List.setIfInBounds_toArray, List.set_cons_zero, List.set_cons_succ]
          refine wpAnyH_take (i := 8) (oi := { dst := some 101, op := Op.move (Operand.tmp 109), type := 40, pos := "law.go:81", after := #[{ on := 7, ground := Ground.data }], guard := none }) (v := .tuple #[.agg #[.slice a4 k2 c4, .slice ac m cc], .bool bb]) rfl (by kernel_rfl) (by kernel_rfl) (by kernel_rfl) (fun _ _ _ h => h) (Or.inl ⟨by rfl, ?_⟩) (by assumption) ?_
          · (intro w' hSw; (try dsimp only at hSw); go_simp)
          try simp only [Act.put, List.setIfInBounds_toArray, List.set_cons_zero, List.set_cons_succ]
          refine wpAnyH_take (i := 9) (oi := { dst := some 110, op := Op.extract (Operand.tmp 101) 0, type := 39, pos := "law.go:81", after := #[{ on := 8, ground := Ground.data }], guard := none }) (v := .agg #[.slice a4 k2 c4, .slice ac m cc]) rfl (by kernel_rfl) (by kernel_rfl) (by kernel_rfl) (fun _ _ _ h => h) (Or.inl ⟨by rfl, ?_⟩) (by assumption) ?_
          · (intro w' hSw; (try dsimp only at hSw); go_simp)
          try simp only [Act.put, List.setIfInBounds_toArray, List.set_cons_zero, List.set_cons_succ]
          refine wpAnyH_take (i := 10) (oi := { dst := some 111, op := Op.extract (Operand.tmp 101) 1, type := 4, pos := "law.go:81", after := #[{ on := 8, ground := Ground.data }, { on := 12, ground := Ground.gcOnly Departure.lateStores }], guard := none }) (v := .bool bb) rfl (by kernel_rfl) (by kernel_rfl) (by kernel_rfl) (fun _ _ _ h => h) (Or.inl ⟨by rfl, ?_⟩) (by assumption) ?_
          · (intro w' hSw; (try dsimp only at hSw); go_simp)
          try simp only [Act.put, List.setIfInBounds_toArray, List.set_cons_zero, List.set_cons_succ]
          refine wpAnyH_ready (rs := [11]) (by kernel_rfl) (by simp) ?_
          refine AllReadyH.cons (o := { dst := some 13, op := Op.alloc 39, type := 0, pos := "law.go:81", after := #[], guard := none }) rfl (fun K hK => ?_) AllReadyH.nil
          go_simp
          obtain ⟨v5, hv⟩ : ∃ V, V = w4.alloc (.cells #[.slice none 0 0, .slice none 0 0] TMo) := ⟨_, rfl⟩
          rw [← hv]
          have kv := Lib.hid (show Keep (fun _ => False) w4 v5 by rw [hv]; exact (Keep.refl _ _).alloc _)
          have hz5 := Lib.hid (show v5.heap[w4.heap.size]? = some (.cells #[.slice none 0 0, .slice none 0 0] TMo (0, 0)) by rw [hv]; exact block_new w4 _)
          clear hv
          have HX9 := Lib.hid k4.out.size
          refine hK.out _ _ (k4.out.trans kv.out) (fun hHeld => ?_)
          clear hK K
          try simp only [Act.put, List.setIfInBounds_toArray, List.set_cons_zero, List.set_cons_succ]
          have hY0 := hz5.out
          have y0 := cell_at hY0 0
          have e0 := free_at hY0 0
          have hY1 := block_set hY0 0 (.slice a4 k2 c4)
          have y1 := cell_at hY1 1
          have e1 := free_at hY1 1
          have HY2 := Lib.hid (block_set hY1 1 (.slice ac m cc))
          clear hY0 hY1
          simp at y0 y1
          have KV := Lib.hid (show Keep (fun _ => False) w2 ((v5.setCell ⟨w4.heap.size, 0, none⟩ (.slice a4 k2 c4)).setCell ⟨w4.heap.size, 1, none⟩ (.slice ac m cc)) from Keep.setCell (p := ⟨w4.heap.size, 1, none⟩) (Keep.setCell (p := ⟨w4.heap.size, 0, none⟩) (k4.out.trans kv.out) (.inr HX9.out) _) (.inr HX9.out) _)
          refine wpAnyH_ready (rs := [12]) (by kernel_rfl) (by simp) ?_
          refine AllReadyH.cons (o := { dst := none, op := Op.store 39 (Operand.tmp 13) (Operand.tmp 110), type := 0, pos := "law.go:81", after := #[{ on := 11, ground := Ground.data }, { on := 9, ground := Ground.data }, { on := 7, ground := Ground.chain }, { on := 0, ground := Ground.phase }, { on := 1, ground := Ground.phase }, { on := 2, ground := Ground.phase }, { on := 3, ground := Ground.phase }, { on := 4, ground := Ground.phase }, { on := 5, ground := Ground.phase }, { on := 6, ground := Ground.phase }, { on := 7, ground := Ground.phase }, { on := 8, ground := Ground.phase }, { on := 9, ground := Ground.phase }, { on := 10, ground := Ground.textOnly Departure.lateStores }, { on := 11, ground := Ground.phase }], guard := none }) rfl (fun K hK => ?_) AllReadyH.nil
          go_simp
          refine hK.out _ _ (KV.out) (fun hHeld => ?_)
          clear hK K
          try simp only [Act.put, List.setIfInBounds_toArray, List.set_cons_zero, List.set_cons_succ]
          refine wpAnyH_take (i := 13) (oi := { dst := some 14, op := Op.assign (Operand.tmp 111), type := 4, pos := "law.go:81", after := #[{ on := 10, ground := Ground.data }, { on := 12, ground := Ground.chain }, { on := 0, ground := Ground.phase }, { on := 1, ground := Ground.phase }, { on := 2, ground := Ground.phase }, { on := 3, ground := Ground.phase }, { on := 4, ground := Ground.phase }, { on := 5, ground := Ground.phase }, { on := 6, ground := Ground.phase }, { on := 7, ground := Ground.phase }, { on := 8, ground := Ground.phase }, { on := 9, ground := Ground.phase }, { on := 10, ground := Ground.phase }, { on := 11, ground := Ground.phase }, { on := 12, ground := Ground.phase }], guard := none }) (v := .bool bb) rfl (by kernel_rfl) (by kernel_rfl) (by kernel_rfl) (fun _ _ _ h => h) (Or.inl ⟨by rfl, ?_⟩) (by assumption) ?_
          · (intro w' hSw; (try dsimp only at hSw); go_simp)
          try simp only [Act.put, List.setIfInBounds_toArray, List.set_cons_zero, List.set_cons_succ]
          refine wpAnyH_done (by kernel_rfl) ?_ _
          go_wp2_with fail
          go_meet
          exact ⟨_, a4, c4, rfl, rfl, Lib.hid ⟨HX9.out, KV.out, by simpa using HY2.out, r4.out.keep (Keep.setCell (S := fun _ => False) (p := ⟨w4.heap.size, 1, none⟩) (Keep.setCell (p := ⟨w4.heap.size, 0, none⟩) kv.out (.inr (Nat.le_refl _)) _) (.inr (Nat.le_refl _)) _) (fun _ _ e => e.elim)⟩⟩
        refine AllReadyH.cons (o := { dst := some 13, op := Op.alloc 39, type := 0, pos := "law.go:81", after := #[], guard := none }) rfl (fun K hK => ?_) AllReadyH.nil
        go_simp
        obtain ⟨v5, hv⟩ : ∃ V, V = w3.alloc (.cells #[.slice none 0 0, .slice none 0 0] TMo) := ⟨_, rfl⟩
        rw [← hv]
        have kv := Lib.hid (show Keep (fun _ => False) w3 v5 by rw [hv]; exact (Keep.refl _ _).alloc _)
        have kv2 := Lib.hid (KD.out.trans kv.out)
        have hz5 := Lib.hid (show v5.heap[w3.heap.size]? = some (.cells #[.slice none 0 0, .slice none 0 0] TMo (0, 0)) by rw [hv]; exact block_new w3 _)
        clear hv
        have HX9 := Lib.hid KD.out.size
        refine hK.out _ _ (kv2.out) (fun hHeld => ?_)
        clear hK K
        try simp only [Act.put, List.setIfInBounds_toArray, List.set_cons_zero, List.set_cons_succ]
        refine wpAnyH_ready (rs := [7]) (by kernel_rfl) (by simp) ?_
        refine AllReadyH.cons (o := { dst := some 109, op := Op.call { callee := Callee.value (Operand.func 27), args := #[Operand.tmp 102, Operand.tmp 108], argTypes := #[39, 27] }, type := 40, pos := "law.go:81", after := #[{ on := 0, ground := Ground.data }, { on := 6, ground := Ground.data }], guard := none }) rfl (fun K hK => ?_) AllReadyH.nil
        go_simp
        go_at_call 27
        refine (CS.out _ kv2.out (fun q => (F2 q ∨ q = w.heap.size + 1 + 1) ∨ q = w3.heap.size) (fun q f => f.elim (fun f => f.elim (fun f => Nat.lt_of_lt_of_le (F1.out q f) kv2.out.size) (fun e => by have := HW9.out; have := kv2.out.size; omega)) (fun e => by rw [e]; exact lt_of_block hz5.out)) (fun q f => f.elim (fun f => f.imp id (fun e => by omega)) (fun e => by have := HW9.out; have := HX9.out; exact .inr (by omega)))).mono ?_
        rintro e w4 ⟨a4, c4, rfl, r4, k4⟩
        replace r4 := Lib.hid r4
        have kq := Lib.hid k4
        replace k4 := Lib.hid (Keep.trans kv2.out k4)
        go_simp
        refine hK.out _ _ (k4.out) (fun hHeld => ?_)
        clear hK K
        try simp only [Act.put, List.setIfInBounds_toArray, List.set_cons_zero, List.set_cons_succ]
        refine wpAnyH_take (i := 8) (oi := { dst := some 101, op := Op.move (Operand.tmp 109), type := 40, pos := "law.go:81", after := #[{ on := 7, ground := Ground.data }], guard := none }) (v := .tuple #[.agg #[.slice a4 k2 c4, .slice ac m cc], .bool bb]) rfl (by kernel_rfl) (by kernel_rfl) (by kernel_rfl) (fun _ _ _ h => h) (Or.inl ⟨by rfl, ?_⟩) (by assumption) ?_
        · (intro w' hSw; (try dsimp only at hSw); go_simp)
        try simp only [Act.put, List.setIfInBounds_toArray, List.set_cons_zero, List.set_cons_succ]
        refine wpAnyH_take (i := 9) (oi := { dst := some 110, op := Op.extract (Operand.tmp 101) 0, type := 39, pos := "law.go:81", after := #[{ on := 8, ground := Ground.data }], guard := none }) (v := .agg #[.slice a4 k2 c4, .slice ac m cc]) rfl (by kernel_rfl) (by kernel_rfl) (by kernel_rfl) (fun _ _ _ h => h) (Or.inl ⟨by rfl, ?_⟩) (by assumption) ?_
        · (intro w' hSw; (try dsimp only at hSw); go_simp)
        try simp only [Act.put, List.setIfInBounds_toArray, List.set_cons_zero, List.set_cons_succ]
        refine wpAnyH_take (i := 10) (oi := { dst := some 111, op := Op.extract (Operand.tmp 101) 1, type := 4, pos := "law.go:81", after := #[{ on := 8, ground := Ground.data }, { on := 12, ground := Ground.gcOnly Departure.lateStores }], guard := none }) (v := .bool bb) rfl (by kernel_rfl) (by kernel_rfl) (by kernel_rfl) (fun _ _ _ h => h) (Or.inl ⟨by rfl, ?_⟩) (by assumption) ?_
        · (intro w' hSw; (try dsimp only at hSw); go_simp)
        try simp only [Act.put, List.setIfInBounds_toArray, List.set_cons_zero, List.set_cons_succ]
        have hY0 := (kq.out.block _ (lt_of_block hz5.out) (fun e => e)).trans hz5.out
        have y0 := cell_at hY0 0
        have e0 := free_at hY0 0
        have hY1 := block_set hY0 0 (.slice a4 k2 c4)
        have y1 := cell_at hY1 1
        have e1 := free_at hY1 1
        have HY2 := Lib.hid (block_set hY1 1 (.slice ac m cc))
        clear hY0 hY1
        simp at y0 y1
        have KV := Lib.hid (show Keep (fun _ => False) w2 ((w4.setCell ⟨w3.heap.size, 0, none⟩ (.slice a4 k2 c4)).setCell ⟨w3.heap.size, 1, none⟩ (.slice ac m cc)) from Keep.setCell (p := ⟨w3.heap.size, 1, none⟩) (Keep.setCell (p := ⟨w3.heap.size, 0, none⟩) k4.out (.inr HX9.out) _) (.inr HX9.out) _)
        refine wpAnyH_ready (rs := [12]) (by kernel_rfl) (by simp) ?_
        refine AllReadyH.cons (o := { dst := none, op := Op.store 39 (Operand.tmp 13) (Operand.tmp 110), type := 0, pos := "law.go:81", after := #[{ on := 11, ground := Ground.data }, { on := 9, ground := Ground.data }, { on := 7, ground := Ground.chain }, { on := 0, ground := Ground.phase }, { on := 1, ground := Ground.phase }, { on := 2, ground := Ground.phase }, { on := 3, ground := Ground.phase }, { on := 4, ground := Ground.phase }, { on := 5, ground := Ground.phase }, { on := 6, ground := Ground.phase }, { on := 7, ground := Ground.phase }, { on := 8, ground := Ground.phase }, { on := 9, ground := Ground.phase }, { on := 10, ground := Ground.textOnly Departure.lateStores }, { on := 11, ground := Ground.phase }], guard := none }) rfl (fun K hK => ?_) AllReadyH.nil
        go_simp
        refine hK.out _ _ (KV.out) (fun hHeld => ?_)
        clear hK K
        try simp only [Act.put, List.setIfInBounds_toArray, List.set_cons_zero, List.set_cons_succ]
        refine wpAnyH_take (i := 13) (oi := { dst := some 14, op := Op.assign (Operand.tmp 111), type := 4, pos := "law.go:81", after := #[{ on := 10, ground := Ground.data }, { on := 12, ground := Ground.chain }, { on := 0, ground := Ground.phase }, { on := 1, ground := Ground.phase }, { on := 2, ground := Ground.phase }, { on := 3, ground := Ground.phase }, { on := 4, ground := Ground.phase }, { on := 5, ground := Ground.phase }, { on := 6, ground := Ground.phase }, { on := 7, ground := Ground.phase }, { on := 8, ground := Ground.phase }, { on := 9, ground := Ground.phase }, { on := 10, ground := Ground.phase }, { on := 11, ground := Ground.phase }, { on := 12, ground := Ground.phase }], guard := none }) (v := .bool bb) rfl (by kernel_rfl) (by kernel_rfl) (by kernel_rfl) (fun _ _ _ h => h) (Or.inl ⟨by rfl, ?_⟩) (by assumption) ?_
        · (intro w' hSw; (try dsimp only at hSw); go_simp)
        try simp only [Act.put, List.setIfInBounds_toArray, List.set_cons_zero, List.set_cons_succ]
        refine wpAnyH_done (by kernel_rfl) ?_ _
        go_wp2_with fail
        go_meet
        exact ⟨_, a4, c4, rfl, rfl, Lib.hid ⟨HX9.out, KV.out, by simpa using HY2.out, (r4.out.keep ((Keep.refl (fun q => q = w3.heap.size) w4).set1 _ _ |>.set1 _ _) (fun q _ e => .inr e)).turn (fun q _ f => .inl f)⟩⟩
      case rest =>
        obtain ⟨X, a4, c4, rfl, rfl, nx⟩ := hcut
        have y0 := cell_at nx.out.b 0
        have y1 := cell_at nx.out.b 1
        simp at y0 y1
        have HZr := Lib.hid ((nx.out.k.block _ (lt_of_block HZ2.out) (fun e => e)).trans HZ2.out)
        have z0 := cell_at HZr.out 0
        have f0 := free_at HZr.out 0
        have hz1 := block_set HZr.out 0 (.slice a4 k2 c4)
        have z1 := cell_at hz1 1
        have f1 := free_at hz1 1
        have hz2 := block_set hz1 1 (.slice ac m cc)
        simp at z0 z1
        have HQ := Lib.hid hz2
        have HKZ := Lib.hid (show Keep (fun q => q = w.heap.size + 1 + 1) wc ((wc.setCell ⟨w.heap.size + 1 + 1, 0, none⟩ (.slice a4 k2 c4)).setCell ⟨w.heap.size + 1 + 1, 1, none⟩ (.slice ac m cc)) from ((Keep.refl (fun q => q = w.heap.size + 1 + 1) wc).set1 _ _).set1 _ _)
        clear hz1 hz2
        go_wp2_with fail
        have e2 := HK2.out
        subst e2
        have q0 := cell_at HQ.out 0
        have q1 := cell_at HQ.out 1
        simp at q0 q1
        refine bodyPost_ret (v := .tuple #[.agg #[.slice a4 R.1.length c4, .slice ac m cc], .bool true]) ?_ rfl ⟨_, _, rfl, Did.sent HI.out HKW.out HSW.out HN2.out F1.out HF2.out K2.out HL.out HO.out nx.out.r nx.out.k HKZ.out⟩
        simp [results, Try.results17, go_sem, q0, q1]
    · skip
      have hb : (decide (0 ≤ at_) && decide (at_ < (k : Int))) = false := by rw [← Bool.not_eq_true, Bool.and_eq_true, decide_eq_true_eq, decide_eq_true_eq]; exact his
      rw [hb]
      clear hb
      have hno : ¬ (0 ≤ at_ ∧ at_ < ps.length) := by rw [← HI.out.hk]; exact his
      clear his
      have hh := Lib.hid (double_out (HI.out.net.keep0 HKW.out) at_ hno)
      clear hno
      go_upto_region 15 with (go_at_call 13; refine hh.out.mono ?_; clear hh; rintro e w2 ⟨rfl, hw2⟩)
      subst hw2
      have HM2 := HMb
      clear a0 a1 a2 a3 a4 a5 m0 m1
      have m0 := cell_at HM2.out 0
      have m1 := cell_at HM2.out 1
      simp at m0 m1
      have HZr := Lib.hid (HZb.out)
      have z0 := cell_at HZr.out 0
      have f0 := free_at HZr.out 0
      have hz1 := block_set HZr.out 0 (.slice al k cl)
      have z1 := cell_at hz1 1
      have f1 := free_at hz1 1
      have hz2 := block_set hz1 1 (.slice ac m cc)
      simp at z0 z1
      have HQ := Lib.hid hz2
      have HKZ := Lib.hid (show Keep (fun q => q = w.heap.size + 1 + 1) wc ((wc.setCell ⟨w.heap.size + 1 + 1, 0, none⟩ (.slice al k cl)).setCell ⟨w.heap.size + 1 + 1, 1, none⟩ (.slice ac m cc)) from ((Keep.refl (fun q => q = w.heap.size + 1 + 1) wc).set1 _ _).set1 _ _)
      clear hz1 hz2
      go_wp2_with fail
      have q0 := cell_at HQ.out 0
      have q1 := cell_at HQ.out 1
      simp at q0 q1
      refine bodyPost_ret (v := .tuple #[.agg #[.slice al k cl, .slice ac m cc], .bool true]) ?_ rfl ⟨_, _, rfl, Did.stay HI.out HKW.out HSW.out (Keep.refl _ _) HKZ.out⟩
      simp [results, Try.results17, go_sem, q0, q1]

end Go.Proofs.Ytdmdegjomikmlaa.NdE
