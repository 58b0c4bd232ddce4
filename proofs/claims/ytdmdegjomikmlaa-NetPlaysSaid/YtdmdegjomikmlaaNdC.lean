/-
  Layer 22 (net): the law's own model: do, NdC.
-/
import Derived.Test.YtdmdegjomikmlaaNdB
namespace Go.Proofs.Ytdmdegjomikmlaa.NdC
set_option linter.unusedVariables false
set_option linter.unusedSimpArgs false
set_option maxRecDepth 100000
open Go.RowKit Go.Proofs.Ytdmdegjomikmlaa.Mem Go.Proofs.Ytdmdegjomikmlaa.NetM Go.Proofs.Ytdmdegjomikmlaa.NetW Go.Proofs.Ytdmdegjomikmlaa.NetS Go.Proofs.Ytdmdegjomikmlaa.NetD Go.Proofs.Ytdmdegjomikmlaa.NetT Go.Proofs.Ytdmdegjomikmlaa.NetA Go.Proofs.Ytdmdegjomikmlaa.NetY Go.Proofs.Ytdmdegjomikmlaa.NetZ Go.Proofs.Ytdmdegjomikmlaa.NetO Go.Proofs.Ytdmdegjomikmlaa.NetB Go.Proofs.Ytdmdegjomikmlaa.NetF Go.Proofs.Ytdmdegjomikmlaa.NetH Go.Proofs.Ytdmdegjomikmlaa.NetU Go.Proofs.Ytdmdegjomikmlaa.NdA Go.Proofs.Ytdmdegjomikmlaa.NdB
attribute [-go_sem] Builtin.append_

set_option maxHeartbeats 16000000 in
theorem do_4 (b mb n k m cl cc : Nat) (al ac : Option Addr) (ps : List Pk) (cs : List (Int × Int)) (S : Int → Int → Bool) (v : Value) (x : Do) (w : World) (F : Nat → Prop) (B : Nat) (hI : In w F B b mb n k m cl cc al ac ps cs S v) (hx : x.Ok) (hkd : x.kind = 4) :
    Calls Try.prog 17 #[.agg #[.slice al k cl, .slice ac m cc], .pointer (some ⟨b, 0, none⟩), .agg x.cells.toArray] w fun e w' => ∃ vl vc, e = .returned (.tuple #[.agg #[vl, vc], .bool true]) ∧ Did w w' F b mb ps cs n B vl vc := by
  have HI := Lib.hid hI
  have hk9 := hI.k9
  have hm9 := hI.m9
  have hn9 := hI.n9
  clear hI
  obtain ⟨kd, a, c, at_, bits, s⟩ := x
  obtain ⟨wa, wc', wt, wb, ws⟩ := hx
  simp only at wa wc' wt wb ws hkd
  subst hkd
  unfold Do.cells
  go_enter Try.func17, Try.ntmps17
  go_upto_region 1 with fail
  obtain ⟨W, hW⟩ : ∃ W, W = ((w.alloc (.cells #[.slice al k cl, .slice ac m cc] TMo)).alloc (.cells #[.int .i64 4, .int .i64 a, .int .i64 c, .int .i64 at_, .int .i64 bits, .string s] 43)).alloc (.cells #[.slice none 0 0, .slice none 0 0] TMo) := ⟨_, rfl⟩
  rw [← hW]
  have hM0 : W.heap[w.heap.size]? = some (.cells #[.slice al k cl, .slice ac m cc] TMo (0, 0)) := by rw [hW]; exact block_alloc (block_alloc (block_new w _) _) _
  have hA0 : W.heap[w.heap.size + 1]? = some (.cells #[.int .i64 4, .int .i64 a, .int .i64 c, .int .i64 at_, .int .i64 bits, .string s] 43 (0, 0)) := by rw [hW]; exact block_alloc (block_new_at (by simp)) _
  have hZ0 : W.heap[w.heap.size + 1 + 1]? = some (.cells #[.slice none 0 0, .slice none 0 0] TMo (0, 0)) := by rw [hW]; exact block_new_at (by simp)
  have hkW : Keep (fun _ => False) w W := by rw [hW]; exact (((Keep.refl _ w).alloc _).alloc _).alloc _
  have hsW : W.heap.size = w.heap.size + 3 := by rw [hW]; simp
  have HMb := Lib.hid hM0
  have HAb := Lib.hid hA0
  have HZb := Lib.hid hZ0
  have HKW := Lib.hid hkW
  have HSW := Lib.hid hsW
  have HBIG := Lib.hid (show ∀ q, w.heap.size ≤ q → ¬ F q from fun q hq f => by have := HI.out.foot q f; omega)
  have m0 := cell_at hM0 0
  have m1 := cell_at hM0 1
  have a0 := cell_at hA0 0
  have a1 := cell_at hA0 1
  have a2 := cell_at hA0 2
  have a3 := cell_at hA0 3
  have a4 := cell_at hA0 4
  have a5 := cell_at hA0 5
  simp at m0 m1 a0 a1 a2 a3 a4 a5
  clear hW hM0 hA0 hZ0 hkW hsW
  go_cut [8] (fun x8 W' => x8 = .bool (decide (0 ≤ at_) && decide (at_ < (k : Int))) ∧ W' = W)
  case first =>
    by_cases h1 : 0 ≤ at_
    · by_cases h2 : at_ < (k : Int)
      · go_wp2_with fail
        go_meet
        exact ⟨by simp [h1, h2], rfl⟩
      · go_wp2_with fail
        go_meet
        exact ⟨by simp [h1, h2], rfl⟩
    · go_wp2_with fail
      go_meet
      exact ⟨by rw [decide_eq_false (by omega)]; rfl, rfl⟩
  case rest =>
    obtain ⟨rfl, rfl⟩ := hcut
    by_cases his : 0 ≤ at_ ∧ at_ < (k : Int)
    · skip
      have hb : (decide (0 ≤ at_) && decide (at_ < (k : Int))) = true := by rw [Bool.and_eq_true, decide_eq_true_eq, decide_eq_true_eq]; exact his
      rw [hb]
      clear hb
      obtain ⟨i, rfl⟩ : ∃ i : Nat, at_ = (i : Int) := ⟨at_.toNat, by omega⟩
      have hik : i < k := by omega
      clear his
      obtain ⟨g, off, p, rfl, hcl, hcl9, hp, hpm, hgl, hgF, hcell⟩ := HI.out.at4 (Keep.refl F w) i hik
      obtain ⟨fr, to_, ss, sp⟩ := p
      have hh := take_yes (HI.out.net.keep0 HKW.out) i ⟨fr, to_, ss, sp⟩ hp (by have := HI.out.hk; have := HI.out.k9; omega)
      unfold Pk.agg Pk.cells at hh
      unfold Pk.cells at hcell
      have HH := Lib.hid hh
      have HC := Lib.hid hcell
      have HGL := Lib.hid hgl
      have HGF := Lib.hid hgF
      clear hh hp hpm hcell hgl hgF
      go_upto_region 7 with (go_at_call 18; refine HH.out.mono ?_; clear HH; rintro e w2 ⟨rfl, v2, n2, k2⟩)
      have HN2 := Lib.hid n2
      have K2 := Lib.hid k2
      have HM2 := Lib.hid ((k2.block _ (lt_of_block HMb.out) (HBIG.out _ (by omega))).trans HMb.out)
      have HA2 := Lib.hid ((k2.block _ (lt_of_block HAb.out) (HBIG.out _ (by omega))).trans HAb.out)
      have HZ2 := Lib.hid ((k2.block _ (lt_of_block HZb.out) (HBIG.out _ (by omega))).trans HZb.out)
      clear n2 k2
      clear a0 a1 a2 a3 a4 a5 m0 m1
      obtain ⟨w3, hw3⟩ : ∃ V, V = w2.alloc (.cells #[.int .i64 fr, .int .i64 to_, .string ss, .bool sp] TP) := ⟨_, rfl⟩
      rw [← hw3]
      have ka : Keep (fun _ => False) w2 w3 := by rw [hw3]; exact (Keep.refl _ _).alloc _
      have HB3 := Lib.hid (show w3.heap[w2.heap.size]? = some (.cells #[.int .i64 fr, .int .i64 to_, .string ss, .bool sp] TP (0, 0)) by rw [hw3]; exact block_new w2 _)
      have KA := Lib.hid ka
      have HM3 := Lib.hid ((ka.block _ (lt_of_block HM2.out) (fun e => e)).trans HM2.out)
      have HA3 := Lib.hid ((ka.block _ (lt_of_block HA2.out) (fun e => e)).trans HA2.out)
      have HZ3 := Lib.hid ((ka.block _ (lt_of_block HZ2.out) (fun e => e)).trans HZ2.out)
      clear hw3 ka
      have HP := Lib.hid (fun q hq => ((KA.out.cell (p := ⟨g, off + i * 4 + q, none⟩) (Nat.lt_of_lt_of_le (Nat.lt_of_lt_of_le HGL.out HKW.out.size) K2.out.size) (fun e => e)).trans ((K2.out.cell (p := ⟨g, off + i * 4 + q, none⟩) (Nat.lt_of_lt_of_le HGL.out HKW.out.size) HGF.out).trans (HKW.out.cell (p := ⟨g, off + i * 4 + q, none⟩) HGL.out (fun e => e)))).trans (HC.out q hq))
      have CW := Lib.hid (fun (W2 : World) (kw : Keep (fun _ => False) w3 W2) => without_m g off k cl ac m cc i W2 F B ps hik HI.out.hk (by omega) hcl hcl9 (HI.out.l.keep (((HKW.out.toAny.trans K2.out).trans KA.out.toAny).trans kw.toAny) (fun _ _ e => e)))
      have HS := Lib.hid (show ∀ w' : World, Keep (fun q => q = w.heap.size + 1 + 1) w3 w' → w'.cell? ⟨w.heap.size, 0, none⟩ = some (.slice (some ⟨g, off, none⟩) k cl) ∧ w'.cell? ⟨w.heap.size, 1, none⟩ = some (.slice ac m cc) ∧ w'.cell? ⟨w.heap.size + 1, 3, none⟩ = some (.int .i64 (i : Int)) ∧ w'.cell? ⟨g, off + i * 4, none⟩ = some (.int .i64 fr) ∧ w'.cell? ⟨g, off + i * 4 + 1, none⟩ = some (.int .i64 to_) ∧ w'.cell? ⟨g, off + i * 4 + 2, none⟩ = some (.string ss) ∧ w'.cell? ⟨g, off + i * 4 + 3, none⟩ = some (.bool sp) ∧ w'.cell? ⟨w2.heap.size, 0, none⟩ = some (.int .i64 fr) ∧ w'.cell? ⟨w2.heap.size, 1, none⟩ = some (.int .i64 to_) ∧ w'.cell? ⟨w2.heap.size, 2, none⟩ = some (.string ss) ∧ w'.cell? ⟨w2.heap.size, 3, none⟩ = some (.bool sp) from fun w' kw => by
        have hw2 : g < w3.heap.size ∧ g ≠ w.heap.size + 1 + 1 ∧ w.heap.size + 1 + 1 < w2.heap.size := ⟨Nat.lt_of_lt_of_le HGL.out (by have := HKW.out.size; have := K2.out.size; have := KA.out.size; omega), by have := HGL.out; omega, lt_of_block HZ2.out⟩
        have hb := fun q (hq : q < w3.heap.size) (hz : q ≠ w.heap.size + 1 + 1) => kw.block q hq hz
        have hc := fun q (hq : q < 4) => (kw.cell (p := ⟨g, off + i * 4 + q, none⟩) hw2.1 hw2.2.1).trans (HP.out q hq)
        have hm := (hb _ (lt_of_block HM3.out) (by omega)).trans HM3.out
        have ha := (hb _ (lt_of_block HA3.out) (by omega)).trans HA3.out
        have hx := (hb _ (lt_of_block HB3.out) (by omega)).trans HB3.out
        exact ⟨cell_at hm 0, cell_at hm 1, cell_at ha 3, hc 0 (by omega), hc 1 (by omega), hc 2 (by omega), hc 3 (by omega), cell_at hx 0, cell_at hx 1, cell_at hx 2, cell_at hx 3⟩)
      refine wp_region_held_drew (S := (fun w' => Keep (fun q => q = w.heap.size + 1 + 1) w3 w')) (by kernel_rfl) ?_ (fun hHeld => ?_)
      · exact (Keep.refl _ w3).drew
      refine wpAnyH_take (i := 0) (oi := { dst := some 59, op := Op.load 39 (Operand.tmp 3), type := 39, pos := "law.go:69", after := #[], guard := none }) (v := .agg #[.slice (some ⟨g, off, none⟩) k cl, .slice ac m cc]) rfl (by kernel_rfl) (by kernel_rfl) (by kernel_rfl) (fun _ _ _ h => h) (Or.inl ⟨by rfl, ?_⟩) (by assumption) ?_
      · (intro w' hSw; (try dsimp only at hSw); obtain ⟨x0, x1, x2, x3, x4, x5, x6, x7, x8, x9, x10⟩ := HS.out w' hSw; go_simp)
      try simp only [Act.put, List.setIfInBounds_toArray, List.set_cons_zero, List.set_cons_succ]
      refine wpAnyH_take (i := 1) (oi := { dst := some 60, op := Op.fieldAddr 43 (Operand.tmp 5) 3, type := 0, pos := "law.go:69", after := #[], guard := none }) (v := .pointer (some ⟨w.heap.size + 1, 3, none⟩)) rfl (by kernel_rfl) (by kernel_rfl) (by kernel_rfl) (fun _ _ _ h => h) (Or.inl ⟨by rfl, ?_⟩) (by assumption) ?_
      · (intro w' hSw; (try dsimp only at hSw); go_simp)
      try simp only [Act.put, List.setIfInBounds_toArray, List.set_cons_zero, List.set_cons_succ]
      refine wpAnyH_take (i := 2) (oi := { dst := some 61, op := Op.load 3 (Operand.tmp 60), type := 3, pos := "law.go:69", after := #[{ on := 1, ground := Ground.data }], guard := none }) (v := .int .i64 (i : Int)) rfl (by kernel_rfl) (by kernel_rfl) (by kernel_rfl) (fun _ _ _ h => h) (Or.inl ⟨by rfl, ?_⟩) (by assumption) ?_
      · (intro w' hSw; (try dsimp only at hSw); obtain ⟨x0, x1, x2, x3, x4, x5, x6, x7, x8, x9, x10⟩ := HS.out w' hSw; go_simp)
      try simp only [Act.put, List.setIfInBounds_toArray, List.set_cons_zero, List.set_cons_succ]
      refine wpAnyH_take (i := 4) (oi := { dst := some 63, op := Op.move (Operand.tmp 10), type := 4, pos := "law.go:69", after := #[], guard := none }) (v := .bool true) rfl (by kernel_rfl) (by kernel_rfl) (by kernel_rfl) (fun _ _ _ h => h) (Or.inl ⟨by rfl, ?_⟩) (by assumption) ?_
      · (intro w' hSw; (try dsimp only at hSw); go_simp)
      try simp only [Act.put, List.setIfInBounds_toArray, List.set_cons_zero, List.set_cons_succ]
      refine wpAnyH_ready (rs := [3]) (by kernel_rfl) (by simp) ?_
      refine AllReadyH.cons (o := { dst := some 62, op := Op.call { callee := Callee.value (Operand.func 26), args := #[Operand.tmp 59, Operand.tmp 61], argTypes := #[39, 3] }, type := 39, pos := "law.go:69", after := #[{ on := 0, ground := Ground.data }, { on := 2, ground := Ground.data }], guard := none }) rfl (fun K hK => ?_) AllReadyH.nil
      go_simp
      go_at_call 26
      refine (CW.out _ (Keep.refl _ w3).drew).mono ?_
      rintro e w4 ⟨g2, c2, rfl, r3, hg3, k3⟩
      replace r3 := Lib.hid r3
      replace hg3 := Lib.hid hg3
      have K3 := Lib.hid (show Keep (fun _ => False) w3 w4 from (Keep.refl _ w3).drew.trans k3)
      clear k3 CW
      go_simp
      refine hK.out _ _ (K3.out.to1) (fun hHeld => ?_)
      clear hK K
      try simp only [Act.put, List.setIfInBounds_toArray, List.set_cons_zero, List.set_cons_succ]
      refine wpAnyH_take (i := 5) (oi := { dst := some 64, op := Op.move (Operand.tmp 63), type := 4, pos := "law.go:69", after := #[{ on := 4, ground := Ground.data }, { on := 3, ground := Ground.chain }], guard := none }) (v := .bool true) rfl (by kernel_rfl) (by kernel_rfl) (by kernel_rfl) (fun _ _ _ h => h) (Or.inl ⟨by rfl, ?_⟩) (by assumption) ?_
      · (intro w' hSw; (try dsimp only at hSw); go_simp)
      try simp only [Act.put, List.setIfInBounds_toArray, List.set_cons_zero, List.set_cons_succ]
      refine wpAnyH_take (i := 6) (oi := { dst := some 65, op := Op.load 27 (Operand.tmp 9), type := 27, pos := "law.go:69", after := #[{ on := 5, ground := Ground.guard }, { on := 15, ground := Ground.gcOnly Departure.lateStores }], guard := some (5, true) }) (v := .agg #[.int .i64 fr, .int .i64 to_, .string ss, .bool sp]) rfl (by kernel_rfl) (by kernel_rfl) (by kernel_rfl) (fun _ _ _ h => h) (Or.inl ⟨by rfl, ?_⟩) (by assumption) ?_
      · (intro w' hSw; (try dsimp only at hSw); obtain ⟨x0, x1, x2, x3, x4, x5, x6, x7, x8, x9, x10⟩ := HS.out w' hSw; go_simp)
      try simp only [Act.put, List.setIfInBounds_toArray, List.set_cons_zero, List.set_cons_succ]
      refine wpAnyH_take (i := 7) (oi := { dst := some 66, op := Op.fieldAddr 39 (Operand.tmp 3) 0, type := 0, pos := "law.go:69", after := #[{ on := 5, ground := Ground.guard }, { on := 15, ground := Ground.gcOnly Departure.lateStores }], guard := some (5, true) }) (v := .pointer (some ⟨w.heap.size, 0, none⟩)) rfl (by kernel_rfl) (by kernel_rfl) (by kernel_rfl) (fun _ _ _ h => h) (Or.inl ⟨by rfl, ?_⟩) (by assumption) ?_
      · (intro w' hSw; (try dsimp only at hSw); go_simp)
      try simp only [Act.put, List.setIfInBounds_toArray, List.set_cons_zero, List.set_cons_succ]
      refine wpAnyH_take (i := 8) (oi := { dst := some 67, op := Op.load 32 (Operand.tmp 66), type := 32, pos := "law.go:69", after := #[{ on := 7, ground := Ground.data }, { on := 5, ground := Ground.guard }, { on := 15, ground := Ground.gcOnly Departure.lateStores }], guard := some (5, true) }) (v := .slice (some ⟨g, off, none⟩) k cl) rfl (by kernel_rfl) (by kernel_rfl) (by kernel_rfl) (fun _ _ _ h => h) (Or.inl ⟨by rfl, ?_⟩) (by assumption) ?_
      · (intro w' hSw; (try dsimp only at hSw); obtain ⟨x0, x1, x2, x3, x4, x5, x6, x7, x8, x9, x10⟩ := HS.out w' hSw; go_simp)
      try simp only [Act.put, List.setIfInBounds_toArray, List.set_cons_zero, List.set_cons_succ]
      refine wpAnyH_take (i := 9) (oi := { dst := some 68, op := Op.fieldAddr 43 (Operand.tmp 5) 3, type := 0, pos := "law.go:69", after := #[{ on := 5, ground := Ground.guard }, { on := 15, ground := Ground.gcOnly Departure.lateStores }], guard := some (5, true) }) (v := .pointer (some ⟨w.heap.size + 1, 3, none⟩)) rfl (by kernel_rfl) (by kernel_rfl) (by kernel_rfl) (fun _ _ _ h => h) (Or.inl ⟨by rfl, ?_⟩) (by assumption) ?_
      · (intro w' hSw; (try dsimp only at hSw); go_simp)
      try simp only [Act.put, List.setIfInBounds_toArray, List.set_cons_zero, List.set_cons_succ]
      refine wpAnyH_take (i := 10) (oi := { dst := some 69, op := Op.load 3 (Operand.tmp 68), type := 3, pos := "law.go:69", after := #[{ on := 9, ground := Ground.data }, { on := 5, ground := Ground.guard }, { on := 15, ground := Ground.gcOnly Departure.lateStores }], guard := some (5, true) }) (v := .int .i64 (i : Int)) rfl (by kernel_rfl) (by kernel_rfl) (by kernel_rfl) (fun _ _ _ h => h) (Or.inl ⟨by rfl, ?_⟩) (by assumption) ?_
      · (intro w' hSw; (try dsimp only at hSw); obtain ⟨x0, x1, x2, x3, x4, x5, x6, x7, x8, x9, x10⟩ := HS.out w' hSw; go_simp)
      try simp only [Act.put, List.setIfInBounds_toArray, List.set_cons_zero, List.set_cons_succ]
      refine wpAnyH_take (i := 11) (oi := { dst := some 70, op := Op.indexAddr 32 (Operand.tmp 67) (Operand.tmp 69), type := 0, pos := "law.go:69", after := #[{ on := 8, ground := Ground.data }, { on := 10, ground := Ground.data }, { on := 5, ground := Ground.guard }, { on := 15, ground := Ground.gcOnly Departure.lateStores }], guard := some (5, true) }) (v := .pointer (some ⟨g, off + i * 4, none⟩)) rfl (by kernel_rfl) (by kernel_rfl) (by kernel_rfl) (fun _ _ _ h => h) (Or.inl ⟨by rfl, ?_⟩) (by assumption) ?_
      · (intro w' hSw; (try dsimp only at hSw); go_simp)
      try simp only [Act.put, List.setIfInBounds_toArray, List.set_cons_zero, List.set_cons_succ]
      refine wpAnyH_take (i := 12) (oi := { dst := some 71, op := Op.load 27 (Operand.tmp 70), type := 27, pos := "law.go:69", after := #[{ on := 11, ground := Ground.data }, { on := 5, ground := Ground.guard }, { on := 15, ground := Ground.gcOnly Departure.lateStores }], guard := some (5, true) }) (v := .agg #[.int .i64 fr, .int .i64 to_, .string ss, .bool sp]) rfl (by kernel_rfl) (by kernel_rfl) (by kernel_rfl) (fun _ _ _ h => h) (Or.inl ⟨by rfl, ?_⟩) (by assumption) ?_
      · (intro w' hSw; (try dsimp only at hSw); obtain ⟨x0, x1, x2, x3, x4, x5, x6, x7, x8, x9, x10⟩ := HS.out w' hSw; go_simp)
      try simp only [Act.put, List.setIfInBounds_toArray, List.set_cons_zero, List.set_cons_succ]
      refine wpAnyH_take (i := 13) (oi := { dst := some 72, op := Op.binOp BinOp.eql 27 (Operand.tmp 65) (Operand.tmp 71) 27, type := 4, pos := "law.go:69", after := #[{ on := 6, ground := Ground.data }, { on := 12, ground := Ground.data }, { on := 5, ground := Ground.guard }, { on := 15, ground := Ground.gcOnly Departure.lateStores }], guard := some (5, true) }) (v := .bool true) rfl (by kernel_rfl) (by kernel_rfl) (by kernel_rfl) (fun _ _ _ h => h) (Or.inl ⟨by rfl, ?_⟩) (by assumption) ?_
      · (intro w' hSw; (try dsimp only at hSw); go_simp)
      try simp only [Act.put, List.setIfInBounds_toArray, List.set_cons_zero, List.set_cons_succ]
      refine wpAnyH_take (i := 14) (oi := { dst := some 73, op := Op.pick (Operand.tmp 64) (Operand.tmp 72) (Operand.const (Value.bool false)), type := 4, pos := "law.go:69", after := #[{ on := 5, ground := Ground.data }, { on := 13, ground := Ground.data }, { on := 15, ground := Ground.gcOnly Departure.lateStores }], guard := none }) (v := .bool true) rfl (by kernel_rfl) (by kernel_rfl) (by kernel_rfl) (fun _ _ _ h => h) (Or.inl ⟨by rfl, ?_⟩) (by assumption) ?_
      · (intro w' hSw; (try dsimp only at hSw); go_simp)
      try simp only [Act.put, List.setIfInBounds_toArray, List.set_cons_zero, List.set_cons_succ]
      have HZr := Lib.hid ((K3.out.block _ (lt_of_block HZ3.out) (fun e => e)).trans HZ3.out)
      have z0 := cell_at HZr.out 0
      have f0 := free_at HZr.out 0
      have hz1 := block_set HZr.out 0 (.slice (some ⟨g2, 0, none⟩) (k - 1) c2)
      have z1 := cell_at hz1 1
      have f1 := free_at hz1 1
      have hz2 := block_set hz1 1 (.slice ac m cc)
      simp at z0 z1
      have HQ := Lib.hid hz2
      have HKZ := Lib.hid (show Keep (fun q => q = w.heap.size + 1 + 1) w4 ((w4.setCell ⟨w.heap.size + 1 + 1, 0, none⟩ (.slice (some ⟨g2, 0, none⟩) (k - 1) c2)).setCell ⟨w.heap.size + 1 + 1, 1, none⟩ (.slice ac m cc)) from ((Keep.refl (fun q => q = w.heap.size + 1 + 1) w4).set1 _ _).set1 _ _)
      clear hz1 hz2
      refine wpAnyH_ready (rs := [15]) (by kernel_rfl) (by simp) ?_
      refine AllReadyH.cons (o := { dst := none, op := Op.store 39 (Operand.tmp 6) (Operand.tmp 62), type := 0, pos := "law.go:69", after := #[{ on := 3, ground := Ground.data }, { on := 5, ground := Ground.chain }, { on := 0, ground := Ground.phase }, { on := 1, ground := Ground.phase }, { on := 2, ground := Ground.phase }, { on := 3, ground := Ground.phase }, { on := 4, ground := Ground.textOnly Departure.lateStores }, { on := 5, ground := Ground.textOnly Departure.lateStores }, { on := 6, ground := Ground.textOnly Departure.lateStores }, { on := 7, ground := Ground.textOnly Departure.lateStores }, { on := 8, ground := Ground.textOnly Departure.lateStores }, { on := 9, ground := Ground.textOnly Departure.lateStores }, { on := 10, ground := Ground.textOnly Departure.lateStores }, { on := 11, ground := Ground.textOnly Departure.lateStores }, { on := 12, ground := Ground.textOnly Departure.lateStores }, { on := 13, ground := Ground.textOnly Departure.lateStores }, { on := 14, ground := Ground.textOnly Departure.lateStores }], guard := none }) rfl (fun K hK => ?_) AllReadyH.nil
      go_simp
      refine hK.out _ _ (K3.out.to1.trans HKZ.out) (fun hHeld => ?_)
      clear hK K
      try simp only [Act.put, List.setIfInBounds_toArray, List.set_cons_zero, List.set_cons_succ]
      refine wpAnyH_take (i := 16) (oi := { dst := some 7, op := Op.assign (Operand.tmp 73), type := 4, pos := "law.go:69", after := #[{ on := 14, ground := Ground.data }, { on := 15, ground := Ground.chain }, { on := 0, ground := Ground.phase }, { on := 1, ground := Ground.phase }, { on := 2, ground := Ground.phase }, { on := 3, ground := Ground.phase }, { on := 4, ground := Ground.phase }, { on := 5, ground := Ground.phase }, { on := 6, ground := Ground.phase }, { on := 7, ground := Ground.phase }, { on := 8, ground := Ground.phase }, { on := 9, ground := Ground.phase }, { on := 10, ground := Ground.phase }, { on := 11, ground := Ground.phase }, { on := 12, ground := Ground.phase }, { on := 13, ground := Ground.phase }, { on := 14, ground := Ground.phase }, { on := 15, ground := Ground.phase }], guard := none }) (v := .bool true) rfl (by kernel_rfl) (by kernel_rfl) (by kernel_rfl) (fun _ _ _ h => h) (Or.inl ⟨by rfl, ?_⟩) (by assumption) ?_
      · (intro w' hSw; (try dsimp only at hSw); go_simp)
      try simp only [Act.put, List.setIfInBounds_toArray, List.set_cons_zero, List.set_cons_succ]
      refine wpAnyH_done (by kernel_rfl) ?_ _
      go_wp2_with fail
      have q0 := cell_at HQ.out 0
      have q1 := cell_at HQ.out 1
      simp at q0 q1
      refine bodyPost_ret (v := .tuple #[.agg #[.slice (some ⟨g2, 0, none⟩) (k - 1) c2, .slice ac m cc], .bool true]) ?_ rfl ⟨_, _, rfl, Did.less HI.out HKW.out HSW.out hik HN2.out K2.out (KA.out.trans K3.out) r3.out (Nat.le_trans (Nat.le_trans K2.out.size KA.out.size) hg3.out) HKZ.out⟩
      simp [results, Try.results17, go_sem, q0, q1]
    · skip
      have hb : (decide (0 ≤ at_) && decide (at_ < (k : Int))) = false := by rw [← Bool.not_eq_true, Bool.and_eq_true, decide_eq_true_eq, decide_eq_true_eq]; exact his
      rw [hb]
      clear hb
      have hno : ¬ (0 ≤ at_ ∧ at_ < ps.length) := by rw [← HI.out.hk]; exact his
      clear his
      have hh := take_no (HI.out.net.keep0 HKW.out) at_ hno
      unfold noPk at hh
      have HH := Lib.hid hh
      clear hno hh
      go_upto_region 6 with (go_at_call 18; refine HH.out.mono ?_; clear HH; rintro e w2 ⟨rfl, k2⟩)
      have K2 := Lib.hid k2
      have HM2 := Lib.hid ((k2.block _ (lt_of_block HMb.out) (fun e => e)).trans HMb.out)
      have HA2 := Lib.hid ((k2.block _ (lt_of_block HAb.out) (fun e => e)).trans HAb.out)
      have HZ2 := Lib.hid ((k2.block _ (lt_of_block HZb.out) (fun e => e)).trans HZb.out)
      clear k2
      clear a0 a1 a2 a3 a4 a5 m0 m1
      obtain ⟨w3, hw3⟩ : ∃ V, V = w2.alloc (.cells #[.int .i64 0, .int .i64 0, .string ⟨#[]⟩, .bool false] TP) := ⟨_, rfl⟩
      rw [← hw3]
      have ka : Keep (fun _ => False) w2 w3 := by rw [hw3]; exact (Keep.refl _ _).alloc _
      have HB3 := Lib.hid (show w3.heap[w2.heap.size]? = some (.cells #[.int .i64 0, .int .i64 0, .string ⟨#[]⟩, .bool false] TP (0, 0)) by rw [hw3]; exact block_new w2 _)
      have KA := Lib.hid ka
      have HM3 := Lib.hid ((ka.block _ (lt_of_block HM2.out) (fun e => e)).trans HM2.out)
      have HA3 := Lib.hid ((ka.block _ (lt_of_block HA2.out) (fun e => e)).trans HA2.out)
      have HZ3 := Lib.hid ((ka.block _ (lt_of_block HZ2.out) (fun e => e)).trans HZ2.out)
      clear hw3 ka
      have HS := Lib.hid (show ∀ w' : World, Keep (fun q => q = w.heap.size + 1 + 1) w3 w' → w'.cell? ⟨w.heap.size, 0, none⟩ = some (.slice al k cl) ∧ w'.cell? ⟨w.heap.size, 1, none⟩ = some (.slice ac m cc) ∧ w'.cell? ⟨w2.heap.size, 0, none⟩ = some (.int .i64 0) ∧ w'.cell? ⟨w2.heap.size, 1, none⟩ = some (.int .i64 0) ∧ w'.cell? ⟨w2.heap.size, 2, none⟩ = some (.string ⟨#[]⟩) ∧ w'.cell? ⟨w2.heap.size, 3, none⟩ = some (.bool false) from fun w' kw => by
        have hw2 : w.heap.size + 1 + 1 < w2.heap.size := lt_of_block HZ2.out
        have hb := fun q (hq : q < w3.heap.size) (hz : q ≠ w.heap.size + 1 + 1) => kw.block q hq hz
        have hm := (hb _ (lt_of_block HM3.out) (by omega)).trans HM3.out
        have hx := (hb _ (lt_of_block HB3.out) (by omega)).trans HB3.out
        exact ⟨cell_at hm 0, cell_at hm 1, cell_at hx 0, cell_at hx 1, cell_at hx 2, cell_at hx 3⟩)
      refine wp_region_held_drew (S := (fun w' => Keep (fun q => q = w.heap.size + 1 + 1) w3 w')) (by kernel_rfl) ?_ (fun hHeld => ?_)
      · exact (Keep.refl _ w3).drew
      generalize hw4 : w3.drew = w4 at hHeld ⊢
      have KD := Lib.hid (show Keep (fun _ => False) w3 w4 by rw [← hw4]; exact (Keep.refl _ w3).drew)
      clear hw4
      refine wpAnyH_take (i := 0) (oi := { dst := some 51, op := Op.load 39 (Operand.tmp 3), type := 39, pos := "law.go:67", after := #[], guard := none }) (v := .agg #[.slice al k cl, .slice ac m cc]) rfl (by kernel_rfl) (by kernel_rfl) (by kernel_rfl) (fun _ _ _ h => h) (Or.inl ⟨by rfl, ?_⟩) (by assumption) ?_
      · (intro w' hSw; (try dsimp only at hSw); obtain ⟨x0, x1, x2, x3, x4, x5⟩ := HS.out w' hSw; go_simp)
      try simp only [Act.put, List.setIfInBounds_toArray, List.set_cons_zero, List.set_cons_succ]
      refine wpAnyH_take (i := 1) (oi := { dst := some 52, op := Op.move (Operand.tmp 10), type := 4, pos := "law.go:67", after := #[], guard := none }) (v := .bool false) rfl (by kernel_rfl) (by kernel_rfl) (by kernel_rfl) (fun _ _ _ h => h) (Or.inl ⟨by rfl, ?_⟩) (by assumption) ?_
      · (intro w' hSw; (try dsimp only at hSw); go_simp)
      try simp only [Act.put, List.setIfInBounds_toArray, List.set_cons_zero, List.set_cons_succ]
      refine wpAnyH_take (i := 2) (oi := { dst := some 53, op := Op.unOp UnOp.not 4 (Operand.tmp 52), type := 4, pos := "law.go:67", after := #[{ on := 1, ground := Ground.data }], guard := none }) (v := .bool true) rfl (by kernel_rfl) (by kernel_rfl) (by kernel_rfl) (fun _ _ _ h => h) (Or.inl ⟨by rfl, ?_⟩) (by assumption) ?_
      · (intro w' hSw; (try dsimp only at hSw); go_simp)
      try simp only [Act.put, List.setIfInBounds_toArray, List.set_cons_zero, List.set_cons_succ]
      refine wpAnyH_take (i := 3) (oi := { dst := some 54, op := Op.move (Operand.tmp 53), type := 4, pos := "law.go:67", after := #[{ on := 2, ground := Ground.data }], guard := none }) (v := .bool true) rfl (by kernel_rfl) (by kernel_rfl) (by kernel_rfl) (fun _ _ _ h => h) (Or.inl ⟨by rfl, ?_⟩) (by assumption) ?_
      · (intro w' hSw; (try dsimp only at hSw); go_simp)
      try simp only [Act.put, List.setIfInBounds_toArray, List.set_cons_zero, List.set_cons_succ]
      refine wpAnyH_take (i := 4) (oi := { dst := some 55, op := Op.load 27 (Operand.tmp 9), type := 27, pos := "law.go:67", after := #[{ on := 3, ground := Ground.guard }, { on := 8, ground := Ground.gcOnly Departure.lateStores }], guard := some (3, true) }) (v := .agg #[.int .i64 0, .int .i64 0, .string ⟨#[]⟩, .bool false]) rfl (by kernel_rfl) (by kernel_rfl) (by kernel_rfl) (fun _ _ _ h => h) (Or.inl ⟨by rfl, ?_⟩) (by assumption) ?_
      · (intro w' hSw; (try dsimp only at hSw); obtain ⟨x0, x1, x2, x3, x4, x5⟩ := HS.out w' hSw; go_simp)
      try simp only [Act.put, List.setIfInBounds_toArray, List.set_cons_zero, List.set_cons_succ]
      refine wpAnyH_take (i := 5) (oi := { dst := some 56, op := Op.build 27 #[], type := 27, pos := "law.go:67", after := #[{ on := 3, ground := Ground.guard }, { on := 8, ground := Ground.gcOnly Departure.lateStores }], guard := some (3, true) }) (v := .agg #[.int .i64 0, .int .i64 0, .string ⟨#[]⟩, .bool false]) rfl (by kernel_rfl) (by kernel_rfl) (by kernel_rfl) (fun _ _ _ h => h) (Or.inl ⟨by rfl, ?_⟩) (by assumption) ?_
      · (intro w' hSw; (try dsimp only at hSw); go_simp)
      try simp only [Act.put, List.setIfInBounds_toArray, List.set_cons_zero, List.set_cons_succ]
      refine wpAnyH_take (i := 6) (oi := { dst := some 57, op := Op.binOp BinOp.eql 27 (Operand.tmp 55) (Operand.tmp 56) 27, type := 4, pos := "law.go:67", after := #[{ on := 4, ground := Ground.data }, { on := 5, ground := Ground.data }, { on := 3, ground := Ground.guard }, { on := 8, ground := Ground.gcOnly Departure.lateStores }], guard := some (3, true) }) (v := .bool true) rfl (by kernel_rfl) (by kernel_rfl) (by kernel_rfl) (fun _ _ _ h => h) (Or.inl ⟨by rfl, ?_⟩) (by assumption) ?_
      · (intro w' hSw; (try dsimp only at hSw); go_simp)
      try simp only [Act.put, List.setIfInBounds_toArray, List.set_cons_zero, List.set_cons_succ]
      refine wpAnyH_take (i := 7) (oi := { dst := some 58, op := Op.pick (Operand.tmp 54) (Operand.tmp 57) (Operand.const (Value.bool false)), type := 4, pos := "law.go:67", after := #[{ on := 3, ground := Ground.data }, { on := 6, ground := Ground.data }, { on := 8, ground := Ground.gcOnly Departure.lateStores }], guard := none }) (v := .bool true) rfl (by kernel_rfl) (by kernel_rfl) (by kernel_rfl) (fun _ _ _ h => h) (Or.inl ⟨by rfl, ?_⟩) (by assumption) ?_
      · (intro w' hSw; (try dsimp only at hSw); go_simp)
      try simp only [Act.put, List.setIfInBounds_toArray, List.set_cons_zero, List.set_cons_succ]
      have HZr := Lib.hid ((KD.out.block _ (lt_of_block HZ3.out) (fun e => e)).trans HZ3.out)
      have z0 := cell_at HZr.out 0
      have f0 := free_at HZr.out 0
      have hz1 := block_set HZr.out 0 (.slice al k cl)
      have z1 := cell_at hz1 1
      have f1 := free_at hz1 1
      have hz2 := block_set hz1 1 (.slice ac m cc)
      simp at z0 z1
      have HQ := Lib.hid hz2
      have HKZ := Lib.hid (show Keep (fun q => q = w.heap.size + 1 + 1) w4 ((w4.setCell ⟨w.heap.size + 1 + 1, 0, none⟩ (.slice al k cl)).setCell ⟨w.heap.size + 1 + 1, 1, none⟩ (.slice ac m cc)) from ((Keep.refl (fun q => q = w.heap.size + 1 + 1) w4).set1 _ _).set1 _ _)
      clear hz1 hz2
      refine wpAnyH_ready (rs := [8]) (by kernel_rfl) (by simp) ?_
      refine AllReadyH.cons (o := { dst := none, op := Op.store 39 (Operand.tmp 6) (Operand.tmp 51), type := 0, pos := "law.go:67", after := #[{ on := 0, ground := Ground.data }, { on := 3, ground := Ground.chain }, { on := 0, ground := Ground.phase }, { on := 1, ground := Ground.textOnly Departure.lateStores }, { on := 2, ground := Ground.textOnly Departure.lateStores }, { on := 3, ground := Ground.textOnly Departure.lateStores }, { on := 4, ground := Ground.textOnly Departure.lateStores }, { on := 5, ground := Ground.textOnly Departure.lateStores }, { on := 6, ground := Ground.textOnly Departure.lateStores }, { on := 7, ground := Ground.textOnly Departure.lateStores }], guard := none }) rfl (fun K hK => ?_) AllReadyH.nil
      go_simp
      refine hK.out _ _ (KD.out.to1.trans HKZ.out) (fun hHeld => ?_)
      clear hK K
      try simp only [Act.put, List.setIfInBounds_toArray, List.set_cons_zero, List.set_cons_succ]
      refine wpAnyH_take (i := 9) (oi := { dst := some 7, op := Op.assign (Operand.tmp 58), type := 4, pos := "law.go:67", after := #[{ on := 7, ground := Ground.data }, { on := 8, ground := Ground.chain }, { on := 0, ground := Ground.phase }, { on := 1, ground := Ground.phase }, { on := 2, ground := Ground.phase }, { on := 3, ground := Ground.phase }, { on := 4, ground := Ground.phase }, { on := 5, ground := Ground.phase }, { on := 6, ground := Ground.phase }, { on := 7, ground := Ground.phase }, { on := 8, ground := Ground.phase }], guard := none }) (v := .bool true) rfl (by kernel_rfl) (by kernel_rfl) (by kernel_rfl) (fun _ _ _ h => h) (Or.inl ⟨by rfl, ?_⟩) (by assumption) ?_
      · (intro w' hSw; (try dsimp only at hSw); go_simp)
      try simp only [Act.put, List.setIfInBounds_toArray, List.set_cons_zero, List.set_cons_succ]
      refine wpAnyH_done (by kernel_rfl) ?_ _
      go_wp2_with fail
      have q0 := cell_at HQ.out 0
      have q1 := cell_at HQ.out 1
      simp at q0 q1
      refine bodyPost_ret (v := .tuple #[.agg #[.slice al k cl, .slice ac m cc], .bool true]) ?_ rfl ⟨_, _, rfl, Did.stay HI.out HKW.out HSW.out ((K2.out.trans KA.out).trans KD.out) HKZ.out⟩
      simp [results, Try.results17, go_sem, q0, q1]

end Go.Proofs.Ytdmdegjomikmlaa.NdC
