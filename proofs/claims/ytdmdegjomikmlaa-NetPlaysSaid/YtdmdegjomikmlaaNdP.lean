/-
  Layer 22 (net): the law NetPlays, its walk.
-/
import Derived.Test.YtdmdegjomikmlaaNdO
import Derived.Test.YtdmdegjomikmlaaNdZ
import Derived.Test.YtdmdegjomikmlaaNetA
import Derived.Test.YtdmdegjomikmlaaOpen
import Derived.Deep.DeepCutAuto
namespace Go.Proofs.Ytdmdegjomikmlaa.NdP
set_option linter.unusedVariables false
set_option linter.unusedSimpArgs false
set_option maxRecDepth 100000
open Go.RowKit Go.Proofs.Ytdmdegjomikmlaa.Mem Go.Proofs.Ytdmdegjomikmlaa.NetM Go.Proofs.Ytdmdegjomikmlaa.NetW Go.Proofs.Ytdmdegjomikmlaa.NetS Go.Proofs.Ytdmdegjomikmlaa.NetD Go.Proofs.Ytdmdegjomikmlaa.NetT Go.Proofs.Ytdmdegjomikmlaa.NetA Go.Proofs.Ytdmdegjomikmlaa.NetY Go.Proofs.Ytdmdegjomikmlaa.NetZ Go.Proofs.Ytdmdegjomikmlaa.NetO Go.Proofs.Ytdmdegjomikmlaa.NetB Go.Proofs.Ytdmdegjomikmlaa.NetC Go.Proofs.Ytdmdegjomikmlaa.NdA Go.Proofs.Ytdmdegjomikmlaa.NdB Go.Proofs.Ytdmdegjomikmlaa.NdO Go.Proofs.Ytdmdegjomikmlaa.Open
theorem own_grow {W : World} {base n size : Nat} {E : TypeId} {v : Value} {xs : List Value} (h : W.ownsRow base E size v n xs) : GRow W (fun _ => False) 0 v n xs := by
  rcases h.2 with ⟨h1, h2⟩ | ⟨g, cap, cur, hv, hb, hg, h1, h2, h3, ht⟩
  · exact ⟨none, 0, by rw [h1, h2], by omega, by omega, .inl h2⟩
  · subst hv
    exact row_grow (⟨h.1, .inr ⟨g, cap, cur, rfl, Nat.zero_le _, hg, h1, h2, h3, ht⟩⟩ : W.ownsRow 0 E size _ n xs) (Nat.zero_le _) (fun e => e)
set_option maxHeartbeats 64000000 in
theorem netPlays_walk (v : Value) (w : World) (hv : ∃ l, Dos w v l) :
    Calls Try.prog 6 #[v] w fun e w' => e = .returned (.bool true) ∧ Below w.heap.size w w' := by
  obtain ⟨zs, hz⟩ := hv
  obtain ⟨ao, cap, rfl, hlen, hcs⟩ := dos_form hz
  have HZ := Lib.hid hz.2
  have HCS := Lib.hid hcs
  clear hz hcs
  generalize hlz : zs.length = len at *
  have HLZ := Lib.hid hlz
  clear hlz
  go_enter Try.func6, Try.ntmps6
  go_upto_region 2 with (go_at_call 9; refine (new_tight _).mono ?_; rintro e w1 ⟨b, mb, F1, rfl, n1, f1, g1, k1⟩; replace n1 := Lib.hid n1; replace f1 := Lib.hid f1; replace g1 := Lib.hid g1; replace k1 := Lib.hid k1)
  obtain ⟨w2, hw2⟩ : ∃ V, V = w1.alloc (.cells #[.slice none 0 0, .slice none 0 0] TMo) := ⟨_, rfl⟩
  rw [← hw2]
  have k12 : Keep (fun _ => False) w1 w2 := by rw [hw2]; exact (Keep.refl _ _).alloc _
  have bM : w2.heap[w1.heap.size]? = some (.cells #[.slice none 0 0, .slice none 0 0] TMo (0, 0)) := by rw [hw2]; exact block_new w1 _
  obtain ⟨M, hM⟩ : ∃ M, M = w1.heap.size := ⟨_, rfl⟩
  rw [← hM] at bM ⊢
  have P2 : Pl w w2 F1 b mb M 0 (.slice none 0 0) (.slice none 0 0) [] [] no (.slice none 0 0) :=
    ⟨n1.out.keep0 k12, fun i f => Nat.lt_of_lt_of_le (f1.out i f) k12.size, g1.out, same_no, (fun p hp => by cases hp), ⟨none, 0, rfl, Nat.le_refl _, by omega, .inl rfl⟩, ⟨none, 0, rfl, Nat.le_refl _, by omega, .inl rfl⟩, bM, fun f => by have := f1.out M f; omega, by have := k1.out.size; omega, k1.out.trans k12⟩
  have HP2 := Lib.hid P2
  clear bM hw2 k12 hM P2
  go_wp2_with (go_at_call 8; refine (awake_any _).mono ?_; rintro e w3 ⟨rfl, k3⟩; replace k3 := Lib.hid k3)
  have HP3 := Lib.hid (HP2.out.keep0 k3.out)
  go_loopw [5] (fun xi wr => ∃ (i n : Nat) (F : Nat → Prop) (vl vc v : Value) (ps : List Pk) (cs : List (Int × Int)) (S : Int → Int → Bool), i ≤ len ∧ i ≤ 120 ∧ Hid (ps.length ≤ i ∧ cs.length ≤ i ∧ n ≤ i) ∧ xi = .int .i64 (i : Int) ∧ Hid (Pl w wr F b mb M n vl vc ps cs S v)) (fun xi wr => 120 - (intOf xi).toNat)
  case atStart => exact ⟨0, 0, _, _, _, _, [], [], _, by omega, by omega, Lib.hid ⟨by simp, by simp, by omega⟩, rfl, HP3⟩
  case round =>
    obtain ⟨i, n, F, vl, vc, v, ps, cs, S, hi1, hi60, hbs, rfl, hP⟩ := hrel
    by_cases hlt : i < len ∧ i < 120
    · obtain ⟨hlt, hlt2⟩ := hlt
      obtain ⟨z, hz⟩ : ∃ z, zs[i]? = some z := ⟨zs[i]'(by have := HLZ.out; omega), List.getElem?_eq_getElem _⟩
      have hzok := HZ.out z (List.mem_of_getElem? hz)
      rcases HCS.out with h0 | ⟨g, off, rfl, hg, hcell⟩
      · rw [h0] at hz; simp at hz
      have hzc := hcell i z hz
      obtain ⟨al, cl, hvl⟩ := grow_form hP.out.l
      obtain ⟨ac, cc, hvc⟩ := grow_form hP.out.c
      obtain ⟨k, hk⟩ : ∃ k, k = ps.length := ⟨_, rfl⟩
      obtain ⟨m, hm⟩ : ∃ m, m = cs.length := ⟨_, rfl⟩
      rw [← hk] at hvl
      rw [← hm] at hvc
      subst hvl hvc
      have hdo := fun (W : World) (kw : Keep (fun _ => False) wr W) => NdZ.do_any b mb n k m cl cc al ac ps cs S v z W F w.heap.size ((hP.out.keep0 kw).to (by have := hbs.out; omega) (by have := hbs.out; omega) (by have := hbs.out; omega) |> fun (h : In W F w.heap.size b mb n k m cl cc al ac ps cs S v) => h) hzok
      obtain ⟨zk, za, zb, zt, zi, zS⟩ := z
      unfold Do.cells at hdo hzc
      have HDO := Lib.hid hdo
      have HGW := Lib.hid hg
      have HZC := Lib.hid hzc
      clear hdo hzok hz hcell hg hzc hk hm
      go_upto_region 7 with fail
      have HS := Lib.hid (show ∀ w' : World, Keep F wr w' → w'.cell? ⟨M, 0, none⟩ = some (.slice al k cl) ∧ w'.cell? ⟨M, 1, none⟩ = some (.slice ac m cc) ∧ w'.cell? ⟨g, off + i * 6, none⟩ = some (.int .i64 zk) ∧ w'.cell? ⟨g, off + i * 6 + 1, none⟩ = some (.int .i64 za) ∧ w'.cell? ⟨g, off + i * 6 + 2, none⟩ = some (.int .i64 zb) ∧ w'.cell? ⟨g, off + i * 6 + 3, none⟩ = some (.int .i64 zt) ∧ w'.cell? ⟨g, off + i * 6 + 4, none⟩ = some (.int .i64 zi) ∧ w'.cell? ⟨g, off + i * 6 + 5, none⟩ = some (.string zS) from fun w' kw => by
        have hb := (kw.block _ (lt_of_block hP.out.m) hP.out.n).trans hP.out.m
        have hgF : ¬ F g := fun f => by have := hP.out.fw _ f; have := HGW.out; omega
        have hgs : g < wr.heap.size := Nat.lt_of_lt_of_le HGW.out hP.out.k.size
        have hc := fun (q : Nat) (u : Value) (h : [Value.int .i64 zk, .int .i64 za, .int .i64 zb, .int .i64 zt, .int .i64 zi, .string zS][q]? = some u) => (kw.cell (p := ⟨g, off + i * 6 + q, none⟩) hgs hgF).trans ((hP.out.k.cell (p := ⟨g, off + i * 6 + q, none⟩) HGW.out (fun e => e)).trans (HZC.out q u h))
        exact ⟨cell_at hb 0, cell_at hb 1, hc 0 _ rfl, hc 1 _ rfl, hc 2 _ rfl, hc 3 _ rfl, hc 4 _ rfl, hc 5 _ rfl⟩)
      go_cut [6, 7] (fun x6 x7 W => ∃ (K : Nat) (v4 c4 : Value), x6 = .pointer (some ⟨K, 0, none⟩) ∧ x7 = .bool true ∧ Hid (Nx w W b mb M K n ps cs v4 c4))
      case first =>
        refine wp_region_held_drew (S := (fun w' => Keep F wr w')) (by kernel_rfl) ?_ (fun hHeld => ?_)
        · exact (Keep.refl F wr).drew
        generalize hwd : wr.drew = wd at hHeld ⊢
        have KD := Lib.hid (show Keep (fun _ => False) wr wd by rw [← hwd]; exact (Keep.refl _ wr).drew)
        clear hwd
        refine wpAnyH_take (i := 0) (oi := { dst := some 25, op := Op.load 39 (Operand.tmp 4), type := 39, pos := "law.go:129", after := #[], guard := none }) (v := .agg #[.slice al k cl, .slice ac m cc]) rfl (by kernel_rfl) (by kernel_rfl) (by kernel_rfl) (fun _ _ _ h => h) (Or.inl ⟨by rfl, ?_⟩) (by assumption) ?_
        · (intro w' hSw; (try dsimp only at hSw); obtain ⟨x0, x1, x2, x3, x4, x5, x6, x7⟩ := HS.out w' hSw; go_simp)
        try simp only [Act.put, List.setIfInBounds_toArray, List.set_cons_zero, List.set_cons_succ]
        refine wpAnyH_take (i := 1) (oi := { dst := some 26, op := Op.move (Operand.tmp 3), type := 23, pos := "law.go:129", after := #[], guard := none }) (v := .pointer (some ⟨b, 0, none⟩)) rfl (by kernel_rfl) (by kernel_rfl) (by kernel_rfl) (fun _ _ _ h => h) (Or.inl ⟨by rfl, ?_⟩) (by assumption) ?_
        · (intro w' hSw; (try dsimp only at hSw); go_simp)
        try simp only [Act.put, List.setIfInBounds_toArray, List.set_cons_zero, List.set_cons_succ]
        refine wpAnyH_take (i := 2) (oi := { dst := some 27, op := Op.move (Operand.tmp 0), type := 36, pos := "law.go:129", after := #[], guard := none }) (v := .slice (some ⟨g, off, none⟩) len cap) rfl (by kernel_rfl) (by kernel_rfl) (by kernel_rfl) (fun _ _ _ h => h) (Or.inl ⟨by rfl, ?_⟩) (by assumption) ?_
        · (intro w' hSw; (try dsimp only at hSw); go_simp)
        try simp only [Act.put, List.setIfInBounds_toArray, List.set_cons_zero, List.set_cons_succ]
        refine wpAnyH_take (i := 3) (oi := { dst := some 28, op := Op.move (Operand.tmp 5), type := 3, pos := "law.go:129", after := #[], guard := none }) (v := .int .i64 (i : Int)) rfl (by kernel_rfl) (by kernel_rfl) (by kernel_rfl) (fun _ _ _ h => h) (Or.inl ⟨by rfl, ?_⟩) (by assumption) ?_
        · (intro w' hSw; (try dsimp only at hSw); go_simp)
        try simp only [Act.put, List.setIfInBounds_toArray, List.set_cons_zero, List.set_cons_succ]
        refine wpAnyH_take (i := 4) (oi := { dst := some 29, op := Op.indexAddr 36 (Operand.tmp 27) (Operand.tmp 28), type := 0, pos := "law.go:129", after := #[{ on := 2, ground := Ground.data }, { on := 3, ground := Ground.data }], guard := none }) (v := .pointer (some ⟨g, off + i * 6, none⟩)) rfl (by kernel_rfl) (by kernel_rfl) (by kernel_rfl) (fun _ _ _ h => h) (Or.inl ⟨by rfl, ?_⟩) (by assumption) ?_
        · (intro w' hSw; (try dsimp only at hSw); go_simp)
        try simp only [Act.put, List.setIfInBounds_toArray, List.set_cons_zero, List.set_cons_succ]
        refine wpAnyH_take (i := 5) (oi := { dst := some 30, op := Op.load 43 (Operand.tmp 29), type := 43, pos := "law.go:129", after := #[{ on := 4, ground := Ground.data }], guard := none }) (v := .agg #[.int .i64 zk, .int .i64 za, .int .i64 zb, .int .i64 zt, .int .i64 zi, .string zS]) rfl (by kernel_rfl) (by kernel_rfl) (by kernel_rfl) (fun _ _ _ h => h) (Or.inl ⟨by rfl, ?_⟩) (by assumption) ?_
        · (intro w' hSw; (try dsimp only at hSw); obtain ⟨x0, x1, x2, x3, x4, x5, x6, x7⟩ := HS.out w' hSw; go_simp)
        try simp only [Act.put, List.setIfInBounds_toArray, List.set_cons_zero, List.set_cons_succ]
        refine wpAnyH_ready (rs := [6, 10]) (by kernel_rfl) (by simp) ?_
        refine AllReadyH.cons (o := { dst := some 31, op := Op.call { callee := Callee.value (Operand.func 17), args := #[Operand.tmp 25, Operand.tmp 26, Operand.tmp 30], argTypes := #[39, 23, 43] }, type := 40, pos := "law.go:129", after := #[{ on := 0, ground := Ground.data }, { on := 1, ground := Ground.data }, { on := 5, ground := Ground.data }], guard := none }) rfl (fun K hK => ?_) ?_
        · skip
          go_simp
          go_at_call 17
          refine (HDO.out _ KD.out).mono ?_
          rintro e w4 ⟨vl4, vc4, rfl, hD⟩
          have hD5 := hD
          obtain ⟨F4, ps4, cs4, n4, S4, v4, -, -, f4, k4, -, -, rl, rc, -, -, -⟩ := hD5
          obtain ⟨a5, c5, hv5⟩ := grow_form rl
          obtain ⟨k5, hk5⟩ : ∃ q, q = ps4.length := ⟨_, rfl⟩
          rw [← hk5] at hv5
          subst hv5
          obtain ⟨a6, c6, hv6⟩ := grow_form rc
          obtain ⟨m6, hm6⟩ : ∃ q, q = cs4.length := ⟨_, rfl⟩
          rw [← hm6] at hv6
          subst hv6
          clear rl rc hk5 hm6 f4
          have HD := Lib.hid hD
          replace k4 := Lib.hid k4
          clear hD
          go_simp
          refine hK.out _ _ ((Keep.toAny KD.out).trans k4.out) (fun hHeld => ?_)
          clear hK K
          try simp only [Act.put, List.setIfInBounds_toArray, List.set_cons_zero, List.set_cons_succ]
          refine wpAnyH_take (i := 7) (oi := { dst := some 24, op := Op.move (Operand.tmp 31), type := 40, pos := "law.go:129", after := #[{ on := 6, ground := Ground.data }], guard := none }) (v := .tuple #[.agg #[.slice a5 k5 c5, .slice a6 m6 c6], .bool true]) rfl (by kernel_rfl) (by kernel_rfl) (by kernel_rfl) (fun _ _ _ h => h) (Or.inl ⟨by rfl, ?_⟩) (by assumption) ?_
          · (intro w' hSw; (try dsimp only at hSw); go_simp)
          try simp only [Act.put, List.setIfInBounds_toArray, List.set_cons_zero, List.set_cons_succ]
          refine wpAnyH_take (i := 8) (oi := { dst := some 32, op := Op.extract (Operand.tmp 24) 0, type := 39, pos := "law.go:129", after := #[{ on := 7, ground := Ground.data }], guard := none }) (v := .agg #[.slice a5 k5 c5, .slice a6 m6 c6]) rfl (by kernel_rfl) (by kernel_rfl) (by kernel_rfl) (fun _ _ _ h => h) (Or.inl ⟨by rfl, ?_⟩) (by assumption) ?_
          · (intro w' hSw; (try dsimp only at hSw); go_simp)
          try simp only [Act.put, List.setIfInBounds_toArray, List.set_cons_zero, List.set_cons_succ]
          refine wpAnyH_take (i := 9) (oi := { dst := some 33, op := Op.extract (Operand.tmp 24) 1, type := 4, pos := "law.go:129", after := #[{ on := 7, ground := Ground.data }, { on := 11, ground := Ground.gcOnly Departure.lateStores }], guard := none }) (v := .bool true) rfl (by kernel_rfl) (by kernel_rfl) (by kernel_rfl) (fun _ _ _ h => h) (Or.inl ⟨by rfl, ?_⟩) (by assumption) ?_
          · (intro w' hSw; (try dsimp only at hSw); go_simp)
          try simp only [Act.put, List.setIfInBounds_toArray, List.set_cons_zero, List.set_cons_succ]
          refine wpAnyH_ready (rs := [10]) (by kernel_rfl) (by simp) ?_
          refine AllReadyH.cons (o := { dst := some 6, op := Op.alloc 39, type := 0, pos := "law.go:129", after := #[], guard := none }) rfl (fun K hK => ?_) AllReadyH.nil
          go_simp
          obtain ⟨v5, hv⟩ : ∃ V, V = w4.alloc (.cells #[.slice none 0 0, .slice none 0 0] TMo) := ⟨_, rfl⟩
          rw [← hv]
          have kv := Lib.hid (show Keep (fun _ => False) w4 v5 by rw [hv]; exact (Keep.refl _ _).alloc _)
          have hz5 := Lib.hid (show v5.heap[w4.heap.size]? = some (.cells #[.slice none 0 0, .slice none 0 0] TMo (0, 0)) by rw [hv]; exact block_new w4 _)
          clear hv
          refine hK.out _ _ ((KD.out.toAny.trans k4.out).trans kv.out.toAny) (fun hHeld => ?_)
          clear hK K
          try simp only [Act.put, List.setIfInBounds_toArray, List.set_cons_zero, List.set_cons_succ]
          have hY0 := hz5.out
          have HY0 := Lib.hid hY0
          have y0 := cell_at hY0 0
          have e0 := free_at hY0 0
          have hY1 := block_set hY0 0 (.slice a5 k5 c5)
          have y1 := cell_at hY1 1
          have e1 := free_at hY1 1
          clear hY0 hY1
          simp at y0 y1
          refine wpAnyH_ready (rs := [11]) (by kernel_rfl) (by simp) ?_
          refine AllReadyH.cons (o := { dst := none, op := Op.store 39 (Operand.tmp 6) (Operand.tmp 32), type := 0, pos := "law.go:129", after := #[{ on := 10, ground := Ground.data }, { on := 8, ground := Ground.data }, { on := 6, ground := Ground.chain }, { on := 0, ground := Ground.phase }, { on := 1, ground := Ground.phase }, { on := 2, ground := Ground.phase }, { on := 3, ground := Ground.phase }, { on := 4, ground := Ground.phase }, { on := 5, ground := Ground.phase }, { on := 6, ground := Ground.phase }, { on := 7, ground := Ground.phase }, { on := 8, ground := Ground.phase }, { on := 9, ground := Ground.textOnly Departure.lateStores }, { on := 10, ground := Ground.phase }], guard := none }) rfl (fun K hK => ?_) AllReadyH.nil
          go_simp
          refine hK.out _ _ (Keep.setCell (p := ⟨w4.heap.size, 1, none⟩) (Keep.setCell (p := ⟨w4.heap.size, 0, none⟩) ((KD.out.toAny.trans k4.out).trans kv.out.toAny) (.inr (show wr.heap.size ≤ w4.heap.size by have := KD.out.size; have := k4.out.size; omega)) _) (.inr (show wr.heap.size ≤ w4.heap.size by have := KD.out.size; have := k4.out.size; omega)) _) (fun hHeld => ?_)
          clear hK K
          try simp only [Act.put, List.setIfInBounds_toArray, List.set_cons_zero, List.set_cons_succ]
          refine wpAnyH_take (i := 12) (oi := { dst := some 7, op := Op.assign (Operand.tmp 33), type := 4, pos := "law.go:129", after := #[{ on := 9, ground := Ground.data }, { on := 11, ground := Ground.chain }, { on := 0, ground := Ground.phase }, { on := 1, ground := Ground.phase }, { on := 2, ground := Ground.phase }, { on := 3, ground := Ground.phase }, { on := 4, ground := Ground.phase }, { on := 5, ground := Ground.phase }, { on := 6, ground := Ground.phase }, { on := 7, ground := Ground.phase }, { on := 8, ground := Ground.phase }, { on := 9, ground := Ground.phase }, { on := 10, ground := Ground.phase }, { on := 11, ground := Ground.phase }], guard := none }) (v := .bool true) rfl (by kernel_rfl) (by kernel_rfl) (by kernel_rfl) (fun _ _ _ h => h) (Or.inl ⟨by rfl, ?_⟩) (by assumption) ?_
          · (intro w' hSw; (try dsimp only at hSw); go_simp)
          try simp only [Act.put, List.setIfInBounds_toArray, List.set_cons_zero, List.set_cons_succ]
          refine wpAnyH_done (by kernel_rfl) ?_ _
          go_wp2_with fail
          go_meet
          exact ⟨_, _, _, rfl, rfl, Lib.hid (Nx.mk hP.out KD.out HD.out kv.out HY0.out (fun y e => by cases e) (fun y e => by cases e) (.inl rfl))⟩
        refine AllReadyH.cons (o := { dst := some 6, op := Op.alloc 39, type := 0, pos := "law.go:129", after := #[], guard := none }) rfl (fun K hK => ?_) AllReadyH.nil
        go_simp
        obtain ⟨v5, hv⟩ : ∃ V, V = wd.alloc (.cells #[.slice none 0 0, .slice none 0 0] TMo) := ⟨_, rfl⟩
        rw [← hv]
        have kv := Lib.hid (KD.out.trans (show Keep (fun _ => False) wd v5 by rw [hv]; exact (Keep.refl _ _).alloc _))
        have hz5 := Lib.hid (show v5.heap[wd.heap.size]? = some (.cells #[.slice none 0 0, .slice none 0 0] TMo (0, 0)) by rw [hv]; exact block_new wd _)
        clear hv
        refine hK.out _ _ (kv.out.toAny) (fun hHeld => ?_)
        clear hK K
        try simp only [Act.put, List.setIfInBounds_toArray, List.set_cons_zero, List.set_cons_succ]
        refine wpAnyH_ready (rs := [6]) (by kernel_rfl) (by simp) ?_
        refine AllReadyH.cons (o := { dst := some 31, op := Op.call { callee := Callee.value (Operand.func 17), args := #[Operand.tmp 25, Operand.tmp 26, Operand.tmp 30], argTypes := #[39, 23, 43] }, type := 40, pos := "law.go:129", after := #[{ on := 0, ground := Ground.data }, { on := 1, ground := Ground.data }, { on := 5, ground := Ground.data }], guard := none }) rfl (fun K hK => ?_) AllReadyH.nil
        go_simp
        go_at_call 17
        refine (HDO.out _ kv.out).mono ?_
        rintro e w4 ⟨vl4, vc4, rfl, hD⟩
        have hD5 := hD
        obtain ⟨F4, ps4, cs4, n4, S4, v4, -, -, f4, k4, -, -, rl, rc, -, -, -⟩ := hD5
        obtain ⟨a5, c5, hv5⟩ := grow_form rl
        obtain ⟨k5, hk5⟩ : ∃ q, q = ps4.length := ⟨_, rfl⟩
        rw [← hk5] at hv5
        subst hv5
        obtain ⟨a6, c6, hv6⟩ := grow_form rc
        obtain ⟨m6, hm6⟩ : ∃ q, q = cs4.length := ⟨_, rfl⟩
        rw [← hm6] at hv6
        subst hv6
        clear rl rc hk5 hm6 f4
        have HD := Lib.hid hD
        replace k4 := Lib.hid k4
        clear hD
        go_simp
        refine hK.out _ _ ((Keep.toAny kv.out).trans k4.out) (fun hHeld => ?_)
        clear hK K
        try simp only [Act.put, List.setIfInBounds_toArray, List.set_cons_zero, List.set_cons_succ]
        refine wpAnyH_take (i := 7) (oi := { dst := some 24, op := Op.move (Operand.tmp 31), type := 40, pos := "law.go:129", after := #[{ on := 6, ground := Ground.data }], guard := none }) (v := .tuple #[.agg #[.slice a5 k5 c5, .slice a6 m6 c6], .bool true]) rfl (by kernel_rfl) (by kernel_rfl) (by kernel_rfl) (fun _ _ _ h => h) (Or.inl ⟨by rfl, ?_⟩) (by assumption) ?_
        · (intro w' hSw; (try dsimp only at hSw); go_simp)
        try simp only [Act.put, List.setIfInBounds_toArray, List.set_cons_zero, List.set_cons_succ]
        refine wpAnyH_take (i := 8) (oi := { dst := some 32, op := Op.extract (Operand.tmp 24) 0, type := 39, pos := "law.go:129", after := #[{ on := 7, ground := Ground.data }], guard := none }) (v := .agg #[.slice a5 k5 c5, .slice a6 m6 c6]) rfl (by kernel_rfl) (by kernel_rfl) (by kernel_rfl) (fun _ _ _ h => h) (Or.inl ⟨by rfl, ?_⟩) (by assumption) ?_
        · (intro w' hSw; (try dsimp only at hSw); go_simp)
        try simp only [Act.put, List.setIfInBounds_toArray, List.set_cons_zero, List.set_cons_succ]
        refine wpAnyH_take (i := 9) (oi := { dst := some 33, op := Op.extract (Operand.tmp 24) 1, type := 4, pos := "law.go:129", after := #[{ on := 7, ground := Ground.data }, { on := 11, ground := Ground.gcOnly Departure.lateStores }], guard := none }) (v := .bool true) rfl (by kernel_rfl) (by kernel_rfl) (by kernel_rfl) (fun _ _ _ h => h) (Or.inl ⟨by rfl, ?_⟩) (by assumption) ?_
        · (intro w' hSw; (try dsimp only at hSw); go_simp)
        try simp only [Act.put, List.setIfInBounds_toArray, List.set_cons_zero, List.set_cons_succ]
        have hY0 := (k4.out.block _ (lt_of_block hz5.out) (fun f => by have := hP.out.foot _ f; have := KD.out.size; omega)).trans hz5.out
        have HY0 := Lib.hid hY0
        have y0 := cell_at hY0 0
        have e0 := free_at hY0 0
        have hY1 := block_set hY0 0 (.slice a5 k5 c5)
        have y1 := cell_at hY1 1
        have e1 := free_at hY1 1
        clear hY0 hY1
        simp at y0 y1
        refine wpAnyH_ready (rs := [11]) (by kernel_rfl) (by simp) ?_
        refine AllReadyH.cons (o := { dst := none, op := Op.store 39 (Operand.tmp 6) (Operand.tmp 32), type := 0, pos := "law.go:129", after := #[{ on := 10, ground := Ground.data }, { on := 8, ground := Ground.data }, { on := 6, ground := Ground.chain }, { on := 0, ground := Ground.phase }, { on := 1, ground := Ground.phase }, { on := 2, ground := Ground.phase }, { on := 3, ground := Ground.phase }, { on := 4, ground := Ground.phase }, { on := 5, ground := Ground.phase }, { on := 6, ground := Ground.phase }, { on := 7, ground := Ground.phase }, { on := 8, ground := Ground.phase }, { on := 9, ground := Ground.textOnly Departure.lateStores }, { on := 10, ground := Ground.phase }], guard := none }) rfl (fun K hK => ?_) AllReadyH.nil
        go_simp
        refine hK.out _ _ (Keep.setCell (p := ⟨wd.heap.size, 1, none⟩) (Keep.setCell (p := ⟨wd.heap.size, 0, none⟩) (kv.out.toAny.trans k4.out) (.inr (show wr.heap.size ≤ wd.heap.size by have := KD.out.size; have := k4.out.size; omega)) _) (.inr (show wr.heap.size ≤ wd.heap.size by have := KD.out.size; have := k4.out.size; omega)) _) (fun hHeld => ?_)
        clear hK K
        try simp only [Act.put, List.setIfInBounds_toArray, List.set_cons_zero, List.set_cons_succ]
        refine wpAnyH_take (i := 12) (oi := { dst := some 7, op := Op.assign (Operand.tmp 33), type := 4, pos := "law.go:129", after := #[{ on := 9, ground := Ground.data }, { on := 11, ground := Ground.chain }, { on := 0, ground := Ground.phase }, { on := 1, ground := Ground.phase }, { on := 2, ground := Ground.phase }, { on := 3, ground := Ground.phase }, { on := 4, ground := Ground.phase }, { on := 5, ground := Ground.phase }, { on := 6, ground := Ground.phase }, { on := 7, ground := Ground.phase }, { on := 8, ground := Ground.phase }, { on := 9, ground := Ground.phase }, { on := 10, ground := Ground.phase }, { on := 11, ground := Ground.phase }], guard := none }) (v := .bool true) rfl (by kernel_rfl) (by kernel_rfl) (by kernel_rfl) (fun _ _ _ h => h) (Or.inl ⟨by rfl, ?_⟩) (by assumption) ?_
        · (intro w' hSw; (try dsimp only at hSw); go_simp)
        try simp only [Act.put, List.setIfInBounds_toArray, List.set_cons_zero, List.set_cons_succ]
        refine wpAnyH_done (by kernel_rfl) ?_ _
        go_wp2_with fail
        go_meet
        exact ⟨_, _, _, rfl, rfl, Lib.hid (Nx.mk hP.out kv.out HD.out (Keep.refl _ w4) HY0.out (fun y e => by cases e) (fun y e => by cases e) (.inr ⟨KD.out.size, lt_of_block hz5.out⟩))⟩
      case rest =>
        obtain ⟨K, vl4, vc4, rfl, rfl, hN⟩ := hcut
        obtain ⟨F', ps', cs', n', S', v', hP5, hl5, hc5, hn5⟩ := hN.out.put
        have hN9 := hN.out
        obtain ⟨_, _, _, _, _, _, _, _, _, _, _, _, _, ⟨o0, o1, hMo, _, _⟩, hKb, _, hKM, _⟩ := hN9
        obtain ⟨a5, c5, hv5⟩ := grow_form hP5.l
        obtain ⟨k5, hk5⟩ : ∃ q, q = ps'.length := ⟨_, rfl⟩
        rw [← hk5] at hv5
        subst hv5
        obtain ⟨a6, c6, hv6⟩ := grow_form hP5.c
        obtain ⟨m6, hm6⟩ : ∃ q, q = cs'.length := ⟨_, rfl⟩
        rw [← hm6] at hv6
        subst hv6
        have HK5 := Lib.hid hk5
        have HB5 := Lib.hid (show ps'.length ≤ i + 1 ∧ cs'.length ≤ i + 1 ∧ n' ≤ i + 1 from ⟨by have := hbs.out; omega, by have := hbs.out; omega, by have := hbs.out; omega⟩)
        have hk5b : k5 ≤ 121 := by have := HB5.out; omega
        have q0 := cell_at hKb 0
        have q1 := cell_at hKb 1
        have r0 := cell_at hMo 0
        have fr0 := free_at hMo 0
        have hMo2 := block_set hMo 0 (.slice a5 k5 c5)
        have r1 := cell_at hMo2 1
        have fr1 := free_at hMo2 1
        simp at q0 q1 r0 r1
        have HP5 := Lib.hid hP5
        clear hP5 hMo hKb hMo2 hN hk5 hm6 hl5 hc5 hn5 HS HDO
        go_upto_region 9 with fail
        clear q0 q1 r0 r1 fr0 fr1
        obtain ⟨w5, hw5⟩ : ∃ V, V = (wc.setCell ⟨M, 0, none⟩ (.slice a5 k5 c5)).setCell ⟨M, 1, none⟩ (.slice a6 m6 c6) := ⟨_, rfl⟩
        rw [← hw5] at HP5 ⊢
        clear hw5
        have hall := all_at HP5.out.net (by have := HB5.out; omega)
        rw [← HK5.out] at hall
        have HALL := Lib.hid hall
        clear hall
        go_upto_region 10 with (go_at_call 14; refine HALL.out.mono ?_; clear HALL; rintro e w6 ⟨v6, rfl, r6, k6⟩
                                have hg6 := own_grow r6
                                obtain ⟨a7, c7, hv7⟩ := grow_form hg6
                                subst hv7
                                have HG6 := Lib.hid hg6
                                replace k6 := Lib.hid k6
                                clear r6 hg6)
        have HP6 := Lib.hid (HP5.out.keep0 k6.out)
        have HLN := Lib.hid (show ∀ W, Keep (fun _ => False) w6 W → Calls Try.prog 11 #[.pointer (some ⟨b, 0, none⟩)] W fun e w' => e = .returned (.int .i64 (k5 : Int)) ∧ W = w' from fun W kw => by rw [HK5.out]; exact len_at (HP6.out.keep0 kw).net)
        have HS := Lib.hid (show ∀ w' : World, Keep (fun _ => False) w6 w' → w'.cell? ⟨M, 0, none⟩ = some (.slice a5 k5 c5) from fun w' kw => cell_at ((HP6.out.keep0 kw).m) 0)
        refine wp_region_held_drew (S := (fun w' => Keep (fun _ => False) w6 w')) (by kernel_rfl) ?_ (fun hHeld => ?_)
        · exact (Keep.refl _ w6).drew
        generalize hwd : w6.drew = wd at hHeld ⊢
        have KD := Lib.hid (show Keep (fun _ => False) w6 wd by rw [← hwd]; exact (Keep.refl _ w6).drew)
        clear hwd
        refine wpAnyH_take (i := 0) (oi := { dst := some 37, op := Op.move (Operand.tmp 7), type := 4, pos := "law.go:132", after := #[], guard := none }) (v := .bool true) rfl (by kernel_rfl) (by kernel_rfl) (by kernel_rfl) (fun _ _ _ h => h) (Or.inl ⟨by rfl, ?_⟩) (by assumption) ?_
        · (intro w' hSw; (try dsimp only at hSw); go_simp)
        try simp only [Act.put, List.setIfInBounds_toArray, List.set_cons_zero, List.set_cons_succ]
        refine wpAnyH_take (i := 1) (oi := { dst := some 38, op := Op.unOp UnOp.not 4 (Operand.tmp 37), type := 4, pos := "law.go:132", after := #[{ on := 0, ground := Ground.data }], guard := none }) (v := .bool false) rfl (by kernel_rfl) (by kernel_rfl) (by kernel_rfl) (fun _ _ _ h => h) (Or.inl ⟨by rfl, ?_⟩) (by assumption) ?_
        · (intro w' hSw; (try dsimp only at hSw); go_simp)
        try simp only [Act.put, List.setIfInBounds_toArray, List.set_cons_zero, List.set_cons_succ]
        refine wpAnyH_take (i := 2) (oi := { dst := some 39, op := Op.move (Operand.tmp 38), type := 4, pos := "law.go:132", after := #[{ on := 1, ground := Ground.data }], guard := none }) (v := .bool false) rfl (by kernel_rfl) (by kernel_rfl) (by kernel_rfl) (fun _ _ _ h => h) (Or.inl ⟨by rfl, ?_⟩) (by assumption) ?_
        · (intro w' hSw; (try dsimp only at hSw); go_simp)
        try simp only [Act.put, List.setIfInBounds_toArray, List.set_cons_zero, List.set_cons_succ]
        refine wpAnyH_take (i := 3) (oi := { dst := some 40, op := Op.move (Operand.tmp 3), type := 23, pos := "law.go:132", after := #[{ on := 2, ground := Ground.guard }], guard := some (2, false) }) (v := .pointer (some ⟨b, 0, none⟩)) rfl (by kernel_rfl) (by kernel_rfl) (by kernel_rfl) (fun _ _ _ h => h) (Or.inl ⟨by rfl, ?_⟩) (by assumption) ?_
        · (intro w' hSw; (try dsimp only at hSw); go_simp)
        try simp only [Act.put, List.setIfInBounds_toArray, List.set_cons_zero, List.set_cons_succ]
        refine wpAnyH_take (i := 5) (oi := { dst := some 42, op := Op.fieldAddr 39 (Operand.tmp 4) 0, type := 0, pos := "law.go:132", after := #[{ on := 2, ground := Ground.guard }], guard := some (2, false) }) (v := .pointer (some ⟨M, 0, none⟩)) rfl (by kernel_rfl) (by kernel_rfl) (by kernel_rfl) (fun _ _ _ h => h) (Or.inl ⟨by rfl, ?_⟩) (by assumption) ?_
        · (intro w' hSw; (try dsimp only at hSw); go_simp)
        try simp only [Act.put, List.setIfInBounds_toArray, List.set_cons_zero, List.set_cons_succ]
        refine wpAnyH_take (i := 6) (oi := { dst := some 43, op := Op.load 32 (Operand.tmp 42), type := 32, pos := "law.go:132", after := #[{ on := 5, ground := Ground.data }, { on := 2, ground := Ground.guard }], guard := some (2, false) }) (v := .slice a5 k5 c5) rfl (by kernel_rfl) (by kernel_rfl) (by kernel_rfl) (fun _ _ _ h => h) (Or.inl ⟨by rfl, ?_⟩) (by assumption) ?_
        · (intro w' hSw; (try dsimp only at hSw); have x0 := HS.out w' hSw; go_simp)
        try simp only [Act.put, List.setIfInBounds_toArray, List.set_cons_zero, List.set_cons_succ]
        refine wpAnyH_take (i := 7) (oi := { dst := some 44, op := Op.call { callee := Callee.builtin Builtin.len, args := #[Operand.tmp 43], argTypes := #[32] }, type := 3, pos := "law.go:132", after := #[{ on := 6, ground := Ground.data }, { on := 2, ground := Ground.guard }], guard := some (2, false) }) (v := .int .i64 (k5 : Int)) rfl (by kernel_rfl) (by kernel_rfl) (by kernel_rfl) (fun _ _ _ h => h) (Or.inl ⟨by rfl, ?_⟩) (by assumption) ?_
        · (intro w' hSw; (try dsimp only at hSw); go_simp)
        try simp only [Act.put, List.setIfInBounds_toArray, List.set_cons_zero, List.set_cons_succ]
        refine wpAnyH_ready (rs := [4]) (by kernel_rfl) (by simp) ?_
        refine AllReadyH.cons (o := { dst := some 41, op := Op.call { callee := Callee.value (Operand.func 11), args := #[Operand.tmp 40], argTypes := #[23] }, type := 3, pos := "law.go:132", after := #[{ on := 3, ground := Ground.data }, { on := 2, ground := Ground.chain }, { on := 2, ground := Ground.guard }], guard := some (2, false) }) rfl (fun K hK => ?_) AllReadyH.nil
        go_simp
        go_at_call 11
        refine (HLN.out _ KD.out).mono ?_
        rintro e w7 ⟨rfl, hw7⟩
        subst hw7
        go_simp
        refine hK.out _ _ (KD.out) (fun hHeld => ?_)
        clear hK K
        try simp only [Act.put, List.setIfInBounds_toArray, List.set_cons_zero, List.set_cons_succ]
        refine wpAnyH_take (i := 8) (oi := { dst := some 45, op := Op.binOp BinOp.neq 3 (Operand.tmp 41) (Operand.tmp 44) 3, type := 4, pos := "law.go:132", after := #[{ on := 4, ground := Ground.data }, { on := 7, ground := Ground.data }, { on := 2, ground := Ground.guard }], guard := some (2, false) }) (v := .bool false) rfl (by kernel_rfl) (by kernel_rfl) (by kernel_rfl) (fun _ _ _ h => h) (Or.inl ⟨by rfl, ?_⟩) (by assumption) ?_
        · (intro w' hSw; (try dsimp only at hSw); go_simp)
        try simp only [Act.put, List.setIfInBounds_toArray, List.set_cons_zero, List.set_cons_succ]
        refine wpAnyH_take (i := 9) (oi := { dst := some 46, op := Op.pick (Operand.tmp 39) (Operand.const (Value.bool true)) (Operand.tmp 45), type := 4, pos := "law.go:132", after := #[{ on := 2, ground := Ground.data }, { on := 8, ground := Ground.data }], guard := none }) (v := .bool false) rfl (by kernel_rfl) (by kernel_rfl) (by kernel_rfl) (fun _ _ _ h => h) (Or.inl ⟨by rfl, ?_⟩) (by assumption) ?_
        · (intro w' hSw; (try dsimp only at hSw); go_simp)
        try simp only [Act.put, List.setIfInBounds_toArray, List.set_cons_zero, List.set_cons_succ]
        refine wpAnyH_take (i := 10) (oi := { dst := some 47, op := Op.move (Operand.tmp 46), type := 4, pos := "law.go:132", after := #[{ on := 9, ground := Ground.data }, { on := 4, ground := Ground.chain }], guard := none }) (v := .bool false) rfl (by kernel_rfl) (by kernel_rfl) (by kernel_rfl) (fun _ _ _ h => h) (Or.inl ⟨by rfl, ?_⟩) (by assumption) ?_
        · (intro w' hSw; (try dsimp only at hSw); go_simp)
        try simp only [Act.put, List.setIfInBounds_toArray, List.set_cons_zero, List.set_cons_succ]
        refine wpAnyH_take (i := 11) (oi := { dst := some 48, op := Op.move (Operand.tmp 8), type := 32, pos := "law.go:132", after := #[{ on := 10, ground := Ground.guard }], guard := some (10, false) }) (v := .slice a7 k5 c7) rfl (by kernel_rfl) (by kernel_rfl) (by kernel_rfl) (fun _ _ _ h => h) (Or.inl ⟨by rfl, ?_⟩) (by assumption) ?_
        · (intro w' hSw; (try dsimp only at hSw); go_simp)
        try simp only [Act.put, List.setIfInBounds_toArray, List.set_cons_zero, List.set_cons_succ]
        refine wpAnyH_take (i := 12) (oi := { dst := some 49, op := Op.call { callee := Callee.builtin Builtin.len, args := #[Operand.tmp 48], argTypes := #[32] }, type := 3, pos := "law.go:132", after := #[{ on := 11, ground := Ground.data }, { on := 10, ground := Ground.guard }], guard := some (10, false) }) (v := .int .i64 (k5 : Int)) rfl (by kernel_rfl) (by kernel_rfl) (by kernel_rfl) (fun _ _ _ h => h) (Or.inl ⟨by rfl, ?_⟩) (by assumption) ?_
        · (intro w' hSw; (try dsimp only at hSw); go_simp)
        try simp only [Act.put, List.setIfInBounds_toArray, List.set_cons_zero, List.set_cons_succ]
        refine wpAnyH_take (i := 13) (oi := { dst := some 50, op := Op.fieldAddr 39 (Operand.tmp 4) 0, type := 0, pos := "law.go:132", after := #[{ on := 10, ground := Ground.guard }], guard := some (10, false) }) (v := .pointer (some ⟨M, 0, none⟩)) rfl (by kernel_rfl) (by kernel_rfl) (by kernel_rfl) (fun _ _ _ h => h) (Or.inl ⟨by rfl, ?_⟩) (by assumption) ?_
        · (intro w' hSw; (try dsimp only at hSw); go_simp)
        try simp only [Act.put, List.setIfInBounds_toArray, List.set_cons_zero, List.set_cons_succ]
        refine wpAnyH_take (i := 14) (oi := { dst := some 51, op := Op.load 32 (Operand.tmp 50), type := 32, pos := "law.go:132", after := #[{ on := 13, ground := Ground.data }, { on := 10, ground := Ground.guard }], guard := some (10, false) }) (v := .slice a5 k5 c5) rfl (by kernel_rfl) (by kernel_rfl) (by kernel_rfl) (fun _ _ _ h => h) (Or.inl ⟨by rfl, ?_⟩) (by assumption) ?_
        · (intro w' hSw; (try dsimp only at hSw); have x0 := HS.out w' hSw; go_simp)
        try simp only [Act.put, List.setIfInBounds_toArray, List.set_cons_zero, List.set_cons_succ]
        refine wpAnyH_take (i := 15) (oi := { dst := some 52, op := Op.call { callee := Callee.builtin Builtin.len, args := #[Operand.tmp 51], argTypes := #[32] }, type := 3, pos := "law.go:132", after := #[{ on := 14, ground := Ground.data }, { on := 10, ground := Ground.guard }], guard := some (10, false) }) (v := .int .i64 (k5 : Int)) rfl (by kernel_rfl) (by kernel_rfl) (by kernel_rfl) (fun _ _ _ h => h) (Or.inl ⟨by rfl, ?_⟩) (by assumption) ?_
        · (intro w' hSw; (try dsimp only at hSw); go_simp)
        try simp only [Act.put, List.setIfInBounds_toArray, List.set_cons_zero, List.set_cons_succ]
        refine wpAnyH_take (i := 16) (oi := { dst := some 53, op := Op.binOp BinOp.neq 3 (Operand.tmp 49) (Operand.tmp 52) 3, type := 4, pos := "law.go:132", after := #[{ on := 12, ground := Ground.data }, { on := 15, ground := Ground.data }, { on := 10, ground := Ground.guard }], guard := some (10, false) }) (v := .bool false) rfl (by kernel_rfl) (by kernel_rfl) (by kernel_rfl) (fun _ _ _ h => h) (Or.inl ⟨by rfl, ?_⟩) (by assumption) ?_
        · (intro w' hSw; (try dsimp only at hSw); go_simp)
        try simp only [Act.put, List.setIfInBounds_toArray, List.set_cons_zero, List.set_cons_succ]
        refine wpAnyH_take (i := 17) (oi := { dst := some 54, op := Op.pick (Operand.tmp 47) (Operand.const (Value.bool true)) (Operand.tmp 53), type := 4, pos := "law.go:132", after := #[{ on := 10, ground := Ground.data }, { on := 16, ground := Ground.data }], guard := none }) (v := .bool false) rfl (by kernel_rfl) (by kernel_rfl) (by kernel_rfl) (fun _ _ _ h => h) (Or.inl ⟨by rfl, ?_⟩) (by assumption) ?_
        · (intro w' hSw; (try dsimp only at hSw); go_simp)
        try simp only [Act.put, List.setIfInBounds_toArray, List.set_cons_zero, List.set_cons_succ]
        refine wpAnyH_done (by kernel_rfl) ?_ _
        have HP7 := Lib.hid (HP6.out.keep0 KD.out)
        go_wp2_with fail
        go_loopw [9] (fun xj wq => ∃ (j : Nat), j ≤ k5 ∧ xj = .int .i64 (j : Int) ∧ Hid (Keep (fun _ => False) wd wq)) (fun xj wq => k5 - (intOf xj).toNat)
        case atStart => exact ⟨0, by omega, rfl, Lib.hid (Keep.refl _ _)⟩
        case round =>
          obtain ⟨j, hj, rfl, hkq⟩ := hrel
          by_cases hjn : j < k5
          · skip
            obtain ⟨p, hp⟩ : ∃ p, ps'[j]? = some p := ⟨ps'[j]'(by have := HK5.out; omega), List.getElem?_eq_getElem _⟩
            have x0 := HS.out _ (KD.out.trans hkq.out)
            obtain ⟨aa, ca, hva, -, -, hma⟩ := HG6.out
            simp only [Value.slice.injEq, true_and] at hva
            obtain ⟨rfl, rfl⟩ := hva
            rcases hma with h0 | ⟨g6, of6, rfl, -, hg6, -, hc6⟩
            · omega
            obtain ⟨am, cm, hvm, -, -, hmm⟩ := (HP7.out.keep0 hkq.out).l
            simp only [Value.slice.injEq] at hvm
            obtain ⟨rfl, -, rfl⟩ := hvm
            rcases hmm with h0 | ⟨gm, om, rfl, -, hgm, -, hcm⟩
            · have := HK5.out; omega
            have hpk := fun (q : Nat) (hq : q < 4) (u : Value) (hu : p.cells[q]? = some u) => (pk_four ps' j p hp q hq).trans hu
            obtain ⟨fr, to_, ss, sp⟩ := p
            have kc := KD.out.trans hkq.out
            unfold Pk.cells at hpk
            have y0 : wr.cell? ⟨g6, of6 + j * 4, none⟩ = some (.int .i64 fr) := (kc.cell (p := ⟨g6, _, none⟩) hg6 (fun e => e)).trans (by have := hc6 (j * 4 + 0) (.int .i64 fr) (hpk 0 (by omega) _ rfl); simpa [Nat.add_assoc] using this)
            have z0 : wr.cell? ⟨gm, om + j * 4, none⟩ = some (.int .i64 fr) := by have := hcm (j * 4 + 0) (.int .i64 fr) (hpk 0 (by omega) _ rfl); simpa [Nat.add_assoc] using this
            have y1 : wr.cell? ⟨g6, of6 + j * 4 + 1, none⟩ = some (.int .i64 to_) := (kc.cell (p := ⟨g6, _, none⟩) hg6 (fun e => e)).trans (by have := hc6 (j * 4 + 1) (.int .i64 to_) (hpk 1 (by omega) _ rfl); simpa [Nat.add_assoc] using this)
            have z1 : wr.cell? ⟨gm, om + j * 4 + 1, none⟩ = some (.int .i64 to_) := by have := hcm (j * 4 + 1) (.int .i64 to_) (hpk 1 (by omega) _ rfl); simpa [Nat.add_assoc] using this
            have y2 : wr.cell? ⟨g6, of6 + j * 4 + 2, none⟩ = some (.string ss) := (kc.cell (p := ⟨g6, _, none⟩) hg6 (fun e => e)).trans (by have := hc6 (j * 4 + 2) (.string ss) (hpk 2 (by omega) _ rfl); simpa [Nat.add_assoc] using this)
            have z2 : wr.cell? ⟨gm, om + j * 4 + 2, none⟩ = some (.string ss) := by have := hcm (j * 4 + 2) (.string ss) (hpk 2 (by omega) _ rfl); simpa [Nat.add_assoc] using this
            have y3 : wr.cell? ⟨g6, of6 + j * 4 + 3, none⟩ = some (.bool sp) := (kc.cell (p := ⟨g6, _, none⟩) hg6 (fun e => e)).trans (by have := hc6 (j * 4 + 3) (.bool sp) (hpk 3 (by omega) _ rfl); simpa [Nat.add_assoc] using this)
            have z3 : wr.cell? ⟨gm, om + j * 4 + 3, none⟩ = some (.bool sp) := by have := hcm (j * 4 + 3) (.bool sp) (hpk 3 (by omega) _ rfl); simpa [Nat.add_assoc] using this
            clear hpk hcm hc6 kc hp hg6 hgm
            go_wp2_with fail
            go_quiet (fail)
            go_wp2_with fail
            refine ⟨⟨j + 1, by omega, by go_num, Lib.hid (hkq.out.trans ((Keep.refl _ _).drewN _))⟩, ?_⟩
            simp [intOf]
            omega
          · skip
            obtain rfl : j = k5 := by omega
            go_wp2_with fail
            go_roundw
            case rel => exact ⟨i + 1, n', F', _, _, v', ps', cs', S', by omega, by omega, HB5, by go_num, Lib.hid (HP7.out.keep0 hkq.out)⟩
            case measure => simp [intOf]; omega
    · have hge : ¬ i < len ∨ (i < len ∧ ¬ i < 120) := by omega
      rcases hge with h1 | ⟨h1, h2⟩
      · go_wp2_with fail
        go_ret
        exact ⟨rfl, hP.out.k.below0⟩
      · obtain rfl : i = 120 := by omega
        go_wp2_with fail
        go_ret
        exact ⟨rfl, hP.out.k.below0⟩

end Go.Proofs.Ytdmdegjomikmlaa.NdP
