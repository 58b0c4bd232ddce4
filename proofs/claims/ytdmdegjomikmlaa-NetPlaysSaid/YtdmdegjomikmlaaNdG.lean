/-
  Layer 22 (net): the law's own model: do, NdG.
-/
import Derived.Test.YtdmdegjomikmlaaNdB
import Derived.Test.YtdmdegjomikmlaaNdT
import Derived.Test.YtdmdegjomikmlaaNdK
namespace Go.Proofs.Ytdmdegjomikmlaa.NdG
set_option linter.unusedVariables false
set_option linter.unusedSimpArgs false
set_option maxRecDepth 100000
open Go.RowKit Go.Proofs.Ytdmdegjomikmlaa.Mem Go.Proofs.Ytdmdegjomikmlaa.NetM Go.Proofs.Ytdmdegjomikmlaa.NetW Go.Proofs.Ytdmdegjomikmlaa.NetS Go.Proofs.Ytdmdegjomikmlaa.NetD Go.Proofs.Ytdmdegjomikmlaa.NetT Go.Proofs.Ytdmdegjomikmlaa.NetA Go.Proofs.Ytdmdegjomikmlaa.NetY Go.Proofs.Ytdmdegjomikmlaa.NetZ Go.Proofs.Ytdmdegjomikmlaa.NetO Go.Proofs.Ytdmdegjomikmlaa.NetB Go.Proofs.Ytdmdegjomikmlaa.NetF Go.Proofs.Ytdmdegjomikmlaa.NetH Go.Proofs.Ytdmdegjomikmlaa.NetU Go.Proofs.Ytdmdegjomikmlaa.NdA Go.Proofs.Ytdmdegjomikmlaa.NdB Go.Proofs.Ytdmdegjomikmlaa.NdT Go.Proofs.Ytdmdegjomikmlaa.NdK
attribute [-go_sem] Builtin.append_

set_option maxHeartbeats 64000000 in
theorem do_8 (b mb n k m cl cc : Nat) (al ac : Option Addr) (ps : List Pk) (cs : List (Int × Int)) (S : Int → Int → Bool) (v : Value) (x : Do) (w : World) (F : Nat → Prop) (B : Nat) (hI : In w F B b mb n k m cl cc al ac ps cs S v) (hx : x.Ok) (hkd : x.kind = 8) :
    Calls Try.prog 17 #[.agg #[.slice al k cl, .slice ac m cc], .pointer (some ⟨b, 0, none⟩), .agg x.cells.toArray] w fun e w' => ∃ vl vc, e = .returned (.tuple #[.agg #[vl, vc], .bool true]) ∧ Did w w' F b mb ps cs n B vl vc := by
  have HI := Lib.hid hI
  have hk9 := hI.k9
  have hm9 := hI.m9
  have hn9 := hI.n9
  clear hI
  obtain ⟨kd, a, c, at_, bits, s⟩ := x
  obtain ⟨wa, wc', wt, wb, ws⟩ := hx
  simp only at wa wc' wt wb ws hkd
  subst hkd
  unfold Do.cells
  go_enter Try.func17, Try.ntmps17
  go_upto_region 1 with fail
  obtain ⟨W, hW⟩ : ∃ W, W = ((w.alloc (.cells #[.slice al k cl, .slice ac m cc] TMo)).alloc (.cells #[.int .i64 8, .int .i64 a, .int .i64 c, .int .i64 at_, .int .i64 bits, .string s] 43)).alloc (.cells #[.slice none 0 0, .slice none 0 0] TMo) := ⟨_, rfl⟩
  rw [← hW]
  have hM0 : W.heap[w.heap.size]? = some (.cells #[.slice al k cl, .slice ac m cc] TMo (0, 0)) := by rw [hW]; exact block_alloc (block_alloc (block_new w _) _) _
  have hA0 : W.heap[w.heap.size + 1]? = some (.cells #[.int .i64 8, .int .i64 a, .int .i64 c, .int .i64 at_, .int .i64 bits, .string s] 43 (0, 0)) := by rw [hW]; exact block_alloc (block_new_at (by simp)) _
  have hZ0 : W.heap[w.heap.size + 1 + 1]? = some (.cells #[.slice none 0 0, .slice none 0 0] TMo (0, 0)) := by rw [hW]; exact block_new_at (by simp)
  have hkW : Keep (fun _ => False) w W := by rw [hW]; exact (((Keep.refl _ w).alloc _).alloc _).alloc _
  have hsW : W.heap.size = w.heap.size + 3 := by rw [hW]; simp
  have HMb := Lib.hid hM0
  have HAb := Lib.hid hA0
  have HZb := Lib.hid hZ0
  have HKW := Lib.hid hkW
  have HSW := Lib.hid hsW
  have HBIG := Lib.hid (show ∀ q, w.heap.size ≤ q → ¬ F q from fun q hq f => by have := HI.out.foot q f; omega)
  have m0 := cell_at hM0 0
  have m1 := cell_at hM0 1
  have a0 := cell_at hA0 0
  have a1 := cell_at hA0 1
  have a2 := cell_at hA0 2
  have a3 := cell_at hA0 3
  have a4 := cell_at hA0 4
  have a5 := cell_at hA0 5
  simp at m0 m1 a0 a1 a2 a3 a4 a5
  clear hW hM0 hA0 hZ0 hkW hsW
  go_cut [8] (fun x8 W' => x8 = .bool (decide (0 ≤ at_) && decide (at_ < (k : Int))) ∧ W' = W)
  case first =>
    by_cases h1 : 0 ≤ at_
    · by_cases h2 : at_ < (k : Int)
      · go_wp2_with fail
        go_meet
        exact ⟨by simp [h1, h2], rfl⟩
      · go_wp2_with fail
        go_meet
        exact ⟨by simp [h1, h2], rfl⟩
    · go_wp2_with fail
      go_meet
      exact ⟨by rw [decide_eq_false (by omega)]; rfl, rfl⟩
  case rest =>
    obtain ⟨rfl, rfl⟩ := hcut
    obtain ⟨isb, hisb⟩ : ∃ q, q = (decide (0 ≤ at_) && decide (at_ < (k : Int))) := ⟨_, rfl⟩
    rw [← hisb]
    clear hisb
    have hh := cut_at (HI.out.net.keep0 HKW.out) (fun q f => by have := HI.out.foot q f; have := HKW.out.size; omega) a c wa wc' (by have := HI.out.hk; have := HI.out.k9; omega) (by have := HI.out.n9; omega)
    rw [left_eq HI.out.off a c] at hh
    have hsm := same_more HI.out.same a c
    obtain ⟨S', hS'⟩ : ∃ S', S' = more S a c := ⟨_, rfl⟩
    rw [← hS'] at hh hsm
    clear hS'
    have hof := left_off (cs := cs ++ [(a, c)]) (ps := ps)
    obtain ⟨f, hf⟩ : ∃ f : Pk → Bool, f = fun p => !offL (cs ++ [(a, c)]) p.fr p.to_ := ⟨_, rfl⟩
    rw [← hf] at hh hof
    have HFF := Lib.hid hf
    have HH := Lib.hid hh
    have HSM := Lib.hid hsm
    have HOF := Lib.hid hof
    clear hf hh hsm hof
    go_upto_region 34 with (go_at_call 15; refine HH.out.mono ?_; clear HH; rintro e w2 ⟨rfl, v2, n2, k2⟩)
    have HN2 := Lib.hid n2
    have K2 := Lib.hid k2
    have HM2 := Lib.hid ((k2.block _ (lt_of_block HMb.out) (HBIG.out _ (by omega))).trans HMb.out)
    have HA2 := Lib.hid ((k2.block _ (lt_of_block HAb.out) (HBIG.out _ (by omega))).trans HAb.out)
    have HZ2 := Lib.hid ((k2.block _ (lt_of_block HZb.out) (HBIG.out _ (by omega))).trans HZb.out)
    clear n2 k2 a0 a1 a2 a3 a4 a5 m0 m1
    have HM := HM2
    have HSZ := Lib.hid (lt_of_block HM2.out)
    have HMM := Lib.hid HI.out.hm
    have HM9 := Lib.hid (show m ≤ 10000 by omega)
    have HCR := Lib.hid (HI.out.c.keep (HKW.out.toAny.trans K2.out) (fun _ _ e => e))
    have HSX := Lib.hid (show ∀ w' : World, Keep (fun j => j = w.heap.size) w2 w' → w'.cell? ⟨w.heap.size + 1, 1, none⟩ = some (.int .i64 a) ∧ w'.cell? ⟨w.heap.size + 1, 2, none⟩ = some (.int .i64 c) from fun w' kw => by
      have ha := (kw.block _ (lt_of_block HA2.out) (by omega)).trans HA2.out
      exact ⟨cell_at ha 1, cell_at ha 2⟩)
    go_cut [] (fun W' => ∃ g c', Hid (Ww w2 W' w.heap.size (m + 1) (.slice al k cl) (cs ++ [(a, c)]) g c'))
    case first =>
      refine reg34 _ rfl w.heap.size (w.heap.size + 1) rfl rfl _ _ w2 F B m cc ac (.slice al k cl) cs a c HM HSX HCR HMM HM9 (fun _ _ _ _ _ h => h) ?_
      intro v201 v202 v203 v204 v205 v206 v207 v208 v209 v210 v211 v212 W' hW
      simp only [Act.put, List.setIfInBounds_toArray, List.set_cons_zero, List.set_cons_succ]
      rename_i hJ hK2
      refine hK2 _ _ ?_
      go_meet
      exact hW
    case rest =>
      obtain ⟨gw, gc, hW⟩ := hcut
      have HW3 := hW
      clear hW
      have HZ3 := Lib.hid ((HW3.out.k.block _ (lt_of_block HZ2.out) (by omega)).trans HZ2.out)
      have HL9 := Lib.hid (show (cs ++ [(a, c)]).length = m + 1 by simp [HI.out.hm])
      have HS2 := Lib.hid (lt_of_block HZ2.out)
      have HGW := Lib.hid HW3.out.g
      go_wp2_with fail
      go_loopw [21, 22] (fun xl xi wr => ∃ j g1 c1, j ≤ k ∧ xi = .int .i64 (j : Int) ∧ xl = .slice (some ⟨g1, 0, none⟩) ((ps.take j).filter f).length c1 ∧ Hid (Kp wc wr ps f j g1 c1)) (fun xl xi wr => k - (intOf xi).toNat)
      case atStart => exact ⟨0, wc.heap.size, 0, by omega, rfl, rfl, Lib.hid Kp.start⟩
      case round =>
        obtain ⟨j, g1, c1, hj, rfl, rfl, hp⟩ := hrel
        have HMr := Lib.hid ((hp.out.k.block _ (lt_of_block HW3.out.m) (fun e => e)).trans HW3.out.m)
        have HZr0 := Lib.hid ((hp.out.k.block _ (lt_of_block HZ3.out) (fun e => e)).trans HZ3.out)
        have m0 := cell_at HMr.out 0
        have m1 := cell_at HMr.out 1
        simp at m0 m1
        by_cases hlt : j < k
        · skip
          obtain ⟨g, off, p, rfl, hcl, hcl9, hpj, hpm, hgl, hgF, hcell⟩ := HI.out.at4 (Keep.refl F w) j hlt
          have HPJ := Lib.hid hpj
          obtain ⟨o, ho⟩ : ∃ o, o = offL (cs ++ [(a, c)]) p.fr p.to_ := ⟨_, rfl⟩
          have hfp : f p = !o := by rw [HFF.out, ho]
          have HFP := Lib.hid hfp
          have hof := fun (W' : World) (kw : Keep (fun _ => False) wr W') => off_m (some ⟨g, off, none⟩) k cl (some ⟨gw, 0, none⟩) (m + 1) gc (cs ++ [(a, c)]) p.fr p.to_ W' F B HL9.out.symm (by omega) (row_grow (owns_keep HW3.out.r (hp.out.k.trans kw) (fun _ _ e => e)) (by have := HI.out.b; have := HGW.out; have := HS2.out; omega) (fun e => HBIG.out gw (by have := HGW.out; have := HS2.out; omega) e))
          simp only [← ho] at hof
          have HPCC := hcell
          obtain ⟨fr, to_, ss, sp⟩ := p
          simp only at hof
          unfold Pk.cells at hcell
          have HOF2 := Lib.hid hof
          have hpc := fun q (hq : q < 4) => (hp.out.k.cell (p := ⟨g, off + j * 4 + q, none⟩) (by have := HW3.out.k.size; have := K2.out.size; have := HSW.out; show g < _; omega) (fun e => e)).trans ((HW3.out.k.cell (p := ⟨g, off + j * 4 + q, none⟩) (by have := K2.out.size; have := HSW.out; show g < _; omega) (fun e => by have : g = w.heap.size := e; omega)).trans ((K2.out.cell (p := ⟨g, off + j * 4 + q, none⟩) (by have := HSW.out; show g < _; omega) hgF).trans ((HKW.out.cell (p := ⟨g, off + j * 4 + q, none⟩) hgl (fun e => e)).trans (hcell q hq))))
          have HS := Lib.hid (show ∀ w' : World, Keep (fun _ => False) wr w' → w'.cell? ⟨w.heap.size, 0, none⟩ = some (.slice (some ⟨g, off, none⟩) k cl) ∧ w'.cell? ⟨w.heap.size, 1, none⟩ = some (.slice (some ⟨gw, 0, none⟩) (m + 1) gc) ∧ w'.cell? ⟨g, off + j * 4, none⟩ = some (.int .i64 fr) ∧ w'.cell? ⟨g, off + j * 4 + 1, none⟩ = some (.int .i64 to_) ∧ w'.cell? ⟨g, off + j * 4 + 2, none⟩ = some (.string ss) ∧ w'.cell? ⟨g, off + j * 4 + 3, none⟩ = some (.bool sp) from fun w' kw => by
            have hg3 : g < wr.heap.size := by have := hp.out.k.size; have := HW3.out.k.size; have := K2.out.size; have := HSW.out; omega
            have hc := fun q (hq : q < 4) => (kw.cell (p := ⟨g, off + j * 4 + q, none⟩) hg3 (fun e => e)).trans (hpc q hq)
            have hm := (kw.block _ (lt_of_block HMr.out) (fun e => e)).trans HMr.out
            exact ⟨cell_at hm 0, cell_at hm 1, hc 0 (by omega), hc 1 (by omega), hc 2 (by omega), hc 3 (by omega)⟩)
          clear hpc hcell HPCC hpj hpm hgl hgF hfp ho hof
          go_upto_region 39 with fail
          clear m0 m1
          refine wp_region_held_drew (S := (fun w' => Keep (fun _ => False) wr w')) (by kernel_rfl) ?_ (fun hHeld => ?_)
          · exact (Keep.refl _ wr).drew
          generalize hwd : wr.drew = wd at hHeld ⊢
          have KD := Lib.hid (show Keep (fun _ => False) wr wd by rw [← hwd]; exact (Keep.refl _ wr).drew)
          clear hwd
          refine wpAnyH_take (i := 0) (oi := { dst := some 221, op := Op.load 39 (Operand.tmp 3), type := 39, pos := "law.go:102", after := #[], guard := none }) (v := .agg #[.slice (some ⟨g, off, none⟩) k cl, .slice (some ⟨gw, 0, none⟩) (m + 1) gc]) rfl (by kernel_rfl) (by kernel_rfl) (by kernel_rfl) (fun _ _ _ h => h) (Or.inl ⟨by rfl, ?_⟩) (by assumption) ?_
          · (intro w' hSw; (try dsimp only at hSw); obtain ⟨x0, x1, x2, x3, x4, x5⟩ := HS.out w' hSw; go_simp)
          try simp only [Act.put, List.setIfInBounds_toArray, List.set_cons_zero, List.set_cons_succ]
          refine wpAnyH_take (i := 1) (oi := { dst := some 222, op := Op.fieldAddr 39 (Operand.tmp 3) 0, type := 0, pos := "law.go:102", after := #[], guard := none }) (v := .pointer (some ⟨w.heap.size, 0, none⟩)) rfl (by kernel_rfl) (by kernel_rfl) (by kernel_rfl) (fun _ _ _ h => h) (Or.inl ⟨by rfl, ?_⟩) (by assumption) ?_
          · (intro w' hSw; (try dsimp only at hSw); go_simp)
          try simp only [Act.put, List.setIfInBounds_toArray, List.set_cons_zero, List.set_cons_succ]
          refine wpAnyH_take (i := 2) (oi := { dst := some 223, op := Op.load 32 (Operand.tmp 222), type := 32, pos := "law.go:102", after := #[{ on := 1, ground := Ground.data }], guard := none }) (v := .slice (some ⟨g, off, none⟩) k cl) rfl (by kernel_rfl) (by kernel_rfl) (by kernel_rfl) (fun _ _ _ h => h) (Or.inl ⟨by rfl, ?_⟩) (by assumption) ?_
          · (intro w' hSw; (try dsimp only at hSw); obtain ⟨x0, x1, x2, x3, x4, x5⟩ := HS.out w' hSw; go_simp)
          try simp only [Act.put, List.setIfInBounds_toArray, List.set_cons_zero, List.set_cons_succ]
          refine wpAnyH_take (i := 3) (oi := { dst := some 224, op := Op.move (Operand.tmp 22), type := 3, pos := "law.go:102", after := #[], guard := none }) (v := .int .i64 (j : Int)) rfl (by kernel_rfl) (by kernel_rfl) (by kernel_rfl) (fun _ _ _ h => h) (Or.inl ⟨by rfl, ?_⟩) (by assumption) ?_
          · (intro w' hSw; (try dsimp only at hSw); go_simp)
          try simp only [Act.put, List.setIfInBounds_toArray, List.set_cons_zero, List.set_cons_succ]
          refine wpAnyH_take (i := 4) (oi := { dst := some 225, op := Op.indexAddr 32 (Operand.tmp 223) (Operand.tmp 224), type := 0, pos := "law.go:102", after := #[{ on := 2, ground := Ground.data }, { on := 3, ground := Ground.data }], guard := none }) (v := .pointer (some ⟨g, off + j * 4, none⟩)) rfl (by kernel_rfl) (by kernel_rfl) (by kernel_rfl) (fun _ _ _ h => h) (Or.inl ⟨by rfl, ?_⟩) (by assumption) ?_
          · (intro w' hSw; (try dsimp only at hSw); go_simp)
          try simp only [Act.put, List.setIfInBounds_toArray, List.set_cons_zero, List.set_cons_succ]
          refine wpAnyH_take (i := 5) (oi := { dst := some 226, op := Op.fieldAddr 27 (Operand.tmp 225) 0, type := 0, pos := "law.go:102", after := #[{ on := 4, ground := Ground.data }], guard := none }) (v := .pointer (some ⟨g, off + j * 4, none⟩)) rfl (by kernel_rfl) (by kernel_rfl) (by kernel_rfl) (fun _ _ _ h => h) (Or.inl ⟨by rfl, ?_⟩) (by assumption) ?_
          · (intro w' hSw; (try dsimp only at hSw); go_simp)
          try simp only [Act.put, List.setIfInBounds_toArray, List.set_cons_zero, List.set_cons_succ]
          refine wpAnyH_take (i := 6) (oi := { dst := some 227, op := Op.load 3 (Operand.tmp 226), type := 3, pos := "law.go:102", after := #[{ on := 5, ground := Ground.data }], guard := none }) (v := .int .i64 fr) rfl (by kernel_rfl) (by kernel_rfl) (by kernel_rfl) (fun _ _ _ h => h) (Or.inl ⟨by rfl, ?_⟩) (by assumption) ?_
          · (intro w' hSw; (try dsimp only at hSw); obtain ⟨x0, x1, x2, x3, x4, x5⟩ := HS.out w' hSw; go_simp)
          try simp only [Act.put, List.setIfInBounds_toArray, List.set_cons_zero, List.set_cons_succ]
          refine wpAnyH_take (i := 7) (oi := { dst := some 228, op := Op.fieldAddr 39 (Operand.tmp 3) 0, type := 0, pos := "law.go:102", after := #[], guard := none }) (v := .pointer (some ⟨w.heap.size, 0, none⟩)) rfl (by kernel_rfl) (by kernel_rfl) (by kernel_rfl) (fun _ _ _ h => h) (Or.inl ⟨by rfl, ?_⟩) (by assumption) ?_
          · (intro w' hSw; (try dsimp only at hSw); go_simp)
          try simp only [Act.put, List.setIfInBounds_toArray, List.set_cons_zero, List.set_cons_succ]
          refine wpAnyH_take (i := 8) (oi := { dst := some 229, op := Op.load 32 (Operand.tmp 228), type := 32, pos := "law.go:102", after := #[{ on := 7, ground := Ground.data }], guard := none }) (v := .slice (some ⟨g, off, none⟩) k cl) rfl (by kernel_rfl) (by kernel_rfl) (by kernel_rfl) (fun _ _ _ h => h) (Or.inl ⟨by rfl, ?_⟩) (by assumption) ?_
          · (intro w' hSw; (try dsimp only at hSw); obtain ⟨x0, x1, x2, x3, x4, x5⟩ := HS.out w' hSw; go_simp)
          try simp only [Act.put, List.setIfInBounds_toArray, List.set_cons_zero, List.set_cons_succ]
          refine wpAnyH_take (i := 9) (oi := { dst := some 230, op := Op.move (Operand.tmp 22), type := 3, pos := "law.go:102", after := #[], guard := none }) (v := .int .i64 (j : Int)) rfl (by kernel_rfl) (by kernel_rfl) (by kernel_rfl) (fun _ _ _ h => h) (Or.inl ⟨by rfl, ?_⟩) (by assumption) ?_
          · (intro w' hSw; (try dsimp only at hSw); go_simp)
          try simp only [Act.put, List.setIfInBounds_toArray, List.set_cons_zero, List.set_cons_succ]
          refine wpAnyH_take (i := 10) (oi := { dst := some 231, op := Op.indexAddr 32 (Operand.tmp 229) (Operand.tmp 230), type := 0, pos := "law.go:102", after := #[{ on := 8, ground := Ground.data }, { on := 9, ground := Ground.data }], guard := none }) (v := .pointer (some ⟨g, off + j * 4, none⟩)) rfl (by kernel_rfl) (by kernel_rfl) (by kernel_rfl) (fun _ _ _ h => h) (Or.inl ⟨by rfl, ?_⟩) (by assumption) ?_
          · (intro w' hSw; (try dsimp only at hSw); go_simp)
          try simp only [Act.put, List.setIfInBounds_toArray, List.set_cons_zero, List.set_cons_succ]
          refine wpAnyH_take (i := 11) (oi := { dst := some 232, op := Op.fieldAddr 27 (Operand.tmp 231) 1, type := 0, pos := "law.go:102", after := #[{ on := 10, ground := Ground.data }], guard := none }) (v := .pointer (some ⟨g, off + j * 4 + 1, none⟩)) rfl (by kernel_rfl) (by kernel_rfl) (by kernel_rfl) (fun _ _ _ h => h) (Or.inl ⟨by rfl, ?_⟩) (by assumption) ?_
          · (intro w' hSw; (try dsimp only at hSw); go_simp)
          try simp only [Act.put, List.setIfInBounds_toArray, List.set_cons_zero, List.set_cons_succ]
          refine wpAnyH_take (i := 12) (oi := { dst := some 233, op := Op.load 3 (Operand.tmp 232), type := 3, pos := "law.go:102", after := #[{ on := 11, ground := Ground.data }], guard := none }) (v := .int .i64 to_) rfl (by kernel_rfl) (by kernel_rfl) (by kernel_rfl) (fun _ _ _ h => h) (Or.inl ⟨by rfl, ?_⟩) (by assumption) ?_
          · (intro w' hSw; (try dsimp only at hSw); obtain ⟨x0, x1, x2, x3, x4, x5⟩ := HS.out w' hSw; go_simp)
          try simp only [Act.put, List.setIfInBounds_toArray, List.set_cons_zero, List.set_cons_succ]
          refine wpAnyH_ready (rs := [13]) (by kernel_rfl) (by simp) ?_
          refine AllReadyH.cons (o := { dst := some 234, op := Op.call { callee := Callee.value (Operand.func 28), args := #[Operand.tmp 221, Operand.tmp 227, Operand.tmp 233], argTypes := #[39, 3, 3] }, type := 4, pos := "law.go:102", after := #[{ on := 0, ground := Ground.data }, { on := 6, ground := Ground.data }, { on := 12, ground := Ground.data }], guard := none }) rfl (fun K hK => ?_) AllReadyH.nil
          go_simp
          go_at_call 28
          refine (HOF2.out _ KD.out).mono ?_
          rintro e w4 ⟨rfl, k4⟩
          have K4 := Lib.hid (KD.out.trans k4)
          clear k4
          go_simp
          refine hK.out _ _ (K4.out) (fun hHeld => ?_)
          clear hK K
          try simp only [Act.put, List.setIfInBounds_toArray, List.set_cons_zero, List.set_cons_succ]
          refine wpAnyH_take (i := 14) (oi := { dst := some 235, op := Op.unOp UnOp.not 4 (Operand.tmp 234), type := 4, pos := "law.go:102", after := #[{ on := 13, ground := Ground.data }], guard := none }) (v := .bool (!o)) rfl (by kernel_rfl) (by kernel_rfl) (by kernel_rfl) (fun _ _ _ h => h) (Or.inl ⟨by rfl, ?_⟩) (by assumption) ?_
          · (intro w' hSw; (try dsimp only at hSw); go_simp)
          try simp only [Act.put, List.setIfInBounds_toArray, List.set_cons_zero, List.set_cons_succ]
          refine wpAnyH_done (by kernel_rfl) ?_ _
          obtain ⟨m0, m1, c0, c1', c2, c3⟩ := HS.out w4 K4.out
          have hp4 := Lib.hid (hp.out.keep K4.out)
          cases o with
          | true =>
            have hsk := Lib.hid (hp4.out.skip HPJ.out (by rw [HFP.out]; rfl))
            have hle : ((ps.take (j + 1)).filter f).length = ((ps.take j).filter f).length := by
              have hp9 := HPJ.out
              have hf9 := HFP.out
              rw [List.take_add_one, hp9]
              simp [hf9]
            have HLE := Lib.hid hle
            clear hle
            go_wp2_with fail
            go_roundw
            case rel => exact ⟨j + 1, g1, c1, by omega, by go_num, by rw [HLE.out], hsk⟩
            case measure => simp [intOf]; omega
          | false =>
            obtain ⟨g2, c2', w5, hrun, hp5⟩ := hp4.out.more HPJ.out (by rw [HFP.out]; rfl) (by have := HI.out.hk; omega)
            unfold Pk.cells at hrun
            have HP5 := Lib.hid hp5
            clear hp5
            obtain ⟨L1, hL1⟩ : ∃ x, x = ((ps.take j).filter f).length := ⟨_, rfl⟩
            skip
            go_wp2_with fail
            go_roundw
            case rel => exact ⟨j + 1, g2, c2', by omega, by go_num, rfl, HP5⟩
            case measure => simp [intOf]; omega
        · skip
          obtain rfl : j = k := by omega
          have fm := free_at HMr.out 0
          have htk : (ps.take j).filter f = ps.filter f := by rw [HI.out.hk, List.take_length]
          have HTK := Lib.hid htk
          have hr := hp.out.r
          rw [htk] at hr ⊢
          have HR := Lib.hid hr
          clear hr htk
          go_upto_region 42 with fail
          clear m0 m1 fm
          obtain ⟨Lf, hLf⟩ : ∃ x, x = (ps.filter f).length := ⟨_, rfl⟩
          have HLf := Lib.hid hLf
          rw [← hLf] at HR ⊢
          clear hLf
          obtain ⟨w7, hw7⟩ : ∃ V, V = wr.setCell ⟨w.heap.size, 0, none⟩ (.slice (some ⟨g1, 0, none⟩) Lf c1) := ⟨_, rfl⟩
          rw [← hw7]
          have hm7 := block_set HMr.out 0 (.slice (some ⟨g1, 0, none⟩) Lf c1)
          rw [← hw7] at hm7
          simp at hm7
          have KM := Lib.hid (show Keep (fun q => q = w.heap.size) wr w7 by rw [hw7]; exact (Keep.refl _ _).set1 _ _)
          clear hw7
          have m0 := cell_at hm7 0
          have m1 := cell_at hm7 1
          simp at m0 m1
          clear hm7
          have HZr := Lib.hid ((KM.out.block _ (lt_of_block HZr0.out) (by omega)).trans HZr0.out)
          have z0 := cell_at HZr.out 0
          have f0 := free_at HZr.out 0
          have hz1 := block_set HZr.out 0 (.slice (some ⟨g1, 0, none⟩) Lf c1)
          have z1 := cell_at hz1 1
          have f1 := free_at hz1 1
          have hz2 := block_set hz1 1 (.slice (some ⟨gw, 0, none⟩) (m + 1) gc)
          simp at z0 z1
          have HQ := Lib.hid hz2
          have HKZ := Lib.hid (show Keep (fun q => q = w.heap.size + 1 + 1) w7 ((w7.setCell ⟨w.heap.size + 1 + 1, 0, none⟩ (.slice (some ⟨g1, 0, none⟩) Lf c1)).setCell ⟨w.heap.size + 1 + 1, 1, none⟩ (.slice (some ⟨gw, 0, none⟩) (m + 1) gc)) from ((Keep.refl (fun q => q = w.heap.size + 1 + 1) w7).set1 _ _).set1 _ _)
          clear hz1 hz2
          go_wp2_with fail
          have KF := Lib.hid (show Keep (fun q => q = w.heap.size ∨ q = w.heap.size + 1 + 1) wr _ from (KM.out.mono (fun q _ e => .inl e)).trans (HKZ.out.mono (fun q _ e => .inr e)))
          have eL := HLf.out
          subst eL
          have hg9 : w.heap.size + 3 ≤ g1 ∧ w.heap.size + 3 ≤ gw := by have h1 := hp.out.g; have h2 := HGW.out; have h3 := K2.out.size; have h4 := HSW.out; have h5 := HW3.out.k.size; omega
          have q0 := cell_at HQ.out 0
          have q1 := cell_at HQ.out 1
          simp at q0 q1
          refine bodyPost_ret (v := .tuple #[.agg #[.slice (some ⟨g1, 0, none⟩) (ps.filter f).length c1, .slice (some ⟨gw, 0, none⟩) (m + 1) gc], .bool true]) ?_ rfl ⟨_, _, rfl, Did.of (S0 := fun q => q = w.heap.size ∨ q = w.heap.size + 1 + 1) (ps' := ps.filter f) (cs' := cs ++ [(a, c)]) HI.out.foot HKW.out HN2.out (fun q h => by have := HI.out.foot q h; have := HKW.out.size; have := K2.out.size; omega) (fun q h => .inl h) K2.out (fun q e => by have := HSW.out; omega) (((HW3.out.k.mono (fun q _ e => .inl e)).trans hp.out.k.toAny).trans KF.out) HSM.out HOF.out (fun kk => ⟨row_grow (owns_keep HR.out KF.out (fun q e h => by have : g1 = q := (by simpa [Value.ownBlock] using e); have := hg9.1; omega)) (by have := HI.out.b; omega) (fun h => HBIG.out g1 (by omega) h), by rw [HL9.out]; exact row_grow (owns_keep HW3.out.r (hp.out.k.toAny.trans KF.out) (fun q e h => by have : gw = q := (by simpa [Value.ownBlock] using e); have := hg9.2; omega)) (by have := HI.out.b; omega) (fun h => HBIG.out gw (by omega) h)⟩) (by have := List.length_filter_le f ps; omega) (by simp) (by omega)⟩
          simp [results, Try.results17, go_sem, q0, q1]

end Go.Proofs.Ytdmdegjomikmlaa.NdG
