/-
  Layer 22 (net): the law's own model: send.
-/
import Derived.Test.YtdmdegjomikmlaaNetO
namespace Go.Proofs.Ytdmdegjomikmlaa.NetB
set_option linter.unusedVariables false
set_option linter.unusedSimpArgs false
set_option maxRecDepth 100000
open Go.RowKit Go.Proofs.Ytdmdegjomikmlaa.Mem Go.Proofs.Ytdmdegjomikmlaa.NetM Go.Proofs.Ytdmdegjomikmlaa.NetW Go.Proofs.Ytdmdegjomikmlaa.NetS Go.Proofs.Ytdmdegjomikmlaa.NetD Go.Proofs.Ytdmdegjomikmlaa.NetT Go.Proofs.Ytdmdegjomikmlaa.NetA Go.Proofs.Ytdmdegjomikmlaa.NetY Go.Proofs.Ytdmdegjomikmlaa.NetZ Go.Proofs.Ytdmdegjomikmlaa.NetO
attribute [-go_sem] Builtin.append_

theorem pk_at (ps : List Pk) : ∀ (j : Nat) (p : Pk), ps[j]? = some p → (flat ps)[j * 4]? = some (.int .i64 p.fr) ∧ (flat ps)[j * 4 + 1]? = some (.int .i64 p.to_) := by
  induction ps with
  | nil => intro j p h; simp at h
  | cons q ps ih =>
    intro j p h
    have e : flat (q :: ps) = .int .i64 q.fr :: .int .i64 q.to_ :: .string q.s :: .bool q.sp :: flat ps := rfl
    cases j with
    | zero =>
      have : q = p := by simpa using h
      subst this
      rw [e]
      exact ⟨rfl, rfl⟩
    | succ j =>
      have h2 := ih j p (by simpa using h)
      rw [e, show (j + 1) * 4 = j * 4 + 1 + 1 + 1 + 1 from by omega]
      simpa using h2
theorem cnt_take (a b : Int) (ps : List Pk) (j : Nat) (p : Pk) (h : ps[j]? = some p) : cnt a b (ps.take (j + 1)) = cnt a b (ps.take j) + if p.fr == a && p.to_ == b then 1 else 0 := by
  rw [List.take_add_one, h]
  exact cnt_snoc a b (ps.take j) p

/-- What the model's send tells, and leaves. -/
def Sent (w w' : World) (e : Ending) (vl vc : Value) (n : Nat) (cs : List (Int × Int)) (ps : List Pk) (p : Pk) : Prop :=
  if 64 ≤ cnt p.fr p.to_ ps ∨ offL cs p.fr p.to_ = true then e = .returned (.tuple #[.agg #[vl, vc], .bool false]) ∧ Keep (fun _ => False) w w'
  else ∃ g2 c2, e = .returned (.tuple #[.agg #[.slice (some ⟨g2, 0, none⟩) (n + 1) c2, vc], .bool true]) ∧ w'.ownsRow 0 TP 4 (.slice (some ⟨g2, 0, none⟩) (n + 1) c2) (n + 1) (flat (ps ++ [p])) ∧ w.heap.size ≤ g2 ∧ Keep (fun _ => False) w w'
theorem one_grow {W : World} {Y : Nat} {p : Pk} (h : W.heap[Y]? = some (.cells p.cells.toArray TP (0, 0))) : GRow W (fun _ => False) 0 (.slice (some ⟨Y, 0, none⟩) 1 1) 1 (flat [p]) := by
  refine ⟨_, 1, rfl, Nat.le_refl _, by omega, .inr ⟨Y, 0, rfl, Nat.zero_le _, lt_of_block h, fun e => e, fun j u e => ?_⟩⟩
  rw [Nat.zero_add, cell_at h, ← e]
  simp [flat]

set_option maxHeartbeats 32000000 in
theorem send_m (al : Option Addr) (n cl : Nat) (ac : Option Addr) (m cc : Nat) (cs : List (Int × Int)) (ps : List Pk) (p : Pk) (w : World) (F : Nat → Prop) (B : Nat) (hn : n = ps.length) (hn9 : n ≤ 9000) (hm : m = cs.length) (hm9 : m ≤ 1000) (hp : GRow w F B (.slice al n cl) n (flat ps)) (hc : GRow w F B (.slice ac m cc) m (NetY.ways cs)) :
    Calls Try.prog 27 #[.agg #[.slice al n cl, .slice ac m cc], p.agg] w fun e w' => Sent w w' e (.slice al n cl) (.slice ac m cc) n cs ps p := by
  have HP := Lib.hid hp
  have HC := Lib.hid hc
  have HN := Lib.hid hn
  have HM := Lib.hid hm
  clear hp hc hn hm
  obtain ⟨fr, to_, s, sp⟩ := p
  unfold Pk.agg Pk.cells
  go_enter Try.func27, Try.ntmps27
  go_wp2_with fail
  obtain ⟨W, hW⟩ : ∃ W, W = ((w.alloc (.cells #[.slice al n cl, .slice ac m cc] TMo)).alloc (.cells #[.int .i64 fr, .int .i64 to_, .string s, .bool sp] TP)).alloc (.cells #[.slice none 0 0, .slice none 0 0] TMo) := ⟨_, rfl⟩
  rw [← hW]
  have hM0 : W.heap[w.heap.size]? = some (.cells #[.slice al n cl, .slice ac m cc] TMo (0, 0)) := by rw [hW]; exact block_alloc (block_alloc (block_new w _) _) _
  have hP0 : W.heap[w.heap.size + 1]? = some (.cells #[.int .i64 fr, .int .i64 to_, .string s, .bool sp] TP (0, 0)) := by rw [hW]; exact block_alloc (block_new_at (by simp)) _
  have hZ0 : W.heap[w.heap.size + 1 + 1]? = some (.cells #[.slice none 0 0, .slice none 0 0] TMo (0, 0)) := by rw [hW]; exact block_new_at (by simp)
  have hkW : Keep (fun _ => False) w W := by rw [hW]; exact (((Keep.refl _ w).alloc _).alloc _).alloc _
  have HMb := Lib.hid hM0
  have HPb := Lib.hid hP0
  have HZb := Lib.hid hZ0
  have HKW := Lib.hid hkW
  clear hW hM0 hP0 hZ0 hkW
  go_loopw [6, 7] (fun xk xj wr => ∃ j : Nat, j ≤ n ∧ xj = .int .i64 (j : Int) ∧ xk = .int .i64 ((cnt fr to_ (ps.take j) : Nat) : Int) ∧ Hid (Keep (fun _ => False) W wr)) (fun xk xj wr => n - (intOf xj).toNat)
  case atStart => exact ⟨0, by omega, rfl, by simp [cnt], Lib.hid (Keep.refl _ _)⟩
  case round =>
    obtain ⟨j, hj, rfl, rfl, hk⟩ := hrel
    have bm := (hk.out.block _ (lt_of_block HMb.out) (fun e => e)).trans HMb.out
    have bp := (hk.out.block _ (lt_of_block HPb.out) (fun e => e)).trans HPb.out
    have m0 : wr.cell? ⟨w.heap.size, 0, none⟩ = some (.slice al n cl) := cell_at bm 0
    have m1 : wr.cell? ⟨w.heap.size, 1, none⟩ = some (.slice ac m cc) := cell_at bm 1
    have p0 : wr.cell? ⟨w.heap.size + 1, 0, none⟩ = some (.int .i64 fr) := cell_at bp 0
    have p1 : wr.cell? ⟨w.heap.size + 1, 1, none⟩ = some (.int .i64 to_) := cell_at bp 1
    have hcl := cnt_le fr to_ (ps.take j)
    rw [List.length_take] at hcl
    by_cases hlt : j < n
    · obtain ⟨q, hq⟩ : ∃ q, ps[j]? = some q := ⟨ps[j]'(by have := HN.out; omega), List.getElem?_eq_getElem _⟩
      obtain ⟨a1, cap1, hv, -, -, hm1⟩ := HP.out
      simp only [Value.slice.injEq, true_and] at hv
      obtain ⟨rfl, rfl⟩ := hv
      rcases hm1 with h0 | ⟨g, off, rfl, -, hg, -, hcell⟩
      · omega
      obtain ⟨h1, h2⟩ := pk_at ps j q hq
      have kk := HKW.out.trans hk.out
      have y0 : wr.cell? ⟨g, off + j * 4, none⟩ = some (.int .i64 q.fr) := (kk.cell (p := ⟨g, _, none⟩) hg (fun e => e)).trans (hcell _ _ h1)
      have y1 : wr.cell? ⟨g, off + j * 4 + 1, none⟩ = some (.int .i64 q.to_) := (kk.cell (p := ⟨g, _, none⟩) hg (fun e => e)).trans (by have := hcell _ _ h2; simpa [Nat.add_assoc] using this)
      have hst := cnt_take fr to_ ps j q hq
      have HST := Lib.hid hst
      obtain ⟨k, hkk⟩ : ∃ k, k = cnt fr to_ (ps.take j) := ⟨_, rfl⟩
      rw [← hkk] at hcl ⊢
      have HK := Lib.hid hkk
      have hk9 : k ≤ 9000 := by omega
      clear hst h1 h2 hcell hq bm bp hkk hcl
      generalize q.fr = qf at *
      generalize q.to_ = qt at *
      cases hb1 : (qf == fr) with
      | true =>
        cases hb2 : (qt == to_) with
        | true =>
          have hnx : cnt fr to_ (ps.take (j + 1)) = k + 1 := by rw [HST.out, ← HK.out, hb1, hb2]; rfl
          have HNX := Lib.hid hnx
          clear hnx
          go_wp2_with fail
          go_quiet (fail)
          go_wp2_with fail
          refine ⟨⟨j + 1, by omega, by go_num, by rw [HNX.out]; go_num, Lib.hid (hk.out.trans ((Keep.refl _ _).drewN _))⟩, ?_⟩
          simp [intOf]
          omega
        | false =>
          have hnx : cnt fr to_ (ps.take (j + 1)) = k := by rw [HST.out, ← HK.out, hb1, hb2]; rfl
          have HNX := Lib.hid hnx
          clear hnx
          go_wp2_with fail
          go_quiet (fail)
          go_wp2_with fail
          refine ⟨⟨j + 1, by omega, by go_num, by rw [HNX.out], Lib.hid (hk.out.trans ((Keep.refl _ _).drewN _))⟩, ?_⟩
          simp [intOf]
          omega
      | false =>
        have hnx : cnt fr to_ (ps.take (j + 1)) = k := by rw [HST.out, ← HK.out, hb1]; rfl
        have HNX := Lib.hid hnx
        clear hnx
        go_wp2_with fail
        go_quiet (fail)
        go_wp2_with fail
        refine ⟨⟨j + 1, by omega, by go_num, by rw [HNX.out], Lib.hid (hk.out.trans ((Keep.refl _ _).drewN _))⟩, ?_⟩
        simp [intOf]
        omega
    · obtain rfl : j = n := by omega
      have hall : ps.take j = ps := by rw [show j = ps.length from HN.out, List.take_length]
      rw [hall] at hcl ⊢
      have HCL := Lib.hid hcl
      clear hall hcl
      obtain ⟨k, hkk⟩ : ∃ k, k = cnt fr to_ ps := ⟨_, rfl⟩
      rw [← hkk]
      have HK := Lib.hid hkk
      have hk9 : k ≤ 9000 := by have := HCL.out; omega
      clear hkk
      have CO := Lib.hid (off_m al j cl ac m cc cs fr to_ wr F B HM.out hm9 (HC.out.keep (HKW.out.trans hk.out) (fun _ _ e => e.elim)))
      have HZ5 := Lib.hid ((hk.out.block _ (lt_of_block HZb.out) (fun e => e)).trans HZb.out)
      have HM5 := Lib.hid bm
      have HP5 := Lib.hid bp
      have HZL := Lib.hid (lt_of_block HZb.out)
      clear bm bp
      by_cases h64 : 64 ≤ k
      · have h64' : (64 : Int) ≤ (k : Int) := by omega
        have z0 := cell_at HZ5.out 0
        have f0 := free_at HZ5.out 0
        have hz1 := block_set HZ5.out 0 (.slice al j cl)
        have z1 := cell_at hz1 1
        have f1 := free_at hz1 1
        have hz2 := block_set hz1 1 (.slice ac m cc)
        simp at z0 z1
        have HQ := Lib.hid hz2
        have kZ : Keep (fun q => q = w.heap.size + 1 + 1) wr ((wr.setCell ⟨w.heap.size + 1 + 1, 0, none⟩ (.slice al j cl)).setCell ⟨w.heap.size + 1 + 1, 1, none⟩ (.slice ac m cc)) := ((Keep.refl (fun q => q = w.heap.size + 1 + 1) wr).set1 _ _).set1 _ _
        have HKZ := Lib.hid kZ
        clear hz1 hz2 kZ
        go_wp2_with fail
        have q0 := cell_at HQ.out 0
        have q1 := cell_at HQ.out 1
        simp at q0 q1
        refine bodyPost_ret (v := .tuple #[.agg #[.slice al j cl, .slice ac m cc], .bool false]) ?_ rfl ?_
        · simp [results, Try.results27, go_sem, q0, q1]
        · unfold Sent; rw [if_pos (.inl (by have := HK.out; show 64 ≤ cnt fr to_ ps; omega))]
          exact ⟨rfl, (HKW.out.trans hk.out).then HKZ.out (fun q e => by have := HKW.out.size; omega)⟩
      · have h64' : ¬ (64 : Int) ≤ (k : Int) := by omega
        cases ho : offL cs fr to_ with
        | true =>
          rw [ho] at CO
          have HO := Lib.hid ho
          clear ho
          go_upto_region 8 with (go_at_call 28; refine CO.out.mono ?_; clear CO; rintro e w5 ⟨rfl, k5⟩)
          have HZ6 := Lib.hid ((k5.block _ (lt_of_block HZ5.out) (fun e => e)).trans HZ5.out)
          have hm6 := (k5.block _ (lt_of_block HM5.out) (fun e => e)).trans HM5.out
          have m0 := cell_at hm6 0
          have m1 := cell_at hm6 1
          simp at m0 m1
          clear hm6
          have z0 := cell_at HZ6.out 0
          have f0 := free_at HZ6.out 0
          have hz1 := block_set HZ6.out 0 (.slice al j cl)
          have z1 := cell_at hz1 1
          have f1 := free_at hz1 1
          have hz2 := block_set hz1 1 (.slice ac m cc)
          simp at z0 z1
          have HQ := Lib.hid hz2
          have kZ : Keep (fun q => q = w.heap.size + 1 + 1) w5 ((w5.setCell ⟨w.heap.size + 1 + 1, 0, none⟩ (.slice al j cl)).setCell ⟨w.heap.size + 1 + 1, 1, none⟩ (.slice ac m cc)) := ((Keep.refl (fun q => q = w.heap.size + 1 + 1) w5).set1 _ _).set1 _ _
          have HKZ := Lib.hid kZ
          clear hz1 hz2 kZ
          go_wp2_with fail
          have q0 := cell_at HQ.out 0
          have q1 := cell_at HQ.out 1
          simp at q0 q1
          refine bodyPost_ret (v := .tuple #[.agg #[.slice al j cl, .slice ac m cc], .bool false]) ?_ rfl ?_
          · simp [results, Try.results27, go_sem, q0, q1]
          · unfold Sent; rw [if_pos (.inr HO.out)]
            exact ⟨rfl, ((HKW.out.trans hk.out).trans k5).then HKZ.out (fun q e => by have := HKW.out.size; omega)⟩
        | false =>
          rw [ho] at CO
          have HO := Lib.hid ho
          clear ho
          go_upto_region 9 with (go_at_call 28; refine CO.out.mono ?_; clear CO; rintro e w5 ⟨rfl, k5⟩)
          have K5 := Lib.hid k5
          have HM := Lib.hid ((k5.block _ (lt_of_block HM5.out) (fun e => e)).trans HM5.out)
          have hp6 := (k5.block _ (lt_of_block HP5.out) (fun e => e)).trans HP5.out
          have HP6 := Lib.hid hp6
          have HZ6 := Lib.hid ((k5.block _ (lt_of_block HZ5.out) (fun e => e)).trans HZ5.out)
          have HSZ := Lib.hid (show w.heap.size + 1 + 1 < w5.heap.size by have := HZL.out; have := hk.out.size; have := k5.size; omega)
          have HSX : Hid (∀ w', Keep (fun q => q = w.heap.size) w5 w' → w'.cell? ⟨w.heap.size + 1, 0, none⟩ = some (.int .i64 fr) ∧ w'.cell? ⟨w.heap.size + 1, 1, none⟩ = some (.int .i64 to_) ∧ w'.cell? ⟨w.heap.size + 1, 2, none⟩ = some (.string s) ∧ w'.cell? ⟨w.heap.size + 1, 3, none⟩ = some (.bool sp)) := Lib.hid (fun w' k' => by
            have b := (k'.block _ (lt_of_block HP6.out) (by omega)).trans HP6.out
            exact ⟨cell_at b 0, cell_at b 1, cell_at b 2, cell_at b 3⟩)
          have HMR := Lib.hid (HP.out.keep ((HKW.out.trans hk.out).trans k5) (fun _ _ e => e.elim))
          have HNN := HN
          have HN9 := Lib.hid (show j ≤ 10000 by omega)
          clear k5 hp6 m0 m1 p0 p1
          go_cut [] (fun W' => ∃ g2 c2, Hid (Wo w5 W' w.heap.size (j + 1) (.slice ac m cc) (ps ++ [⟨fr, to_, s, sp⟩]) g2 c2))
          case first =>
            refine wp_region_held_drew (S := (fun w' => Keep (fun j => j = w.heap.size) w5 w')) (by kernel_rfl) ?_ (fun hHeld => ?_)
            · exact (Keep.refl (fun j => j = w.heap.size) w5).drew
            refine wpAnyH_take (i := 1) (oi := { dst := some 49, op := Op.fieldAddr TMo (Operand.tmp 2) 0, type := 0, pos := "law.go:50", after := #[], guard := none }) (v := .pointer (some ⟨w.heap.size, 0, none⟩)) rfl (by kernel_rfl) (by kernel_rfl) (by kernel_rfl) (fun _ _ _ h => h) (Or.inl ⟨by rfl, ?_⟩) (by assumption) ?_
            · (intro w' hSw; (try dsimp only at hSw); go_simp)
            try simp only [Act.put, List.setIfInBounds_toArray, List.set_cons_zero, List.set_cons_succ]
            refine wpAnyH_take (i := 4) (oi := { dst := some 52, op := Op.load TP (Operand.tmp 3), type := TP, pos := "law.go:50", after := #[], guard := none }) (v := .agg #[.int .i64 fr, .int .i64 to_, .string s, .bool sp]) rfl (by kernel_rfl) (by kernel_rfl) (by kernel_rfl) (fun _ _ _ h => h) (Or.inl ⟨by rfl, ?_⟩) (by assumption) ?_
            · (intro w' hSw; (try dsimp only at hSw); obtain ⟨x0, x1, x2, x3⟩ := HSX.out w' hSw; go_simp)
            try simp only [Act.put, List.setIfInBounds_toArray, List.set_cons_zero, List.set_cons_succ]
            have kk0 : Keep (fun _ => False) w5 w5.drew := (Keep.refl _ _).drew
            refine wpAnyH_ready (rs := [0, 2, 5]) (by kernel_rfl) (by simp) ?_
            refine AllReadyH.cons (o := { dst := some 48, op := Op.buildSlice TSl 0 #[], type := TSl, pos := "law.go:50", after := #[], guard := none }) rfl (fun K hK => ?_) ?_
            · skip
              go_simp
              obtain ⟨v1, hv⟩ : ∃ V, V = (w5.alloc (.cells #[] TP)).drew := ⟨_, rfl⟩
              rw [← hv]
              have ks : Keep (fun _ => False) w5 v1 := by rw [hv]; exact ((Keep.refl _ _).alloc _).drew
              have nz1 := Lib.hid (show v1.heap.size = w5.heap.size + 1 by rw [hv]; simp)
              have bE1 : v1.heap[w5.heap.size]? = some (.cells #[] TP (0, 0)) := by rw [hv]; exact block_drew (block_new w5 _)
              clear hv
              have kk1 : Keep (fun _ => False) w5 v1 := ks
              have sz1 := kk1.size
              refine hK.out _ _ kk1.to1 (fun hHeld => ?_)
              clear hK K
              try simp only [Act.put, List.setIfInBounds_toArray, List.set_cons_zero, List.set_cons_succ]
              refine wpAnyH_ready (rs := [2, 5]) (by kernel_rfl) (by simp) ?_
              refine AllReadyH.cons (o := { dst := some 50, op := Op.load TSl (Operand.tmp 49), type := TSl, pos := "law.go:50", after := #[{ on := 1, ground := Ground.data }], guard := none }) rfl (fun K hK => ?_) ?_
              · skip
                have p1 : v1.cell? ⟨w.heap.size, 0, none⟩ = some (.slice al j cl) := cell_at ((kk1.block _ (lt_of_block HM.out) (fun e => e)).trans HM.out) 0
                go_simp
                refine hK.out _ _ kk1.to1 (fun hHeld => ?_)
                clear hK K p1
                try simp only [Act.put, List.setIfInBounds_toArray, List.set_cons_zero, List.set_cons_succ]
                refine wpAnyH_ready (rs := [3, 5]) (by kernel_rfl) (by simp) ?_
                refine AllReadyH.cons (o := { dst := some 51, op := Op.call { callee := Callee.builtin Builtin.append, args := #[Operand.tmp 48, Operand.tmp 50], argTypes := #[TSl, TSl] }, type := TSl, pos := "law.go:50", after := #[{ on := 0, ground := Ground.data }, { on := 2, ground := Ground.data }], guard := none }) rfl (fun K hK => ?_) ?_
                · skip
                  obtain ⟨g1, c1, v2, hrun1, rw2, ks, hg1⟩ := app1 bE1 (HMR.out.keep kk1 (fun _ _ e => e.elim)) HN9.out HNN.out
                  go_simp
                  have kk2 : Keep (fun _ => False) w5 v2 := kk1.then ks (fun q e => by have := nz1.out; have := HSZ.out; omega)
                  have sz2 := kk2.size
                  clear hrun1
                  refine hK.out _ _ kk2.to1 (fun hHeld => ?_)
                  clear hK K
                  try simp only [Act.put, List.setIfInBounds_toArray, List.set_cons_zero, List.set_cons_succ]
                  refine wpAnyH_ready (rs := [5]) (by kernel_rfl) (by simp) ?_
                  refine AllReadyH.cons (o := { dst := some 53, op := Op.buildSlice TSl 1 #[(0, Operand.tmp 52)], type := TSl, pos := "law.go:50", after := #[{ on := 4, ground := Ground.data }], guard := none }) rfl (fun K hK => ?_) ?_
                  · skip
                    go_simp
                    obtain ⟨v3, hv⟩ : ∃ V, V = (v2.alloc (.cells #[.int .i64 fr, .int .i64 to_, .string s, .bool sp] TP)) := ⟨_, rfl⟩
                    rw [← hv]
                    have ks : Keep (fun _ => False) v2 v3 := by rw [hv]; exact ((Keep.refl _ _).alloc _)
                    have nz3 := Lib.hid (show v3.heap.size = v2.heap.size + 1 by rw [hv]; simp)
                    have bY3 : v3.heap[v2.heap.size]? = some (.cells (Pk.mk fr to_ s sp).cells.toArray TP (0, 0)) := by rw [hv]; exact block_new v2 _
                    clear hv
                    have kk3 : Keep (fun _ => False) w5 v3 := kk2.trans ks
                    have sz3 := kk3.size
                    have rw3 := owns_keep rw2 ks (fun _ _ e => e)
                    refine hK.out _ _ kk3.to1 (fun hHeld => ?_)
                    clear hK K
                    try simp only [Act.put, List.setIfInBounds_toArray, List.set_cons_zero, List.set_cons_succ]
                    refine wpAnyH_ready (rs := [6]) (by kernel_rfl) (by simp) ?_
                    refine AllReadyH.cons (o := { dst := some 54, op := Op.call { callee := Callee.builtin Builtin.append, args := #[Operand.tmp 51, Operand.tmp 53], argTypes := #[TSl, TSl] }, type := TSl, pos := "law.go:50", after := #[{ on := 3, ground := Ground.data }, { on := 5, ground := Ground.data }, { on := 3, ground := Ground.chain }], guard := none }) rfl (fun K hK => ?_) ?_
                    · skip
                      obtain ⟨g2, c2, v4, hrun2, rz4, ks, hg2⟩ := app2 rw3 (one_grow bY3) HN9.out (by omega) rfl
                      go_simp
                      have kk4 : Keep (fun _ => False) w5 v4 := kk3.then ks (fun q e => by have := nz1.out; have := nz3.out; have := HSZ.out; omega)
                      have sz4 := kk4.size
                      clear hrun2
                      refine hK.out _ _ kk4.to1 (fun hHeld => ?_)
                      clear hK K
                      try simp only [Act.put, List.setIfInBounds_toArray, List.set_cons_zero, List.set_cons_succ]
                      have pm := (kk4.block _ (lt_of_block HM.out) (fun e => e)).trans HM.out
                      have p1 : v4.cell? ⟨w.heap.size, 0, none⟩ = some (.slice al j cl) := cell_at pm 0
                      have p2 : v4.frozen? ⟨w.heap.size, 0, none⟩ = false := free_at pm 0
                      clear pm
                      refine wpAnyH_take (i := 7) (oi := { dst := some 55, op := Op.fieldAddr TMo (Operand.tmp 2) 0, type := 0, pos := "law.go:50", after := #[{ on := 0, ground := Ground.phase }, { on := 1, ground := Ground.phase }, { on := 2, ground := Ground.phase }, { on := 3, ground := Ground.phase }, { on := 4, ground := Ground.phase }, { on := 5, ground := Ground.phase }, { on := 6, ground := Ground.phase }], guard := none }) (v := .pointer (some ⟨w.heap.size, 0, none⟩)) rfl (by kernel_rfl) (by kernel_rfl) (by kernel_rfl) (fun _ _ _ h => h) (Or.inl ⟨by rfl, ?_⟩) (by assumption) ?_
                      · (intro w' hSw; (try dsimp only at hSw); go_simp)
                      try simp only [Act.put, List.setIfInBounds_toArray, List.set_cons_zero, List.set_cons_succ]
                      refine wpAnyH_ready (rs := [8]) (by kernel_rfl) (by simp) ?_
                      refine AllReadyH.cons (o := { dst := none, op := Op.store TSl (Operand.tmp 55) (Operand.tmp 54), type := 0, pos := "law.go:50", after := #[{ on := 7, ground := Ground.data }, { on := 6, ground := Ground.data }, { on := 6, ground := Ground.chain }, { on := 0, ground := Ground.phase }, { on := 1, ground := Ground.phase }, { on := 2, ground := Ground.phase }, { on := 3, ground := Ground.phase }, { on := 4, ground := Ground.phase }, { on := 5, ground := Ground.phase }, { on := 6, ground := Ground.phase }], guard := none }) rfl (fun K hK => ?_) AllReadyH.nil
                      go_simp
                      refine hK.out _ _ (kk4.to1.set1 _ _) (fun hHeld => ?_)
                      clear hK K
                      try simp only [Act.put, List.setIfInBounds_toArray, List.set_cons_zero, List.set_cons_succ]
                      refine wpAnyH_done (by kernel_rfl) ?_ _
                      go_wp2_with fail
                      go_meet
                      exact ⟨_, _, Lib.hid (Wo.mk2 HM.out kk4 rz4 (by have := nz1.out; have := nz3.out; have := HSZ.out; omega))⟩
                    exact AllReadyH.nil
                  exact AllReadyH.nil
                refine AllReadyH.cons (o := { dst := some 53, op := Op.buildSlice TSl 1 #[(0, Operand.tmp 52)], type := TSl, pos := "law.go:50", after := #[{ on := 4, ground := Ground.data }], guard := none }) rfl (fun K hK => ?_) ?_
                · skip
                  go_simp
                  obtain ⟨v2, hv⟩ : ∃ V, V = (v1.alloc (.cells #[.int .i64 fr, .int .i64 to_, .string s, .bool sp] TP)) := ⟨_, rfl⟩
                  rw [← hv]
                  have ks : Keep (fun _ => False) v1 v2 := by rw [hv]; exact ((Keep.refl _ _).alloc _)
                  have nz2 := Lib.hid (show v2.heap.size = v1.heap.size + 1 by rw [hv]; simp)
                  have bY2 : v2.heap[v1.heap.size]? = some (.cells (Pk.mk fr to_ s sp).cells.toArray TP (0, 0)) := by rw [hv]; exact block_new v1 _
                  clear hv
                  have kk2 : Keep (fun _ => False) w5 v2 := kk1.trans ks
                  have sz2 := kk2.size
                  have bE2 := (ks.block _ (lt_of_block bE1) (fun e => e)).trans bE1
                  refine hK.out _ _ kk2.to1 (fun hHeld => ?_)
                  clear hK K
                  try simp only [Act.put, List.setIfInBounds_toArray, List.set_cons_zero, List.set_cons_succ]
                  refine wpAnyH_ready (rs := [3]) (by kernel_rfl) (by simp) ?_
                  refine AllReadyH.cons (o := { dst := some 51, op := Op.call { callee := Callee.builtin Builtin.append, args := #[Operand.tmp 48, Operand.tmp 50], argTypes := #[TSl, TSl] }, type := TSl, pos := "law.go:50", after := #[{ on := 0, ground := Ground.data }, { on := 2, ground := Ground.data }], guard := none }) rfl (fun K hK => ?_) ?_
                  · skip
                    obtain ⟨g1, c1, v3, hrun1, rw3, ks, hg1⟩ := app1 bE2 (HMR.out.keep kk2 (fun _ _ e => e.elim)) HN9.out HNN.out
                    go_simp
                    have kk3 : Keep (fun _ => False) w5 v3 := kk2.then ks (fun q e => by have := nz1.out; have := nz2.out; have := HSZ.out; omega)
                    have sz3 := kk3.size
                    have bY3 := (ks.block _ (lt_of_block bY2) (fun e => by have := nz1.out; have := nz2.out; have := HSZ.out; omega)).trans bY2
                    clear hrun1
                    refine hK.out _ _ kk3.to1 (fun hHeld => ?_)
                    clear hK K
                    try simp only [Act.put, List.setIfInBounds_toArray, List.set_cons_zero, List.set_cons_succ]
                    refine wpAnyH_ready (rs := [6]) (by kernel_rfl) (by simp) ?_
                    refine AllReadyH.cons (o := { dst := some 54, op := Op.call { callee := Callee.builtin Builtin.append, args := #[Operand.tmp 51, Operand.tmp 53], argTypes := #[TSl, TSl] }, type := TSl, pos := "law.go:50", after := #[{ on := 3, ground := Ground.data }, { on := 5, ground := Ground.data }, { on := 3, ground := Ground.chain }], guard := none }) rfl (fun K hK => ?_) ?_
                    · skip
                      obtain ⟨g2, c2, v4, hrun2, rz4, ks, hg2⟩ := app2 rw3 (one_grow bY3) HN9.out (by omega) rfl
                      go_simp
                      have kk4 : Keep (fun _ => False) w5 v4 := kk3.then ks (fun q e => by have := nz1.out; have := nz2.out; have := HSZ.out; omega)
                      have sz4 := kk4.size
                      clear hrun2
                      refine hK.out _ _ kk4.to1 (fun hHeld => ?_)
                      clear hK K
                      try simp only [Act.put, List.setIfInBounds_toArray, List.set_cons_zero, List.set_cons_succ]
                      have pm := (kk4.block _ (lt_of_block HM.out) (fun e => e)).trans HM.out
                      have p1 : v4.cell? ⟨w.heap.size, 0, none⟩ = some (.slice al j cl) := cell_at pm 0
                      have p2 : v4.frozen? ⟨w.heap.size, 0, none⟩ = false := free_at pm 0
                      clear pm
                      refine wpAnyH_take (i := 7) (oi := { dst := some 55, op := Op.fieldAddr TMo (Operand.tmp 2) 0, type := 0, pos := "law.go:50", after := #[{ on := 0, ground := Ground.phase }, { on := 1, ground := Ground.phase }, { on := 2, ground := Ground.phase }, { on := 3, ground := Ground.phase }, { on := 4, ground := Ground.phase }, { on := 5, ground := Ground.phase }, { on := 6, ground := Ground.phase }], guard := none }) (v := .pointer (some ⟨w.heap.size, 0, none⟩)) rfl (by kernel_rfl) (by kernel_rfl) (by kernel_rfl) (fun _ _ _ h => h) (Or.inl ⟨by rfl, ?_⟩) (by assumption) ?_
                      · (intro w' hSw; (try dsimp only at hSw); go_simp)
                      try simp only [Act.put, List.setIfInBounds_toArray, List.set_cons_zero, List.set_cons_succ]
                      refine wpAnyH_ready (rs := [8]) (by kernel_rfl) (by simp) ?_
                      refine AllReadyH.cons (o := { dst := none, op := Op.store TSl (Operand.tmp 55) (Operand.tmp 54), type := 0, pos := "law.go:50", after := #[{ on := 7, ground := Ground.data }, { on := 6, ground := Ground.data }, { on := 6, ground := Ground.chain }, { on := 0, ground := Ground.phase }, { on := 1, ground := Ground.phase }, { on := 2, ground := Ground.phase }, { on := 3, ground := Ground.phase }, { on := 4, ground := Ground.phase }, { on := 5, ground := Ground.phase }, { on := 6, ground := Ground.phase }], guard := none }) rfl (fun K hK => ?_) AllReadyH.nil
                      go_simp
                      refine hK.out _ _ (kk4.to1.set1 _ _) (fun hHeld => ?_)
                      clear hK K
                      try simp only [Act.put, List.setIfInBounds_toArray, List.set_cons_zero, List.set_cons_succ]
                      refine wpAnyH_done (by kernel_rfl) ?_ _
                      go_wp2_with fail
                      go_meet
                      exact ⟨_, _, Lib.hid (Wo.mk2 HM.out kk4 rz4 (by have := nz1.out; have := nz2.out; have := HSZ.out; omega))⟩
                    exact AllReadyH.nil
                  exact AllReadyH.nil
                exact AllReadyH.nil
              refine AllReadyH.cons (o := { dst := some 53, op := Op.buildSlice TSl 1 #[(0, Operand.tmp 52)], type := TSl, pos := "law.go:50", after := #[{ on := 4, ground := Ground.data }], guard := none }) rfl (fun K hK => ?_) ?_
              · skip
                go_simp
                obtain ⟨v2, hv⟩ : ∃ V, V = (v1.alloc (.cells #[.int .i64 fr, .int .i64 to_, .string s, .bool sp] TP)) := ⟨_, rfl⟩
                rw [← hv]
                have ks : Keep (fun _ => False) v1 v2 := by rw [hv]; exact ((Keep.refl _ _).alloc _)
                have nz2 := Lib.hid (show v2.heap.size = v1.heap.size + 1 by rw [hv]; simp)
                have bY2 : v2.heap[v1.heap.size]? = some (.cells (Pk.mk fr to_ s sp).cells.toArray TP (0, 0)) := by rw [hv]; exact block_new v1 _
                clear hv
                have kk2 : Keep (fun _ => False) w5 v2 := kk1.trans ks
                have sz2 := kk2.size
                have bE2 := (ks.block _ (lt_of_block bE1) (fun e => e)).trans bE1
                refine hK.out _ _ kk2.to1 (fun hHeld => ?_)
                clear hK K
                try simp only [Act.put, List.setIfInBounds_toArray, List.set_cons_zero, List.set_cons_succ]
                refine wpAnyH_ready (rs := [2]) (by kernel_rfl) (by simp) ?_
                refine AllReadyH.cons (o := { dst := some 50, op := Op.load TSl (Operand.tmp 49), type := TSl, pos := "law.go:50", after := #[{ on := 1, ground := Ground.data }], guard := none }) rfl (fun K hK => ?_) ?_
                · skip
                  have p1 : v2.cell? ⟨w.heap.size, 0, none⟩ = some (.slice al j cl) := cell_at ((kk2.block _ (lt_of_block HM.out) (fun e => e)).trans HM.out) 0
                  go_simp
                  refine hK.out _ _ kk2.to1 (fun hHeld => ?_)
                  clear hK K p1
                  try simp only [Act.put, List.setIfInBounds_toArray, List.set_cons_zero, List.set_cons_succ]
                  refine wpAnyH_ready (rs := [3]) (by kernel_rfl) (by simp) ?_
                  refine AllReadyH.cons (o := { dst := some 51, op := Op.call { callee := Callee.builtin Builtin.append, args := #[Operand.tmp 48, Operand.tmp 50], argTypes := #[TSl, TSl] }, type := TSl, pos := "law.go:50", after := #[{ on := 0, ground := Ground.data }, { on := 2, ground := Ground.data }], guard := none }) rfl (fun K hK => ?_) ?_
                  · skip
                    obtain ⟨g1, c1, v3, hrun1, rw3, ks, hg1⟩ := app1 bE2 (HMR.out.keep kk2 (fun _ _ e => e.elim)) HN9.out HNN.out
                    go_simp
                    have kk3 : Keep (fun _ => False) w5 v3 := kk2.then ks (fun q e => by have := nz1.out; have := nz2.out; have := HSZ.out; omega)
                    have sz3 := kk3.size
                    have bY3 := (ks.block _ (lt_of_block bY2) (fun e => by have := nz1.out; have := nz2.out; have := HSZ.out; omega)).trans bY2
                    clear hrun1
                    refine hK.out _ _ kk3.to1 (fun hHeld => ?_)
                    clear hK K
                    try simp only [Act.put, List.setIfInBounds_toArray, List.set_cons_zero, List.set_cons_succ]
                    refine wpAnyH_ready (rs := [6]) (by kernel_rfl) (by simp) ?_
                    refine AllReadyH.cons (o := { dst := some 54, op := Op.call { callee := Callee.builtin Builtin.append, args := #[Operand.tmp 51, Operand.tmp 53], argTypes := #[TSl, TSl] }, type := TSl, pos := "law.go:50", after := #[{ on := 3, ground := Ground.data }, { on := 5, ground := Ground.data }, { on := 3, ground := Ground.chain }], guard := none }) rfl (fun K hK => ?_) ?_
                    · skip
                      obtain ⟨g2, c2, v4, hrun2, rz4, ks, hg2⟩ := app2 rw3 (one_grow bY3) HN9.out (by omega) rfl
                      go_simp
                      have kk4 : Keep (fun _ => False) w5 v4 := kk3.then ks (fun q e => by have := nz1.out; have := nz2.out; have := HSZ.out; omega)
                      have sz4 := kk4.size
                      clear hrun2
                      refine hK.out _ _ kk4.to1 (fun hHeld => ?_)
                      clear hK K
                      try simp only [Act.put, List.setIfInBounds_toArray, List.set_cons_zero, List.set_cons_succ]
                      have pm := (kk4.block _ (lt_of_block HM.out) (fun e => e)).trans HM.out
                      have p1 : v4.cell? ⟨w.heap.size, 0, none⟩ = some (.slice al j cl) := cell_at pm 0
                      have p2 : v4.frozen? ⟨w.heap.size, 0, none⟩ = false := free_at pm 0
                      clear pm
                      refine wpAnyH_take (i := 7) (oi := { dst := some 55, op := Op.fieldAddr TMo (Operand.tmp 2) 0, type := 0, pos := "law.go:50", after := #[{ on := 0, ground := Ground.phase }, { on := 1, ground := Ground.phase }, { on := 2, ground := Ground.phase }, { on := 3, ground := Ground.phase }, { on := 4, ground := Ground.phase }, { on := 5, ground := Ground.phase }, { on := 6, ground := Ground.phase }], guard := none }) (v := .pointer (some ⟨w.heap.size, 0, none⟩)) rfl (by kernel_rfl) (by kernel_rfl) (by kernel_rfl) (fun _ _ _ h => h) (Or.inl ⟨by rfl, ?_⟩) (by assumption) ?_
                      · (intro w' hSw; (try dsimp only at hSw); go_simp)
                      try simp only [Act.put, List.setIfInBounds_toArray, List.set_cons_zero, List.set_cons_succ]
                      refine wpAnyH_ready (rs := [8]) (by kernel_rfl) (by simp) ?_
                      refine AllReadyH.cons (o := { dst := none, op := Op.store TSl (Operand.tmp 55) (Operand.tmp 54), type := 0, pos := "law.go:50", after := #[{ on := 7, ground := Ground.data }, { on := 6, ground := Ground.data }, { on := 6, ground := Ground.chain }, { on := 0, ground := Ground.phase }, { on := 1, ground := Ground.phase }, { on := 2, ground := Ground.phase }, { on := 3, ground := Ground.phase }, { on := 4, ground := Ground.phase }, { on := 5, ground := Ground.phase }, { on := 6, ground := Ground.phase }], guard := none }) rfl (fun K hK => ?_) AllReadyH.nil
                      go_simp
                      refine hK.out _ _ (kk4.to1.set1 _ _) (fun hHeld => ?_)
                      clear hK K
                      try simp only [Act.put, List.setIfInBounds_toArray, List.set_cons_zero, List.set_cons_succ]
                      refine wpAnyH_done (by kernel_rfl) ?_ _
                      go_wp2_with fail
                      go_meet
                      exact ⟨_, _, Lib.hid (Wo.mk2 HM.out kk4 rz4 (by have := nz1.out; have := nz2.out; have := HSZ.out; omega))⟩
                    exact AllReadyH.nil
                  exact AllReadyH.nil
                exact AllReadyH.nil
              exact AllReadyH.nil
            refine AllReadyH.cons (o := { dst := some 50, op := Op.load TSl (Operand.tmp 49), type := TSl, pos := "law.go:50", after := #[{ on := 1, ground := Ground.data }], guard := none }) rfl (fun K hK => ?_) ?_
            · skip
              have p1 : w5.cell? ⟨w.heap.size, 0, none⟩ = some (.slice al j cl) := cell_at ((kk0.block _ (lt_of_block HM.out) (fun e => e)).trans HM.out) 0
              go_simp
              refine hK.out _ _ kk0.to1 (fun hHeld => ?_)
              clear hK K p1
              try simp only [Act.put, List.setIfInBounds_toArray, List.set_cons_zero, List.set_cons_succ]
              refine wpAnyH_ready (rs := [0, 5]) (by kernel_rfl) (by simp) ?_
              refine AllReadyH.cons (o := { dst := some 48, op := Op.buildSlice TSl 0 #[], type := TSl, pos := "law.go:50", after := #[], guard := none }) rfl (fun K hK => ?_) ?_
              · skip
                go_simp
                obtain ⟨v1, hv⟩ : ∃ V, V = (w5.alloc (.cells #[] TP)).drew := ⟨_, rfl⟩
                rw [← hv]
                have ks : Keep (fun _ => False) w5 v1 := by rw [hv]; exact ((Keep.refl _ _).alloc _).drew
                have nz1 := Lib.hid (show v1.heap.size = w5.heap.size + 1 by rw [hv]; simp)
                have bE1 : v1.heap[w5.heap.size]? = some (.cells #[] TP (0, 0)) := by rw [hv]; exact block_drew (block_new w5 _)
                clear hv
                have kk1 : Keep (fun _ => False) w5 v1 := ks
                have sz1 := kk1.size
                refine hK.out _ _ kk1.to1 (fun hHeld => ?_)
                clear hK K
                try simp only [Act.put, List.setIfInBounds_toArray, List.set_cons_zero, List.set_cons_succ]
                refine wpAnyH_ready (rs := [3, 5]) (by kernel_rfl) (by simp) ?_
                refine AllReadyH.cons (o := { dst := some 51, op := Op.call { callee := Callee.builtin Builtin.append, args := #[Operand.tmp 48, Operand.tmp 50], argTypes := #[TSl, TSl] }, type := TSl, pos := "law.go:50", after := #[{ on := 0, ground := Ground.data }, { on := 2, ground := Ground.data }], guard := none }) rfl (fun K hK => ?_) ?_
                · skip
                  obtain ⟨g1, c1, v2, hrun1, rw2, ks, hg1⟩ := app1 bE1 (HMR.out.keep kk1 (fun _ _ e => e.elim)) HN9.out HNN.out
                  go_simp
                  have kk2 : Keep (fun _ => False) w5 v2 := kk1.then ks (fun q e => by have := nz1.out; have := HSZ.out; omega)
                  have sz2 := kk2.size
                  clear hrun1
                  refine hK.out _ _ kk2.to1 (fun hHeld => ?_)
                  clear hK K
                  try simp only [Act.put, List.setIfInBounds_toArray, List.set_cons_zero, List.set_cons_succ]
                  refine wpAnyH_ready (rs := [5]) (by kernel_rfl) (by simp) ?_
                  refine AllReadyH.cons (o := { dst := some 53, op := Op.buildSlice TSl 1 #[(0, Operand.tmp 52)], type := TSl, pos := "law.go:50", after := #[{ on := 4, ground := Ground.data }], guard := none }) rfl (fun K hK => ?_) ?_
                  · skip
                    go_simp
                    obtain ⟨v3, hv⟩ : ∃ V, V = (v2.alloc (.cells #[.int .i64 fr, .int .i64 to_, .string s, .bool sp] TP)) := ⟨_, rfl⟩
                    rw [← hv]
                    have ks : Keep (fun _ => False) v2 v3 := by rw [hv]; exact ((Keep.refl _ _).alloc _)
                    have nz3 := Lib.hid (show v3.heap.size = v2.heap.size + 1 by rw [hv]; simp)
                    have bY3 : v3.heap[v2.heap.size]? = some (.cells (Pk.mk fr to_ s sp).cells.toArray TP (0, 0)) := by rw [hv]; exact block_new v2 _
                    clear hv
                    have kk3 : Keep (fun _ => False) w5 v3 := kk2.trans ks
                    have sz3 := kk3.size
                    have rw3 := owns_keep rw2 ks (fun _ _ e => e)
                    refine hK.out _ _ kk3.to1 (fun hHeld => ?_)
                    clear hK K
                    try simp only [Act.put, List.setIfInBounds_toArray, List.set_cons_zero, List.set_cons_succ]
                    refine wpAnyH_ready (rs := [6]) (by kernel_rfl) (by simp) ?_
                    refine AllReadyH.cons (o := { dst := some 54, op := Op.call { callee := Callee.builtin Builtin.append, args := #[Operand.tmp 51, Operand.tmp 53], argTypes := #[TSl, TSl] }, type := TSl, pos := "law.go:50", after := #[{ on := 3, ground := Ground.data }, { on := 5, ground := Ground.data }, { on := 3, ground := Ground.chain }], guard := none }) rfl (fun K hK => ?_) ?_
                    · skip
                      obtain ⟨g2, c2, v4, hrun2, rz4, ks, hg2⟩ := app2 rw3 (one_grow bY3) HN9.out (by omega) rfl
                      go_simp
                      have kk4 : Keep (fun _ => False) w5 v4 := kk3.then ks (fun q e => by have := nz1.out; have := nz3.out; have := HSZ.out; omega)
                      have sz4 := kk4.size
                      clear hrun2
                      refine hK.out _ _ kk4.to1 (fun hHeld => ?_)
                      clear hK K
                      try simp only [Act.put, List.setIfInBounds_toArray, List.set_cons_zero, List.set_cons_succ]
                      have pm := (kk4.block _ (lt_of_block HM.out) (fun e => e)).trans HM.out
                      have p1 : v4.cell? ⟨w.heap.size, 0, none⟩ = some (.slice al j cl) := cell_at pm 0
                      have p2 : v4.frozen? ⟨w.heap.size, 0, none⟩ = false := free_at pm 0
                      clear pm
                      refine wpAnyH_take (i := 7) (oi := { dst := some 55, op := Op.fieldAddr TMo (Operand.tmp 2) 0, type := 0, pos := "law.go:50", after := #[{ on := 0, ground := Ground.phase }, { on := 1, ground := Ground.phase }, { on := 2, ground := Ground.phase }, { on := 3, ground := Ground.phase }, { on := 4, ground := Ground.phase }, { on := 5, ground := Ground.phase }, { on := 6, ground := Ground.phase }], guard := none }) (v := .pointer (some ⟨w.heap.size, 0, none⟩)) rfl (by kernel_rfl) (by kernel_rfl) (by kernel_rfl) (fun _ _ _ h => h) (Or.inl ⟨by rfl, ?_⟩) (by assumption) ?_
                      · (intro w' hSw; (try dsimp only at hSw); go_simp)
                      try simp only [Act.put, List.setIfInBounds_toArray, List.set_cons_zero, List.set_cons_succ]
                      refine wpAnyH_ready (rs := [8]) (by kernel_rfl) (by simp) ?_
                      refine AllReadyH.cons (o := { dst := none, op := Op.store TSl (Operand.tmp 55) (Operand.tmp 54), type := 0, pos := "law.go:50", after := #[{ on := 7, ground := Ground.data }, { on := 6, ground := Ground.data }, { on := 6, ground := Ground.chain }, { on := 0, ground := Ground.phase }, { on := 1, ground := Ground.phase }, { on := 2, ground := Ground.phase }, { on := 3, ground := Ground.phase }, { on := 4, ground := Ground.phase }, { on := 5, ground := Ground.phase }, { on := 6, ground := Ground.phase }], guard := none }) rfl (fun K hK => ?_) AllReadyH.nil
                      go_simp
                      refine hK.out _ _ (kk4.to1.set1 _ _) (fun hHeld => ?_)
                      clear hK K
                      try simp only [Act.put, List.setIfInBounds_toArray, List.set_cons_zero, List.set_cons_succ]
                      refine wpAnyH_done (by kernel_rfl) ?_ _
                      go_wp2_with fail
                      go_meet
                      exact ⟨_, _, Lib.hid (Wo.mk2 HM.out kk4 rz4 (by have := nz1.out; have := nz3.out; have := HSZ.out; omega))⟩
                    exact AllReadyH.nil
                  exact AllReadyH.nil
                refine AllReadyH.cons (o := { dst := some 53, op := Op.buildSlice TSl 1 #[(0, Operand.tmp 52)], type := TSl, pos := "law.go:50", after := #[{ on := 4, ground := Ground.data }], guard := none }) rfl (fun K hK => ?_) ?_
                · skip
                  go_simp
                  obtain ⟨v2, hv⟩ : ∃ V, V = (v1.alloc (.cells #[.int .i64 fr, .int .i64 to_, .string s, .bool sp] TP)) := ⟨_, rfl⟩
                  rw [← hv]
                  have ks : Keep (fun _ => False) v1 v2 := by rw [hv]; exact ((Keep.refl _ _).alloc _)
                  have nz2 := Lib.hid (show v2.heap.size = v1.heap.size + 1 by rw [hv]; simp)
                  have bY2 : v2.heap[v1.heap.size]? = some (.cells (Pk.mk fr to_ s sp).cells.toArray TP (0, 0)) := by rw [hv]; exact block_new v1 _
                  clear hv
                  have kk2 : Keep (fun _ => False) w5 v2 := kk1.trans ks
                  have sz2 := kk2.size
                  have bE2 := (ks.block _ (lt_of_block bE1) (fun e => e)).trans bE1
                  refine hK.out _ _ kk2.to1 (fun hHeld => ?_)
                  clear hK K
                  try simp only [Act.put, List.setIfInBounds_toArray, List.set_cons_zero, List.set_cons_succ]
                  refine wpAnyH_ready (rs := [3]) (by kernel_rfl) (by simp) ?_
                  refine AllReadyH.cons (o := { dst := some 51, op := Op.call { callee := Callee.builtin Builtin.append, args := #[Operand.tmp 48, Operand.tmp 50], argTypes := #[TSl, TSl] }, type := TSl, pos := "law.go:50", after := #[{ on := 0, ground := Ground.data }, { on := 2, ground := Ground.data }], guard := none }) rfl (fun K hK => ?_) ?_
                  · skip
                    obtain ⟨g1, c1, v3, hrun1, rw3, ks, hg1⟩ := app1 bE2 (HMR.out.keep kk2 (fun _ _ e => e.elim)) HN9.out HNN.out
                    go_simp
                    have kk3 : Keep (fun _ => False) w5 v3 := kk2.then ks (fun q e => by have := nz1.out; have := nz2.out; have := HSZ.out; omega)
                    have sz3 := kk3.size
                    have bY3 := (ks.block _ (lt_of_block bY2) (fun e => by have := nz1.out; have := nz2.out; have := HSZ.out; omega)).trans bY2
                    clear hrun1
                    refine hK.out _ _ kk3.to1 (fun hHeld => ?_)
                    clear hK K
                    try simp only [Act.put, List.setIfInBounds_toArray, List.set_cons_zero, List.set_cons_succ]
                    refine wpAnyH_ready (rs := [6]) (by kernel_rfl) (by simp) ?_
                    refine AllReadyH.cons (o := { dst := some 54, op := Op.call { callee := Callee.builtin Builtin.append, args := #[Operand.tmp 51, Operand.tmp 53], argTypes := #[TSl, TSl] }, type := TSl, pos := "law.go:50", after := #[{ on := 3, ground := Ground.data }, { on := 5, ground := Ground.data }, { on := 3, ground := Ground.chain }], guard := none }) rfl (fun K hK => ?_) ?_
                    · skip
                      obtain ⟨g2, c2, v4, hrun2, rz4, ks, hg2⟩ := app2 rw3 (one_grow bY3) HN9.out (by omega) rfl
                      go_simp
                      have kk4 : Keep (fun _ => False) w5 v4 := kk3.then ks (fun q e => by have := nz1.out; have := nz2.out; have := HSZ.out; omega)
                      have sz4 := kk4.size
                      clear hrun2
                      refine hK.out _ _ kk4.to1 (fun hHeld => ?_)
                      clear hK K
                      try simp only [Act.put, List.setIfInBounds_toArray, List.set_cons_zero, List.set_cons_succ]
                      have pm := (kk4.block _ (lt_of_block HM.out) (fun e => e)).trans HM.out
                      have p1 : v4.cell? ⟨w.heap.size, 0, none⟩ = some (.slice al j cl) := cell_at pm 0
                      have p2 : v4.frozen? ⟨w.heap.size, 0, none⟩ = false := free_at pm 0
                      clear pm
                      refine wpAnyH_take (i := 7) (oi := { dst := some 55, op := Op.fieldAddr TMo (Operand.tmp 2) 0, type := 0, pos := "law.go:50", after := #[{ on := 0, ground := Ground.phase }, { on := 1, ground := Ground.phase }, { on := 2, ground := Ground.phase }, { on := 3, ground := Ground.phase }, { on := 4, ground := Ground.phase }, { on := 5, ground := Ground.phase }, { on := 6, ground := Ground.phase }], guard := none }) (v := .pointer (some ⟨w.heap.size, 0, none⟩)) rfl (by kernel_rfl) (by kernel_rfl) (by kernel_rfl) (fun _ _ _ h => h) (Or.inl ⟨by rfl, ?_⟩) (by assumption) ?_
                      · (intro w' hSw; (try dsimp only at hSw); go_simp)
                      try simp only [Act.put, List.setIfInBounds_toArray, List.set_cons_zero, List.set_cons_succ]
                      refine wpAnyH_ready (rs := [8]) (by kernel_rfl) (by simp) ?_
                      refine AllReadyH.cons (o := { dst := none, op := Op.store TSl (Operand.tmp 55) (Operand.tmp 54), type := 0, pos := "law.go:50", after := #[{ on := 7, ground := Ground.data }, { on := 6, ground := Ground.data }, { on := 6, ground := Ground.chain }, { on := 0, ground := Ground.phase }, { on := 1, ground := Ground.phase }, { on := 2, ground := Ground.phase }, { on := 3, ground := Ground.phase }, { on := 4, ground := Ground.phase }, { on := 5, ground := Ground.phase }, { on := 6, ground := Ground.phase }], guard := none }) rfl (fun K hK => ?_) AllReadyH.nil
                      go_simp
                      refine hK.out _ _ (kk4.to1.set1 _ _) (fun hHeld => ?_)
                      clear hK K
                      try simp only [Act.put, List.setIfInBounds_toArray, List.set_cons_zero, List.set_cons_succ]
                      refine wpAnyH_done (by kernel_rfl) ?_ _
                      go_wp2_with fail
                      go_meet
                      exact ⟨_, _, Lib.hid (Wo.mk2 HM.out kk4 rz4 (by have := nz1.out; have := nz2.out; have := HSZ.out; omega))⟩
                    exact AllReadyH.nil
                  exact AllReadyH.nil
                exact AllReadyH.nil
              refine AllReadyH.cons (o := { dst := some 53, op := Op.buildSlice TSl 1 #[(0, Operand.tmp 52)], type := TSl, pos := "law.go:50", after := #[{ on := 4, ground := Ground.data }], guard := none }) rfl (fun K hK => ?_) ?_
              · skip
                go_simp
                obtain ⟨v1, hv⟩ : ∃ V, V = (w5.alloc (.cells #[.int .i64 fr, .int .i64 to_, .string s, .bool sp] TP)).drew := ⟨_, rfl⟩
                rw [← hv]
                have ks : Keep (fun _ => False) w5 v1 := by rw [hv]; exact ((Keep.refl _ _).alloc _).drew
                have nz1 := Lib.hid (show v1.heap.size = w5.heap.size + 1 by rw [hv]; simp)
                have bY1 : v1.heap[w5.heap.size]? = some (.cells (Pk.mk fr to_ s sp).cells.toArray TP (0, 0)) := by rw [hv]; exact block_drew (block_new w5 _)
                clear hv
                have kk1 : Keep (fun _ => False) w5 v1 := ks
                have sz1 := kk1.size
                refine hK.out _ _ kk1.to1 (fun hHeld => ?_)
                clear hK K
                try simp only [Act.put, List.setIfInBounds_toArray, List.set_cons_zero, List.set_cons_succ]
                refine wpAnyH_ready (rs := [0]) (by kernel_rfl) (by simp) ?_
                refine AllReadyH.cons (o := { dst := some 48, op := Op.buildSlice TSl 0 #[], type := TSl, pos := "law.go:50", after := #[], guard := none }) rfl (fun K hK => ?_) ?_
                · skip
                  go_simp
                  obtain ⟨v2, hv⟩ : ∃ V, V = (v1.alloc (.cells #[] TP)) := ⟨_, rfl⟩
                  rw [← hv]
                  have ks : Keep (fun _ => False) v1 v2 := by rw [hv]; exact ((Keep.refl _ _).alloc _)
                  have nz2 := Lib.hid (show v2.heap.size = v1.heap.size + 1 by rw [hv]; simp)
                  have bE2 : v2.heap[v1.heap.size]? = some (.cells #[] TP (0, 0)) := by rw [hv]; exact block_new v1 _
                  clear hv
                  have kk2 : Keep (fun _ => False) w5 v2 := kk1.trans ks
                  have sz2 := kk2.size
                  have bY2 := (ks.block _ (lt_of_block bY1) (fun e => e)).trans bY1
                  refine hK.out _ _ kk2.to1 (fun hHeld => ?_)
                  clear hK K
                  try simp only [Act.put, List.setIfInBounds_toArray, List.set_cons_zero, List.set_cons_succ]
                  refine wpAnyH_ready (rs := [3]) (by kernel_rfl) (by simp) ?_
                  refine AllReadyH.cons (o := { dst := some 51, op := Op.call { callee := Callee.builtin Builtin.append, args := #[Operand.tmp 48, Operand.tmp 50], argTypes := #[TSl, TSl] }, type := TSl, pos := "law.go:50", after := #[{ on := 0, ground := Ground.data }, { on := 2, ground := Ground.data }], guard := none }) rfl (fun K hK => ?_) ?_
                  · skip
                    obtain ⟨g1, c1, v3, hrun1, rw3, ks, hg1⟩ := app1 bE2 (HMR.out.keep kk2 (fun _ _ e => e.elim)) HN9.out HNN.out
                    go_simp
                    have kk3 : Keep (fun _ => False) w5 v3 := kk2.then ks (fun q e => by have := nz1.out; have := nz2.out; have := HSZ.out; omega)
                    have sz3 := kk3.size
                    have bY3 := (ks.block _ (lt_of_block bY2) (fun e => by have := nz1.out; have := nz2.out; have := HSZ.out; omega)).trans bY2
                    clear hrun1
                    refine hK.out _ _ kk3.to1 (fun hHeld => ?_)
                    clear hK K
                    try simp only [Act.put, List.setIfInBounds_toArray, List.set_cons_zero, List.set_cons_succ]
                    refine wpAnyH_ready (rs := [6]) (by kernel_rfl) (by simp) ?_
                    refine AllReadyH.cons (o := { dst := some 54, op := Op.call { callee := Callee.builtin Builtin.append, args := #[Operand.tmp 51, Operand.tmp 53], argTypes := #[TSl, TSl] }, type := TSl, pos := "law.go:50", after := #[{ on := 3, ground := Ground.data }, { on := 5, ground := Ground.data }, { on := 3, ground := Ground.chain }], guard := none }) rfl (fun K hK => ?_) ?_
                    · skip
                      obtain ⟨g2, c2, v4, hrun2, rz4, ks, hg2⟩ := app2 rw3 (one_grow bY3) HN9.out (by omega) rfl
                      go_simp
                      have kk4 : Keep (fun _ => False) w5 v4 := kk3.then ks (fun q e => by have := nz1.out; have := nz2.out; have := HSZ.out; omega)
                      have sz4 := kk4.size
                      clear hrun2
                      refine hK.out _ _ kk4.to1 (fun hHeld => ?_)
                      clear hK K
                      try simp only [Act.put, List.setIfInBounds_toArray, List.set_cons_zero, List.set_cons_succ]
                      have pm := (kk4.block _ (lt_of_block HM.out) (fun e => e)).trans HM.out
                      have p1 : v4.cell? ⟨w.heap.size, 0, none⟩ = some (.slice al j cl) := cell_at pm 0
                      have p2 : v4.frozen? ⟨w.heap.size, 0, none⟩ = false := free_at pm 0
                      clear pm
                      refine wpAnyH_take (i := 7) (oi := { dst := some 55, op := Op.fieldAddr TMo (Operand.tmp 2) 0, type := 0, pos := "law.go:50", after := #[{ on := 0, ground := Ground.phase }, { on := 1, ground := Ground.phase }, { on := 2, ground := Ground.phase }, { on := 3, ground := Ground.phase }, { on := 4, ground := Ground.phase }, { on := 5, ground := Ground.phase }, { on := 6, ground := Ground.phase }], guard := none }) (v := .pointer (some ⟨w.heap.size, 0, none⟩)) rfl (by kernel_rfl) (by kernel_rfl) (by kernel_rfl) (fun _ _ _ h => h) (Or.inl ⟨by rfl, ?_⟩) (by assumption) ?_
                      · (intro w' hSw; (try dsimp only at hSw); go_simp)
                      try simp only [Act.put, List.setIfInBounds_toArray, List.set_cons_zero, List.set_cons_succ]
                      refine wpAnyH_ready (rs := [8]) (by kernel_rfl) (by simp) ?_
                      refine AllReadyH.cons (o := { dst := none, op := Op.store TSl (Operand.tmp 55) (Operand.tmp 54), type := 0, pos := "law.go:50", after := #[{ on := 7, ground := Ground.data }, { on := 6, ground := Ground.data }, { on := 6, ground := Ground.chain }, { on := 0, ground := Ground.phase }, { on := 1, ground := Ground.phase }, { on := 2, ground := Ground.phase }, { on := 3, ground := Ground.phase }, { on := 4, ground := Ground.phase }, { on := 5, ground := Ground.phase }, { on := 6, ground := Ground.phase }], guard := none }) rfl (fun K hK => ?_) AllReadyH.nil
                      go_simp
                      refine hK.out _ _ (kk4.to1.set1 _ _) (fun hHeld => ?_)
                      clear hK K
                      try simp only [Act.put, List.setIfInBounds_toArray, List.set_cons_zero, List.set_cons_succ]
                      refine wpAnyH_done (by kernel_rfl) ?_ _
                      go_wp2_with fail
                      go_meet
                      exact ⟨_, _, Lib.hid (Wo.mk2 HM.out kk4 rz4 (by have := nz1.out; have := nz2.out; have := HSZ.out; omega))⟩
                    exact AllReadyH.nil
                  exact AllReadyH.nil
                exact AllReadyH.nil
              exact AllReadyH.nil
            refine AllReadyH.cons (o := { dst := some 53, op := Op.buildSlice TSl 1 #[(0, Operand.tmp 52)], type := TSl, pos := "law.go:50", after := #[{ on := 4, ground := Ground.data }], guard := none }) rfl (fun K hK => ?_) ?_
            · skip
              go_simp
              obtain ⟨v1, hv⟩ : ∃ V, V = (w5.alloc (.cells #[.int .i64 fr, .int .i64 to_, .string s, .bool sp] TP)).drew := ⟨_, rfl⟩
              rw [← hv]
              have ks : Keep (fun _ => False) w5 v1 := by rw [hv]; exact ((Keep.refl _ _).alloc _).drew
              have nz1 := Lib.hid (show v1.heap.size = w5.heap.size + 1 by rw [hv]; simp)
              have bY1 : v1.heap[w5.heap.size]? = some (.cells (Pk.mk fr to_ s sp).cells.toArray TP (0, 0)) := by rw [hv]; exact block_drew (block_new w5 _)
              clear hv
              have kk1 : Keep (fun _ => False) w5 v1 := ks
              have sz1 := kk1.size
              refine hK.out _ _ kk1.to1 (fun hHeld => ?_)
              clear hK K
              try simp only [Act.put, List.setIfInBounds_toArray, List.set_cons_zero, List.set_cons_succ]
              refine wpAnyH_ready (rs := [0, 2]) (by kernel_rfl) (by simp) ?_
              refine AllReadyH.cons (o := { dst := some 48, op := Op.buildSlice TSl 0 #[], type := TSl, pos := "law.go:50", after := #[], guard := none }) rfl (fun K hK => ?_) ?_
              · skip
                go_simp
                obtain ⟨v2, hv⟩ : ∃ V, V = (v1.alloc (.cells #[] TP)) := ⟨_, rfl⟩
                rw [← hv]
                have ks : Keep (fun _ => False) v1 v2 := by rw [hv]; exact ((Keep.refl _ _).alloc _)
                have nz2 := Lib.hid (show v2.heap.size = v1.heap.size + 1 by rw [hv]; simp)
                have bE2 : v2.heap[v1.heap.size]? = some (.cells #[] TP (0, 0)) := by rw [hv]; exact block_new v1 _
                clear hv
                have kk2 : Keep (fun _ => False) w5 v2 := kk1.trans ks
                have sz2 := kk2.size
                have bY2 := (ks.block _ (lt_of_block bY1) (fun e => e)).trans bY1
                refine hK.out _ _ kk2.to1 (fun hHeld => ?_)
                clear hK K
                try simp only [Act.put, List.setIfInBounds_toArray, List.set_cons_zero, List.set_cons_succ]
                refine wpAnyH_ready (rs := [2]) (by kernel_rfl) (by simp) ?_
                refine AllReadyH.cons (o := { dst := some 50, op := Op.load TSl (Operand.tmp 49), type := TSl, pos := "law.go:50", after := #[{ on := 1, ground := Ground.data }], guard := none }) rfl (fun K hK => ?_) ?_
                · skip
                  have p1 : v2.cell? ⟨w.heap.size, 0, none⟩ = some (.slice al j cl) := cell_at ((kk2.block _ (lt_of_block HM.out) (fun e => e)).trans HM.out) 0
                  go_simp
                  refine hK.out _ _ kk2.to1 (fun hHeld => ?_)
                  clear hK K p1
                  try simp only [Act.put, List.setIfInBounds_toArray, List.set_cons_zero, List.set_cons_succ]
                  refine wpAnyH_ready (rs := [3]) (by kernel_rfl) (by simp) ?_
                  refine AllReadyH.cons (o := { dst := some 51, op := Op.call { callee := Callee.builtin Builtin.append, args := #[Operand.tmp 48, Operand.tmp 50], argTypes := #[TSl, TSl] }, type := TSl, pos := "law.go:50", after := #[{ on := 0, ground := Ground.data }, { on := 2, ground := Ground.data }], guard := none }) rfl (fun K hK => ?_) ?_
                  · skip
                    obtain ⟨g1, c1, v3, hrun1, rw3, ks, hg1⟩ := app1 bE2 (HMR.out.keep kk2 (fun _ _ e => e.elim)) HN9.out HNN.out
                    go_simp
                    have kk3 : Keep (fun _ => False) w5 v3 := kk2.then ks (fun q e => by have := nz1.out; have := nz2.out; have := HSZ.out; omega)
                    have sz3 := kk3.size
                    have bY3 := (ks.block _ (lt_of_block bY2) (fun e => by have := nz1.out; have := nz2.out; have := HSZ.out; omega)).trans bY2
                    clear hrun1
                    refine hK.out _ _ kk3.to1 (fun hHeld => ?_)
                    clear hK K
                    try simp only [Act.put, List.setIfInBounds_toArray, List.set_cons_zero, List.set_cons_succ]
                    refine wpAnyH_ready (rs := [6]) (by kernel_rfl) (by simp) ?_
                    refine AllReadyH.cons (o := { dst := some 54, op := Op.call { callee := Callee.builtin Builtin.append, args := #[Operand.tmp 51, Operand.tmp 53], argTypes := #[TSl, TSl] }, type := TSl, pos := "law.go:50", after := #[{ on := 3, ground := Ground.data }, { on := 5, ground := Ground.data }, { on := 3, ground := Ground.chain }], guard := none }) rfl (fun K hK => ?_) ?_
                    · skip
                      obtain ⟨g2, c2, v4, hrun2, rz4, ks, hg2⟩ := app2 rw3 (one_grow bY3) HN9.out (by omega) rfl
                      go_simp
                      have kk4 : Keep (fun _ => False) w5 v4 := kk3.then ks (fun q e => by have := nz1.out; have := nz2.out; have := HSZ.out; omega)
                      have sz4 := kk4.size
                      clear hrun2
                      refine hK.out _ _ kk4.to1 (fun hHeld => ?_)
                      clear hK K
                      try simp only [Act.put, List.setIfInBounds_toArray, List.set_cons_zero, List.set_cons_succ]
                      have pm := (kk4.block _ (lt_of_block HM.out) (fun e => e)).trans HM.out
                      have p1 : v4.cell? ⟨w.heap.size, 0, none⟩ = some (.slice al j cl) := cell_at pm 0
                      have p2 : v4.frozen? ⟨w.heap.size, 0, none⟩ = false := free_at pm 0
                      clear pm
                      refine wpAnyH_take (i := 7) (oi := { dst := some 55, op := Op.fieldAddr TMo (Operand.tmp 2) 0, type := 0, pos := "law.go:50", after := #[{ on := 0, ground := Ground.phase }, { on := 1, ground := Ground.phase }, { on := 2, ground := Ground.phase }, { on := 3, ground := Ground.phase }, { on := 4, ground := Ground.phase }, { on := 5, ground := Ground.phase }, { on := 6, ground := Ground.phase }], guard := none }) (v := .pointer (some ⟨w.heap.size, 0, none⟩)) rfl (by kernel_rfl) (by kernel_rfl) (by kernel_rfl) (fun _ _ _ h => h) (Or.inl ⟨by rfl, ?_⟩) (by assumption) ?_
                      · (intro w' hSw; (try dsimp only at hSw); go_simp)
                      try simp only [Act.put, List.setIfInBounds_toArray, List.set_cons_zero, List.set_cons_succ]
                      refine wpAnyH_ready (rs := [8]) (by kernel_rfl) (by simp) ?_
                      refine AllReadyH.cons (o := { dst := none, op := Op.store TSl (Operand.tmp 55) (Operand.tmp 54), type := 0, pos := "law.go:50", after := #[{ on := 7, ground := Ground.data }, { on := 6, ground := Ground.data }, { on := 6, ground := Ground.chain }, { on := 0, ground := Ground.phase }, { on := 1, ground := Ground.phase }, { on := 2, ground := Ground.phase }, { on := 3, ground := Ground.phase }, { on := 4, ground := Ground.phase }, { on := 5, ground := Ground.phase }, { on := 6, ground := Ground.phase }], guard := none }) rfl (fun K hK => ?_) AllReadyH.nil
                      go_simp
                      refine hK.out _ _ (kk4.to1.set1 _ _) (fun hHeld => ?_)
                      clear hK K
                      try simp only [Act.put, List.setIfInBounds_toArray, List.set_cons_zero, List.set_cons_succ]
                      refine wpAnyH_done (by kernel_rfl) ?_ _
                      go_wp2_with fail
                      go_meet
                      exact ⟨_, _, Lib.hid (Wo.mk2 HM.out kk4 rz4 (by have := nz1.out; have := nz2.out; have := HSZ.out; omega))⟩
                    exact AllReadyH.nil
                  exact AllReadyH.nil
                exact AllReadyH.nil
              refine AllReadyH.cons (o := { dst := some 50, op := Op.load TSl (Operand.tmp 49), type := TSl, pos := "law.go:50", after := #[{ on := 1, ground := Ground.data }], guard := none }) rfl (fun K hK => ?_) ?_
              · skip
                have p1 : v1.cell? ⟨w.heap.size, 0, none⟩ = some (.slice al j cl) := cell_at ((kk1.block _ (lt_of_block HM.out) (fun e => e)).trans HM.out) 0
                go_simp
                refine hK.out _ _ kk1.to1 (fun hHeld => ?_)
                clear hK K p1
                try simp only [Act.put, List.setIfInBounds_toArray, List.set_cons_zero, List.set_cons_succ]
                refine wpAnyH_ready (rs := [0]) (by kernel_rfl) (by simp) ?_
                refine AllReadyH.cons (o := { dst := some 48, op := Op.buildSlice TSl 0 #[], type := TSl, pos := "law.go:50", after := #[], guard := none }) rfl (fun K hK => ?_) ?_
                · skip
                  go_simp
                  obtain ⟨v2, hv⟩ : ∃ V, V = (v1.alloc (.cells #[] TP)) := ⟨_, rfl⟩
                  rw [← hv]
                  have ks : Keep (fun _ => False) v1 v2 := by rw [hv]; exact ((Keep.refl _ _).alloc _)
                  have nz2 := Lib.hid (show v2.heap.size = v1.heap.size + 1 by rw [hv]; simp)
                  have bE2 : v2.heap[v1.heap.size]? = some (.cells #[] TP (0, 0)) := by rw [hv]; exact block_new v1 _
                  clear hv
                  have kk2 : Keep (fun _ => False) w5 v2 := kk1.trans ks
                  have sz2 := kk2.size
                  have bY2 := (ks.block _ (lt_of_block bY1) (fun e => e)).trans bY1
                  refine hK.out _ _ kk2.to1 (fun hHeld => ?_)
                  clear hK K
                  try simp only [Act.put, List.setIfInBounds_toArray, List.set_cons_zero, List.set_cons_succ]
                  refine wpAnyH_ready (rs := [3]) (by kernel_rfl) (by simp) ?_
                  refine AllReadyH.cons (o := { dst := some 51, op := Op.call { callee := Callee.builtin Builtin.append, args := #[Operand.tmp 48, Operand.tmp 50], argTypes := #[TSl, TSl] }, type := TSl, pos := "law.go:50", after := #[{ on := 0, ground := Ground.data }, { on := 2, ground := Ground.data }], guard := none }) rfl (fun K hK => ?_) ?_
                  · skip
                    obtain ⟨g1, c1, v3, hrun1, rw3, ks, hg1⟩ := app1 bE2 (HMR.out.keep kk2 (fun _ _ e => e.elim)) HN9.out HNN.out
                    go_simp
                    have kk3 : Keep (fun _ => False) w5 v3 := kk2.then ks (fun q e => by have := nz1.out; have := nz2.out; have := HSZ.out; omega)
                    have sz3 := kk3.size
                    have bY3 := (ks.block _ (lt_of_block bY2) (fun e => by have := nz1.out; have := nz2.out; have := HSZ.out; omega)).trans bY2
                    clear hrun1
                    refine hK.out _ _ kk3.to1 (fun hHeld => ?_)
                    clear hK K
                    try simp only [Act.put, List.setIfInBounds_toArray, List.set_cons_zero, List.set_cons_succ]
                    refine wpAnyH_ready (rs := [6]) (by kernel_rfl) (by simp) ?_
                    refine AllReadyH.cons (o := { dst := some 54, op := Op.call { callee := Callee.builtin Builtin.append, args := #[Operand.tmp 51, Operand.tmp 53], argTypes := #[TSl, TSl] }, type := TSl, pos := "law.go:50", after := #[{ on := 3, ground := Ground.data }, { on := 5, ground := Ground.data }, { on := 3, ground := Ground.chain }], guard := none }) rfl (fun K hK => ?_) ?_
                    · skip
                      obtain ⟨g2, c2, v4, hrun2, rz4, ks, hg2⟩ := app2 rw3 (one_grow bY3) HN9.out (by omega) rfl
                      go_simp
                      have kk4 : Keep (fun _ => False) w5 v4 := kk3.then ks (fun q e => by have := nz1.out; have := nz2.out; have := HSZ.out; omega)
                      have sz4 := kk4.size
                      clear hrun2
                      refine hK.out _ _ kk4.to1 (fun hHeld => ?_)
                      clear hK K
                      try simp only [Act.put, List.setIfInBounds_toArray, List.set_cons_zero, List.set_cons_succ]
                      have pm := (kk4.block _ (lt_of_block HM.out) (fun e => e)).trans HM.out
                      have p1 : v4.cell? ⟨w.heap.size, 0, none⟩ = some (.slice al j cl) := cell_at pm 0
                      have p2 : v4.frozen? ⟨w.heap.size, 0, none⟩ = false := free_at pm 0
                      clear pm
                      refine wpAnyH_take (i := 7) (oi := { dst := some 55, op := Op.fieldAddr TMo (Operand.tmp 2) 0, type := 0, pos := "law.go:50", after := #[{ on := 0, ground := Ground.phase }, { on := 1, ground := Ground.phase }, { on := 2, ground := Ground.phase }, { on := 3, ground := Ground.phase }, { on := 4, ground := Ground.phase }, { on := 5, ground := Ground.phase }, { on := 6, ground := Ground.phase }], guard := none }) (v := .pointer (some ⟨w.heap.size, 0, none⟩)) rfl (by kernel_rfl) (by kernel_rfl) (by kernel_rfl) (fun _ _ _ h => h) (Or.inl ⟨by rfl, ?_⟩) (by assumption) ?_
                      · (intro w' hSw; (try dsimp only at hSw); go_simp)
                      try simp only [Act.put, List.setIfInBounds_toArray, List.set_cons_zero, List.set_cons_succ]
                      refine wpAnyH_ready (rs := [8]) (by kernel_rfl) (by simp) ?_
                      refine AllReadyH.cons (o := { dst := none, op := Op.store TSl (Operand.tmp 55) (Operand.tmp 54), type := 0, pos := "law.go:50", after := #[{ on := 7, ground := Ground.data }, { on := 6, ground := Ground.data }, { on := 6, ground := Ground.chain }, { on := 0, ground := Ground.phase }, { on := 1, ground := Ground.phase }, { on := 2, ground := Ground.phase }, { on := 3, ground := Ground.phase }, { on := 4, ground := Ground.phase }, { on := 5, ground := Ground.phase }, { on := 6, ground := Ground.phase }], guard := none }) rfl (fun K hK => ?_) AllReadyH.nil
                      go_simp
                      refine hK.out _ _ (kk4.to1.set1 _ _) (fun hHeld => ?_)
                      clear hK K
                      try simp only [Act.put, List.setIfInBounds_toArray, List.set_cons_zero, List.set_cons_succ]
                      refine wpAnyH_done (by kernel_rfl) ?_ _
                      go_wp2_with fail
                      go_meet
                      exact ⟨_, _, Lib.hid (Wo.mk2 HM.out kk4 rz4 (by have := nz1.out; have := nz2.out; have := HSZ.out; omega))⟩
                    exact AllReadyH.nil
                  exact AllReadyH.nil
                exact AllReadyH.nil
              exact AllReadyH.nil
            exact AllReadyH.nil
          case rest =>
            obtain ⟨g2, c2, hO⟩ := hcut
            have m0 := cell_at hO.out.m 0
            have m1 := cell_at hO.out.m 1
            simp at m0 m1
            have HZ7 := Lib.hid ((hO.out.k.block _ (lt_of_block HZ6.out) (by omega)).trans HZ6.out)
            have z0 := cell_at HZ7.out 0
            have f0 := free_at HZ7.out 0
            have hz1 := block_set HZ7.out 0 (.slice (some ⟨g2, 0, none⟩) (j + 1) c2)
            have z1 := cell_at hz1 1
            have f1 := free_at hz1 1
            have hz2 := block_set hz1 1 (.slice ac m cc)
            simp at z0 z1
            have HQ := Lib.hid hz2
            have kZ : Keep (fun q => q = w.heap.size + 1 + 1) wc ((wc.setCell ⟨w.heap.size + 1 + 1, 0, none⟩ (.slice (some ⟨g2, 0, none⟩) (j + 1) c2)).setCell ⟨w.heap.size + 1 + 1, 1, none⟩ (.slice ac m cc)) := ((Keep.refl (fun q => q = w.heap.size + 1 + 1) wc).set1 _ _).set1 _ _
            have HKZ := Lib.hid kZ
            clear hz1 hz2 kZ
            go_wp2_with fail
            have q0 := cell_at HQ.out 0
            have q1 := cell_at HQ.out 1
            simp at q0 q1
            refine bodyPost_ret (v := .tuple #[.agg #[.slice (some ⟨g2, 0, none⟩) (j + 1) c2, .slice ac m cc], .bool true]) ?_ rfl ?_
            · simp [results, Try.results27, go_sem, q0, q1]
            · have hneg : ¬ (64 ≤ cnt fr to_ ps ∨ offL cs fr to_ = true) := by
                rintro (h | h)
                · have := HK.out; omega
                · rw [show offL cs fr to_ = false from HO.out] at h; cases h
              unfold Sent
              rw [if_neg hneg]
              refine ⟨g2, c2, rfl, owns_keep hO.out.r HKZ.out (fun q e f => ?_), by have := hO.out.g; have := HSZ.out; omega, ((((HKW.out.trans hk.out).trans K5.out).then hO.out.k (fun q e => by omega))).then HKZ.out (fun q e => by omega)⟩
              have : g2 = q := by simpa [Value.ownBlock] using e
              have := hO.out.g
              have := HSZ.out
              omega

end Go.Proofs.Ytdmdegjomikmlaa.NetB
