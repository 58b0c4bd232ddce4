/-
  Layer 22 (net): the law's own model: do: one way more is cut (region 34), at whatever frame.
-/
import Derived.Test.YtdmdegjomikmlaaNdT
namespace Go.Proofs.Ytdmdegjomikmlaa.NdK
set_option linter.unusedVariables false
set_option linter.unusedSimpArgs false
set_option maxRecDepth 100000
open Go.RowKit Go.Proofs.Ytdmdegjomikmlaa.Mem Go.Proofs.Ytdmdegjomikmlaa.NetM Go.Proofs.Ytdmdegjomikmlaa.NetW Go.Proofs.Ytdmdegjomikmlaa.NetS Go.Proofs.Ytdmdegjomikmlaa.NetD Go.Proofs.Ytdmdegjomikmlaa.NetT Go.Proofs.Ytdmdegjomikmlaa.NetA Go.Proofs.Ytdmdegjomikmlaa.NetY Go.Proofs.Ytdmdegjomikmlaa.NetZ Go.Proofs.Ytdmdegjomikmlaa.NetO Go.Proofs.Ytdmdegjomikmlaa.NetB Go.Proofs.Ytdmdegjomikmlaa.NdA Go.Proofs.Ytdmdegjomikmlaa.NdB Go.Proofs.Ytdmdegjomikmlaa.NdT
attribute [-go_sem] Builtin.append_ Act.eval Act.put
attribute [local go_sem] BigFrame.eval_const BigFrame.eval_global BigFrame.eval_func
theorem sz_put (A : Act) (d : Nat) (v : Value) : (A.put (some d) v).tmps.size = A.tmps.size := by simp [Act.put]
theorem put_none (A : Act) (v : Value) : A.put none v = A := rfl
theorem ev_same (A : Act) (i : Nat) (v : Value) (h : i < A.tmps.size) : (A.put (some i) v).eval (.tmp i) = v := by
  simp [Act.put, Act.eval, Array.getD_eq_getD_getElem?, Array.getElem?_setIfInBounds, h]
theorem ev_ne (A : Act) (i j : Nat) (v : Value) (h : i ≠ j) : (A.put (some i) v).eval (.tmp j) = A.eval (.tmp j) := by
  simp [Act.put, Act.eval, Array.getD_eq_getD_getElem?, Array.getElem?_setIfInBounds, h]
theorem put_comm (A : Act) (i j : Nat) (u v : Value) (h : j < i) : (A.put (some i) u).put (some j) v = (A.put (some j) v).put (some i) u := by
  simp only [Act.put]
  rw [Array.setIfInBounds_comm _ _ (by omega)]
attribute [local go_sem] sz_put put_none ev_same ev_ne
set_option maxHeartbeats 16000000 in
theorem reg34 (A : Act) (hA : A.tmps.size = 280) (M X : Nat) (h3 : A.eval (.tmp 3) = .pointer (some ⟨M, 0, none⟩)) (h5 : A.eval (.tmp 5) = .pointer (some ⟨X, 0, none⟩)) (K : Act → World → Prop) (Q : Exit → Act → World → Prop) (w2 : World) (F : Nat → Prop) (B m cc : Nat) (ac : Option Addr) (vl : Value) (cs : List (Int × Int)) (a c : Int)
    (HM : Hid (w2.heap[M]? = some (.cells #[vl, .slice ac m cc] TMo (0, 0)))) (HSX : Hid (∀ w' : World, Keep (fun j => j = M) w2 w' → w'.cell? ⟨X, 1, none⟩ = some (.int .i64 a) ∧ w'.cell? ⟨X, 2, none⟩ = some (.int .i64 c))) (HCR : Hid (GRow w2 F B (.slice ac m cc) m (NetY.ways cs))) (HMM : Hid (m = cs.length)) (HM9 : Hid (m ≤ 10000))
    (hQ : ∀ (x : List PanicEntry) (A' : Act) (d : Nat) (v : Value) (W : World), Q (.panic x) (A'.put (some d) v) W → Q (.panic x) A' W) (hK : ∀ (v201 v202 v203 v204 v205 v206 v207 v208 v209 v210 v211 v212 : Value) (W' : World), (∃ g c', Hid (Ww w2 W' M (m + 1) vl (cs ++ [(a, c)]) g c')) → K ((((((((((((A.put (some 201) v201).put (some 202) v202).put (some 203) v203).put (some 204) v204).put (some 205) v205).put (some 206) v206).put (some 207) v207).put (some 208) v208).put (some 209) v209).put (some 210) v210).put (some 211) v211).put (some 212) v212) W') :
    Code.wp Try.prog (Code.region 34 #[{ dst := some 201, op := Op.buildSlice 37 0 #[], type := 37, pos := "law.go:99", after := #[], guard := none }, { dst := some 202, op := Op.fieldAddr 39 (Operand.tmp 3) 1, type := 0, pos := "law.go:99", after := #[], guard := none }, { dst := some 203, op := Op.load 37 (Operand.tmp 202), type := 37, pos := "law.go:99", after := #[{ on := 1, ground := Ground.data }], guard := none }, { dst := some 204, op := Op.call { callee := Callee.builtin Builtin.append, args := #[Operand.tmp 201, Operand.tmp 203], argTypes := #[37, 37] }, type := 37, pos := "law.go:99", after := #[{ on := 0, ground := Ground.data }, { on := 2, ground := Ground.data }], guard := none }, { dst := some 205, op := Op.fieldAddr 43 (Operand.tmp 5) 1, type := 0, pos := "law.go:99", after := #[], guard := none }, { dst := some 206, op := Op.load 3 (Operand.tmp 205), type := 3, pos := "law.go:99", after := #[{ on := 4, ground := Ground.data }], guard := none }, { dst := some 207, op := Op.fieldAddr 43 (Operand.tmp 5) 2, type := 0, pos := "law.go:99", after := #[], guard := none }, { dst := some 208, op := Op.load 3 (Operand.tmp 207), type := 3, pos := "law.go:99", after := #[{ on := 6, ground := Ground.data }], guard := none }, { dst := some 209, op := Op.build 61 #[(0, Operand.tmp 206), (1, Operand.tmp 208)], type := 61, pos := "law.go:99", after := #[{ on := 5, ground := Ground.data }, { on := 7, ground := Ground.data }], guard := none }, { dst := some 210, op := Op.buildSlice 37 1 #[(0, Operand.tmp 209)], type := 37, pos := "law.go:99", after := #[{ on := 8, ground := Ground.data }], guard := none }, { dst := some 211, op := Op.call { callee := Callee.builtin Builtin.append, args := #[Operand.tmp 204, Operand.tmp 210], argTypes := #[37, 37] }, type := 37, pos := "law.go:99", after := #[{ on := 3, ground := Ground.data }, { on := 9, ground := Ground.data }, { on := 3, ground := Ground.chain }], guard := none }, { dst := some 212, op := Op.fieldAddr 39 (Operand.tmp 3) 1, type := 0, pos := "law.go:99", after := #[{ on := 0, ground := Ground.phase }, { on := 1, ground := Ground.phase }, { on := 2, ground := Ground.phase }, { on := 3, ground := Ground.phase }, { on := 4, ground := Ground.phase }, { on := 5, ground := Ground.phase }, { on := 6, ground := Ground.phase }, { on := 7, ground := Ground.phase }, { on := 8, ground := Ground.phase }, { on := 9, ground := Ground.phase }, { on := 10, ground := Ground.phase }], guard := none }, { dst := none, op := Op.store 37 (Operand.tmp 212) (Operand.tmp 211), type := 0, pos := "law.go:99", after := #[{ on := 11, ground := Ground.data }, { on := 10, ground := Ground.data }, { on := 10, ground := Ground.chain }, { on := 0, ground := Ground.phase }, { on := 1, ground := Ground.phase }, { on := 2, ground := Ground.phase }, { on := 3, ground := Ground.phase }, { on := 4, ground := Ground.phase }, { on := 5, ground := Ground.phase }, { on := 6, ground := Ground.phase }, { on := 7, ground := Ground.phase }, { on := 8, ground := Ground.phase }, { on := 9, ground := Ground.phase }, { on := 10, ground := Ground.phase }], guard := none }] true) (Exit.then K Q) A w2 := by
  have HK := Lib.hid hK
  have HSZ := Lib.hid (lt_of_block HM.out)
  clear hK
  refine wp_region_held_drew (S := (fun w' => Keep (fun j => j = M) w2 w')) (by kernel_rfl) ?_ (fun hHeld => ?_)
  · exact (Keep.refl (fun j => j = M) w2).drew
  generalize hwd : w2.drew = wd at hHeld ⊢
  have kk0 : Keep (fun _ => False) w2 wd := by rw [← hwd]; exact (Keep.refl _ _).drew
  clear hwd
  refine wpAnyH_take (i := 1) (oi := { dst := some 202, op := Op.fieldAddr 39 (Operand.tmp 3) 1, type := 0, pos := "law.go:99", after := #[], guard := none }) (v := .pointer (some ⟨M, 1, none⟩)) rfl (by kernel_rfl) (by kernel_rfl) (by kernel_rfl) (fun _ _ _ h => hQ _ _ _ _ _ h) (Or.inl ⟨by rfl, ?_⟩) (by assumption) ?_
  · (intro w' hSw; (try dsimp only at hSw); go_simp)
  dsimp only
  refine wpAnyH_take (i := 4) (oi := { dst := some 205, op := Op.fieldAddr 43 (Operand.tmp 5) 1, type := 0, pos := "law.go:99", after := #[], guard := none }) (v := .pointer (some ⟨X, 1, none⟩)) rfl (by kernel_rfl) (by kernel_rfl) (by kernel_rfl) (fun _ _ _ h => hQ _ _ _ _ _ h) (Or.inl ⟨by rfl, ?_⟩) (by assumption) ?_
  · (intro w' hSw; (try dsimp only at hSw); go_simp)
  dsimp only
  refine wpAnyH_take (i := 5) (oi := { dst := some 206, op := Op.load 3 (Operand.tmp 205), type := 3, pos := "law.go:99", after := #[{ on := 4, ground := Ground.data }], guard := none }) (v := .int .i64 a) rfl (by kernel_rfl) (by kernel_rfl) (by kernel_rfl) (fun _ _ _ h => hQ _ _ _ _ _ h) (Or.inl ⟨by rfl, ?_⟩) (by assumption) ?_
  · (intro w' hSw; (try dsimp only at hSw); obtain ⟨x0, x1⟩ := HSX.out w' hSw; go_simp)
  dsimp only
  refine wpAnyH_take (i := 6) (oi := { dst := some 207, op := Op.fieldAddr 43 (Operand.tmp 5) 2, type := 0, pos := "law.go:99", after := #[], guard := none }) (v := .pointer (some ⟨X, 2, none⟩)) rfl (by kernel_rfl) (by kernel_rfl) (by kernel_rfl) (fun _ _ _ h => hQ _ _ _ _ _ h) (Or.inl ⟨by rfl, ?_⟩) (by assumption) ?_
  · (intro w' hSw; (try dsimp only at hSw); go_simp)
  dsimp only
  refine wpAnyH_take (i := 7) (oi := { dst := some 208, op := Op.load 3 (Operand.tmp 207), type := 3, pos := "law.go:99", after := #[{ on := 6, ground := Ground.data }], guard := none }) (v := .int .i64 c) rfl (by kernel_rfl) (by kernel_rfl) (by kernel_rfl) (fun _ _ _ h => hQ _ _ _ _ _ h) (Or.inl ⟨by rfl, ?_⟩) (by assumption) ?_
  · (intro w' hSw; (try dsimp only at hSw); obtain ⟨x0, x1⟩ := HSX.out w' hSw; go_simp)
  dsimp only
  refine wpAnyH_take (i := 8) (oi := { dst := some 209, op := Op.build 61 #[(0, Operand.tmp 206), (1, Operand.tmp 208)], type := 61, pos := "law.go:99", after := #[{ on := 5, ground := Ground.data }, { on := 7, ground := Ground.data }], guard := none }) (v := .agg #[.int .i64 a, .int .i64 c]) rfl (by kernel_rfl) (by kernel_rfl) (by kernel_rfl) (fun _ _ _ h => hQ _ _ _ _ _ h) (Or.inl ⟨by rfl, ?_⟩) (by assumption) ?_
  · (intro w' hSw; (try dsimp only at hSw); go_simp)
  dsimp only
  have sz0 := kk0.size
  refine wpAnyH_ready (rs := [0, 2, 9]) (by kernel_rfl) (by simp) ?_
  refine AllReadyH.cons (o := { dst := some 201, op := Op.buildSlice 37 0 #[], type := 37, pos := "law.go:99", after := #[], guard := none }) rfl (fun K' hK => ?_) ?_
  · skip
    go_simp
    obtain ⟨v1, hv⟩ : ∃ V, V = wd.alloc (.cells #[] TWa) := ⟨_, rfl⟩
    rw [← hv]
    have ks : Keep (fun _ => False) wd v1 := by rw [hv]; exact (Keep.refl _ _).alloc _
    have nz1 := Lib.hid (show v1.heap.size = wd.heap.size + 1 by rw [hv]; simp)
    have bE1 : v1.heap[wd.heap.size]? = some (.cells #[] TWa (0, 0)) := by rw [hv]; exact block_new wd _
    clear hv
    have kk1 : Keep (fun _ => False) w2 v1 := kk0.trans ks
    have sz1 := kk1.size
    refine hK.out _ _ (kk1.to1) (fun hHeld => ?_)
    clear hK K'
    try dsimp only
    refine wpAnyH_ready (rs := [2, 9]) (by kernel_rfl) (by simp) ?_
    refine AllReadyH.cons (o := { dst := some 203, op := Op.load 37 (Operand.tmp 202), type := 37, pos := "law.go:99", after := #[{ on := 1, ground := Ground.data }], guard := none }) rfl (fun K' hK => ?_) ?_
    · skip
      have p1 : v1.cell? ⟨M, 1, none⟩ = some (.slice ac m cc) := cell_at ((kk1.block _ (lt_of_block HM.out) (fun e => e)).trans HM.out) 1
      go_simp
      refine hK.out _ _ kk1.to1 (fun hHeld => ?_)
      clear hK K' p1
      try dsimp only
      refine wpAnyH_ready (rs := [3, 9]) (by kernel_rfl) (by simp) ?_
      refine AllReadyH.cons (o := { dst := some 204, op := Op.call { callee := Callee.builtin Builtin.append, args := #[Operand.tmp 201, Operand.tmp 203], argTypes := #[37, 37] }, type := 37, pos := "law.go:99", after := #[{ on := 0, ground := Ground.data }, { on := 2, ground := Ground.data }], guard := none }) rfl (fun K' hK => ?_) ?_
      · skip
        obtain ⟨g1, c1, v2, hrun1, rw2, ks, hg1⟩ := wapp1 bE1 (HCR.out.keep kk1 (fun _ _ e => e.elim)) HM9.out HMM.out
        go_simp
        have sq1 := kk1.size
        have kk2 : Keep (fun _ => False) w2 v2 := kk1.then ks (fun q e => by have := nz1.out; have := HSZ.out; omega)
        have sz2 := kk2.size
        clear hrun1
        refine hK.out _ _ (kk2.to1) (fun hHeld => ?_)
        clear hK K'
        try dsimp only
        refine wpAnyH_ready (rs := [9]) (by kernel_rfl) (by simp) ?_
        refine AllReadyH.cons (o := { dst := some 210, op := Op.buildSlice 37 1 #[(0, Operand.tmp 209)], type := 37, pos := "law.go:99", after := #[{ on := 8, ground := Ground.data }], guard := none }) rfl (fun K' hK => ?_) ?_
        · skip
          go_simp
          obtain ⟨v3, hv⟩ : ∃ V, V = v2.alloc (.cells #[.int .i64 a, .int .i64 c] TWa) := ⟨_, rfl⟩
          rw [← hv]
          have ks : Keep (fun _ => False) v2 v3 := by rw [hv]; exact (Keep.refl _ _).alloc _
          have nz3 := Lib.hid (show v3.heap.size = v2.heap.size + 1 by rw [hv]; simp)
          have bY3 : v3.heap[v2.heap.size]? = some (.cells #[.int .i64 a, .int .i64 c] TWa (0, 0)) := by rw [hv]; exact block_new v2 _
          clear hv
          have kk3 : Keep (fun _ => False) w2 v3 := kk2.trans ks
          have sz3 := kk3.size
          have rw3 := owns_keep rw2 ks (fun _ _ e => e)
          refine hK.out _ _ (kk3.to1) (fun hHeld => ?_)
          clear hK K'
          try dsimp only
          refine wpAnyH_ready (rs := [10]) (by kernel_rfl) (by simp) ?_
          refine AllReadyH.cons (o := { dst := some 211, op := Op.call { callee := Callee.builtin Builtin.append, args := #[Operand.tmp 204, Operand.tmp 210], argTypes := #[37, 37] }, type := 37, pos := "law.go:99", after := #[{ on := 3, ground := Ground.data }, { on := 9, ground := Ground.data }, { on := 3, ground := Ground.chain }], guard := none }) rfl (fun K' hK => ?_) ?_
          · skip
            obtain ⟨g2, c2, v4, hrun2, rz4, ks, hg2⟩ := wapp2 rw3 (one_way bY3) HM9.out (by omega) rfl
            go_simp
            have sq3 := kk3.size
            have kk4 : Keep (fun _ => False) w2 v4 := kk3.then ks (fun q e => by have := nz1.out; have := nz3.out; have := HSZ.out; omega)
            have sz4 := kk4.size
            clear hrun2
            refine hK.out _ _ (kk4.to1) (fun hHeld => ?_)
            clear hK K'
            try dsimp only
            have pm := (kk4.block _ (lt_of_block HM.out) (fun e => e)).trans HM.out
            have p1 : v4.cell? ⟨M, 1, none⟩ = some (.slice ac m cc) := cell_at pm 1
            have p2 : v4.frozen? ⟨M, 1, none⟩ = false := free_at pm 1
            clear pm
            refine wpAnyH_take (i := 11) (oi := { dst := some 212, op := Op.fieldAddr 39 (Operand.tmp 3) 1, type := 0, pos := "law.go:99", after := #[{ on := 0, ground := Ground.phase }, { on := 1, ground := Ground.phase }, { on := 2, ground := Ground.phase }, { on := 3, ground := Ground.phase }, { on := 4, ground := Ground.phase }, { on := 5, ground := Ground.phase }, { on := 6, ground := Ground.phase }, { on := 7, ground := Ground.phase }, { on := 8, ground := Ground.phase }, { on := 9, ground := Ground.phase }, { on := 10, ground := Ground.phase }], guard := none }) (v := .pointer (some ⟨M, 1, none⟩)) rfl (by kernel_rfl) (by kernel_rfl) (by kernel_rfl) (fun _ _ _ h => hQ _ _ _ _ _ h) (Or.inl ⟨by rfl, ?_⟩) (by assumption) ?_
            · (intro w' hSw; (try dsimp only at hSw); go_simp)
            dsimp only
            refine wpAnyH_ready (rs := [12]) (by kernel_rfl) (by simp) ?_
            refine AllReadyH.cons (o := { dst := none, op := Op.store 37 (Operand.tmp 212) (Operand.tmp 211), type := 0, pos := "law.go:99", after := #[{ on := 11, ground := Ground.data }, { on := 10, ground := Ground.data }, { on := 10, ground := Ground.chain }, { on := 0, ground := Ground.phase }, { on := 1, ground := Ground.phase }, { on := 2, ground := Ground.phase }, { on := 3, ground := Ground.phase }, { on := 4, ground := Ground.phase }, { on := 5, ground := Ground.phase }, { on := 6, ground := Ground.phase }, { on := 7, ground := Ground.phase }, { on := 8, ground := Ground.phase }, { on := 9, ground := Ground.phase }, { on := 10, ground := Ground.phase }], guard := none }) rfl (fun K' hK => ?_) AllReadyH.nil
            go_simp
            refine hK.out _ _ (kk4.to1.set1 _ _) (fun hHeld => ?_)
            clear hK K'
            try dsimp only
            refine wpAnyH_done (by kernel_rfl) ?_ _
            show K _ _
            rw [put_comm _ 209 201 _ _ (by decide), put_comm _ 209 203 _ _ (by decide), put_comm _ 209 204 _ _ (by decide), put_comm _ 208 201 _ _ (by decide), put_comm _ 208 203 _ _ (by decide), put_comm _ 208 204 _ _ (by decide), put_comm _ 207 201 _ _ (by decide), put_comm _ 207 203 _ _ (by decide), put_comm _ 207 204 _ _ (by decide), put_comm _ 206 201 _ _ (by decide), put_comm _ 206 203 _ _ (by decide), put_comm _ 206 204 _ _ (by decide), put_comm _ 205 201 _ _ (by decide), put_comm _ 205 203 _ _ (by decide), put_comm _ 205 204 _ _ (by decide), put_comm _ 202 201 _ _ (by decide)]
            exact HK.out _ _ _ _ _ _ _ _ _ _ _ _ _ ⟨_, _, Lib.hid (Ww.mk2 HM.out kk4 rz4 (by have := nz1.out; have := nz3.out; have := HSZ.out; omega))⟩
          exact AllReadyH.nil
        exact AllReadyH.nil
      refine AllReadyH.cons (o := { dst := some 210, op := Op.buildSlice 37 1 #[(0, Operand.tmp 209)], type := 37, pos := "law.go:99", after := #[{ on := 8, ground := Ground.data }], guard := none }) rfl (fun K' hK => ?_) ?_
      · skip
        go_simp
        obtain ⟨v2, hv⟩ : ∃ V, V = v1.alloc (.cells #[.int .i64 a, .int .i64 c] TWa) := ⟨_, rfl⟩
        rw [← hv]
        have ks : Keep (fun _ => False) v1 v2 := by rw [hv]; exact (Keep.refl _ _).alloc _
        have nz2 := Lib.hid (show v2.heap.size = v1.heap.size + 1 by rw [hv]; simp)
        have bY2 : v2.heap[v1.heap.size]? = some (.cells #[.int .i64 a, .int .i64 c] TWa (0, 0)) := by rw [hv]; exact block_new v1 _
        clear hv
        have kk2 : Keep (fun _ => False) w2 v2 := kk1.trans ks
        have sz2 := kk2.size
        have bE2 := (ks.block _ (lt_of_block bE1) (fun e => e)).trans bE1
        refine hK.out _ _ (kk2.to1) (fun hHeld => ?_)
        clear hK K'
        try dsimp only
        refine wpAnyH_ready (rs := [3]) (by kernel_rfl) (by simp) ?_
        refine AllReadyH.cons (o := { dst := some 204, op := Op.call { callee := Callee.builtin Builtin.append, args := #[Operand.tmp 201, Operand.tmp 203], argTypes := #[37, 37] }, type := 37, pos := "law.go:99", after := #[{ on := 0, ground := Ground.data }, { on := 2, ground := Ground.data }], guard := none }) rfl (fun K' hK => ?_) ?_
        · skip
          obtain ⟨g1, c1, v3, hrun1, rw3, ks, hg1⟩ := wapp1 bE2 (HCR.out.keep kk2 (fun _ _ e => e.elim)) HM9.out HMM.out
          go_simp
          have sq2 := kk2.size
          have kk3 : Keep (fun _ => False) w2 v3 := kk2.then ks (fun q e => by have := nz1.out; have := nz2.out; have := HSZ.out; omega)
          have sz3 := kk3.size
          have bY3 := (ks.block _ (lt_of_block bY2) (fun e => by have := nz1.out; have := nz2.out; have := HSZ.out; omega)).trans bY2
          clear hrun1
          refine hK.out _ _ (kk3.to1) (fun hHeld => ?_)
          clear hK K'
          try dsimp only
          refine wpAnyH_ready (rs := [10]) (by kernel_rfl) (by simp) ?_
          refine AllReadyH.cons (o := { dst := some 211, op := Op.call { callee := Callee.builtin Builtin.append, args := #[Operand.tmp 204, Operand.tmp 210], argTypes := #[37, 37] }, type := 37, pos := "law.go:99", after := #[{ on := 3, ground := Ground.data }, { on := 9, ground := Ground.data }, { on := 3, ground := Ground.chain }], guard := none }) rfl (fun K' hK => ?_) ?_
          · skip
            obtain ⟨g2, c2, v4, hrun2, rz4, ks, hg2⟩ := wapp2 rw3 (one_way bY3) HM9.out (by omega) rfl
            go_simp
            have sq3 := kk3.size
            have kk4 : Keep (fun _ => False) w2 v4 := kk3.then ks (fun q e => by have := nz1.out; have := nz2.out; have := HSZ.out; omega)
            have sz4 := kk4.size
            clear hrun2
            refine hK.out _ _ (kk4.to1) (fun hHeld => ?_)
            clear hK K'
            try dsimp only
            have pm := (kk4.block _ (lt_of_block HM.out) (fun e => e)).trans HM.out
            have p1 : v4.cell? ⟨M, 1, none⟩ = some (.slice ac m cc) := cell_at pm 1
            have p2 : v4.frozen? ⟨M, 1, none⟩ = false := free_at pm 1
            clear pm
            refine wpAnyH_take (i := 11) (oi := { dst := some 212, op := Op.fieldAddr 39 (Operand.tmp 3) 1, type := 0, pos := "law.go:99", after := #[{ on := 0, ground := Ground.phase }, { on := 1, ground := Ground.phase }, { on := 2, ground := Ground.phase }, { on := 3, ground := Ground.phase }, { on := 4, ground := Ground.phase }, { on := 5, ground := Ground.phase }, { on := 6, ground := Ground.phase }, { on := 7, ground := Ground.phase }, { on := 8, ground := Ground.phase }, { on := 9, ground := Ground.phase }, { on := 10, ground := Ground.phase }], guard := none }) (v := .pointer (some ⟨M, 1, none⟩)) rfl (by kernel_rfl) (by kernel_rfl) (by kernel_rfl) (fun _ _ _ h => hQ _ _ _ _ _ h) (Or.inl ⟨by rfl, ?_⟩) (by assumption) ?_
            · (intro w' hSw; (try dsimp only at hSw); go_simp)
            dsimp only
            refine wpAnyH_ready (rs := [12]) (by kernel_rfl) (by simp) ?_
            refine AllReadyH.cons (o := { dst := none, op := Op.store 37 (Operand.tmp 212) (Operand.tmp 211), type := 0, pos := "law.go:99", after := #[{ on := 11, ground := Ground.data }, { on := 10, ground := Ground.data }, { on := 10, ground := Ground.chain }, { on := 0, ground := Ground.phase }, { on := 1, ground := Ground.phase }, { on := 2, ground := Ground.phase }, { on := 3, ground := Ground.phase }, { on := 4, ground := Ground.phase }, { on := 5, ground := Ground.phase }, { on := 6, ground := Ground.phase }, { on := 7, ground := Ground.phase }, { on := 8, ground := Ground.phase }, { on := 9, ground := Ground.phase }, { on := 10, ground := Ground.phase }], guard := none }) rfl (fun K' hK => ?_) AllReadyH.nil
            go_simp
            refine hK.out _ _ (kk4.to1.set1 _ _) (fun hHeld => ?_)
            clear hK K'
            try dsimp only
            refine wpAnyH_done (by kernel_rfl) ?_ _
            show K _ _
            rw [put_comm _ 209 201 _ _ (by decide), put_comm _ 209 203 _ _ (by decide), put_comm _ 210 204 _ _ (by decide), put_comm _ 208 201 _ _ (by decide), put_comm _ 208 203 _ _ (by decide), put_comm _ 209 204 _ _ (by decide), put_comm _ 207 201 _ _ (by decide), put_comm _ 207 203 _ _ (by decide), put_comm _ 208 204 _ _ (by decide), put_comm _ 206 201 _ _ (by decide), put_comm _ 206 203 _ _ (by decide), put_comm _ 207 204 _ _ (by decide), put_comm _ 205 201 _ _ (by decide), put_comm _ 205 203 _ _ (by decide), put_comm _ 206 204 _ _ (by decide), put_comm _ 202 201 _ _ (by decide), put_comm _ 205 204 _ _ (by decide)]
            exact HK.out _ _ _ _ _ _ _ _ _ _ _ _ _ ⟨_, _, Lib.hid (Ww.mk2 HM.out kk4 rz4 (by have := nz1.out; have := nz2.out; have := HSZ.out; omega))⟩
          exact AllReadyH.nil
        exact AllReadyH.nil
      exact AllReadyH.nil
    refine AllReadyH.cons (o := { dst := some 210, op := Op.buildSlice 37 1 #[(0, Operand.tmp 209)], type := 37, pos := "law.go:99", after := #[{ on := 8, ground := Ground.data }], guard := none }) rfl (fun K' hK => ?_) ?_
    · skip
      go_simp
      obtain ⟨v2, hv⟩ : ∃ V, V = v1.alloc (.cells #[.int .i64 a, .int .i64 c] TWa) := ⟨_, rfl⟩
      rw [← hv]
      have ks : Keep (fun _ => False) v1 v2 := by rw [hv]; exact (Keep.refl _ _).alloc _
      have nz2 := Lib.hid (show v2.heap.size = v1.heap.size + 1 by rw [hv]; simp)
      have bY2 : v2.heap[v1.heap.size]? = some (.cells #[.int .i64 a, .int .i64 c] TWa (0, 0)) := by rw [hv]; exact block_new v1 _
      clear hv
      have kk2 : Keep (fun _ => False) w2 v2 := kk1.trans ks
      have sz2 := kk2.size
      have bE2 := (ks.block _ (lt_of_block bE1) (fun e => e)).trans bE1
      refine hK.out _ _ (kk2.to1) (fun hHeld => ?_)
      clear hK K'
      try dsimp only
      refine wpAnyH_ready (rs := [2]) (by kernel_rfl) (by simp) ?_
      refine AllReadyH.cons (o := { dst := some 203, op := Op.load 37 (Operand.tmp 202), type := 37, pos := "law.go:99", after := #[{ on := 1, ground := Ground.data }], guard := none }) rfl (fun K' hK => ?_) ?_
      · skip
        have p1 : v2.cell? ⟨M, 1, none⟩ = some (.slice ac m cc) := cell_at ((kk2.block _ (lt_of_block HM.out) (fun e => e)).trans HM.out) 1
        go_simp
        refine hK.out _ _ kk2.to1 (fun hHeld => ?_)
        clear hK K' p1
        try dsimp only
        refine wpAnyH_ready (rs := [3]) (by kernel_rfl) (by simp) ?_
        refine AllReadyH.cons (o := { dst := some 204, op := Op.call { callee := Callee.builtin Builtin.append, args := #[Operand.tmp 201, Operand.tmp 203], argTypes := #[37, 37] }, type := 37, pos := "law.go:99", after := #[{ on := 0, ground := Ground.data }, { on := 2, ground := Ground.data }], guard := none }) rfl (fun K' hK => ?_) ?_
        · skip
          obtain ⟨g1, c1, v3, hrun1, rw3, ks, hg1⟩ := wapp1 bE2 (HCR.out.keep kk2 (fun _ _ e => e.elim)) HM9.out HMM.out
          go_simp
          have sq2 := kk2.size
          have kk3 : Keep (fun _ => False) w2 v3 := kk2.then ks (fun q e => by have := nz1.out; have := nz2.out; have := HSZ.out; omega)
          have sz3 := kk3.size
          have bY3 := (ks.block _ (lt_of_block bY2) (fun e => by have := nz1.out; have := nz2.out; have := HSZ.out; omega)).trans bY2
          clear hrun1
          refine hK.out _ _ (kk3.to1) (fun hHeld => ?_)
          clear hK K'
          try dsimp only
          refine wpAnyH_ready (rs := [10]) (by kernel_rfl) (by simp) ?_
          refine AllReadyH.cons (o := { dst := some 211, op := Op.call { callee := Callee.builtin Builtin.append, args := #[Operand.tmp 204, Operand.tmp 210], argTypes := #[37, 37] }, type := 37, pos := "law.go:99", after := #[{ on := 3, ground := Ground.data }, { on := 9, ground := Ground.data }, { on := 3, ground := Ground.chain }], guard := none }) rfl (fun K' hK => ?_) ?_
          · skip
            obtain ⟨g2, c2, v4, hrun2, rz4, ks, hg2⟩ := wapp2 rw3 (one_way bY3) HM9.out (by omega) rfl
            go_simp
            have sq3 := kk3.size
            have kk4 : Keep (fun _ => False) w2 v4 := kk3.then ks (fun q e => by have := nz1.out; have := nz2.out; have := HSZ.out; omega)
            have sz4 := kk4.size
            clear hrun2
            refine hK.out _ _ (kk4.to1) (fun hHeld => ?_)
            clear hK K'
            try dsimp only
            have pm := (kk4.block _ (lt_of_block HM.out) (fun e => e)).trans HM.out
            have p1 : v4.cell? ⟨M, 1, none⟩ = some (.slice ac m cc) := cell_at pm 1
            have p2 : v4.frozen? ⟨M, 1, none⟩ = false := free_at pm 1
            clear pm
            refine wpAnyH_take (i := 11) (oi := { dst := some 212, op := Op.fieldAddr 39 (Operand.tmp 3) 1, type := 0, pos := "law.go:99", after := #[{ on := 0, ground := Ground.phase }, { on := 1, ground := Ground.phase }, { on := 2, ground := Ground.phase }, { on := 3, ground := Ground.phase }, { on := 4, ground := Ground.phase }, { on := 5, ground := Ground.phase }, { on := 6, ground := Ground.phase }, { on := 7, ground := Ground.phase }, { on := 8, ground := Ground.phase }, { on := 9, ground := Ground.phase }, { on := 10, ground := Ground.phase }], guard := none }) (v := .pointer (some ⟨M, 1, none⟩)) rfl (by kernel_rfl) (by kernel_rfl) (by kernel_rfl) (fun _ _ _ h => hQ _ _ _ _ _ h) (Or.inl ⟨by rfl, ?_⟩) (by assumption) ?_
            · (intro w' hSw; (try dsimp only at hSw); go_simp)
            dsimp only
            refine wpAnyH_ready (rs := [12]) (by kernel_rfl) (by simp) ?_
            refine AllReadyH.cons (o := { dst := none, op := Op.store 37 (Operand.tmp 212) (Operand.tmp 211), type := 0, pos := "law.go:99", after := #[{ on := 11, ground := Ground.data }, { on := 10, ground := Ground.data }, { on := 10, ground := Ground.chain }, { on := 0, ground := Ground.phase }, { on := 1, ground := Ground.phase }, { on := 2, ground := Ground.phase }, { on := 3, ground := Ground.phase }, { on := 4, ground := Ground.phase }, { on := 5, ground := Ground.phase }, { on := 6, ground := Ground.phase }, { on := 7, ground := Ground.phase }, { on := 8, ground := Ground.phase }, { on := 9, ground := Ground.phase }, { on := 10, ground := Ground.phase }], guard := none }) rfl (fun K' hK => ?_) AllReadyH.nil
            go_simp
            refine hK.out _ _ (kk4.to1.set1 _ _) (fun hHeld => ?_)
            clear hK K'
            try dsimp only
            refine wpAnyH_done (by kernel_rfl) ?_ _
            show K _ _
            rw [put_comm _ 209 201 _ _ (by decide), put_comm _ 210 203 _ _ (by decide), put_comm _ 210 204 _ _ (by decide), put_comm _ 208 201 _ _ (by decide), put_comm _ 209 203 _ _ (by decide), put_comm _ 209 204 _ _ (by decide), put_comm _ 207 201 _ _ (by decide), put_comm _ 208 203 _ _ (by decide), put_comm _ 208 204 _ _ (by decide), put_comm _ 206 201 _ _ (by decide), put_comm _ 207 203 _ _ (by decide), put_comm _ 207 204 _ _ (by decide), put_comm _ 205 201 _ _ (by decide), put_comm _ 206 203 _ _ (by decide), put_comm _ 206 204 _ _ (by decide), put_comm _ 202 201 _ _ (by decide), put_comm _ 205 203 _ _ (by decide), put_comm _ 205 204 _ _ (by decide)]
            exact HK.out _ _ _ _ _ _ _ _ _ _ _ _ _ ⟨_, _, Lib.hid (Ww.mk2 HM.out kk4 rz4 (by have := nz1.out; have := nz2.out; have := HSZ.out; omega))⟩
          exact AllReadyH.nil
        exact AllReadyH.nil
      exact AllReadyH.nil
    exact AllReadyH.nil
  refine AllReadyH.cons (o := { dst := some 203, op := Op.load 37 (Operand.tmp 202), type := 37, pos := "law.go:99", after := #[{ on := 1, ground := Ground.data }], guard := none }) rfl (fun K' hK => ?_) ?_
  · skip
    have p1 : wd.cell? ⟨M, 1, none⟩ = some (.slice ac m cc) := cell_at ((kk0.block _ (lt_of_block HM.out) (fun e => e)).trans HM.out) 1
    go_simp
    refine hK.out _ _ kk0.to1 (fun hHeld => ?_)
    clear hK K' p1
    try dsimp only
    refine wpAnyH_ready (rs := [0, 9]) (by kernel_rfl) (by simp) ?_
    refine AllReadyH.cons (o := { dst := some 201, op := Op.buildSlice 37 0 #[], type := 37, pos := "law.go:99", after := #[], guard := none }) rfl (fun K' hK => ?_) ?_
    · skip
      go_simp
      obtain ⟨v1, hv⟩ : ∃ V, V = wd.alloc (.cells #[] TWa) := ⟨_, rfl⟩
      rw [← hv]
      have ks : Keep (fun _ => False) wd v1 := by rw [hv]; exact (Keep.refl _ _).alloc _
      have nz1 := Lib.hid (show v1.heap.size = wd.heap.size + 1 by rw [hv]; simp)
      have bE1 : v1.heap[wd.heap.size]? = some (.cells #[] TWa (0, 0)) := by rw [hv]; exact block_new wd _
      clear hv
      have kk1 : Keep (fun _ => False) w2 v1 := kk0.trans ks
      have sz1 := kk1.size
      refine hK.out _ _ (kk1.to1) (fun hHeld => ?_)
      clear hK K'
      try dsimp only
      refine wpAnyH_ready (rs := [3, 9]) (by kernel_rfl) (by simp) ?_
      refine AllReadyH.cons (o := { dst := some 204, op := Op.call { callee := Callee.builtin Builtin.append, args := #[Operand.tmp 201, Operand.tmp 203], argTypes := #[37, 37] }, type := 37, pos := "law.go:99", after := #[{ on := 0, ground := Ground.data }, { on := 2, ground := Ground.data }], guard := none }) rfl (fun K' hK => ?_) ?_
      · skip
        obtain ⟨g1, c1, v2, hrun1, rw2, ks, hg1⟩ := wapp1 bE1 (HCR.out.keep kk1 (fun _ _ e => e.elim)) HM9.out HMM.out
        go_simp
        have sq1 := kk1.size
        have kk2 : Keep (fun _ => False) w2 v2 := kk1.then ks (fun q e => by have := nz1.out; have := HSZ.out; omega)
        have sz2 := kk2.size
        clear hrun1
        refine hK.out _ _ (kk2.to1) (fun hHeld => ?_)
        clear hK K'
        try dsimp only
        refine wpAnyH_ready (rs := [9]) (by kernel_rfl) (by simp) ?_
        refine AllReadyH.cons (o := { dst := some 210, op := Op.buildSlice 37 1 #[(0, Operand.tmp 209)], type := 37, pos := "law.go:99", after := #[{ on := 8, ground := Ground.data }], guard := none }) rfl (fun K' hK => ?_) ?_
        · skip
          go_simp
          obtain ⟨v3, hv⟩ : ∃ V, V = v2.alloc (.cells #[.int .i64 a, .int .i64 c] TWa) := ⟨_, rfl⟩
          rw [← hv]
          have ks : Keep (fun _ => False) v2 v3 := by rw [hv]; exact (Keep.refl _ _).alloc _
          have nz3 := Lib.hid (show v3.heap.size = v2.heap.size + 1 by rw [hv]; simp)
          have bY3 : v3.heap[v2.heap.size]? = some (.cells #[.int .i64 a, .int .i64 c] TWa (0, 0)) := by rw [hv]; exact block_new v2 _
          clear hv
          have kk3 : Keep (fun _ => False) w2 v3 := kk2.trans ks
          have sz3 := kk3.size
          have rw3 := owns_keep rw2 ks (fun _ _ e => e)
          refine hK.out _ _ (kk3.to1) (fun hHeld => ?_)
          clear hK K'
          try dsimp only
          refine wpAnyH_ready (rs := [10]) (by kernel_rfl) (by simp) ?_
          refine AllReadyH.cons (o := { dst := some 211, op := Op.call { callee := Callee.builtin Builtin.append, args := #[Operand.tmp 204, Operand.tmp 210], argTypes := #[37, 37] }, type := 37, pos := "law.go:99", after := #[{ on := 3, ground := Ground.data }, { on := 9, ground := Ground.data }, { on := 3, ground := Ground.chain }], guard := none }) rfl (fun K' hK => ?_) ?_
          · skip
            obtain ⟨g2, c2, v4, hrun2, rz4, ks, hg2⟩ := wapp2 rw3 (one_way bY3) HM9.out (by omega) rfl
            go_simp
            have sq3 := kk3.size
            have kk4 : Keep (fun _ => False) w2 v4 := kk3.then ks (fun q e => by have := nz1.out; have := nz3.out; have := HSZ.out; omega)
            have sz4 := kk4.size
            clear hrun2
            refine hK.out _ _ (kk4.to1) (fun hHeld => ?_)
            clear hK K'
            try dsimp only
            have pm := (kk4.block _ (lt_of_block HM.out) (fun e => e)).trans HM.out
            have p1 : v4.cell? ⟨M, 1, none⟩ = some (.slice ac m cc) := cell_at pm 1
            have p2 : v4.frozen? ⟨M, 1, none⟩ = false := free_at pm 1
            clear pm
            refine wpAnyH_take (i := 11) (oi := { dst := some 212, op := Op.fieldAddr 39 (Operand.tmp 3) 1, type := 0, pos := "law.go:99", after := #[{ on := 0, ground := Ground.phase }, { on := 1, ground := Ground.phase }, { on := 2, ground := Ground.phase }, { on := 3, ground := Ground.phase }, { on := 4, ground := Ground.phase }, { on := 5, ground := Ground.phase }, { on := 6, ground := Ground.phase }, { on := 7, ground := Ground.phase }, { on := 8, ground := Ground.phase }, { on := 9, ground := Ground.phase }, { on := 10, ground := Ground.phase }], guard := none }) (v := .pointer (some ⟨M, 1, none⟩)) rfl (by kernel_rfl) (by kernel_rfl) (by kernel_rfl) (fun _ _ _ h => hQ _ _ _ _ _ h) (Or.inl ⟨by rfl, ?_⟩) (by assumption) ?_
            · (intro w' hSw; (try dsimp only at hSw); go_simp)
            dsimp only
            refine wpAnyH_ready (rs := [12]) (by kernel_rfl) (by simp) ?_
            refine AllReadyH.cons (o := { dst := none, op := Op.store 37 (Operand.tmp 212) (Operand.tmp 211), type := 0, pos := "law.go:99", after := #[{ on := 11, ground := Ground.data }, { on := 10, ground := Ground.data }, { on := 10, ground := Ground.chain }, { on := 0, ground := Ground.phase }, { on := 1, ground := Ground.phase }, { on := 2, ground := Ground.phase }, { on := 3, ground := Ground.phase }, { on := 4, ground := Ground.phase }, { on := 5, ground := Ground.phase }, { on := 6, ground := Ground.phase }, { on := 7, ground := Ground.phase }, { on := 8, ground := Ground.phase }, { on := 9, ground := Ground.phase }, { on := 10, ground := Ground.phase }], guard := none }) rfl (fun K' hK => ?_) AllReadyH.nil
            go_simp
            refine hK.out _ _ (kk4.to1.set1 _ _) (fun hHeld => ?_)
            clear hK K'
            try dsimp only
            refine wpAnyH_done (by kernel_rfl) ?_ _
            show K _ _
            rw [put_comm _ 209 203 _ _ (by decide), put_comm _ 209 201 _ _ (by decide), put_comm _ 209 204 _ _ (by decide), put_comm _ 208 203 _ _ (by decide), put_comm _ 208 201 _ _ (by decide), put_comm _ 208 204 _ _ (by decide), put_comm _ 207 203 _ _ (by decide), put_comm _ 207 201 _ _ (by decide), put_comm _ 207 204 _ _ (by decide), put_comm _ 206 203 _ _ (by decide), put_comm _ 206 201 _ _ (by decide), put_comm _ 206 204 _ _ (by decide), put_comm _ 205 203 _ _ (by decide), put_comm _ 205 201 _ _ (by decide), put_comm _ 205 204 _ _ (by decide), put_comm _ 203 201 _ _ (by decide), put_comm _ 202 201 _ _ (by decide)]
            exact HK.out _ _ _ _ _ _ _ _ _ _ _ _ _ ⟨_, _, Lib.hid (Ww.mk2 HM.out kk4 rz4 (by have := nz1.out; have := nz3.out; have := HSZ.out; omega))⟩
          exact AllReadyH.nil
        exact AllReadyH.nil
      refine AllReadyH.cons (o := { dst := some 210, op := Op.buildSlice 37 1 #[(0, Operand.tmp 209)], type := 37, pos := "law.go:99", after := #[{ on := 8, ground := Ground.data }], guard := none }) rfl (fun K' hK => ?_) ?_
      · skip
        go_simp
        obtain ⟨v2, hv⟩ : ∃ V, V = v1.alloc (.cells #[.int .i64 a, .int .i64 c] TWa) := ⟨_, rfl⟩
        rw [← hv]
        have ks : Keep (fun _ => False) v1 v2 := by rw [hv]; exact (Keep.refl _ _).alloc _
        have nz2 := Lib.hid (show v2.heap.size = v1.heap.size + 1 by rw [hv]; simp)
        have bY2 : v2.heap[v1.heap.size]? = some (.cells #[.int .i64 a, .int .i64 c] TWa (0, 0)) := by rw [hv]; exact block_new v1 _
        clear hv
        have kk2 : Keep (fun _ => False) w2 v2 := kk1.trans ks
        have sz2 := kk2.size
        have bE2 := (ks.block _ (lt_of_block bE1) (fun e => e)).trans bE1
        refine hK.out _ _ (kk2.to1) (fun hHeld => ?_)
        clear hK K'
        try dsimp only
        refine wpAnyH_ready (rs := [3]) (by kernel_rfl) (by simp) ?_
        refine AllReadyH.cons (o := { dst := some 204, op := Op.call { callee := Callee.builtin Builtin.append, args := #[Operand.tmp 201, Operand.tmp 203], argTypes := #[37, 37] }, type := 37, pos := "law.go:99", after := #[{ on := 0, ground := Ground.data }, { on := 2, ground := Ground.data }], guard := none }) rfl (fun K' hK => ?_) ?_
        · skip
          obtain ⟨g1, c1, v3, hrun1, rw3, ks, hg1⟩ := wapp1 bE2 (HCR.out.keep kk2 (fun _ _ e => e.elim)) HM9.out HMM.out
          go_simp
          have sq2 := kk2.size
          have kk3 : Keep (fun _ => False) w2 v3 := kk2.then ks (fun q e => by have := nz1.out; have := nz2.out; have := HSZ.out; omega)
          have sz3 := kk3.size
          have bY3 := (ks.block _ (lt_of_block bY2) (fun e => by have := nz1.out; have := nz2.out; have := HSZ.out; omega)).trans bY2
          clear hrun1
          refine hK.out _ _ (kk3.to1) (fun hHeld => ?_)
          clear hK K'
          try dsimp only
          refine wpAnyH_ready (rs := [10]) (by kernel_rfl) (by simp) ?_
          refine AllReadyH.cons (o := { dst := some 211, op := Op.call { callee := Callee.builtin Builtin.append, args := #[Operand.tmp 204, Operand.tmp 210], argTypes := #[37, 37] }, type := 37, pos := "law.go:99", after := #[{ on := 3, ground := Ground.data }, { on := 9, ground := Ground.data }, { on := 3, ground := Ground.chain }], guard := none }) rfl (fun K' hK => ?_) ?_
          · skip
            obtain ⟨g2, c2, v4, hrun2, rz4, ks, hg2⟩ := wapp2 rw3 (one_way bY3) HM9.out (by omega) rfl
            go_simp
            have sq3 := kk3.size
            have kk4 : Keep (fun _ => False) w2 v4 := kk3.then ks (fun q e => by have := nz1.out; have := nz2.out; have := HSZ.out; omega)
            have sz4 := kk4.size
            clear hrun2
            refine hK.out _ _ (kk4.to1) (fun hHeld => ?_)
            clear hK K'
            try dsimp only
            have pm := (kk4.block _ (lt_of_block HM.out) (fun e => e)).trans HM.out
            have p1 : v4.cell? ⟨M, 1, none⟩ = some (.slice ac m cc) := cell_at pm 1
            have p2 : v4.frozen? ⟨M, 1, none⟩ = false := free_at pm 1
            clear pm
            refine wpAnyH_take (i := 11) (oi := { dst := some 212, op := Op.fieldAddr 39 (Operand.tmp 3) 1, type := 0, pos := "law.go:99", after := #[{ on := 0, ground := Ground.phase }, { on := 1, ground := Ground.phase }, { on := 2, ground := Ground.phase }, { on := 3, ground := Ground.phase }, { on := 4, ground := Ground.phase }, { on := 5, ground := Ground.phase }, { on := 6, ground := Ground.phase }, { on := 7, ground := Ground.phase }, { on := 8, ground := Ground.phase }, { on := 9, ground := Ground.phase }, { on := 10, ground := Ground.phase }], guard := none }) (v := .pointer (some ⟨M, 1, none⟩)) rfl (by kernel_rfl) (by kernel_rfl) (by kernel_rfl) (fun _ _ _ h => hQ _ _ _ _ _ h) (Or.inl ⟨by rfl, ?_⟩) (by assumption) ?_
            · (intro w' hSw; (try dsimp only at hSw); go_simp)
            dsimp only
            refine wpAnyH_ready (rs := [12]) (by kernel_rfl) (by simp) ?_
            refine AllReadyH.cons (o := { dst := none, op := Op.store 37 (Operand.tmp 212) (Operand.tmp 211), type := 0, pos := "law.go:99", after := #[{ on := 11, ground := Ground.data }, { on := 10, ground := Ground.data }, { on := 10, ground := Ground.chain }, { on := 0, ground := Ground.phase }, { on := 1, ground := Ground.phase }, { on := 2, ground := Ground.phase }, { on := 3, ground := Ground.phase }, { on := 4, ground := Ground.phase }, { on := 5, ground := Ground.phase }, { on := 6, ground := Ground.phase }, { on := 7, ground := Ground.phase }, { on := 8, ground := Ground.phase }, { on := 9, ground := Ground.phase }, { on := 10, ground := Ground.phase }], guard := none }) rfl (fun K' hK => ?_) AllReadyH.nil
            go_simp
            refine hK.out _ _ (kk4.to1.set1 _ _) (fun hHeld => ?_)
            clear hK K'
            try dsimp only
            refine wpAnyH_done (by kernel_rfl) ?_ _
            show K _ _
            rw [put_comm _ 209 203 _ _ (by decide), put_comm _ 209 201 _ _ (by decide), put_comm _ 210 204 _ _ (by decide), put_comm _ 208 203 _ _ (by decide), put_comm _ 208 201 _ _ (by decide), put_comm _ 209 204 _ _ (by decide), put_comm _ 207 203 _ _ (by decide), put_comm _ 207 201 _ _ (by decide), put_comm _ 208 204 _ _ (by decide), put_comm _ 206 203 _ _ (by decide), put_comm _ 206 201 _ _ (by decide), put_comm _ 207 204 _ _ (by decide), put_comm _ 205 203 _ _ (by decide), put_comm _ 205 201 _ _ (by decide), put_comm _ 206 204 _ _ (by decide), put_comm _ 203 201 _ _ (by decide), put_comm _ 205 204 _ _ (by decide), put_comm _ 202 201 _ _ (by decide)]
            exact HK.out _ _ _ _ _ _ _ _ _ _ _ _ _ ⟨_, _, Lib.hid (Ww.mk2 HM.out kk4 rz4 (by have := nz1.out; have := nz2.out; have := HSZ.out; omega))⟩
          exact AllReadyH.nil
        exact AllReadyH.nil
      exact AllReadyH.nil
    refine AllReadyH.cons (o := { dst := some 210, op := Op.buildSlice 37 1 #[(0, Operand.tmp 209)], type := 37, pos := "law.go:99", after := #[{ on := 8, ground := Ground.data }], guard := none }) rfl (fun K' hK => ?_) ?_
    · skip
      go_simp
      obtain ⟨v1, hv⟩ : ∃ V, V = wd.alloc (.cells #[.int .i64 a, .int .i64 c] TWa) := ⟨_, rfl⟩
      rw [← hv]
      have ks : Keep (fun _ => False) wd v1 := by rw [hv]; exact (Keep.refl _ _).alloc _
      have nz1 := Lib.hid (show v1.heap.size = wd.heap.size + 1 by rw [hv]; simp)
      have bY1 : v1.heap[wd.heap.size]? = some (.cells #[.int .i64 a, .int .i64 c] TWa (0, 0)) := by rw [hv]; exact block_new wd _
      clear hv
      have kk1 : Keep (fun _ => False) w2 v1 := kk0.trans ks
      have sz1 := kk1.size
      refine hK.out _ _ (kk1.to1) (fun hHeld => ?_)
      clear hK K'
      try dsimp only
      refine wpAnyH_ready (rs := [0]) (by kernel_rfl) (by simp) ?_
      refine AllReadyH.cons (o := { dst := some 201, op := Op.buildSlice 37 0 #[], type := 37, pos := "law.go:99", after := #[], guard := none }) rfl (fun K' hK => ?_) ?_
      · skip
        go_simp
        obtain ⟨v2, hv⟩ : ∃ V, V = v1.alloc (.cells #[] TWa) := ⟨_, rfl⟩
        rw [← hv]
        have ks : Keep (fun _ => False) v1 v2 := by rw [hv]; exact (Keep.refl _ _).alloc _
        have nz2 := Lib.hid (show v2.heap.size = v1.heap.size + 1 by rw [hv]; simp)
        have bE2 : v2.heap[v1.heap.size]? = some (.cells #[] TWa (0, 0)) := by rw [hv]; exact block_new v1 _
        clear hv
        have kk2 : Keep (fun _ => False) w2 v2 := kk1.trans ks
        have sz2 := kk2.size
        have bY2 := (ks.block _ (lt_of_block bY1) (fun e => e)).trans bY1
        refine hK.out _ _ (kk2.to1) (fun hHeld => ?_)
        clear hK K'
        try dsimp only
        refine wpAnyH_ready (rs := [3]) (by kernel_rfl) (by simp) ?_
        refine AllReadyH.cons (o := { dst := some 204, op := Op.call { callee := Callee.builtin Builtin.append, args := #[Operand.tmp 201, Operand.tmp 203], argTypes := #[37, 37] }, type := 37, pos := "law.go:99", after := #[{ on := 0, ground := Ground.data }, { on := 2, ground := Ground.data }], guard := none }) rfl (fun K' hK => ?_) ?_
        · skip
          obtain ⟨g1, c1, v3, hrun1, rw3, ks, hg1⟩ := wapp1 bE2 (HCR.out.keep kk2 (fun _ _ e => e.elim)) HM9.out HMM.out
          go_simp
          have sq2 := kk2.size
          have kk3 : Keep (fun _ => False) w2 v3 := kk2.then ks (fun q e => by have := nz1.out; have := nz2.out; have := HSZ.out; omega)
          have sz3 := kk3.size
          have bY3 := (ks.block _ (lt_of_block bY2) (fun e => by have := nz1.out; have := nz2.out; have := HSZ.out; omega)).trans bY2
          clear hrun1
          refine hK.out _ _ (kk3.to1) (fun hHeld => ?_)
          clear hK K'
          try dsimp only
          refine wpAnyH_ready (rs := [10]) (by kernel_rfl) (by simp) ?_
          refine AllReadyH.cons (o := { dst := some 211, op := Op.call { callee := Callee.builtin Builtin.append, args := #[Operand.tmp 204, Operand.tmp 210], argTypes := #[37, 37] }, type := 37, pos := "law.go:99", after := #[{ on := 3, ground := Ground.data }, { on := 9, ground := Ground.data }, { on := 3, ground := Ground.chain }], guard := none }) rfl (fun K' hK => ?_) ?_
          · skip
            obtain ⟨g2, c2, v4, hrun2, rz4, ks, hg2⟩ := wapp2 rw3 (one_way bY3) HM9.out (by omega) rfl
            go_simp
            have sq3 := kk3.size
            have kk4 : Keep (fun _ => False) w2 v4 := kk3.then ks (fun q e => by have := nz1.out; have := nz2.out; have := HSZ.out; omega)
            have sz4 := kk4.size
            clear hrun2
            refine hK.out _ _ (kk4.to1) (fun hHeld => ?_)
            clear hK K'
            try dsimp only
            have pm := (kk4.block _ (lt_of_block HM.out) (fun e => e)).trans HM.out
            have p1 : v4.cell? ⟨M, 1, none⟩ = some (.slice ac m cc) := cell_at pm 1
            have p2 : v4.frozen? ⟨M, 1, none⟩ = false := free_at pm 1
            clear pm
            refine wpAnyH_take (i := 11) (oi := { dst := some 212, op := Op.fieldAddr 39 (Operand.tmp 3) 1, type := 0, pos := "law.go:99", after := #[{ on := 0, ground := Ground.phase }, { on := 1, ground := Ground.phase }, { on := 2, ground := Ground.phase }, { on := 3, ground := Ground.phase }, { on := 4, ground := Ground.phase }, { on := 5, ground := Ground.phase }, { on := 6, ground := Ground.phase }, { on := 7, ground := Ground.phase }, { on := 8, ground := Ground.phase }, { on := 9, ground := Ground.phase }, { on := 10, ground := Ground.phase }], guard := none }) (v := .pointer (some ⟨M, 1, none⟩)) rfl (by kernel_rfl) (by kernel_rfl) (by kernel_rfl) (fun _ _ _ h => hQ _ _ _ _ _ h) (Or.inl ⟨by rfl, ?_⟩) (by assumption) ?_
            · (intro w' hSw; (try dsimp only at hSw); go_simp)
            dsimp only
            refine wpAnyH_ready (rs := [12]) (by kernel_rfl) (by simp) ?_
            refine AllReadyH.cons (o := { dst := none, op := Op.store 37 (Operand.tmp 212) (Operand.tmp 211), type := 0, pos := "law.go:99", after := #[{ on := 11, ground := Ground.data }, { on := 10, ground := Ground.data }, { on := 10, ground := Ground.chain }, { on := 0, ground := Ground.phase }, { on := 1, ground := Ground.phase }, { on := 2, ground := Ground.phase }, { on := 3, ground := Ground.phase }, { on := 4, ground := Ground.phase }, { on := 5, ground := Ground.phase }, { on := 6, ground := Ground.phase }, { on := 7, ground := Ground.phase }, { on := 8, ground := Ground.phase }, { on := 9, ground := Ground.phase }, { on := 10, ground := Ground.phase }], guard := none }) rfl (fun K' hK => ?_) AllReadyH.nil
            go_simp
            refine hK.out _ _ (kk4.to1.set1 _ _) (fun hHeld => ?_)
            clear hK K'
            try dsimp only
            refine wpAnyH_done (by kernel_rfl) ?_ _
            show K _ _
            rw [put_comm _ 209 203 _ _ (by decide), put_comm _ 210 201 _ _ (by decide), put_comm _ 210 204 _ _ (by decide), put_comm _ 208 203 _ _ (by decide), put_comm _ 209 201 _ _ (by decide), put_comm _ 209 204 _ _ (by decide), put_comm _ 207 203 _ _ (by decide), put_comm _ 208 201 _ _ (by decide), put_comm _ 208 204 _ _ (by decide), put_comm _ 206 203 _ _ (by decide), put_comm _ 207 201 _ _ (by decide), put_comm _ 207 204 _ _ (by decide), put_comm _ 205 203 _ _ (by decide), put_comm _ 206 201 _ _ (by decide), put_comm _ 206 204 _ _ (by decide), put_comm _ 205 201 _ _ (by decide), put_comm _ 205 204 _ _ (by decide), put_comm _ 203 201 _ _ (by decide), put_comm _ 202 201 _ _ (by decide)]
            exact HK.out _ _ _ _ _ _ _ _ _ _ _ _ _ ⟨_, _, Lib.hid (Ww.mk2 HM.out kk4 rz4 (by have := nz1.out; have := nz2.out; have := HSZ.out; omega))⟩
          exact AllReadyH.nil
        exact AllReadyH.nil
      exact AllReadyH.nil
    exact AllReadyH.nil
  refine AllReadyH.cons (o := { dst := some 210, op := Op.buildSlice 37 1 #[(0, Operand.tmp 209)], type := 37, pos := "law.go:99", after := #[{ on := 8, ground := Ground.data }], guard := none }) rfl (fun K' hK => ?_) ?_
  · skip
    go_simp
    obtain ⟨v1, hv⟩ : ∃ V, V = wd.alloc (.cells #[.int .i64 a, .int .i64 c] TWa) := ⟨_, rfl⟩
    rw [← hv]
    have ks : Keep (fun _ => False) wd v1 := by rw [hv]; exact (Keep.refl _ _).alloc _
    have nz1 := Lib.hid (show v1.heap.size = wd.heap.size + 1 by rw [hv]; simp)
    have bY1 : v1.heap[wd.heap.size]? = some (.cells #[.int .i64 a, .int .i64 c] TWa (0, 0)) := by rw [hv]; exact block_new wd _
    clear hv
    have kk1 : Keep (fun _ => False) w2 v1 := kk0.trans ks
    have sz1 := kk1.size
    refine hK.out _ _ (kk1.to1) (fun hHeld => ?_)
    clear hK K'
    try dsimp only
    refine wpAnyH_ready (rs := [0, 2]) (by kernel_rfl) (by simp) ?_
    refine AllReadyH.cons (o := { dst := some 201, op := Op.buildSlice 37 0 #[], type := 37, pos := "law.go:99", after := #[], guard := none }) rfl (fun K' hK => ?_) ?_
    · skip
      go_simp
      obtain ⟨v2, hv⟩ : ∃ V, V = v1.alloc (.cells #[] TWa) := ⟨_, rfl⟩
      rw [← hv]
      have ks : Keep (fun _ => False) v1 v2 := by rw [hv]; exact (Keep.refl _ _).alloc _
      have nz2 := Lib.hid (show v2.heap.size = v1.heap.size + 1 by rw [hv]; simp)
      have bE2 : v2.heap[v1.heap.size]? = some (.cells #[] TWa (0, 0)) := by rw [hv]; exact block_new v1 _
      clear hv
      have kk2 : Keep (fun _ => False) w2 v2 := kk1.trans ks
      have sz2 := kk2.size
      have bY2 := (ks.block _ (lt_of_block bY1) (fun e => e)).trans bY1
      refine hK.out _ _ (kk2.to1) (fun hHeld => ?_)
      clear hK K'
      try dsimp only
      refine wpAnyH_ready (rs := [2]) (by kernel_rfl) (by simp) ?_
      refine AllReadyH.cons (o := { dst := some 203, op := Op.load 37 (Operand.tmp 202), type := 37, pos := "law.go:99", after := #[{ on := 1, ground := Ground.data }], guard := none }) rfl (fun K' hK => ?_) ?_
      · skip
        have p1 : v2.cell? ⟨M, 1, none⟩ = some (.slice ac m cc) := cell_at ((kk2.block _ (lt_of_block HM.out) (fun e => e)).trans HM.out) 1
        go_simp
        refine hK.out _ _ kk2.to1 (fun hHeld => ?_)
        clear hK K' p1
        try dsimp only
        refine wpAnyH_ready (rs := [3]) (by kernel_rfl) (by simp) ?_
        refine AllReadyH.cons (o := { dst := some 204, op := Op.call { callee := Callee.builtin Builtin.append, args := #[Operand.tmp 201, Operand.tmp 203], argTypes := #[37, 37] }, type := 37, pos := "law.go:99", after := #[{ on := 0, ground := Ground.data }, { on := 2, ground := Ground.data }], guard := none }) rfl (fun K' hK => ?_) ?_
        · skip
          obtain ⟨g1, c1, v3, hrun1, rw3, ks, hg1⟩ := wapp1 bE2 (HCR.out.keep kk2 (fun _ _ e => e.elim)) HM9.out HMM.out
          go_simp
          have sq2 := kk2.size
          have kk3 : Keep (fun _ => False) w2 v3 := kk2.then ks (fun q e => by have := nz1.out; have := nz2.out; have := HSZ.out; omega)
          have sz3 := kk3.size
          have bY3 := (ks.block _ (lt_of_block bY2) (fun e => by have := nz1.out; have := nz2.out; have := HSZ.out; omega)).trans bY2
          clear hrun1
          refine hK.out _ _ (kk3.to1) (fun hHeld => ?_)
          clear hK K'
          try dsimp only
          refine wpAnyH_ready (rs := [10]) (by kernel_rfl) (by simp) ?_
          refine AllReadyH.cons (o := { dst := some 211, op := Op.call { callee := Callee.builtin Builtin.append, args := #[Operand.tmp 204, Operand.tmp 210], argTypes := #[37, 37] }, type := 37, pos := "law.go:99", after := #[{ on := 3, ground := Ground.data }, { on := 9, ground := Ground.data }, { on := 3, ground := Ground.chain }], guard := none }) rfl (fun K' hK => ?_) ?_
          · skip
            obtain ⟨g2, c2, v4, hrun2, rz4, ks, hg2⟩ := wapp2 rw3 (one_way bY3) HM9.out (by omega) rfl
            go_simp
            have sq3 := kk3.size
            have kk4 : Keep (fun _ => False) w2 v4 := kk3.then ks (fun q e => by have := nz1.out; have := nz2.out; have := HSZ.out; omega)
            have sz4 := kk4.size
            clear hrun2
            refine hK.out _ _ (kk4.to1) (fun hHeld => ?_)
            clear hK K'
            try dsimp only
            have pm := (kk4.block _ (lt_of_block HM.out) (fun e => e)).trans HM.out
            have p1 : v4.cell? ⟨M, 1, none⟩ = some (.slice ac m cc) := cell_at pm 1
            have p2 : v4.frozen? ⟨M, 1, none⟩ = false := free_at pm 1
            clear pm
            refine wpAnyH_take (i := 11) (oi := { dst := some 212, op := Op.fieldAddr 39 (Operand.tmp 3) 1, type := 0, pos := "law.go:99", after := #[{ on := 0, ground := Ground.phase }, { on := 1, ground := Ground.phase }, { on := 2, ground := Ground.phase }, { on := 3, ground := Ground.phase }, { on := 4, ground := Ground.phase }, { on := 5, ground := Ground.phase }, { on := 6, ground := Ground.phase }, { on := 7, ground := Ground.phase }, { on := 8, ground := Ground.phase }, { on := 9, ground := Ground.phase }, { on := 10, ground := Ground.phase }], guard := none }) (v := .pointer (some ⟨M, 1, none⟩)) rfl (by kernel_rfl) (by kernel_rfl) (by kernel_rfl) (fun _ _ _ h => hQ _ _ _ _ _ h) (Or.inl ⟨by rfl, ?_⟩) (by assumption) ?_
            · (intro w' hSw; (try dsimp only at hSw); go_simp)
            dsimp only
            refine wpAnyH_ready (rs := [12]) (by kernel_rfl) (by simp) ?_
            refine AllReadyH.cons (o := { dst := none, op := Op.store 37 (Operand.tmp 212) (Operand.tmp 211), type := 0, pos := "law.go:99", after := #[{ on := 11, ground := Ground.data }, { on := 10, ground := Ground.data }, { on := 10, ground := Ground.chain }, { on := 0, ground := Ground.phase }, { on := 1, ground := Ground.phase }, { on := 2, ground := Ground.phase }, { on := 3, ground := Ground.phase }, { on := 4, ground := Ground.phase }, { on := 5, ground := Ground.phase }, { on := 6, ground := Ground.phase }, { on := 7, ground := Ground.phase }, { on := 8, ground := Ground.phase }, { on := 9, ground := Ground.phase }, { on := 10, ground := Ground.phase }], guard := none }) rfl (fun K' hK => ?_) AllReadyH.nil
            go_simp
            refine hK.out _ _ (kk4.to1.set1 _ _) (fun hHeld => ?_)
            clear hK K'
            try dsimp only
            refine wpAnyH_done (by kernel_rfl) ?_ _
            show K _ _
            rw [put_comm _ 210 201 _ _ (by decide), put_comm _ 210 203 _ _ (by decide), put_comm _ 210 204 _ _ (by decide), put_comm _ 209 201 _ _ (by decide), put_comm _ 209 203 _ _ (by decide), put_comm _ 209 204 _ _ (by decide), put_comm _ 208 201 _ _ (by decide), put_comm _ 208 203 _ _ (by decide), put_comm _ 208 204 _ _ (by decide), put_comm _ 207 201 _ _ (by decide), put_comm _ 207 203 _ _ (by decide), put_comm _ 207 204 _ _ (by decide), put_comm _ 206 201 _ _ (by decide), put_comm _ 206 203 _ _ (by decide), put_comm _ 206 204 _ _ (by decide), put_comm _ 205 201 _ _ (by decide), put_comm _ 205 203 _ _ (by decide), put_comm _ 205 204 _ _ (by decide), put_comm _ 202 201 _ _ (by decide)]
            exact HK.out _ _ _ _ _ _ _ _ _ _ _ _ _ ⟨_, _, Lib.hid (Ww.mk2 HM.out kk4 rz4 (by have := nz1.out; have := nz2.out; have := HSZ.out; omega))⟩
          exact AllReadyH.nil
        exact AllReadyH.nil
      exact AllReadyH.nil
    refine AllReadyH.cons (o := { dst := some 203, op := Op.load 37 (Operand.tmp 202), type := 37, pos := "law.go:99", after := #[{ on := 1, ground := Ground.data }], guard := none }) rfl (fun K' hK => ?_) ?_
    · skip
      have p1 : v1.cell? ⟨M, 1, none⟩ = some (.slice ac m cc) := cell_at ((kk1.block _ (lt_of_block HM.out) (fun e => e)).trans HM.out) 1
      go_simp
      refine hK.out _ _ kk1.to1 (fun hHeld => ?_)
      clear hK K' p1
      try dsimp only
      refine wpAnyH_ready (rs := [0]) (by kernel_rfl) (by simp) ?_
      refine AllReadyH.cons (o := { dst := some 201, op := Op.buildSlice 37 0 #[], type := 37, pos := "law.go:99", after := #[], guard := none }) rfl (fun K' hK => ?_) ?_
      · skip
        go_simp
        obtain ⟨v2, hv⟩ : ∃ V, V = v1.alloc (.cells #[] TWa) := ⟨_, rfl⟩
        rw [← hv]
        have ks : Keep (fun _ => False) v1 v2 := by rw [hv]; exact (Keep.refl _ _).alloc _
        have nz2 := Lib.hid (show v2.heap.size = v1.heap.size + 1 by rw [hv]; simp)
        have bE2 : v2.heap[v1.heap.size]? = some (.cells #[] TWa (0, 0)) := by rw [hv]; exact block_new v1 _
        clear hv
        have kk2 : Keep (fun _ => False) w2 v2 := kk1.trans ks
        have sz2 := kk2.size
        have bY2 := (ks.block _ (lt_of_block bY1) (fun e => e)).trans bY1
        refine hK.out _ _ (kk2.to1) (fun hHeld => ?_)
        clear hK K'
        try dsimp only
        refine wpAnyH_ready (rs := [3]) (by kernel_rfl) (by simp) ?_
        refine AllReadyH.cons (o := { dst := some 204, op := Op.call { callee := Callee.builtin Builtin.append, args := #[Operand.tmp 201, Operand.tmp 203], argTypes := #[37, 37] }, type := 37, pos := "law.go:99", after := #[{ on := 0, ground := Ground.data }, { on := 2, ground := Ground.data }], guard := none }) rfl (fun K' hK => ?_) ?_
        · skip
          obtain ⟨g1, c1, v3, hrun1, rw3, ks, hg1⟩ := wapp1 bE2 (HCR.out.keep kk2 (fun _ _ e => e.elim)) HM9.out HMM.out
          go_simp
          have sq2 := kk2.size
          have kk3 : Keep (fun _ => False) w2 v3 := kk2.then ks (fun q e => by have := nz1.out; have := nz2.out; have := HSZ.out; omega)
          have sz3 := kk3.size
          have bY3 := (ks.block _ (lt_of_block bY2) (fun e => by have := nz1.out; have := nz2.out; have := HSZ.out; omega)).trans bY2
          clear hrun1
          refine hK.out _ _ (kk3.to1) (fun hHeld => ?_)
          clear hK K'
          try dsimp only
          refine wpAnyH_ready (rs := [10]) (by kernel_rfl) (by simp) ?_
          refine AllReadyH.cons (o := { dst := some 211, op := Op.call { callee := Callee.builtin Builtin.append, args := #[Operand.tmp 204, Operand.tmp 210], argTypes := #[37, 37] }, type := 37, pos := "law.go:99", after := #[{ on := 3, ground := Ground.data }, { on := 9, ground := Ground.data }, { on := 3, ground := Ground.chain }], guard := none }) rfl (fun K' hK => ?_) ?_
          · skip
            obtain ⟨g2, c2, v4, hrun2, rz4, ks, hg2⟩ := wapp2 rw3 (one_way bY3) HM9.out (by omega) rfl
            go_simp
            have sq3 := kk3.size
            have kk4 : Keep (fun _ => False) w2 v4 := kk3.then ks (fun q e => by have := nz1.out; have := nz2.out; have := HSZ.out; omega)
            have sz4 := kk4.size
            clear hrun2
            refine hK.out _ _ (kk4.to1) (fun hHeld => ?_)
            clear hK K'
            try dsimp only
            have pm := (kk4.block _ (lt_of_block HM.out) (fun e => e)).trans HM.out
            have p1 : v4.cell? ⟨M, 1, none⟩ = some (.slice ac m cc) := cell_at pm 1
            have p2 : v4.frozen? ⟨M, 1, none⟩ = false := free_at pm 1
            clear pm
            refine wpAnyH_take (i := 11) (oi := { dst := some 212, op := Op.fieldAddr 39 (Operand.tmp 3) 1, type := 0, pos := "law.go:99", after := #[{ on := 0, ground := Ground.phase }, { on := 1, ground := Ground.phase }, { on := 2, ground := Ground.phase }, { on := 3, ground := Ground.phase }, { on := 4, ground := Ground.phase }, { on := 5, ground := Ground.phase }, { on := 6, ground := Ground.phase }, { on := 7, ground := Ground.phase }, { on := 8, ground := Ground.phase }, { on := 9, ground := Ground.phase }, { on := 10, ground := Ground.phase }], guard := none }) (v := .pointer (some ⟨M, 1, none⟩)) rfl (by kernel_rfl) (by kernel_rfl) (by kernel_rfl) (fun _ _ _ h => hQ _ _ _ _ _ h) (Or.inl ⟨by rfl, ?_⟩) (by assumption) ?_
            · (intro w' hSw; (try dsimp only at hSw); go_simp)
            dsimp only
            refine wpAnyH_ready (rs := [12]) (by kernel_rfl) (by simp) ?_
            refine AllReadyH.cons (o := { dst := none, op := Op.store 37 (Operand.tmp 212) (Operand.tmp 211), type := 0, pos := "law.go:99", after := #[{ on := 11, ground := Ground.data }, { on := 10, ground := Ground.data }, { on := 10, ground := Ground.chain }, { on := 0, ground := Ground.phase }, { on := 1, ground := Ground.phase }, { on := 2, ground := Ground.phase }, { on := 3, ground := Ground.phase }, { on := 4, ground := Ground.phase }, { on := 5, ground := Ground.phase }, { on := 6, ground := Ground.phase }, { on := 7, ground := Ground.phase }, { on := 8, ground := Ground.phase }, { on := 9, ground := Ground.phase }, { on := 10, ground := Ground.phase }], guard := none }) rfl (fun K' hK => ?_) AllReadyH.nil
            go_simp
            refine hK.out _ _ (kk4.to1.set1 _ _) (fun hHeld => ?_)
            clear hK K'
            try dsimp only
            refine wpAnyH_done (by kernel_rfl) ?_ _
            show K _ _
            rw [put_comm _ 210 203 _ _ (by decide), put_comm _ 210 201 _ _ (by decide), put_comm _ 210 204 _ _ (by decide), put_comm _ 209 203 _ _ (by decide), put_comm _ 209 201 _ _ (by decide), put_comm _ 209 204 _ _ (by decide), put_comm _ 208 203 _ _ (by decide), put_comm _ 208 201 _ _ (by decide), put_comm _ 208 204 _ _ (by decide), put_comm _ 207 203 _ _ (by decide), put_comm _ 207 201 _ _ (by decide), put_comm _ 207 204 _ _ (by decide), put_comm _ 206 203 _ _ (by decide), put_comm _ 206 201 _ _ (by decide), put_comm _ 206 204 _ _ (by decide), put_comm _ 205 203 _ _ (by decide), put_comm _ 205 201 _ _ (by decide), put_comm _ 205 204 _ _ (by decide), put_comm _ 203 201 _ _ (by decide), put_comm _ 202 201 _ _ (by decide)]
            exact HK.out _ _ _ _ _ _ _ _ _ _ _ _ _ ⟨_, _, Lib.hid (Ww.mk2 HM.out kk4 rz4 (by have := nz1.out; have := nz2.out; have := HSZ.out; omega))⟩
          exact AllReadyH.nil
        exact AllReadyH.nil
      exact AllReadyH.nil
    exact AllReadyH.nil
  exact AllReadyH.nil

end Go.Proofs.Ytdmdegjomikmlaa.NdK
