/-
  Layer 22 (net): the law's own model: without.
-/
import Derived.Test.YtdmdegjomikmlaaNetZ
import Derived.Deep.DeepCutAuto
import Derived.Deep.RegionHeld
namespace Go.Proofs.Ytdmdegjomikmlaa.NetO
set_option linter.unusedVariables false
set_option linter.unusedSimpArgs false
set_option maxRecDepth 100000
open Go.RowKit Go.Proofs.Ytdmdegjomikmlaa.Mem Go.Proofs.Ytdmdegjomikmlaa.NetM Go.Proofs.Ytdmdegjomikmlaa.NetW Go.Proofs.Ytdmdegjomikmlaa.NetS Go.Proofs.Ytdmdegjomikmlaa.NetD Go.Proofs.Ytdmdegjomikmlaa.NetT Go.Proofs.Ytdmdegjomikmlaa.NetA Go.Proofs.Ytdmdegjomikmlaa.NetY Go.Proofs.Ytdmdegjomikmlaa.NetZ
attribute [-go_sem] Builtin.append_

abbrev TMo : TypeId := 39
abbrev TSl : TypeId := 32
theorem infoP3 : ∃ i : TypeInfo, Try.prog.info? TP = some i ∧ i.zero = some (.agg #[.int .i64 0, .int .i64 0, .string ⟨#[]⟩, .bool false]) ∧ i.size = 4 ∧ i.bytes = 40 := by
  obtain ⟨i0, hi, hz0, hz1, hz2⟩ := info_parts infoPk
  exact ⟨i0, hi, hz0, hz1, hz2⟩
theorem part4 {W : World} {F : Nat → Prop} {B n d m g off cl : Nat} {ps : List Pk} (h : GRow W F B (.slice (some ⟨g, off, none⟩) n cl) n (flat ps)) (hn : n = ps.length) (hd : d + m ≤ n) (ao' : Option Addr) (cap' : Nat) (hc : m ≤ cap') (hc9 : cap' ≤ 9223372036854775807)
    (ha : 0 < m → ao' = some ⟨g, off + d * 4, none⟩) : GRow W F B (.slice ao' m cap') m (flat ((ps.drop d).take m)) := by
  by_cases h0 : m = 0
  · exact ⟨ao', cap', rfl, hc, hc9, .inl h0⟩
  · have := GRow.part (size := 4) h (by rw [flat_length, hn]) hd (by omega) ao' cap' hc hc9 (fun g' off' e => by
      simp only [Option.some.injEq, Addr.mk.injEq, and_true] at e
      obtain ⟨rfl, rfl⟩ := e
      exact ha (by omega))
    rw [flat_take, flat_drop]
    exact this
theorem flat_one4 (ps : List Pk) : ∀ u ∈ flat ps, u.oneCell' = true := by
  intro u hu
  simp only [flat, List.mem_flatMap] at hu
  obtain ⟨r, _, hr⟩ := hu
  simp [Pk.cells] at hr
  rcases hr with rfl | rfl | rfl | rfl <;> rfl
theorem app2 {W : World} {F : Nat → Prop} {B g1 n c1 m : Nat} {v : Value} {ps qs : List Pk} (hrow : W.ownsRow 0 TP 4 (.slice (some ⟨g1, 0, none⟩) n c1) n (flat ps)) (h : GRow W F B v m (flat qs)) (hn : n ≤ 10000) (hm : m ≤ 10000) (hq : m = qs.length) :
    ∃ g2 c2 w2, (Builtin.append_ #[TSl, TSl] TSl #[.slice (some ⟨g1, 0, none⟩) n c1, v]).run Try.prog W = .ok (.slice (some ⟨g2, 0, none⟩) (n + m) c2) w2 ∧ w2.ownsRow 0 TP 4 (.slice (some ⟨g2, 0, none⟩) (n + m) c2) (n + m) (flat (ps ++ qs)) ∧ Keep (fun j => j = g1) W w2 ∧ (g2 = g1 ∨ g2 = W.heap.size) := by
  obtain ⟨i0, hi, hz0, hz1, hz2⟩ := infoP3
  have h9 := papp TSl TSl TP i0 _ 4 40 Try.underlying32 hi hz0 hz1 hz2 rfl (by decide) (by decide) hrow h (by rw [flat_length, hq]) (flat_one4 qs) (by omega) (by omega)
  rw [show flat ps ++ flat qs = flat (ps ++ qs) from by simp [flat]] at h9
  exact h9
theorem app1 {W : World} {F : Nat → Prop} {B E m : Nat} {v : Value} {qs : List Pk} (hE : W.heap[E]? = some (.cells #[] TP (0, 0))) (h : GRow W F B v m (flat qs)) (hm : m ≤ 10000) (hq : m = qs.length) :
    ∃ g2 c2 w2, (Builtin.append_ #[TSl, TSl] TSl #[.slice (some ⟨E, 0, none⟩) 0 0, v]).run Try.prog W = .ok (.slice (some ⟨g2, 0, none⟩) m c2) w2 ∧ w2.ownsRow 0 TP 4 (.slice (some ⟨g2, 0, none⟩) m c2) m (flat qs) ∧ Keep (fun j => j = E) W w2 ∧ (g2 = E ∨ g2 = W.heap.size) := by
  have hrow : W.ownsRow 0 TP 4 (.slice (some ⟨E, 0, none⟩) 0 0) 0 (flat []) := ⟨rfl, .inr ⟨E, 0, #[], rfl, Nat.zero_le _, hE, Nat.le_refl _, by unfold maxLen; omega, rfl, rfl⟩⟩
  have h9 := app2 hrow h (by omega) hm hq
  simpa using h9
/-- The model's packets lie in a new row. -/
structure Wo (W0 W : World) (M n : Nat) (vc : Value) (ps : List Pk) (g c : Nat) : Prop where
  m : W.heap[M]? = some (.cells #[.slice (some ⟨g, 0, none⟩) n c, vc] TMo (0, 0))
  k : Keep (fun j => j = M) W0 W
  r : W.ownsRow 0 TP 4 (.slice (some ⟨g, 0, none⟩) n c) n (flat ps)
  g : W0.heap.size ≤ g
theorem Wo.mk2 {W0 w3 : World} {M n g c : Nat} {v0 vc : Value} {ps : List Pk} (hM : W0.heap[M]? = some (.cells #[v0, vc] TMo (0, 0))) (k : Keep (fun _ => False) W0 w3) (hr : w3.ownsRow 0 TP 4 (.slice (some ⟨g, 0, none⟩) n c) n (flat ps)) (hg : W0.heap.size ≤ g) :
    Wo W0 (w3.setCell ⟨M, 0, none⟩ (.slice (some ⟨g, 0, none⟩) n c)) M n vc ps g c := by
  have hb := (k.block _ (lt_of_block hM) (fun e => e)).trans hM
  refine ⟨(block_set hb 0 _).trans (by simp), k.to1.set1 _ _, owns_keep hr ((Keep.refl (fun j => j = M) w3).set1 _ _) (fun q e f => ?_), hg⟩
  have : g = q := by simpa [Value.ownBlock] using e
  have := lt_of_block hM
  omega

set_option maxHeartbeats 8000000 in
theorem without_m (g off n cl : Nat) (ac : Option Addr) (m cc : Nat) (i : Nat) (w : World) (F : Nat → Prop) (B : Nat) (ps : List Pk) (hi : i < n) (hn : n = ps.length) (hn9 : n ≤ 10000) (hcl : n ≤ cl) (hcl9 : cl ≤ 9223372036854775807) (hr : GRow w F B (.slice (some ⟨g, off, none⟩) n cl) n (flat ps)) :
    Calls Try.prog 26 #[.agg #[.slice (some ⟨g, off, none⟩) n cl, .slice ac m cc], .int .i64 (i : Int)] w fun e w' => ∃ g2 c2, e = .returned (.agg #[.slice (some ⟨g2, 0, none⟩) (n - 1) c2, .slice ac m cc]) ∧ w'.ownsRow 0 TP 4 (.slice (some ⟨g2, 0, none⟩) (n - 1) c2) (n - 1) (flat (ps.take i ++ ps.drop (i + 1))) ∧ w.heap.size ≤ g2 ∧ Keep (fun _ => False) w w' := by
  have HN := Lib.hid hn
  have HR := Lib.hid hr
  clear hn hr
  have i1 : IntKind.i64.wrap ((i : Int) + 1) = (i : Int) + 1 := IntWalk.i64_in _ (by omega)
  have i2 : (i : Int) ≤ (n : Int) := by omega
  have i3 : (i : Int) + 1 ≤ (n : Int) := by omega
  go_enter Try.func26, Try.ntmps26
  go_wp2_with fail
  obtain ⟨W, hW⟩ : ∃ W, W = (w.alloc (.cells #[.slice (some ⟨g, off, none⟩) n cl, .slice ac m cc] TMo)).alloc (.cells #[.slice none 0 0, .slice none 0 0] TMo) := ⟨_, rfl⟩
  rw [← hW]
  have hM0 : W.heap[w.heap.size]? = some (.cells #[.slice (some ⟨g, off, none⟩) n cl, .slice ac m cc] TMo (0, 0)) := by rw [hW]; exact block_alloc (block_new w _) _
  have hZ0 : W.heap[w.heap.size + 1]? = some (.cells #[.slice none 0 0, .slice none 0 0] TMo (0, 0)) := by rw [hW]; exact block_new_at (by simp)
  have hkW : Keep (fun _ => False) w W := by rw [hW]; exact ((Keep.refl _ w).alloc _).alloc _
  have HM := Lib.hid hM0
  have HZ := Lib.hid hZ0
  have HKW := Lib.hid hkW
  have HSZ := Lib.hid (show w.heap.size + 1 < W.heap.size by rw [hW]; simp)
  have hgr := HR.out.keep hkW (fun _ _ e => e.elim)
  have HG1 : Hid (GRow W F B (.slice (some ⟨g, off, none⟩) i cl) i (flat (ps.take i))) := Lib.hid (by
    have := part4 (d := 0) (m := i) hgr HN.out (by omega) (some ⟨g, off, none⟩) cl (by omega) hcl9 (fun _ => by simp)
    rwa [List.drop_zero] at this)
  have HG2 : Hid (GRow W F B (.slice (if cl = i + 1 then some ⟨g, off, none⟩ else some ⟨g, off + (i + 1) * 4, none⟩) (n - (i + 1)) (cl - (i + 1))) (n - (i + 1)) (flat (ps.drop (i + 1)))) := Lib.hid (by
    have := part4 (d := i + 1) (m := n - (i + 1)) hgr HN.out (by omega) (if cl = i + 1 then some ⟨g, off, none⟩ else some ⟨g, off + (i + 1) * 4, none⟩) (cl - (i + 1)) (by omega) (by omega) (fun h => by rw [if_neg (by omega)])
    rwa [List.take_of_length_le (by rw [List.length_drop]; have := HN.out; omega)] at this)
  have HNI := Lib.hid (show i ≤ 10000 by omega)
  have HNJ := Lib.hid (show n - (i + 1) ≤ 10000 by omega)
  have i4 : i ≤ cl := by omega
  have i5 : (0 : Int) ≤ (i : Int) + 1 := by omega
  clear hW hM0 hZ0 hkW hgr
  go_cut [] (fun W' => ∃ g2 c2, Hid (Wo W W' w.heap.size (i + (n - (i + 1))) (.slice ac m cc) (ps.take i ++ ps.drop (i + 1)) g2 c2))
  case first =>
    refine wp_region_held_drew (S := (fun w' => Keep (fun j => j = w.heap.size) W w')) (by kernel_rfl) ?_ (fun hHeld => ?_)
    · exact (Keep.refl (fun j => j = w.heap.size) W).drew
    refine wpAnyH_take (i := 1) (oi := { dst := some 6, op := Op.fieldAddr 39 (Operand.tmp 2) 0, type := 0, pos := "law.go:56", after := #[], guard := none }) (v := .pointer (some ⟨w.heap.size, 0, none⟩)) rfl (by kernel_rfl) (by kernel_rfl) (by kernel_rfl) (fun _ _ _ h => h) (Or.inl ⟨by rfl, ?_⟩) (by assumption) ?_
    · (intro w' hSw; (try dsimp only at hSw); go_simp)
    try simp only [Act.put, List.setIfInBounds_toArray, List.set_cons_zero, List.set_cons_succ]
    refine wpAnyH_take (i := 3) (oi := { dst := some 8, op := Op.move (Operand.tmp 1), type := 3, pos := "law.go:56", after := #[], guard := none }) (v := .int .i64 (i : Int)) rfl (by kernel_rfl) (by kernel_rfl) (by kernel_rfl) (fun _ _ _ h => h) (Or.inl ⟨by rfl, ?_⟩) (by assumption) ?_
    · (intro w' hSw; (try dsimp only at hSw); go_simp)
    try simp only [Act.put, List.setIfInBounds_toArray, List.set_cons_zero, List.set_cons_succ]
    refine wpAnyH_take (i := 6) (oi := { dst := some 11, op := Op.fieldAddr 39 (Operand.tmp 2) 0, type := 0, pos := "law.go:56", after := #[], guard := none }) (v := .pointer (some ⟨w.heap.size, 0, none⟩)) rfl (by kernel_rfl) (by kernel_rfl) (by kernel_rfl) (fun _ _ _ h => h) (Or.inl ⟨by rfl, ?_⟩) (by assumption) ?_
    · (intro w' hSw; (try dsimp only at hSw); go_simp)
    try simp only [Act.put, List.setIfInBounds_toArray, List.set_cons_zero, List.set_cons_succ]
    refine wpAnyH_take (i := 8) (oi := { dst := some 13, op := Op.move (Operand.tmp 1), type := 3, pos := "law.go:56", after := #[], guard := none }) (v := .int .i64 (i : Int)) rfl (by kernel_rfl) (by kernel_rfl) (by kernel_rfl) (fun _ _ _ h => h) (Or.inl ⟨by rfl, ?_⟩) (by assumption) ?_
    · (intro w' hSw; (try dsimp only at hSw); go_simp)
    try simp only [Act.put, List.setIfInBounds_toArray, List.set_cons_zero, List.set_cons_succ]
    refine wpAnyH_take (i := 9) (oi := { dst := some 14, op := Op.binOp BinOp.add 3 (Operand.tmp 13) (Operand.const (Value.int IntKind.i64 1)) 3, type := 3, pos := "law.go:56", after := #[{ on := 8, ground := Ground.data }], guard := none }) (v := .int .i64 ((i : Int) + 1)) rfl (by kernel_rfl) (by kernel_rfl) (by kernel_rfl) (fun _ _ _ h => h) (Or.inl ⟨by rfl, ?_⟩) (by assumption) ?_
    · (intro w' hSw; (try dsimp only at hSw); go_simp)
    try simp only [Act.put, List.setIfInBounds_toArray, List.set_cons_zero, List.set_cons_succ]
    have kk0 : Keep (fun _ => False) W W.drew := (Keep.refl _ _).drew
    refine wpAnyH_ready (rs := [0, 2, 7]) (by kernel_rfl) (by simp) ?_
    refine AllReadyH.cons (o := { dst := some 5, op := Op.buildSlice 32 0 #[], type := 32, pos := "law.go:56", after := #[], guard := none }) rfl (fun K hK => ?_) ?_
    · skip
      go_simp
      obtain ⟨v1, hv⟩ : ∃ V, V = (W.alloc (.cells #[] TP)).drew := ⟨_, rfl⟩
      rw [← hv]
      have ks : Keep (fun _ => False) W v1 := by rw [hv]; exact ((Keep.refl _ _).alloc _).drew
      have nz1 := Lib.hid (show v1.heap.size = W.heap.size + 1 by rw [hv]; simp)
      have bE1 : v1.heap[W.heap.size]? = some (.cells #[] TP (0, 0)) := by rw [hv]; exact block_drew (block_new W _)
      clear hv
      have kk1 : Keep (fun _ => False) W v1 := ks
      have sz1 := kk1.size
      refine hK.out _ _ kk1.to1 (fun hHeld => ?_)
      clear hK K
      try simp only [Act.put, List.setIfInBounds_toArray, List.set_cons_zero, List.set_cons_succ]
      refine wpAnyH_ready (rs := [2, 7]) (by kernel_rfl) (by simp) ?_
      refine AllReadyH.cons (o := { dst := some 7, op := Op.load 32 (Operand.tmp 6), type := 32, pos := "law.go:56", after := #[{ on := 1, ground := Ground.data }], guard := none }) rfl (fun K hK => ?_) ?_
      · skip
        have p1 : v1.cell? ⟨w.heap.size, 0, none⟩ = some (.slice (some ⟨g, off, none⟩) n cl) := cell_at ((kk1.block _ (lt_of_block HM.out) (fun e => e)).trans HM.out) 0
        go_simp
        refine hK.out _ _ kk1.to1 (fun hHeld => ?_)
        clear hK K p1
        try simp only [Act.put, List.setIfInBounds_toArray, List.set_cons_zero, List.set_cons_succ]
        refine wpAnyH_take (i := 4) (oi := { dst := some 9, op := Op.slice 32 (Operand.tmp 7) none (some (Operand.tmp 8)) none, type := 32, pos := "law.go:56", after := #[{ on := 2, ground := Ground.data }, { on := 3, ground := Ground.data }], guard := none }) (v := .slice (some ⟨g, off, none⟩) i cl) rfl (by kernel_rfl) (by kernel_rfl) (by kernel_rfl) (fun _ _ _ h => h) (Or.inl ⟨by rfl, ?_⟩) (by assumption) ?_
        · (intro w' hSw; (try dsimp only at hSw); go_simp)
        try simp only [Act.put, List.setIfInBounds_toArray, List.set_cons_zero, List.set_cons_succ]
        refine wpAnyH_ready (rs := [5, 7]) (by kernel_rfl) (by simp) ?_
        refine AllReadyH.cons (o := { dst := some 10, op := Op.call { callee := Callee.builtin Builtin.append, args := #[Operand.tmp 5, Operand.tmp 9], argTypes := #[32, 32] }, type := 32, pos := "law.go:56", after := #[{ on := 0, ground := Ground.data }, { on := 4, ground := Ground.data }], guard := none }) rfl (fun K hK => ?_) ?_
        · skip
          obtain ⟨g1, c1, v2, hrun1, rw2, ks, hg1⟩ := app1 bE1 (HG1.out.keep kk1 (fun _ _ e => e.elim)) HNI.out (by rw [List.length_take]; have := HNI.out; have := HN.out; omega)
          go_simp
          have kk2 : Keep (fun _ => False) W v2 := kk1.then ks (fun q e => by have := nz1.out; have := HSZ.out; omega)
          have sz2 := kk2.size
          clear hrun1
          refine hK.out _ _ kk2.to1 (fun hHeld => ?_)
          clear hK K
          try simp only [Act.put, List.setIfInBounds_toArray, List.set_cons_zero, List.set_cons_succ]
          refine wpAnyH_ready (rs := [7]) (by kernel_rfl) (by simp) ?_
          refine AllReadyH.cons (o := { dst := some 12, op := Op.load 32 (Operand.tmp 11), type := 32, pos := "law.go:56", after := #[{ on := 6, ground := Ground.data }], guard := none }) rfl (fun K hK => ?_) ?_
          · skip
            have p1 : v2.cell? ⟨w.heap.size, 0, none⟩ = some (.slice (some ⟨g, off, none⟩) n cl) := cell_at ((kk2.block _ (lt_of_block HM.out) (fun e => e)).trans HM.out) 0
            go_simp
            refine hK.out _ _ kk2.to1 (fun hHeld => ?_)
            clear hK K p1
            try simp only [Act.put, List.setIfInBounds_toArray, List.set_cons_zero, List.set_cons_succ]
            refine wpAnyH_take (i := 10) (oi := { dst := some 15, op := Op.slice 32 (Operand.tmp 12) (some (Operand.tmp 14)) none none, type := 32, pos := "law.go:56", after := #[{ on := 7, ground := Ground.data }, { on := 9, ground := Ground.data }], guard := none }) (v := .slice (if cl = i + 1 then some ⟨g, off, none⟩ else some ⟨g, off + (i + 1) * 4, none⟩) (n - (i + 1)) (cl - (i + 1))) rfl (by kernel_rfl) (by kernel_rfl) (by kernel_rfl) (fun _ _ _ h => h) (Or.inl ⟨by rfl, ?_⟩) (by assumption) ?_
            · (intro w' hSw; (try dsimp only at hSw); go_simp)
            try simp only [Act.put, List.setIfInBounds_toArray, List.set_cons_zero, List.set_cons_succ]
            refine wpAnyH_ready (rs := [11]) (by kernel_rfl) (by simp) ?_
            refine AllReadyH.cons (o := { dst := some 16, op := Op.call { callee := Callee.builtin Builtin.append, args := #[Operand.tmp 10, Operand.tmp 15], argTypes := #[32, 32] }, type := 32, pos := "law.go:56", after := #[{ on := 5, ground := Ground.data }, { on := 10, ground := Ground.data }, { on := 5, ground := Ground.chain }], guard := none }) rfl (fun K hK => ?_) ?_
            · skip
              obtain ⟨g2, c2, v3, hrun2, rz3, ks, hg2⟩ := app2 rw2 (HG2.out.keep kk2 (fun _ _ e => e.elim)) HNI.out HNJ.out (by rw [List.length_drop]; have := HN.out; omega)
              go_simp
              have kk3 : Keep (fun _ => False) W v3 := kk2.then ks (fun q e => by have := nz1.out; have := HSZ.out; omega)
              have sz3 := kk3.size
              clear hrun2
              refine hK.out _ _ kk3.to1 (fun hHeld => ?_)
              clear hK K
              try simp only [Act.put, List.setIfInBounds_toArray, List.set_cons_zero, List.set_cons_succ]
              have pm := (kk3.block _ (lt_of_block HM.out) (fun e => e)).trans HM.out
              have p1 : v3.cell? ⟨w.heap.size, 0, none⟩ = some (.slice (some ⟨g, off, none⟩) n cl) := cell_at pm 0
              have p2 : v3.frozen? ⟨w.heap.size, 0, none⟩ = false := free_at pm 0
              clear pm
              refine wpAnyH_take (i := 12) (oi := { dst := some 17, op := Op.fieldAddr 39 (Operand.tmp 2) 0, type := 0, pos := "law.go:56", after := #[{ on := 0, ground := Ground.phase }, { on := 1, ground := Ground.phase }, { on := 2, ground := Ground.phase }, { on := 3, ground := Ground.phase }, { on := 4, ground := Ground.phase }, { on := 5, ground := Ground.phase }, { on := 6, ground := Ground.phase }, { on := 7, ground := Ground.phase }, { on := 8, ground := Ground.phase }, { on := 9, ground := Ground.phase }, { on := 10, ground := Ground.phase }, { on := 11, ground := Ground.phase }], guard := none }) (v := .pointer (some ⟨w.heap.size, 0, none⟩)) rfl (by kernel_rfl) (by kernel_rfl) (by kernel_rfl) (fun _ _ _ h => h) (Or.inl ⟨by rfl, ?_⟩) (by assumption) ?_
              · (intro w' hSw; (try dsimp only at hSw); go_simp)
              try simp only [Act.put, List.setIfInBounds_toArray, List.set_cons_zero, List.set_cons_succ]
              refine wpAnyH_ready (rs := [13]) (by kernel_rfl) (by simp) ?_
              refine AllReadyH.cons (o := { dst := none, op := Op.store 32 (Operand.tmp 17) (Operand.tmp 16), type := 0, pos := "law.go:56", after := #[{ on := 12, ground := Ground.data }, { on := 11, ground := Ground.data }, { on := 11, ground := Ground.chain }, { on := 0, ground := Ground.phase }, { on := 1, ground := Ground.phase }, { on := 2, ground := Ground.phase }, { on := 3, ground := Ground.phase }, { on := 4, ground := Ground.phase }, { on := 5, ground := Ground.phase }, { on := 6, ground := Ground.phase }, { on := 7, ground := Ground.phase }, { on := 8, ground := Ground.phase }, { on := 9, ground := Ground.phase }, { on := 10, ground := Ground.phase }, { on := 11, ground := Ground.phase }], guard := none }) rfl (fun K hK => ?_) AllReadyH.nil
              go_simp
              refine hK.out _ _ (kk3.to1.set1 _ _) (fun hHeld => ?_)
              clear hK K
              try simp only [Act.put, List.setIfInBounds_toArray, List.set_cons_zero, List.set_cons_succ]
              refine wpAnyH_done (by kernel_rfl) ?_ _
              generalize (if cl = i + 1 then some (⟨g, off, none⟩ : Addr) else some (⟨g, off + (i + 1) * 4, none⟩ : Addr)) = aj
              go_wp2_with fail
              go_meet
              exact ⟨_, _, Lib.hid (Wo.mk2 HM.out kk3 rz3 (by have := nz1.out; have := HSZ.out; omega))⟩
            exact AllReadyH.nil
          exact AllReadyH.nil
        refine AllReadyH.cons (o := { dst := some 12, op := Op.load 32 (Operand.tmp 11), type := 32, pos := "law.go:56", after := #[{ on := 6, ground := Ground.data }], guard := none }) rfl (fun K hK => ?_) ?_
        · skip
          have p1 : v1.cell? ⟨w.heap.size, 0, none⟩ = some (.slice (some ⟨g, off, none⟩) n cl) := cell_at ((kk1.block _ (lt_of_block HM.out) (fun e => e)).trans HM.out) 0
          go_simp
          refine hK.out _ _ kk1.to1 (fun hHeld => ?_)
          clear hK K p1
          try simp only [Act.put, List.setIfInBounds_toArray, List.set_cons_zero, List.set_cons_succ]
          refine wpAnyH_take (i := 10) (oi := { dst := some 15, op := Op.slice 32 (Operand.tmp 12) (some (Operand.tmp 14)) none none, type := 32, pos := "law.go:56", after := #[{ on := 7, ground := Ground.data }, { on := 9, ground := Ground.data }], guard := none }) (v := .slice (if cl = i + 1 then some ⟨g, off, none⟩ else some ⟨g, off + (i + 1) * 4, none⟩) (n - (i + 1)) (cl - (i + 1))) rfl (by kernel_rfl) (by kernel_rfl) (by kernel_rfl) (fun _ _ _ h => h) (Or.inl ⟨by rfl, ?_⟩) (by assumption) ?_
          · (intro w' hSw; (try dsimp only at hSw); go_simp)
          try simp only [Act.put, List.setIfInBounds_toArray, List.set_cons_zero, List.set_cons_succ]
          refine wpAnyH_ready (rs := [5]) (by kernel_rfl) (by simp) ?_
          refine AllReadyH.cons (o := { dst := some 10, op := Op.call { callee := Callee.builtin Builtin.append, args := #[Operand.tmp 5, Operand.tmp 9], argTypes := #[32, 32] }, type := 32, pos := "law.go:56", after := #[{ on := 0, ground := Ground.data }, { on := 4, ground := Ground.data }], guard := none }) rfl (fun K hK => ?_) ?_
          · skip
            obtain ⟨g1, c1, v2, hrun1, rw2, ks, hg1⟩ := app1 bE1 (HG1.out.keep kk1 (fun _ _ e => e.elim)) HNI.out (by rw [List.length_take]; have := HNI.out; have := HN.out; omega)
            go_simp
            have kk2 : Keep (fun _ => False) W v2 := kk1.then ks (fun q e => by have := nz1.out; have := HSZ.out; omega)
            have sz2 := kk2.size
            clear hrun1
            refine hK.out _ _ kk2.to1 (fun hHeld => ?_)
            clear hK K
            try simp only [Act.put, List.setIfInBounds_toArray, List.set_cons_zero, List.set_cons_succ]
            refine wpAnyH_ready (rs := [11]) (by kernel_rfl) (by simp) ?_
            refine AllReadyH.cons (o := { dst := some 16, op := Op.call { callee := Callee.builtin Builtin.append, args := #[Operand.tmp 10, Operand.tmp 15], argTypes := #[32, 32] }, type := 32, pos := "law.go:56", after := #[{ on := 5, ground := Ground.data }, { on := 10, ground := Ground.data }, { on := 5, ground := Ground.chain }], guard := none }) rfl (fun K hK => ?_) ?_
            · skip
              obtain ⟨g2, c2, v3, hrun2, rz3, ks, hg2⟩ := app2 rw2 (HG2.out.keep kk2 (fun _ _ e => e.elim)) HNI.out HNJ.out (by rw [List.length_drop]; have := HN.out; omega)
              go_simp
              have kk3 : Keep (fun _ => False) W v3 := kk2.then ks (fun q e => by have := nz1.out; have := HSZ.out; omega)
              have sz3 := kk3.size
              clear hrun2
              refine hK.out _ _ kk3.to1 (fun hHeld => ?_)
              clear hK K
              try simp only [Act.put, List.setIfInBounds_toArray, List.set_cons_zero, List.set_cons_succ]
              have pm := (kk3.block _ (lt_of_block HM.out) (fun e => e)).trans HM.out
              have p1 : v3.cell? ⟨w.heap.size, 0, none⟩ = some (.slice (some ⟨g, off, none⟩) n cl) := cell_at pm 0
              have p2 : v3.frozen? ⟨w.heap.size, 0, none⟩ = false := free_at pm 0
              clear pm
              refine wpAnyH_take (i := 12) (oi := { dst := some 17, op := Op.fieldAddr 39 (Operand.tmp 2) 0, type := 0, pos := "law.go:56", after := #[{ on := 0, ground := Ground.phase }, { on := 1, ground := Ground.phase }, { on := 2, ground := Ground.phase }, { on := 3, ground := Ground.phase }, { on := 4, ground := Ground.phase }, { on := 5, ground := Ground.phase }, { on := 6, ground := Ground.phase }, { on := 7, ground := Ground.phase }, { on := 8, ground := Ground.phase }, { on := 9, ground := Ground.phase }, { on := 10, ground := Ground.phase }, { on := 11, ground := Ground.phase }], guard := none }) (v := .pointer (some ⟨w.heap.size, 0, none⟩)) rfl (by kernel_rfl) (by kernel_rfl) (by kernel_rfl) (fun _ _ _ h => h) (Or.inl ⟨by rfl, ?_⟩) (by assumption) ?_
              · (intro w' hSw; (try dsimp only at hSw); go_simp)
              try simp only [Act.put, List.setIfInBounds_toArray, List.set_cons_zero, List.set_cons_succ]
              refine wpAnyH_ready (rs := [13]) (by kernel_rfl) (by simp) ?_
              refine AllReadyH.cons (o := { dst := none, op := Op.store 32 (Operand.tmp 17) (Operand.tmp 16), type := 0, pos := "law.go:56", after := #[{ on := 12, ground := Ground.data }, { on := 11, ground := Ground.data }, { on := 11, ground := Ground.chain }, { on := 0, ground := Ground.phase }, { on := 1, ground := Ground.phase }, { on := 2, ground := Ground.phase }, { on := 3, ground := Ground.phase }, { on := 4, ground := Ground.phase }, { on := 5, ground := Ground.phase }, { on := 6, ground := Ground.phase }, { on := 7, ground := Ground.phase }, { on := 8, ground := Ground.phase }, { on := 9, ground := Ground.phase }, { on := 10, ground := Ground.phase }, { on := 11, ground := Ground.phase }], guard := none }) rfl (fun K hK => ?_) AllReadyH.nil
              go_simp
              refine hK.out _ _ (kk3.to1.set1 _ _) (fun hHeld => ?_)
              clear hK K
              try simp only [Act.put, List.setIfInBounds_toArray, List.set_cons_zero, List.set_cons_succ]
              refine wpAnyH_done (by kernel_rfl) ?_ _
              generalize (if cl = i + 1 then some (⟨g, off, none⟩ : Addr) else some (⟨g, off + (i + 1) * 4, none⟩ : Addr)) = aj
              go_wp2_with fail
              go_meet
              exact ⟨_, _, Lib.hid (Wo.mk2 HM.out kk3 rz3 (by have := nz1.out; have := HSZ.out; omega))⟩
            exact AllReadyH.nil
          exact AllReadyH.nil
        exact AllReadyH.nil
      refine AllReadyH.cons (o := { dst := some 12, op := Op.load 32 (Operand.tmp 11), type := 32, pos := "law.go:56", after := #[{ on := 6, ground := Ground.data }], guard := none }) rfl (fun K hK => ?_) ?_
      · skip
        have p1 : v1.cell? ⟨w.heap.size, 0, none⟩ = some (.slice (some ⟨g, off, none⟩) n cl) := cell_at ((kk1.block _ (lt_of_block HM.out) (fun e => e)).trans HM.out) 0
        go_simp
        refine hK.out _ _ kk1.to1 (fun hHeld => ?_)
        clear hK K p1
        try simp only [Act.put, List.setIfInBounds_toArray, List.set_cons_zero, List.set_cons_succ]
        refine wpAnyH_take (i := 10) (oi := { dst := some 15, op := Op.slice 32 (Operand.tmp 12) (some (Operand.tmp 14)) none none, type := 32, pos := "law.go:56", after := #[{ on := 7, ground := Ground.data }, { on := 9, ground := Ground.data }], guard := none }) (v := .slice (if cl = i + 1 then some ⟨g, off, none⟩ else some ⟨g, off + (i + 1) * 4, none⟩) (n - (i + 1)) (cl - (i + 1))) rfl (by kernel_rfl) (by kernel_rfl) (by kernel_rfl) (fun _ _ _ h => h) (Or.inl ⟨by rfl, ?_⟩) (by assumption) ?_
        · (intro w' hSw; (try dsimp only at hSw); go_simp)
        try simp only [Act.put, List.setIfInBounds_toArray, List.set_cons_zero, List.set_cons_succ]
        refine wpAnyH_ready (rs := [2]) (by kernel_rfl) (by simp) ?_
        refine AllReadyH.cons (o := { dst := some 7, op := Op.load 32 (Operand.tmp 6), type := 32, pos := "law.go:56", after := #[{ on := 1, ground := Ground.data }], guard := none }) rfl (fun K hK => ?_) ?_
        · skip
          have p1 : v1.cell? ⟨w.heap.size, 0, none⟩ = some (.slice (some ⟨g, off, none⟩) n cl) := cell_at ((kk1.block _ (lt_of_block HM.out) (fun e => e)).trans HM.out) 0
          go_simp
          refine hK.out _ _ kk1.to1 (fun hHeld => ?_)
          clear hK K p1
          try simp only [Act.put, List.setIfInBounds_toArray, List.set_cons_zero, List.set_cons_succ]
          refine wpAnyH_take (i := 4) (oi := { dst := some 9, op := Op.slice 32 (Operand.tmp 7) none (some (Operand.tmp 8)) none, type := 32, pos := "law.go:56", after := #[{ on := 2, ground := Ground.data }, { on := 3, ground := Ground.data }], guard := none }) (v := .slice (some ⟨g, off, none⟩) i cl) rfl (by kernel_rfl) (by kernel_rfl) (by kernel_rfl) (fun _ _ _ h => h) (Or.inl ⟨by rfl, ?_⟩) (by assumption) ?_
          · (intro w' hSw; (try dsimp only at hSw); go_simp)
          try simp only [Act.put, List.setIfInBounds_toArray, List.set_cons_zero, List.set_cons_succ]
          refine wpAnyH_ready (rs := [5]) (by kernel_rfl) (by simp) ?_
          refine AllReadyH.cons (o := { dst := some 10, op := Op.call { callee := Callee.builtin Builtin.append, args := #[Operand.tmp 5, Operand.tmp 9], argTypes := #[32, 32] }, type := 32, pos := "law.go:56", after := #[{ on := 0, ground := Ground.data }, { on := 4, ground := Ground.data }], guard := none }) rfl (fun K hK => ?_) ?_
          · skip
            obtain ⟨g1, c1, v2, hrun1, rw2, ks, hg1⟩ := app1 bE1 (HG1.out.keep kk1 (fun _ _ e => e.elim)) HNI.out (by rw [List.length_take]; have := HNI.out; have := HN.out; omega)
            go_simp
            have kk2 : Keep (fun _ => False) W v2 := kk1.then ks (fun q e => by have := nz1.out; have := HSZ.out; omega)
            have sz2 := kk2.size
            clear hrun1
            refine hK.out _ _ kk2.to1 (fun hHeld => ?_)
            clear hK K
            try simp only [Act.put, List.setIfInBounds_toArray, List.set_cons_zero, List.set_cons_succ]
            refine wpAnyH_ready (rs := [11]) (by kernel_rfl) (by simp) ?_
            refine AllReadyH.cons (o := { dst := some 16, op := Op.call { callee := Callee.builtin Builtin.append, args := #[Operand.tmp 10, Operand.tmp 15], argTypes := #[32, 32] }, type := 32, pos := "law.go:56", after := #[{ on := 5, ground := Ground.data }, { on := 10, ground := Ground.data }, { on := 5, ground := Ground.chain }], guard := none }) rfl (fun K hK => ?_) ?_
            · skip
              obtain ⟨g2, c2, v3, hrun2, rz3, ks, hg2⟩ := app2 rw2 (HG2.out.keep kk2 (fun _ _ e => e.elim)) HNI.out HNJ.out (by rw [List.length_drop]; have := HN.out; omega)
              go_simp
              have kk3 : Keep (fun _ => False) W v3 := kk2.then ks (fun q e => by have := nz1.out; have := HSZ.out; omega)
              have sz3 := kk3.size
              clear hrun2
              refine hK.out _ _ kk3.to1 (fun hHeld => ?_)
              clear hK K
              try simp only [Act.put, List.setIfInBounds_toArray, List.set_cons_zero, List.set_cons_succ]
              have pm := (kk3.block _ (lt_of_block HM.out) (fun e => e)).trans HM.out
              have p1 : v3.cell? ⟨w.heap.size, 0, none⟩ = some (.slice (some ⟨g, off, none⟩) n cl) := cell_at pm 0
              have p2 : v3.frozen? ⟨w.heap.size, 0, none⟩ = false := free_at pm 0
              clear pm
              refine wpAnyH_take (i := 12) (oi := { dst := some 17, op := Op.fieldAddr 39 (Operand.tmp 2) 0, type := 0, pos := "law.go:56", after := #[{ on := 0, ground := Ground.phase }, { on := 1, ground := Ground.phase }, { on := 2, ground := Ground.phase }, { on := 3, ground := Ground.phase }, { on := 4, ground := Ground.phase }, { on := 5, ground := Ground.phase }, { on := 6, ground := Ground.phase }, { on := 7, ground := Ground.phase }, { on := 8, ground := Ground.phase }, { on := 9, ground := Ground.phase }, { on := 10, ground := Ground.phase }, { on := 11, ground := Ground.phase }], guard := none }) (v := .pointer (some ⟨w.heap.size, 0, none⟩)) rfl (by kernel_rfl) (by kernel_rfl) (by kernel_rfl) (fun _ _ _ h => h) (Or.inl ⟨by rfl, ?_⟩) (by assumption) ?_
              · (intro w' hSw; (try dsimp only at hSw); go_simp)
              try simp only [Act.put, List.setIfInBounds_toArray, List.set_cons_zero, List.set_cons_succ]
              refine wpAnyH_ready (rs := [13]) (by kernel_rfl) (by simp) ?_
              refine AllReadyH.cons (o := { dst := none, op := Op.store 32 (Operand.tmp 17) (Operand.tmp 16), type := 0, pos := "law.go:56", after := #[{ on := 12, ground := Ground.data }, { on := 11, ground := Ground.data }, { on := 11, ground := Ground.chain }, { on := 0, ground := Ground.phase }, { on := 1, ground := Ground.phase }, { on := 2, ground := Ground.phase }, { on := 3, ground := Ground.phase }, { on := 4, ground := Ground.phase }, { on := 5, ground := Ground.phase }, { on := 6, ground := Ground.phase }, { on := 7, ground := Ground.phase }, { on := 8, ground := Ground.phase }, { on := 9, ground := Ground.phase }, { on := 10, ground := Ground.phase }, { on := 11, ground := Ground.phase }], guard := none }) rfl (fun K hK => ?_) AllReadyH.nil
              go_simp
              refine hK.out _ _ (kk3.to1.set1 _ _) (fun hHeld => ?_)
              clear hK K
              try simp only [Act.put, List.setIfInBounds_toArray, List.set_cons_zero, List.set_cons_succ]
              refine wpAnyH_done (by kernel_rfl) ?_ _
              generalize (if cl = i + 1 then some (⟨g, off, none⟩ : Addr) else some (⟨g, off + (i + 1) * 4, none⟩ : Addr)) = aj
              go_wp2_with fail
              go_meet
              exact ⟨_, _, Lib.hid (Wo.mk2 HM.out kk3 rz3 (by have := nz1.out; have := HSZ.out; omega))⟩
            exact AllReadyH.nil
          exact AllReadyH.nil
        exact AllReadyH.nil
      exact AllReadyH.nil
    refine AllReadyH.cons (o := { dst := some 7, op := Op.load 32 (Operand.tmp 6), type := 32, pos := "law.go:56", after := #[{ on := 1, ground := Ground.data }], guard := none }) rfl (fun K hK => ?_) ?_
    · skip
      have p1 : W.cell? ⟨w.heap.size, 0, none⟩ = some (.slice (some ⟨g, off, none⟩) n cl) := cell_at ((kk0.block _ (lt_of_block HM.out) (fun e => e)).trans HM.out) 0
      go_simp
      refine hK.out _ _ kk0.to1 (fun hHeld => ?_)
      clear hK K p1
      try simp only [Act.put, List.setIfInBounds_toArray, List.set_cons_zero, List.set_cons_succ]
      refine wpAnyH_take (i := 4) (oi := { dst := some 9, op := Op.slice 32 (Operand.tmp 7) none (some (Operand.tmp 8)) none, type := 32, pos := "law.go:56", after := #[{ on := 2, ground := Ground.data }, { on := 3, ground := Ground.data }], guard := none }) (v := .slice (some ⟨g, off, none⟩) i cl) rfl (by kernel_rfl) (by kernel_rfl) (by kernel_rfl) (fun _ _ _ h => h) (Or.inl ⟨by rfl, ?_⟩) (by assumption) ?_
      · (intro w' hSw; (try dsimp only at hSw); go_simp)
      try simp only [Act.put, List.setIfInBounds_toArray, List.set_cons_zero, List.set_cons_succ]
      refine wpAnyH_ready (rs := [0, 7]) (by kernel_rfl) (by simp) ?_
      refine AllReadyH.cons (o := { dst := some 5, op := Op.buildSlice 32 0 #[], type := 32, pos := "law.go:56", after := #[], guard := none }) rfl (fun K hK => ?_) ?_
      · skip
        go_simp
        obtain ⟨v1, hv⟩ : ∃ V, V = (W.alloc (.cells #[] TP)).drew := ⟨_, rfl⟩
        rw [← hv]
        have ks : Keep (fun _ => False) W v1 := by rw [hv]; exact ((Keep.refl _ _).alloc _).drew
        have nz1 := Lib.hid (show v1.heap.size = W.heap.size + 1 by rw [hv]; simp)
        have bE1 : v1.heap[W.heap.size]? = some (.cells #[] TP (0, 0)) := by rw [hv]; exact block_drew (block_new W _)
        clear hv
        have kk1 : Keep (fun _ => False) W v1 := ks
        have sz1 := kk1.size
        refine hK.out _ _ kk1.to1 (fun hHeld => ?_)
        clear hK K
        try simp only [Act.put, List.setIfInBounds_toArray, List.set_cons_zero, List.set_cons_succ]
        refine wpAnyH_ready (rs := [5, 7]) (by kernel_rfl) (by simp) ?_
        refine AllReadyH.cons (o := { dst := some 10, op := Op.call { callee := Callee.builtin Builtin.append, args := #[Operand.tmp 5, Operand.tmp 9], argTypes := #[32, 32] }, type := 32, pos := "law.go:56", after := #[{ on := 0, ground := Ground.data }, { on := 4, ground := Ground.data }], guard := none }) rfl (fun K hK => ?_) ?_
        · skip
          obtain ⟨g1, c1, v2, hrun1, rw2, ks, hg1⟩ := app1 bE1 (HG1.out.keep kk1 (fun _ _ e => e.elim)) HNI.out (by rw [List.length_take]; have := HNI.out; have := HN.out; omega)
          go_simp
          have kk2 : Keep (fun _ => False) W v2 := kk1.then ks (fun q e => by have := nz1.out; have := HSZ.out; omega)
          have sz2 := kk2.size
          clear hrun1
          refine hK.out _ _ kk2.to1 (fun hHeld => ?_)
          clear hK K
          try simp only [Act.put, List.setIfInBounds_toArray, List.set_cons_zero, List.set_cons_succ]
          refine wpAnyH_ready (rs := [7]) (by kernel_rfl) (by simp) ?_
          refine AllReadyH.cons (o := { dst := some 12, op := Op.load 32 (Operand.tmp 11), type := 32, pos := "law.go:56", after := #[{ on := 6, ground := Ground.data }], guard := none }) rfl (fun K hK => ?_) ?_
          · skip
            have p1 : v2.cell? ⟨w.heap.size, 0, none⟩ = some (.slice (some ⟨g, off, none⟩) n cl) := cell_at ((kk2.block _ (lt_of_block HM.out) (fun e => e)).trans HM.out) 0
            go_simp
            refine hK.out _ _ kk2.to1 (fun hHeld => ?_)
            clear hK K p1
            try simp only [Act.put, List.setIfInBounds_toArray, List.set_cons_zero, List.set_cons_succ]
            refine wpAnyH_take (i := 10) (oi := { dst := some 15, op := Op.slice 32 (Operand.tmp 12) (some (Operand.tmp 14)) none none, type := 32, pos := "law.go:56", after := #[{ on := 7, ground := Ground.data }, { on := 9, ground := Ground.data }], guard := none }) (v := .slice (if cl = i + 1 then some ⟨g, off, none⟩ else some ⟨g, off + (i + 1) * 4, none⟩) (n - (i + 1)) (cl - (i + 1))) rfl (by kernel_rfl) (by kernel_rfl) (by kernel_rfl) (fun _ _ _ h => h) (Or.inl ⟨by rfl, ?_⟩) (by assumption) ?_
            · (intro w' hSw; (try dsimp only at hSw); go_simp)
            try simp only [Act.put, List.setIfInBounds_toArray, List.set_cons_zero, List.set_cons_succ]
            refine wpAnyH_ready (rs := [11]) (by kernel_rfl) (by simp) ?_
            refine AllReadyH.cons (o := { dst := some 16, op := Op.call { callee := Callee.builtin Builtin.append, args := #[Operand.tmp 10, Operand.tmp 15], argTypes := #[32, 32] }, type := 32, pos := "law.go:56", after := #[{ on := 5, ground := Ground.data }, { on := 10, ground := Ground.data }, { on := 5, ground := Ground.chain }], guard := none }) rfl (fun K hK => ?_) ?_
            · skip
              obtain ⟨g2, c2, v3, hrun2, rz3, ks, hg2⟩ := app2 rw2 (HG2.out.keep kk2 (fun _ _ e => e.elim)) HNI.out HNJ.out (by rw [List.length_drop]; have := HN.out; omega)
              go_simp
              have kk3 : Keep (fun _ => False) W v3 := kk2.then ks (fun q e => by have := nz1.out; have := HSZ.out; omega)
              have sz3 := kk3.size
              clear hrun2
              refine hK.out _ _ kk3.to1 (fun hHeld => ?_)
              clear hK K
              try simp only [Act.put, List.setIfInBounds_toArray, List.set_cons_zero, List.set_cons_succ]
              have pm := (kk3.block _ (lt_of_block HM.out) (fun e => e)).trans HM.out
              have p1 : v3.cell? ⟨w.heap.size, 0, none⟩ = some (.slice (some ⟨g, off, none⟩) n cl) := cell_at pm 0
              have p2 : v3.frozen? ⟨w.heap.size, 0, none⟩ = false := free_at pm 0
              clear pm
              refine wpAnyH_take (i := 12) (oi := { dst := some 17, op := Op.fieldAddr 39 (Operand.tmp 2) 0, type := 0, pos := "law.go:56", after := #[{ on := 0, ground := Ground.phase }, { on := 1, ground := Ground.phase }, { on := 2, ground := Ground.phase }, { on := 3, ground := Ground.phase }, { on := 4, ground := Ground.phase }, { on := 5, ground := Ground.phase }, { on := 6, ground := Ground.phase }, { on := 7, ground := Ground.phase }, { on := 8, ground := Ground.phase }, { on := 9, ground := Ground.phase }, { on := 10, ground := Ground.phase }, { on := 11, ground := Ground.phase }], guard := none }) (v := .pointer (some ⟨w.heap.size, 0, none⟩)) rfl (by kernel_rfl) (by kernel_rfl) (by kernel_rfl) (fun _ _ _ h => h) (Or.inl ⟨by rfl, ?_⟩) (by assumption) ?_
              · (intro w' hSw; (try dsimp only at hSw); go_simp)
              try simp only [Act.put, List.setIfInBounds_toArray, List.set_cons_zero, List.set_cons_succ]
              refine wpAnyH_ready (rs := [13]) (by kernel_rfl) (by simp) ?_
              refine AllReadyH.cons (o := { dst := none, op := Op.store 32 (Operand.tmp 17) (Operand.tmp 16), type := 0, pos := "law.go:56", after := #[{ on := 12, ground := Ground.data }, { on := 11, ground := Ground.data }, { on := 11, ground := Ground.chain }, { on := 0, ground := Ground.phase }, { on := 1, ground := Ground.phase }, { on := 2, ground := Ground.phase }, { on := 3, ground := Ground.phase }, { on := 4, ground := Ground.phase }, { on := 5, ground := Ground.phase }, { on := 6, ground := Ground.phase }, { on := 7, ground := Ground.phase }, { on := 8, ground := Ground.phase }, { on := 9, ground := Ground.phase }, { on := 10, ground := Ground.phase }, { on := 11, ground := Ground.phase }], guard := none }) rfl (fun K hK => ?_) AllReadyH.nil
              go_simp
              refine hK.out _ _ (kk3.to1.set1 _ _) (fun hHeld => ?_)
              clear hK K
              try simp only [Act.put, List.setIfInBounds_toArray, List.set_cons_zero, List.set_cons_succ]
              refine wpAnyH_done (by kernel_rfl) ?_ _
              generalize (if cl = i + 1 then some (⟨g, off, none⟩ : Addr) else some (⟨g, off + (i + 1) * 4, none⟩ : Addr)) = aj
              go_wp2_with fail
              go_meet
              exact ⟨_, _, Lib.hid (Wo.mk2 HM.out kk3 rz3 (by have := nz1.out; have := HSZ.out; omega))⟩
            exact AllReadyH.nil
          exact AllReadyH.nil
        refine AllReadyH.cons (o := { dst := some 12, op := Op.load 32 (Operand.tmp 11), type := 32, pos := "law.go:56", after := #[{ on := 6, ground := Ground.data }], guard := none }) rfl (fun K hK => ?_) ?_
        · skip
          have p1 : v1.cell? ⟨w.heap.size, 0, none⟩ = some (.slice (some ⟨g, off, none⟩) n cl) := cell_at ((kk1.block _ (lt_of_block HM.out) (fun e => e)).trans HM.out) 0
          go_simp
          refine hK.out _ _ kk1.to1 (fun hHeld => ?_)
          clear hK K p1
          try simp only [Act.put, List.setIfInBounds_toArray, List.set_cons_zero, List.set_cons_succ]
          refine wpAnyH_take (i := 10) (oi := { dst := some 15, op := Op.slice 32 (Operand.tmp 12) (some (Operand.tmp 14)) none none, type := 32, pos := "law.go:56", after := #[{ on := 7, ground := Ground.data }, { on := 9, ground := Ground.data }], guard := none }) (v := .slice (if cl = i + 1 then some ⟨g, off, none⟩ else some ⟨g, off + (i + 1) * 4, none⟩) (n - (i + 1)) (cl - (i + 1))) rfl (by kernel_rfl) (by kernel_rfl) (by kernel_rfl) (fun _ _ _ h => h) (Or.inl ⟨by rfl, ?_⟩) (by assumption) ?_
          · (intro w' hSw; (try dsimp only at hSw); go_simp)
          try simp only [Act.put, List.setIfInBounds_toArray, List.set_cons_zero, List.set_cons_succ]
          refine wpAnyH_ready (rs := [5]) (by kernel_rfl) (by simp) ?_
          refine AllReadyH.cons (o := { dst := some 10, op := Op.call { callee := Callee.builtin Builtin.append, args := #[Operand.tmp 5, Operand.tmp 9], argTypes := #[32, 32] }, type := 32, pos := "law.go:56", after := #[{ on := 0, ground := Ground.data }, { on := 4, ground := Ground.data }], guard := none }) rfl (fun K hK => ?_) ?_
          · skip
            obtain ⟨g1, c1, v2, hrun1, rw2, ks, hg1⟩ := app1 bE1 (HG1.out.keep kk1 (fun _ _ e => e.elim)) HNI.out (by rw [List.length_take]; have := HNI.out; have := HN.out; omega)
            go_simp
            have kk2 : Keep (fun _ => False) W v2 := kk1.then ks (fun q e => by have := nz1.out; have := HSZ.out; omega)
            have sz2 := kk2.size
            clear hrun1
            refine hK.out _ _ kk2.to1 (fun hHeld => ?_)
            clear hK K
            try simp only [Act.put, List.setIfInBounds_toArray, List.set_cons_zero, List.set_cons_succ]
            refine wpAnyH_ready (rs := [11]) (by kernel_rfl) (by simp) ?_
            refine AllReadyH.cons (o := { dst := some 16, op := Op.call { callee := Callee.builtin Builtin.append, args := #[Operand.tmp 10, Operand.tmp 15], argTypes := #[32, 32] }, type := 32, pos := "law.go:56", after := #[{ on := 5, ground := Ground.data }, { on := 10, ground := Ground.data }, { on := 5, ground := Ground.chain }], guard := none }) rfl (fun K hK => ?_) ?_
            · skip
              obtain ⟨g2, c2, v3, hrun2, rz3, ks, hg2⟩ := app2 rw2 (HG2.out.keep kk2 (fun _ _ e => e.elim)) HNI.out HNJ.out (by rw [List.length_drop]; have := HN.out; omega)
              go_simp
              have kk3 : Keep (fun _ => False) W v3 := kk2.then ks (fun q e => by have := nz1.out; have := HSZ.out; omega)
              have sz3 := kk3.size
              clear hrun2
              refine hK.out _ _ kk3.to1 (fun hHeld => ?_)
              clear hK K
              try simp only [Act.put, List.setIfInBounds_toArray, List.set_cons_zero, List.set_cons_succ]
              have pm := (kk3.block _ (lt_of_block HM.out) (fun e => e)).trans HM.out
              have p1 : v3.cell? ⟨w.heap.size, 0, none⟩ = some (.slice (some ⟨g, off, none⟩) n cl) := cell_at pm 0
              have p2 : v3.frozen? ⟨w.heap.size, 0, none⟩ = false := free_at pm 0
              clear pm
              refine wpAnyH_take (i := 12) (oi := { dst := some 17, op := Op.fieldAddr 39 (Operand.tmp 2) 0, type := 0, pos := "law.go:56", after := #[{ on := 0, ground := Ground.phase }, { on := 1, ground := Ground.phase }, { on := 2, ground := Ground.phase }, { on := 3, ground := Ground.phase }, { on := 4, ground := Ground.phase }, { on := 5, ground := Ground.phase }, { on := 6, ground := Ground.phase }, { on := 7, ground := Ground.phase }, { on := 8, ground := Ground.phase }, { on := 9, ground := Ground.phase }, { on := 10, ground := Ground.phase }, { on := 11, ground := Ground.phase }], guard := none }) (v := .pointer (some ⟨w.heap.size, 0, none⟩)) rfl (by kernel_rfl) (by kernel_rfl) (by kernel_rfl) (fun _ _ _ h => h) (Or.inl ⟨by rfl, ?_⟩) (by assumption) ?_
              · (intro w' hSw; (try dsimp only at hSw); go_simp)
              try simp only [Act.put, List.setIfInBounds_toArray, List.set_cons_zero, List.set_cons_succ]
              refine wpAnyH_ready (rs := [13]) (by kernel_rfl) (by simp) ?_
              refine AllReadyH.cons (o := { dst := none, op := Op.store 32 (Operand.tmp 17) (Operand.tmp 16), type := 0, pos := "law.go:56", after := #[{ on := 12, ground := Ground.data }, { on := 11, ground := Ground.data }, { on := 11, ground := Ground.chain }, { on := 0, ground := Ground.phase }, { on := 1, ground := Ground.phase }, { on := 2, ground := Ground.phase }, { on := 3, ground := Ground.phase }, { on := 4, ground := Ground.phase }, { on := 5, ground := Ground.phase }, { on := 6, ground := Ground.phase }, { on := 7, ground := Ground.phase }, { on := 8, ground := Ground.phase }, { on := 9, ground := Ground.phase }, { on := 10, ground := Ground.phase }, { on := 11, ground := Ground.phase }], guard := none }) rfl (fun K hK => ?_) AllReadyH.nil
              go_simp
              refine hK.out _ _ (kk3.to1.set1 _ _) (fun hHeld => ?_)
              clear hK K
              try simp only [Act.put, List.setIfInBounds_toArray, List.set_cons_zero, List.set_cons_succ]
              refine wpAnyH_done (by kernel_rfl) ?_ _
              generalize (if cl = i + 1 then some (⟨g, off, none⟩ : Addr) else some (⟨g, off + (i + 1) * 4, none⟩ : Addr)) = aj
              go_wp2_with fail
              go_meet
              exact ⟨_, _, Lib.hid (Wo.mk2 HM.out kk3 rz3 (by have := nz1.out; have := HSZ.out; omega))⟩
            exact AllReadyH.nil
          exact AllReadyH.nil
        exact AllReadyH.nil
      refine AllReadyH.cons (o := { dst := some 12, op := Op.load 32 (Operand.tmp 11), type := 32, pos := "law.go:56", after := #[{ on := 6, ground := Ground.data }], guard := none }) rfl (fun K hK => ?_) ?_
      · skip
        have p1 : W.cell? ⟨w.heap.size, 0, none⟩ = some (.slice (some ⟨g, off, none⟩) n cl) := cell_at ((kk0.block _ (lt_of_block HM.out) (fun e => e)).trans HM.out) 0
        go_simp
        refine hK.out _ _ kk0.to1 (fun hHeld => ?_)
        clear hK K p1
        try simp only [Act.put, List.setIfInBounds_toArray, List.set_cons_zero, List.set_cons_succ]
        refine wpAnyH_take (i := 10) (oi := { dst := some 15, op := Op.slice 32 (Operand.tmp 12) (some (Operand.tmp 14)) none none, type := 32, pos := "law.go:56", after := #[{ on := 7, ground := Ground.data }, { on := 9, ground := Ground.data }], guard := none }) (v := .slice (if cl = i + 1 then some ⟨g, off, none⟩ else some ⟨g, off + (i + 1) * 4, none⟩) (n - (i + 1)) (cl - (i + 1))) rfl (by kernel_rfl) (by kernel_rfl) (by kernel_rfl) (fun _ _ _ h => h) (Or.inl ⟨by rfl, ?_⟩) (by assumption) ?_
        · (intro w' hSw; (try dsimp only at hSw); go_simp)
        try simp only [Act.put, List.setIfInBounds_toArray, List.set_cons_zero, List.set_cons_succ]
        refine wpAnyH_ready (rs := [0]) (by kernel_rfl) (by simp) ?_
        refine AllReadyH.cons (o := { dst := some 5, op := Op.buildSlice 32 0 #[], type := 32, pos := "law.go:56", after := #[], guard := none }) rfl (fun K hK => ?_) ?_
        · skip
          go_simp
          obtain ⟨v1, hv⟩ : ∃ V, V = (W.alloc (.cells #[] TP)).drew := ⟨_, rfl⟩
          rw [← hv]
          have ks : Keep (fun _ => False) W v1 := by rw [hv]; exact ((Keep.refl _ _).alloc _).drew
          have nz1 := Lib.hid (show v1.heap.size = W.heap.size + 1 by rw [hv]; simp)
          have bE1 : v1.heap[W.heap.size]? = some (.cells #[] TP (0, 0)) := by rw [hv]; exact block_drew (block_new W _)
          clear hv
          have kk1 : Keep (fun _ => False) W v1 := ks
          have sz1 := kk1.size
          refine hK.out _ _ kk1.to1 (fun hHeld => ?_)
          clear hK K
          try simp only [Act.put, List.setIfInBounds_toArray, List.set_cons_zero, List.set_cons_succ]
          refine wpAnyH_ready (rs := [5]) (by kernel_rfl) (by simp) ?_
          refine AllReadyH.cons (o := { dst := some 10, op := Op.call { callee := Callee.builtin Builtin.append, args := #[Operand.tmp 5, Operand.tmp 9], argTypes := #[32, 32] }, type := 32, pos := "law.go:56", after := #[{ on := 0, ground := Ground.data }, { on := 4, ground := Ground.data }], guard := none }) rfl (fun K hK => ?_) ?_
          · skip
            obtain ⟨g1, c1, v2, hrun1, rw2, ks, hg1⟩ := app1 bE1 (HG1.out.keep kk1 (fun _ _ e => e.elim)) HNI.out (by rw [List.length_take]; have := HNI.out; have := HN.out; omega)
            go_simp
            have kk2 : Keep (fun _ => False) W v2 := kk1.then ks (fun q e => by have := nz1.out; have := HSZ.out; omega)
            have sz2 := kk2.size
            clear hrun1
            refine hK.out _ _ kk2.to1 (fun hHeld => ?_)
            clear hK K
            try simp only [Act.put, List.setIfInBounds_toArray, List.set_cons_zero, List.set_cons_succ]
            refine wpAnyH_ready (rs := [11]) (by kernel_rfl) (by simp) ?_
            refine AllReadyH.cons (o := { dst := some 16, op := Op.call { callee := Callee.builtin Builtin.append, args := #[Operand.tmp 10, Operand.tmp 15], argTypes := #[32, 32] }, type := 32, pos := "law.go:56", after := #[{ on := 5, ground := Ground.data }, { on := 10, ground := Ground.data }, { on := 5, ground := Ground.chain }], guard := none }) rfl (fun K hK => ?_) ?_
            · skip
              obtain ⟨g2, c2, v3, hrun2, rz3, ks, hg2⟩ := app2 rw2 (HG2.out.keep kk2 (fun _ _ e => e.elim)) HNI.out HNJ.out (by rw [List.length_drop]; have := HN.out; omega)
              go_simp
              have kk3 : Keep (fun _ => False) W v3 := kk2.then ks (fun q e => by have := nz1.out; have := HSZ.out; omega)
              have sz3 := kk3.size
              clear hrun2
              refine hK.out _ _ kk3.to1 (fun hHeld => ?_)
              clear hK K
              try simp only [Act.put, List.setIfInBounds_toArray, List.set_cons_zero, List.set_cons_succ]
              have pm := (kk3.block _ (lt_of_block HM.out) (fun e => e)).trans HM.out
              have p1 : v3.cell? ⟨w.heap.size, 0, none⟩ = some (.slice (some ⟨g, off, none⟩) n cl) := cell_at pm 0
              have p2 : v3.frozen? ⟨w.heap.size, 0, none⟩ = false := free_at pm 0
              clear pm
              refine wpAnyH_take (i := 12) (oi := { dst := some 17, op := Op.fieldAddr 39 (Operand.tmp 2) 0, type := 0, pos := "law.go:56", after := #[{ on := 0, ground := Ground.phase }, { on := 1, ground := Ground.phase }, { on := 2, ground := Ground.phase }, { on := 3, ground := Ground.phase }, { on := 4, ground := Ground.phase }, { on := 5, ground := Ground.phase }, { on := 6, ground := Ground.phase }, { on := 7, ground := Ground.phase }, { on := 8, ground := Ground.phase }, { on := 9, ground := Ground.phase }, { on := 10, ground := Ground.phase }, { on := 11, ground := Ground.phase }], guard := none }) (v := .pointer (some ⟨w.heap.size, 0, none⟩)) rfl (by kernel_rfl) (by kernel_rfl) (by kernel_rfl) (fun _ _ _ h => h) (Or.inl ⟨by rfl, ?_⟩) (by assumption) ?_
              · (intro w' hSw; (try dsimp only at hSw); go_simp)
              try simp only [Act.put, List.setIfInBounds_toArray, List.set_cons_zero, List.set_cons_succ]
              refine wpAnyH_ready (rs := [13]) (by kernel_rfl) (by simp) ?_
              refine AllReadyH.cons (o := { dst := none, op := Op.store 32 (Operand.tmp 17) (Operand.tmp 16), type := 0, pos := "law.go:56", after := #[{ on := 12, ground := Ground.data }, { on := 11, ground := Ground.data }, { on := 11, ground := Ground.chain }, { on := 0, ground := Ground.phase }, { on := 1, ground := Ground.phase }, { on := 2, ground := Ground.phase }, { on := 3, ground := Ground.phase }, { on := 4, ground := Ground.phase }, { on := 5, ground := Ground.phase }, { on := 6, ground := Ground.phase }, { on := 7, ground := Ground.phase }, { on := 8, ground := Ground.phase }, { on := 9, ground := Ground.phase }, { on := 10, ground := Ground.phase }, { on := 11, ground := Ground.phase }], guard := none }) rfl (fun K hK => ?_) AllReadyH.nil
              go_simp
              refine hK.out _ _ (kk3.to1.set1 _ _) (fun hHeld => ?_)
              clear hK K
              try simp only [Act.put, List.setIfInBounds_toArray, List.set_cons_zero, List.set_cons_succ]
              refine wpAnyH_done (by kernel_rfl) ?_ _
              generalize (if cl = i + 1 then some (⟨g, off, none⟩ : Addr) else some (⟨g, off + (i + 1) * 4, none⟩ : Addr)) = aj
              go_wp2_with fail
              go_meet
              exact ⟨_, _, Lib.hid (Wo.mk2 HM.out kk3 rz3 (by have := nz1.out; have := HSZ.out; omega))⟩
            exact AllReadyH.nil
          exact AllReadyH.nil
        exact AllReadyH.nil
      exact AllReadyH.nil
    refine AllReadyH.cons (o := { dst := some 12, op := Op.load 32 (Operand.tmp 11), type := 32, pos := "law.go:56", after := #[{ on := 6, ground := Ground.data }], guard := none }) rfl (fun K hK => ?_) ?_
    · skip
      have p1 : W.cell? ⟨w.heap.size, 0, none⟩ = some (.slice (some ⟨g, off, none⟩) n cl) := cell_at ((kk0.block _ (lt_of_block HM.out) (fun e => e)).trans HM.out) 0
      go_simp
      refine hK.out _ _ kk0.to1 (fun hHeld => ?_)
      clear hK K p1
      try simp only [Act.put, List.setIfInBounds_toArray, List.set_cons_zero, List.set_cons_succ]
      refine wpAnyH_take (i := 10) (oi := { dst := some 15, op := Op.slice 32 (Operand.tmp 12) (some (Operand.tmp 14)) none none, type := 32, pos := "law.go:56", after := #[{ on := 7, ground := Ground.data }, { on := 9, ground := Ground.data }], guard := none }) (v := .slice (if cl = i + 1 then some ⟨g, off, none⟩ else some ⟨g, off + (i + 1) * 4, none⟩) (n - (i + 1)) (cl - (i + 1))) rfl (by kernel_rfl) (by kernel_rfl) (by kernel_rfl) (fun _ _ _ h => h) (Or.inl ⟨by rfl, ?_⟩) (by assumption) ?_
      · (intro w' hSw; (try dsimp only at hSw); go_simp)
      try simp only [Act.put, List.setIfInBounds_toArray, List.set_cons_zero, List.set_cons_succ]
      refine wpAnyH_ready (rs := [0, 2]) (by kernel_rfl) (by simp) ?_
      refine AllReadyH.cons (o := { dst := some 5, op := Op.buildSlice 32 0 #[], type := 32, pos := "law.go:56", after := #[], guard := none }) rfl (fun K hK => ?_) ?_
      · skip
        go_simp
        obtain ⟨v1, hv⟩ : ∃ V, V = (W.alloc (.cells #[] TP)).drew := ⟨_, rfl⟩
        rw [← hv]
        have ks : Keep (fun _ => False) W v1 := by rw [hv]; exact ((Keep.refl _ _).alloc _).drew
        have nz1 := Lib.hid (show v1.heap.size = W.heap.size + 1 by rw [hv]; simp)
        have bE1 : v1.heap[W.heap.size]? = some (.cells #[] TP (0, 0)) := by rw [hv]; exact block_drew (block_new W _)
        clear hv
        have kk1 : Keep (fun _ => False) W v1 := ks
        have sz1 := kk1.size
        refine hK.out _ _ kk1.to1 (fun hHeld => ?_)
        clear hK K
        try simp only [Act.put, List.setIfInBounds_toArray, List.set_cons_zero, List.set_cons_succ]
        refine wpAnyH_ready (rs := [2]) (by kernel_rfl) (by simp) ?_
        refine AllReadyH.cons (o := { dst := some 7, op := Op.load 32 (Operand.tmp 6), type := 32, pos := "law.go:56", after := #[{ on := 1, ground := Ground.data }], guard := none }) rfl (fun K hK => ?_) ?_
        · skip
          have p1 : v1.cell? ⟨w.heap.size, 0, none⟩ = some (.slice (some ⟨g, off, none⟩) n cl) := cell_at ((kk1.block _ (lt_of_block HM.out) (fun e => e)).trans HM.out) 0
          go_simp
          refine hK.out _ _ kk1.to1 (fun hHeld => ?_)
          clear hK K p1
          try simp only [Act.put, List.setIfInBounds_toArray, List.set_cons_zero, List.set_cons_succ]
          refine wpAnyH_take (i := 4) (oi := { dst := some 9, op := Op.slice 32 (Operand.tmp 7) none (some (Operand.tmp 8)) none, type := 32, pos := "law.go:56", after := #[{ on := 2, ground := Ground.data }, { on := 3, ground := Ground.data }], guard := none }) (v := .slice (some ⟨g, off, none⟩) i cl) rfl (by kernel_rfl) (by kernel_rfl) (by kernel_rfl) (fun _ _ _ h => h) (Or.inl ⟨by rfl, ?_⟩) (by assumption) ?_
          · (intro w' hSw; (try dsimp only at hSw); go_simp)
          try simp only [Act.put, List.setIfInBounds_toArray, List.set_cons_zero, List.set_cons_succ]
          refine wpAnyH_ready (rs := [5]) (by kernel_rfl) (by simp) ?_
          refine AllReadyH.cons (o := { dst := some 10, op := Op.call { callee := Callee.builtin Builtin.append, args := #[Operand.tmp 5, Operand.tmp 9], argTypes := #[32, 32] }, type := 32, pos := "law.go:56", after := #[{ on := 0, ground := Ground.data }, { on := 4, ground := Ground.data }], guard := none }) rfl (fun K hK => ?_) ?_
          · skip
            obtain ⟨g1, c1, v2, hrun1, rw2, ks, hg1⟩ := app1 bE1 (HG1.out.keep kk1 (fun _ _ e => e.elim)) HNI.out (by rw [List.length_take]; have := HNI.out; have := HN.out; omega)
            go_simp
            have kk2 : Keep (fun _ => False) W v2 := kk1.then ks (fun q e => by have := nz1.out; have := HSZ.out; omega)
            have sz2 := kk2.size
            clear hrun1
            refine hK.out _ _ kk2.to1 (fun hHeld => ?_)
            clear hK K
            try simp only [Act.put, List.setIfInBounds_toArray, List.set_cons_zero, List.set_cons_succ]
            refine wpAnyH_ready (rs := [11]) (by kernel_rfl) (by simp) ?_
            refine AllReadyH.cons (o := { dst := some 16, op := Op.call { callee := Callee.builtin Builtin.append, args := #[Operand.tmp 10, Operand.tmp 15], argTypes := #[32, 32] }, type := 32, pos := "law.go:56", after := #[{ on := 5, ground := Ground.data }, { on := 10, ground := Ground.data }, { on := 5, ground := Ground.chain }], guard := none }) rfl (fun K hK => ?_) ?_
            · skip
              obtain ⟨g2, c2, v3, hrun2, rz3, ks, hg2⟩ := app2 rw2 (HG2.out.keep kk2 (fun _ _ e => e.elim)) HNI.out HNJ.out (by rw [List.length_drop]; have := HN.out; omega)
              go_simp
              have kk3 : Keep (fun _ => False) W v3 := kk2.then ks (fun q e => by have := nz1.out; have := HSZ.out; omega)
              have sz3 := kk3.size
              clear hrun2
              refine hK.out _ _ kk3.to1 (fun hHeld => ?_)
              clear hK K
              try simp only [Act.put, List.setIfInBounds_toArray, List.set_cons_zero, List.set_cons_succ]
              have pm := (kk3.block _ (lt_of_block HM.out) (fun e => e)).trans HM.out
              have p1 : v3.cell? ⟨w.heap.size, 0, none⟩ = some (.slice (some ⟨g, off, none⟩) n cl) := cell_at pm 0
              have p2 : v3.frozen? ⟨w.heap.size, 0, none⟩ = false := free_at pm 0
              clear pm
              refine wpAnyH_take (i := 12) (oi := { dst := some 17, op := Op.fieldAddr 39 (Operand.tmp 2) 0, type := 0, pos := "law.go:56", after := #[{ on := 0, ground := Ground.phase }, { on := 1, ground := Ground.phase }, { on := 2, ground := Ground.phase }, { on := 3, ground := Ground.phase }, { on := 4, ground := Ground.phase }, { on := 5, ground := Ground.phase }, { on := 6, ground := Ground.phase }, { on := 7, ground := Ground.phase }, { on := 8, ground := Ground.phase }, { on := 9, ground := Ground.phase }, { on := 10, ground := Ground.phase }, { on := 11, ground := Ground.phase }], guard := none }) (v := .pointer (some ⟨w.heap.size, 0, none⟩)) rfl (by kernel_rfl) (by kernel_rfl) (by kernel_rfl) (fun _ _ _ h => h) (Or.inl ⟨by rfl, ?_⟩) (by assumption) ?_
              · (intro w' hSw; (try dsimp only at hSw); go_simp)
              try simp only [Act.put, List.setIfInBounds_toArray, List.set_cons_zero, List.set_cons_succ]
              refine wpAnyH_ready (rs := [13]) (by kernel_rfl) (by simp) ?_
              refine AllReadyH.cons (o := { dst := none, op := Op.store 32 (Operand.tmp 17) (Operand.tmp 16), type := 0, pos := "law.go:56", after := #[{ on := 12, ground := Ground.data }, { on := 11, ground := Ground.data }, { on := 11, ground := Ground.chain }, { on := 0, ground := Ground.phase }, { on := 1, ground := Ground.phase }, { on := 2, ground := Ground.phase }, { on := 3, ground := Ground.phase }, { on := 4, ground := Ground.phase }, { on := 5, ground := Ground.phase }, { on := 6, ground := Ground.phase }, { on := 7, ground := Ground.phase }, { on := 8, ground := Ground.phase }, { on := 9, ground := Ground.phase }, { on := 10, ground := Ground.phase }, { on := 11, ground := Ground.phase }], guard := none }) rfl (fun K hK => ?_) AllReadyH.nil
              go_simp
              refine hK.out _ _ (kk3.to1.set1 _ _) (fun hHeld => ?_)
              clear hK K
              try simp only [Act.put, List.setIfInBounds_toArray, List.set_cons_zero, List.set_cons_succ]
              refine wpAnyH_done (by kernel_rfl) ?_ _
              generalize (if cl = i + 1 then some (⟨g, off, none⟩ : Addr) else some (⟨g, off + (i + 1) * 4, none⟩ : Addr)) = aj
              go_wp2_with fail
              go_meet
              exact ⟨_, _, Lib.hid (Wo.mk2 HM.out kk3 rz3 (by have := nz1.out; have := HSZ.out; omega))⟩
            exact AllReadyH.nil
          exact AllReadyH.nil
        exact AllReadyH.nil
      refine AllReadyH.cons (o := { dst := some 7, op := Op.load 32 (Operand.tmp 6), type := 32, pos := "law.go:56", after := #[{ on := 1, ground := Ground.data }], guard := none }) rfl (fun K hK => ?_) ?_
      · skip
        have p1 : W.cell? ⟨w.heap.size, 0, none⟩ = some (.slice (some ⟨g, off, none⟩) n cl) := cell_at ((kk0.block _ (lt_of_block HM.out) (fun e => e)).trans HM.out) 0
        go_simp
        refine hK.out _ _ kk0.to1 (fun hHeld => ?_)
        clear hK K p1
        try simp only [Act.put, List.setIfInBounds_toArray, List.set_cons_zero, List.set_cons_succ]
        refine wpAnyH_take (i := 4) (oi := { dst := some 9, op := Op.slice 32 (Operand.tmp 7) none (some (Operand.tmp 8)) none, type := 32, pos := "law.go:56", after := #[{ on := 2, ground := Ground.data }, { on := 3, ground := Ground.data }], guard := none }) (v := .slice (some ⟨g, off, none⟩) i cl) rfl (by kernel_rfl) (by kernel_rfl) (by kernel_rfl) (fun _ _ _ h => h) (Or.inl ⟨by rfl, ?_⟩) (by assumption) ?_
        · (intro w' hSw; (try dsimp only at hSw); go_simp)
        try simp only [Act.put, List.setIfInBounds_toArray, List.set_cons_zero, List.set_cons_succ]
        refine wpAnyH_ready (rs := [0]) (by kernel_rfl) (by simp) ?_
        refine AllReadyH.cons (o := { dst := some 5, op := Op.buildSlice 32 0 #[], type := 32, pos := "law.go:56", after := #[], guard := none }) rfl (fun K hK => ?_) ?_
        · skip
          go_simp
          obtain ⟨v1, hv⟩ : ∃ V, V = (W.alloc (.cells #[] TP)).drew := ⟨_, rfl⟩
          rw [← hv]
          have ks : Keep (fun _ => False) W v1 := by rw [hv]; exact ((Keep.refl _ _).alloc _).drew
          have nz1 := Lib.hid (show v1.heap.size = W.heap.size + 1 by rw [hv]; simp)
          have bE1 : v1.heap[W.heap.size]? = some (.cells #[] TP (0, 0)) := by rw [hv]; exact block_drew (block_new W _)
          clear hv
          have kk1 : Keep (fun _ => False) W v1 := ks
          have sz1 := kk1.size
          refine hK.out _ _ kk1.to1 (fun hHeld => ?_)
          clear hK K
          try simp only [Act.put, List.setIfInBounds_toArray, List.set_cons_zero, List.set_cons_succ]
          refine wpAnyH_ready (rs := [5]) (by kernel_rfl) (by simp) ?_
          refine AllReadyH.cons (o := { dst := some 10, op := Op.call { callee := Callee.builtin Builtin.append, args := #[Operand.tmp 5, Operand.tmp 9], argTypes := #[32, 32] }, type := 32, pos := "law.go:56", after := #[{ on := 0, ground := Ground.data }, { on := 4, ground := Ground.data }], guard := none }) rfl (fun K hK => ?_) ?_
          · skip
            obtain ⟨g1, c1, v2, hrun1, rw2, ks, hg1⟩ := app1 bE1 (HG1.out.keep kk1 (fun _ _ e => e.elim)) HNI.out (by rw [List.length_take]; have := HNI.out; have := HN.out; omega)
            go_simp
            have kk2 : Keep (fun _ => False) W v2 := kk1.then ks (fun q e => by have := nz1.out; have := HSZ.out; omega)
            have sz2 := kk2.size
            clear hrun1
            refine hK.out _ _ kk2.to1 (fun hHeld => ?_)
            clear hK K
            try simp only [Act.put, List.setIfInBounds_toArray, List.set_cons_zero, List.set_cons_succ]
            refine wpAnyH_ready (rs := [11]) (by kernel_rfl) (by simp) ?_
            refine AllReadyH.cons (o := { dst := some 16, op := Op.call { callee := Callee.builtin Builtin.append, args := #[Operand.tmp 10, Operand.tmp 15], argTypes := #[32, 32] }, type := 32, pos := "law.go:56", after := #[{ on := 5, ground := Ground.data }, { on := 10, ground := Ground.data }, { on := 5, ground := Ground.chain }], guard := none }) rfl (fun K hK => ?_) ?_
            · skip
              obtain ⟨g2, c2, v3, hrun2, rz3, ks, hg2⟩ := app2 rw2 (HG2.out.keep kk2 (fun _ _ e => e.elim)) HNI.out HNJ.out (by rw [List.length_drop]; have := HN.out; omega)
              go_simp
              have kk3 : Keep (fun _ => False) W v3 := kk2.then ks (fun q e => by have := nz1.out; have := HSZ.out; omega)
              have sz3 := kk3.size
              clear hrun2
              refine hK.out _ _ kk3.to1 (fun hHeld => ?_)
              clear hK K
              try simp only [Act.put, List.setIfInBounds_toArray, List.set_cons_zero, List.set_cons_succ]
              have pm := (kk3.block _ (lt_of_block HM.out) (fun e => e)).trans HM.out
              have p1 : v3.cell? ⟨w.heap.size, 0, none⟩ = some (.slice (some ⟨g, off, none⟩) n cl) := cell_at pm 0
              have p2 : v3.frozen? ⟨w.heap.size, 0, none⟩ = false := free_at pm 0
              clear pm
              refine wpAnyH_take (i := 12) (oi := { dst := some 17, op := Op.fieldAddr 39 (Operand.tmp 2) 0, type := 0, pos := "law.go:56", after := #[{ on := 0, ground := Ground.phase }, { on := 1, ground := Ground.phase }, { on := 2, ground := Ground.phase }, { on := 3, ground := Ground.phase }, { on := 4, ground := Ground.phase }, { on := 5, ground := Ground.phase }, { on := 6, ground := Ground.phase }, { on := 7, ground := Ground.phase }, { on := 8, ground := Ground.phase }, { on := 9, ground := Ground.phase }, { on := 10, ground := Ground.phase }, { on := 11, ground := Ground.phase }], guard := none }) (v := .pointer (some ⟨w.heap.size, 0, none⟩)) rfl (by kernel_rfl) (by kernel_rfl) (by kernel_rfl) (fun _ _ _ h => h) (Or.inl ⟨by rfl, ?_⟩) (by assumption) ?_
              · (intro w' hSw; (try dsimp only at hSw); go_simp)
              try simp only [Act.put, List.setIfInBounds_toArray, List.set_cons_zero, List.set_cons_succ]
              refine wpAnyH_ready (rs := [13]) (by kernel_rfl) (by simp) ?_
              refine AllReadyH.cons (o := { dst := none, op := Op.store 32 (Operand.tmp 17) (Operand.tmp 16), type := 0, pos := "law.go:56", after := #[{ on := 12, ground := Ground.data }, { on := 11, ground := Ground.data }, { on := 11, ground := Ground.chain }, { on := 0, ground := Ground.phase }, { on := 1, ground := Ground.phase }, { on := 2, ground := Ground.phase }, { on := 3, ground := Ground.phase }, { on := 4, ground := Ground.phase }, { on := 5, ground := Ground.phase }, { on := 6, ground := Ground.phase }, { on := 7, ground := Ground.phase }, { on := 8, ground := Ground.phase }, { on := 9, ground := Ground.phase }, { on := 10, ground := Ground.phase }, { on := 11, ground := Ground.phase }], guard := none }) rfl (fun K hK => ?_) AllReadyH.nil
              go_simp
              refine hK.out _ _ (kk3.to1.set1 _ _) (fun hHeld => ?_)
              clear hK K
              try simp only [Act.put, List.setIfInBounds_toArray, List.set_cons_zero, List.set_cons_succ]
              refine wpAnyH_done (by kernel_rfl) ?_ _
              generalize (if cl = i + 1 then some (⟨g, off, none⟩ : Addr) else some (⟨g, off + (i + 1) * 4, none⟩ : Addr)) = aj
              go_wp2_with fail
              go_meet
              exact ⟨_, _, Lib.hid (Wo.mk2 HM.out kk3 rz3 (by have := nz1.out; have := HSZ.out; omega))⟩
            exact AllReadyH.nil
          exact AllReadyH.nil
        exact AllReadyH.nil
      exact AllReadyH.nil
    exact AllReadyH.nil
  case rest =>
    obtain ⟨g2, c2, hO⟩ := hcut
    obtain ⟨n2, hn2⟩ : ∃ n2, n2 = i + (n - (i + 1)) := ⟨_, rfl⟩
    rw [← hn2] at hO
    have hn3 : n2 = n - 1 := by omega
    have HN3 := Lib.hid hn3
    have m0 := cell_at hO.out.m 0
    have m1 := cell_at hO.out.m 1
    have hz := (hO.out.k.block _ (lt_of_block HZ.out) (by omega)).trans HZ.out
    have x0 := cell_at hz 0
    have y0 := free_at hz 0
    have hz1 := block_set hz 0 (.slice (some ⟨g2, 0, none⟩) n2 c2)
    have x1 := cell_at hz1 1
    have y1 := free_at hz1 1
    have hz2 := block_set hz1 1 (.slice ac m cc)
    have kZ : Keep (fun j => j = w.heap.size + 1) wc ((wc.setCell ⟨w.heap.size + 1, 0, none⟩ (.slice (some ⟨g2, 0, none⟩) n2 c2)).setCell ⟨w.heap.size + 1, 1, none⟩ (.slice ac m cc)) := ((Keep.refl (fun j => j = w.heap.size + 1) wc).set1 _ _).set1 _ _
    have HQ := Lib.hid hz2
    have HKZ := Lib.hid kZ
    simp at m0 m1 x0 x1
    clear hz hz1 hz2 kZ hn3 hn2
    go_wp2_with fail
    have q0 := cell_at HQ.out 0
    have q1 := cell_at HQ.out 1
    simp at q0 q1
    refine bodyPost_ret (v := .agg #[.slice (some ⟨g2, 0, none⟩) n2 c2, .slice ac m cc]) ?_ rfl ⟨g2, c2, by rw [← HN3.out], ?_, ?_, ?_⟩
    · simp [results, Try.results26, go_sem, q0, q1]
    · rw [← HN3.out]
      refine owns_keep hO.out.r HKZ.out (fun q e f => ?_)
      have : g2 = q := by simpa [Value.ownBlock] using e
      have := hO.out.g
      have := HSZ.out
      omega
    · have := hO.out.g
      have := HSZ.out
      omega
    · exact (HKW.out.then hO.out.k (fun q e => by omega)).then HKZ.out (fun q e => by omega)

end Go.Proofs.Ytdmdegjomikmlaa.NetO
