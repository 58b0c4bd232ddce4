/-
  Layer 22 (net): Send, ways cut or not.
-/
import Derived.Test.YtdmdegjomikmlaaNetF
namespace Go.Proofs.Ytdmdegjomikmlaa.NetG
set_option linter.unusedVariables false
set_option linter.unusedSimpArgs false
open Go.RowKit Go.Proofs.Ytdmdegjomikmlaa.Mem Go.Proofs.Ytdmdegjomikmlaa.NetM Go.Proofs.Ytdmdegjomikmlaa.NetW Go.Proofs.Ytdmdegjomikmlaa.NetS
attribute [-go_sem] Instr.loadAt loadVar
attribute [local go_sem] loadAt_ptr lv_int lv_bool lv_string lv_u8 lv_ps lv_map

set_option maxHeartbeats 16000000 in
theorem send_gen {w : World} {F : Nat → Prop} {b n mb : Nat} {ps : List Pk} {S : Int → Int → Bool} {v : Value} (h : NetAt w F b ps n S v mb) (hF : ∀ k, F k → k < w.heap.size) (qs : List Pk) (X cap : Nat) (hXF : ¬ F X) (hX : X < w.heap.size)
    (hq : ∀ i p, qs[i]? = some p → ∀ j, j < 4 → w.cell? ⟨X, i * 4 + j, none⟩ = p.cells[j]?) (hok : ∀ p ∈ qs, p.Ok) (hn : ps.length + qs.length ≤ 100000) :
    Calls Try.prog 10 #[.pointer (some ⟨b, 0, none⟩), .slice (some ⟨X, 0, none⟩) qs.length cap] w fun e w' => e = .returned (.int .i64 (snd S ps qs).2) ∧
      ∃ F' v', NetAt w' F' b (snd S ps qs).1 n S v' mb ∧ (∀ k, F' k → k < w'.heap.size) ∧ (∀ k, F' k → F k ∨ w.heap.size ≤ k) ∧ Keep F w w' := by
  obtain ⟨m, hm⟩ : ∃ m, m = qs.length := ⟨_, rfl⟩
  rw [← hm] at hn ⊢
  have H := Lib.hid h
  have HF := Lib.hid hF
  have HQ := Lib.hid hq
  have HO := Lib.hid hok
  have HM := Lib.hid hm
  have HX := Lib.hid hXF
  clear h hF hq hok hm hXF
  obtain ⟨i0, hi, hz0, hz1, hz2⟩ := info_parts infoPk
  go_enter Try.func10, Try.ntmps10
  go_wp2_with fail
  go_loopw [5, 12] (fun xm xi wr => ∃ (k c : Nat) (L : List Pk) (F' : Nat → Prop) (v' : Value), k ≤ m ∧ c ≤ k ∧ Hid (snd S ps (qs.take k) = (L, c)) ∧ Hid (L.length ≤ ps.length + k) ∧ xi = .int .i64 k ∧ xm = .int .i64 c ∧ NetAt wr F' b L n S v' mb ∧ Hid (∀ k, F' k → k < wr.heap.size) ∧ Hid (∀ k, F' k → F k ∨ w.heap.size ≤ k) ∧ Hid (Keep F w wr)) (fun xm xi wr => m - (intOf xi).toNat)
  case atStart => exact ⟨0, 0, ps, F, v, by omega, by omega, Lib.hid rfl, Lib.hid (by omega), rfl, rfl, H.out, HF, Lib.hid (fun k e => .inl e), Lib.hid (Keep.refl _ _)⟩
  case round =>
    obtain ⟨k, c, L, F', v', hk, hck, hL, hLl, rfl, rfl, hN, hF1, hF2, hK⟩ := hrel
    have hsz := hK.out.size
    have HN := Lib.hid hN
    clear hN
    by_cases hlt : k < m
    · obtain ⟨p, hp⟩ : ∃ p, qs[k]? = some p := ⟨qs[k]'(by have := HM.out; omega), List.getElem?_eq_getElem _⟩
      have hpo := HO.out p (List.mem_of_getElem? hp)
      have hXw : X < wr.heap.size := by omega
      have ld := load_pk wr X (k * 4) p (fun j hj => (hK.out.cell (p := ⟨X, _, none⟩) hX HX.out).trans (HQ.out k p hp j hj))
      have hsn := snd_snoc S ps (qs.take k) p
      rw [← take_snoc' qs k p hp, hL.out] at hsn
      have Hsn := Lib.hid hsn
      obtain ⟨wf1, wf2, wf3⟩ := hpo
      obtain ⟨fr, to_, s, sp⟩ := p
      simp only at ld wf1 wf2 wf3
      have hmm := wf_minmax wf1 wf2
      have ld2 := load_new wr ⟨fr, to_, s, sp⟩
      simp only at ld2
      -- the world with the packet's box
      obtain ⟨u, hu⟩ : ∃ u, u = wr.alloc (.cells #[.int .i64 fr, .int .i64 to_, .string s, .bool sp] TP) := ⟨_, rfl⟩
      have ku : Keep (fun _ => False) wr u := by rw [hu]; exact (Keep.refl _ _).alloc _
      have hbx : u.heap[wr.heap.size]? = some (.cells #[.int .i64 fr, .int .i64 to_, .string s, .bool sp] TP (0, 0)) := by rw [hu]; exact block_new wr _
      have Hu := Lib.hid hu
      have Ku := Lib.hid ku
      have Hbx := Lib.hid hbx
      cases hsv : S (min fr to_) (max fr to_)
      rotate_left
      · have Hsv := Lib.hid hsv
        have hS : ∀ w', Keep (fun _ => False) u w' → w'.cell? ⟨b, 1, none⟩ = some (.map (some mb)) ∧ w'.cell? ⟨wr.heap.size, 0, none⟩ = some (.int .i64 fr) ∧ w'.cell? ⟨wr.heap.size, 1, none⟩ = some (.int .i64 to_) ∧ (Instr.lookup TM (.map (some mb)) (.agg #[.int .i64 (min fr to_), .int .i64 (max fr to_)]) false).run Try.prog w' = .ok (.bool true) w' := fun w' kk => by
          have hb2 := (HN.out.keep0 (Ku.out.trans kk))
          have hb3 := (kk.block wr.heap.size (lt_of_block Hbx.out) (fun e => e)).trans Hbx.out
          exact ⟨cell_at hb2.h 1, cell_at hb3 0, cell_at hb3 1, by have q := hb2.c.look _ _ hmm.1 hmm.2; rw [Hsv.out] at q; exact q⟩
        have HS := Lib.hid hS
        clear hsn hu ku hbx hS hsv
        go_wp2_with fail
        rw [← Hu.out]
        refine wp_region_held_drew (S := (fun w' => Keep (fun _ => False) u w' ∧ w'.cell? ⟨b, 1, none⟩ = some (.map (some mb)) ∧ w'.cell? ⟨wr.heap.size, 0, none⟩ = some (.int .i64 fr) ∧ w'.cell? ⟨wr.heap.size, 1, none⟩ = some (.int .i64 to_) ∧ (Instr.lookup TM (.map (some mb)) (.agg #[.int .i64 (min fr to_), .int .i64 (max fr to_)]) false).run Try.prog w' = .ok (.bool true) w')) (by kernel_rfl) ?_ (fun hHeld => ?_)
        · exact ⟨(Keep.refl (fun _ => False) u).drew, HS.out _ ((Keep.refl _ u).drew)⟩
        refine wpAnyH_take (i := 0) (oi := { dst := some 16, op := Op.move (Operand.tmp 0), type := 23, pos := "net.go:32", after := #[], guard := none }) (v := .pointer (some ⟨b, 0, none⟩)) rfl (by kernel_rfl) (by kernel_rfl) (by kernel_rfl) (fun _ _ _ h => h) (Or.inl ⟨by rfl, ?_⟩) (by assumption) ?_
        · (intro w' hSw; (try dsimp only at hSw); go_simp)
        try simp only [Act.put, List.setIfInBounds_toArray, List.set_cons_zero, List.set_cons_succ]
        refine wpAnyH_take (i := 1) (oi := { dst := some 17, op := Op.nilCheck (Operand.tmp 16), type := 0, pos := "net.go:32", after := #[{ on := 0, ground := Ground.data }], guard := none }) (v := .pointer (some ⟨b, 0, none⟩)) rfl (by kernel_rfl) (by kernel_rfl) (by kernel_rfl) (fun _ _ _ h => h) (Or.inl ⟨by rfl, ?_⟩) (by assumption) ?_
        · (intro w' hSw; (try dsimp only at hSw); go_simp)
        try simp only [Act.put, List.setIfInBounds_toArray, List.set_cons_zero, List.set_cons_succ]
        refine wpAnyH_take (i := 2) (oi := { dst := some 18, op := Op.fieldAddr TN (Operand.tmp 17) 1, type := 0, pos := "net.go:32", after := #[{ on := 1, ground := Ground.data }], guard := none }) (v := .pointer (some ⟨b, 1, none⟩)) rfl (by kernel_rfl) (by kernel_rfl) (by kernel_rfl) (fun _ _ _ h => h) (Or.inl ⟨by rfl, ?_⟩) (by assumption) ?_
        · (intro w' hSw; (try dsimp only at hSw); go_simp)
        try simp only [Act.put, List.setIfInBounds_toArray, List.set_cons_zero, List.set_cons_succ]
        refine wpAnyH_take (i := 3) (oi := { dst := some 19, op := Op.load TM (Operand.tmp 18), type := TM, pos := "net.go:32", after := #[{ on := 2, ground := Ground.data }], guard := none }) (v := .map (some mb)) rfl (by kernel_rfl) (by kernel_rfl) (by kernel_rfl) (fun _ _ _ h => h) (Or.inl ⟨by rfl, ?_⟩) (by assumption) ?_
        · (intro w' hSw; (try dsimp only at hSw); go_simp)
        try simp only [Act.put, List.setIfInBounds_toArray, List.set_cons_zero, List.set_cons_succ]
        refine wpAnyH_take (i := 4) (oi := { dst := some 20, op := Op.fieldAddr TP (Operand.tmp 7) 0, type := 0, pos := "net.go:32", after := #[], guard := none }) (v := .pointer (some ⟨wr.heap.size, 0, none⟩)) rfl (by kernel_rfl) (by kernel_rfl) (by kernel_rfl) (fun _ _ _ h => h) (Or.inl ⟨by rfl, ?_⟩) (by assumption) ?_
        · (intro w' hSw; (try dsimp only at hSw); go_simp)
        try simp only [Act.put, List.setIfInBounds_toArray, List.set_cons_zero, List.set_cons_succ]
        refine wpAnyH_take (i := 5) (oi := { dst := some 21, op := Op.load 3 (Operand.tmp 20), type := 3, pos := "net.go:32", after := #[{ on := 4, ground := Ground.data }], guard := none }) (v := .int .i64 fr) rfl (by kernel_rfl) (by kernel_rfl) (by kernel_rfl) (fun _ _ _ h => h) (Or.inl ⟨by rfl, ?_⟩) (by assumption) ?_
        · (intro w' hSw; (try dsimp only at hSw); go_simp)
        try simp only [Act.put, List.setIfInBounds_toArray, List.set_cons_zero, List.set_cons_succ]
        refine wpAnyH_take (i := 6) (oi := { dst := some 22, op := Op.fieldAddr TP (Operand.tmp 7) 1, type := 0, pos := "net.go:32", after := #[], guard := none }) (v := .pointer (some ⟨wr.heap.size, 1, none⟩)) rfl (by kernel_rfl) (by kernel_rfl) (by kernel_rfl) (fun _ _ _ h => h) (Or.inl ⟨by rfl, ?_⟩) (by assumption) ?_
        · (intro w' hSw; (try dsimp only at hSw); go_simp)
        try simp only [Act.put, List.setIfInBounds_toArray, List.set_cons_zero, List.set_cons_succ]
        refine wpAnyH_take (i := 7) (oi := { dst := some 23, op := Op.load 3 (Operand.tmp 22), type := 3, pos := "net.go:32", after := #[{ on := 6, ground := Ground.data }], guard := none }) (v := .int .i64 to_) rfl (by kernel_rfl) (by kernel_rfl) (by kernel_rfl) (fun _ _ _ h => h) (Or.inl ⟨by rfl, ?_⟩) (by assumption) ?_
        · (intro w' hSw; (try dsimp only at hSw); go_simp)
        try simp only [Act.put, List.setIfInBounds_toArray, List.set_cons_zero, List.set_cons_succ]
        refine wpAnyH_ready (rs := [8]) (by kernel_rfl) (by simp) ?_
        refine AllReadyH.cons (o := { dst := some 24, op := Op.call { callee := Callee.value (Operand.func 20), args := #[Operand.tmp 21, Operand.tmp 23], argTypes := #[3, 3] }, type := TW, pos := "net.go:32", after := #[{ on := 5, ground := Ground.data }, { on := 7, ground := Ground.data }], guard := none }) rfl (fun K hK => ?_) AllReadyH.nil
        go_simp
        go_at_call 20
        refine (both_any fr to_ _).mono ?_
        rintro e w1 ⟨rfl, k1⟩
        go_simp
        have kk : Keep (fun _ => False) u w1 := ((Keep.refl (fun _ => False) u).drew).trans (Keep.of0 k1)
        refine hK.out _ _ ⟨kk, HS.out _ kk⟩ (fun hHeld => ?_)
        clear hK K
        try simp only [Act.put, List.setIfInBounds_toArray, List.set_cons_zero, List.set_cons_succ]
        refine wpAnyH_take (i := 9) (oi := { dst := some 25, op := Op.lookup TM (Operand.tmp 19) (Operand.tmp 24) false, type := 4, pos := "net.go:32", after := #[{ on := 3, ground := Ground.data }, { on := 8, ground := Ground.data }], guard := none }) (v := .bool true) rfl (by kernel_rfl) (by kernel_rfl) (by kernel_rfl) (fun _ _ _ h => h) (Or.inl ⟨by rfl, ?_⟩) (by assumption) ?_
        · (intro w' hSw; (try dsimp only at hSw); go_simp)
        try simp only [Act.put, List.setIfInBounds_toArray, List.set_cons_zero, List.set_cons_succ]
        refine wpAnyH_take (i := 10) (oi := { dst := some 26, op := Op.move (Operand.tmp 25), type := 4, pos := "net.go:32", after := #[{ on := 9, ground := Ground.data }, { on := 8, ground := Ground.chain }], guard := none }) (v := .bool true) rfl (by kernel_rfl) (by kernel_rfl) (by kernel_rfl) (fun _ _ _ h => h) (Or.inl ⟨by rfl, ?_⟩) (by assumption) ?_
        · (intro w' hSw; (try dsimp only at hSw); go_simp)
        try simp only [Act.put, List.setIfInBounds_toArray, List.set_cons_zero, List.set_cons_succ]
        refine wpAnyH_take (i := 11) (oi := { dst := some 27, op := Op.move (Operand.tmp 0), type := 23, pos := "net.go:32", after := #[{ on := 10, ground := Ground.guard }], guard := some (10, false) }) (v := undef) rfl (by kernel_rfl) (by kernel_rfl) (by kernel_rfl) (fun _ _ _ h => h) (Or.inr ⟨by rfl, rfl⟩) (by assumption) ?_
        try simp only [Act.put, List.setIfInBounds_toArray, List.set_cons_zero, List.set_cons_succ]
        refine wpAnyH_take (i := 12) (oi := { dst := some 28, op := Op.fieldAddr TP (Operand.tmp 7) 0, type := 0, pos := "net.go:32", after := #[{ on := 10, ground := Ground.guard }], guard := some (10, false) }) (v := undef) rfl (by kernel_rfl) (by kernel_rfl) (by kernel_rfl) (fun _ _ _ h => h) (Or.inr ⟨by rfl, rfl⟩) (by assumption) ?_
        try simp only [Act.put, List.setIfInBounds_toArray, List.set_cons_zero, List.set_cons_succ]
        refine wpAnyH_take (i := 13) (oi := { dst := some 29, op := Op.load 3 (Operand.tmp 28), type := 3, pos := "net.go:32", after := #[{ on := 12, ground := Ground.data }, { on := 10, ground := Ground.guard }], guard := some (10, false) }) (v := undef) rfl (by kernel_rfl) (by kernel_rfl) (by kernel_rfl) (fun _ _ _ h => h) (Or.inr ⟨by rfl, rfl⟩) (by assumption) ?_
        try simp only [Act.put, List.setIfInBounds_toArray, List.set_cons_zero, List.set_cons_succ]
        refine wpAnyH_take (i := 14) (oi := { dst := some 30, op := Op.fieldAddr TP (Operand.tmp 7) 1, type := 0, pos := "net.go:32", after := #[{ on := 10, ground := Ground.guard }], guard := some (10, false) }) (v := undef) rfl (by kernel_rfl) (by kernel_rfl) (by kernel_rfl) (fun _ _ _ h => h) (Or.inr ⟨by rfl, rfl⟩) (by assumption) ?_
        try simp only [Act.put, List.setIfInBounds_toArray, List.set_cons_zero, List.set_cons_succ]
        refine wpAnyH_take (i := 15) (oi := { dst := some 31, op := Op.load 3 (Operand.tmp 30), type := 3, pos := "net.go:32", after := #[{ on := 14, ground := Ground.data }, { on := 10, ground := Ground.guard }], guard := some (10, false) }) (v := undef) rfl (by kernel_rfl) (by kernel_rfl) (by kernel_rfl) (fun _ _ _ h => h) (Or.inr ⟨by rfl, rfl⟩) (by assumption) ?_
        try simp only [Act.put, List.setIfInBounds_toArray, List.set_cons_zero, List.set_cons_succ]
        refine wpAnyH_take (i := 16) (oi := { dst := some 32, op := Op.call { callee := Callee.value (Operand.func 21), args := #[Operand.tmp 27, Operand.tmp 29, Operand.tmp 31], argTypes := #[23, 3, 3] }, type := 3, pos := "net.go:32", after := #[{ on := 11, ground := Ground.data }, { on := 13, ground := Ground.data }, { on := 15, ground := Ground.data }, { on := 10, ground := Ground.chain }, { on := 10, ground := Ground.guard }], guard := some (10, false) }) (v := undef) rfl (by kernel_rfl) (by kernel_rfl) (by kernel_rfl) (fun _ _ _ h => h) (Or.inr ⟨by rfl, rfl⟩) (by assumption) ?_
        try simp only [Act.put, List.setIfInBounds_toArray, List.set_cons_zero, List.set_cons_succ]
        refine wpAnyH_take (i := 17) (oi := { dst := some 33, op := Op.binOp BinOp.geq 3 (Operand.tmp 32) (Operand.const (Value.int IntKind.i64 64)) 3, type := 4, pos := "net.go:32", after := #[{ on := 16, ground := Ground.data }, { on := 10, ground := Ground.guard }], guard := some (10, false) }) (v := undef) rfl (by kernel_rfl) (by kernel_rfl) (by kernel_rfl) (fun _ _ _ h => h) (Or.inr ⟨by rfl, rfl⟩) (by assumption) ?_
        try simp only [Act.put, List.setIfInBounds_toArray, List.set_cons_zero, List.set_cons_succ]
        refine wpAnyH_take (i := 18) (oi := { dst := some 34, op := Op.pick (Operand.tmp 26) (Operand.const (Value.bool true)) (Operand.tmp 33), type := 4, pos := "net.go:32", after := #[{ on := 10, ground := Ground.data }, { on := 17, ground := Ground.data }], guard := none }) (v := .bool true) rfl (by kernel_rfl) (by kernel_rfl) (by kernel_rfl) (fun _ _ _ h => h) (Or.inl ⟨by rfl, ?_⟩) (by assumption) ?_
        · (intro w' hSw; (try dsimp only at hSw); go_simp)
        try simp only [Act.put, List.setIfInBounds_toArray, List.set_cons_zero, List.set_cons_succ]
        refine wpAnyH_done (by kernel_rfl) ?_ _
        have K2 := Lib.hid (Ku.out.trans kk)
        have hfin : stp S (L, c) ⟨fr, to_, s, sp⟩ = (L, c) := by unfold stp; rw [if_pos (.inl Hsv.out)]
        have Hfin := Lib.hid hfin
        clear hfin kk hHeld HS ld ld2 k1
        go_wp2_with fail
        go_roundw
        case rel => exact ⟨k + 1, c, L, F', v', by omega, by omega, Lib.hid (by rw [Hsn.out]; exact Hfin.out), Lib.hid (by have := hLl.out; omega), by go_num, rfl, HN.out.keep0 K2.out, Lib.hid (fun i hi => Nat.lt_of_lt_of_le (hF1.out i hi) K2.out.size), hF2, Lib.hid (hK.out.trans K2.out.toAny)⟩
        case measure => simp [intOf]; omega
      have Hsv := Lib.hid hsv
      clear hsv
      have hS : ∀ w', Keep (fun _ => False) u w' → w'.cell? ⟨b, 1, none⟩ = some (.map (some mb)) ∧ w'.cell? ⟨wr.heap.size, 0, none⟩ = some (.int .i64 fr) ∧ w'.cell? ⟨wr.heap.size, 1, none⟩ = some (.int .i64 to_) ∧ (Instr.lookup TM (.map (some mb)) (.agg #[.int .i64 (min fr to_), .int .i64 (max fr to_)]) false).run Try.prog w' = .ok (.bool false) w' := fun w' kk => by
        have hb2 := (HN.out.keep0 (Ku.out.trans kk))
        have hb3 := (kk.block wr.heap.size (lt_of_block Hbx.out) (fun e => e)).trans Hbx.out
        exact ⟨cell_at hb2.h 1, cell_at hb3 0, cell_at hb3 1, by have q := hb2.c.look _ _ hmm.1 hmm.2; rw [show S (min fr to_) (max fr to_) = false from Hsv.out] at q; exact q⟩
      have hCN : ∀ w', Keep (fun _ => False) u w' → Calls Try.prog 21 #[.pointer (some ⟨b, 0, none⟩), .int .i64 fr, .int .i64 to_] w' fun e w'' => e = .returned (.int .i64 (cnt fr to_ L)) ∧ Below w'.heap.size w' w'' := fun w' kk =>
        count_at (HN.out.keep0 (Ku.out.trans kk)) fr to_ (by have := hLl.out; omega)
      have HS := Lib.hid hS
      have HC := Lib.hid hCN
      clear hsn hu ku hbx hS hCN
      go_wp2_with fail
      rw [← Hu.out]
      go_region_held3 (fun w' => w'.cell? ⟨b, 1, none⟩ = some (.map (some mb)) ∧ w'.cell? ⟨wr.heap.size, 0, none⟩ = some (.int .i64 fr) ∧ w'.cell? ⟨wr.heap.size, 1, none⟩ = some (.int .i64 to_) ∧ (Instr.lookup TM (.map (some mb)) (.agg #[.int .i64 (min fr to_), .int .i64 (max fr to_)]) false).run Try.prog w' = .ok (.bool false) w')
        (first
          | exact HS.out _ ((Keep.refl _ u).drew)
          | exact HS.out _ (((Keep.refl _ u).drew).trans (Keep.of0 k1))
          | exact HS.out _ ((((Keep.refl _ u).drew).trans (Keep.of0 k1)).trans (Keep.of0 k2)))
        (first
          | (go_at_call 20; refine (both_any fr to_ _).mono ?_; rintro e w1 ⟨rfl, k1⟩)
          | (go_at_call 21; refine (HC.out w1 (((Keep.refl _ u).drew).trans (Keep.of0 k1))).mono ?_; rintro e w2 ⟨rfl, k2⟩))

      have K2 := Lib.hid ((Ku.out.trans (Keep.refl _ u).drew).trans ((Keep.of0 k1).trans (Keep.of0 k2)))
      have hb2 := (HN.out.keep0 K2.out)
      have hbx2 : w2.heap[wr.heap.size]? = some (.cells #[.int .i64 fr, .int .i64 to_, .string s, .bool sp] TP (0, 0)) := ((((Keep.refl (fun _ => False) u).drew).trans ((Keep.of0 k1).trans (Keep.of0 k2))).block _ (lt_of_block Hbx.out) (fun e => e)).trans Hbx.out
      have HN2 := Lib.hid hb2
      have Hbx2 := Lib.hid hbx2
      have hcl := cnt_le fr to_ L
      obtain ⟨ct, hct⟩ : ∃ ct, cnt fr to_ L = ct := ⟨_, rfl⟩
      rw [hct] at hcl ⊢
      have Hct := Lib.hid hct
      clear hb2 hbx2 hct k1 k2 ld ld2 HS HC
      by_cases h64 : 64 ≤ ct
      · have hfin : stp S (L, c) ⟨fr, to_, s, sp⟩ = (L, c) := by unfold stp; rw [if_pos (.inr (by show 64 ≤ cnt fr to_ L; rw [Hct.out]; exact h64))]
        have Hfin := Lib.hid hfin
        clear hfin
        go_wp2_with fail
        go_roundw
        case rel => exact ⟨k + 1, c, L, F', v', by omega, by omega, Lib.hid (by rw [Hsn.out]; exact Hfin.out), Lib.hid (by have := hLl.out; omega), by go_num, rfl, HN2.out, Lib.hid (fun i hi => Nat.lt_of_lt_of_le (hF1.out i hi) K2.out.size), hF2, Lib.hid (hK.out.trans K2.out.toAny)⟩
        case measure => simp [intOf]; omega
      · have hfin : stp S (L, c) ⟨fr, to_, s, sp⟩ = (L ++ [⟨fr, to_, s, sp⟩], c + 1) := by
          unfold stp
          rw [if_neg]
          intro h
          rcases h with h | h
          · exact Bool.false_ne_true (Hsv.out.symm.trans h)
          · have h' : 64 ≤ cnt fr to_ L := h
            rw [Hct.out] at h'; exact h64 h'
        have Hfin := Lib.hid hfin
        obtain ⟨ao, cp0, hv'⟩ := owns_slice HN2.out.o
        subst hv'
        have c0 : w2.cell? ⟨b, 0, none⟩ = some (.slice ao L.length cp0) := cell_at HN2.out.h 0
        have hbw := lt_of_block HN2.out.h
        have ld3 : (loadVar 27 ⟨wr.heap.size, 0, none⟩).run Try.prog w2 = _ := load_pk w2 wr.heap.size 0 ⟨fr, to_, s, sp⟩ (fun j hj => by rw [Nat.zero_add, cell_at Hbx2.out j]; simp [Pk.cells])
        simp only at ld3
        clear hfin
        have ld3' : (loadVar 27 ⟨wr.heap.size, 0, none⟩).run Try.prog w2.drew = .ok (.agg #[.int .i64 fr, .int .i64 to_, .string s, .bool sp]) w2.drew := load_pk w2.drew wr.heap.size 0 ⟨fr, to_, s, sp⟩ (fun j hj => by rw [Nat.zero_add]; exact (cell_at (block_drew Hbx2.out) j).trans (by simp [Pk.cells]))
        have ha := fun o i => World.cell?_alloc_past (w := w2) o b i hbw
        have ow : ∀ o, (w2.alloc o).drew.ownsRow 0 27 4 (.slice ao L.length cp0) L.length (flat L) := fun o => owns_drew (HN2.out.o.alloc o)
        have nw : ∀ j u, [.int .i64 fr, .int .i64 to_, .string s, .bool sp][j]? = some u → (w2.alloc (.cells #[.int .i64 fr, .int .i64 to_, .string s, .bool sp] 27)).drew.cell? ((⟨w2.heap.size, 0, none⟩ : Addr).add j) = some u := World.news_of_block (block_drew (block_new w2 _))
        have on1 : ∀ u ∈ ([.int .i64 fr, .int .i64 to_, .string s, .bool sp] : List Value), u.oneCell' = true := by simp [Value.oneCell']
        have hLb : L.length ≤ 100000 := by have := hLl.out; omega
        have h63 : L.length + 1 ≤ maxLen := by unfold maxLen; omega
        have hby : (L.length + 1) * 40 ≤ 140737488355328 := by omega
        have How := Lib.hid ow
        have Hon := Lib.hid on1
        have Hnw := Lib.hid nw
        clear ow on1 nw ld3
        go_wp2_with fail
        go_region_law ((refine step_append_lies _ rfl (.tmp 39) (.tmp 41) 32 rfl 0 27 i0 _ 4 40 Try.underlying32 hi hz0 hz1 hz2 rfl (by decide) (.slice ao L.length cp0) L.length (flat L) rfl (How.out _) ⟨w2.heap.size, 0, none⟩ 1 1 [.int .i64 fr, .int .i64 to_, .string s, .bool sp] rfl rfl Hnw.out Hon.out (by decide) h63 hby (Nat.zero_le _) _ rfl ?_); intro g cp w3 hown3 hgrow hat hlt3; have hb3 := block_grown hgrow (block_drew (block_alloc HN2.out.h _)) (Ne.symm HN2.out.nb); have c2 : w3.cell? ⟨b, 0, none⟩ = some (.slice ao L.length cp0) := cell_at hb3 0; have f2 := free_at hb3 0)
        all_goals
          obtain ⟨F'', v'', g1, g2, g3, g4⟩ := add_close (w := w) (F := F) ⟨fr, to_, s, sp⟩ HN2.out ⟨wf1, wf2, wf3⟩ (fun i hi => Nat.lt_of_lt_of_le (hF1.out i hi) K2.out.size) hF2.out (.inl H.out.fb) (hK.out.trans K2.out.toAny) hown3 hgrow hat hlt3
          have G1 := Lib.hid g1
          have G2 := Lib.hid g2
          have G3 := Lib.hid g3
          have G4 := Lib.hid g4
          clear g1 g2 g3 g4 hown3 hgrow hat hlt3 hb3 c2 f2
          go_wp2_with fail
          go_roundw
          case rel => exact ⟨k + 1, c + 1, L ++ [⟨fr, to_, s, sp⟩], F'', v'', by omega, by omega, Lib.hid (by rw [Hsn.out]; exact Hfin.out), Lib.hid (by rw [List.length_append]; have := hLl.out; simp only [List.length_cons, List.length_nil]; omega), by go_num, by go_num, G1.out, G2, G3, G4⟩
          case measure => simp [intOf]; omega
    · obtain rfl : k = m := by omega
      have hfin : snd S ps qs = (L, c) := by
        have := hL.out
        rwa [List.take_of_length_le (by have := HM.out; omega)] at this
      have Hfin := Lib.hid hfin
      clear hfin hL
      go_wp2_with fail
      go_ret
      exact ⟨by rw [Hfin.out]; rfl, F', v', by rw [Hfin.out]; exact HN.out, hF1.out, hF2.out, hK.out⟩

end Go.Proofs.Ytdmdegjomikmlaa.NetG
