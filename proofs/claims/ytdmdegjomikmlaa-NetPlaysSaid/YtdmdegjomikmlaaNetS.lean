/-
  Layer 22 (net): Send.
-/
import Derived.Test.YtdmdegjomikmlaaNetW
namespace Go.Proofs.Ytdmdegjomikmlaa.NetS
set_option linter.unusedVariables false
set_option linter.unusedSimpArgs false
open Go.RowKit Go.Proofs.Ytdmdegjomikmlaa.Mem Go.Proofs.Ytdmdegjomikmlaa.NetM Go.Proofs.Ytdmdegjomikmlaa.NetW
attribute [-go_sem] Instr.loadAt loadVar
attribute [local go_sem] loadAt_ptr lv_int lv_bool lv_string lv_u8 lv_ps lv_map

/-- One packet more, if its way is not cut and its link has room. -/
def stp (S : Int → Int → Bool) (p : List Pk × Nat) (q : Pk) : List Pk × Nat :=
  if S (min q.fr q.to_) (max q.fr q.to_) = true ∨ 64 ≤ cnt q.fr q.to_ p.1 then p else (p.1 ++ [q], p.2 + 1)
def snd (S : Int → Int → Bool) (ps qs : List Pk) : List Pk × Nat := qs.foldl (stp S) (ps, 0)
theorem snd_snoc (S : Int → Int → Bool) (ps qs : List Pk) (q : Pk) : snd S ps (qs ++ [q]) = stp S (snd S ps qs) q := by unfold snd; rw [List.foldl_append]; rfl

theorem wf_minmax {a b : Int} (wa : (Lit.int .i64 a).wf = true) (wb : (Lit.int .i64 b).wf = true) : (Lit.int .i64 (min a b)).wf = true ∧ (Lit.int .i64 (max a b)).wf = true := by
  rcases Int.le_total a b with h | h
  · rw [Int.min_eq_left h, Int.max_eq_right h]; exact ⟨wa, wb⟩
  · rw [Int.min_eq_right h, Int.max_eq_left h]; exact ⟨wb, wa⟩

theorem send_nil (v : Value) (w : World) : Calls Try.prog 10 #[.pointer none, v] w fun e w' => e = .returned (.int .i64 0) ∧ w = w' := by
  go_enter Try.func10, Try.ntmps10
  go_wp2_with fail
  go_ret
  exact ⟨rfl, rfl⟩

theorem net_nm {w : World} {F : Nat → Prop} {b n mb : Nat} {ps : List Pk} {S : Int → Int → Bool} {v : Value} (h : NetAt w F b ps n S v mb) : v.ownBlock ≠ some mb := by
  obtain ⟨D, ⟨es, clock, hm, _⟩, _⟩ := h.c
  rcases h.o.2 with ⟨rfl, _⟩ | ⟨g, cap, cur, rfl, _, hg, _⟩
  · simp [Value.ownBlock]
  · intro e
    simp [Value.ownBlock] at e
    subst e
    rw [hg] at hm; cases hm
theorem net_mb_ne {w : World} {F : Nat → Prop} {b n mb : Nat} {ps : List Pk} {S : Int → Int → Bool} {v : Value} (h : NetAt w F b ps n S v mb) : mb ≠ b := by
  obtain ⟨D, ⟨es, clock, hm, _⟩, _⟩ := h.c
  intro e
  subst e
  rw [h.h] at hm; cases hm
theorem add_close {w w2 w3 : World} {F F' : Nat → Prop} {b n mb g cp : Nat} {L : List Pk} {S : Int → Int → Bool} {v : Value} {o : Obj} (p : Pk) (h : NetAt w2 F' b L n S v mb) (hp : p.Ok)
    (h1 : ∀ k, F' k → k < w2.heap.size) (h2 : ∀ k, F' k → F k ∨ w.heap.size ≤ k) (hFb : F b ∨ w.heap.size ≤ b) (hk : Keep F w w2)
    (hown : w3.ownsRow 0 TP 4 (.slice (some ⟨g, 0, none⟩) (L.length + 1) cp) (L.length + 1) (flat L ++ p.cells)) (hgrow : (w2.alloc o).drew.grownBy w3 v.ownBlock) (hat : v.ownBlock = some g ∨ g = (w2.alloc o).drew.heap.size) (hlt : g < w3.heap.size) :
    ∃ F'' v'', NetAt (w3.setCell ⟨b, 0, none⟩ (.slice (some ⟨g, 0, none⟩) (L.length + 1) cp)) F'' b (L ++ [p]) n S v'' mb ∧ (∀ k, F'' k → k < (w3.setCell ⟨b, 0, none⟩ (.slice (some ⟨g, 0, none⟩) (L.length + 1) cp)).heap.size) ∧ (∀ k, F'' k → F k ∨ w.heap.size ≤ k) ∧
      Keep F w (w3.setCell ⟨b, 0, none⟩ (.slice (some ⟨g, 0, none⟩) (L.length + 1) cp)) := by
  have hbl := lt_of_block h.h
  have hml := h.c.lt
  have hsz : (w2.alloc o).drew.heap.size = w2.heap.size + 1 := by show (w2.alloc o).heap.size = _; simp
  have hb3 : w3.heap[b]? = some (.cells #[v, .map (some mb)] TN (0, 0)) := block_grown hgrow (block_drew (block_alloc h.h o)) (Ne.symm h.nb)
  have hgb : g ≠ b := by
    intro e
    subst e
    rcases hat with e | e
    · exact h.nb e
    · omega
  have hgm : g ≠ mb := by
    intro e
    subst e
    rcases hat with e | e
    · exact net_nm h e
    · omega
  have hgF : F' g ∨ w2.heap.size ≤ g := by
    rcases hat with e | e
    · exact .inl (h.fo g e)
    · right; omega
  have k3 : Keep (fun k => v.ownBlock = some k) w2 w3 := (((Keep.refl _ w2).alloc o).drew).grown hgrow (fun k e => .inl e)
  have c3 : Cuts w3 mb n S := h.c.keep k3 (net_nm h)
  refine ⟨fun k => F' k ∨ k = g, .slice (some ⟨g, 0, none⟩) (L.length + 1) cp, ⟨(block_set hb3 0 _).trans rfl, ?_, ?_, ?_, .inl h.fb, .inl h.fm, ?_, ?_⟩, ?_, ?_, ?_⟩
  · rw [List.length_append, flat_append, flat_one]
    refine owns_keep (S := fun k => k = b) hown ((Keep.refl _ w3).set1 _ _) ?_
    intro k hk e
    simp [Value.ownBlock] at hk
    omega
  · exact c3.keep ((Keep.refl (fun k => k = b) w3).set1 0 _) (net_mb_ne h)
  · simp [Value.ownBlock]; exact hgb
  · intro k hk
    simp [Value.ownBlock] at hk
    exact .inr hk.symm
  · intro x hx
    rcases List.mem_append.1 hx with hx | hx
    · exact h.ok x hx
    · rw [List.mem_singleton.1 hx]; exact hp
  · intro k hk
    rw [show (w3.setCell ⟨b, 0, none⟩ (.slice (some ⟨g, 0, none⟩) (L.length + 1) cp)).heap.size = w3.heap.size by simp [World.setCell]]
    rcases hk with hk | rfl
    · exact Nat.lt_of_lt_of_le (h1 k hk) k3.size
    · exact hlt
  · intro k hk
    rcases hk with hk | rfl
    · exact h2 k hk
    · rcases hgF with e | e
      · exact h2 _ e
      · right; have := hk.size; omega
  · have ka : Keep F w w3 := by
      refine hk.trans' k3 (fun i hi e => ?_)
      rcases h2 i (h.fo i e) with e2 | e2
      · exact e2
      · omega
    refine ka.setCell ?_ _
    exact hFb

set_option maxHeartbeats 4000000 in
theorem send_open {w : World} {F : Nat → Prop} {b n mb : Nat} {ps : List Pk} {S : Int → Int → Bool} {v : Value} (h : NetAt w F b ps n S v mb) (hF : ∀ k, F k → k < w.heap.size) (qs : List Pk) (X cap : Nat) (hXF : ¬ F X) (hX : X < w.heap.size)
    (hq : ∀ i p, qs[i]? = some p → ∀ j, j < 4 → w.cell? ⟨X, i * 4 + j, none⟩ = p.cells[j]?) (hok : ∀ p ∈ qs, p.Ok) (hn : ps.length + qs.length ≤ 100000) (hop : ∀ p ∈ qs, S (min p.fr p.to_) (max p.fr p.to_) = false) :
    Calls Try.prog 10 #[.pointer (some ⟨b, 0, none⟩), .slice (some ⟨X, 0, none⟩) qs.length cap] w fun e w' => e = .returned (.int .i64 (snd S ps qs).2) ∧
      ∃ F' v', NetAt w' F' b (snd S ps qs).1 n S v' mb ∧ (∀ k, F' k → k < w'.heap.size) ∧ (∀ k, F' k → F k ∨ w.heap.size ≤ k) ∧ Keep F w w' := by
  obtain ⟨m, hm⟩ : ∃ m, m = qs.length := ⟨_, rfl⟩
  rw [← hm] at hn ⊢
  have H := Lib.hid h
  have HF := Lib.hid hF
  have HQ := Lib.hid hq
  have HO := Lib.hid hok
  have HM := Lib.hid hm
  have HX := Lib.hid hXF
  have HP := Lib.hid hop
  clear h hF hq hok hm hXF hop
  obtain ⟨i0, hi, hz0, hz1, hz2⟩ := info_parts infoPk
  go_enter Try.func10, Try.ntmps10
  go_wp2_with fail
  go_loopw [5, 12] (fun xm xi wr => ∃ (k c : Nat) (L : List Pk) (F' : Nat → Prop) (v' : Value), k ≤ m ∧ c ≤ k ∧ Hid (snd S ps (qs.take k) = (L, c)) ∧ Hid (L.length ≤ ps.length + k) ∧ xi = .int .i64 k ∧ xm = .int .i64 c ∧ NetAt wr F' b L n S v' mb ∧ Hid (∀ k, F' k → k < wr.heap.size) ∧ Hid (∀ k, F' k → F k ∨ w.heap.size ≤ k) ∧ Hid (Keep F w wr)) (fun xm xi wr => m - (intOf xi).toNat)
  case atStart => exact ⟨0, 0, ps, F, v, by omega, by omega, Lib.hid rfl, Lib.hid (by omega), rfl, rfl, H.out, HF, Lib.hid (fun k e => .inl e), Lib.hid (Keep.refl _ _)⟩
  case round =>
    obtain ⟨k, c, L, F', v', hk, hck, hL, hLl, rfl, rfl, hN, hF1, hF2, hK⟩ := hrel
    have hsz := hK.out.size
    have HN := Lib.hid hN
    clear hN
    by_cases hlt : k < m
    · obtain ⟨p, hp⟩ : ∃ p, qs[k]? = some p := ⟨qs[k]'(by have := HM.out; omega), List.getElem?_eq_getElem _⟩
      have hpo := HO.out p (List.mem_of_getElem? hp)
      have hXw : X < wr.heap.size := by omega
      have ld := load_pk wr X (k * 4) p (fun j hj => (hK.out.cell (p := ⟨X, _, none⟩) hX HX.out).trans (HQ.out k p hp j hj))
      have hsn := snd_snoc S ps (qs.take k) p
      rw [← take_snoc' qs k p hp, hL.out] at hsn
      have Hsn := Lib.hid hsn
      obtain ⟨wf1, wf2, wf3⟩ := hpo
      obtain ⟨fr, to_, s, sp⟩ := p
      simp only at ld wf1 wf2 wf3
      have hmm := wf_minmax wf1 wf2
      have ld2 := load_new wr ⟨fr, to_, s, sp⟩
      simp only at ld2
      -- the world with the packet's box
      obtain ⟨u, hu⟩ : ∃ u, u = wr.alloc (.cells #[.int .i64 fr, .int .i64 to_, .string s, .bool sp] TP) := ⟨_, rfl⟩
      have ku : Keep (fun _ => False) wr u := by rw [hu]; exact (Keep.refl _ _).alloc _
      have hbx : u.heap[wr.heap.size]? = some (.cells #[.int .i64 fr, .int .i64 to_, .string s, .bool sp] TP (0, 0)) := by rw [hu]; exact block_new wr _
      have Hu := Lib.hid hu
      have Ku := Lib.hid ku
      have Hbx := Lib.hid hbx
      have Hsv := Lib.hid (HP.out _ (List.mem_of_getElem? hp))
      have hS : ∀ w', Keep (fun _ => False) u w' → w'.cell? ⟨b, 1, none⟩ = some (.map (some mb)) ∧ w'.cell? ⟨wr.heap.size, 0, none⟩ = some (.int .i64 fr) ∧ w'.cell? ⟨wr.heap.size, 1, none⟩ = some (.int .i64 to_) ∧ (Instr.lookup TM (.map (some mb)) (.agg #[.int .i64 (min fr to_), .int .i64 (max fr to_)]) false).run Try.prog w' = .ok (.bool false) w' := fun w' kk => by
        have hb2 := (HN.out.keep0 (Ku.out.trans kk))
        have hb3 := (kk.block wr.heap.size (lt_of_block Hbx.out) (fun e => e)).trans Hbx.out
        exact ⟨cell_at hb2.h 1, cell_at hb3 0, cell_at hb3 1, by have q := hb2.c.look _ _ hmm.1 hmm.2; rw [show S (min fr to_) (max fr to_) = false from Hsv.out] at q; exact q⟩
      have hCN : ∀ w', Keep (fun _ => False) u w' → Calls Try.prog 21 #[.pointer (some ⟨b, 0, none⟩), .int .i64 fr, .int .i64 to_] w' fun e w'' => e = .returned (.int .i64 (cnt fr to_ L)) ∧ Below w'.heap.size w' w'' := fun w' kk =>
        count_at (HN.out.keep0 (Ku.out.trans kk)) fr to_ (by have := hLl.out; omega)
      have HS := Lib.hid hS
      have HC := Lib.hid hCN
      clear hsn hu ku hbx hS hCN
      go_wp2_with fail
      rw [← Hu.out]
      go_region_held3 (fun w' => w'.cell? ⟨b, 1, none⟩ = some (.map (some mb)) ∧ w'.cell? ⟨wr.heap.size, 0, none⟩ = some (.int .i64 fr) ∧ w'.cell? ⟨wr.heap.size, 1, none⟩ = some (.int .i64 to_) ∧ (Instr.lookup TM (.map (some mb)) (.agg #[.int .i64 (min fr to_), .int .i64 (max fr to_)]) false).run Try.prog w' = .ok (.bool false) w')
        (first
          | exact HS.out _ ((Keep.refl _ u).drew)
          | exact HS.out _ (((Keep.refl _ u).drew).trans (Keep.of0 k1))
          | exact HS.out _ ((((Keep.refl _ u).drew).trans (Keep.of0 k1)).trans (Keep.of0 k2)))
        (first
          | (go_at_call 20; refine (both_any fr to_ _).mono ?_; rintro e w1 ⟨rfl, k1⟩)
          | (go_at_call 21; refine (HC.out w1 (((Keep.refl _ u).drew).trans (Keep.of0 k1))).mono ?_; rintro e w2 ⟨rfl, k2⟩))

      have K2 := Lib.hid ((Ku.out.trans (Keep.refl _ u).drew).trans ((Keep.of0 k1).trans (Keep.of0 k2)))
      have hb2 := (HN.out.keep0 K2.out)
      have hbx2 : w2.heap[wr.heap.size]? = some (.cells #[.int .i64 fr, .int .i64 to_, .string s, .bool sp] TP (0, 0)) := ((((Keep.refl (fun _ => False) u).drew).trans ((Keep.of0 k1).trans (Keep.of0 k2))).block _ (lt_of_block Hbx.out) (fun e => e)).trans Hbx.out
      have HN2 := Lib.hid hb2
      have Hbx2 := Lib.hid hbx2
      have hcl := cnt_le fr to_ L
      obtain ⟨ct, hct⟩ : ∃ ct, cnt fr to_ L = ct := ⟨_, rfl⟩
      rw [hct] at hcl ⊢
      have Hct := Lib.hid hct
      clear hb2 hbx2 hct k1 k2 ld ld2 HS HC
      by_cases h64 : 64 ≤ ct
      · have hfin : stp S (L, c) ⟨fr, to_, s, sp⟩ = (L, c) := by unfold stp; rw [if_pos (.inr (by show 64 ≤ cnt fr to_ L; rw [Hct.out]; exact h64))]
        have Hfin := Lib.hid hfin
        clear hfin
        go_wp2_with fail
        go_roundw
        case rel => exact ⟨k + 1, c, L, F', v', by omega, by omega, Lib.hid (by rw [Hsn.out]; exact Hfin.out), Lib.hid (by have := hLl.out; omega), by go_num, rfl, HN2.out, Lib.hid (fun i hi => Nat.lt_of_lt_of_le (hF1.out i hi) K2.out.size), hF2, Lib.hid (hK.out.trans K2.out.toAny)⟩
        case measure => simp [intOf]; omega
      · have hfin : stp S (L, c) ⟨fr, to_, s, sp⟩ = (L ++ [⟨fr, to_, s, sp⟩], c + 1) := by
          unfold stp
          rw [if_neg]
          intro h
          rcases h with h | h
          · exact Bool.false_ne_true (Hsv.out.symm.trans h)
          · have h' : 64 ≤ cnt fr to_ L := h
            rw [Hct.out] at h'; exact h64 h'
        have Hfin := Lib.hid hfin
        obtain ⟨ao, cp0, hv'⟩ := owns_slice HN2.out.o
        subst hv'
        have c0 : w2.cell? ⟨b, 0, none⟩ = some (.slice ao L.length cp0) := cell_at HN2.out.h 0
        have hbw := lt_of_block HN2.out.h
        have ld3 : (loadVar 27 ⟨wr.heap.size, 0, none⟩).run Try.prog w2 = _ := load_pk w2 wr.heap.size 0 ⟨fr, to_, s, sp⟩ (fun j hj => by rw [Nat.zero_add, cell_at Hbx2.out j]; simp [Pk.cells])
        simp only at ld3
        clear hfin
        have ld3' : (loadVar 27 ⟨wr.heap.size, 0, none⟩).run Try.prog w2.drew = .ok (.agg #[.int .i64 fr, .int .i64 to_, .string s, .bool sp]) w2.drew := load_pk w2.drew wr.heap.size 0 ⟨fr, to_, s, sp⟩ (fun j hj => by rw [Nat.zero_add]; exact (cell_at (block_drew Hbx2.out) j).trans (by simp [Pk.cells]))
        have ha := fun o i => World.cell?_alloc_past (w := w2) o b i hbw
        have ow : ∀ o, (w2.alloc o).drew.ownsRow 0 27 4 (.slice ao L.length cp0) L.length (flat L) := fun o => owns_drew (HN2.out.o.alloc o)
        have nw : ∀ j u, [.int .i64 fr, .int .i64 to_, .string s, .bool sp][j]? = some u → (w2.alloc (.cells #[.int .i64 fr, .int .i64 to_, .string s, .bool sp] 27)).drew.cell? ((⟨w2.heap.size, 0, none⟩ : Addr).add j) = some u := World.news_of_block (block_drew (block_new w2 _))
        have on1 : ∀ u ∈ ([.int .i64 fr, .int .i64 to_, .string s, .bool sp] : List Value), u.oneCell' = true := by simp [Value.oneCell']
        have hLb : L.length ≤ 100000 := by have := hLl.out; omega
        have h63 : L.length + 1 ≤ maxLen := by unfold maxLen; omega
        have hby : (L.length + 1) * 40 ≤ 140737488355328 := by omega
        have How := Lib.hid ow
        have Hon := Lib.hid on1
        have Hnw := Lib.hid nw
        clear ow on1 nw ld3
        go_wp2_with fail
        go_region_law ((refine step_append_lies _ rfl (.tmp 39) (.tmp 41) 32 rfl 0 27 i0 _ 4 40 Try.underlying32 hi hz0 hz1 hz2 rfl (by decide) (.slice ao L.length cp0) L.length (flat L) rfl (How.out _) ⟨w2.heap.size, 0, none⟩ 1 1 [.int .i64 fr, .int .i64 to_, .string s, .bool sp] rfl rfl Hnw.out Hon.out (by decide) h63 hby (Nat.zero_le _) _ rfl ?_); intro g cp w3 hown3 hgrow hat hlt3; have hb3 := block_grown hgrow (block_drew (block_alloc HN2.out.h _)) (Ne.symm HN2.out.nb); have c2 : w3.cell? ⟨b, 0, none⟩ = some (.slice ao L.length cp0) := cell_at hb3 0; have f2 := free_at hb3 0)
        all_goals
          obtain ⟨F'', v'', g1, g2, g3, g4⟩ := add_close (w := w) (F := F) ⟨fr, to_, s, sp⟩ HN2.out ⟨wf1, wf2, wf3⟩ (fun i hi => Nat.lt_of_lt_of_le (hF1.out i hi) K2.out.size) hF2.out (.inl H.out.fb) (hK.out.trans K2.out.toAny) hown3 hgrow hat hlt3
          have G1 := Lib.hid g1
          have G2 := Lib.hid g2
          have G3 := Lib.hid g3
          have G4 := Lib.hid g4
          clear g1 g2 g3 g4 hown3 hgrow hat hlt3 hb3 c2 f2
          go_wp2_with fail
          go_roundw
          case rel => exact ⟨k + 1, c + 1, L ++ [⟨fr, to_, s, sp⟩], F'', v'', by omega, by omega, Lib.hid (by rw [Hsn.out]; exact Hfin.out), Lib.hid (by rw [List.length_append]; have := hLl.out; simp only [List.length_cons, List.length_nil]; omega), by go_num, by go_num, G1.out, G2, G3, G4⟩
          case measure => simp [intOf]; omega
    · obtain rfl : k = m := by omega
      have hfin : snd S ps qs = (L, c) := by
        have := hL.out
        rwa [List.take_of_length_le (by have := HM.out; omega)] at this
      have Hfin := Lib.hid hfin
      clear hfin hL
      go_wp2_with fail
      go_ret
      exact ⟨by rw [Hfin.out]; rfl, F', v', by rw [Hfin.out]; exact HN.out, hF1.out, hF2.out, hK.out⟩

end Go.Proofs.Ytdmdegjomikmlaa.NetS
