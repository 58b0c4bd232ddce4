/-
  Layer 22 (net): slices.DeleteFunc with Cut's closure.
-/
import Derived.Test.YtdmdegjomikmlaaNetE
namespace Go.Proofs.Ytdmdegjomikmlaa.NetF
set_option linter.unusedVariables false
set_option linter.unusedSimpArgs false
open Go.RowKit Go.Proofs.Ytdmdegjomikmlaa.Mem Go.Proofs.Ytdmdegjomikmlaa.NetM Go.Proofs.Ytdmdegjomikmlaa.NetW Go.Proofs.Ytdmdegjomikmlaa.NetS Go.Proofs.Ytdmdegjomikmlaa.NetD Go.Proofs.Ytdmdegjomikmlaa.NetT Go.Proofs.Ytdmdegjomikmlaa.NetA Go.Proofs.Ytdmdegjomikmlaa.NetH Go.Proofs.Ytdmdegjomikmlaa.NetI Go.Proofs.Ytdmdegjomikmlaa.NetJ Go.Proofs.Ytdmdegjomikmlaa.NetE

theorem store_new (w : World) (a b : Int) (s : ByteArray) (t : Bool) : (Instr.storeAt TP (.pointer (some ⟨w.heap.size, 0, none⟩)) (.agg #[.int .i64 a, .int .i64 b, .string s, .bool t])).run Try.prog (w.alloc (.cells #[.int .i64 0, .int .i64 0, .string ⟨#[]⟩, .bool false] TP)) = .ok () (w.alloc (.cells #[.int .i64 a, .int .i64 b, .string s, .bool t] TP)) := by
  go_simp
attribute [-go_sem] Instr.loadAt loadVar Instr.storeAt
attribute [local go_sem] loadAt_ptr lv_int lv_bool lv_string lv_u8 lv_ps lv_map

/-- What is left of the first j. -/
def left (f : Pk → Bool) (ps : List Pk) : List Pk := ps.filter fun p => !f p
/-- The cells when j packets were looked at, and k of them are left. -/
structure DR (f : Pk → Bool) (ps : List Pk) (cap k j : Nat) (cur : Array Value) : Prop where
  size : cur.size = cap * 4
  len : (left f (ps.take j)).length = k
  lt : k < j
  front : cur.toList.take (k * 4) = flat (left f (ps.take j))
  back : ∀ t, j * 4 ≤ t → t < ps.length * 4 → cur[t]? = (flat ps)[t]?

theorem left_snoc (f : Pk → Bool) (ps : List Pk) (j : Nat) (p : Pk) (h : ps[j]? = some p) : left f (ps.take (j + 1)) = left f (ps.take j) ++ if f p then [] else [p] := by
  rw [take_snoc' ps j p h]
  unfold left
  rw [List.filter_append]
  cases hf : f p <;> simp [hf]
theorem DR.skip {f : Pk → Bool} {ps : List Pk} {cap k j : Nat} {cur : Array Value} (h : DR f ps cap k j cur) (p : Pk) (hp : ps[j]? = some p) (hf : f p = true) : DR f ps cap k (j + 1) cur := by
  have e := left_snoc f ps j p hp
  rw [hf] at e
  simp at e
  exact ⟨h.size, by rw [e]; exact h.len, by have := h.lt; omega, by rw [e]; exact h.front, fun t h1 h2 => h.back t (by omega) h2⟩
theorem put_get_ge : ∀ (vs : List Value) (cs : Array Value) (o t : Nat), o + vs.length ≤ t → (put cs o vs)[t]? = cs[t]?
  | [], cs, o, t, h => rfl
  | v :: r, cs, o, t, h => by
    simp only [List.length_cons] at h
    show (put _ _ r)[t]? = _
    rw [put_get_ge r _ _ _ (by omega), Array.getElem?_setIfInBounds_ne (by omega)]
theorem DR.put {f : Pk → Bool} {ps : List Pk} {cap k j : Nat} {cur : Array Value} (h : DR f ps cap k j cur) (p : Pk) (hp : ps[j]? = some p) (hf : f p = false) (hc : ps.length ≤ cap) : DR f ps cap (k + 1) (j + 1) (NetD.put cur (k * 4) p.cells) := by
  have e := left_snoc f ps j p hp
  rw [hf] at e
  simp at e
  have hj : j < ps.length := (List.getElem?_eq_some_iff.1 hp).1
  have hl : p.cells.length = 4 := rfl
  have hk := h.lt
  refine ⟨by rw [put_size]; exact h.size, by rw [e, List.length_append, h.len]; rfl, by omega, ?_, ?_⟩
  · rw [put_list _ _ _ (by rw [h.size, hl]; omega)]
    have h1 : (cur.toList.take (k * 4)).length = k * 4 := by rw [List.length_take, Array.length_toList, h.size]; omega
    have h2 : (cur.toList.take (k * 4) ++ p.cells).length = (k + 1) * 4 := by rw [List.length_append, h1, hl]; omega
    rw [List.take_append_of_le_length (by rw [h2]; exact Nat.le_refl _), List.take_of_length_le (by rw [h2]; exact Nat.le_refl _), h.front, e, flat_append, flat_one]
  · intro t h1 h2
    rw [put_get_ge _ _ _ _ (by rw [hl]; omega)]
    exact h.back t (by omega) h2

theorem at1_cases (f : Pk → Bool) (ps : List Pk) : (at1 f ps = -1 ∧ left f ps = ps) ∨ ∃ i : Nat, at1 f ps = i ∧ i < ps.length ∧ (∀ p, ps[i]? = some p → f p = true) ∧ left f (ps.take i) = ps.take i := by
  unfold at1
  cases h : ps.findIdx? f with
  | none =>
    left
    refine ⟨rfl, ?_⟩
    rw [List.findIdx?_eq_none_iff] at h
    exact List.filter_eq_self.2 (fun p hp => by rw [h p hp]; rfl)
  | some i =>
    right
    rw [List.findIdx?_eq_some_iff_getElem] at h
    obtain ⟨hi, h1, h2⟩ := h
    refine ⟨i, rfl, hi, fun p hp => ?_, ?_⟩
    · rw [List.getElem?_eq_getElem hi] at hp
      injection hp with hp
      rw [← hp]; exact h1
    · refine List.filter_eq_self.2 (fun p hp => ?_)
      obtain ⟨t, ht, rfl⟩ := List.mem_take_iff_getElem.1 hp
      have := h2 t (by omega)
      simpa using this

set_option maxHeartbeats 4000000 in
theorem delfunc_any (A B : Nat) (a b : Int) (ps : List Pk) (vs : Value) (w : World) (hn : ps.length ≤ 1000000) (ho : w.ownsRow 0 TP 4 vs ps.length (flat ps)) (hA : w.cell? ⟨A, 0, none⟩ = some (.int .i64 a)) (hB : w.cell? ⟨B, 0, none⟩ = some (.int .i64 b)) (hAl : A < w.heap.size) (hBl : B < w.heap.size) (hAg : vs.ownBlock ≠ some A) (hBg : vs.ownBlock ≠ some B) :
    Calls Try.prog 24 #[vs, .func (.func 25) #[] #[.pointer (some ⟨A, 0, none⟩), .pointer (some ⟨B, 0, none⟩)]] w fun e w' => ∃ v', e = .returned v' ∧ w'.ownsRow 0 TP 4 v' (left (same a b) ps).length (flat (left (same a b) ps)) ∧ (∀ k, v'.ownBlock = some k → vs.ownBlock = some k) ∧ Keep (fun k => vs.ownBlock = some k) w w' := by
  have HI := Lib.hid (index_any A B a b ps vs ps.length w rfl hn ho hA hB hAl hBl)
  rcases at1_cases (same a b) ps with ⟨h1, h2⟩ | ⟨i, h1, hi, hf, hl⟩
  · rw [h1] at HI
    have H2 := Lib.hid h2
    have HO := Lib.hid ho
    clear h1 h2 ho hA hB
    go_enter Try.func24, Try.ntmps24
    go_wp2_with (go_at_call 30; refine HI.out.mono ?_; rintro e w1 ⟨rfl, b1⟩)
    go_ret
    exact ⟨_, rfl, by rw [H2.out]; exact owns_keep HO.out (Keep.of0 b1) (fun k _ e => e), fun k hk => hk, (Keep.of0 b1).toAny⟩
  · rw [h1] at HI
    rcases ho.2 with ⟨-, h0⟩ | ⟨g, cap, cur, hv, -, hg, g1, g2, g3, ht⟩
    · omega
    subst hv
    have hgw := lt_of_block hg
    have hgA : g ≠ A := fun e => hAg (by simp [Value.ownBlock, e])
    have hgB : g ≠ B := fun e => hBg (by simp [Value.ownBlock, e])
    obtain ⟨p0, hp0⟩ : ∃ p, ps[i]? = some p := ⟨ps[i], List.getElem?_eq_getElem hi⟩
    have hD : DR (same a b) ps cap i (i + 1) cur := by
      have e := left_snoc (same a b) ps i p0 hp0
      rw [hf p0 hp0] at e
      simp at e
      refine ⟨g3, by rw [e, hl, List.length_take]; omega, by omega, ?_, ?_⟩
      · rw [e, hl, flat_take, ← ht, List.take_take, Nat.min_eq_left (by omega)]
      · intro t e1 e2
        rw [← ht, List.getElem?_take, if_pos e2, Array.getElem?_toList]
    obtain ⟨n, hnn⟩ : ∃ n, n = ps.length := ⟨_, rfl⟩
    rw [← hnn] at hn hi g1 HI ⊢
    have HNN := Lib.hid hnn
    have HD := Lib.hid hD
    have HG := Lib.hid hg
    have HA := Lib.hid hA
    have HB := Lib.hid hB
    have hneg : ((i : Int) == -1) = false := by rw [beq_eq_false_iff_ne]; omega
    have hcm : cap ≤ 9223372036854775807 := by unfold maxLen at g2; omega
    clear hnn hD hg hA hB ho h1 hf hl ht g2 g3 hp0 hAg hBg
    go_enter Try.func24, Try.ntmps24
    go_wp2_with (go_at_call 30; refine HI.out.mono ?_; rintro e w1 ⟨rfl, b1⟩)
    have B1 := Lib.hid b1
    clear b1
    go_loopw [5, 6] (fun xi xj wr => ∃ (k j : Nat) (cu : Array Value), k < j ∧ j ≤ n ∧ xi = .int .i64 k ∧ xj = .int .i64 j ∧ Hid (DR (same a b) ps cap k j cu) ∧ Hid (wr.heap[g]? = some (.cells cu TP (0, 0))) ∧ Hid (Keep (fun k => k = g) w wr)) (fun xi xj wr => n - (intOf xj).toNat)
    case atStart => exact ⟨i, i + 1, cur, by omega, by omega, rfl, by go_num, HD, Lib.hid ((Keep.of0 B1.out).block g hgw (fun e => e) |>.trans HG.out), Lib.hid ((Keep.of0 B1.out).to1)⟩
    case round =>
      obtain ⟨k, j, cu, hkj, hjn, rfl, rfl, hD, hG, hK⟩ := hrel
      by_cases hlt : j < n
      · obtain ⟨p, hp⟩ : ∃ p, ps[j]? = some p := ⟨ps[j]'(by have := HNN.out; omega), List.getElem?_eq_getElem _⟩
        have ld := load_pk wr g (j * 4) p (fun t ht => by
          rw [cell_at hG.out, hD.out.back _ (by omega) (by have := HNN.out; omega)]
          exact flat_at ps j t p hp ht)
        have hgr := lt_of_block hG.out
        have hsz := hK.out.size
        obtain ⟨u, hu⟩ : ∃ u, u = wr.alloc (.cells #[.int .i64 p.fr, .int .i64 p.to_, .string p.s, .bool p.sp] TP) := ⟨_, rfl⟩
        have ku : Keep (fun _ => False) wr u := by rw [hu]; exact (Keep.refl _ _).alloc _
        have hbx : u.heap[wr.heap.size]? = some (.cells #[.int .i64 p.fr, .int .i64 p.to_, .string p.s, .bool p.sp] TP (0, 0)) := by rw [hu]; exact block_new wr _
        have hcl := closure_any A B a b p u ((ku.cell (p := ⟨A, 0, none⟩) (Nat.lt_of_lt_of_le hAl hsz) (fun e => e)).trans ((hK.out.cell (p := ⟨A, 0, none⟩) hAl (fun e => hgA e.symm)).trans HA.out)) ((ku.cell (p := ⟨B, 0, none⟩) (Nat.lt_of_lt_of_le hBl hsz) (fun e => e)).trans ((hK.out.cell (p := ⟨B, 0, none⟩) hBl (fun e => hgB e.symm)).trans HB.out)) (Nat.lt_of_lt_of_le (Nat.lt_of_lt_of_le hAl hsz) ku.size) (Nat.lt_of_lt_of_le (Nat.lt_of_lt_of_le hBl hsz) ku.size)
        have ldn := load_new wr p
        have stn := store_new wr p.fr p.to_ p.s p.sp
        unfold Pk.agg Pk.cells at hcl
        have Hu := Lib.hid hu
        have Ku := Lib.hid ku
        have Hbx := Lib.hid hbx
        have HC := Lib.hid hcl
        have Hp := Lib.hid hp
        clear hu ku hbx hcl hp
        cases hs : same a b p
        · have Hs := Lib.hid hs
          rw [hs] at HC
          clear hs
          go_wp2_with (first
                     | (go_at_call 25; rw [← Hu.out]; refine HC.out.mono ?_; rintro e w2 ⟨rfl, b2⟩
                        have k2 := Ku.out.trans (Keep.of0 b2)
                        have hg2 := (k2.block g hgr (fun e => e)).trans hG.out
                        have hb2 := ((Keep.of0 b2).block _ (lt_of_block Hbx.out) (fun e => e)).trans Hbx.out
                        have ld2 := load_pk w2 wr.heap.size 0 p (fun t ht => by rw [Nat.zero_add, cell_at hb2 t]; simp [Pk.cells])
                        have hth : w2.there g (k * 4) 4 := fun t ht => ⟨by rw [cell_at hg2, Array.getElem?_eq_getElem (by rw [hD.out.size]; omega)]; rfl, free_at hg2 _⟩
                        have hst := run_storeAt_mid (P := Try.prog) w2 g (k * 4) TP #[.int .i64 p.fr, .int .i64 p.to_, .string p.s, .bool p.sp] hth infoPk4 (by simp [Value.oneCell'])
                        have Hg2 := Lib.hid hg2
                        have K2 := Lib.hid k2
                        clear hth hg2 k2 b2 hb2)
                     | fail)
          have hgR := block_setCells p.cells w2 cu (k * 4) Hg2.out
          have HgR := Lib.hid hgR
          have HD' := Lib.hid (hD.out.put p Hp.out Hs.out (by have := HNN.out; omega))
          clear hgR
          go_wp2_with fail
          go_roundw
          case rel => exact ⟨k + 1, j + 1, _, by omega, by omega, by go_num, by go_num, HD', HgR, Lib.hid (keep_setCells _ _ _ (hK.out.trans K2.out.toAny))⟩
          case measure => simp [intOf]; omega
        · have Hs := Lib.hid hs
          rw [hs] at HC
          clear hs
          go_wp2_with (go_at_call 25; rw [← Hu.out]; refine HC.out.mono ?_; rintro e w2 ⟨rfl, b2⟩
                       have K2 := Lib.hid (Ku.out.trans (Keep.of0 b2))
                       clear b2)
          go_roundw
          case rel => exact ⟨k, j + 1, cu, by omega, by omega, rfl, by go_num, Lib.hid (hD.out.skip p Hp.out Hs.out), Lib.hid ((K2.out.block g hgr (fun e => e)).trans hG.out), Lib.hid (hK.out.trans K2.out.toAny)⟩
          case measure => simp [intOf]; omega
      · obtain rfl : j = n := by omega
        have hcl := fun ty => clear_many wr ty g (k * 4) (j - k) (cap - k) (fun t ht => by rw [cell_at hG.out, Array.getElem?_eq_getElem (by rw [hD.out.size]; omega)]; rfl) (fun t ht => free_at hG.out _)
        have hcsz : cu.toList.length = cap * 4 := by rw [Array.length_toList, hD.out.size]
        have hkc : k ≤ cap := by omega
        have hkc' : (cap = k) = False := by rw [eq_iff_iff]; constructor; omega; exact fun h => h.elim
        have hlen := hD.out.len
        rw [List.take_of_length_le (l := ps) (by have := HNN.out; omega)] at hlen
        have hfr := hD.out.front
        rw [List.take_of_length_le (l := ps) (by have := HNN.out; omega)] at hfr
        have hgf : (wr.setCells g (k * 4) (zeros (j - k))).heap[g]? = some (.cells (NetD.put cu (k * 4) (zeros (j - k))) TP (0, 0)) := block_setCells _ wr _ _ hG.out
        have hkf : Keep (fun k => k = g) w (wr.setCells g (k * 4) (zeros (j - k))) := keep_setCells _ _ _ hK.out
        have hof : (wr.setCells g (k * 4) (zeros (j - k))).ownsRow 0 TP 4 (.slice (some ⟨g, 0, none⟩) k cap) (left (same a b) ps).length (flat (left (same a b) ps)) := by
          rw [hlen]
          refine ⟨by rw [flat_length, hlen], .inr ⟨g, cap, _, rfl, Nat.zero_le _, hgf, by omega, by unfold maxLen; omega, by rw [put_size]; exact hD.out.size, ?_⟩⟩
          rw [put_list _ _ _ (by rw [zeros_length, hD.out.size]; omega), List.append_assoc, List.take_append_of_le_length (by rw [List.length_take, hcsz]; omega), List.take_take, Nat.min_self, hfr]
        have HOF := Lib.hid hof
        have HKF := Lib.hid hkf
        clear hof hkf hgf hlen hfr hcsz hG hD hK HNN HI HD HG HA HB
        go_wp2_with fail
        go_ret
        exact ⟨_, rfl, HOF.out, fun k hk => hk, HKF.out.mono (fun k _ e => by rw [e]; rfl)⟩

end Go.Proofs.Ytdmdegjomikmlaa.NetF
