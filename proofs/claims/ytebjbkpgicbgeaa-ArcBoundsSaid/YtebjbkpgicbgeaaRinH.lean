/-
  Layer 6 (ring): Front of a key that is in no list.
-/
import Derived.Test.YtebjbkpgicbgeaaRinG
import Derived.Deep.DeepCutAuto
namespace Go.Proofs.Ytebjbkpgicbgeaa.RinH
set_option linter.unusedVariables false
set_option linter.unusedSimpArgs false
set_option maxRecDepth 100000
open Go.RowKit Go.Proofs.Ytebjbkpgicbgeaa.Mem Go.Proofs.Ytebjbkpgicbgeaa.RinM Go.Proofs.Ytebjbkpgicbgeaa.RinP Go.Proofs.Ytebjbkpgicbgeaa.RinW Go.Proofs.Ytebjbkpgicbgeaa.RinL Go.Proofs.Ytebjbkpgicbgeaa.RinF Go.Proofs.Ytebjbkpgicbgeaa.RinG

/-- The free places alone changed. -/
theorem rowTurn {w w' : World} {F : Nat → Prop} {b n N T gs gm mb : Nat} {sl : List Sl} {fr fr' mn : List Nat} {M : ByteArray → Option Nat} {v v' : Value} (h : RAt w F b n N T sl fr mn M gs gm mb v)
    (k : Keep (fun i => i = b ∨ v.ownBlock = some i) w w') (hb : w'.heap[b]? = some (.cells #[.int .i64 (n : Int), .slice (some ⟨gs, 0, none⟩) N N, v', .map (some mb), .slice (some ⟨gm, 0, none⟩) n n] TR (0, 0)))
    (ho : w'.ownsRow 0 TInt 1 v' fr'.length (ints fr')) (hv : ∀ i, v'.ownBlock = some i → v.ownBlock = some i ∨ w.heap.size ≤ i) : RAt w' (fun i => F i ∨ v'.ownBlock = some i) b n N T sl fr' mn M gs gm mb v' := by
  have hbl := lt_of_block h.h
  have hsl := lt_of_block h.s
  have hml := lt_of_block h.m
  refine ⟨hb, (k.block gs hsl (by rintro (e | e); exact h.e1 e; exact h.o2 e)).trans h.s, (k.block gm hml (by rintro (e | e); exact h.e2 e; exact h.o3 e)).trans h.m, ho, h.c.keep k (by rintro (e | e); exact h.mb_ne.1 e; exact h.mb_ne.2.2.2 e), h.lsl, h.lmn, h.hN, h.e1, h.e2, h.e3, ?_, ?_, ?_, .inl h.fb, .inl h.fs, .inl h.fm, .inl h.fc, fun i e => .inr e⟩
  · intro e; rcases hv _ e with e | e; exact h.o1 e; omega
  · intro e; rcases hv _ e with e | e; exact h.o2 e; omega
  · intro e; rcases hv _ e with e | e; exact h.o3 e; omega
theorem flat_setKey (sl : List Sl) (a : Nat) (x : ByteArray) (ha : a < sl.length) : (flat sl).set (a * 4) (.string x) = flat (sl.set a { gt sl a with key := x }) := by
  refine flat_ext (by simp [flat_length]) (fun y j hy hj => ?_)
  rw [List.length_set] at hy
  rw [gt_set _ _ _ ha]
  simp only [List.getElem?_set, flat_length]
  by_cases e : y = a
  · subst e
    rw [if_pos rfl]
    have : j = 0 ∨ j = 1 ∨ j = 2 ∨ j = 3 := by omega
    rcases this with rfl | rfl | rfl | rfl
    · rw [if_pos (by omega), if_pos (by omega)]; rfl
    · rw [if_neg (by omega), flat_at sl y 1 _ (gt_some sl y ha) (by omega)]; rfl
    · rw [if_neg (by omega), flat_at sl y 2 _ (gt_some sl y ha) (by omega)]; rfl
    · rw [if_neg (by omega), flat_at sl y 3 _ (gt_some sl y ha) (by omega)]; rfl
  · rw [if_neg e, if_neg (by omega), flat_at sl y j _ (gt_some sl y hy) hj]

theorem front_full {w : World} {F : Nat → Prop} {b n k T : Nat} {K : Keys} (h : Ring w F b n k T K) (i : Nat) (hi : i < n) (x : ByteArray) (hx : x.size ≤ 64) (hxK : ¬ x ∈ K.flatten) (hf : k ≤ K.flatten.length) :
    Calls Try.prog 33 #[.pointer (some ⟨b, 0, none⟩), .int .i64 (i : Int), .string x] w fun e w' => e = .returned (.bool false) ∧ w = w' := by
  have HI := Lib.hid (is_yes h i hi)
  obtain ⟨sl, fr, M, gs, gm, mb, v, L, h1, h2, h3⟩ := h
  rw [← h3, h2.mem x] at hxK
  have hM : M x = none := by cases e : M x with
    | none => rfl
    | some a => rw [e] at hxK; simp at hxK
  have lk := h1.c.look x (by unfold maxLen; omega)
  rw [hM] at lk
  simp only [Option.getD_none, Option.isSome_none] at lk
  have c3 : w.cell? ⟨b, 3, none⟩ = some (.map (some mb)) := cell_at h1.h 3
  obtain ⟨ao, cap, hv⟩ := owns_slice h1.o
  subst hv
  have hfr : fr.length = 0 := by
    have := h2.cnt
    rw [List.length_append] at this
    rw [← h3, keysOf_flat, List.length_map] at hf
    omega
  have c2 : w.cell? ⟨b, 2, none⟩ = some (.slice ao fr.length cap) := cell_at h1.h 2
  rw [hfr] at c2
  have hx' : (x.size : Int) ≤ 64 := by omega
  clear h1 h2 h3 hM hxK hf hfr
  go_enter Try.func33, Try.ntmps33
  go_wp2_with (go_at_call 47; refine HI.out.mono ?_; rintro e w1 ⟨rfl, rfl⟩)
  go_ret
  exact ⟨rfl, rfl⟩

theorem row_int {w : World} {v : Value} {l : List Nat} (h : w.ownsRow 0 TInt 1 v l.length (ints l)) (hne : l ≠ []) : ∃ g cap cur, v = .slice (some ⟨g, 0, none⟩) l.length cap ∧ w.heap[g]? = some (.cells cur TInt (0, 0)) ∧ l.length ≤ cap ∧ cap ≤ maxLen ∧ cur.size = cap * 1 ∧ cur.toList.take (l.length * 1) = ints l := by
  rcases h.2 with ⟨-, h0⟩ | ⟨g, cap, cur, hv, hb, hg, h1, h2, h3, ht⟩
  · exact absurd (List.length_eq_zero_iff.1 h0) hne
  · exact ⟨g, cap, cur, hv, hg, h1, h2, h3, ht⟩

set_option maxRecDepth 100000 in
set_option maxHeartbeats 4000000 in
theorem front_new {w : World} {F : Nat → Prop} {b n k T : Nat} {K : Keys} (h : Ring w F b n k T K) (hT : T ≤ 100000000) (i : Nat) (hi : i < n) (x : ByteArray) (hx : x.size ≤ 64) (hxK : ¬ x ∈ K.flatten) (hf : ¬ k ≤ K.flatten.length) :
    Calls Try.prog 33 #[.pointer (some ⟨b, 0, none⟩), .int .i64 (i : Int), .string x] w fun e w' => e = .returned (.bool true) ∧ Ring w' F b n k (T + 1) (pushK i x K) ∧ Keep F w w' := by
  have HI := Lib.hid (is_yes h i hi)
  obtain ⟨sl, fr, M, gs, gm, mb, v, L, h1, h2, h3⟩ := h
  rw [← h3, h2.mem x] at hxK
  have hM : M x = none := by cases e : M x with
    | none => rfl
    | some a => rw [e] at hxK; simp at hxK
  have lk := h1.c.look x (by unfold maxLen; omega)
  rw [hM] at lk
  simp only [Option.getD_none, Option.isSome_none] at lk
  have c3 : w.cell? ⟨b, 3, none⟩ = some (.map (some mb)) := cell_at h1.h 3
  have hne : fr ≠ [] := by
    rintro rfl
    have := h2.cnt
    rw [List.length_append] at this
    rw [← h3, keysOf_flat, List.length_map] at hf
    rw [List.length_nil] at this
    omega
  obtain ⟨g, cap, cur, rfl, hg, g1, g2, g3, ht⟩ := row_int h1.o hne
  obtain ⟨fr', a, rfl⟩ : ∃ fr' a, fr = fr' ++ [a] := by
    rcases List.eq_nil_or_concat fr with e | ⟨l, a, e⟩
    · exact absurd e hne
    · exact ⟨l, a, by simpa using e⟩
  have hra := h2.rng a (by simp)
  obtain ⟨m, hm⟩ : ∃ m, m = (fr' ++ [a]).length := ⟨_, rfl⟩
  have hm' : m - 1 = fr'.length := by rw [hm]; simp
  have hm1 : 1 ≤ m := by rw [hm]; simp
  have hmk : m ≤ k := by
    have := h2.cnt
    rw [List.length_append] at this
    omega
  rw [← hm] at ht g1
  have c2 : w.cell? ⟨b, 2, none⟩ = some (.slice (some ⟨g, 0, none⟩) m cap) := by rw [hm]; exact cell_at h1.h 2
  have cg : w.cell? ⟨g, m - 1, none⟩ = some (.int .i64 (a : Int)) := by
    rw [cell_at hg]
    have q : (ints (fr' ++ [a]))[m - 1]? = some (.int .i64 (a : Int)) := by unfold ints; rw [List.getElem?_map, hm', List.getElem?_append_right (Nat.le_refl _)]; simp
    rw [← ht, List.getElem?_take, if_pos (by omega)] at q
    rw [← q]; simp
  -- the world without the place
  obtain ⟨W1, hW1⟩ : ∃ W1, W1 = w.setCell ⟨b, 2, none⟩ (.slice (some ⟨g, 0, none⟩) (m - 1) cap) := ⟨_, rfl⟩
  have kb : Keep (fun i => i = b) w W1 := by rw [hW1]; exact (Keep.refl _ w).set1 _ _
  have hgb : g ≠ b := fun e => h1.o1 (by simp [Value.ownBlock, e])
  have r1 := rowTurn (fr' := fr') (v' := .slice (some ⟨g, 0, none⟩) (m - 1) cap) h1 (kb.mono (fun i _ e => .inl e)) (by rw [hW1]; exact (block_set h1.h 2 _).trans rfl) (by
    rw [hm']
    refine ⟨by unfold ints; simp, .inr ⟨g, cap, cur, rfl, Nat.zero_le _, (kb.block g (lt_of_block hg) hgb).trans hg, by omega, g2, g3, ?_⟩⟩
    have e : cur.toList.take (fr'.length * 1) = (cur.toList.take (m * 1)).take (fr'.length * 1) := by rw [List.take_take, Nat.min_eq_left (by omega)]
    rw [e, ht]
    unfold ints
    rw [List.map_append, List.take_left' (by simp)]) (fun i e => .inl e)
  have r1 : RAt W1 F b n (n + k) T sl fr' (lens L) M gs gm mb (.slice (some ⟨g, 0, none⟩) (m - 1) cap) := r1.mono (fun i e => e.elim id (fun e => h1.fo i e)) (Nat.le_refl _)
  -- the place's key
  obtain ⟨W2, hW2⟩ : ∃ W2, W2 = W1.setCell ⟨gs, a * 4, none⟩ (.string x) := ⟨_, rfl⟩
  have ks : Keep (fun i => i = gs) W1 W2 := by rw [hW2]; exact (Keep.refl _ W1).set1 _ _
  have r2 := r1.slots ks (sl' := sl.set a { gt sl a with key := x }) (by
    rw [hW2]
    refine (block_set r1.s _ _).trans ?_
    rw [← flat_setKey _ _ _ (by rw [h2.lsl]; exact hra.2)]
    simp) (by simp)
  obtain ⟨W3, hrun, hc3, km⟩ := r2.c.put hT x (by unfold maxLen; omega) a (by have := h1.hN; omega)
  have r3 := r2.map km hc3
  have i2 : Inv n k (sl.set a { gt sl a with key := x }) (a :: fr') L M := (h2.free (by simp) _).perm (by
    have : (fr' ++ [a]).Perm ([a] ++ fr') := List.perm_append_comm
    exact this)
  obtain ⟨lr, hlr⟩ : ∃ lr, L[i]? = some lr := ⟨L[i]'(by rw [h2.lL]; exact hi), List.getElem?_eq_getElem _⟩
  have hm2 := lens_at hlr
  have hq2 := (inv_head i2 hlr).2.2
  have hlr2 : lr.length ≤ 100000 := by
    have e1 := h2.cnt
    have e2 : lr.length ≤ L.flatten.length := (List.sublist_flatten_of_mem (List.mem_of_getElem? hlr)).length_le
    rw [List.length_append] at e1
    have := h1.hN
    omega
  have hkc : ky (sl.set a { gt sl a with key := x }) a = x := by show (gt _ a).key = x; rw [gt_set _ _ _ (by rw [h2.lsl]; exact hra.2), if_pos rfl]
  have i3 := i2.link hi hkc hM
  have hnf : a ∉ L.flatten := fun e => (List.nodup_append.1 h2.nd).2.2 a (by simp) a e rfl
  have hkey : keysOf (linkS (sl.set a { gt sl a with key := x }) a i) (push i a L) = pushK i x K := by
    rw [keysOf_congr (sl := sl.set a { gt sl a with key := x }), keysOf_push, hkc, keysOf_congr (sl := sl), h3]
    · intro y hy
      show (gt _ y).key = _
      rw [gt_set _ _ _ (by rw [h2.lsl]; exact hra.2), if_neg (by rintro rfl; exact hnf hy)]
    · intro y hy
      refine (link_gt _ a i (by rw [i2.lsl]; exact hq2) (by rw [i2.lsl]; omega) (by rw [i2.lsl]; exact hra.2) (by omega) ?_ y).2.2.1
      intro e
      cases lr with
      | nil => rw [(inv_head i2 hlr).2.1 rfl] at e; omega
      | cons c r => rw [(inv_head i2 hlr).1 c r rfl] at e; exact hnf (mem_flat.2 ⟨i, _, hlr, by rw [e]; simp⟩)
  have hl := link_any r3 a i _ hra.2 hi (by omega) hq2 hm2 hlr2
  rw [lens_push_set (a := a) hm2] at hl
  have d1 : W1.cell? ⟨b, 1, none⟩ = some (.slice (some ⟨gs, 0, none⟩) (n + k) (n + k)) := cell_at r1.h 1
  have da := r1.cell0 a hra.2
  have dfr := r1.free (a * 4)
  have d3 : W2.cell? ⟨b, 3, none⟩ = some (.map (some mb)) := cell_at r2.h 3
  have kk : Keep F w W3 := ((kb.mono (fun i _ e => by rw [e]; exact h1.fb)).trans (ks.mono (fun i _ e => by rw [e]; exact h1.fs))).trans (km.mono (fun i _ e => by rw [e]; exact h1.fc))
  have fb2 := free_at h1.h 2
  have hN := h1.hN
  have hx' : (x.size : Int) ≤ 64 := by omega
  have HL := Lib.hid hl
  have I3 := Lib.hid i3
  have HK := Lib.hid hkey
  have HW1 := Lib.hid hW1
  have HW2 := Lib.hid hW2
  have KK := Lib.hid kk
  have hml : (1 : Int) ≤ (m : Int) := by omega
  have hmc : (m : Int) ≤ (cap : Int) := by omega
  have hcm : cap ≤ 9223372036854775807 := by unfold maxLen at g2; omega
  have hm0 : ((m : Int) == 0) = false := by rw [beq_eq_false_iff_ne]; omega
  have hra2 := hra.2
  clear h1 h2 h3 hM hxK hf hne hg g1 g2 g3 ht hra hm hm' hW1 kb r1 hW2 ks r2 hc3 km r3 i2 hlr hm2 hq2 hkc i3 hnf hkey hl kk
  generalize hNe : n + k = N at *
  replace hNe := Lib.hid hNe
  go_enter Try.func33, Try.ntmps33
  go_upto_region 13 with (go_at_call 47; refine HI.out.mono ?_; rintro e w1 ⟨rfl, rfl⟩)
  rw [← HW1.out]
  go_upto_region 14 with fail
  rw [← HW2.out]
  go_wp2_with (go_at_call 49; refine HL.out.mono ?_; rintro e w2 ⟨rfl, r4, k4⟩; replace r4 := Lib.hid r4)
  go_ret
  exact ⟨rfl, ⟨_, _, _, _, _, _, _, _, by rw [hNe.out]; exact r4.out, I3.out, HK.out⟩, KK.out.trans k4⟩

theorem front_any {w : World} {F : Nat → Prop} {b n k T : Nat} {K : Keys} (h : Ring w F b n k T K) (hT : T ≤ 100000000) (i : Int) (x : ByteArray) :
    Calls Try.prog 33 #[.pointer (some ⟨b, 0, none⟩), .int .i64 i, .string x] w fun e w' => e = .returned (.bool (frontK n k i x K).2) ∧ Ring w' F b n k (T + 1) (frontK n k i x K).1 ∧ Keep F w w' := by
  unfold frontK
  by_cases h1 : ¬ (0 ≤ i ∧ i < (n : Int)) ∨ 64 < x.size
  · rw [if_pos h1]
    refine (front_no h i x h1).mono ?_
    rintro e w' ⟨rfl, rfl⟩
    exact ⟨rfl, h.mono (fun _ e => e) (by omega), Keep.refl _ _⟩
  · rw [if_neg h1]
    have h2 : 0 ≤ i ∧ i < (n : Int) := Classical.not_not.1 (fun e => h1 (.inl e))
    have h3 : x.size ≤ 64 := by
      rcases Nat.lt_or_ge 64 x.size with e | e
      · exact absurd (.inr e) h1
      · exact e
    obtain ⟨j, rfl⟩ : ∃ j : Nat, i = (j : Int) := ⟨i.toNat, by omega⟩
    rw [Int.toNat_natCast]
    have hj : j < n := by omega
    by_cases h4 : hasK x K = true
    · rw [if_pos h4]
      refine (front_in h j hj x h3 ((hasK_iff x K).1 h4)).mono ?_
      rintro e w' ⟨rfl, r, kk⟩
      exact ⟨rfl, r.mono (fun _ e => e) (by omega), kk⟩
    · rw [if_neg h4]
      have h5 : ¬ x ∈ K.flatten := fun e => h4 ((hasK_iff x K).2 e)
      by_cases h6 : k ≤ K.flatten.length
      · rw [if_pos h6]
        refine (front_full h j hj x h3 h5 h6).mono ?_
        rintro e w' ⟨rfl, rfl⟩
        exact ⟨rfl, h.mono (fun _ e => e) (by omega), Keep.refl _ _⟩
      · rw [if_neg h6]
        exact front_new h hT j hj x h3 h5 h6

end Go.Proofs.Ytebjbkpgicbgeaa.RinH
