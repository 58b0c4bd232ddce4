/-
  Layer 6 (ring): Drop.
-/
import Derived.Test.YtebjbkpgicbgeaaRinH
namespace Go.Proofs.Ytebjbkpgicbgeaa.RinD
set_option linter.unusedVariables false
set_option linter.unusedSimpArgs false
set_option maxRecDepth 100000
open Go.RowKit Go.Proofs.Ytebjbkpgicbgeaa.Mem Go.Proofs.Ytebjbkpgicbgeaa.RinM Go.Proofs.Ytebjbkpgicbgeaa.RinP Go.Proofs.Ytebjbkpgicbgeaa.RinW Go.Proofs.Ytebjbkpgicbgeaa.RinL Go.Proofs.Ytebjbkpgicbgeaa.RinF Go.Proofs.Ytebjbkpgicbgeaa.RinG Go.Proofs.Ytebjbkpgicbgeaa.RinH

theorem infoInt : (Try.prog.info? 3).map (fun i => (i.zero, i.size, i.bytes)) = some (some (.int .i64 0), 1, 8) := by kernel_rfl
theorem remK_self (x : ByteArray) (K : Keys) (h : ¬ x ∈ K.flatten) : remK x K = K := by
  unfold remK
  refine (List.map_congr_left (fun l hl => ?_)).trans (List.map_id _)
  refine List.filter_eq_self.2 (fun y hy => ?_)
  rw [decide_eq_true_iff]
  rintro rfl
  exact h (List.mem_flatten.2 ⟨l, hl, hy⟩)
theorem flat_zero (sl : List Sl) (a : Nat) (ha : a < sl.length) : ((((flat sl).set (a * 4) (.string ⟨#[]⟩)).set (a * 4 + 1) (.int .i64 0)).set (a * 4 + 2) (.int .i64 0)).set (a * 4 + 3) (.int .i64 0) = flat (sl.set a z) := by
  refine flat_ext (by simp [flat_length]) (fun y j hy hj => ?_)
  rw [List.length_set] at hy
  rw [gt_set _ _ _ ha]
  simp only [List.getElem?_set, flat_length, List.length_set]
  by_cases e : y = a
  · subst e
    rw [if_pos rfl]
    have : j = 0 ∨ j = 1 ∨ j = 2 ∨ j = 3 := by omega
    rcases this with rfl | rfl | rfl | rfl
    · rw [if_neg (by omega), if_neg (by omega), if_neg (by omega), if_pos (by omega), if_pos (by omega)]; rfl
    · rw [if_neg (by omega), if_neg (by omega), if_pos rfl, if_pos (by omega)]; rfl
    · rw [if_neg (by omega), if_pos rfl, if_pos (by omega)]; rfl
    · rw [if_pos rfl, if_pos (by omega)]; rfl
  · rw [if_neg e, if_neg (by omega), if_neg (by omega), if_neg (by omega), if_neg (by omega), flat_at sl y j _ (gt_some sl y hy) hj]

theorem drop_no {w : World} {F : Nat → Prop} {b n k T : Nat} {K : Keys} (h : Ring w F b n k T K) (x : ByteArray) (hx : x.size ≤ 9223372036854775807) (hxK : ¬ x ∈ K.flatten) :
    Calls Try.prog 32 #[.pointer (some ⟨b, 0, none⟩), .string x] w fun e w' => e = .returned (.bool false) ∧ w = w' := by
  obtain ⟨sl, fr, M, gs, gm, mb, v, L, h1, h2, h3⟩ := h
  rw [← h3, h2.mem x] at hxK
  have hM : M x = none := by cases e : M x with
    | none => rfl
    | some a => rw [e] at hxK; simp at hxK
  have lk := h1.c.look x hx
  rw [hM] at lk
  simp only [Option.getD_none, Option.isSome_none] at lk
  have c3 : w.cell? ⟨b, 3, none⟩ = some (.map (some mb)) := cell_at h1.h 3
  clear h1 h2 h3 hM hxK
  go_enter Try.func32, Try.ntmps32
  go_wp2_with fail
  go_ret
  exact ⟨rfl, rfl⟩
theorem drop_nil (x : ByteArray) (w : World) : Calls Try.prog 32 #[.pointer none, .string x] w fun e w' => e = .returned (.bool false) ∧ w = w' := by
  go_enter Try.func32, Try.ntmps32
  go_wp2_with fail
  go_ret
  exact ⟨rfl, rfl⟩

/-- What a call leaves: the lists as told, all else as it was. -/
def Up (w w' : World) (F : Nat → Prop) (b n k T : Nat) (K : Keys) : Prop :=
  ∃ F', Ring w' F' b n k T K ∧ (∀ i, F' i → i < w'.heap.size) ∧ (∀ i, F' i → F i ∨ w.heap.size ≤ i) ∧ Keep F w w'

set_option maxRecDepth 100000 in
set_option maxHeartbeats 4000000 in
theorem drop_yes {w : World} {F : Nat → Prop} {b n k T : Nat} {K : Keys} (h : Ring w F b n k T K) (x : ByteArray) (hx : x.size ≤ 9223372036854775807) (hxK : x ∈ K.flatten) :
    Calls Try.prog 32 #[.pointer (some ⟨b, 0, none⟩), .string x] w fun e w' => e = .returned (.bool true) ∧ Up w w' F b n k T (remK x K) := by
  obtain ⟨sl, fr, M, gs, gm, mb, v, L, h1, h2, h3⟩ := h
  rw [← h3, h2.mem x] at hxK
  obtain ⟨a, hM⟩ := Option.isSome_iff_exists.1 hxK
  obtain ⟨haf, hka⟩ := h2.m2 x a hM
  obtain ⟨j, l1, l2, hj, hjn, hls, hr1, hr2, hnd, -, -, hpl, hql⟩ := h2.place haf
  have hm := lens_at hj
  rw [← hls] at hm
  have hN := h1.hN
  have hlen : (l1 ++ a :: l2).length ≤ k := by
    have e1 := h2.cnt
    have e2 : (l1 ++ a :: l2).length ≤ L.flatten.length := (List.sublist_flatten_of_mem (List.mem_of_getElem? hj)).length_le
    rw [List.length_append] at e1
    omega
  have hc := cut_any h1 a _ hr2 hpl hql (by rw [hls]; exact hjn) hm (by simp; omega) (by omega)
  rw [lens_rem_set h2 haf hm] at hc
  have i2 := h2.cut hM
  have i4 : Inv n k ((cutS sl a).set a z) (fr ++ [a]) (rem a L) (fun y => if y = x then none else M y) := (i2.free (by simp) z).perm (by
    have : ([a] ++ fr).Perm (fr ++ [a]) := List.perm_append_comm
    exact this)
  have hnf : a ∉ (rem a L).flatten := fun e => (List.nodup_append.1 i2.nd).2.2 a (by simp) a e rfl
  have hkey : keysOf ((cutS sl a).set a z) (rem a L) = remK x K := by
    rw [keysOf_congr (sl := cutS sl a), keysOf_congr (sl := sl), keysOf_rem h2 hM, h3]
    · intro y hy
      exact (cut_gt sl a (by rw [h2.lsl]; exact hpl) (by rw [h2.lsl]; exact hql) y).2.2.1
    · intro y hy
      show (gt _ y).key = _
      rw [gt_set _ _ _ (by rw [i2.lsl]; exact hr2), if_neg (by rintro rfl; exact hnf hy)]
  have hfr : fr.length ≤ k := by
    have e1 := h2.cnt
    rw [List.length_append] at e1
    omega
  have lk := h1.c.look x hx
  rw [hM] at lk
  simp only [Option.getD_some, Option.isSome_some] at lk
  have c3 : w.cell? ⟨b, 3, none⟩ = some (.map (some mb)) := cell_at h1.h 3
  obtain ⟨i0, hi, hz0, hz1, hz2⟩ := info_parts infoInt
  have H1 := Lib.hid h1
  have HC := Lib.hid hc
  have I4 := Lib.hid i4
  have HK := Lib.hid hkey
  have I2 := Lib.hid i2
  have hbl := lt_of_block h1.h
  clear h1 h2 h3 hM haf hka hj hjn hls hr1 hnd hpl hql hm hlen hc i2 i4 hnf hkey hxK
  go_enter Try.func32, Try.ntmps32
  go_upto_region 7 with (go_at_call 48; refine HC.out.mono ?_; rintro e w1 ⟨rfl, r1, k1⟩
                         have d3 : w1.cell? ⟨b, 3, none⟩ = some (.map (some mb)) := cell_at r1.h 3
                         obtain ⟨w2, hdel, hc2, kd⟩ := r1.c.drop x hx
                         have R2 := Lib.hid (r1.map kd hc2)
                         have KD := Lib.hid kd
                         have K1 := Lib.hid k1
                         clear r1 hc2 kd k1)
  have hlc := I2.out.lsl
  have e1 : w2.cell? ⟨b, 1, none⟩ = some (.slice (some ⟨gs, 0, none⟩) (n + k) (n + k)) := cell_at R2.out.h 1
  have s0 := R2.out.cell0 a hr2
  have s1 := R2.out.cell1 a hr2
  have s2 := R2.out.cell2 a hr2
  have s3 := R2.out.cell3 a hr2
  have f0 := R2.out.free (a * 4)
  have f1 := R2.out.free (a * 4 + 1)
  have f2 := R2.out.free (a * 4 + 2)
  have f3 := R2.out.free (a * 4 + 3)
  have t1 : (w2.setCell ⟨gs, a * 4, none⟩ (.string ⟨#[]⟩)).cell? ⟨gs, a * 4 + 1, none⟩ = some (.int .i64 ((gt (cutS sl a) a).ls : Int)) := by
    rw [World.cell?_setCell_other _ _ _ _ (by intro e; injection e; omega)]; exact s1
  have t2 : ((w2.setCell ⟨gs, a * 4, none⟩ (.string ⟨#[]⟩)).setCell ⟨gs, a * 4 + 1, none⟩ (.int .i64 0)).cell? ⟨gs, a * 4 + 2, none⟩ = some (.int .i64 (pv (cutS sl a) a : Int)) := by
    rw [World.cell?_setCell_other _ _ _ _ (by intro e; injection e; omega), World.cell?_setCell_other _ _ _ _ (by intro e; injection e; omega)]; exact s2
  have t3 : (((w2.setCell ⟨gs, a * 4, none⟩ (.string ⟨#[]⟩)).setCell ⟨gs, a * 4 + 1, none⟩ (.int .i64 0)).setCell ⟨gs, a * 4 + 2, none⟩ (.int .i64 0)).cell? ⟨gs, a * 4 + 3, none⟩ = some (.int .i64 (nx (cutS sl a) a : Int)) := by
    rw [World.cell?_setCell_other _ _ _ _ (by intro e; injection e; omega), World.cell?_setCell_other _ _ _ _ (by intro e; injection e; omega), World.cell?_setCell_other _ _ _ _ (by intro e; injection e; omega)]; exact s3
  obtain ⟨W3, hW3⟩ : ∃ W3, W3 = (((w2.setCell ⟨gs, a * 4, none⟩ (.string ⟨#[]⟩)).setCell ⟨gs, a * 4 + 1, none⟩ (.int .i64 0)).setCell ⟨gs, a * 4 + 2, none⟩ (.int .i64 0)).setCell ⟨gs, a * 4 + 3, none⟩ (.int .i64 0) := ⟨_, rfl⟩
  have ks : Keep (fun i => i = gs) w2 W3 := by rw [hW3]; exact ((((Keep.refl _ w2).set1 _ _).set1 _ _).set1 _ _).set1 _ _
  have r3 := R2.out.slots ks (sl' := (cutS sl a).set a z) (by
    rw [hW3]
    refine (block_set (block_set (block_set (block_set R2.out.s _ _) _ _) _ _) _ _).trans ?_
    rw [← flat_zero _ _ (by rw [hlc]; exact hr2)]
    simp) (by simp)
  have HW3 := Lib.hid hW3
  have KS := Lib.hid ks
  obtain ⟨ao, cp, hv⟩ := owns_slice r3.o
  have R3 := Lib.hid r3
  have HV := Lib.hid hv
  clear hW3 ks r3 hlc
  go_upto_region 8 with fail
  rw [← HW3.out]
  clear s0 s1 s2 s3 t1 t2 t3 f0 f1 f2 f3 e1 lk hdel d3
  have c2 : W3.cell? ⟨b, 2, none⟩ = some (.slice ao fr.length cp) := by rw [← HV.out]; exact cell_at R3.out.h 2
  have hb3 := lt_of_block R3.out.h
  have ow : ∀ o, (W3.alloc o).ownsRow 0 3 1 (.slice ao fr.length cp) fr.length (ints fr) := fun o => by rw [← HV.out]; exact R3.out.o.alloc o
  have nw : ∀ t u, [Value.int .i64 (a : Int)][t]? = some u → (W3.alloc (.cells #[.int .i64 (a : Int)] 3)).cell? ((⟨W3.heap.size, 0, none⟩ : Addr).add t) = some u := World.news_of_block (block_new W3 _)
  have on1 : ∀ u ∈ ([.int .i64 (a : Int)] : List Value), u.oneCell' = true := by simp [Value.oneCell']
  have How := Lib.hid ow
  have Hon := Lib.hid on1
  have Hnw := Lib.hid nw
  have hfr' : fr.length ≤ 100000 := by omega
  clear ow nw on1
  go_wp2_with (at_builtin; refine wpList_append_lies _ rfl (.tmp 38) (.tmp 40) 81 rfl 0 3 i0 _ 1 8 Try.underlying81 hi hz0 hz1 hz2 rfl (by decide) (.slice ao fr.length cp) fr.length (ints fr) rfl (How.out _) ⟨W3.heap.size, 0, none⟩ 1 1 [.int .i64 (a : Int)] rfl rfl Hnw.out Hon.out (by decide) (by unfold maxLen; omega) (by omega) (Nat.zero_le _) _ rfl ?_; intro g cq w4 hown4 hgrow hat hlt4
               have hb4 := block_grown hgrow (block_alloc R3.out.h _) (by rw [← HV.out]; exact Ne.symm R3.out.o1)
               have c4 := cell_at hb4 2
               have f4 := free_at hb4 2
               have HB4 := Lib.hid hb4
               have HO4 := Lib.hid hown4
               have HG4 := Lib.hid hgrow
               have HA4 := Lib.hid hat
               clear hb4 hown4 hgrow hat)
  rw [← HV.out] at HG4 HA4
  have kA : Keep (fun i => v.ownBlock = some i) W3 w4 := ((Keep.refl _ W3).alloc _).grown HG4.out (fun i e => .inl e)
  have k5 : Keep (fun i => i = b) w4 (w4.setCell ⟨b, 2, none⟩ (.slice (some ⟨g, 0, none⟩) (fr.length + 1) cq)) := (Keep.refl _ w4).set1 _ _
  have hgne : g ≠ b := by
    rintro rfl
    rcases HA4.out with e | e
    · exact R3.out.o1 e
    · simp at e; omega
  have r4 := rowTurn (fr' := fr ++ [a]) (v' := .slice (some ⟨g, 0, none⟩) (fr.length + 1) cq) R3.out ((kA.mono (fun i _ e => .inr e)).trans' (k5.mono (fun i _ e => .inl e)) (fun i _ e => e)) ((block_set HB4.out 2 _).trans rfl) (by
    have e : (fr ++ [a]).length = fr.length + 1 := by simp
    rw [e]
    have e2 : ints (fr ++ [a]) = ints fr ++ [.int .i64 (a : Int)] := by simp [ints]
    rw [e2]
    exact owns_keep HO4.out k5 (fun i e e' => by simp [Value.ownBlock] at e; omega)) (fun i e => by
    simp [Value.ownBlock] at e
    subst e
    rcases HA4.out with e | e
    · exact .inl e
    · right; simp at e; omega)
  have kF : Keep F w (w4.setCell ⟨b, 2, none⟩ (.slice (some ⟨g, 0, none⟩) (fr.length + 1) cq)) := ((((K1.out.trans (KD.out.mono (fun i _ e => by rw [e]; exact H1.out.fc))).trans (KS.out.mono (fun i _ e => by rw [e]; exact H1.out.fs)))).trans (kA.mono (fun i _ e => H1.out.fo i e))).trans (k5.mono (fun i _ e => by rw [e]; exact H1.out.fb))
  have hwle : w.heap.size ≤ W3.heap.size := ((K1.out.trans (KD.out.mono (fun i _ e => by rw [e]; exact H1.out.fc))).trans (KS.out.mono (fun i _ e => by rw [e]; exact H1.out.fs))).size
  have hge : v.ownBlock = some g ∨ w.heap.size ≤ g := by
    rcases HA4.out with e | e
    · exact .inl e
    · right; simp at e; omega
  go_ret
  have rr : Ring (w4.setCell ⟨b, 2, none⟩ (.slice (some ⟨g, 0, none⟩) (fr.length + 1) cq)) (fun i => F i ∨ (Value.slice (some ⟨g, 0, none⟩) (fr.length + 1) cq).ownBlock = some i) b n k T (remK x K) := ⟨_, _, _, _, _, _, _, _, r4, I4.out, HK.out⟩
  refine ⟨rfl, _, rr.tight, fun i e => e.2, fun i e => ?_, kF⟩
  rcases e.1 with e | e
  · exact .inl e
  · simp [Value.ownBlock] at e
    subst e
    rcases hge with e | e
    · exact .inl (H1.out.fo _ e)
    · exact .inr e

theorem drop_any {w : World} {F : Nat → Prop} {b n k T : Nat} {K : Keys} (h : Ring w F b n k T K) (hF : ∀ i, F i → i < w.heap.size) (x : ByteArray) (hx : x.size ≤ 9223372036854775807) :
    Calls Try.prog 32 #[.pointer (some ⟨b, 0, none⟩), .string x] w fun e w' => e = .returned (.bool (hasK x K)) ∧ Up w w' F b n k T (remK x K) := by
  by_cases h1 : hasK x K = true
  · rw [h1]
    exact drop_yes h x hx ((hasK_iff x K).1 h1)
  · have h2 : ¬ x ∈ K.flatten := fun e => h1 ((hasK_iff x K).2 e)
    rw [Bool.not_eq_true] at h1
    rw [h1, remK_self x K h2]
    refine (drop_no h x hx h2).mono ?_
    rintro e w' ⟨rfl, rfl⟩
    exact ⟨rfl, F, h, hF, fun i e => .inl e, Keep.refl _ _⟩

end Go.Proofs.Ytebjbkpgicbgeaa.RinD
