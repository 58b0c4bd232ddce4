/-
  Layer 22 (net): slices.Delete of one packet; Take, Drop.
-/
import Derived.Test.YtdmdegjomikmlaaNetS
namespace Go.Proofs.Ytdmdegjomikmlaa.NetD
set_option linter.unusedVariables false
set_option linter.unusedSimpArgs false
open Go.RowKit Go.Proofs.Ytdmdegjomikmlaa.Mem Go.Proofs.Ytdmdegjomikmlaa.NetM Go.Proofs.Ytdmdegjomikmlaa.NetW Go.Proofs.Ytdmdegjomikmlaa.NetS
attribute [-go_sem] Instr.loadAt loadVar
attribute [local go_sem] loadAt_ptr lv_int lv_bool lv_string lv_u8 lv_ps lv_map

/-! ### many cells at once -/
def put (cs : Array Value) : Nat → List Value → Array Value
  | _, [] => cs
  | o, v :: r => put (cs.setIfInBounds o v) (o + 1) r
theorem block_setCells {b : Nat} {t : TypeId} {fr : Nat × Nat} (vs : List Value) : ∀ (w : World) (cs : Array Value) (o : Nat), w.heap[b]? = some (.cells cs t fr) → (w.setCells b o vs).heap[b]? = some (.cells (put cs o vs) t fr) := by
  induction vs with
  | nil => intro w cs o h; exact h
  | cons v r ih => intro w cs o h; exact ih _ _ _ (block_set h o v)
theorem keep_setCells {b : Nat} {a : World} (vs : List Value) : ∀ (w : World) (o : Nat), Keep (fun k => k = b) a w → Keep (fun k => k = b) a (w.setCells b o vs) := by
  induction vs with
  | nil => intro w o h; exact h
  | cons v r ih => intro w o h; exact ih _ _ (h.set1 o v)
theorem put_list : ∀ (vs : List Value) (cs : Array Value) (o : Nat), o + vs.length ≤ cs.size → (put cs o vs).toList = cs.toList.take o ++ vs ++ cs.toList.drop (o + vs.length)
  | [], cs, o, h => by simp [put]
  | v :: r, cs, o, h => by
    simp only [List.length_cons] at h
    have := put_list r (cs.setIfInBounds o v) (o + 1) (by simp; omega)
    show (put _ _ r).toList = _
    rw [this]
    simp only [Array.toList_setIfInBounds, List.length_cons]
    rw [List.take_set, List.drop_set]
    have ho : o < cs.toList.length := by simpa using (show o < cs.size by omega)
    rw [if_pos (by omega)]
    have e1 : (cs.toList.take (o + 1)).set o v = cs.toList.take o ++ [v] := by
      rw [List.take_add_one, List.getElem?_eq_getElem ho]
      have hm : min o cs.size = o := by have : o < cs.size := by simpa using ho
                                        omega
      rw [List.set_append, List.length_take, if_neg (by omega), show min o cs.toList.length = o from by omega, Nat.sub_self]
      rfl
    rw [e1]
    simp [Nat.add_assoc, Nat.add_comm 1]
theorem put_size : ∀ (vs : List Value) (cs : Array Value) (o : Nat), (put cs o vs).size = cs.size
  | [], cs, o => rfl
  | v :: r, cs, o => by show (put _ _ r).size = _; rw [put_size]; simp

def zeroPk : List Value := [.int .i64 0, .int .i64 0, .string ⟨#[]⟩, .bool false]
theorem zeroP (w : World) : (zeroValue 27).run Try.prog w = .ok (.agg zeroPk.toArray) w := by kernel_rfl
theorem clear_one (w : World) (ty : TypeId) (g o c : Nat) (hc : ∀ j, j < 4 → (w.cell? ⟨g, o + j, none⟩).isSome = true) (hf : ∀ j, j < 4 → w.frozen? ⟨g, o + j, none⟩ = false) :
    (Builtin.clear_ #[32] ty #[.slice (some ⟨g, o, none⟩) 1 c]).run Try.prog w = .ok (.tuple #[]) (w.setCells g o zeroPk) := by
  have hz : (Builtin.zeroCells (Value.agg zeroPk.toArray).cells 1).toList = zeroPk := by
    simp [Builtin.zeroCells, Value.cells, zeroPk, Array.range, List.range_succ]
    try rfl
  have hst := run_storeCells_cells (P := Try.prog) g o zeroPk 0 w (fun j hj => by rw [Nat.add_zero]; exact hc j hj) (fun j hj => by rw [Nat.add_zero]; exact hf j hj) (by intro v hv; simp [zeroPk] at hv; rcases hv with rfl | rfl | rfl | rfl <;> rfl)
  simp only [Nat.add_zero] at hst
  have hz' : (Builtin.zeroCells (Value.agg #[.int .i64 0, .int .i64 0, .string ⟨#[]⟩, .bool false]).cells 1).toList = zeroPk := hz
  simp [Builtin.clear_, run_underlying Try.underlying32, zeroP, hz', hst]

theorem eraseIdx_cut {α : Type} (l : List α) (i : Nat) : l.eraseIdx i = l.take i ++ l.drop (i + 1) := List.eraseIdx_eq_take_drop_succ l i
theorem flat_take (ps : List Pk) : ∀ d, flat (ps.take d) = (flat ps).take (d * 4) := by
  induction ps with
  | nil => intro d; simp [flat]
  | cons r rs ih =>
    intro d
    cases d with
    | zero => simp [flat]
    | succ d =>
      have := ih d
      unfold flat at *
      rw [List.take_succ_cons, List.flatMap_cons, List.flatMap_cons, this, show (d + 1) * 4 = r.cells.length + d * 4 by simp [Pk.cells]; omega, List.take_append]
      rw [List.take_of_length_le (l := r.cells) (by omega)]
      simp
theorem flat_drop (ps : List Pk) : ∀ d, flat (ps.drop d) = (flat ps).drop (d * 4) := by
  induction ps with
  | nil => intro d; simp [flat]
  | cons r rs ih =>
    intro d
    cases d with
    | zero => simp
    | succ d =>
      have := ih d
      unfold flat at *
      rw [List.drop_succ_cons, List.flatMap_cons, this, show (d + 1) * 4 = r.cells.length + d * 4 by simp [Pk.cells]; omega, List.drop_append]
      simp

set_option maxHeartbeats 4000000 in
theorem delete_one (w : World) (g cap i n : Nat) (cur : Array Value) (ps : List Pk) (hg : w.heap[g]? = some (.cells cur TP (0, 0))) (hcur : cur.size = cap * 4) (ht : cur.toList.take (ps.length * 4) = flat ps) (hn : n = ps.length) (hnc : n ≤ cap) (hcm : cap ≤ 9223372036854775807) (hi : i < n) (hn9 : n ≤ 1000000) :
    Calls Try.prog 29 #[.slice (some ⟨g, 0, none⟩) n cap, .int .i64 i, .int .i64 ((i : Int) + 1)] w fun e w' => e = .returned (.slice (some ⟨g, 0, none⟩) (n - 1) cap) ∧
      w'.ownsRow 0 TP 4 (.slice (some ⟨g, 0, none⟩) (n - 1) cap) (n - 1) (flat (ps.eraseIdx i)) ∧ Keep (fun k => k = g) w w' := by
  obtain ⟨i0, hi0, hz0, hz1, hz2⟩ := info_parts infoPk
  obtain ⟨news, hnews⟩ : ∃ news, news = flat (ps.drop (i + 1)) := ⟨_, rfl⟩
  have hlen : news.length = (n - (i + 1)) * 4 := by rw [hnews, flat_length, List.length_drop, hn]
  obtain ⟨A, hA, hsrc⟩ : ∃ A : Addr, (if cap = i + 1 then some (⟨g, 0, none⟩ : Addr) else some ⟨g, (i + 1) * 4, none⟩) = some A ∧ Hid (∀ t u, news[t]? = some u → w.drew.cell? (A.add t) = some u) := by
    by_cases h : cap = i + 1
    · refine ⟨⟨g, 0, none⟩, by simp [h], fun t u hu => ?_⟩
      have h0 : news.length = 0 := by rw [hlen]; omega
      rw [List.length_eq_zero_iff.1 h0] at hu
      simp at hu
    · refine ⟨⟨g, (i + 1) * 4, none⟩, by simp [h], fun t u hu => ?_⟩
      rw [Addr.add_mid]
      show w.cell? _ = _
      rw [cell_at hg]
      rw [hnews, flat_drop, ← ht] at hu
      rw [List.getElem?_drop, List.getElem?_take] at hu
      split at hu
      · rw [← hu]; simp
      · cases hu
  have s1 : Hid (news.length = (n - (i + 1)) * 4) := hlen
  have s2 : Hid (∀ u ∈ news, u.oneCell' = true) := by rw [hnews]; exact flat_one_cell _
  have s3 : Hid (∀ t, t < news.length → (w.drew.cell? ⟨g, 0 + i * 4 + t, none⟩).isSome = true ∧ w.drew.frozen? ⟨g, 0 + i * 4 + t, none⟩ = false) := by
    intro t ht'
    rw [hlen] at ht'
    constructor
    · show (w.cell? _).isSome = true
      rw [cell_at hg, Array.getElem?_eq_getElem (by omega)]; rfl
    · exact free_at hg _
  obtain ⟨W1, hW1⟩ : ∃ W1, W1 = w.drew.setCells g (0 + i * 4) news := ⟨_, rfl⟩
  have hg1 : W1.heap[g]? = some (.cells (put cur (i * 4) news) TP (0, 0)) := by rw [hW1, Nat.zero_add]; exact block_setCells news w.drew cur (i * 4) (block_drew hg)
  have hs1 : (put cur (i * 4) news).size = cap * 4 := by rw [put_size, hcur]
  have hcl := fun ty => clear_one W1 ty g ((n - 1) * 4) (cap - (n - 1)) (fun j hj => by rw [cell_at hg1, Array.getElem?_eq_getElem (by omega)]; rfl) (fun j hj => free_at hg1 _)
  have hg2 : (W1.setCells g ((n - 1) * 4) zeroPk).heap[g]? = some (.cells (put (put cur (i * 4) news) ((n - 1) * 4) zeroPk) TP (0, 0)) := block_setCells zeroPk W1 _ _ hg1
  have hk2 : Keep (fun k => k = g) w (W1.setCells g ((n - 1) * 4) zeroPk) := keep_setCells _ _ _ (by rw [hW1]; exact keep_setCells _ _ _ (Keep.refl _ w).drew)
  have hfin : (put (put cur (i * 4) news) ((n - 1) * 4) zeroPk).toList.take ((n - 1) * 4) = flat (ps.eraseIdx i) := by
    have h1 : (cur.toList.take (i * 4)).length = i * 4 := by rw [List.length_take, Array.length_toList]; omega
    have h2 : (cur.toList.take (i * 4) ++ news).length = (n - 1) * 4 := by rw [List.length_append, h1, hlen]; omega
    have e1 : (put cur (i * 4) news).toList.take ((n - 1) * 4) = cur.toList.take (i * 4) ++ news := by
      rw [put_list _ _ _ (by rw [hcur, hlen]; omega), List.take_append_of_le_length (by rw [h2]; exact Nat.le_refl _), List.take_of_length_le (by rw [h2]; exact Nat.le_refl _)]
    rw [put_list _ _ _ (by rw [hs1]; simp [zeroPk]; omega), e1, List.append_assoc, List.take_append_of_le_length (by rw [h2]; exact Nat.le_refl _), List.take_of_length_le (by rw [h2]; exact Nat.le_refl _)]
    rw [eraseIdx_cut, flat_append, flat_take, ← ht, ← hnews, List.take_take, show min (i * 4) (ps.length * 4) = i * 4 from by omega]
  have hown : (W1.setCells g ((n - 1) * 4) zeroPk).ownsRow 0 TP 4 (.slice (some ⟨g, 0, none⟩) (n - 1) cap) (n - 1) (flat (ps.eraseIdx i)) :=
    ⟨by rw [flat_length, List.length_eraseIdx_of_lt (by omega), hn], .inr ⟨g, cap, _, rfl, Nat.zero_le _, hg2, by omega, by unfold maxLen; omega, by rw [put_size, hs1], hfin⟩⟩
  have Hown := Lib.hid hown
  have Hk2 := Lib.hid hk2
  have Hw1 : Hid (W1 = w.drew.setCells g (0 + i * 4) news) := Lib.hid hW1
  have Hcl := Lib.hid hcl
  have Hn := Lib.hid hn
  have hic : i ≤ cap := by omega
  have hjc : i + 1 ≤ cap := by omega
  have hne : ((i : Int) == (i : Int) + 1) = false := by rw [beq_eq_false_iff_ne]; omega
  have hn1 : (1 : Int) ≤ (n : Int) := by omega
  have hin : (0 : Int) ≤ (i : Int) + 1 ∧ (i : Int) + 1 ≤ (n : Int) := by omega
  clear hown hk2 hW1 hcl hg1 hg2 hs1 hfin hg hcur ht hlen hnews hn
  go_enter Try.func29, Try.ntmps29
  go_wp2_with fail
  go_region_law (refine step_append_room rfl (.tmp 22) (.tmp 25) 32 rfl 27 i0 4 Try.underlying32 hi0 hz1 g 0 i cap (by simp [Act.eval, Act.put]) A (n - (i + 1)) (cap - (i + 1)) news (by simp [Act.eval, Act.put]) s1.out hsrc.out s2.out (by omega) s3.out ?_; rw [← Hw1.out])
  have hcl : ∀ ty, (Builtin.clear_ #[32] ty #[.slice (some ⟨g, (i + (n - (i + 1))) * 4, none⟩) (n - (i + (n - (i + 1)))) (cap - (i + (n - (i + 1))))]).run Try.prog W1 = .ok (.tuple #[]) (W1.setCells g ((n - 1) * 4) zeroPk) := by
    rw [show i + (n - (i + 1)) = n - 1 from by omega, show n - (n - 1) = 1 from by omega]; exact Hcl.out
  go_wp2
  go_ret
  exact ⟨by rw [show i + (n - (i + 1)) = n - 1 from by omega]; rfl, Hown.out, Hk2.out⟩

end Go.Proofs.Ytdmdegjomikmlaa.NetD
