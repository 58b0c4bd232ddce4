/-
  Layer 19 (ship): of records those are told that go on behind a place.
-/
import Derived.Test.YtiboacnjmogjaaaShpG
import Derived.Deep.RegionLaw
import Derived.Deep.RegionHeld3
import Derived.Deep.QuietTactic
import Derived.BigQuiet
namespace Go.Proofs.Ytiboacnjmogjaaa.ShpH
set_option linter.unusedVariables false
set_option linter.unusedSimpArgs false
open Go.RowKit Go.Proofs.Ytiboacnjmogjaaa.Mem Go.Proofs.Ytiboacnjmogjaaa.Open Go.Proofs.Ytiboacnjmogjaaa.Mask Go.Proofs.Ytiboacnjmogjaaa.LogW Go.Proofs.Ytiboacnjmogjaaa.LogV Go.Proofs.Ytiboacnjmogjaaa.LogU Go.Proofs.Ytiboacnjmogjaaa.LogL Go.Proofs.Ytiboacnjmogjaaa.ShpW Go.Proofs.Ytiboacnjmogjaaa.ShpA Go.Proofs.Ytiboacnjmogjaaa.ShpF Go.Proofs.Ytiboacnjmogjaaa.ShpG

/-- The records of the first k numbers. -/
def recs (zs : List Int) (k : Nat) : List Rec := (List.range k).map fun i => rec0 (zs.getD i 0) i
theorem recs_length (zs : List Int) (k : Nat) : (recs zs k).length = k := by simp [recs]
theorem recs_succ (zs : List Int) (k : Nat) (z : Int) (h : zs[k]? = some z) : recs zs (k + 1) = recs zs k ++ [rec0 z k] := by
  unfold recs
  rw [List.range_succ, List.map_append]
  simp [h]
theorem recs_mem (zs : List Int) (k : Nat) (r : Rec) (h : r ∈ recs zs k) : ∃ i, i < k ∧ r = rec0 (zs.getD i 0) i := by
  unfold recs at h
  obtain ⟨i, hi, rfl⟩ := List.mem_map.1 h
  exact ⟨i, List.mem_range.1 hi, rfl⟩
/-- Those that go on are numbered one by one. -/
theorem frs_num (q : Int) (rs : List Rec) : (frs q rs).1 = q + (frs q rs).2.length ∧ ∀ (i : Nat) (r : Rec), (frs q rs).2[i]? = some r → r.seq = q + i + 1 := by
  have key : ∀ (rs : List Rec) (p : Int × List Rec), (p.1 = q + p.2.length ∧ ∀ (i : Nat) (r : Rec), p.2[i]? = some r → r.seq = q + i + 1) →
      ((rs.foldl stp p).1 = q + (rs.foldl stp p).2.length ∧ ∀ (i : Nat) (r : Rec), (rs.foldl stp p).2[i]? = some r → r.seq = q + i + 1) := by
    intro rs
    induction rs with
    | nil => intro p h; exact h
    | cons r rs ih =>
      intro p h
      refine ih (stp p r) ?_
      unfold stp
      split
      · rename_i hc
        refine ⟨?_, fun i x hx => ?_⟩
        · simp only [List.length_append, List.length_cons, List.length_nil]; have := h.1; omega
        · simp only at hx
          rw [List.getElem?_append] at hx
          split at hx
          · exact h.2 i x hx
          · rename_i hi
            have hi' : i - p.2.length = 0 := by
              rcases Nat.eq_zero_or_pos (i - p.2.length) with e | e
              · exact e
              · rw [List.getElem?_eq_none (by simp; omega)] at hx; cases hx
            rw [hi'] at hx
            simp only [List.getElem?_cons_zero, Option.some.injEq] at hx
            subst hx
            have := h.1
            have := hc.2
            omega
      · exact h
  exact key rs (q, []) ⟨by simp, by simp⟩

theorem owns_base0 {w : World} {base : Nat} {e : TypeId} {size : Nat} {v : Value} {n : Nat} {xs : List Value} (h : w.ownsRow base e size v n xs) : w.ownsRow 0 e size v n xs := by
  obtain ⟨h1, h2⟩ := h
  refine ⟨h1, ?_⟩
  rcases h2 with h2 | ⟨g, cap, cur, hv, hb, hg, hr⟩
  · exact .inl h2
  · exact .inr ⟨g, cap, cur, hv, Nat.zero_le _, hg, hr⟩
theorem info_u64 : (Try.prog.info? 26).map (fun i => (i.zero, i.size, i.bytes)) = some (some (.int .u64 0), 1, 8) := by kernel_rfl
def nums (L : List Rec) : List Value := L.map fun r => .int .u64 r.num

/-- Two rows that do not meet. -/
def Apart (a b : Value) : Prop := ∀ k, a.ownBlock = some k → b.ownBlock ≠ some k
theorem owns_grown {w w' : World} {base : Nat} {e : TypeId} {size : Nat} {v x : Value} {n : Nat} {xs : List Value} (h : w.ownsRow base e size v n xs) (hg : w.grownBy w' x.ownBlock) (ha : Apart x v) : w'.ownsRow base e size v n xs :=
  h.kept hg (by
    cases hv : v.ownBlock with
    | none => exact .inl rfl
    | some k => exact .inr (fun e => ha k e.symm hv))

theorem Apart.symm {a b : Value} (h : Apart a b) : Apart b a := fun k hb ha => h k ha hb
theorem apart_new {w : World} {base : Nat} {e : TypeId} {size n m c g H : Nat} {v x : Value} {xs : List Value} (ha : Apart v x) (hx : w.ownsRow base e size x n xs) (hat : v.ownBlock = some g ∨ g = H) (hH : w.heap.size ≤ H) :
    Apart (.slice (some ⟨g, 0, none⟩) m c) x := by
  intro k hk hxk
  have hk' : g = k := by simpa [Value.ownBlock] using hk
  subst hk'
  rcases hat with h | h
  · exact ha _ h hxk
  · have := (hx.lt _ hxk).2; omega

set_option maxRecDepth 100000 in
set_option maxHeartbeats 8000000 in
theorem shipFresh_walk (q : Int) (v : Value) (w : World) (w0 : (Lit.int .u64 q).wf = true) (hv : ∃ zs, Ints w .u64 v zs) :
    Calls Try.prog 5 #[.int .u64 q, v] w fun e w' => e = .returned (.bool true) ∧ Below w.heap.size w w' := by
  obtain ⟨zs, hz⟩ := hv
  obtain ⟨ao, cap, rfl, hlen, hc⟩ := hz.form
  have hw := hz.2
  have q0 := (bounds_u64 w0).1
  have q1 := (bounds_u64 w0).2
  clear hz w0
  have HC := Lib.hid hc
  have HW := Lib.hid hw
  clear hc hw
  obtain ⟨len, hl⟩ : ∃ len, len = zs.length := ⟨_, rfl⟩
  rw [← hl] at hlen
  simp only [← hl]
  replace hl := Lib.hid hl
  obtain ⟨i0, hi, hz0, hz1, hz2⟩ := info_parts Try.info_rec
  obtain ⟨j0, hj, hy0, hy1, hy2⟩ := info_parts info_u64
  go_enter Try.func5, Try.ntmps5
  go_wp2_with fail
  have A0 : Apart (.slice (some ⟨w.heap.size, 0, none⟩) 0 0) (.slice (some ⟨w.heap.size + 1, 0, none⟩) 0 0) := by
    intro k h1 h2
    simp [Value.ownBlock] at h1 h2
    omega
  have O1 : ((w.alloc (.cells #[] 37)).alloc (.cells #[] 26)).ownsRow w.heap.size 37 9 (.slice (some ⟨w.heap.size, 0, none⟩) 0 0) 0 (flat (recs zs 0)) := (World.ownsRow_made w #[] 0 (Nat.le_refl _) (by unfold maxLen; omega) rfl).alloc _
  have O2 : ((w.alloc (.cells #[] 37)).alloc (.cells #[] 26)).ownsRow w.heap.size 26 1 (.slice (some ⟨w.heap.size + 1, 0, none⟩) 0 0) 0 (nums []) := by
    have := World.ownsRow_made (base := w.heap.size) (e := 26) (size := 1) (w.alloc (.cells #[] 37)) #[] 0 (by simp) (by unfold maxLen; omega) rfl
    simpa [nums] using this
  have K0 := ((Keep.refl (fun _ => False) w).alloc (.cells #[] 37)).alloc (.cells #[] 26)
  replace A0 := Lib.hid A0
  replace O1 := Lib.hid O1
  replace O2 := Lib.hid O2
  replace K0 := Lib.hid K0
  go_loopw [5, 6, 7, 8] (fun xin xw xa xi wr => ∃ (k m : Nat) (qa : Int) (L : List Rec), k ≤ len ∧ k ≤ 50 ∧ Hid (frs q (recs zs k) = (qa, L)) ∧ 0 ≤ qa ∧ qa ≤ 18446744073709551615 ∧ m ≤ k ∧ Hid (m = L.length) ∧ xi = .int .i64 k ∧ xa = .int .u64 qa ∧ Hid (wr.ownsRow w.heap.size 37 9 xin k (flat (recs zs k))) ∧ Hid (wr.ownsRow w.heap.size 26 1 xw m (nums L)) ∧ Apart xin xw ∧ Hid (Keep (fun _ => False) w wr)) (fun xin xw xa xi wr => 50 - (intOf xi).toNat)
  case atStart => exact ⟨0, 0, q, [], by omega, by omega, Lib.hid rfl, q0, q1, by omega, Lib.hid rfl, rfl, rfl, O1, O2, A0.out, K0⟩
  case round =>
    clear A0 O1 O2 K0
    obtain ⟨k, m, qa, L, hk, hk5, hL, l0, l1, hmk, hmL, rfl, rfl, Hin, Hwa, hap, Hk⟩ := hrel
    have Hap := Lib.hid hap
    clear hap
    have hsz := Hk.out.size
    by_cases hlt : k < len ∧ k < 50
    · obtain ⟨hlt1, hlt2⟩ := hlt
      have hne : zs ≠ [] := by intro h; have := hl.out; rw [h] at this; simp at this; omega
      obtain ⟨g, off, rfl, hg, hcell⟩ := HC.out.resolve_left hne
      obtain ⟨z, hzk⟩ : ∃ z, zs[k]? = some z := ⟨zs[k]'(by have := hl.out; omega), List.getElem?_eq_getElem _⟩
      have hzw := bounds_u64 (HW.out z (List.mem_of_getElem? hzk))
      have hc0 : ∀ w', Keep (fun _ => False) w w' → w'.cell? ⟨g, off + k, none⟩ = some (.int .u64 z) := fun w' kk => (kk.cell (p := ⟨g, _, none⟩) hg (fun e => e)).trans (hcell k z hzk)
      have hrs := recs_succ zs k z hzk
      have hsn : frs q (recs zs (k + 1)) = stp (qa, L) (rec0 z k) := by rw [hrs, frs_snoc, hL.out]
      have hc1 := hc0 wr Hk.out
      have Hc := Lib.hid hc0
      have Hrs := Lib.hid hrs
      have Hsn := Lib.hid hsn
      clear hne hcell hzk hc0 hrs hsn hL
      by_cases hz : z = 0
      · have z0 : (z != 0) = false := by simp [hz]
        have Hno : Hid (¬ (0 < (rec0 z k).seq ∧ (rec0 z k).seq - 1 = qa)) := Lib.hid (by intro h; have := h.1; simp [rec0] at this; omega)
        clear hz
        cases hb : (IntKind.u64.wrap (z - 1) == qa)
        · skip
          go_wp2_with (at_builtin; refine wpList_append_lies _ rfl _ _ _ rfl w.heap.size 37 i0 _ 9 88 Try.underlying38 hi hz0 hz1 hz2 rfl (by decide) _ k (flat (recs zs k)) (by rfl) (Hin.out.alloc _) ⟨wr.heap.size, 0, none⟩ 1 1 [.int .u64 z, .int .u64 0, .int .u64 0, .int .u64 k, .int .i64 0, .string ⟨#[]⟩, .string ⟨#[]⟩, .int .u64 0, .int .u64 0] (by rfl) rfl (World.news_of_block (block_new _ _)) (by simp [Value.oneCell']) (by decide) (by unfold maxLen; omega) (by omega) (by simp; omega) _ rfl ?_; intro g2 cp w2 hown2 hgrow hat hlt2; have c2 := Hc.out w2 (keep_grown (Hk.out.alloc _) hgrow (fun k e => (Hin.out.lt k e).1)); have Hat := Lib.hid hat; have Hg := Lib.hid hgrow; have Ho := Lib.hid hown2; clear hat hown2 hgrow hlt2 hc1)
          have Hk2 := Lib.hid (keep_grown (Hk.out.alloc _) Hg.out (fun k e => (Hin.out.lt k e).1))
          have Hin2 := Ho
          have Hwa2 := Lib.hid (owns_grown (Hwa.out.alloc _) Hg.out Hap.out)
          have Hap2 := Lib.hid (apart_new (m := k + 1) (c := cp) Hap.out Hwa.out Hat.out (by simp))
          clear Hat Hg Ho
          go_roundw
          case rel => exact ⟨k + 1, m, qa, L, by omega, by omega, Lib.hid (by rw [Hsn.out]; unfold stp; rw [if_neg (by intro h; exact Hno.out h)]), by omega, by omega, by omega, hmL, by go_num, by first | rfl | go_num, Lib.hid (by rw [Hrs.out, flat_append, flat_one]; exact Hin2.out), Hwa2, Hap2.out, Hk2⟩
          case measure => simp [intOf]; omega
        · skip
          go_wp2_with (at_builtin; refine wpList_append_lies _ rfl _ _ _ rfl w.heap.size 37 i0 _ 9 88 Try.underlying38 hi hz0 hz1 hz2 rfl (by decide) _ k (flat (recs zs k)) (by rfl) (Hin.out.alloc _) ⟨wr.heap.size, 0, none⟩ 1 1 [.int .u64 z, .int .u64 0, .int .u64 0, .int .u64 k, .int .i64 0, .string ⟨#[]⟩, .string ⟨#[]⟩, .int .u64 0, .int .u64 0] (by rfl) rfl (World.news_of_block (block_new _ _)) (by simp [Value.oneCell']) (by decide) (by unfold maxLen; omega) (by omega) (by simp; omega) _ rfl ?_; intro g2 cp w2 hown2 hgrow hat hlt2; have c2 := Hc.out w2 (keep_grown (Hk.out.alloc _) hgrow (fun k e => (Hin.out.lt k e).1)); have Hat := Lib.hid hat; have Hg := Lib.hid hgrow; have Ho := Lib.hid hown2; clear hat hown2 hgrow hlt2 hc1)
          have Hk2 := Lib.hid (keep_grown (Hk.out.alloc _) Hg.out (fun k e => (Hin.out.lt k e).1))
          have Hin2 := Ho
          have Hwa2 := Lib.hid (owns_grown (Hwa.out.alloc _) Hg.out Hap.out)
          have Hap2 := Lib.hid (apart_new (m := k + 1) (c := cp) Hap.out Hwa.out Hat.out (by simp))
          clear Hat Hg Ho
          go_roundw
          case rel => exact ⟨k + 1, m, qa, L, by omega, by omega, Lib.hid (by rw [Hsn.out]; unfold stp; rw [if_neg (by intro h; exact Hno.out h)]), by omega, by omega, by omega, hmL, by go_num, by first | rfl | go_num, Lib.hid (by rw [Hrs.out, flat_append, flat_one]; exact Hin2.out), Hwa2, Hap2.out, Hk2⟩
          case measure => simp [intOf]; omega
      have hz1' : 1 ≤ z := by omega
      have hz2' : (z != 0) = true := by rw [bne_iff_ne]; exact hz
      by_cases he : z - 1 = qa
      · have e1 : (z - 1 == qa) = true := by rw [beq_iff_eq]; exact he
        have He := Lib.hid he
        have lq : qa ≤ 18446744073709551614 := by omega
        clear he
        go_wp2_with (at_builtin; refine wpList_append_lies _ rfl _ _ _ rfl w.heap.size 37 i0 _ 9 88 Try.underlying38 hi hz0 hz1 hz2 rfl (by decide) _ k (flat (recs zs k)) (by rfl) (Hin.out.alloc _) ⟨wr.heap.size, 0, none⟩ 1 1 [.int .u64 z, .int .u64 0, .int .u64 0, .int .u64 k, .int .i64 0, .string ⟨#[]⟩, .string ⟨#[]⟩, .int .u64 0, .int .u64 0] (by rfl) rfl (World.news_of_block (block_new _ _)) (by simp [Value.oneCell']) (by decide) (by unfold maxLen; omega) (by omega) (by simp; omega) _ rfl ?_; intro g2 cp w2 hown2 hgrow hat hlt2; have c2 := Hc.out w2 (keep_grown (Hk.out.alloc _) hgrow (fun k e => (Hin.out.lt k e).1)); have Hat := Lib.hid hat; have Hg := Lib.hid hgrow; have Ho := Lib.hid hown2; clear hat hown2 hgrow hlt2 hc1)
        have Hk2 := Lib.hid (keep_grown (Hk.out.alloc _) Hg.out (fun k e => (Hin.out.lt k e).1))
        have Hin2 := Ho
        have Hwa2 := Lib.hid (owns_grown (Hwa.out.alloc _) Hg.out Hap.out)
        have Hap2 := Lib.hid (apart_new (m := k + 1) (c := cp) Hap.out Hwa.out Hat.out (by simp))
        clear Hat Hg Ho
        have hb3 : ∀ o, w.heap.size ≤ (w2.alloc o).drew.heap.size := fun o => Nat.le_trans Hk2.out.size (by simp)
        have hwk : IntKind.u64.wrap (k : Int) = (k : Int) := by rw [IntKind.wrap_u64]; omega
        have h63 : m + 1 ≤ maxLen := by unfold maxLen; omega
        have hby : (m + 1) * 8 ≤ 140737488355328 := by omega
        have ow3 : ∀ o, (w2.alloc o).drew.ownsRow w.heap.size 26 1 u6 m (nums L) := fun o => owns_drew (Hwa2.out.alloc o)
        have nw3 : ∀ j u, [Value.int .u64 k][j]? = some u → (w2.alloc (.cells #[.int .u64 k] 26)).drew.cell? ((⟨w2.heap.size, 0, none⟩ : Addr).add j) = some u := World.news_of_block (block_drew (block_new w2 _))
        have on3 : ∀ u ∈ [Value.int .u64 k], u.oneCell' = true := by simp [Value.oneCell']
        have c2' : w2.drew.cell? ⟨g, off + k, none⟩ = some (.int .u64 z) := c2
        go_region_held3 (fun w' => w'.cell? ⟨g, off + k, none⟩ = some (.int .u64 z))
          (first | assumption | exact Hc.out _ (Hk2.out.drew.alloc _) | exact Hc.out _ ((Hk2.out.alloc _).drew) | exact Hc.out _ (keep_grown ((Hk2.out.alloc _).drew) hgrow3 (fun k e => (Hwa2.out.lt k e).1)) | go_keep)
          ((refine step_append_lies _ rfl (.tmp 48) (.tmp 51) 45 rfl w.heap.size 26 j0 _ 1 8 Try.underlying45 hj hy0 hy1 hy2 rfl (by decide) u6 m (nums L) rfl (ow3 _) ⟨w2.heap.size, 0, none⟩ 1 1 [.int .u64 k] rfl rfl nw3 on3 (by decide) h63 hby (hb3 _) _ rfl ?_; intro g3 cp3 w3 hown3 hgrow3 hat3 hlt3))
        have Hk3 := Lib.hid (keep_grown ((Hk2.out.alloc _).drew) hgrow3 (fun k e => (Hwa2.out.lt k e).1))
        have Hwa3 := Lib.hid hown3
        have Hin3 := Lib.hid (owns_grown (owns_drew (Hin2.out.alloc _)) hgrow3 Hap2.out.symm)
        have Hap3 := Lib.hid (apart_new (m := m + 1) (c := cp3) Hap2.out.symm Hin2.out hat3 (by simp)).symm
        have hqz : qa + 1 = z := by have := He.out; omega
        have Hqz := Lib.hid hqz
        clear hown3 hgrow3 hat3 hlt3 hqz hb3 hwk h63 hby ow3 nw3 on3 c2' c2 Hin2 Hwa2 Hap2 Hk2
        go_wp2_with fail
        go_roundw
        case rel => exact ⟨k + 1, m + 1, z, L ++ [rec0 z k], by omega, by omega, Lib.hid (by rw [Hsn.out]; unfold stp; rw [if_pos (show 0 < (rec0 z k).seq ∧ (rec0 z k).seq - 1 = qa from ⟨by show 0 < z; omega, He.out⟩)]; show (qa + 1, _) = _; rw [Hqz.out]), by omega, by omega, by omega, Lib.hid (by rw [List.length_append, ← hmL.out]; rfl), by go_num, by first | rfl | go_num, Lib.hid (by rw [Hrs.out, flat_append, flat_one]; exact Hin3.out), Lib.hid (by unfold nums at *; rw [List.map_append]; exact Hwa3.out), Hap3.out, Hk3⟩
        case measure => simp [intOf]; omega
      · have e1 : (z - 1 == qa) = false := by rw [beq_eq_false_iff_ne]; exact he
        have Hno : Hid (¬ (0 < (rec0 z k).seq ∧ (rec0 z k).seq - 1 = qa)) := Lib.hid (by intro h; exact he h.2)
        clear he
        go_wp2_with (at_builtin; refine wpList_append_lies _ rfl _ _ _ rfl w.heap.size 37 i0 _ 9 88 Try.underlying38 hi hz0 hz1 hz2 rfl (by decide) _ k (flat (recs zs k)) (by rfl) (Hin.out.alloc _) ⟨wr.heap.size, 0, none⟩ 1 1 [.int .u64 z, .int .u64 0, .int .u64 0, .int .u64 k, .int .i64 0, .string ⟨#[]⟩, .string ⟨#[]⟩, .int .u64 0, .int .u64 0] (by rfl) rfl (World.news_of_block (block_new _ _)) (by simp [Value.oneCell']) (by decide) (by unfold maxLen; omega) (by omega) (by simp; omega) _ rfl ?_; intro g2 cp w2 hown2 hgrow hat hlt2; have c2 := Hc.out w2 (keep_grown (Hk.out.alloc _) hgrow (fun k e => (Hin.out.lt k e).1)); have Hat := Lib.hid hat; have Hg := Lib.hid hgrow; have Ho := Lib.hid hown2; clear hat hown2 hgrow hlt2 hc1)
        have Hk2 := Lib.hid (keep_grown (Hk.out.alloc _) Hg.out (fun k e => (Hin.out.lt k e).1))
        have Hin2 := Ho
        have Hwa2 := Lib.hid (owns_grown (Hwa.out.alloc _) Hg.out Hap.out)
        have Hap2 := Lib.hid (apart_new (m := k + 1) (c := cp) Hap.out Hwa.out Hat.out (by simp))
        clear Hat Hg Ho
        go_roundw
        case rel => exact ⟨k + 1, m, qa, L, by omega, by omega, Lib.hid (by rw [Hsn.out]; unfold stp; rw [if_neg (by intro h; exact Hno.out h)]), by omega, by omega, by omega, hmL, by go_num, by first | rfl | go_num, Lib.hid (by rw [Hrs.out, flat_append, flat_one]; exact Hin2.out), Hwa2, Hap2.out, Hk2⟩
        case measure => simp [intOf]; omega
    · have hex : ¬ (k < len ∧ k < 50) := hlt
      have dx : ((decide (k < len)) = false) ∨ (k = 50 ∧ k < len) := by
        by_cases h : k < len
        · right; omega
        · left; exact decide_eq_false h
      have hrows : RowAt wr (fun j => j < wr.heap.size) u5 (recs zs k) := ⟨by rw [recs_length]; exact owns_base0 Hin.out, fun j hj => (Hin.out.lt j hj).2, fun j hj => hj⟩
      have hfr := fresh_any q (recs zs k) u5 wr _ hrows (by rw [recs_length]; omega) q0 q1 (fun r hr => by
        obtain ⟨i, hi, rfl⟩ := recs_mem zs k r hr
        have hz : zs.getD i 0 = 0 ∨ zs.getD i 0 ∈ zs := by
          rw [List.getD_eq_getElem?_getD]
          cases hzi : zs[i]? with
          | none => left; rfl
          | some z => right; exact List.mem_of_getElem? hzi
        rcases hz with hz | hz
        · show 0 ≤ zs.getD i 0 ∧ zs.getD i 0 ≤ _; omega
        · exact bounds_u64 (HW.out _ hz))
      have hnum := frs_num q (recs zs k)
      have hmem : ∀ (i : Nat) (r : Rec), L[i]? = some r → r.seq = q + i + 1 := by
        have := hnum.2; rw [hL.out] at this; exact this
      have hlast : qa = q + L.length := by have := hnum.1; rw [hL.out] at this; exact this
      rw [hL.out] at hfr
      have Hfr := Lib.hid hfr
      have Hme := Lib.hid hmem
      have Hla := Lib.hid hlast
      clear hfr hnum hmem hlast hrows hex hL
      obtain ⟨ao6, cap6, h6⟩ := owns_slice Hwa.out
      subst h6
      rcases dx with dx | ⟨dx, dy⟩
      · have hkl : ¬ ((k : Int) < len) := by simpa using dx
        clear dx hlt
        go_wp2_with fail
        refine Hfr.out.mono ?_
        rintro e w4 ⟨⟨v4, rfl, T4⟩, k4⟩
        have T4' : ShpF.Told w4 v4 L := T4
        clear T4
        obtain ⟨ao4, cap4, rfl, hT4⟩ := T4'
        rw [← hmL.out]
        have Hw4 := Lib.hid (owns_keep Hwa.out k4 (fun _ _ e => e))
        have HT4 := Lib.hid hT4
        have K4 := Hk.out.trans k4
        clear hT4 k4 Hfr
        go_wp2_with fail
        refine (awake_any _).mono ?_
        rintro e w5 ⟨rfl, k5⟩
        have Hk5 := Lib.hid (Keep.of0 k5)
        replace K4 := Lib.hid K4
        clear k5
        go_wp2_with fail
        go_loopw [10] (fun xi wr2 => ∃ j : Nat, j ≤ m ∧ xi = .int .i64 j ∧ Hid (Keep (fun _ => False) w4 wr2)) (fun xi wr2 => m - (intOf xi).toNat)
        case atStart => exact ⟨0, by omega, rfl, Hk5⟩
        case round =>
          obtain ⟨j, hj, rfl, Hk6⟩ := hrel
          by_cases hjm : j < m
          · obtain ⟨r, hr⟩ : ∃ r, L[j]? = some r := ⟨L[j]'(by have := hmL.out; omega), List.getElem?_eq_getElem _⟩
            have hseq := Hme.out j r hr
            have hLne : L ≠ [] := by intro h; rw [h] at hr; cases hr
            obtain ⟨g4, rfl, hg4, hc4⟩ := HT4.out.resolve_left hLne
            have x0 : wr.cell? ⟨g4, j * 9, none⟩ = some (.int .u64 (q + j + 1)) := by
              rw [← hseq]; exact (Hk6.out.cell (p := ⟨g4, _, none⟩) hg4 (fun e => e)).trans (hc4 j r hr 0 (by omega))
            have x3 : wr.cell? ⟨g4, j * 9 + 3, none⟩ = some (.int .u64 r.num) := (Hk6.out.cell (p := ⟨g4, _, none⟩) hg4 (fun e => e)).trans (hc4 j r hr 3 (by omega))
            rcases Hw4.out.2 with ⟨-, h0⟩ | ⟨g6, cp6, cur6, e6, -, hg6, -, -, -, ht6⟩
            · omega
            simp only [Value.slice.injEq] at e6
            obtain ⟨rfl, -, rfl⟩ := e6
            have y0 : wr.cell? ⟨g6, j, none⟩ = some (.int .u64 r.num) := by
              rw [Hk6.out.cell (p := ⟨g6, j, none⟩) (lt_of_block hg6) (fun e => e), cell_at hg6]
              have h1 : (nums L)[j]? = some (.int .u64 r.num) := by unfold nums; rw [List.getElem?_map, hr]; rfl
              rw [← ht6, List.getElem?_take] at h1
              split at h1
              · rw [← h1]; simp
              · cases h1
            have hq2 : q + (j : Int) + 1 ≤ 18446744073709551615 := by have := Hla.out; have := hmL.out; omega
            generalize r.num = nu at *
            have e0 : (nu != nu) = false := by simp
            have e1 : ((q + (j : Int) + 1) != (q + 1 + (j : Int))) = false := by simp; omega
            clear hr hseq hLne hc4 hg6 ht6
            go_wp2_with fail
            go_quiet (fail)
            go_wp2_with fail
            go_roundw
            case rel => exact ⟨j + 1, by omega, by go_num, Lib.hid (Hk6.out.drewN _)⟩
            case measure => simp [intOf]; omega
          · have hje : ¬ ((j : Int) < m) := by omega
            go_wp2_with fail
            go_ret
            exact ⟨rfl, (K4.out.trans Hk6.out).below0⟩
      · subst dx
        clear hlt
        go_wp2_with fail
        refine Hfr.out.mono ?_
        rintro e w4 ⟨⟨v4, rfl, T4⟩, k4⟩
        have T4' : ShpF.Told w4 v4 L := T4
        clear T4
        obtain ⟨ao4, cap4, rfl, hT4⟩ := T4'
        rw [← hmL.out]
        have Hw4 := Lib.hid (owns_keep Hwa.out k4 (fun _ _ e => e))
        have HT4 := Lib.hid hT4
        have K4 := Hk.out.trans k4
        clear hT4 k4 Hfr
        go_wp2_with fail
        refine (awake_any _).mono ?_
        rintro e w5 ⟨rfl, k5⟩
        have Hk5 := Lib.hid (Keep.of0 k5)
        replace K4 := Lib.hid K4
        clear k5
        go_wp2_with fail
        go_loopw [10] (fun xi wr2 => ∃ j : Nat, j ≤ m ∧ xi = .int .i64 j ∧ Hid (Keep (fun _ => False) w4 wr2)) (fun xi wr2 => m - (intOf xi).toNat)
        case atStart => exact ⟨0, by omega, rfl, Hk5⟩
        case round =>
          obtain ⟨j, hj, rfl, Hk6⟩ := hrel
          by_cases hjm : j < m
          · obtain ⟨r, hr⟩ : ∃ r, L[j]? = some r := ⟨L[j]'(by have := hmL.out; omega), List.getElem?_eq_getElem _⟩
            have hseq := Hme.out j r hr
            have hLne : L ≠ [] := by intro h; rw [h] at hr; cases hr
            obtain ⟨g4, rfl, hg4, hc4⟩ := HT4.out.resolve_left hLne
            have x0 : wr.cell? ⟨g4, j * 9, none⟩ = some (.int .u64 (q + j + 1)) := by
              rw [← hseq]; exact (Hk6.out.cell (p := ⟨g4, _, none⟩) hg4 (fun e => e)).trans (hc4 j r hr 0 (by omega))
            have x3 : wr.cell? ⟨g4, j * 9 + 3, none⟩ = some (.int .u64 r.num) := (Hk6.out.cell (p := ⟨g4, _, none⟩) hg4 (fun e => e)).trans (hc4 j r hr 3 (by omega))
            rcases Hw4.out.2 with ⟨-, h0⟩ | ⟨g6, cp6, cur6, e6, -, hg6, -, -, -, ht6⟩
            · omega
            simp only [Value.slice.injEq] at e6
            obtain ⟨rfl, -, rfl⟩ := e6
            have y0 : wr.cell? ⟨g6, j, none⟩ = some (.int .u64 r.num) := by
              rw [Hk6.out.cell (p := ⟨g6, j, none⟩) (lt_of_block hg6) (fun e => e), cell_at hg6]
              have h1 : (nums L)[j]? = some (.int .u64 r.num) := by unfold nums; rw [List.getElem?_map, hr]; rfl
              rw [← ht6, List.getElem?_take] at h1
              split at h1
              · rw [← h1]; simp
              · cases h1
            have hq2 : q + (j : Int) + 1 ≤ 18446744073709551615 := by have := Hla.out; have := hmL.out; omega
            generalize r.num = nu at *
            have e0 : (nu != nu) = false := by simp
            have e1 : ((q + (j : Int) + 1) != (q + 1 + (j : Int))) = false := by simp; omega
            clear hr hseq hLne hc4 hg6 ht6
            go_wp2_with fail
            go_quiet (fail)
            go_wp2_with fail
            go_roundw
            case rel => exact ⟨j + 1, by omega, by go_num, Lib.hid (Hk6.out.drewN _)⟩
            case measure => simp [intOf]; omega
          · have hje : ¬ ((j : Int) < m) := by omega
            go_wp2_with fail
            go_ret
            exact ⟨rfl, (K4.out.trans Hk6.out).below0⟩

end Go.Proofs.Ytiboacnjmogjaaa.ShpH
