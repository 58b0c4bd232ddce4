/-
  Layer 6 (ring): going over the keys of a list.
-/
import Derived.Test.YtebjbkpgicbgeaaRinA
import Derived.RangeFuncNested
import Derived.RangeFuncBound
import Derived.RangeFuncCalls
import Derived.RangeFuncLeaves
import Derived.Shelf.Abstract
import Derived.Shelf.RegionOpen
import Derived.OwnWalkIn
import Derived.TacticsInMore
import Derived.LoopNIn
import Derived.LoopIn
namespace Go.Proofs.Ytebjbkpgicbgeaa.RinK
set_option linter.unusedVariables false
set_option linter.unusedSimpArgs false
open Go.RowKit Go.Shelf Go.Proofs.Ytebjbkpgicbgeaa.Mem Go.Proofs.Ytebjbkpgicbgeaa.RinM Go.Proofs.Ytebjbkpgicbgeaa.RinP Go.Proofs.Ytebjbkpgicbgeaa.RinW Go.Proofs.Ytebjbkpgicbgeaa.RinL Go.Proofs.Ytebjbkpgicbgeaa.RinF Go.Proofs.Ytebjbkpgicbgeaa.RinG Go.Proofs.Ytebjbkpgicbgeaa.RinH Go.Proofs.Ytebjbkpgicbgeaa.RinD Go.Proofs.Ytebjbkpgicbgeaa.RinN Go.Proofs.Ytebjbkpgicbgeaa.RinA
attribute [local go_sem] Oper.semAt_some

theorem seg_nx {f g : Nat → Nat} : ∀ (L : List Nat), Seg f g L → ∀ (j a b : Nat), L[j]? = some a → L[j + 1]? = some b → f a = b
  | [], _, j, a, b, h1, h2 => by simp at h1
  | [x], _, j, a, b, h1, h2 => by simp at h2
  | x :: y :: r, hs, 0, a, b, h1, h2 => by
    simp at h1 h2
    rw [← h1, ← h2]; exact hs.1
  | x :: y :: r, hs, j + 1, a, b, h1, h2 => by
    simp only [List.getElem?_cons_succ] at h1 h2
    exact seg_nx (y :: r) hs.2.2 j a b h1 h2
/-- Where a number stands in a row: how many stand behind it. -/
def behind (l : List Nat) (v : Value) : Nat := l.length - l.idxOf (intOf v).toNat
theorem idx_nd {l : List Nat} (h : l.Nodup) {j a : Nat} (hj : l[j]? = some a) : l.idxOf a = j := by
  obtain ⟨hlt, rfl⟩ := List.getElem?_eq_some_iff.1 hj
  have h1 : l.idxOf l[j] < l.length := List.idxOf_lt_length_of_mem (List.getElem_mem hlt)
  exact (List.getElem_inj h).1 (List.getElem_idxOf h1)

/-- The nodes that stand behind the list's own end, in their order. -/
structure Walk (sl : List Sl) (i : Nat) (l0 : List Nat) (ls : List ByteArray) (N : Nat) : Prop where
  nd : (l0 ++ [i]).Nodup
  first : ∀ a, (l0 ++ [i])[0]? = some a → nx sl i = a
  next : ∀ j a b, (l0 ++ [i])[j]? = some a → (l0 ++ [i])[j + 1]? = some b → nx sl a = b
  key : ∀ (j : Nat) (x : ByteArray), ls[j]? = some x → ∃ a, (l0 ++ [i])[j]? = some a ∧ ky sl a = x ∧ a ≠ i ∧ a < N
  len : ls.length = l0.length
theorem walk_of {n k i : Nat} {sl : List Sl} {fr : List Nat} {L : List (List Nat)} {M : ByteArray → Option Nat} (h : Inv n k sl fr L M) {ls : List ByteArray} (hl : (keysOf sl L)[i]? = some ls) : i < n ∧ ∃ l0, Walk sl i l0 ls (n + k) := by
  obtain ⟨l0, h0, rfl⟩ : ∃ l0, L[i]? = some l0 ∧ l0.map (ky sl) = ls := by
    unfold keysOf at hl; rw [List.getElem?_map] at hl; exact Option.map_eq_some_iff.1 hl
  have hi : i < n := by have := (List.getElem?_eq_some_iff.1 h0).1; rw [h.lL] at this; exact this
  have hs := h.seg i l0 h0
  have hni : i ∉ l0 := fun e => by have := h.rng i (List.mem_append_right _ (mem_flat.2 ⟨i, l0, h0, e⟩)); omega
  refine ⟨hi, l0, ?_, ?_, ?_, ?_, by simp⟩
  · rw [List.nodup_append]
    exact ⟨nodup_in (List.nodup_append.1 h.nd).2.1 (List.mem_of_getElem? h0), by simp, fun x hx y hy => by simp at hy; rw [hy]; rintro rfl; exact hni hx⟩
  · intro a ha
    exact seg_nx _ hs 0 i a rfl ha
  · intro j a b ha hb
    exact seg_nx _ hs (j + 1) a b ha hb
  · intro j x hx
    rw [List.getElem?_map] at hx
    obtain ⟨a, ha, rfl⟩ := Option.map_eq_some_iff.1 hx
    have hal := List.mem_of_getElem? ha
    exact ⟨a, by rw [List.getElem?_append_left (List.getElem?_eq_some_iff.1 ha).1]; exact ha, rfl, by rintro rfl; exact hni hal, (h.rng a (List.mem_append_right _ (mem_flat.2 ⟨i, l0, h0, hal⟩))).2⟩

set_option maxHeartbeats 4000000 in
set_option maxRecDepth 100000 in
theorem keys_stops (m b n k T i br bl : Nat) (K : Keys) (ls : List ByteArray) (Fp G : Nat → Prop) (w : World) (hm : 2 ≤ m) (hR : Ring w Fp b n k T K) (hl : K[i]? = some ls) (hbr : w.cell? ⟨br, 0, none⟩ = some (.pointer (some ⟨b, 0, none⟩))) (hbl : w.cell? ⟨bl, 0, none⟩ = some (.int .i64 (i : Int)))
    (hG : ∀ j, Fp j → G j) (hGr : G br) (hGl : G bl) (hrl : br < w.heap.size) (hll : bl < w.heap.size) :
    SeqStopsK Fence.wide m Try.prog 50 #[.pointer (some ⟨br, 0, none⟩), .pointer (some ⟨bl, 0, none⟩)] (fun x : ByteArray => #[.string x]) (fun W W' => Keep (fun j => ¬ G j) W W') (· = ls) (· <+: ls) ls.length w := by
  intro lp J Jx W hW hJ hJx hY h0
  have k0 : Keep (fun _ => False) w W := Keep.of0 hW
  have hR1 := hR.keep0 k0
  obtain ⟨sl, fr, M, gs, gm, mb, v, L, h1, h2, h3⟩ := hR1
  rw [← h3] at hl
  obtain ⟨hi, l0, hw⟩ := walk_of h2 hl
  have hbr1 : W.cell? ⟨br, 0, none⟩ = some (.pointer (some ⟨b, 0, none⟩)) := (k0.cell (p := ⟨br, 0, none⟩) hrl (fun e => e)).trans hbr
  have hbl1 : W.cell? ⟨bl, 0, none⟩ = some (.int .i64 (i : Int)) := (k0.cell (p := ⟨bl, 0, none⟩) hll (fun e => e)).trans hbl
  have hrl1 : br < W.heap.size := Nat.lt_of_lt_of_le hrl k0.size
  have hll1 : bl < W.heap.size := Nat.lt_of_lt_of_le hll k0.size
  have hN := h1.hN
  -- what holds of each world that keeps G
  have hF : ∀ W1, Keep (fun j => ¬ G j) W W1 → RAt W1 Fp b n (n + k) T sl fr (lens L) M gs gm mb v ∧ W1.cell? ⟨br, 0, none⟩ = some (.pointer (some ⟨b, 0, none⟩)) ∧ W1.cell? ⟨bl, 0, none⟩ = some (.int .i64 (i : Int)) := fun W1 kk =>
    ⟨h1.keep kk (fun j hj e => e (hG j hj)), (kk.cell (p := ⟨br, 0, none⟩) hrl1 (fun e => e hGr)).trans hbr1, (kk.cell (p := ⟨bl, 0, none⟩) hll1 (fun e => e hGl)).trans hbl1⟩
  have HI := Lib.hid (is_yes ⟨sl, fr, M, gs, gm, mb, v, L, h1, h2, h3⟩ i hi)
  have HF := Lib.hid hF
  have HW := Lib.hid hw
  have HY := Lib.hid hY
  have H0 := Lib.hid h0
  have hri : i < n + k := by omega
  have c1 : W.cell? ⟨b, 1, none⟩ = some (.slice (some ⟨gs, 0, none⟩) (n + k) (n + k)) := cell_at h1.h 1
  have c1' : W.drew.cell? ⟨b, 1, none⟩ = some (.slice (some ⟨gs, 0, none⟩) (n + k) (n + k)) := c1
  have ci := h1.cell3 i hri
  obtain ⟨a0, ha0⟩ : ∃ a0, (l0 ++ [i])[0]? = some a0 := by cases l0 <;> simp
  rw [hw.first a0 ha0] at ci
  have ci' : W.drew.cell? ⟨gs, i * 4 + 3, none⟩ = some (.int .i64 (a0 : Int)) := ci
  have hbr1' : W.drew.cell? ⟨br, 0, none⟩ = some (.pointer (some ⟨b, 0, none⟩)) := hbr1
  have hbl1' : W.drew.cell? ⟨bl, 0, none⟩ = some (.int .i64 (i : Int)) := hbl1
  have Ha0 := Lib.hid ha0
  generalize hNe : n + k = N at *
  replace hNe := Lib.hid hNe
  have HJ := Lib.hid hJ
  clear hR hW k0 h1 h2 h3 hl hw hF hY h0 hbr hbl ha0 hG hJ hJx
  refine callsIn_of_wp Try.func50 rfl trivial ?_ rfl
  simp only [Try.ntmps50, List.size_toArray, List.length_cons, List.length_nil, Nat.reduceAdd, Nat.reduceSub, Array.replicate_succ, Array.replicate_zero, List.push_toArray, List.append_toArray, List.nil_append, List.cons_append]
  gi_wp2_with (refine ⟨trivial, fun _ => by omega, ?_⟩; gi_at_call 47; refine (callsIn_wide.2 HI.out).mono ?_; rintro e w1 ⟨rfl, rfl⟩)
  gi_region
  gi_wp2
  clear c1 c1' ci ci' hbr1' hbl1' hbr1 hbl1
  gi_loopw [4] (fun p wr => ∃ (j a : Nat), j ≤ ls.length ∧ p = .int .i64 (a : Int) ∧ Hid ((l0 ++ [i])[j]? = some a) ∧ Hid (Keep (fun j => ¬ G j) W wr) ∧ Hid (J (ls.take j) wr)) (fun p wr => behind (l0 ++ [i]) p)
  case atStart => exact ⟨0, a0, by omega, rfl, Ha0, Lib.hid ((Keep.refl _ W).drew), Lib.hid (HJ.out _ _ _ none H0.out ⟨rfl, rfl, rfl, Nat.le_refl _, fun _ _ _ => rfl⟩ (fun r e => by cases e))⟩
  case round =>
    obtain ⟨j, a, hj, rfl, ha, hK, hJ⟩ := hrel
    obtain ⟨r1, q1, q2⟩ := HF.out _ hK.out
    have d1 : wr.cell? ⟨b, 1, none⟩ = some (.slice (some ⟨gs, 0, none⟩) N N) := cell_at r1.h 1
    by_cases hlt : j < ls.length
    · obtain ⟨x, hx⟩ : ∃ x, ls[j]? = some x := ⟨ls[j], List.getElem?_eq_getElem hlt⟩
      obtain ⟨a', ha', hkx, hai, haN⟩ := HW.out.key j x hx
      obtain rfl : a' = a := by have := ha.out; rw [ha'] at this; injection this
      have ca := r1.cell0 a' haN
      rw [hkx] at ca
      have hne : ((a' : Int) == (i : Int)) = false := by rw [beq_eq_false_iff_ne]; omega
      obtain ⟨b', hb'⟩ : ∃ b', (l0 ++ [i])[j + 1]? = some b' := by
        have := HW.out.len
        exact ⟨(l0 ++ [i])[j + 1]'(by simp; omega), List.getElem?_eq_getElem _⟩
      have hnx := HW.out.next j a' b' ha' hb'
      obtain ⟨fn, tmps, assign, body, hy, hRnd⟩ := HY.out (ls.take j) x wr hJ.out (by rw [List.length_take]; omega)
      have hts : ls.take j ++ [x] = ls.take (j + 1) := by rw [List.take_add_one, hx]; rfl
      have Hb' := Lib.hid hb'
      have Hnx := Lib.hid hnx
      have Hts := Lib.hid hts
      have Ha' := Lib.hid ha'
      clear hb' hnx hts hx hkx ha' r1
      gi_wp2
      refine ⟨fun _ => by omega, hRnd.mono ?_⟩
      rintro e W3 (⟨rfl, hJ3, hk3⟩ | ⟨rfl, hJx3⟩)
      · have kk := hK.out.trans hk3
        obtain ⟨r3, q3, q4⟩ := HF.out _ kk
        have e1 : W3.cell? ⟨b, 1, none⟩ = some (.slice (some ⟨gs, 0, none⟩) N N) := cell_at r3.h 1
        have e2 := r3.cell3 a' haN
        rw [Hnx.out] at e2
        rw [Hts.out] at hJ3
        have HJ3 := Lib.hid hJ3
        have KK := Lib.hid kk
        clear r3 hJ3 kk hk3
        gi_wp2
        go_roundw
        case rel => exact ⟨j + 1, b', by omega, rfl, Hb', KK, HJ3⟩
        case measure =>
          have m1 := idx_nd HW.out.nd Ha'.out
          have m2 := idx_nd HW.out.nd Hb'.out
          have m3 := HW.out.len
          simp only [behind, intOf, Int.toNat_natCast, m1, m2, List.length_append, List.length_cons, List.length_nil]
          omega
      · gi_wp2
        refine bodyPost_ret (results_none rfl _ _ _) rfl ?_
        exact ⟨⟨_, rfl⟩, .inr ⟨_, ⟨ls.drop (j + 1), by rw [Hts.out, List.take_append_drop]⟩, hJx3⟩⟩
    · obtain rfl : j = ls.length := by omega
      obtain rfl : a = i := by
        have e1 := ha.out
        have e2 := HW.out.len
        rw [e2, List.getElem?_append_right (Nat.le_refl _), Nat.sub_self] at e1
        simpa using e1.symm
      have heq : ((a : Int) == (a : Int)) = true := by simp
      gi_wp2
      go_end0
      exact ⟨⟨_, rfl⟩, .inl ⟨ls, rfl, by have := hJ.out; rwa [List.take_length] at this⟩⟩

end Go.Proofs.Ytebjbkpgicbgeaa.RinK
