/-
  Plain law of layer 6 (ring): lists of places, each place with the one behind it and the one ahead. No program in sight.
-/
import Derived.WalkKit
namespace Go.Proofs.Ytebjbkpgicbgeaa.RinP
set_option linter.unusedVariables false
set_option linter.unusedSimpArgs false

/-! ### chains -/
def Seg (f g : Nat → Nat) : List Nat → Prop
  | x :: y :: r => f x = y ∧ g y = x ∧ Seg f g (y :: r)
  | _ => True
theorem seg_split (f g : Nat → Nat) : ∀ (l : List Nat) (x : Nat) (r : List Nat), Seg f g (l ++ x :: r) ↔ Seg f g (l ++ [x]) ∧ Seg f g (x :: r)
  | [], x, r => by simp [Seg]
  | [a], x, r => by simp [Seg, and_assoc]
  | a :: b :: l, x, r => by
    have := seg_split f g (b :: l) x r
    simp only [List.cons_append] at this ⊢
    simp only [Seg, this, and_assoc]
theorem seg_congr {f g f' g' : Nat → Nat} : ∀ (l : List Nat), (∀ x ∈ l.dropLast, f' x = f x) → (∀ x ∈ l.tail, g' x = g x) → Seg f g l → Seg f' g' l
  | [], _, _, _ => trivial
  | [a], _, _, _ => trivial
  | a :: b :: l, hf, hg, h => by
    obtain ⟨h1, h2, h3⟩ := h
    refine ⟨by rw [hf a (by simp)]; exact h1, by rw [hg b (by simp)]; exact h2, seg_congr (b :: l) (fun x hx => hf x (by rw [List.dropLast_cons_of_ne_nil (by simp)]; exact List.mem_cons_of_mem _ hx)) (fun x hx => hg x (by simp at hx ⊢; exact .inr hx)) h3⟩
theorem front_form (l : List Nat) (i : Nat) : ∃ q B, l ++ [i] = q :: B := by
  cases l with
  | nil => exact ⟨i, [], rfl⟩
  | cons a l => exact ⟨a, l ++ [i], rfl⟩
theorem back_form (l : List Nat) (i : Nat) : ∃ A p, i :: l = A ++ [p] := by
  rcases List.eq_nil_or_concat (i :: l) with h | ⟨A, p, h⟩
  · cases h
  · exact ⟨A, p, by simpa using h⟩

theorem seg_cut {f g f' g' : Nat → Nat} (i a : Nat) (l1 l2 : List Nat) (hnd : (i :: (l1 ++ a :: l2)).Nodup) (h : Seg f g (i :: (l1 ++ a :: l2) ++ [i]))
    (hf : ∀ x, f' x = if x = g a then f a else f x) (hg : ∀ x, g' x = if x = f a then g a else g x) : Seg f' g' (i :: (l1 ++ l2) ++ [i]) := by
  obtain ⟨A, p, hA⟩ := back_form l1 i
  obtain ⟨q, B, hB⟩ := front_form l2 i
  have e1 : i :: (l1 ++ a :: l2) ++ [i] = A ++ p :: (a :: q :: B) := by
    rw [show i :: (l1 ++ a :: l2) ++ [i] = (i :: l1) ++ a :: (l2 ++ [i]) by simp, hA, hB]; simp
  have e2 : i :: (l1 ++ l2) ++ [i] = A ++ p :: (q :: B) := by
    rw [show i :: (l1 ++ l2) ++ [i] = (i :: l1) ++ (l2 ++ [i]) by simp, hA, hB]; simp
  rw [e1, seg_split] at h
  obtain ⟨h1, h2, h3, h4, h5, h6⟩ := h
  rw [e2, seg_split]
  have hn1 : (i :: l1).Nodup := (hnd.sublist (by simp))
  have hn2 : (l2 ++ [i]).Nodup := by
    have := hnd.sublist (l₁ := i :: l2) (by simp)
    rw [List.nodup_append]
    rw [List.nodup_cons] at this
    refine ⟨this.2, by simp, fun x hx y hy => ?_⟩
    simp at hy
    rw [hy]
    rintro rfl
    exact this.1 hx
  have hdis : ∀ x ∈ l1, ∀ y ∈ l2, x ≠ y := by
    have := (List.nodup_cons.1 hnd).2
    rw [List.nodup_append] at this
    intro x hx y hy
    exact this.2.2 x hx y (List.mem_cons_of_mem _ hy)
  have hi1 : i ∉ l1 := (List.nodup_cons.1 hn1).1
  have hi2 : i ∉ l2 := fun e => (List.nodup_cons.1 hnd).1 (by simp [e])
  have hp : p ∈ i :: l1 := by rw [hA]; simp
  have hq : q ∈ l2 ++ [i] := by rw [hB]; simp
  refine ⟨seg_congr _ ?_ ?_ h1, ?_, ?_, seg_congr _ ?_ ?_ h6⟩
  · intro x hx
    rw [List.dropLast_concat] at hx
    rw [hf, if_neg]
    rintro rfl
    rw [h3] at hx
    rw [hA] at hn1
    rw [List.nodup_append] at hn1
    exact hn1.2.2 p hx p (by simp) rfl
  · intro x hx
    rw [← hA] at hx
    simp only [List.tail_cons] at hx
    rw [hg, if_neg]
    rintro rfl
    rw [h4] at hx
    rcases List.mem_append.1 hq with hq | hq
    · exact hdis _ hx _ hq rfl
    · simp at hq
      rw [hq] at hx
      exact hi1 hx
  · rw [hf, if_pos h3.symm]; exact h4
  · rw [hg, if_pos h4.symm]; exact h3
  · intro x hx
    rw [← hB, List.dropLast_concat] at hx
    rw [hf, if_neg]
    rintro rfl
    rw [h3] at hx
    rcases List.mem_cons.1 hp with hp | hp
    · rw [hp] at hx; exact hi2 hx
    · exact hdis _ hp _ hx rfl
  · intro x hx
    simp only [List.tail_cons] at hx
    rw [hg, if_neg]
    rintro rfl
    rw [h4] at hx
    rw [hB] at hn2
    exact (List.nodup_cons.1 hn2).1 hx

theorem seg_link {f g f' g' : Nat → Nat} (i a : Nat) (l : List Nat) (hnd : (i :: a :: l).Nodup) (h : Seg f g (i :: l ++ [i]))
    (hf : ∀ x, f' x = if x = i then a else if x = a then f i else f x) (hg : ∀ x, g' x = if x = f i then a else if x = a then i else g x) : Seg f' g' (i :: (a :: l) ++ [i]) := by
  obtain ⟨q, B, hB⟩ := front_form l i
  have hai : a ≠ i := by
    rintro rfl
    exact (List.nodup_cons.1 hnd).1 (by simp)
  have hal : a ∉ l := (List.nodup_cons.1 (List.nodup_cons.1 hnd).2).1
  have hil : i ∉ l := fun e => (List.nodup_cons.1 hnd).1 (by simp [e])
  rw [show i :: l ++ [i] = i :: (l ++ [i]) from rfl, hB] at h
  obtain ⟨h1, h2, h3⟩ := h
  rw [show i :: (a :: l) ++ [i] = i :: a :: (l ++ [i]) from rfl, hB]
  have hq : q ∈ l ++ [i] := by rw [hB]; simp
  have haq : a ≠ q := by
    rintro rfl
    rcases List.mem_append.1 hq with e | e
    · exact hal e
    · simp at e; exact hai e
  have hn2 : (q :: B).Nodup := by
    rw [← hB, List.nodup_append]
    exact ⟨(List.nodup_cons.1 (List.nodup_cons.1 hnd).2).2, by simp, fun x hx y hy => by simp at hy; rw [hy]; rintro rfl; exact hil hx⟩
  refine ⟨by rw [hf, if_pos rfl], by rw [hg, h1, if_neg haq, if_pos rfl], by rw [hf, if_neg hai, if_pos rfl, h1], by rw [hg, h1, if_pos rfl], seg_congr _ ?_ ?_ h3⟩
  · intro x hx
    rw [← hB, List.dropLast_concat] at hx
    rw [hf, if_neg (by rintro rfl; exact hil hx), if_neg (by rintro rfl; exact hal hx)]
  · intro x hx
    simp only [List.tail_cons] at hx
    have hxB : x ∈ l ++ [i] := by rw [hB]; exact List.mem_cons_of_mem _ hx
    rw [hg, h1, if_neg (by rintro rfl; exact (List.nodup_cons.1 hn2).1 hx), if_neg]
    rintro rfl
    rcases List.mem_append.1 hxB with e | e
    · exact hal e
    · simp at e; exact hai e

/-! ### places -/
structure Sl where
  key : ByteArray
  ls : Nat
  pv : Nat
  nx : Nat
def z : Sl := ⟨⟨#[]⟩, 0, 0, 0⟩
def gt (sl : List Sl) (i : Nat) : Sl := sl[i]?.getD z
abbrev nx (sl : List Sl) (i : Nat) : Nat := (gt sl i).nx
abbrev pv (sl : List Sl) (i : Nat) : Nat := (gt sl i).pv
abbrev ky (sl : List Sl) (i : Nat) : ByteArray := (gt sl i).key
theorem gt_set (sl : List Sl) (i : Nat) (s : Sl) (h : i < sl.length) (j : Nat) : gt (sl.set i s) j = if j = i then s else gt sl j := by
  unfold gt
  rw [List.getElem?_set]
  by_cases e : i = j
  · subst e; simp [h]
  · rw [if_neg e, if_neg (fun e' => e e'.symm)]
theorem gt_of (sl : List Sl) (i : Nat) (s : Sl) (h : sl[i]? = some s) : gt sl i = s := by unfold gt; rw [h]; rfl
theorem gt_some (sl : List Sl) (i : Nat) (h : i < sl.length) : sl[i]? = some (gt sl i) := by unfold gt; rw [List.getElem?_eq_getElem h]; rfl

def setNx (sl : List Sl) (i v : Nat) : List Sl := sl.set i { gt sl i with nx := v }
def setPv (sl : List Sl) (i v : Nat) : List Sl := sl.set i { gt sl i with pv := v }
theorem gt_setNx (sl : List Sl) (i v : Nat) (h : i < sl.length) (j : Nat) : gt (setNx sl i v) j = if j = i then { gt sl j with nx := v } else gt sl j := by
  unfold setNx; rw [gt_set _ _ _ h]; by_cases e : j = i <;> simp [e]
theorem gt_setPv (sl : List Sl) (i v : Nat) (h : i < sl.length) (j : Nat) : gt (setPv sl i v) j = if j = i then { gt sl j with pv := v } else gt sl j := by
  unfold setPv; rw [gt_set _ _ _ h]; by_cases e : j = i <;> simp [e]
theorem len_setNx (sl : List Sl) (i v : Nat) : (setNx sl i v).length = sl.length := by simp [setNx]
theorem len_setPv (sl : List Sl) (i v : Nat) : (setPv sl i v).length = sl.length := by simp [setPv]
/-- A place is taken out of its list. -/
def cutS (sl : List Sl) (a : Nat) : List Sl := setPv (setNx sl (pv sl a) (nx sl a)) (nx sl a) (pv sl a)
theorem len_cutS (sl : List Sl) (a : Nat) : (cutS sl a).length = sl.length := by unfold cutS; rw [len_setPv, len_setNx]
theorem cut_gt (sl : List Sl) (a : Nat) (h1 : pv sl a < sl.length) (h2 : nx sl a < sl.length) (x : Nat) :
    nx (cutS sl a) x = (if x = pv sl a then nx sl a else nx sl x) ∧ pv (cutS sl a) x = (if x = nx sl a then pv sl a else pv sl x) ∧ ky (cutS sl a) x = ky sl x ∧ (gt (cutS sl a) x).ls = (gt sl x).ls := by
  have e : gt (cutS sl a) x = { key := ky sl x, ls := (gt sl x).ls, pv := (if x = nx sl a then pv sl a else pv sl x), nx := (if x = pv sl a then nx sl a else nx sl x) } := by
    unfold cutS
    rw [gt_setPv _ _ _ (by rw [len_setNx]; exact h2), gt_setNx _ _ _ h1]
    by_cases e1 : x = pv sl a
    · rw [if_pos e1, if_pos e1]
      by_cases e2 : x = nx sl a
      · rw [if_pos e2, if_pos e2]
      · rw [if_neg e2, if_neg e2]
    · rw [if_neg e1, if_neg e1]
      by_cases e2 : x = nx sl a
      · rw [if_pos e2, if_pos e2]
      · rw [if_neg e2, if_neg e2]
  show (gt (cutS sl a) x).nx = _ ∧ (gt (cutS sl a) x).pv = _ ∧ (gt (cutS sl a) x).key = _ ∧ _
  rw [e]
  exact ⟨rfl, rfl, rfl, rfl⟩
/-- A place is put at the front of a list. -/
def linkS (sl : List Sl) (a i : Nat) : List Sl := setNx (setPv (sl.set a { gt sl a with ls := i, pv := i, nx := nx sl i }) (nx sl i) a) i a
theorem len_linkS (sl : List Sl) (a i : Nat) : (linkS sl a i).length = sl.length := by unfold linkS; rw [len_setNx, len_setPv]; simp
theorem link_gt (sl : List Sl) (a i : Nat) (h1 : nx sl i < sl.length) (h2 : i < sl.length) (h3 : a < sl.length) (hai : a ≠ i) (haq : a ≠ nx sl i) (x : Nat) :
    nx (linkS sl a i) x = (if x = i then a else if x = a then nx sl i else nx sl x) ∧ pv (linkS sl a i) x = (if x = nx sl i then a else if x = a then i else pv sl x) ∧ ky (linkS sl a i) x = ky sl x ∧ (gt (linkS sl a i) x).ls = (if x = a then i else (gt sl x).ls) := by
  have e : gt (linkS sl a i) x = { key := ky sl x, ls := (if x = a then i else (gt sl x).ls), pv := (if x = nx sl i then a else if x = a then i else pv sl x), nx := (if x = i then a else if x = a then nx sl i else nx sl x) } := by
    unfold linkS
    have hl : (sl.set a { gt sl a with ls := i, pv := i, nx := nx sl i }).length = sl.length := by simp
    rw [gt_setNx _ _ _ (by rw [len_setPv, hl]; exact h2), gt_setPv _ _ _ (by rw [hl]; exact h1), gt_set _ _ _ h3]
    by_cases e3 : x = a
    · subst e3
      rw [if_pos rfl, if_pos rfl, if_pos rfl, if_pos rfl, if_neg hai, if_neg hai, if_neg haq, if_neg haq]
    · rw [if_neg e3, if_neg e3, if_neg e3, if_neg e3]
      by_cases e1 : x = i
      · rw [if_pos e1, if_pos e1]
        by_cases e2 : x = nx sl i
        · rw [if_pos e2, if_pos e2]
        · rw [if_neg e2, if_neg e2]
      · rw [if_neg e1, if_neg e1]
        by_cases e2 : x = nx sl i
        · rw [if_pos e2, if_pos e2]
        · rw [if_neg e2, if_neg e2]
  show (gt (linkS sl a i) x).nx = _ ∧ (gt (linkS sl a i) x).pv = _ ∧ (gt (linkS sl a i) x).key = _ ∧ _
  rw [e]
  exact ⟨rfl, rfl, rfl, rfl⟩

/-! ### what holds of a ring of lists: the free places fr, the lists of places L, where the keys are M -/
/-- The lists without a place. -/
def rem (a : Nat) (L : List (List Nat)) : List (List Nat) := L.map fun l => l.filter fun y => y != a
/-- The lists with a place at the front of one. -/
def push (i a : Nat) (L : List (List Nat)) : List (List Nat) := L.modify i (fun l => a :: l)
structure Inv (n k : Nat) (sl : List Sl) (fr : List Nat) (L : List (List Nat)) (M : ByteArray → Option Nat) : Prop where
  hn : 1 ≤ n
  lsl : sl.length = n + k
  lL : L.length = n
  seg : ∀ i l, L[i]? = some l → Seg (nx sl) (pv sl) (i :: l ++ [i])
  ls : ∀ i l, L[i]? = some l → ∀ a ∈ l, (gt sl a).ls = i
  nd : (fr ++ L.flatten).Nodup
  rng : ∀ a ∈ fr ++ L.flatten, n ≤ a ∧ a < n + k
  cnt : (fr ++ L.flatten).length = k
  m1 : ∀ a ∈ L.flatten, M (ky sl a) = some a
  m2 : ∀ x a, M x = some a → a ∈ L.flatten ∧ ky sl a = x

theorem mem_flat {L : List (List Nat)} {a : Nat} : a ∈ L.flatten ↔ ∃ (i : Nat) (l : List Nat), L[i]? = some l ∧ a ∈ l := by
  rw [List.mem_flatten]
  constructor
  · rintro ⟨l, hl, ha⟩
    obtain ⟨i, hi⟩ := List.mem_iff_getElem?.1 hl
    exact ⟨i, l, hi, ha⟩
  · rintro ⟨i, l, hl, ha⟩
    exact ⟨l, List.mem_of_getElem? hl, ha⟩
theorem nodup_in {L : List (List Nat)} {l : List Nat} (h : L.flatten.Nodup) (hl : l ∈ L) : l.Nodup := by
  obtain ⟨A, B, rfl⟩ := List.append_of_mem hl
  rw [List.flatten_append, List.flatten_cons, List.nodup_append] at h
  exact (List.nodup_append.1 h.2.1).1
theorem push_flat : ∀ (L : List (List Nat)) (i a : Nat), i < L.length → (push i a L).flatten.Perm (a :: L.flatten)
  | [], i, a, h => by simp at h
  | l :: L, 0, a, h => by simp [push]
  | l :: L, i + 1, a, h => by
    have := push_flat L i a (by simpa using h)
    simp only [push, List.modify_succ_cons, List.flatten_cons] at this ⊢
    exact (this.append_left l).trans List.perm_middle
theorem rem_flat (a : Nat) (L : List (List Nat)) : (rem a L).flatten = L.flatten.filter fun y => y != a := by
  unfold rem; rw [List.filter_flatten]
theorem rem_perm {a : Nat} {L : List (List Nat)} (hnd : L.flatten.Nodup) (ha : a ∈ L.flatten) : (a :: (rem a L).flatten).Perm L.flatten := by
  rw [rem_flat]
  have h := List.perm_cons_erase ha
  rw [List.Nodup.erase_eq_filter hnd] at h
  exact h.symm

theorem Inv.perm {n k : Nat} {sl : List Sl} {fr fr' : List Nat} {L : List (List Nat)} {M : ByteArray → Option Nat} (h : Inv n k sl fr L M) (hp : fr.Perm fr') : Inv n k sl fr' L M := by
  have hp' : (fr ++ L.flatten).Perm (fr' ++ L.flatten) := hp.append_right _
  exact ⟨h.hn, h.lsl, h.lL, h.seg, h.ls, hp'.nodup_iff.1 h.nd, fun a ha => h.rng a (hp'.mem_iff.2 ha), by rw [← hp'.length_eq]; exact h.cnt, h.m1, h.m2⟩
theorem Inv.ext {n k : Nat} {sl : List Sl} {fr : List Nat} {L : List (List Nat)} {M M' : ByteArray → Option Nat} (h : Inv n k sl fr L M) (e : ∀ x, M x = M' x) : Inv n k sl fr L M' := by
  rw [← show M = M' from funext e]; exact h
/-- What stands in a free place is nobody's business. -/
theorem Inv.free {n k a : Nat} {sl : List Sl} {fr : List Nat} {L : List (List Nat)} {M : ByteArray → Option Nat} (h : Inv n k sl fr L M) (ha : a ∈ fr) (s : Sl) : Inv n k (sl.set a s) fr L M := by
  have hr := h.rng a (List.mem_append_left _ ha)
  have hg : ∀ x, x ≠ a → gt (sl.set a s) x = gt sl x := fun x hx => by rw [gt_set _ _ _ (by rw [h.lsl]; omega), if_neg hx]
  have hne : ∀ x ∈ L.flatten, x ≠ a := fun x hx e => (List.nodup_append.1 h.nd).2.2 a ha x hx e.symm
  refine ⟨h.hn, by simpa using h.lsl, h.lL, fun i l hl => ?_, fun i l hl x hx => ?_, h.nd, h.rng, h.cnt, fun x hx => ?_, fun y x hx => ?_⟩
  · have hi : i < n := by have := (List.getElem?_eq_some_iff.1 hl).1; rw [h.lL] at this; exact this
    have hall : ∀ x ∈ i :: l ++ [i], x ≠ a := by
      intro x hx
      simp only [List.cons_append, List.mem_cons, List.mem_append, List.not_mem_nil, or_false] at hx
      rcases hx with rfl | hx | rfl
      · omega
      · exact hne x (mem_flat.2 ⟨i, l, hl, hx⟩)
      · omega
    refine seg_congr _ (fun x hx => ?_) (fun x hx => ?_) (h.seg i l hl)
    · show (gt _ x).nx = _; rw [hg x (hall x (List.dropLast_subset _ hx))]
    · show (gt _ x).pv = _; rw [hg x (hall x (List.mem_of_mem_tail hx))]
  · rw [hg x (hne x (mem_flat.2 ⟨i, l, hl, hx⟩))]; exact h.ls i l hl x hx
  · show M (gt _ x).key = _; rw [hg x (hne x hx)]; exact h.m1 x hx
  · obtain ⟨h1, h2⟩ := h.m2 y x hx
    exact ⟨h1, by show (gt _ x).key = _; rw [hg x (hne x h1)]; exact h2⟩
/-- A key's place: its list, and who stands beside it. -/
theorem Inv.place {n k a : Nat} {sl : List Sl} {fr : List Nat} {L : List (List Nat)} {M : ByteArray → Option Nat} (h : Inv n k sl fr L M) (ha : a ∈ L.flatten) :
    ∃ i l1 l2, L[i]? = some (l1 ++ a :: l2) ∧ i < n ∧ (gt sl a).ls = i ∧ n ≤ a ∧ a < n + k ∧ (i :: (l1 ++ a :: l2)).Nodup ∧ pv sl a ∈ i :: l1 ∧ nx sl a ∈ l2 ++ [i] ∧ pv sl a < n + k ∧ nx sl a < n + k := by
  obtain ⟨i, l, hl, hal⟩ := mem_flat.1 ha
  obtain ⟨l1, l2, rfl⟩ := List.append_of_mem hal
  have hi : i < n := by have := (List.getElem?_eq_some_iff.1 hl).1; rw [h.lL] at this; exact this
  have hr := h.rng a (List.mem_append_right _ ha)
  have hnd : (i :: (l1 ++ a :: l2)).Nodup := by
    refine List.nodup_cons.2 ⟨fun e => ?_, ?_⟩
    · have := h.rng i (List.mem_append_right _ (mem_flat.2 ⟨i, _, hl, e⟩)); omega
    · exact nodup_in (List.nodup_append.1 h.nd).2.1 (List.mem_of_getElem? hl)
  have hs := h.seg i _ hl
  obtain ⟨A, p, hA⟩ := back_form l1 i
  obtain ⟨q, B, hB⟩ := front_form l2 i
  have e1 : i :: (l1 ++ a :: l2) ++ [i] = A ++ p :: (a :: q :: B) := by
    rw [show i :: (l1 ++ a :: l2) ++ [i] = (i :: l1) ++ a :: (l2 ++ [i]) by simp, hA, hB]; simp
  rw [e1, seg_split] at hs
  obtain ⟨_, h2, h3, h4, h5, _⟩ := hs
  have hp : pv sl a ∈ i :: l1 := by rw [h3, hA]; simp
  have hq : nx sl a ∈ l2 ++ [i] := by rw [h4, hB]; simp
  have hlt : ∀ x, x = i ∨ x ∈ l1 ++ a :: l2 → x < n + k := by
    rintro x (rfl | hx)
    · omega
    · exact (h.rng x (List.mem_append_right _ (mem_flat.2 ⟨i, _, hl, hx⟩))).2
  refine ⟨i, l1, l2, hl, hi, h.ls i _ hl a hal, hr.1, hr.2, hnd, hp, hq, hlt _ ?_, hlt _ ?_⟩
  · rcases List.mem_cons.1 hp with e | e
    · exact .inl e
    · exact .inr (List.mem_append_left _ e)
  · rcases List.mem_append.1 hq with e | e
    · exact .inr (List.mem_append_right _ (List.mem_cons_of_mem _ e))
    · exact .inl (by simpa using e)

theorem rem_at {a i : Nat} {L : List (List Nat)} {l : List Nat} (hl : (rem a L)[i]? = some l) : ∃ l0, L[i]? = some l0 ∧ l = l0.filter fun y => y != a := by
  unfold rem at hl
  rw [List.getElem?_map] at hl
  obtain ⟨l0, h0, h1⟩ := Option.map_eq_some_iff.1 hl
  exact ⟨l0, h0, h1.symm⟩

theorem Inv.cut {n k a : Nat} {x : ByteArray} {sl : List Sl} {fr : List Nat} {L : List (List Nat)} {M : ByteArray → Option Nat} (h : Inv n k sl fr L M) (hM : M x = some a) :
    Inv n k (cutS sl a) (a :: fr) (rem a L) (fun y => if y = x then none else M y) := by
  obtain ⟨ha, hx⟩ := h.m2 x a hM
  obtain ⟨i, l1, l2, hl, hi, hls, hr1, hr2, hnd, hp, hq, hpl, hql⟩ := h.place ha
  have hfn := (List.nodup_append.1 h.nd).2.1
  have hc := cut_gt sl a (by rw [h.lsl]; exact hpl) (by rw [h.lsl]; exact hql)
  have hperm : ((a :: fr) ++ (rem a L).flatten).Perm (fr ++ L.flatten) := by
    have h1 : ((a :: fr) ++ (rem a L).flatten).Perm (fr ++ a :: (rem a L).flatten) := List.perm_middle.symm
    exact h1.trans ((rem_perm hfn ha).append_left fr)
  have hmem : ∀ y, y ∈ (rem a L).flatten ↔ y ∈ L.flatten ∧ y ≠ a := by
    intro y; rw [rem_flat, List.mem_filter]; simp
  refine ⟨h.hn, by rw [len_cutS]; exact h.lsl, by unfold rem; rw [List.length_map]; exact h.lL, fun j l hj => ?_, fun j l hj y hy => ?_, hperm.nodup_iff.2 h.nd, fun y hy => h.rng y (hperm.mem_iff.1 hy), by rw [hperm.length_eq]; exact h.cnt, fun y hy => ?_, fun y b hb => ?_⟩
  · obtain ⟨l0, h0, rfl⟩ := rem_at hj
    by_cases e : j = i
    · subst e
      rw [hl] at h0
      injection h0 with h0
      subst h0
      have e2 : (l1 ++ a :: l2).filter (fun y => y != a) = l1 ++ l2 := by
        have hn2 := (List.nodup_cons.1 hnd).2
        rw [List.nodup_append] at hn2
        have f1 : l1.filter (fun y => y != a) = l1 := List.filter_eq_self.2 (fun y hy => by simpa using hn2.2.2 y hy a (by simp))
        have f2 : l2.filter (fun y => y != a) = l2 := List.filter_eq_self.2 (fun y hy => by
          have := (List.nodup_cons.1 hn2.2.1).1
          simp; rintro rfl; exact this hy)
        rw [List.filter_append, List.filter_cons]
        simp [f1, f2]
      rw [e2]
      exact seg_cut j a l1 l2 hnd (h.seg j _ hl) (fun y => (hc y).1) (fun y => (hc y).2.1)
    · have hal : ∀ y ∈ l0, ¬ (y = i ∨ y ∈ l1 ++ a :: l2) := by
        rintro y hy (rfl | hy2)
        · have := h.rng y (List.mem_append_right _ (mem_flat.2 ⟨j, _, h0, hy⟩)); omega
        · have e1 := h.ls j l0 h0 y hy
          have e2 := h.ls i _ hl y hy2
          exact e (e1.symm.trans e2)
      have hjlt : j < n := by have := (List.getElem?_eq_some_iff.1 h0).1; rw [h.lL] at this; exact this
      have hjn : ¬ (j = i ∨ j ∈ l1 ++ a :: l2) := by
        rintro (e2 | e2)
        · exact e e2
        · have := h.rng j (List.mem_append_right _ (mem_flat.2 ⟨i, _, hl, e2⟩)); omega
      have hall : ∀ y ∈ j :: l0 ++ [j], ¬ (y = i ∨ y ∈ l1 ++ a :: l2) := by
        intro y hy
        simp only [List.cons_append, List.mem_cons, List.mem_append, List.not_mem_nil, or_false] at hy
        rcases hy with rfl | hy | rfl
        · exact hjn
        · exact hal y hy
        · exact hjn
      have e2 : l0.filter (fun y => y != a) = l0 := List.filter_eq_self.2 (fun y hy => by
        simp; rintro rfl; exact hal _ hy (.inr (by simp)))
      rw [e2]
      refine seg_congr _ (fun y hy => ?_) (fun y hy => ?_) (h.seg j l0 h0)
      · rw [(hc y).1, if_neg]
        rintro rfl
        apply hall _ (List.dropLast_subset _ hy)
        rcases List.mem_cons.1 hp with e3 | e3
        · exact .inl e3
        · exact .inr (List.mem_append_left _ e3)
      · rw [(hc y).2.1, if_neg]
        rintro rfl
        apply hall _ (List.mem_of_mem_tail hy)
        rcases List.mem_append.1 hq with e3 | e3
        · exact .inr (List.mem_append_right _ (List.mem_cons_of_mem _ e3))
        · exact .inl (by simpa using e3)
  · obtain ⟨l0, h0, rfl⟩ := rem_at hj
    rw [(hc y).2.2.2]
    exact h.ls j l0 h0 y (List.mem_filter.1 hy).1
  · obtain ⟨y1, y2⟩ := (hmem y).1 hy
    rw [(hc y).2.2.1]
    have e1 := h.m1 y y1
    rw [if_neg, e1]
    intro e2
    rw [e2, hM] at e1
    injection e1 with e1
    exact y2 e1.symm
  · by_cases e : y = x
    · rw [if_pos e] at hb; cases hb
    · rw [if_neg e] at hb
      obtain ⟨b1, b2⟩ := h.m2 y b hb
      refine ⟨(hmem b).2 ⟨b1, ?_⟩, by rw [(hc b).2.2.1]; exact b2⟩
      rintro rfl
      exact e (b2.symm.trans hx)

theorem Inv.link {n k a i : Nat} {x : ByteArray} {sl : List Sl} {fr : List Nat} {L : List (List Nat)} {M : ByteArray → Option Nat} (h : Inv n k sl (a :: fr) L M) (hi : i < n) (hk : ky sl a = x) (hM : M x = none) :
    Inv n k (linkS sl a i) fr (push i a L) (fun y => if y = x then some a else M y) := by
  obtain ⟨l, hl⟩ : ∃ l, L[i]? = some l := ⟨L[i]'(by rw [h.lL]; exact hi), List.getElem?_eq_getElem _⟩
  have hra := h.rng a (by simp)
  have hanf : a ∉ L.flatten := fun e => (List.nodup_append.1 h.nd).2.2 a (by simp) a e rfl
  have hfn := (List.nodup_append.1 h.nd).2.1
  have hs := h.seg i l hl
  obtain ⟨q, B, hB⟩ := front_form l i
  have hq : nx sl i ∈ l ++ [i] := by
    rw [show i :: l ++ [i] = i :: (l ++ [i]) from rfl, hB] at hs
    rw [hs.1, hB]; simp
  have hql : nx sl i = i ∨ nx sl i ∈ l := by
    rcases List.mem_append.1 hq with e | e
    · exact .inr e
    · exact .inl (by simpa using e)
  have hal : a ∉ l := fun e => hanf (mem_flat.2 ⟨i, l, hl, e⟩)
  have hai : a ≠ i := by omega
  have haq : a ≠ nx sl i := by
    intro e
    rcases hql with e2 | e2
    · exact hai (e.trans e2)
    · exact hal (e ▸ e2)
  have hqlt : nx sl i < n + k := by
    rcases hql with e | e
    · omega
    · exact (h.rng _ (List.mem_append_right _ (mem_flat.2 ⟨i, l, hl, e⟩))).2
  have hc := link_gt sl a i (by rw [h.lsl]; exact hqlt) (by rw [h.lsl]; omega) (by rw [h.lsl]; exact hra.2) hai haq
  have hnil : i ∉ l := fun e => by have := h.rng i (List.mem_append_right _ (mem_flat.2 ⟨i, l, hl, e⟩)); omega
  have hln : l.Nodup := nodup_in hfn (List.mem_of_getElem? hl)
  have hpf := push_flat L i a (by rw [h.lL]; exact hi)
  have hperm : (fr ++ (push i a L).flatten).Perm ((a :: fr) ++ L.flatten) := (hpf.append_left fr).trans List.perm_middle
  have hat : ∀ j l', (push i a L)[j]? = some l' → (j = i ∧ l' = a :: l) ∨ (j ≠ i ∧ L[j]? = some l') := by
    intro j l' hj
    unfold push at hj
    rw [List.getElem?_modify] at hj
    by_cases e : j = i
    · subst e
      rw [hl] at hj
      simp at hj
      exact .inl ⟨rfl, hj.symm⟩
    · right
      cases hL : L[j]? with
      | none => rw [hL] at hj; simp at hj
      | some l0 =>
        rw [hL] at hj
        simp only [Option.map_eq_map, Option.map_some, if_neg (Ne.symm e), Option.some.injEq] at hj
        exact ⟨e, by rw [hj]⟩
  refine ⟨h.hn, by rw [len_linkS]; exact h.lsl, by unfold push; rw [List.length_modify]; exact h.lL, fun j l' hj => ?_, fun j l' hj y hy => ?_, hperm.nodup_iff.2 h.nd, fun y hy => h.rng y (hperm.mem_iff.1 hy), by rw [hperm.length_eq]; exact h.cnt, fun y hy => ?_, fun y b hb => ?_⟩
  · rcases hat j l' hj with ⟨rfl, rfl⟩ | ⟨hne, hj'⟩
    · exact seg_link j a l (List.nodup_cons.2 ⟨by simp; exact ⟨fun e => hai e.symm, hnil⟩, List.nodup_cons.2 ⟨hal, hln⟩⟩) hs (fun y => (hc y).1) (fun y => (hc y).2.1)
    · have hjlt : j < n := by have := (List.getElem?_eq_some_iff.1 hj').1; rw [h.lL] at this; exact this
      have hall : ∀ y ∈ j :: l' ++ [j], y ≠ i ∧ y ≠ a ∧ y ≠ nx sl i := by
        have base : ∀ y ∈ l', y ≠ i ∧ y ≠ a ∧ y ≠ nx sl i := by
          intro y hy
          have hyf := mem_flat.2 ⟨j, l', hj', hy⟩
          have hyr := h.rng y (List.mem_append_right _ hyf)
          refine ⟨by omega, by rintro rfl; exact hanf hyf, fun e => ?_⟩
          rcases hql with e2 | e2
          · omega
          · have e3 := h.ls j l' hj' y hy
            have e4 := h.ls i l hl _ e2
            rw [← e] at e4
            exact hne (e3.symm.trans e4)
        have hj0 : j ≠ i ∧ j ≠ a ∧ j ≠ nx sl i := by
          refine ⟨hne, by omega, fun e => ?_⟩
          rcases hql with e2 | e2
          · omega
          · have := h.rng _ (List.mem_append_right _ (mem_flat.2 ⟨i, l, hl, e2⟩)); omega
        intro y hy
        simp only [List.cons_append, List.mem_cons, List.mem_append, List.not_mem_nil, or_false] at hy
        rcases hy with rfl | hy | rfl
        · exact hj0
        · exact base y hy
        · exact hj0
      refine seg_congr _ (fun y hy => ?_) (fun y hy => ?_) (h.seg j l' hj')
      · obtain ⟨y1, y2, y3⟩ := hall y (List.dropLast_subset _ hy)
        rw [(hc y).1, if_neg y1, if_neg y2]
      · obtain ⟨y1, y2, y3⟩ := hall y (List.mem_of_mem_tail hy)
        rw [(hc y).2.1, if_neg y3, if_neg y2]
  · rw [(hc y).2.2.2]
    rcases hat j l' hj with ⟨rfl, rfl⟩ | ⟨hne, hj'⟩
    · rcases List.mem_cons.1 hy with rfl | hy2
      · rw [if_pos rfl]
      · rw [if_neg (by rintro rfl; exact hal hy2)]; exact h.ls j l hl y hy2
    · rw [if_neg (by rintro rfl; exact hanf (mem_flat.2 ⟨j, l', hj', hy⟩))]; exact h.ls j l' hj' y hy
  · rw [(hc y).2.2.1]
    rcases List.mem_cons.1 (hpf.mem_iff.1 hy) with rfl | hy'
    · rw [hk, if_pos rfl]
    · have e1 := h.m1 y hy'
      rw [if_neg, e1]
      intro e2
      rw [e2, hM] at e1
      cases e1
  · by_cases e : y = x
    · rw [if_pos e] at hb
      injection hb with hb
      subst hb
      exact ⟨hpf.mem_iff.2 (by simp), by rw [(hc a).2.2.1, hk, e]⟩
    · rw [if_neg e] at hb
      obtain ⟨b1, b2⟩ := h.m2 y b hb
      exact ⟨hpf.mem_iff.2 (List.mem_cons_of_mem _ b1), by rw [(hc b).2.2.1]; exact b2⟩

/-! ### lists of keys -/
abbrev Keys := List (List ByteArray)
def keysOf (sl : List Sl) (L : List (List Nat)) : Keys := L.map fun l => l.map (ky sl)
def remK (x : ByteArray) (K : Keys) : Keys := K.map fun l => l.filter fun y => decide (y ≠ x)
def pushK (i : Nat) (x : ByteArray) (K : Keys) : Keys := K.modify i (fun l => x :: l)
theorem keysOf_len (sl : List Sl) (L : List (List Nat)) : (keysOf sl L).length = L.length := by simp [keysOf]
theorem keysOf_congr {sl sl' : List Sl} {L : List (List Nat)} (h : ∀ a ∈ L.flatten, ky sl' a = ky sl a) : keysOf sl' L = keysOf sl L := by
  unfold keysOf
  refine List.map_congr_left (fun l hl => List.map_congr_left (fun a ha => h a ?_))
  exact List.mem_flatten.2 ⟨l, hl, ha⟩
theorem keysOf_rem {n k a : Nat} {x : ByteArray} {sl : List Sl} {fr : List Nat} {L : List (List Nat)} {M : ByteArray → Option Nat} (h : Inv n k sl fr L M) (hM : M x = some a) : keysOf sl (rem a L) = remK x (keysOf sl L) := by
  unfold keysOf rem remK
  rw [List.map_map, List.map_map]
  refine List.map_congr_left (fun l hl => ?_)
  show (l.filter _).map (ky sl) = (l.map (ky sl)).filter _
  rw [List.filter_map]
  congr 1
  refine List.filter_congr (fun b hb => ?_)
  have hbf : b ∈ L.flatten := List.mem_flatten.2 ⟨l, hl, hb⟩
  have e1 := h.m1 b hbf
  have e2 := h.m2 x a hM
  show (b != a) = decide (ky sl b ≠ x)
  rw [Bool.eq_iff_iff, decide_eq_true_iff, bne_iff_ne]
  constructor
  · intro hne he
    rw [he, hM] at e1
    injection e1 with e1
    exact hne e1.symm
  · rintro hne rfl
    exact hne e2.2
theorem keysOf_push (sl : List Sl) (i a : Nat) (L : List (List Nat)) : keysOf sl (push i a L) = pushK i (ky sl a) (keysOf sl L) := by
  unfold keysOf push pushK
  apply List.ext_getElem?
  intro j
  simp only [List.getElem?_map, List.getElem?_modify]
  cases L[j]? with
  | none => rfl
  | some l => by_cases e : i = j <;> simp [e]
theorem keysOf_flat (sl : List Sl) (L : List (List Nat)) : (keysOf sl L).flatten = L.flatten.map (ky sl) := by unfold keysOf; rw [List.map_flatten]
/-- A key is in a list just if it has a place. -/
theorem Inv.mem {n k : Nat} {sl : List Sl} {fr : List Nat} {L : List (List Nat)} {M : ByteArray → Option Nat} (h : Inv n k sl fr L M) (x : ByteArray) : x ∈ (keysOf sl L).flatten ↔ (M x).isSome = true := by
  rw [keysOf_flat, List.mem_map]
  constructor
  · rintro ⟨a, ha, rfl⟩
    rw [h.m1 a ha]; rfl
  · intro hs
    obtain ⟨a, ha⟩ := Option.isSome_iff_exists.1 hs
    obtain ⟨h1, h2⟩ := h.m2 x a ha
    exact ⟨a, h1, h2⟩

/-! ### how many -/
def lens (L : List (List Nat)) : List Nat := L.map List.length
theorem lens_push (i a : Nat) (L : List (List Nat)) : lens (push i a L) = (lens L).modify i (· + 1) := by
  unfold lens push
  apply List.ext_getElem?
  intro j
  simp only [List.getElem?_map, List.getElem?_modify]
  cases L[j]? with
  | none => rfl
  | some l => by_cases e : i = j <;> simp [e]
theorem lens_rem {n k a : Nat} {sl : List Sl} {fr : List Nat} {L : List (List Nat)} {M : ByteArray → Option Nat} (h : Inv n k sl fr L M) (ha : a ∈ L.flatten) : lens (rem a L) = (lens L).modify (gt sl a).ls (· - 1) := by
  obtain ⟨i, l1, l2, hl, hi, hls, hr1, hr2, hnd, -⟩ := h.place ha
  unfold lens rem
  apply List.ext_getElem?
  intro j
  simp only [List.getElem?_map, List.getElem?_modify]
  cases hj : L[j]? with
  | none => rfl
  | some l =>
    simp only [Option.map_some, Option.map_eq_map, Option.some.injEq, hls]
    by_cases e : i = j
    · subst e
      rw [hl] at hj
      injection hj with hj
      subst hj
      rw [if_pos rfl]
      have hn2 := (List.nodup_cons.1 hnd).2
      rw [List.nodup_append] at hn2
      have f1 : l1.filter (fun y => y != a) = l1 := List.filter_eq_self.2 (fun y hy => by simpa using hn2.2.2 y hy a (by simp))
      have f2 : l2.filter (fun y => y != a) = l2 := List.filter_eq_self.2 (fun y hy => by
        have := (List.nodup_cons.1 hn2.2.1).1
        simp; rintro rfl; exact this hy)
      rw [List.filter_append, List.filter_cons]
      simp [f1, f2]
    · rw [if_neg e]
      have e2 : l.filter (fun y => y != a) = l := List.filter_eq_self.2 (fun y hy => by
        simp; rintro rfl
        exact e (hls.symm.trans (h.ls j l hj _ hy)))
      rw [e2]

/-- Lists of nothing. -/
def first (n : Nat) (rest : List Sl) : List Sl := (List.range n).map (fun i => ⟨⟨#[]⟩, i, i, i⟩) ++ rest
theorem Inv.begin_ (n k : Nat) (hn : 1 ≤ n) (rest fr : List Nat) (hr : rest.length = k) (hf : fr.Perm ((List.range k).map (n + ·))) : Inv n k (first n (List.replicate k z)) fr (List.replicate n []) (fun _ => none) := by
  have hfl : (List.replicate n ([] : List Nat)).flatten = [] := by simp
  have hg : ∀ i, i < n → gt (first n (List.replicate k z)) i = ⟨⟨#[]⟩, i, i, i⟩ := by
    intro i hi
    unfold gt first
    rw [List.getElem?_append_left (by simpa using hi), List.getElem?_map, List.getElem?_range hi]; rfl
  refine ⟨hn, by simp [first], by simp, fun i l hl => ?_, fun i l hl a ha => ?_, ?_, ?_, ?_, fun a ha => ?_, fun x a hx => by cases hx⟩
  · rw [List.getElem?_replicate] at hl
    split at hl
    · rename_i hi
      injection hl with hl
      subst hl
      exact ⟨by show (gt _ i).nx = _; rw [hg i hi], by show (gt _ i).pv = _; rw [hg i hi], trivial⟩
    · cases hl
  · rw [List.getElem?_replicate] at hl
    split at hl
    · injection hl with hl
      subst hl
      cases ha
    · cases hl
  · rw [hfl, List.append_nil, hf.nodup_iff]
    refine List.pairwise_map.2 (List.Pairwise.imp (R := fun a b => a ≠ b) ?_ List.nodup_range)
    intro a b hab e
    exact hab (by have e2 : n + a = n + b := e; omega)
  · intro a ha
    rw [hfl, List.append_nil, hf.mem_iff, List.mem_map] at ha
    obtain ⟨j, hj, rfl⟩ := ha
    have := List.mem_range.1 hj
    omega
  · rw [hfl, List.append_nil, hf.length_eq]; simp
  · rw [hfl] at ha; cases ha

end Go.Proofs.Ytebjbkpgicbgeaa.RinP
