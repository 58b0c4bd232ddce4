/-
  Plain law of layer 7 (arc): the bounds hold, and what is kept.
-/
import Derived.Test.YtebjbkpgicbgeaaArcP
namespace Go.Proofs.Ytebjbkpgicbgeaa.ArcQ
set_option linter.unusedVariables false
set_option linter.unusedSimpArgs false
open Go.Proofs.Ytebjbkpgicbgeaa.RinP Go.Proofs.Ytebjbkpgicbgeaa.RinG Go.Proofs.Ytebjbkpgicbgeaa.ArcP

def optL (o : Option ByteArray) : List ByteArray := match o with | some k => [k] | none => []
theorem mem_all {s : Ac} {x : ByteArray} : x ∈ all s ↔ x ∈ s.A ∨ x ∈ s.B ∨ x ∈ s.C ∨ x ∈ s.D := by unfold all; simp only [List.mem_append]
theorem rm_len_not {x : ByteArray} {l : List ByteArray} (h : x ∉ l) : (rm x l).length = l.length := by rw [rm_self h]
theorem fr1 (x : ByteArray) (s : Ac) : frA 1 x s = ⟨s.t, rm x s.A, x :: rm x s.B, rm x s.C, rm x s.D⟩ := rfl
theorem fr0 (x : ByteArray) (s : Ac) : frA 0 x s = ⟨s.t, x :: rm x s.A, rm x s.B, rm x s.C, rm x s.D⟩ := rfl

theorem full_inv {c : Nat} {w : Bool} {s : Ac} (h : AInv c s) :
    AInv c (full c w s).1 ∧ (all (full c w s).1).Perm (all s) ∧ (full c w s).1.A.length + (full c w s).1.B.length + 1 ≤ c ∧ (full c w s).1.A.length + (full c w s).1.C.length = s.A.length + s.C.length ∧ (full c w s).1.t = s.t ∧
      (optL (full c w s).2 ++ ((full c w s).1.A ++ (full c w s).1.B)).Perm (s.A ++ s.B) ∧ (∀ k, (full c w s).2 = some k → k.size ≤ 64) := by
  unfold full
  by_cases hc : c ≤ s.A.length + s.B.length
  · rw [if_pos hc]
    obtain ⟨r1, r2, r3, r4, r5, k, r6, r7, r8⟩ := repl_inv (w := w) h (by have := h.c1; omega)
    have := h.ab
    refine ⟨r1, r2, by omega, r4, r5, ?_, fun k' hk' => ?_⟩
    · rw [r6]; exact r7
    · rw [r6] at hk'; injection hk' with hk'; rw [← hk']; exact r8
  · rw [if_neg hc]
    exact ⟨h, List.Perm.refl _, by show s.A.length + s.B.length + 1 ≤ c; omega, rfl, rfl, List.Perm.refl _, fun k hk => by cases hk⟩

theorem touch_inv {c : Nat} {x : ByteArray} {s : Ac} (h : AInv c s) (hx : x ∈ s.A ∨ x ∈ s.B) : AInv c (frA 1 x s) ∧ ((frA 1 x s).A ++ (frA 1 x s).B).Perm (x :: rm x (s.A ++ s.B)) := by
  obtain ⟨nA, nB, nC, nD, pA, pB, pC, pD⟩ := parts h.nd
  have hp := frA_perm (i := 1) h.nd (mem_all.2 (hx.elim .inl (fun e => .inr (.inl e))))
  have h1 := h.ab
  have h2 := h.ac
  have l1 := rm_le x s.A
  have l2 := rm_le x s.C
  refine ⟨h.turn hp ?_ ?_ h.tl, ?_⟩
  · show (rm x s.A).length + (x :: rm x s.B).length ≤ c
    rw [List.length_cons]
    rcases hx with hx | hx
    · have := rm_len nA hx
      have := rm_len_not (pA x hx).1
      omega
    · have := rm_len nB hx
      omega
  · show (rm x s.A).length + (rm x s.C).length ≤ c
    omega
  · show (rm x s.A ++ x :: rm x s.B).Perm (x :: rm x (s.A ++ s.B))
    rw [rm_app]
    exact List.perm_middle

theorem moved_inv {c : Nat} {in3 : Bool} {s : Ac} (h : AInv c s) : AInv c (moved c in3 s) := by
  refine ⟨h.c1, h.c9, h.ab, h.ac, h.tot, ?_, h.nd, h.sm⟩
  show (if in3 then s.t - max 1 (s.C.length / s.D.length) else min c (s.t + max 1 (s.D.length / s.C.length))) ≤ c
  have := h.tl
  split <;> omega
theorem not_in {l l' : List ByteArray} {o : List ByteArray} {x : ByteArray} (hp : (o ++ l').Perm l) (hx : x ∉ l) : x ∉ l' := fun e => hx (hp.mem_iff.1 (List.mem_append_right _ e))

theorem again_inv {c : Nat} {x : ByteArray} {in3 : Bool} {s : Ac} (h : AInv c s) (hx : x ∈ s.C ∨ x ∈ s.D) :
    AInv c (again c x in3 s).1 ∧ ∃ R, ((again c x in3 s).1.A ++ (again c x in3 s).1.B).Perm (x :: R) ∧ (optL (again c x in3 s).2 ++ R).Perm (rm x (s.A ++ s.B)) := by
  obtain ⟨nA, nB, nC, nD, pA, pB, pC, pD⟩ := parts h.nd
  have hxA : x ∉ s.A := hx.elim (fun e => (pC x e).1) (fun e => (pD x e).1)
  have hxB : x ∉ s.B := hx.elim (fun e => (pC x e).2.1) (fun e => (pD x e).2.1)
  have hxAB : x ∉ s.A ++ s.B := fun e => (List.mem_append.1 e).elim hxA hxB
  obtain ⟨f1, f2, f3, f4, f5, f6, f7⟩ := full_inv (w := in3) (moved_inv (in3 := in3) h)
  have hx2 : x ∈ all (full c in3 (moved c in3 s)).1 := f2.mem_iff.2 (mem_all.2 (hx.elim (fun e => .inr (.inr (.inl e))) (fun e => .inr (.inr (.inr e)))))
  have hn2 := not_in f6 (show x ∉ (moved c in3 s).A ++ (moved c in3 s).B from hxAB)
  unfold again
  generalize hs2 : (full c in3 (moved c in3 s)).1 = s2 at *
  have hA2 : x ∉ s2.A := fun e => hn2 (List.mem_append_left _ e)
  have hB2 : x ∉ s2.B := fun e => hn2 (List.mem_append_right _ e)
  have hp := frA_perm (i := 1) f1.nd hx2
  have l2 := rm_le x s2.C
  have l3 := f1.ac
  refine ⟨f1.turn hp ?_ ?_ f1.tl, s2.A ++ s2.B, ?_, ?_⟩
  · show (rm x s2.A).length + (x :: rm x s2.B).length ≤ c
    rw [rm_self hA2, rm_self hB2, List.length_cons]
    omega
  · show (rm x s2.A).length + (rm x s2.C).length ≤ c
    rw [rm_self hA2]
    omega
  · show (rm x s2.A ++ x :: rm x s2.B).Perm (x :: (s2.A ++ s2.B))
    rw [rm_self hA2, rm_self hB2]
    exact List.perm_middle
  · rw [rm_self hxAB]
    exact f6

theorem forg_eq2 {c : Nat} {s : Ac} (h : AInv c s) (h0 : s.C ≠ []) : ∃ C' k, s.C = C' ++ [k] ∧ forg2 s = ⟨s.t, s.A, s.B, C', s.D⟩ := by
  obtain ⟨nA, nB, nC, nD, pA, pB, pC, pD⟩ := parts h.nd
  obtain ⟨C', k, e1, e2⟩ := last_form h0
  obtain ⟨q1, q2, q3⟩ := pC k (by rw [e1]; simp)
  refine ⟨C', k, e1, ?_⟩
  unfold forg2
  rw [e2]
  show rmA k s = _
  unfold rmA
  rw [rm_self q1, rm_self q2, rm_self q3, show rm k s.C = C' from by rw [e1] at nC ⊢; exact rm_last nC]
theorem forg_eq3 {c : Nat} {s : Ac} (h : AInv c s) (h0 : s.D ≠ []) : ∃ D' k, s.D = D' ++ [k] ∧ forg3 s = ⟨s.t, s.A, s.B, s.C, D'⟩ := by
  obtain ⟨nA, nB, nC, nD, pA, pB, pC, pD⟩ := parts h.nd
  obtain ⟨D', k, e1, e2⟩ := last_form h0
  obtain ⟨q1, q2, q3⟩ := pD k (by rw [e1]; simp)
  refine ⟨D', k, e1, ?_⟩
  unfold forg3
  rw [e2]
  show rmA k s = _
  unfold rmA
  rw [rm_self q1, rm_self q2, rm_self q3, show rm k s.D = D' from by rw [e1] at nD ⊢; exact rm_last nD]
theorem last_eqA {c : Nat} {s : Ac} (h : AInv c s) (h0 : s.A ≠ []) : ∃ A' k, s.A = A' ++ [k] ∧ s.A.getLast? = some k ∧ rmA k s = ⟨s.t, A', s.B, s.C, s.D⟩ := by
  obtain ⟨nA, nB, nC, nD, pA, pB, pC, pD⟩ := parts h.nd
  obtain ⟨A', k, e1, e2⟩ := last_form h0
  obtain ⟨q1, q2, q3⟩ := pA k (by rw [e1]; simp)
  refine ⟨A', k, e1, e2, ?_⟩
  unfold rmA
  rw [rm_self q1, rm_self q2, rm_self q3, show rm k s.A = A' from by rw [e1] at nA ⊢; exact rm_last nA]

theorem fresh_inv {c : Nat} {s : Ac} (h : AInv c s) :
    AInv c (fresh c s).1 ∧ (∀ y ∈ all (fresh c s).1, y ∈ all s) ∧ (fresh c s).1.A.length + (fresh c s).1.B.length + 1 ≤ c ∧ (fresh c s).1.A.length + (fresh c s).1.C.length + 1 ≤ c ∧ (all (fresh c s).1).length + 1 ≤ 2 * c ∧ (fresh c s).1.t = s.t ∧
      (optL (fresh c s).2 ++ ((fresh c s).1.A ++ (fresh c s).1.B)).Perm (s.A ++ s.B) ∧ (∀ k, (fresh c s).2 = some k → k.size ≤ 64) := by
  have hal := all_len s
  have h1 := h.ab
  have h2 := h.ac
  have h3 := h.tot
  have h4 := h.c1
  unfold fresh
  by_cases c1 : c ≤ s.A.length + s.C.length
  · rw [if_pos c1]
    by_cases c2 : s.A.length < c
    · rw [if_pos c2]
      obtain ⟨C', k, e1, e2⟩ := forg_eq2 h (by intro e; rw [e] at c1; simp at c1; omega)
      have eC : s.C.length = C'.length + 1 := by rw [e1]; simp
      have hp : (all s).Perm (k :: all ⟨s.t, s.A, s.B, C', s.D⟩) := by
        have := snocC s.t s.A s.B C' s.D k
        rw [← e1] at this
        exact this
      obtain ⟨g1, g2, g3⟩ := h.less hp h1 (by show s.A.length + C'.length ≤ c; omega) h.tl
      rw [e2]
      obtain ⟨f1, f2, f3, f4, f5, f6, f7⟩ := full_inv (w := false) g1
      refine ⟨f1, fun y hy => hp.mem_iff.2 (List.mem_cons_of_mem _ (f2.mem_iff.1 hy)), f3, ?_, ?_, f5, f6, f7⟩
      · rw [f4]; show s.A.length + C'.length + 1 ≤ c; omega
      · rw [f2.length_eq]; omega
    · rw [if_neg c2]
      obtain ⟨A', k, e1, e2, e3⟩ := last_eqA h (by intro e; rw [e] at c2; simp at c2; omega)
      have eA : s.A.length = A'.length + 1 := by rw [e1]; simp
      have hp : (all s).Perm (k :: all ⟨s.t, A', s.B, s.C, s.D⟩) := by
        have := snocA s.t A' s.B s.C s.D k
        rw [← e1] at this
        exact this
      obtain ⟨g1, g2, g3⟩ := h.less hp (by show A'.length + s.B.length ≤ c; omega) (by show A'.length + s.C.length ≤ c; omega) h.tl
      rw [e2]
      show AInv c (rmA k s) ∧ (∀ y ∈ all (rmA k s), y ∈ all s) ∧ (rmA k s).A.length + (rmA k s).B.length + 1 ≤ c ∧ (rmA k s).A.length + (rmA k s).C.length + 1 ≤ c ∧ (all (rmA k s)).length + 1 ≤ 2 * c ∧ (rmA k s).t = s.t ∧ (optL (some k) ++ ((rmA k s).A ++ (rmA k s).B)).Perm (s.A ++ s.B) ∧ (∀ k', some k = some k' → k'.size ≤ 64)
      rw [e3]
      refine ⟨g1, fun y hy => hp.mem_iff.2 (List.mem_cons_of_mem _ hy), by show A'.length + s.B.length + 1 ≤ c; omega, by show A'.length + s.C.length + 1 ≤ c; omega, by omega, rfl, ?_, fun k' hk' => ?_⟩
      · show ([k] ++ (A' ++ s.B)).Perm (s.A ++ s.B)
        rw [e1, List.append_assoc]
        exact (List.perm_middle (a := k) (l₁ := A') (l₂ := s.B)).symm
      · injection hk' with hk'
        rw [← hk']
        exact h.sm k (mem_all.2 (.inl (by rw [e1]; simp)))
  · rw [if_neg c1]
    by_cases c3 : c ≤ (all s).length
    · rw [if_pos c3]
      by_cases c4 : 2 * c ≤ (all s).length
      · rw [if_pos c4]
        obtain ⟨D', k, e1, e2⟩ := forg_eq3 h (by intro e; rw [e] at hal; simp at hal; omega)
        have eD : s.D.length = D'.length + 1 := by rw [e1]; simp
        have hp : (all s).Perm (k :: all ⟨s.t, s.A, s.B, s.C, D'⟩) := by
          have := snocD s.t s.A s.B s.C D' k
          rw [← e1] at this
          exact this
        obtain ⟨g1, g2, g3⟩ := h.less hp h1 h2 h.tl
        rw [e2]
        obtain ⟨f1, f2, f3, f4, f5, f6, f7⟩ := full_inv (w := false) g1
        refine ⟨f1, fun y hy => hp.mem_iff.2 (List.mem_cons_of_mem _ (f2.mem_iff.1 hy)), f3, ?_, ?_, f5, f6, f7⟩
        · rw [f4]; show s.A.length + s.C.length + 1 ≤ c; omega
        · rw [f2.length_eq]; omega
      · rw [if_neg c4]
        obtain ⟨f1, f2, f3, f4, f5, f6, f7⟩ := full_inv (w := false) h
        exact ⟨f1, fun y hy => f2.mem_iff.1 hy, f3, by rw [f4]; omega, by rw [f2.length_eq]; omega, f5, f6, f7⟩
    · rw [if_neg c3]
      exact ⟨h, fun y hy => hy, by show s.A.length + s.B.length + 1 ≤ c; omega, by show s.A.length + s.C.length + 1 ≤ c; omega, by show (all s).length + 1 ≤ 2 * c; omega, rfl, List.Perm.refl _, fun k hk => by cases hk⟩

theorem put_inv {c : Nat} {x : ByteArray} {s2 : Ac} (f1 : AInv c s2) (hx : x.size ≤ 64) (hn : x ∉ all s2) (f3 : s2.A.length + s2.B.length + 1 ≤ c) (f4 : s2.A.length + s2.C.length + 1 ≤ c) (f5 : (all s2).length + 1 ≤ 2 * c) :
    AInv c (frA 0 x s2) ∧ ((frA 0 x s2).A ++ (frA 0 x s2).B) = x :: (s2.A ++ s2.B) := by
  have e : frA 0 x s2 = ⟨s2.t, x :: s2.A, s2.B, s2.C, s2.D⟩ := by
    unfold frA
    rw [rmA_self hn]; rfl
  rw [e]
  refine ⟨⟨f1.c1, f1.c9, by show (x :: s2.A).length + s2.B.length ≤ c; rw [List.length_cons]; omega, by show (x :: s2.A).length + s2.C.length ≤ c; rw [List.length_cons]; omega, ?_, f1.tl, ?_, ?_⟩, rfl⟩
  · show (x :: all s2).length ≤ _
    rw [List.length_cons]; omega
  · show (x :: all s2).Nodup
    exact List.nodup_cons.2 ⟨hn, f1.nd⟩
  · intro y hy
    have hy' : y ∈ x :: all s2 := hy
    rcases List.mem_cons.1 hy' with rfl | hy'
    · exact hx
    · exact f1.sm y hy'

/-- What Insert does: the bounds hold behind it; what is kept. -/
theorem ins_inv {c : Nat} {x : ByteArray} {s : Ac} (h : AInv c s) : AInv c (ins c x s).1 ∧ (x.size ≤ 64 → ∃ R, ((ins c x s).1.A ++ (ins c x s).1.B).Perm (x :: R) ∧ (optL (ins c x s).2 ++ R).Perm (rm x (s.A ++ s.B))) := by
  unfold ins
  by_cases c0 : 64 < x.size
  · rw [if_pos c0]
    exact ⟨h, fun e => by omega⟩
  · rw [if_neg c0]
    by_cases c1 : isIn x s.A = true ∨ isIn x s.B = true
    · rw [if_pos c1]
      obtain ⟨t1, t2⟩ := touch_inv h (c1.imp (isIn_iff _ _).1 (isIn_iff _ _).1)
      exact ⟨t1, fun _ => ⟨_, t2, List.Perm.refl _⟩⟩
    · rw [if_neg c1]
      by_cases c2 : isIn x s.C = true
      · rw [if_pos c2]
        obtain ⟨t1, t2⟩ := again_inv (in3 := false) h (.inl ((isIn_iff _ _).1 c2))
        exact ⟨t1, fun _ => t2⟩
      · rw [if_neg c2]
        by_cases c3 : isIn x s.D = true
        · rw [if_pos c3]
          obtain ⟨t1, t2⟩ := again_inv (in3 := true) h (.inr ((isIn_iff _ _).1 c3))
          exact ⟨t1, fun _ => t2⟩
        · rw [if_neg c3]
          have hA : x ∉ s.A := fun e => c1 (.inl ((isIn_iff _ _).2 e))
          have hB : x ∉ s.B := fun e => c1 (.inr ((isIn_iff _ _).2 e))
          have hC : x ∉ s.C := fun e => c2 ((isIn_iff _ _).2 e)
          have hD : x ∉ s.D := fun e => c3 ((isIn_iff _ _).2 e)
          have hn : x ∉ all s := fun e => by rcases mem_all.1 e with e | e | e | e; exact hA e; exact hB e; exact hC e; exact hD e
          obtain ⟨f1, f2, f3, f4, f5, f6, f7, f8⟩ := fresh_inv h
          obtain ⟨p1, p2⟩ := put_inv f1 (by omega) (fun e => hn (f2 x e)) f3 f4 f5
          refine ⟨p1, fun _ => ⟨(fresh c s).1.A ++ (fresh c s).1.B, ?_, ?_⟩⟩
          · show ((frA 0 x (fresh c s).1).A ++ (frA 0 x (fresh c s).1).B).Perm _
            rw [p2]
          · rw [rm_self (fun e => (List.mem_append.1 e).elim hA hB)]
            exact f7

end Go.Proofs.Ytebjbkpgicbgeaa.ArcQ
