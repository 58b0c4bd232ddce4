/-
  Plain law of layer 7 (arc): four lists of keys, a target. No program in sight.
-/
import Derived.Test.YtebjbkpgicbgeaaRinG
namespace Go.Proofs.Ytebjbkpgicbgeaa.ArcP
set_option linter.unusedVariables false
set_option linter.unusedSimpArgs false
open Go.Proofs.Ytebjbkpgicbgeaa.RinP Go.Proofs.Ytebjbkpgicbgeaa.RinG

structure Ac where
  t : Nat
  A : List ByteArray
  B : List ByteArray
  C : List ByteArray
  D : List ByteArray
def keys (s : Ac) : Keys := [s.A, s.B, s.C, s.D]
def all (s : Ac) : List ByteArray := s.A ++ (s.B ++ (s.C ++ s.D))
theorem keys_flat (s : Ac) : (keys s).flatten = all s := by simp [keys, all]
def rm (x : ByteArray) (l : List ByteArray) : List ByteArray := l.filter fun y => decide (y ≠ x)
theorem rm_self {x : ByteArray} {l : List ByteArray} (h : x ∉ l) : rm x l = l := List.filter_eq_self.2 (fun y hy => by rw [decide_eq_true_iff]; rintro rfl; exact h hy)
theorem rm_mem {x y : ByteArray} {l : List ByteArray} : y ∈ rm x l ↔ y ∈ l ∧ y ≠ x := by unfold rm; rw [List.mem_filter, decide_eq_true_iff]
theorem rm_app (x : ByteArray) (a b : List ByteArray) : rm x (a ++ b) = rm x a ++ rm x b := List.filter_append ..
theorem rm_perm {x : ByteArray} {l : List ByteArray} (hn : l.Nodup) (hx : x ∈ l) : (x :: rm x l).Perm l := by
  obtain ⟨a, b, rfl⟩ := List.append_of_mem hx
  rw [List.nodup_append] at hn
  have h1 : x ∉ a := fun e => hn.2.2 x e x (by simp) rfl
  have h2 : x ∉ b := (List.nodup_cons.1 hn.2.1).1
  have e : rm x (x :: b) = b := by
    have : rm x (x :: b) = rm x b := by unfold rm; rw [List.filter_cons]; simp
    rw [this, rm_self h2]
  rw [rm_app, rm_self h1, e]
  exact List.perm_middle.symm
theorem rm_len {x : ByteArray} {l : List ByteArray} (hn : l.Nodup) (hx : x ∈ l) : (rm x l).length + 1 = l.length := by
  have := (rm_perm hn hx).length_eq
  simpa using this
theorem rm_last {k : ByteArray} {l : List ByteArray} (hn : (l ++ [k]).Nodup) : rm k (l ++ [k]) = l := by
  rw [List.nodup_append] at hn
  have h1 : k ∉ l := fun e => hn.2.2 k e k (by simp) rfl
  rw [rm_app, rm_self h1]
  have : rm k [k] = [] := by unfold rm; simp
  rw [this, List.append_nil]

def rmA (x : ByteArray) (s : Ac) : Ac := ⟨s.t, rm x s.A, rm x s.B, rm x s.C, rm x s.D⟩
def toL (i : Nat) (x : ByteArray) (s : Ac) : Ac :=
  match i with
  | 0 => ⟨s.t, x :: s.A, s.B, s.C, s.D⟩
  | 1 => ⟨s.t, s.A, x :: s.B, s.C, s.D⟩
  | 2 => ⟨s.t, s.A, s.B, x :: s.C, s.D⟩
  | _ => ⟨s.t, s.A, s.B, s.C, x :: s.D⟩
/-- A key goes to the front of a list. -/
def frA (i : Nat) (x : ByteArray) (s : Ac) : Ac := toL i x (rmA x s)
theorem all_rmA (x : ByteArray) (s : Ac) : all (rmA x s) = rm x (all s) := by unfold all rmA; simp only [rm_app]
theorem all_toL (i : Nat) (x : ByteArray) (s : Ac) : (all (toL i x s)).Perm (x :: all s) := by
  unfold all toL
  split
  · simp
  · exact List.perm_middle
  · show (s.A ++ (s.B ++ (x :: (s.C ++ s.D)))).Perm (x :: (s.A ++ (s.B ++ (s.C ++ s.D))))
    have := List.perm_middle (a := x) (l₁ := s.A ++ s.B) (l₂ := s.C ++ s.D)
    rw [List.append_assoc, List.append_assoc] at this
    exact this
  · show (s.A ++ (s.B ++ (s.C ++ (x :: s.D)))).Perm (x :: (s.A ++ (s.B ++ (s.C ++ s.D))))
    have := List.perm_middle (a := x) (l₁ := s.A ++ (s.B ++ s.C)) (l₂ := s.D)
    rw [List.append_assoc, List.append_assoc, List.append_assoc, List.append_assoc] at this
    exact this
theorem keys_rmA (x : ByteArray) (s : Ac) : keys (rmA x s) = remK x (keys s) := rfl
theorem frontK_frA {k i : Nat} {x : ByteArray} {s : Ac} (hi : i < 4) (hx : x.size ≤ 64) (hr : x ∈ all s ∨ (all s).length < k) : frontK 4 k (i : Int) x (keys s) = (keys (frA i x s), true) := by
  unfold frontK
  rw [if_neg (by omega), Int.toNat_natCast, keys_flat]
  have hp : ∀ s', pushK i x (keys s') = keys (toL i x s') := by
    intro s'
    have : i = 0 ∨ i = 1 ∨ i = 2 ∨ i = 3 := by omega
    rcases this with rfl | rfl | rfl | rfl <;> rfl
  by_cases h : hasK x (keys s) = true
  · rw [if_pos h, ← keys_rmA, hp]; rfl
  · rw [if_neg h]
    have h2 : x ∉ all s := fun e => h ((hasK_iff _ _).2 (by rw [keys_flat]; exact e))
    rw [if_neg (by have := hr.resolve_left h2; omega), hp]
    have e : rmA x s = s := by
      unfold all at h2
      simp only [List.mem_append, not_or] at h2
      unfold rmA
      rw [rm_self h2.1, rm_self h2.2.1, rm_self h2.2.2.1, rm_self h2.2.2.2]
    unfold frA
    rw [e]

theorem snocA (t : Nat) (A B C D : List ByteArray) (k : ByteArray) : (all ⟨t, A ++ [k], B, C, D⟩).Perm (k :: all ⟨t, A, B, C, D⟩) := by
  unfold all
  show ((A ++ [k]) ++ (B ++ (C ++ D))).Perm _
  rw [List.append_assoc]
  exact List.perm_middle
theorem snocB (t : Nat) (A B C D : List ByteArray) (k : ByteArray) : (all ⟨t, A, B ++ [k], C, D⟩).Perm (k :: all ⟨t, A, B, C, D⟩) := by
  unfold all
  show (A ++ ((B ++ [k]) ++ (C ++ D))).Perm (k :: (A ++ (B ++ (C ++ D))))
  have := List.perm_middle (a := k) (l₁ := A ++ B) (l₂ := C ++ D)
  rw [List.append_assoc, List.append_assoc] at this
  rw [List.append_assoc B]
  exact this
theorem snocC (t : Nat) (A B C D : List ByteArray) (k : ByteArray) : (all ⟨t, A, B, C ++ [k], D⟩).Perm (k :: all ⟨t, A, B, C, D⟩) := by
  unfold all
  show (A ++ (B ++ ((C ++ [k]) ++ D))).Perm (k :: (A ++ (B ++ (C ++ D))))
  have := List.perm_middle (a := k) (l₁ := A ++ (B ++ C)) (l₂ := D)
  rw [List.append_assoc, List.append_assoc, List.append_assoc, List.append_assoc] at this
  rw [List.append_assoc C]
  exact this
theorem snocD (t : Nat) (A B C D : List ByteArray) (k : ByteArray) : (all ⟨t, A, B, C, D ++ [k]⟩).Perm (k :: all ⟨t, A, B, C, D⟩) := by
  unfold all
  show (A ++ (B ++ (C ++ (D ++ [k])))).Perm (k :: (A ++ (B ++ (C ++ D))))
  rw [← List.append_assoc C, ← List.append_assoc B, ← List.append_assoc A]
  have := List.perm_append_comm (l₁ := A ++ (B ++ (C ++ D))) (l₂ := [k])
  exact this

structure AInv (c : Nat) (s : Ac) : Prop where
  c1 : 1 ≤ c
  c9 : c ≤ 1000
  ab : s.A.length + s.B.length ≤ c
  ac : s.A.length + s.C.length ≤ c
  tot : (all s).length ≤ 2 * c
  tl : s.t ≤ c
  nd : (all s).Nodup
  sm : ∀ x ∈ all s, x.size ≤ 64
theorem all_len (s : Ac) : (all s).length = s.A.length + s.B.length + s.C.length + s.D.length := by unfold all; simp only [List.length_append]; omega
/-- The same keys, in other lists. -/
theorem AInv.turn {c : Nat} {s s' : Ac} (h : AInv c s) (hp : (all s').Perm (all s)) (ab : s'.A.length + s'.B.length ≤ c) (ac : s'.A.length + s'.C.length ≤ c) (ht : s'.t ≤ c) : AInv c s' :=
  ⟨h.c1, h.c9, ab, ac, by rw [hp.length_eq]; exact h.tot, ht, hp.nodup_iff.2 h.nd, fun x hx => h.sm x (hp.mem_iff.1 hx)⟩
theorem AInv.less {c : Nat} {s s' : Ac} {k : ByteArray} (h : AInv c s) (hp : (all s).Perm (k :: all s')) (ab : s'.A.length + s'.B.length ≤ c) (ac : s'.A.length + s'.C.length ≤ c) (ht : s'.t ≤ c) : AInv c s' ∧ (all s').length + 1 = (all s).length ∧ k ∉ all s' := by
  have hn := hp.nodup_iff.1 h.nd
  have hl := hp.length_eq
  rw [List.length_cons] at hl
  exact ⟨⟨h.c1, h.c9, ab, ac, by have := h.tot; omega, ht, (List.nodup_cons.1 hn).2, fun x hx => h.sm x (hp.mem_iff.2 (List.mem_cons_of_mem _ hx))⟩, hl.symm, (List.nodup_cons.1 hn).1⟩
theorem parts {s : Ac} (h : (all s).Nodup) : s.A.Nodup ∧ s.B.Nodup ∧ s.C.Nodup ∧ s.D.Nodup ∧ (∀ x ∈ s.A, x ∉ s.B ∧ x ∉ s.C ∧ x ∉ s.D) ∧ (∀ x ∈ s.B, x ∉ s.A ∧ x ∉ s.C ∧ x ∉ s.D) ∧ (∀ x ∈ s.C, x ∉ s.A ∧ x ∉ s.B ∧ x ∉ s.D) ∧ (∀ x ∈ s.D, x ∉ s.A ∧ x ∉ s.B ∧ x ∉ s.C) := by
  unfold all at h
  rw [List.nodup_append, List.nodup_append, List.nodup_append] at h
  obtain ⟨hA, ⟨hB, ⟨hC, hD, cd⟩, bc⟩, abcd⟩ := h
  have iab : ∀ x ∈ s.A, x ∉ s.B := fun x hx e => abcd x hx x (by simp [e]) rfl
  have iac : ∀ x ∈ s.A, x ∉ s.C := fun x hx e => abcd x hx x (by simp [e]) rfl
  have iad : ∀ x ∈ s.A, x ∉ s.D := fun x hx e => abcd x hx x (by simp [e]) rfl
  have ibc : ∀ x ∈ s.B, x ∉ s.C := fun x hx e => bc x hx x (by simp [e]) rfl
  have ibd : ∀ x ∈ s.B, x ∉ s.D := fun x hx e => bc x hx x (by simp [e]) rfl
  have icd : ∀ x ∈ s.C, x ∉ s.D := fun x hx e => cd x hx x e rfl
  exact ⟨hA, hB, hC, hD, fun x hx => ⟨iab x hx, iac x hx, iad x hx⟩, fun x hx => ⟨fun e => iab x e hx, ibc x hx, ibd x hx⟩, fun x hx => ⟨fun e => iac x e hx, fun e => ibc x e hx, icd x hx⟩, fun x hx => ⟨fun e => iad x e hx, fun e => ibd x e hx, fun e => icd x e hx⟩⟩
theorem frA_perm {i : Nat} {x : ByteArray} {s : Ac} (hn : (all s).Nodup) (hx : x ∈ all s) : (all (frA i x s)).Perm (all s) := by
  refine (all_toL i x (rmA x s)).trans ?_
  rw [all_rmA]
  exact rm_perm hn hx
theorem rmA_self {x : ByteArray} {s : Ac} (h : x ∉ all s) : rmA x s = s := by
  unfold all at h
  simp only [List.mem_append, not_or] at h
  unfold rmA
  rw [rm_self h.1, rm_self h.2.1, rm_self h.2.2.1, rm_self h.2.2.2]
theorem rm_le (x : ByteArray) (l : List ByteArray) : (rm x l).length ≤ l.length := List.length_filter_le _ _

/-! ### what a policy does -/
/-- Is one of those that were asked for once to go? -/
def fromA (w : Bool) (s : Ac) : Bool := decide (0 < s.A.length) && (decide (s.t < s.A.length) || (w && decide (s.A.length = s.t)) || decide (s.B.length = 0))
def repl (w : Bool) (s : Ac) : Ac × Option ByteArray :=
  if fromA w s = true then (match s.A.getLast? with | some k => (frA 2 k s, some k) | none => (s, none))
  else (match s.B.getLast? with | some k => (frA 3 k s, some k) | none => (s, none))
def forg2 (s : Ac) : Ac := match s.C.getLast? with | some k => rmA k s | none => s
def forg3 (s : Ac) : Ac := match s.D.getLast? with | some k => rmA k s | none => s
def moved (c : Nat) (in3 : Bool) (s : Ac) : Ac := { s with t := if in3 then s.t - max 1 (s.C.length / s.D.length) else min c (s.t + max 1 (s.D.length / s.C.length)) }
def full (c : Nat) (w : Bool) (s : Ac) : Ac × Option ByteArray := if c ≤ s.A.length + s.B.length then repl w s else (s, none)
def again (c : Nat) (x : ByteArray) (in3 : Bool) (s : Ac) : Ac × Option ByteArray := (frA 1 x (full c in3 (moved c in3 s)).1, (full c in3 (moved c in3 s)).2)
def fresh (c : Nat) (s : Ac) : Ac × Option ByteArray :=
  if c ≤ s.A.length + s.C.length then
    if s.A.length < c then full c false (forg2 s)
    else (match s.A.getLast? with | some k => (rmA k s, some k) | none => (s, none))
  else if c ≤ (all s).length then full c false (if 2 * c ≤ (all s).length then forg3 s else s)
  else (s, none)
def isIn (x : ByteArray) (l : List ByteArray) : Bool := l.any fun y => decide (y = x)
theorem isIn_iff (x : ByteArray) (l : List ByteArray) : isIn x l = true ↔ x ∈ l := by
  unfold isIn
  rw [List.any_eq_true]
  constructor
  · rintro ⟨y, hy, e⟩
    rw [← of_decide_eq_true e]; exact hy
  · intro h
    exact ⟨x, h, decide_eq_true rfl⟩
def ins (c : Nat) (x : ByteArray) (s : Ac) : Ac × Option ByteArray :=
  if 64 < x.size then (s, none)
  else if isIn x s.A = true ∨ isIn x s.B = true then (frA 1 x s, none)
  else if isIn x s.C = true then again c x false s
  else if isIn x s.D = true then again c x true s
  else (frA 0 x (fresh c s).1, (fresh c s).2)

theorem last_form {α : Type} {l : List α} (h : l ≠ []) : ∃ a k, l = a ++ [k] ∧ l.getLast? = some k := by
  rcases List.eq_nil_or_concat l with e | ⟨a, k, e⟩
  · exact absurd e h
  · refine ⟨a, k, by simpa using e, ?_⟩
    rw [e]; simp
theorem repl_cases {w : Bool} {s : Ac} (hn : (all s).Nodup) (h0 : 0 < s.A.length + s.B.length) :
    (∃ A' k, s.A = A' ++ [k] ∧ fromA w s = true ∧ repl w s = (⟨s.t, A', s.B, k :: s.C, s.D⟩, some k)) ∨ (∃ B' k, s.B = B' ++ [k] ∧ fromA w s = false ∧ repl w s = (⟨s.t, s.A, B', s.C, k :: s.D⟩, some k)) := by
  obtain ⟨nA, nB, nC, nD, pA, pB, pC, pD⟩ := parts hn
  cases hf : fromA w s with
  | true =>
    left
    have hA : s.A ≠ [] := by
      intro e
      unfold fromA at hf
      rw [e] at hf
      simp at hf
    obtain ⟨A', k, e1, e2⟩ := last_form hA
    refine ⟨A', k, e1, rfl, ?_⟩
    have hk : k ∈ s.A := by rw [e1]; simp
    obtain ⟨q1, q2, q3⟩ := pA k hk
    unfold repl
    rw [if_pos hf, e2]
    have e4 : frA 2 k s = ⟨s.t, rm k s.A, rm k s.B, k :: rm k s.C, rm k s.D⟩ := rfl
    show (frA 2 k s, some k) = _
    rw [e4, rm_self q1, rm_self q2, rm_self q3, show rm k s.A = A' from by rw [e1] at nA ⊢; exact rm_last nA]
  | false =>
    right
    have hB : s.B ≠ [] := by
      intro e
      unfold fromA at hf
      rw [e] at hf h0
      simp at hf h0
      rw [hf] at h0
      simp at h0
    obtain ⟨B', k, e1, e2⟩ := last_form hB
    refine ⟨B', k, e1, rfl, ?_⟩
    have hk : k ∈ s.B := by rw [e1]; simp
    obtain ⟨q1, q2, q3⟩ := pB k hk
    unfold repl
    rw [if_neg (by rw [hf]; simp), e2]
    have e4 : frA 3 k s = ⟨s.t, rm k s.A, rm k s.B, rm k s.C, k :: rm k s.D⟩ := rfl
    show (frA 3 k s, some k) = _
    rw [e4, rm_self q1, rm_self q2, rm_self q3, show rm k s.B = B' from by rw [e1] at nB ⊢; exact rm_last nB]
theorem repl_inv {c : Nat} {w : Bool} {s : Ac} (h : AInv c s) (h0 : 0 < s.A.length + s.B.length) :
    AInv c (repl w s).1 ∧ (all (repl w s).1).Perm (all s) ∧ (repl w s).1.A.length + (repl w s).1.B.length + 1 = s.A.length + s.B.length ∧ (repl w s).1.A.length + (repl w s).1.C.length = s.A.length + s.C.length ∧ (repl w s).1.t = s.t ∧
      ∃ k, (repl w s).2 = some k ∧ (k :: ((repl w s).1.A ++ (repl w s).1.B)).Perm (s.A ++ s.B) ∧ k.size ≤ 64 := by
  obtain ⟨t, A, B, C, D⟩ := s
  rcases repl_cases (w := w) h.nd h0 with ⟨A', k, e1, e2, e3⟩ | ⟨B', k, e1, e2, e3⟩
  · rw [e3]
    dsimp only at e1
    subst e1
    have hp : (all ⟨t, A', B, k :: C, D⟩).Perm (all ⟨t, A' ++ [k], B, C, D⟩) := (all_toL 2 k ⟨t, A', B, C, D⟩).trans (snocA t A' B C D k).symm
    have h1 := h.ab
    have h2 := h.ac
    simp only [List.length_append, List.length_cons, List.length_nil] at h1 h2
    refine ⟨h.turn hp (by dsimp only; omega) (by dsimp only; rw [List.length_cons]; omega) h.tl, hp, by dsimp only; rw [List.length_append, List.length_cons, List.length_nil]; omega, by dsimp only; rw [List.length_append, List.length_cons, List.length_cons, List.length_nil]; omega, rfl, k, rfl, ?_, h.sm k (by unfold all; simp)⟩
    show (k :: (A' ++ B)).Perm ((A' ++ [k]) ++ B)
    rw [List.append_assoc]
    exact List.perm_middle.symm
  · rw [e3]
    dsimp only at e1
    subst e1
    have hp : (all ⟨t, A, B', C, k :: D⟩).Perm (all ⟨t, A, B' ++ [k], C, D⟩) := (all_toL 3 k ⟨t, A, B', C, D⟩).trans (snocB t A B' C D k).symm
    have h1 := h.ab
    have h2 := h.ac
    simp only [List.length_append, List.length_cons, List.length_nil] at h1
    refine ⟨h.turn hp (by dsimp only; omega) h2 h.tl, hp, by dsimp only; rw [List.length_append, List.length_cons, List.length_nil]; omega, rfl, rfl, k, rfl, ?_, h.sm k (by unfold all; simp)⟩
    show (k :: (A ++ B')).Perm (A ++ (B' ++ [k]))
    rw [← List.append_assoc]
    exact (List.perm_append_comm (l₁ := [k]) (l₂ := A ++ B'))

end Go.Proofs.Ytebjbkpgicbgeaa.ArcP
