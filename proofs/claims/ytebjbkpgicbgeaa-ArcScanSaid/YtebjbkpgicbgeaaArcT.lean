/-
  ArcScan: a key that is asked for twice outlives a scan (plain law).
-/
import Derived.Test.YtebjbkpgicbgeaaArcO
import Derived.Test.YtebjbkpgicbgeaaMask
namespace Go.Proofs.Ytebjbkpgicbgeaa.ArcT
set_option linter.unusedVariables false
set_option linter.unusedSimpArgs false
set_option maxRecDepth 100000
open Go.RowKit Go.Proofs.Ytebjbkpgicbgeaa.Mem Go.Proofs.Ytebjbkpgicbgeaa.ArcP Go.Proofs.Ytebjbkpgicbgeaa.ArcQ Go.Proofs.Ytebjbkpgicbgeaa.ArcW Go.Proofs.Ytebjbkpgicbgeaa.ArcV Go.Proofs.Ytebjbkpgicbgeaa.ArcU Go.Proofs.Ytebjbkpgicbgeaa.ArcO Go.Proofs.Ytebjbkpgicbgeaa.Mask

def kp : ByteArray := ⟨#[107, 101, 112, 116]⟩
def sk (i : Nat) : ByteArray := ⟨#[UInt8.ofNat i, UInt8.ofNat (i / 16), 115]⟩
theorem sk_inj {i j : Nat} (hi : i < 256) (hj : j < 256) (h : sk i = sk j) : i = j := by
  unfold sk at h
  injection h with h
  have h2 := congrArg (fun a : Array UInt8 => a[0]?) h
  simp at h2
  have h3 := congrArg UInt8.toNat h2
  simp at h3
  omega
theorem sk_kp (i : Nat) : sk i ≠ kp := by
  intro h
  have h2 := congrArg ByteArray.size h
  cases h2
structure Scan (i : Nat) (s : Ac) : Prop where
  t : s.t = 0
  B : s.B = [kp]
  D : s.D = []
  o : ∀ y ∈ s.A ++ s.C, ∃ j, j < i ∧ y = sk j
theorem Scan.new {i : Nat} {s : Ac} (h : Scan i s) (hi : i < 256) : sk i ∉ s.A ∧ sk i ∉ s.B ∧ sk i ∉ s.C ∧ sk i ∉ s.D := by
  have hn : ∀ l : List ByteArray, (∀ y ∈ l, y ∈ s.A ++ s.C) → sk i ∉ l := fun l hl e => by
    obtain ⟨j, hj, e2⟩ := h.o _ (hl _ e)
    have := sk_inj hi (by omega) e2
    omega
  refine ⟨hn _ (fun y e => List.mem_append_left _ e), ?_, hn _ (fun y e => List.mem_append_right _ e), ?_⟩
  · rw [h.B]
    intro e
    exact sk_kp i (List.mem_singleton.1 e)
  · rw [h.D]
    intro e; cases e
theorem Scan.mono {i j : Nat} {s : Ac} (h : Scan i s) (hij : i ≤ j) : Scan j s := ⟨h.t, h.B, h.D, fun y hy => by obtain ⟨k, hk, e⟩ := h.o y hy; exact ⟨k, by omega, e⟩⟩
theorem scan_full {c i : Nat} {s : Ac} (h : AInv c s) (hc : 2 ≤ c) (hs : Scan i s) : Scan i (full c false s).1 := by
  unfold full
  by_cases hf : c ≤ s.A.length + s.B.length
  · rw [if_pos hf]
    have hB : s.B.length = 1 := by rw [hs.B]; rfl
    rcases repl_cases (w := false) h.nd (by omega) with ⟨A', k, e1, e2, e3⟩ | ⟨B', k, e1, e2, e3⟩
    · rw [e3]
      refine ⟨hs.t, hs.B, hs.D, fun y hy => hs.o y ?_⟩
      rw [e1]
      simp only [List.mem_append, List.mem_cons, List.not_mem_nil, or_false] at hy ⊢
      rcases hy with e | e | e
      · exact .inl (.inl e)
      · exact .inl (.inr e)
      · exact .inr e
    · exfalso
      unfold fromA at e2
      have h1 : 0 < s.A.length := by omega
      rw [hs.t] at e2
      simp [h1] at e2
  · rw [if_neg hf]; exact hs
theorem scan_fresh {c i : Nat} {s : Ac} (h : AInv c s) (hc : 2 ≤ c) (hs : Scan i s) : Scan i (fresh c s).1 := by
  have hB : s.B.length = 1 := by rw [hs.B]; rfl
  have hD : s.D.length = 0 := by rw [hs.D]; rfl
  have hal := all_len s
  have hab := h.ab
  have hac := h.ac
  unfold fresh
  by_cases h1 : c ≤ s.A.length + s.C.length
  · rw [if_pos h1, if_pos (by omega)]
    have hC0 : s.C ≠ [] := by intro e; rw [e] at h1; simp at h1; omega
    obtain ⟨C2, k2, g1, g2⟩ := forg_eq2 h hC0
    have hp := snocC s.t s.A s.B C2 s.D k2
    rw [← g1] at hp
    have g3 := h.ac
    rw [g1] at g3
    simp only [List.length_append, List.length_cons, List.length_nil] at g3
    rw [g2]
    refine scan_full (h.less hp h.ab (by dsimp only; omega) h.tl).1 hc ⟨hs.t, hs.B, hs.D, fun y hy => hs.o y ?_⟩
    rw [g1]
    simp only [List.mem_append] at hy ⊢
    exact hy.elim .inl (fun e => .inr (.inl e))
  · rw [if_neg h1]
    by_cases h2 : c ≤ (all s).length
    · rw [if_pos h2, if_neg (by omega)]
      exact scan_full h hc hs
    · rw [if_neg h2]; exact hs
theorem scan_ins {c i : Nat} {s : Ac} (h : AInv c s) (hc : 2 ≤ c) (hs : Scan i s) (hi : i < 256) : Scan (i + 1) (ins c (sk i) s).1 := by
  obtain ⟨nA, nB, nC, nD⟩ := hs.new hi
  unfold ins
  rw [if_neg (by show ¬ 64 < 3; omega), if_neg (by rw [isIn_iff, isIn_iff]; exact fun e => e.elim nA nB), if_neg (by rw [isIn_iff]; exact nC), if_neg (by rw [isIn_iff]; exact nD)]
  have hf := scan_fresh h hc hs
  have hn : sk i ∉ all (fresh c s).1 := fun e => by
    rcases mem_all.1 ((fresh_inv h).2.1 _ e) with e | e | e | e
    · exact nA e
    · exact nB e
    · exact nC e
    · exact nD e
  show Scan (i + 1) (frA 0 (sk i) (fresh c s).1)
  unfold frA
  rw [rmA_self hn]
  refine ⟨hf.t, hf.B, hf.D, fun y hy => ?_⟩
  have hy' : y = sk i ∨ y ∈ (fresh c s).1.A ++ (fresh c s).1.C := by
    have : y ∈ (sk i :: (fresh c s).1.A) ++ (fresh c s).1.C := hy
    simpa using this
  rcases hy' with rfl | e
  · exact ⟨i, by omega, rfl⟩
  · obtain ⟨j, hj, e2⟩ := hf.o y e
    exact ⟨j, by omega, e2⟩

end Go.Proofs.Ytebjbkpgicbgeaa.ArcT
