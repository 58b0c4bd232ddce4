/-
  Layer 7 (arc): Insert of a fresh key.
-/
import Derived.Test.YtebjbkpgicbgeaaArcI
namespace Go.Proofs.Ytebjbkpgicbgeaa.ArcJ
set_option linter.unusedVariables false
set_option linter.unusedSimpArgs false
set_option maxRecDepth 100000
open Go.RowKit Go.Proofs.Ytebjbkpgicbgeaa.Mem Go.Proofs.Ytebjbkpgicbgeaa.RinM Go.Proofs.Ytebjbkpgicbgeaa.RinP Go.Proofs.Ytebjbkpgicbgeaa.RinW Go.Proofs.Ytebjbkpgicbgeaa.RinL Go.Proofs.Ytebjbkpgicbgeaa.RinF Go.Proofs.Ytebjbkpgicbgeaa.RinG Go.Proofs.Ytebjbkpgicbgeaa.RinH Go.Proofs.Ytebjbkpgicbgeaa.RinD Go.Proofs.Ytebjbkpgicbgeaa.RinN Go.Proofs.Ytebjbkpgicbgeaa.ArcP Go.Proofs.Ytebjbkpgicbgeaa.ArcQ Go.Proofs.Ytebjbkpgicbgeaa.ArcW Go.Proofs.Ytebjbkpgicbgeaa.ArcV Go.Proofs.Ytebjbkpgicbgeaa.ArcU Go.Proofs.Ytebjbkpgicbgeaa.ArcI
set_option maxHeartbeats 4000000 in
theorem fr_two {w : World} {F : Nat → Prop} {ab b c T : Nat} {s : Ac} (h : ArcAt w F ab b c T s) (hT : T ≤ 100000) (x : ByteArray) (hx : x.size ≤ 64) (hn : x ∉ all s) (h1 : c ≤ s.A.length + s.C.length) (h2 : s.A.length < c) :
    Calls Try.prog 12 #[.pointer (some ⟨ab, 0, none⟩), .string x] w fun e w' => ∃ v, e = .returned v ∧ OutV w' v (fresh c s).2 w.heap.size ∧ UpA w w' F ab b c (T + 2) (frA 0 x (fresh c s).1) := by
  have c2 : w.cell? ⟨ab, 2, none⟩ = some (.pointer (some ⟨b, 0, none⟩)) := cell_at h.h 2
  have c0 : w.cell? ⟨ab, 0, none⟩ = some (.int .i64 (c : Int)) := cell_at h.h 0
  have hb : (isIn x s.A || isIn x s.B) = false := by
    rw [← Bool.not_eq_true, Bool.or_eq_true, isIn_iff, isIn_iff]
    exact fun e => hn (mem_all.2 (e.elim .inl (fun e => .inr (.inl e))))
  have HT := Lib.hid (touch_no h x (by omega) hb)
  have HI := Lib.hid (in_no h.r x (by omega) (by rw [keys_flat]; exact hn))
  have HR := Lib.hid (fun n => ring_lens h n)
  have hln := h.lens
  have hal := all_len s
  have hbl := lt_of_block h.h
  have HFI := Lib.hid (fresh_inv h.i)
  have hput : AInv c (frA 0 x (fresh c s).1) := (put_inv HFI.out.1 hx (fun e => hn (HFI.out.2.1 x e)) HFI.out.2.2.1 HFI.out.2.2.2.1 HFI.out.2.2.2.2.1).1
  have HPU := Lib.hid hput
  have H := Lib.hid h
  have w1 : IntKind.i64.wrap ((s.A.length : Int) + (s.C.length : Int)) = (s.A.length : Int) + (s.C.length : Int) := IntWalk.i64_in _ (by omega)
  have w2 : IntKind.i64.wrap ((s.A.length : Int) + (s.C.length : Int) + (s.B.length : Int)) = (s.A.length : Int) + (s.C.length : Int) + (s.B.length : Int) := IntWalk.i64_in _ (by omega)
  have w3 : IntKind.i64.wrap ((s.A.length : Int) + (s.C.length : Int) + (s.B.length : Int) + (s.D.length : Int)) = (s.A.length : Int) + (s.C.length : Int) + (s.B.length : Int) + (s.D.length : Int) := IntWalk.i64_in _ (by omega)
  have HNX := Lib.hid hn
  have h1' : (c : Int) ≤ (s.A.length : Int) + (s.C.length : Int) := by omega
  have h2' : (s.A.length : Int) < (c : Int) := by omega
  have hC0 : s.C ≠ [] := by intro e; rw [e] at h1; simp at h1; omega
  obtain ⟨C', k, e1, e2⟩ := last_form hC0
  have hkC : k ∈ s.C := by rw [e1]; simp
  have hk : k ∈ all s := mem_all.2 (.inr (.inr (.inl hkC)))
  have e3 : forg2 s = rmA k s := by unfold forg2; rw [e2]
  have hfr : fresh c s = full c false (rmA k s) := by unfold fresh; rw [if_pos h1, if_pos h2, e3]
  have hi1 : AInv c (rmA k s) := by
    obtain ⟨C2, k2, g1, g2⟩ := forg_eq2 h.i hC0
    rw [← e3, g2]
    have g3 := h.i.ac
    rw [g1] at g3
    simp only [List.length_append, List.length_cons, List.length_nil] at g3
    have hp := snocC s.t s.A s.B C2 s.D k2
    rw [← g1] at hp
    exact (h.i.less hp h.i.ab (by dsimp only; omega) h.i.tl).1
  have HFg := Lib.hid (fun (W : World) (hW : ArcAt W F ab b c T s) => forget_at hW 2 s.C C' k rfl e1 hk hi1)
  clear hC0 e1 e2 hkC hk e3 hi1 h1 h2
  clear h hn hb hput
  go_enter Try.func12, Try.ntmps12
  go_wp2_with (first
    | (go_at_call 15; refine HT.out.mono ?_; rintro e w1 ⟨rfl, rfl⟩)
    | (go_at_call 26; refine HI.out.mono ?_; rintro e w1 ⟨rfl, rfl⟩))
  go_quiet ((first | (go_at_call 28; with_reducible exact (HR.out _).1) | (go_at_call 28; with_reducible exact (HR.out _).2.2.1)))
  obtain ⟨W1, hW1⟩ : ∃ W, W = w.drewN nq := ⟨_, rfl⟩
  rw [← hW1]
  have H1 : ArcAt W1 F ab b c T s := by rw [hW1]; exact H.out.keep0 ((Keep.refl _ w).drewN _)
  have K1 : Keep (fun _ => False) w W1 := by rw [hW1]; exact (Keep.refl _ w).drewN _
  clear hW1 HR c0 c2 H
  have HR := Lib.hid (fun n => ring_lens H1 n)
  have c2 : W1.cell? ⟨ab, 2, none⟩ = some (.pointer (some ⟨b, 0, none⟩)) := cell_at H1.h 2
  have c0 : W1.cell? ⟨ab, 0, none⟩ = some (.int .i64 (c : Int)) := cell_at H1.h 0
  have H := Lib.hid H1
  clear H1
  go_wp2_with fail
  go_quiet ((first | (go_at_call 28; with_reducible exact (HR.out _).2.1) | (go_at_call 28; with_reducible exact (HR.out _).2.2.2)))
  obtain ⟨W2, hW2⟩ : ∃ W, W = W1.drewN nq := ⟨_, rfl⟩
  rw [← hW2]
  have H1 : ArcAt W2 F ab b c T s := by rw [hW2]; exact H.out.keep0 ((Keep.refl _ W1).drewN _)
  have K2 : Keep (fun _ => False) w W2 := by rw [hW2]; exact (K1).drewN _
  clear hW2 HR c0 c2 H
  have HR := Lib.hid (fun n => ring_lens H1 n)
  have c2 : W2.cell? ⟨ab, 2, none⟩ = some (.pointer (some ⟨b, 0, none⟩)) := cell_at H1.h 2
  have c0 : W2.cell? ⟨ab, 0, none⟩ = some (.int .i64 (c : Int)) := cell_at H1.h 0
  have H := Lib.hid H1
  clear H1
  go_wp2_with fail
  go_quiet ((go_at_call 28; with_reducible exact (HR.out _).1))
  obtain ⟨W3, hW3⟩ : ∃ W, W = W2.drewN nq := ⟨_, rfl⟩
  rw [← hW3]
  have H1 : ArcAt W3 F ab b c T s := by rw [hW3]; exact H.out.keep0 ((Keep.refl _ W2).drewN _)
  have K3 : Keep (fun _ => False) w W3 := by rw [hW3]; exact (K2).drewN _
  clear hW3 HR c0 c2 H
  have HR := Lib.hid (fun n => ring_lens H1 n)
  have c2 : W3.cell? ⟨ab, 2, none⟩ = some (.pointer (some ⟨b, 0, none⟩)) := cell_at H1.h 2
  have c0 : W3.cell? ⟨ab, 0, none⟩ = some (.int .i64 (c : Int)) := cell_at H1.h 0
  have H := Lib.hid H1
  clear H1
  go_wp2_with (go_at_call 29; refine (HFg.out _ H.out).mono ?_; rintro e w2 ⟨rfl, F2, a2, f2, k2⟩; replace a2 := Lib.hid a2)
  replace a2 := a2.out
  replace f2 : ∀ i, F2 i → F i ∨ w.heap.size ≤ i := fun i e => (f2 i e).elim .inl (fun e2 => .inr (Nat.le_trans K3.size e2))
  have KK : Keep (fun i => F i ∨ i = ab) w w2 := K3.toAny.trans k2
  clear K1 K2 K3 k2
  obtain ⟨s2, hs2⟩ : ∃ S, S = rmA k s := ⟨_, rfl⟩
  rw [← hs2] at a2 hfr
  clear hs2
  have hfr' : fresh c s = full c false s2 := hfr
  have HFR := Lib.hid hfr'
  clear hfr hfr'
  have HG := HFI.out
  have hnm : x ∉ all (fresh c s).1 := fun e => HNX.out (HG.2.1 x e)
  have hfl := HG.2.2.2.2.1
  rw [HFR.out] at hfl
  clear HG
  have hb2 := KK.size
  have HA := Lib.hid (fun n => arc_len a2 n)
  have d0 : w2.cell? ⟨ab, 0, none⟩ = some (.int .i64 (c : Int)) := cell_at a2.h 0
  have d2 : w2.cell? ⟨ab, 2, none⟩ = some (.pointer (some ⟨b, 0, none⟩)) := cell_at a2.h 2
  have l2 := a2.lens
  have hw : IntKind.i64.wrap ((s2.A.length : Int) + (s2.B.length : Int)) = (s2.A.length : Int) + (s2.B.length : Int) := IntWalk.i64_in _ (by omega)
  have HM := Lib.hid a2
  have hFm := a2.hF
  clear a2
  go_wp2_with fail
  go_quiet ((go_at_call 13; with_reducible exact HA.out _))
  by_cases hf : c ≤ s2.A.length + s2.B.length
  · have hf' : (c : Int) ≤ (s2.A.length : Int) + (s2.B.length : Int) := by omega
    have hful : full c false s2 = repl false s2 := if_pos hf
    rw [hful] at hfl
    have p0 : 0 < s2.A.length + s2.B.length := by have := HM.out.i.c1; omega
    have HR2 := Lib.hid (fun n => repl_at (HM.out.keep0 ((Keep.refl _ w2).drewN n)) (by omega) false p0)
    go_wp2_with (first
      | (go_at_call 30; refine (HR2.out _).mono ?_; rintro e w3 ⟨v, k, rfl, hk, ho, ha, k3⟩
         obtain ⟨ao, n, hv⟩ : ∃ ao n, v = .slice ao n n := by obtain ⟨g, hg, -⟩ := ho; exact ⟨_, 1, hg⟩
         subst hv
         have d3 : w3.cell? ⟨ab, 2, none⟩ = some (.pointer (some ⟨b, 0, none⟩)) := cell_at ha.h 2
         have HF2 := Lib.hid (arc_front ha (by omega) 0 (by omega) x hx (.inr (by omega)))
         replace ha := Lib.hid ha)
      | (go_at_call 33; refine HF2.out.mono ?_; rintro e w4 ⟨rfl, r4, k4⟩))
    go_ret
    have hi := HPU.out
    rw [HFR.out, hful] at hi
    rw [HFR.out, hful]
    refine ⟨_, rfl, ?_, F2, (ArcAt.of ha.out r4 k4 rfl hi).1, f2, (KK.drewN _).trans' (k3.trans k4) (fun i hi e => ?_)⟩
    · show OutV w4 _ (repl false s2).2 w.heap.size
      rw [hk]
      exact One.mono (One.keep ho k4 hFm) hb2
    · rcases f2 i e with e2 | e2
      · exact .inl e2
      · omega
  · have hf' : ¬ (c : Int) ≤ (s2.A.length : Int) + (s2.B.length : Int) := by omega
    have hful : full c false s2 = (s2, none) := if_neg hf
    rw [hful] at hfl
    have hfl2 : (all s2).length + 1 ≤ 2 * c := hfl
    have HF2 := Lib.hid (fun n => arc_front (HM.out.keep0 ((Keep.refl _ w2).drewN n)) (by omega) 0 (by omega) x hx (.inr (by omega)))
    go_wp2_with (go_at_call 33; refine (HF2.out _).mono ?_; rintro e w4 ⟨rfl, r4, k4⟩)
    go_ret
    have hi := HPU.out
    rw [HFR.out, hful] at hi
    rw [HFR.out, hful]
    refine ⟨_, rfl, rfl, F2, (ArcAt.of HM.out (r4.mono (fun _ e => e) (by omega)) ((Keep.refl _ _).drewN _ |>.trans k4) rfl hi).1, f2, (KK.drewN _).trans' k4 (fun i hi e => ?_)⟩
    rcases f2 i e with e2 | e2
    · exact .inl e2
    · omega

set_option maxHeartbeats 4000000 in
theorem fr_three {w : World} {F : Nat → Prop} {ab b c T : Nat} {s : Ac} (h : ArcAt w F ab b c T s) (hT : T ≤ 100000) (x : ByteArray) (hx : x.size ≤ 64) (hn : x ∉ all s) (h1 : ¬ c ≤ s.A.length + s.C.length) (h2 : c ≤ (all s).length) (h3 : 2 * c ≤ (all s).length) :
    Calls Try.prog 12 #[.pointer (some ⟨ab, 0, none⟩), .string x] w fun e w' => ∃ v, e = .returned v ∧ OutV w' v (fresh c s).2 w.heap.size ∧ UpA w w' F ab b c (T + 2) (frA 0 x (fresh c s).1) := by
  have c2 : w.cell? ⟨ab, 2, none⟩ = some (.pointer (some ⟨b, 0, none⟩)) := cell_at h.h 2
  have c0 : w.cell? ⟨ab, 0, none⟩ = some (.int .i64 (c : Int)) := cell_at h.h 0
  have hb : (isIn x s.A || isIn x s.B) = false := by
    rw [← Bool.not_eq_true, Bool.or_eq_true, isIn_iff, isIn_iff]
    exact fun e => hn (mem_all.2 (e.elim .inl (fun e => .inr (.inl e))))
  have HT := Lib.hid (touch_no h x (by omega) hb)
  have HI := Lib.hid (in_no h.r x (by omega) (by rw [keys_flat]; exact hn))
  have HR := Lib.hid (fun n => ring_lens h n)
  have hln := h.lens
  have hal := all_len s
  have hbl := lt_of_block h.h
  have HFI := Lib.hid (fresh_inv h.i)
  have hput : AInv c (frA 0 x (fresh c s).1) := (put_inv HFI.out.1 hx (fun e => hn (HFI.out.2.1 x e)) HFI.out.2.2.1 HFI.out.2.2.2.1 HFI.out.2.2.2.2.1).1
  have HPU := Lib.hid hput
  have H := Lib.hid h
  have w1 : IntKind.i64.wrap ((s.A.length : Int) + (s.C.length : Int)) = (s.A.length : Int) + (s.C.length : Int) := IntWalk.i64_in _ (by omega)
  have w2 : IntKind.i64.wrap ((s.A.length : Int) + (s.C.length : Int) + (s.B.length : Int)) = (s.A.length : Int) + (s.C.length : Int) + (s.B.length : Int) := IntWalk.i64_in _ (by omega)
  have w3 : IntKind.i64.wrap ((s.A.length : Int) + (s.C.length : Int) + (s.B.length : Int) + (s.D.length : Int)) = (s.A.length : Int) + (s.C.length : Int) + (s.B.length : Int) + (s.D.length : Int) := IntWalk.i64_in _ (by omega)
  have HNX := Lib.hid hn
  have h1' : ¬ (c : Int) ≤ (s.A.length : Int) + (s.C.length : Int) := by omega
  have h1d : decide ((c : Int) ≤ (s.A.length : Int) + (s.C.length : Int)) = false := decide_eq_false h1'
  have h2' : (c : Int) ≤ (s.A.length : Int) + (s.C.length : Int) + (s.B.length : Int) + (s.D.length : Int) := by omega
  have h3' : 2 * (c : Int) ≤ (s.A.length : Int) + (s.C.length : Int) + (s.B.length : Int) + (s.D.length : Int) := by omega
  have hw2c : IntKind.i64.wrap (2 * (c : Int)) = 2 * (c : Int) := IntWalk.i64_in _ (by omega)
  have hC0 : s.D ≠ [] := by intro e; have := h.i.ab; rw [e] at hal; simp at hal; omega
  obtain ⟨C', k, e1, e2⟩ := last_form hC0
  have hkC : k ∈ s.D := by rw [e1]; simp
  have hk : k ∈ all s := mem_all.2 (.inr (.inr (.inr hkC)))
  have e3 : forg3 s = rmA k s := by unfold forg3; rw [e2]
  have hfr : fresh c s = full c false (rmA k s) := by unfold fresh; rw [if_neg h1, if_pos h2, if_pos h3, e3]
  have hi1 : AInv c (rmA k s) := by
    obtain ⟨C2, k2, g1, g2⟩ := forg_eq3 h.i hC0
    rw [← e3, g2]
    have hp := snocD s.t s.A s.B s.C C2 k2
    rw [← g1] at hp
    exact (h.i.less hp h.i.ab h.i.ac h.i.tl).1
  have HFg := Lib.hid (fun (W : World) (hW : ArcAt W F ab b c T s) => forget_at hW 3 s.D C' k rfl e1 hk hi1)
  clear hC0 e1 e2 hkC hk e3 hi1 h1 h2 h3
  clear h hn hb hput
  go_enter Try.func12, Try.ntmps12
  go_wp2_with (first
    | (go_at_call 15; refine HT.out.mono ?_; rintro e w1 ⟨rfl, rfl⟩)
    | (go_at_call 26; refine HI.out.mono ?_; rintro e w1 ⟨rfl, rfl⟩))
  go_quiet ((first | (go_at_call 28; with_reducible exact (HR.out _).1) | (go_at_call 28; with_reducible exact (HR.out _).2.2.1)))
  obtain ⟨W1, hW1⟩ : ∃ W, W = w.drewN nq := ⟨_, rfl⟩
  rw [← hW1]
  have H1 : ArcAt W1 F ab b c T s := by rw [hW1]; exact H.out.keep0 ((Keep.refl _ w).drewN _)
  have K1 : Keep (fun _ => False) w W1 := by rw [hW1]; exact (Keep.refl _ w).drewN _
  clear hW1 HR c0 c2 H
  have HR := Lib.hid (fun n => ring_lens H1 n)
  have c2 : W1.cell? ⟨ab, 2, none⟩ = some (.pointer (some ⟨b, 0, none⟩)) := cell_at H1.h 2
  have c0 : W1.cell? ⟨ab, 0, none⟩ = some (.int .i64 (c : Int)) := cell_at H1.h 0
  have H := Lib.hid H1
  clear H1
  go_wp2_with fail
  go_quiet ((first | (go_at_call 28; with_reducible exact (HR.out _).2.1) | (go_at_call 28; with_reducible exact (HR.out _).2.2.2)))
  obtain ⟨W2, hW2⟩ : ∃ W, W = W1.drewN nq := ⟨_, rfl⟩
  rw [← hW2]
  have H1 : ArcAt W2 F ab b c T s := by rw [hW2]; exact H.out.keep0 ((Keep.refl _ W1).drewN _)
  have K2 : Keep (fun _ => False) w W2 := by rw [hW2]; exact (K1).drewN _
  clear hW2 HR c0 c2 H
  have HR := Lib.hid (fun n => ring_lens H1 n)
  have c2 : W2.cell? ⟨ab, 2, none⟩ = some (.pointer (some ⟨b, 0, none⟩)) := cell_at H1.h 2
  have c0 : W2.cell? ⟨ab, 0, none⟩ = some (.int .i64 (c : Int)) := cell_at H1.h 0
  have H := Lib.hid H1
  clear H1
  go_wp2_with fail
  go_quiet (fail)
  obtain ⟨W3, hW3⟩ : ∃ W, W = W2.drewN nq := ⟨_, rfl⟩
  rw [← hW3]
  have H1 : ArcAt W3 F ab b c T s := by rw [hW3]; exact H.out.keep0 ((Keep.refl _ W2).drewN _)
  have K3 : Keep (fun _ => False) w W3 := by rw [hW3]; exact (K2).drewN _
  clear hW3 HR c0 c2 H
  have HR := Lib.hid (fun n => ring_lens H1 n)
  have c2 : W3.cell? ⟨ab, 2, none⟩ = some (.pointer (some ⟨b, 0, none⟩)) := cell_at H1.h 2
  have c0 : W3.cell? ⟨ab, 0, none⟩ = some (.int .i64 (c : Int)) := cell_at H1.h 0
  have H := Lib.hid H1
  clear H1
  go_wp2_with (go_at_call 29; refine (HFg.out _ H.out).mono ?_; rintro e w2 ⟨rfl, F2, a2, f2, k2⟩; replace a2 := Lib.hid a2)
  replace a2 := a2.out
  replace f2 : ∀ i, F2 i → F i ∨ w.heap.size ≤ i := fun i e => (f2 i e).elim .inl (fun e2 => .inr (Nat.le_trans K3.size e2))
  have KK : Keep (fun i => F i ∨ i = ab) w w2 := K3.toAny.trans k2
  clear K1 K2 K3 k2
  obtain ⟨s2, hs2⟩ : ∃ S, S = rmA k s := ⟨_, rfl⟩
  rw [← hs2] at a2 hfr
  clear hs2
  have hfr' : fresh c s = full c false s2 := hfr
  have HFR := Lib.hid hfr'
  clear hfr hfr'
  have HG := HFI.out
  have hnm : x ∉ all (fresh c s).1 := fun e => HNX.out (HG.2.1 x e)
  have hfl := HG.2.2.2.2.1
  rw [HFR.out] at hfl
  clear HG
  have hb2 := KK.size
  have HA := Lib.hid (fun n => arc_len a2 n)
  have d0 : w2.cell? ⟨ab, 0, none⟩ = some (.int .i64 (c : Int)) := cell_at a2.h 0
  have d2 : w2.cell? ⟨ab, 2, none⟩ = some (.pointer (some ⟨b, 0, none⟩)) := cell_at a2.h 2
  have l2 := a2.lens
  have hw : IntKind.i64.wrap ((s2.A.length : Int) + (s2.B.length : Int)) = (s2.A.length : Int) + (s2.B.length : Int) := IntWalk.i64_in _ (by omega)
  have HM := Lib.hid a2
  have hFm := a2.hF
  clear a2
  go_wp2_with fail
  go_quiet ((go_at_call 13; with_reducible exact HA.out _))
  by_cases hf : c ≤ s2.A.length + s2.B.length
  · have hf' : (c : Int) ≤ (s2.A.length : Int) + (s2.B.length : Int) := by omega
    have hful : full c false s2 = repl false s2 := if_pos hf
    rw [hful] at hfl
    have p0 : 0 < s2.A.length + s2.B.length := by have := HM.out.i.c1; omega
    have HR2 := Lib.hid (fun n => repl_at (HM.out.keep0 ((Keep.refl _ w2).drewN n)) (by omega) false p0)
    go_wp2_with (first
      | (go_at_call 30; refine (HR2.out _).mono ?_; rintro e w3 ⟨v, k, rfl, hk, ho, ha, k3⟩
         obtain ⟨ao, n, hv⟩ : ∃ ao n, v = .slice ao n n := by obtain ⟨g, hg, -⟩ := ho; exact ⟨_, 1, hg⟩
         subst hv
         have d3 : w3.cell? ⟨ab, 2, none⟩ = some (.pointer (some ⟨b, 0, none⟩)) := cell_at ha.h 2
         have HF2 := Lib.hid (arc_front ha (by omega) 0 (by omega) x hx (.inr (by omega)))
         replace ha := Lib.hid ha)
      | (go_at_call 33; refine HF2.out.mono ?_; rintro e w4 ⟨rfl, r4, k4⟩))
    go_ret
    have hi := HPU.out
    rw [HFR.out, hful] at hi
    rw [HFR.out, hful]
    refine ⟨_, rfl, ?_, F2, (ArcAt.of ha.out r4 k4 rfl hi).1, f2, (KK.drewN _).trans' (k3.trans k4) (fun i hi e => ?_)⟩
    · show OutV w4 _ (repl false s2).2 w.heap.size
      rw [hk]
      exact One.mono (One.keep ho k4 hFm) hb2
    · rcases f2 i e with e2 | e2
      · exact .inl e2
      · omega
  · have hf' : ¬ (c : Int) ≤ (s2.A.length : Int) + (s2.B.length : Int) := by omega
    have hful : full c false s2 = (s2, none) := if_neg hf
    rw [hful] at hfl
    have hfl2 : (all s2).length + 1 ≤ 2 * c := hfl
    have HF2 := Lib.hid (fun n => arc_front (HM.out.keep0 ((Keep.refl _ w2).drewN n)) (by omega) 0 (by omega) x hx (.inr (by omega)))
    go_wp2_with (go_at_call 33; refine (HF2.out _).mono ?_; rintro e w4 ⟨rfl, r4, k4⟩)
    go_ret
    have hi := HPU.out
    rw [HFR.out, hful] at hi
    rw [HFR.out, hful]
    refine ⟨_, rfl, rfl, F2, (ArcAt.of HM.out (r4.mono (fun _ e => e) (by omega)) ((Keep.refl _ _).drewN _ |>.trans k4) rfl hi).1, f2, (KK.drewN _).trans' k4 (fun i hi e => ?_)⟩
    rcases f2 i e with e2 | e2
    · exact .inl e2
    · omega

set_option maxHeartbeats 4000000 in
theorem fr_more {w : World} {F : Nat → Prop} {ab b c T : Nat} {s : Ac} (h : ArcAt w F ab b c T s) (hT : T ≤ 100000) (x : ByteArray) (hx : x.size ≤ 64) (hn : x ∉ all s) (h1 : ¬ c ≤ s.A.length + s.C.length) (h2 : c ≤ (all s).length) (h3 : ¬ 2 * c ≤ (all s).length) :
    Calls Try.prog 12 #[.pointer (some ⟨ab, 0, none⟩), .string x] w fun e w' => ∃ v, e = .returned v ∧ OutV w' v (fresh c s).2 w.heap.size ∧ UpA w w' F ab b c (T + 2) (frA 0 x (fresh c s).1) := by
  have c2 : w.cell? ⟨ab, 2, none⟩ = some (.pointer (some ⟨b, 0, none⟩)) := cell_at h.h 2
  have c0 : w.cell? ⟨ab, 0, none⟩ = some (.int .i64 (c : Int)) := cell_at h.h 0
  have hb : (isIn x s.A || isIn x s.B) = false := by
    rw [← Bool.not_eq_true, Bool.or_eq_true, isIn_iff, isIn_iff]
    exact fun e => hn (mem_all.2 (e.elim .inl (fun e => .inr (.inl e))))
  have HT := Lib.hid (touch_no h x (by omega) hb)
  have HI := Lib.hid (in_no h.r x (by omega) (by rw [keys_flat]; exact hn))
  have HR := Lib.hid (fun n => ring_lens h n)
  have hln := h.lens
  have hal := all_len s
  have hbl := lt_of_block h.h
  have HFI := Lib.hid (fresh_inv h.i)
  have hput : AInv c (frA 0 x (fresh c s).1) := (put_inv HFI.out.1 hx (fun e => hn (HFI.out.2.1 x e)) HFI.out.2.2.1 HFI.out.2.2.2.1 HFI.out.2.2.2.2.1).1
  have HPU := Lib.hid hput
  have H := Lib.hid h
  have w1 : IntKind.i64.wrap ((s.A.length : Int) + (s.C.length : Int)) = (s.A.length : Int) + (s.C.length : Int) := IntWalk.i64_in _ (by omega)
  have w2 : IntKind.i64.wrap ((s.A.length : Int) + (s.C.length : Int) + (s.B.length : Int)) = (s.A.length : Int) + (s.C.length : Int) + (s.B.length : Int) := IntWalk.i64_in _ (by omega)
  have w3 : IntKind.i64.wrap ((s.A.length : Int) + (s.C.length : Int) + (s.B.length : Int) + (s.D.length : Int)) = (s.A.length : Int) + (s.C.length : Int) + (s.B.length : Int) + (s.D.length : Int) := IntWalk.i64_in _ (by omega)
  have HNX := Lib.hid hn
  have h1' : ¬ (c : Int) ≤ (s.A.length : Int) + (s.C.length : Int) := by omega
  have h1d : decide ((c : Int) ≤ (s.A.length : Int) + (s.C.length : Int)) = false := decide_eq_false h1'
  have h2' : (c : Int) ≤ (s.A.length : Int) + (s.C.length : Int) + (s.B.length : Int) + (s.D.length : Int) := by omega
  have h3' : ¬ 2 * (c : Int) ≤ (s.A.length : Int) + (s.C.length : Int) + (s.B.length : Int) + (s.D.length : Int) := by omega
  have hw2c : IntKind.i64.wrap (2 * (c : Int)) = 2 * (c : Int) := IntWalk.i64_in _ (by omega)
  have hfr : fresh c s = full c false s := by unfold fresh; rw [if_neg h1, if_pos h2, if_neg h3]
  clear h1 h2 h3
  clear h hn hb hput
  go_enter Try.func12, Try.ntmps12
  go_wp2_with (first
    | (go_at_call 15; refine HT.out.mono ?_; rintro e w1 ⟨rfl, rfl⟩)
    | (go_at_call 26; refine HI.out.mono ?_; rintro e w1 ⟨rfl, rfl⟩))
  go_quiet ((first | (go_at_call 28; with_reducible exact (HR.out _).1) | (go_at_call 28; with_reducible exact (HR.out _).2.2.1)))
  obtain ⟨W1, hW1⟩ : ∃ W, W = w.drewN nq := ⟨_, rfl⟩
  rw [← hW1]
  have H1 : ArcAt W1 F ab b c T s := by rw [hW1]; exact H.out.keep0 ((Keep.refl _ w).drewN _)
  have K1 : Keep (fun _ => False) w W1 := by rw [hW1]; exact (Keep.refl _ w).drewN _
  clear hW1 HR c0 c2 H
  have HR := Lib.hid (fun n => ring_lens H1 n)
  have c2 : W1.cell? ⟨ab, 2, none⟩ = some (.pointer (some ⟨b, 0, none⟩)) := cell_at H1.h 2
  have c0 : W1.cell? ⟨ab, 0, none⟩ = some (.int .i64 (c : Int)) := cell_at H1.h 0
  have H := Lib.hid H1
  clear H1
  go_wp2_with fail
  go_quiet ((first | (go_at_call 28; with_reducible exact (HR.out _).2.1) | (go_at_call 28; with_reducible exact (HR.out _).2.2.2)))
  obtain ⟨W2, hW2⟩ : ∃ W, W = W1.drewN nq := ⟨_, rfl⟩
  rw [← hW2]
  have H1 : ArcAt W2 F ab b c T s := by rw [hW2]; exact H.out.keep0 ((Keep.refl _ W1).drewN _)
  have K2 : Keep (fun _ => False) w W2 := by rw [hW2]; exact (K1).drewN _
  clear hW2 HR c0 c2 H
  have HR := Lib.hid (fun n => ring_lens H1 n)
  have c2 : W2.cell? ⟨ab, 2, none⟩ = some (.pointer (some ⟨b, 0, none⟩)) := cell_at H1.h 2
  have c0 : W2.cell? ⟨ab, 0, none⟩ = some (.int .i64 (c : Int)) := cell_at H1.h 0
  have H := Lib.hid H1
  clear H1
  go_wp2_with fail
  go_quiet (fail)
  obtain ⟨W3, hW3⟩ : ∃ W, W = W2.drewN nq := ⟨_, rfl⟩
  rw [← hW3]
  have H1 : ArcAt W3 F ab b c T s := by rw [hW3]; exact H.out.keep0 ((Keep.refl _ W2).drewN _)
  have K3 : Keep (fun _ => False) w W3 := by rw [hW3]; exact (K2).drewN _
  clear hW3 HR c0 c2 H
  have HR := Lib.hid (fun n => ring_lens H1 n)
  have c2 : W3.cell? ⟨ab, 2, none⟩ = some (.pointer (some ⟨b, 0, none⟩)) := cell_at H1.h 2
  have c0 : W3.cell? ⟨ab, 0, none⟩ = some (.int .i64 (c : Int)) := cell_at H1.h 0
  have H := Lib.hid H1
  clear H1
  go_wp2_with fail
  have f2 : ∀ i, F i → F i ∨ w.heap.size ≤ i := fun i e => .inl e
  have KK : Keep (fun i => F i ∨ i = ab) w W3 := K3.toAny
  have a2 := H.out
  clear K1 K2 K3 c0 c2
  have hfr' : fresh c s = full c false s := hfr
  have HFR := Lib.hid hfr'
  clear hfr hfr'
  have HG := HFI.out
  have hnm : x ∉ all (fresh c s).1 := fun e => HNX.out (HG.2.1 x e)
  have hfl := HG.2.2.2.2.1
  rw [HFR.out] at hfl
  clear HG
  have hb2 := KK.size
  have HA := Lib.hid (fun n => arc_len a2 n)
  have d0 : W3.cell? ⟨ab, 0, none⟩ = some (.int .i64 (c : Int)) := cell_at a2.h 0
  have d2 : W3.cell? ⟨ab, 2, none⟩ = some (.pointer (some ⟨b, 0, none⟩)) := cell_at a2.h 2
  have l2 := a2.lens
  have hw : IntKind.i64.wrap ((s.A.length : Int) + (s.B.length : Int)) = (s.A.length : Int) + (s.B.length : Int) := IntWalk.i64_in _ (by omega)
  have HM := Lib.hid a2
  have hFm := a2.hF
  clear a2
  go_quiet ((go_at_call 13; with_reducible exact HA.out _))
  by_cases hf : c ≤ s.A.length + s.B.length
  · have hf' : (c : Int) ≤ (s.A.length : Int) + (s.B.length : Int) := by omega
    have hful : full c false s = repl false s := if_pos hf
    rw [hful] at hfl
    have p0 : 0 < s.A.length + s.B.length := by have := HM.out.i.c1; omega
    have HR2 := Lib.hid (fun n => repl_at (HM.out.keep0 ((Keep.refl _ W3).drewN n)) (by omega) false p0)
    go_wp2_with (first
      | (go_at_call 30; refine (HR2.out _).mono ?_; rintro e w3 ⟨v, k, rfl, hk, ho, ha, k3⟩
         obtain ⟨ao, n, hv⟩ : ∃ ao n, v = .slice ao n n := by obtain ⟨g, hg, -⟩ := ho; exact ⟨_, 1, hg⟩
         subst hv
         have d3 : w3.cell? ⟨ab, 2, none⟩ = some (.pointer (some ⟨b, 0, none⟩)) := cell_at ha.h 2
         have HF2 := Lib.hid (arc_front ha (by omega) 0 (by omega) x hx (.inr (by omega)))
         replace ha := Lib.hid ha)
      | (go_at_call 33; refine HF2.out.mono ?_; rintro e w4 ⟨rfl, r4, k4⟩))
    go_ret
    have hi := HPU.out
    rw [HFR.out, hful] at hi
    rw [HFR.out, hful]
    refine ⟨_, rfl, ?_, F, (ArcAt.of ha.out r4 k4 rfl hi).1, f2, (KK.drewN _).trans' (k3.trans k4) (fun i hi e => ?_)⟩
    · show OutV w4 _ (repl false s).2 w.heap.size
      rw [hk]
      exact One.mono (One.keep ho k4 hFm) hb2
    · rcases f2 i e with e2 | e2
      · exact .inl e2
      · omega
  · have hf' : ¬ (c : Int) ≤ (s.A.length : Int) + (s.B.length : Int) := by omega
    have hful : full c false s = (s, none) := if_neg hf
    rw [hful] at hfl
    have hfl2 : (all s).length + 1 ≤ 2 * c := hfl
    have HF2 := Lib.hid (fun n => arc_front (HM.out.keep0 ((Keep.refl _ W3).drewN n)) (by omega) 0 (by omega) x hx (.inr (by omega)))
    go_wp2_with (go_at_call 33; refine (HF2.out _).mono ?_; rintro e w4 ⟨rfl, r4, k4⟩)
    go_ret
    have hi := HPU.out
    rw [HFR.out, hful] at hi
    rw [HFR.out, hful]
    refine ⟨_, rfl, rfl, F, (ArcAt.of HM.out (r4.mono (fun _ e => e) (by omega)) ((Keep.refl _ _).drewN _ |>.trans k4) rfl hi).1, f2, (KK.drewN _).trans' k4 (fun i hi e => ?_)⟩
    rcases f2 i e with e2 | e2
    · exact .inl e2
    · omega

set_option maxHeartbeats 4000000 in
theorem fr_room {w : World} {F : Nat → Prop} {ab b c T : Nat} {s : Ac} (h : ArcAt w F ab b c T s) (hT : T ≤ 100000) (x : ByteArray) (hx : x.size ≤ 64) (hn : x ∉ all s) (h1 : ¬ c ≤ s.A.length + s.C.length) (h2 : ¬ c ≤ (all s).length) :
    Calls Try.prog 12 #[.pointer (some ⟨ab, 0, none⟩), .string x] w fun e w' => ∃ v, e = .returned v ∧ OutV w' v (fresh c s).2 w.heap.size ∧ UpA w w' F ab b c (T + 2) (frA 0 x (fresh c s).1) := by
  have c2 : w.cell? ⟨ab, 2, none⟩ = some (.pointer (some ⟨b, 0, none⟩)) := cell_at h.h 2
  have c0 : w.cell? ⟨ab, 0, none⟩ = some (.int .i64 (c : Int)) := cell_at h.h 0
  have hb : (isIn x s.A || isIn x s.B) = false := by
    rw [← Bool.not_eq_true, Bool.or_eq_true, isIn_iff, isIn_iff]
    exact fun e => hn (mem_all.2 (e.elim .inl (fun e => .inr (.inl e))))
  have HT := Lib.hid (touch_no h x (by omega) hb)
  have HI := Lib.hid (in_no h.r x (by omega) (by rw [keys_flat]; exact hn))
  have HR := Lib.hid (fun n => ring_lens h n)
  have hln := h.lens
  have hal := all_len s
  have hbl := lt_of_block h.h
  have HFI := Lib.hid (fresh_inv h.i)
  have hput : AInv c (frA 0 x (fresh c s).1) := (put_inv HFI.out.1 hx (fun e => hn (HFI.out.2.1 x e)) HFI.out.2.2.1 HFI.out.2.2.2.1 HFI.out.2.2.2.2.1).1
  have HPU := Lib.hid hput
  have H := Lib.hid h
  have w1 : IntKind.i64.wrap ((s.A.length : Int) + (s.C.length : Int)) = (s.A.length : Int) + (s.C.length : Int) := IntWalk.i64_in _ (by omega)
  have w2 : IntKind.i64.wrap ((s.A.length : Int) + (s.C.length : Int) + (s.B.length : Int)) = (s.A.length : Int) + (s.C.length : Int) + (s.B.length : Int) := IntWalk.i64_in _ (by omega)
  have w3 : IntKind.i64.wrap ((s.A.length : Int) + (s.C.length : Int) + (s.B.length : Int) + (s.D.length : Int)) = (s.A.length : Int) + (s.C.length : Int) + (s.B.length : Int) + (s.D.length : Int) := IntWalk.i64_in _ (by omega)
  have HNX := Lib.hid hn
  have h1' : ¬ (c : Int) ≤ (s.A.length : Int) + (s.C.length : Int) := by omega
  have h1d : decide ((c : Int) ≤ (s.A.length : Int) + (s.C.length : Int)) = false := decide_eq_false h1'
  have h2' : ¬ (c : Int) ≤ (s.A.length : Int) + (s.C.length : Int) + (s.B.length : Int) + (s.D.length : Int) := by omega
  have hfr : fresh c s = (s, none) := by unfold fresh; rw [if_neg h1, if_neg h2]
  clear h hn hb hput
  go_enter Try.func12, Try.ntmps12
  go_wp2_with (first
    | (go_at_call 15; refine HT.out.mono ?_; rintro e w1 ⟨rfl, rfl⟩)
    | (go_at_call 26; refine HI.out.mono ?_; rintro e w1 ⟨rfl, rfl⟩))
  go_quiet ((first | (go_at_call 28; with_reducible exact (HR.out _).1) | (go_at_call 28; with_reducible exact (HR.out _).2.2.1)))
  obtain ⟨W1, hW1⟩ : ∃ W, W = w.drewN nq := ⟨_, rfl⟩
  rw [← hW1]
  have H1 : ArcAt W1 F ab b c T s := by rw [hW1]; exact H.out.keep0 ((Keep.refl _ w).drewN _)
  have K1 : Keep (fun _ => False) w W1 := by rw [hW1]; exact (Keep.refl _ w).drewN _
  clear hW1 HR c0 c2 H
  have HR := Lib.hid (fun n => ring_lens H1 n)
  have c2 : W1.cell? ⟨ab, 2, none⟩ = some (.pointer (some ⟨b, 0, none⟩)) := cell_at H1.h 2
  have c0 : W1.cell? ⟨ab, 0, none⟩ = some (.int .i64 (c : Int)) := cell_at H1.h 0
  have H := Lib.hid H1
  clear H1
  go_wp2_with fail
  go_quiet ((first | (go_at_call 28; with_reducible exact (HR.out _).2.1) | (go_at_call 28; with_reducible exact (HR.out _).2.2.2)))
  obtain ⟨W2, hW2⟩ : ∃ W, W = W1.drewN nq := ⟨_, rfl⟩
  rw [← hW2]
  have H1 : ArcAt W2 F ab b c T s := by rw [hW2]; exact H.out.keep0 ((Keep.refl _ W1).drewN _)
  have K2 : Keep (fun _ => False) w W2 := by rw [hW2]; exact (K1).drewN _
  clear hW2 HR c0 c2 H
  have HR := Lib.hid (fun n => ring_lens H1 n)
  have c2 : W2.cell? ⟨ab, 2, none⟩ = some (.pointer (some ⟨b, 0, none⟩)) := cell_at H1.h 2
  have c0 : W2.cell? ⟨ab, 0, none⟩ = some (.int .i64 (c : Int)) := cell_at H1.h 0
  have H := Lib.hid H1
  clear H1
  go_wp2_with fail
  go_quiet (fail)
  obtain ⟨W3, hW3⟩ : ∃ W, W = W2.drewN nq := ⟨_, rfl⟩
  rw [← hW3]
  have H1 : ArcAt W3 F ab b c T s := by rw [hW3]; exact H.out.keep0 ((Keep.refl _ W2).drewN _)
  have K3 : Keep (fun _ => False) w W3 := by rw [hW3]; exact (K2).drewN _
  clear hW3 HR c0 c2 H
  have HR := Lib.hid (fun n => ring_lens H1 n)
  have c2 : W3.cell? ⟨ab, 2, none⟩ = some (.pointer (some ⟨b, 0, none⟩)) := cell_at H1.h 2
  have c0 : W3.cell? ⟨ab, 0, none⟩ = some (.int .i64 (c : Int)) := cell_at H1.h 0
  have H := Lib.hid H1
  clear H1
  have HFR := Lib.hid hfr
  clear hfr
  have HF2 := Lib.hid (arc_front H.out (by omega) 0 (by omega) x hx (.inr (by omega)))
  clear h1 h2
  go_wp2_with (go_at_call 33; refine HF2.out.mono ?_; rintro e w4 ⟨rfl, r4, k4⟩)
  go_ret
  have hi := HPU.out
  rw [HFR.out] at hi
  rw [HFR.out]
  exact ⟨_, rfl, rfl, F, (ArcAt.of H.out (r4.mono (fun _ e => e) (by omega)) k4 rfl hi).1, fun i e => .inl e, K3.toAny.trans (k4.mono (fun i _ e => .inl e))⟩


end Go.Proofs.Ytebjbkpgicbgeaa.ArcJ
