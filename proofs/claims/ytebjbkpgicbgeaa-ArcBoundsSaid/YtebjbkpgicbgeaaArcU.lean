/-
  Layer 7 (arc): again.
-/
import Derived.Test.YtebjbkpgicbgeaaArcV
namespace Go.Proofs.Ytebjbkpgicbgeaa.ArcU
set_option linter.unusedVariables false
set_option linter.unusedSimpArgs false
set_option maxRecDepth 100000
open Go.RowKit Go.Proofs.Ytebjbkpgicbgeaa.Mem Go.Proofs.Ytebjbkpgicbgeaa.RinM Go.Proofs.Ytebjbkpgicbgeaa.RinP Go.Proofs.Ytebjbkpgicbgeaa.RinW Go.Proofs.Ytebjbkpgicbgeaa.RinL Go.Proofs.Ytebjbkpgicbgeaa.RinF Go.Proofs.Ytebjbkpgicbgeaa.RinG Go.Proofs.Ytebjbkpgicbgeaa.RinH Go.Proofs.Ytebjbkpgicbgeaa.RinD Go.Proofs.Ytebjbkpgicbgeaa.RinN Go.Proofs.Ytebjbkpgicbgeaa.ArcP Go.Proofs.Ytebjbkpgicbgeaa.ArcQ Go.Proofs.Ytebjbkpgicbgeaa.ArcW Go.Proofs.Ytebjbkpgicbgeaa.ArcV

theorem arc_len {w : World} {F : Nat → Prop} {ab b c T : Nat} {s : Ac} (h : ArcAt w F ab b c T s) (n : Nat) :
    Calls Try.prog 13 #[.pointer (some ⟨ab, 0, none⟩)] (w.drewN n) fun e w' => e = .returned (.int .i64 ((s.A.length : Int) + (s.B.length : Int))) ∧ ∃ m, w' = w.drewN m :=
  (len_at (h.keep0 ((Keep.refl _ w).drewN n))).mono fun e w' ⟨he, m, hm⟩ => ⟨he, n + m, by rw [hm, World.drewN_drewN]⟩

theorem One.mono {w : World} {v : Value} {k : ByteArray} {B B' : Nat} (h : One w v k B) (hb : B' ≤ B) : One w v k B' := by
  obtain ⟨g, h1, h2, h3⟩ := h
  exact ⟨g, h1, h2, Nat.le_trans hb h3⟩

/-- What goes, as a slice: nil, or one text in a block of its own. -/
def OutV (w : World) (v : Value) (o : Option ByteArray) (B : Nat) : Prop := match o with | some k => One w v k B | none => v = .slice none 0 0
theorem OutV.keep {w w' : World} {v : Value} {o : Option ByteArray} {B : Nat} {S : Nat → Prop} (h : OutV w v o B) (kk : Keep S w w') (hs : ∀ i, S i → i < B) : OutV w' v o B := by
  cases o with
  | none => exact h
  | some k => exact One.keep h kk hs
theorem OutV.form {w : World} {v : Value} {o : Option ByteArray} {B : Nat} (h : OutV w v o B) : ∃ ao n, v = .slice ao n n := by
  cases o with
  | none => exact ⟨none, 0, h⟩
  | some k => obtain ⟨g, hg, -⟩ := h; exact ⟨_, 1, hg⟩

theorem ArcAt.setT {w : World} {F : Nat → Prop} {ab b c T : Nat} {s : Ac} (h : ArcAt w F ab b c T s) (t : Nat) (ht : t ≤ c) : ArcAt (w.setCell ⟨ab, 1, none⟩ (.int .i64 (t : Int))) F ab b c T { s with t := t } := by
  have kk : Keep (fun i => i = ab) w (w.setCell ⟨ab, 1, none⟩ (.int .i64 (t : Int))) := (Keep.refl _ w).set1 _ _
  exact ⟨(block_set h.h 1 _).trans rfl, h.r.keep kk (fun i hi e => h.n (by rw [← e]; exact hi)), h.n, ⟨h.i.c1, h.i.c9, h.i.ab, h.i.ac, h.i.tot, ht, h.i.nd, h.i.sm⟩, fun i e => by have := h.hF i e; simpa [World.setCell] using this⟩

set_option maxHeartbeats 4000000 in
theorem again_part {w : World} {F : Nat → Prop} {ab b c T : Nat} {s : Ac} (h : ArcAt w F ab b c T s) (hT : T ≤ 100000) (x : ByteArray) (in3 : Bool) (hx : x ∈ s.C ∨ x ∈ s.D) (hin : if in3 then x ∈ s.D else x ∈ s.C) :
    Calls Try.prog 27 #[.pointer (some ⟨ab, 0, none⟩), .string x, .int .i64 (if in3 then 3 else 2)] w fun e w' => ∃ v, e = .returned v ∧ OutV w' v (again c x in3 s).2 w.heap.size ∧ ArcAt w' F ab b c (T + 2) (again c x in3 s).1 ∧ Keep (fun i => F i ∨ i = ab) w w' := by
  have c2 : w.cell? ⟨ab, 2, none⟩ = some (.pointer (some ⟨b, 0, none⟩)) := cell_at h.h 2
  have c2' : w.drew.cell? ⟨ab, 2, none⟩ = some (.pointer (some ⟨b, 0, none⟩)) := c2
  have HR := Lib.hid (fun n => ring_lens h n)
  have hbl := lt_of_block h.h
  have hln := h.lens
  have H := Lib.hid h
  have hC : in3 = false → 0 < s.C.length := fun e => by subst e; exact List.length_pos_of_mem (by simpa using hin)
  have hD : in3 = true → 0 < s.D.length := fun e => by subst e; exact List.length_pos_of_mem (by simpa using hin)
  have HX := Lib.hid hx
  have hHC : ∀ n, (w.drewN n).cell? ⟨ab, 0, none⟩ = some (.int .i64 (c : Int)) ∧ (w.drewN n).cell? ⟨ab, 1, none⟩ = some (.int .i64 (s.t : Int)) ∧ (w.drewN n).frozen? ⟨ab, 1, none⟩ = false := fun n => ⟨cell_at h.h 0, cell_at h.h 1, free_at h.h 1⟩
  have HHC := Lib.hid hHC
  clear h hin hx hHC
  cases in3 with
  | false =>
    go_enter Try.func27, Try.ntmps27
    go_wp2_with fail
    go_quiet ((first | (go_at_call 28; with_reducible exact (HR.out _).2.2.1) | (go_at_call 28; with_reducible exact (HR.out _).2.2.2)))
    have q1 := hC trivial
    have qd : Int.tdiv (s.D.length : Int) (s.C.length : Int) = ((s.D.length / s.C.length : Nat) : Int) := (Int.ofNat_tdiv _ _).symm
    have qd2 : s.D.length / s.C.length ≤ s.D.length := Nat.div_le_self _ _
    obtain ⟨z, hz⟩ : ∃ z, z = s.D.length / s.C.length := ⟨_, rfl⟩
    rw [← hz] at qd qd2
    obtain ⟨m0, m1, m2⟩ := HHC.out 0
    obtain ⟨e0, e1, e2⟩ := HHC.out (nq + 1)
    rw [World.drewN] at m0 m1 m2
    have l1 := hln
    have hm : (if ((s.t : Int) + if (1 : Int) < ((s.D.length : Int) / (s.C.length : Int)) then ((s.D.length : Int) / (s.C.length : Int)) else 1) < (c : Int) then (s.t : Int) + (if (1 : Int) < ((s.D.length : Int) / (s.C.length : Int)) then ((s.D.length : Int) / (s.C.length : Int)) else 1) else (c : Int)) = (((moved c false s).t : Nat) : Int) := by
      show _ = ((min c (s.t + max 1 (s.D.length / s.C.length)) : Nat) : Int)
      rw [← Int.natCast_ediv, ← hz]
      split <;> split <;> omega
    go_wp2_with fail
    go_region
    generalize (if (1 : Int) < (s.D.length : Int) / (s.C.length : Int) then (s.D.length : Int) / (s.C.length : Int) else 1) = z1

    clear hm hz qd qd2 m0 m1 m2 e0 e1 e2
    obtain ⟨w2, hw2⟩ : ∃ W, W = (w.drewN (nq + 1)).setCell ⟨ab, 1, none⟩ (.int .i64 (((moved c false s).t : Nat) : Int)) := ⟨_, rfl⟩
    rw [← hw2]
    have HM : ArcAt w2 F ab b c T (moved c false s) := by rw [hw2]; exact ArcAt.setT (H.out.keep0 ((Keep.refl _ w).drewN _)) _ (moved_inv H.out.i).tl
    have K2 : Keep (fun i => F i ∨ i = ab) w w2 := by rw [hw2]; exact (((Keep.refl (fun i => i = ab) w).drewN _).set1 _ _).mono (fun i _ e => .inr e)
    clear hw2
    have hb2 := K2.size
    obtain ⟨s2, hs2⟩ : ∃ S, S = moved c false s := ⟨_, rfl⟩
    have hx2 : x ∈ all s2 := by rw [hs2]; exact mem_all.2 (HX.out.elim (fun e => .inr (.inr (.inl e))) (fun e => .inr (.inr (.inr e))))
    have HG := Lib.hid (show again c x false s = (frA 1 x (full c false s2).1, (full c false s2).2) by rw [hs2]; rfl)
    rw [← hs2] at HM
    rw [← hs2]
    clear hs2
    have HA := Lib.hid (fun n => arc_len HM n)
    have d0 : w2.cell? ⟨ab, 0, none⟩ = some (.int .i64 (c : Int)) := cell_at HM.h 0
    have d2 : w2.cell? ⟨ab, 2, none⟩ = some (.pointer (some ⟨b, 0, none⟩)) := cell_at HM.h 2
    have l2 := HM.lens
    have hw : IntKind.i64.wrap ((s2.A.length : Int) + (s2.B.length : Int)) = (s2.A.length : Int) + (s2.B.length : Int) := IntWalk.i64_in _ (by omega)
    go_wp2_with fail
    go_quiet ((first | (go_at_call 13; with_reducible exact HA.out _)))
    by_cases hf : c ≤ s2.A.length + s2.B.length
    · have hf' : (c : Int) ≤ (s2.A.length : Int) + (s2.B.length : Int) := by omega
      have hful : full c false s2 = repl false s2 := if_pos hf
      have p0 : 0 < s2.A.length + s2.B.length := by have := HM.i.c1; omega
      have HR2 := Lib.hid (fun n => repl_at (HM.keep0 ((Keep.refl _ w2).drewN n)) (by omega) false p0)
      have hri := repl_inv (w := false) HM.i p0
      have hx3 : x ∈ all (repl false s2).1 := hri.2.1.mem_iff.2 hx2
      have hbm := lt_of_block HM.h
      have hnm := HM.n
      have hFm := HM.hF
      go_wp2_with (first
        | (go_at_call 30; refine (HR2.out _).mono ?_; rintro e w3 ⟨v, k, rfl, hk, ho, ha, k3⟩
           obtain ⟨ao, n, hv⟩ : ∃ ao n, v = .slice ao n n := by obtain ⟨g, hg, -⟩ := ho; exact ⟨_, 1, hg⟩
           subst hv
           have d3 : w3.cell? ⟨ab, 2, none⟩ = some (.pointer (some ⟨b, 0, none⟩)) := cell_at ha.h 2
           have HF2 := Lib.hid (arc_front ha (by omega) 1 (by omega) x (ha.i.sm x hx3) (.inl hx3)))
        | (go_at_call 33; refine HF2.out.mono ?_; rintro e w4 ⟨rfl, r4, k4⟩))
      go_ret
      have hi := (again_inv (in3 := false) H.out.i HX.out).1
      rw [HG.out, hful] at hi
      rw [HG.out, hful]
      refine ⟨_, rfl, ?_, (ArcAt.of ha r4 k4 rfl hi).1, (K2.drewN _).trans ((k3.mono (fun i _ e => .inl e)).trans (k4.mono (fun i _ e => .inl e)))⟩
      show OutV w4 _ (repl false s2).2 w.heap.size
      rw [hk]
      exact One.mono (One.keep ho k4 hFm) hb2
    · have hf' : ¬ (c : Int) ≤ (s2.A.length : Int) + (s2.B.length : Int) := by omega
      have hful : full c false s2 = (s2, none) := if_neg hf
      have HF2 := Lib.hid (fun n => arc_front (HM.keep0 ((Keep.refl _ w2).drewN n)) (by omega) 1 (by omega) x (HM.i.sm x hx2) (.inl hx2))
      go_wp2_with (first
        | (go_at_call 33; refine (HF2.out _).mono ?_; rintro e w4 ⟨rfl, r4, k4⟩))
      go_ret
      have hi := (again_inv (in3 := false) H.out.i HX.out).1
      rw [HG.out, hful] at hi
      rw [HG.out, hful]
      exact ⟨_, rfl, rfl, (ArcAt.of HM (r4.mono (fun _ e => e) (by omega)) ((Keep.refl _ _).drewN _ |>.trans k4) rfl hi).1, (K2.drewN _).trans (k4.mono (fun i _ e => .inl e))⟩
  | true =>
    go_enter Try.func27, Try.ntmps27
    go_wp2_with fail
    go_quiet ((first | (go_at_call 28; with_reducible exact (HR.out _).2.2.1) | (go_at_call 28; with_reducible exact (HR.out _).2.2.2)))
    have q1 := hD trivial
    have qd : Int.tdiv (s.C.length : Int) (s.D.length : Int) = ((s.C.length / s.D.length : Nat) : Int) := (Int.ofNat_tdiv _ _).symm
    have qd2 : s.C.length / s.D.length ≤ s.C.length := Nat.div_le_self _ _
    obtain ⟨z, hz⟩ : ∃ z, z = s.C.length / s.D.length := ⟨_, rfl⟩
    rw [← hz] at qd qd2
    obtain ⟨m0, m1, m2⟩ := HHC.out 0
    obtain ⟨e0, e1, e2⟩ := HHC.out (nq + 1)
    rw [World.drewN] at m0 m1 m2
    have l1 := hln
    have hm : (if (if (1 : Int) < ((s.C.length : Int) / (s.D.length : Int)) then ((s.C.length : Int) / (s.D.length : Int)) else 1) < (s.t : Int) then (s.t : Int) - (if (1 : Int) < ((s.C.length : Int) / (s.D.length : Int)) then ((s.C.length : Int) / (s.D.length : Int)) else 1) else (0 : Int)) = (((moved c true s).t : Nat) : Int) := by
      show _ = ((s.t - max 1 (s.C.length / s.D.length) : Nat) : Int)
      rw [← Int.natCast_ediv, ← hz]
      split <;> split <;> omega
    go_wp2_with fail
    go_region
    generalize (if (1 : Int) < (s.C.length : Int) / (s.D.length : Int) then (s.C.length : Int) / (s.D.length : Int) else 1) = z1

    clear hm hz qd qd2 m0 m1 m2 e0 e1 e2
    obtain ⟨w2, hw2⟩ : ∃ W, W = (w.drewN (nq + 1)).setCell ⟨ab, 1, none⟩ (.int .i64 (((moved c true s).t : Nat) : Int)) := ⟨_, rfl⟩
    rw [← hw2]
    have HM : ArcAt w2 F ab b c T (moved c true s) := by rw [hw2]; exact ArcAt.setT (H.out.keep0 ((Keep.refl _ w).drewN _)) _ (moved_inv H.out.i).tl
    have K2 : Keep (fun i => F i ∨ i = ab) w w2 := by rw [hw2]; exact (((Keep.refl (fun i => i = ab) w).drewN _).set1 _ _).mono (fun i _ e => .inr e)
    clear hw2
    have hb2 := K2.size
    obtain ⟨s2, hs2⟩ : ∃ S, S = moved c true s := ⟨_, rfl⟩
    have hx2 : x ∈ all s2 := by rw [hs2]; exact mem_all.2 (HX.out.elim (fun e => .inr (.inr (.inl e))) (fun e => .inr (.inr (.inr e))))
    have HG := Lib.hid (show again c x true s = (frA 1 x (full c true s2).1, (full c true s2).2) by rw [hs2]; rfl)
    rw [← hs2] at HM
    rw [← hs2]
    clear hs2
    have HA := Lib.hid (fun n => arc_len HM n)
    have d0 : w2.cell? ⟨ab, 0, none⟩ = some (.int .i64 (c : Int)) := cell_at HM.h 0
    have d2 : w2.cell? ⟨ab, 2, none⟩ = some (.pointer (some ⟨b, 0, none⟩)) := cell_at HM.h 2
    have l2 := HM.lens
    have hw : IntKind.i64.wrap ((s2.A.length : Int) + (s2.B.length : Int)) = (s2.A.length : Int) + (s2.B.length : Int) := IntWalk.i64_in _ (by omega)
    go_wp2_with fail
    go_quiet ((first | (go_at_call 13; with_reducible exact HA.out _)))
    by_cases hf : c ≤ s2.A.length + s2.B.length
    · have hf' : (c : Int) ≤ (s2.A.length : Int) + (s2.B.length : Int) := by omega
      have hful : full c true s2 = repl true s2 := if_pos hf
      have p0 : 0 < s2.A.length + s2.B.length := by have := HM.i.c1; omega
      have HR2 := Lib.hid (fun n => repl_at (HM.keep0 ((Keep.refl _ w2).drewN n)) (by omega) true p0)
      have hri := repl_inv (w := true) HM.i p0
      have hx3 : x ∈ all (repl true s2).1 := hri.2.1.mem_iff.2 hx2
      have hbm := lt_of_block HM.h
      have hnm := HM.n
      have hFm := HM.hF
      go_wp2_with (first
        | (go_at_call 30; refine (HR2.out _).mono ?_; rintro e w3 ⟨v, k, rfl, hk, ho, ha, k3⟩
           obtain ⟨ao, n, hv⟩ : ∃ ao n, v = .slice ao n n := by obtain ⟨g, hg, -⟩ := ho; exact ⟨_, 1, hg⟩
           subst hv
           have d3 : w3.cell? ⟨ab, 2, none⟩ = some (.pointer (some ⟨b, 0, none⟩)) := cell_at ha.h 2
           have HF2 := Lib.hid (arc_front ha (by omega) 1 (by omega) x (ha.i.sm x hx3) (.inl hx3)))
        | (go_at_call 33; refine HF2.out.mono ?_; rintro e w4 ⟨rfl, r4, k4⟩))
      go_ret
      have hi := (again_inv (in3 := true) H.out.i HX.out).1
      rw [HG.out, hful] at hi
      rw [HG.out, hful]
      refine ⟨_, rfl, ?_, (ArcAt.of ha r4 k4 rfl hi).1, (K2.drewN _).trans ((k3.mono (fun i _ e => .inl e)).trans (k4.mono (fun i _ e => .inl e)))⟩
      show OutV w4 _ (repl true s2).2 w.heap.size
      rw [hk]
      exact One.mono (One.keep ho k4 hFm) hb2
    · have hf' : ¬ (c : Int) ≤ (s2.A.length : Int) + (s2.B.length : Int) := by omega
      have hful : full c true s2 = (s2, none) := if_neg hf
      have HF2 := Lib.hid (fun n => arc_front (HM.keep0 ((Keep.refl _ w2).drewN n)) (by omega) 1 (by omega) x (HM.i.sm x hx2) (.inl hx2))
      go_wp2_with (first
        | (go_at_call 33; refine (HF2.out _).mono ?_; rintro e w4 ⟨rfl, r4, k4⟩))
      go_ret
      have hi := (again_inv (in3 := true) H.out.i HX.out).1
      rw [HG.out, hful] at hi
      rw [HG.out, hful]
      exact ⟨_, rfl, rfl, (ArcAt.of HM (r4.mono (fun _ e => e) (by omega)) ((Keep.refl _ _).drewN _ |>.trans k4) rfl hi).1, (K2.drewN _).trans (k4.mono (fun i _ e => .inl e))⟩

end Go.Proofs.Ytebjbkpgicbgeaa.ArcU
