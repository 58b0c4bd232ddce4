/-
  Layer 7 (arc): Insert, New.
-/
import Derived.Test.YtebjbkpgicbgeaaArcJ
namespace Go.Proofs.Ytebjbkpgicbgeaa.ArcK
set_option linter.unusedVariables false
set_option linter.unusedSimpArgs false
set_option maxRecDepth 100000
open Go.RowKit Go.Proofs.Ytebjbkpgicbgeaa.Mem Go.Proofs.Ytebjbkpgicbgeaa.RinM Go.Proofs.Ytebjbkpgicbgeaa.RinP Go.Proofs.Ytebjbkpgicbgeaa.RinW Go.Proofs.Ytebjbkpgicbgeaa.RinL Go.Proofs.Ytebjbkpgicbgeaa.RinF Go.Proofs.Ytebjbkpgicbgeaa.RinG Go.Proofs.Ytebjbkpgicbgeaa.RinH Go.Proofs.Ytebjbkpgicbgeaa.RinD Go.Proofs.Ytebjbkpgicbgeaa.RinN Go.Proofs.Ytebjbkpgicbgeaa.ArcP Go.Proofs.Ytebjbkpgicbgeaa.ArcQ Go.Proofs.Ytebjbkpgicbgeaa.ArcW Go.Proofs.Ytebjbkpgicbgeaa.ArcV Go.Proofs.Ytebjbkpgicbgeaa.ArcU Go.Proofs.Ytebjbkpgicbgeaa.ArcI Go.Proofs.Ytebjbkpgicbgeaa.ArcJ
set_option maxHeartbeats 4000000 in
theorem fr_last {w : World} {F : Nat → Prop} {ab b c T : Nat} {s : Ac} (h : ArcAt w F ab b c T s) (hT : T ≤ 100000) (x : ByteArray) (hx : x.size ≤ 64) (hn : x ∉ all s) (h1 : c ≤ s.A.length + s.C.length) (h2 : ¬ s.A.length < c) :
    Calls Try.prog 12 #[.pointer (some ⟨ab, 0, none⟩), .string x] w fun e w' => ∃ v, e = .returned v ∧ OutV w' v (fresh c s).2 w.heap.size ∧ UpA w w' F ab b c (T + 2) (frA 0 x (fresh c s).1) := by
  have c2 : w.cell? ⟨ab, 2, none⟩ = some (.pointer (some ⟨b, 0, none⟩)) := cell_at h.h 2
  have c0 : w.cell? ⟨ab, 0, none⟩ = some (.int .i64 (c : Int)) := cell_at h.h 0
  have hb : (isIn x s.A || isIn x s.B) = false := by
    rw [← Bool.not_eq_true, Bool.or_eq_true, isIn_iff, isIn_iff]
    exact fun e => hn (mem_all.2 (e.elim .inl (fun e => .inr (.inl e))))
  have HT := Lib.hid (touch_no h x (by omega) hb)
  have HI := Lib.hid (in_no h.r x (by omega) (by rw [keys_flat]; exact hn))
  have HR := Lib.hid (fun n => ring_lens h n)
  have hln := h.lens
  have hal := all_len s
  have hbl := lt_of_block h.h
  have HFI := Lib.hid (fresh_inv h.i)
  have hput : AInv c (frA 0 x (fresh c s).1) := (put_inv HFI.out.1 hx (fun e => hn (HFI.out.2.1 x e)) HFI.out.2.2.1 HFI.out.2.2.2.1 HFI.out.2.2.2.2.1).1
  have HPU := Lib.hid hput
  have H := Lib.hid h
  have w1 : IntKind.i64.wrap ((s.A.length : Int) + (s.C.length : Int)) = (s.A.length : Int) + (s.C.length : Int) := IntWalk.i64_in _ (by omega)
  have w2 : IntKind.i64.wrap ((s.A.length : Int) + (s.C.length : Int) + (s.B.length : Int)) = (s.A.length : Int) + (s.C.length : Int) + (s.B.length : Int) := IntWalk.i64_in _ (by omega)
  have w3 : IntKind.i64.wrap ((s.A.length : Int) + (s.C.length : Int) + (s.B.length : Int) + (s.D.length : Int)) = (s.A.length : Int) + (s.C.length : Int) + (s.B.length : Int) + (s.D.length : Int) := IntWalk.i64_in _ (by omega)
  have h1' : (c : Int) ≤ (s.A.length : Int) + (s.C.length : Int) := by omega
  have h2' : ¬ (s.A.length : Int) < (c : Int) := by omega
  have hA0 : s.A ≠ [] := by intro e; have := h.i.c1; rw [e] at h2; simp at h2; omega
  obtain ⟨A', k, e1, e2, e3⟩ := last_eqA h.i hA0
  have hkA : k ∈ s.A := by rw [e1]; simp
  have hk : k ∈ all s := mem_all.2 (.inl hkA)
  have hfr : fresh c s = (rmA k s, some k) := by unfold fresh; rw [if_pos h1, if_neg h2, e2]
  have hi1 : AInv c (rmA k s) := by have := HFI.out.1; rw [hfr] at this; exact this
  have hks := h.i.sm k hk
  have BK := Lib.hid (fun (W : World) (hW : ArcAt W F ab b c T s) => back_yes hW.r 0 A' k (by rw [← e1]; rfl))
  have HD := Lib.hid (fun (W : World) (hW : ArcAt W F ab b c T s) => drop_yes hW.r k (by omega) (by rw [keys_flat]; exact hk))
  have HI1 := Lib.hid hi1
  have HFR := Lib.hid hfr
  clear hA0 e1 e2 e3 hkA hk hfr hi1 h1 h2
  clear h hn hb hput
  go_enter Try.func12, Try.ntmps12
  go_wp2_with (first
    | (go_at_call 15; refine HT.out.mono ?_; rintro e w1 ⟨rfl, rfl⟩)
    | (go_at_call 26; refine HI.out.mono ?_; rintro e w1 ⟨rfl, rfl⟩))
  go_quiet ((first | (go_at_call 28; with_reducible exact (HR.out _).1) | (go_at_call 28; with_reducible exact (HR.out _).2.2.1)))
  obtain ⟨W1, hW1⟩ : ∃ W, W = w.drewN nq := ⟨_, rfl⟩
  rw [← hW1]
  have H1 : ArcAt W1 F ab b c T s := by rw [hW1]; exact H.out.keep0 ((Keep.refl _ w).drewN _)
  have K1 : Keep (fun _ => False) w W1 := by rw [hW1]; exact (Keep.refl _ w).drewN _
  clear hW1 HR c0 c2 H
  have HR := Lib.hid (fun n => ring_lens H1 n)
  have c2 : W1.cell? ⟨ab, 2, none⟩ = some (.pointer (some ⟨b, 0, none⟩)) := cell_at H1.h 2
  have c0 : W1.cell? ⟨ab, 0, none⟩ = some (.int .i64 (c : Int)) := cell_at H1.h 0
  have H := Lib.hid H1
  clear H1
  go_wp2_with fail
  go_quiet ((first | (go_at_call 28; with_reducible exact (HR.out _).2.1) | (go_at_call 28; with_reducible exact (HR.out _).2.2.2)))
  obtain ⟨W2, hW2⟩ : ∃ W, W = W1.drewN nq := ⟨_, rfl⟩
  rw [← hW2]
  have H1 : ArcAt W2 F ab b c T s := by rw [hW2]; exact H.out.keep0 ((Keep.refl _ W1).drewN _)
  have K2 : Keep (fun _ => False) w W2 := by rw [hW2]; exact (K1).drewN _
  clear hW2 HR c0 c2 H
  have HR := Lib.hid (fun n => ring_lens H1 n)
  have c2 : W2.cell? ⟨ab, 2, none⟩ = some (.pointer (some ⟨b, 0, none⟩)) := cell_at H1.h 2
  have c0 : W2.cell? ⟨ab, 0, none⟩ = some (.int .i64 (c : Int)) := cell_at H1.h 0
  have H := Lib.hid H1
  clear H1
  go_wp2_with fail
  go_quiet ((go_at_call 28; with_reducible exact (HR.out _).1))
  obtain ⟨W3, hW3⟩ : ∃ W, W = W2.drewN nq := ⟨_, rfl⟩
  rw [← hW3]
  have H1 : ArcAt W3 F ab b c T s := by rw [hW3]; exact H.out.keep0 ((Keep.refl _ W2).drewN _)
  have K3 : Keep (fun _ => False) w W3 := by rw [hW3]; exact (K2).drewN _
  clear hW3 HR c0 c2 H
  have HR := Lib.hid (fun n => ring_lens H1 n)
  have c2 : W3.cell? ⟨ab, 2, none⟩ = some (.pointer (some ⟨b, 0, none⟩)) := cell_at H1.h 2
  have c0 : W3.cell? ⟨ab, 0, none⟩ = some (.int .i64 (c : Int)) := cell_at H1.h 0
  have H := Lib.hid H1
  clear H1
  go_wp2_with (first
    | (go_at_call 31; refine (BK.out _ H.out).mono ?_; rintro e w4 ⟨rfl, k4⟩
       have H4 := H.out.keep0 k4
       have d4 : w4.cell? ⟨ab, 2, none⟩ = some (.pointer (some ⟨b, 0, none⟩)) := cell_at H4.h 2
       replace H4 := Lib.hid H4)
    | (go_at_call 32; refine (HD.out _ H4.out).mono ?_; rintro e w5 ⟨rfl, u5⟩
       obtain ⟨F5, a5, f5, k5⟩ : UpA w4 w5 F ab b c T (rmA k s) := UpA.drop H4.out (Keep.refl _ _) u5 rfl HI1.out
       clear u5
       have a6 : ArcAt (w5.alloc (.cells #[.string k] 9)) F5 ab b c T (rmA k s) := a5.keep0 ((Keep.refl _ _).alloc _)
       have d5 : (w5.alloc (.cells #[.string k] 9)).cell? ⟨ab, 2, none⟩ = some (.pointer (some ⟨b, 0, none⟩)) := cell_at a6.h 2
       have HF5 := Lib.hid (arc_front a6 (by omega) 0 (by omega) x hx (.inr (by have := HI1.out.tot; omega)))
       replace a5 := Lib.hid a5
       replace a6 := Lib.hid a6)
    | (go_at_call 33; refine HF5.out.mono ?_; rintro e w6 ⟨rfl, r6, k6⟩))
  go_ret
  have hi := HPU.out
  rw [HFR.out] at hi
  rw [HFR.out]
  have z1 := K3.size
  have z2 := k4.size
  have z3 := k5.size
  refine ⟨_, rfl, ?_, F5, (ArcAt.of a6.out (r6.mono (fun _ e => e) (by omega)) k6 rfl hi).1, fun i e => ?_, ?_⟩
  · show One w6 _ k w.heap.size
    exact One.mono (One.keep (B := w5.heap.size) ⟨_, rfl, block_new _ _, Nat.le_refl _⟩ k6 a5.out.hF) (by omega)
  · rcases f5 i e with e2 | e2
    · exact .inl e2
    · right; omega
  · refine ((K3.toAny.trans k4.toAny).trans (k5.alloc _)).trans' k6 (fun i hi e => ?_)
    rcases f5 i e with e2 | e2
    · exact .inl e2
    · omega


theorem UpA.more {w w' : World} {F : Nat → Prop} {ab b c T T' : Nat} {s : Ac} (h : UpA w w' F ab b c T s) (hT : T ≤ T') : UpA w w' F ab b c T' s := h.mono hT
/-- Insert, of any text. -/
theorem insert_at {w : World} {F : Nat → Prop} {ab b c T : Nat} {s : Ac} (h : ArcAt w F ab b c T s) (hT : T ≤ 100000) (x : ByteArray) (hx : x.size ≤ 9223372036854775807) :
    Calls Try.prog 12 #[.pointer (some ⟨ab, 0, none⟩), .string x] w fun e w' => ∃ v, e = .returned v ∧ OutV w' v (ins c x s).2 w.heap.size ∧ UpA w w' F ab b c (T + 2) (ins c x s).1 := by
  unfold ins
  by_cases c0 : 64 < x.size
  · rw [if_pos c0]
    refine (ins_long (ab := ab) x c0 hx).mono ?_
    rintro e w' ⟨rfl, rfl⟩
    exact ⟨_, rfl, rfl, (UpA.same h (Keep.refl _ _)).mono (by omega)⟩
  · rw [if_neg c0]
    by_cases c1 : isIn x s.A = true ∨ isIn x s.B = true
    · rw [if_pos c1]
      refine (ins_touch h hT x (by omega) (by rw [Bool.or_eq_true]; exact c1)).mono ?_
      rintro e w' ⟨rfl, hu⟩
      exact ⟨_, rfl, rfl, hu.mono (by omega)⟩
    · rw [if_neg c1]
      have c1' : (isIn x s.A || isIn x s.B) = false := by rw [← Bool.not_eq_true, Bool.or_eq_true]; exact c1
      by_cases c2 : isIn x s.C = true
      · rw [if_pos c2]
        exact ins_two h hT x (by omega) c1' ((isIn_iff _ _).1 c2)
      · rw [if_neg c2]
        by_cases c3 : isIn x s.D = true
        · rw [if_pos c3]
          exact ins_three h hT x (by omega) c1' ((isIn_iff _ _).1 c3)
        · rw [if_neg c3]
          have hn : x ∉ all s := by
            intro e
            rw [isIn_iff] at c1 c2 c3
            rw [isIn_iff] at c1
            rcases mem_all.1 e with e | e | e | e
            · exact c1 (.inl e)
            · exact c1 (.inr e)
            · exact c2 e
            · exact c3 e
          by_cases h1 : c ≤ s.A.length + s.C.length
          · by_cases h2 : s.A.length < c
            · exact fr_two h hT x (by omega) hn h1 h2
            · exact fr_last h hT x (by omega) hn h1 h2
          · by_cases h2 : c ≤ (all s).length
            · by_cases h3 : 2 * c ≤ (all s).length
              · exact fr_three h hT x (by omega) hn h1 h2 h3
              · exact fr_more h hT x (by omega) hn h1 h2 h3
            · exact fr_room h hT x (by omega) hn h1 h2

theorem new_bad (n : Int) (hn : n < 1 ∨ 1000 < n) (w : World) : Calls Try.prog 9 #[.int .i64 n] w fun e w' => e = .returned (.tuple #[.pointer none, .int .i64 1]) ∧ w = w' := by
  by_cases h1 : n < 1
  · go_enter Try.func9, Try.ntmps9
    go_wp2_with fail
    go_ret2
    exact ⟨rfl, rfl⟩
  · have h2 : 1000 < n := by omega
    go_enter Try.func9, Try.ntmps9
    go_wp2_with fail
    go_ret2
    exact ⟨rfl, rfl⟩
theorem new_at (c : Nat) (h1 : 1 ≤ c) (h2 : c ≤ 1000) (w : World) :
    Calls Try.prog 9 #[.int .i64 (c : Int)] w fun e w' => ∃ ab b F, e = .returned (.tuple #[.pointer (some ⟨ab, 0, none⟩), .int .i64 0]) ∧ ArcAt w' F ab b c 0 ⟨0, [], [], [], []⟩ ∧ (∀ i, F i → w.heap.size ≤ i) ∧ w.heap.size ≤ ab ∧ Keep (fun _ => False) w w' := by
  have HN := Lib.hid (new_ok 4 (2 * c + 1) (by omega) (by omega) (by omega) w)
  have hn1 : ¬ (c : Int) < 1 := by omega
  have hn2 : ¬ (1000 : Int) < (c : Int) := by omega
  have e1 : IntKind.i64.wrap (2 * (c : Int)) = 2 * (c : Int) := IntWalk.i64_in _ (by omega)
  have e2 : IntKind.i64.wrap (2 * (c : Int) + 1) = 2 * (c : Int) + 1 := IntWalk.i64_in _ (by omega)
  go_enter Try.func9, Try.ntmps9
  go_wp2_with (go_at_call 25; refine HN.out.mono ?_; rintro e w1 ⟨b, F, rfl, r1, f1, f2, k1⟩; replace r1 := Lib.hid r1)
  go_ret2
  have hs := k1.size
  refine ⟨_, b, F, rfl, ⟨block_new _ _, r1.out.keep0 ((Keep.refl _ _).alloc _), fun e => ?_, ⟨h1, h2, by show 0 + 0 ≤ c; omega, by show 0 + 0 ≤ c; omega, by show 0 ≤ 2 * c; omega, by show 0 ≤ c; omega, List.nodup_nil, fun x hx => by cases hx⟩, fun i e => ?_⟩, f2, hs, k1.alloc _⟩
  · have := f1 _ e; omega
  · have := f1 i e
    show i < (w1.alloc _).heap.size
    rw [show (w1.alloc _).heap.size = w1.heap.size + 1 from Array.size_push ..]
    omega

end Go.Proofs.Ytebjbkpgicbgeaa.ArcK
