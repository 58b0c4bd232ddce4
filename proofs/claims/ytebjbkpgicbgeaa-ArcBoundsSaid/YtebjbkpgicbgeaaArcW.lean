/-
  Layer 7 (arc): a policy in memory; Has, Len, Touch, Target.
-/
import Derived.Test.YtebjbkpgicbgeaaArcQ
import Derived.Test.YtebjbkpgicbgeaaRinN
namespace Go.Proofs.Ytebjbkpgicbgeaa.ArcW
set_option linter.unusedVariables false
set_option linter.unusedSimpArgs false
set_option maxRecDepth 100000
open Go.RowKit Go.Proofs.Ytebjbkpgicbgeaa.Mem Go.Proofs.Ytebjbkpgicbgeaa.RinM Go.Proofs.Ytebjbkpgicbgeaa.RinP Go.Proofs.Ytebjbkpgicbgeaa.RinW Go.Proofs.Ytebjbkpgicbgeaa.RinL Go.Proofs.Ytebjbkpgicbgeaa.RinF Go.Proofs.Ytebjbkpgicbgeaa.RinG Go.Proofs.Ytebjbkpgicbgeaa.RinH Go.Proofs.Ytebjbkpgicbgeaa.RinD Go.Proofs.Ytebjbkpgicbgeaa.RinN Go.Proofs.Ytebjbkpgicbgeaa.ArcP Go.Proofs.Ytebjbkpgicbgeaa.ArcQ

theorem quiet_left {P : Program} {f : FuncId} {args : Array Value} {w : World} {n : Nat} {v : Value}
    (h : Calls P f args (w.drewN n) fun e w' => e = .returned v ∧ w.drewN n = w') : Calls P f args (w.drewN n) fun e w'' => e = .returned v ∧ ∃ m, w'' = w.drewN m :=
  h.mono fun _ _ ⟨he, hm⟩ => ⟨he, n, hm.symm⟩

abbrev TA : TypeId := 58
/-- A policy: how many it keeps, its target and lists. -/
structure ArcAt (w : World) (F : Nat → Prop) (ab b c T : Nat) (s : Ac) : Prop where
  h : w.heap[ab]? = some (.cells #[.int .i64 (c : Int), .int .i64 (s.t : Int), .pointer (some ⟨b, 0, none⟩)] TA (0, 0))
  r : Ring w F b 4 (2 * c + 1) T (keys s)
  n : ¬ F ab
  i : AInv c s
  hF : ∀ i, F i → i < w.heap.size
section
variable {w w' : World} {F : Nat → Prop} {ab b c T : Nat} {s : Ac}
theorem ArcAt.keep0 (h : ArcAt w F ab b c T s) (k : Keep (fun _ => False) w w') : ArcAt w' F ab b c T s := ⟨(k.block ab (lt_of_block h.h) (fun e => e)).trans h.h, h.r.keep0 k, h.n, h.i, fun i e => Nat.lt_of_lt_of_le (h.hF i e) k.size⟩
theorem ArcAt.keep {S : Nat → Prop} (h : ArcAt w F ab b c T s) (k : Keep S w w') (hd : ∀ i, F i → ¬ S i) (ha : ¬ S ab) : ArcAt w' F ab b c T s := ⟨(k.block ab (lt_of_block h.h) ha).trans h.h, h.r.keep k hd, h.n, h.i, fun i e => Nat.lt_of_lt_of_le (h.hF i e) k.size⟩
theorem ArcAt.lens (h : ArcAt w F ab b c T s) : s.A.length + s.B.length ≤ 1000 ∧ s.C.length ≤ 1000 ∧ s.D.length ≤ 2000 ∧ (all s).length ≤ 2000 ∧ s.t ≤ 1000 ∧ c ≤ 1000 := by
  have h1 := h.i.ab
  have h2 := h.i.ac
  have h3 := h.i.tot
  have h4 := h.i.tl
  have h5 := h.i.c9
  have h6 := all_len s
  omega
end

/-- Len of a list of the ring, at whatever world behind draws. -/
theorem ring_len {w : World} {F : Nat → Prop} {ab b c T : Nat} {s : Ac} (h : ArcAt w F ab b c T s) (n i : Nat) (l : List ByteArray) (hl : (keys s)[i]? = some l) :
    Calls Try.prog 28 #[.pointer (some ⟨b, 0, none⟩), .int .i64 (i : Int)] (w.drewN n) fun e w' => e = .returned (.int .i64 (l.length : Int)) ∧ w.drewN n = w' :=
  len_yes (h.r.keep0 ((Keep.refl _ w).drewN n)) i l hl

theorem ring_lens {w : World} {F : Nat → Prop} {ab b c T : Nat} {s : Ac} (h : ArcAt w F ab b c T s) (n : Nat) :
    (Calls Try.prog 28 #[.pointer (some ⟨b, 0, none⟩), .int .i64 0] (w.drewN n) fun e w' => e = .returned (.int .i64 (s.A.length : Int)) ∧ ∃ m, w' = w.drewN m) ∧
    (Calls Try.prog 28 #[.pointer (some ⟨b, 0, none⟩), .int .i64 1] (w.drewN n) fun e w' => e = .returned (.int .i64 (s.B.length : Int)) ∧ ∃ m, w' = w.drewN m) ∧
    (Calls Try.prog 28 #[.pointer (some ⟨b, 0, none⟩), .int .i64 2] (w.drewN n) fun e w' => e = .returned (.int .i64 (s.C.length : Int)) ∧ ∃ m, w' = w.drewN m) ∧
    (Calls Try.prog 28 #[.pointer (some ⟨b, 0, none⟩), .int .i64 3] (w.drewN n) fun e w' => e = .returned (.int .i64 (s.D.length : Int)) ∧ ∃ m, w' = w.drewN m) :=
  ⟨quiet_left (ring_len h n 0 s.A rfl), quiet_left (ring_len h n 1 s.B rfl), quiet_left (ring_len h n 2 s.C rfl), quiet_left (ring_len h n 3 s.D rfl)⟩
theorem has_at {w : World} {F : Nat → Prop} {ab b c T : Nat} {s : Ac} (h : ArcAt w F ab b c T s) (x : ByteArray) (hx : x.size ≤ 9223372036854775807) :
    Calls Try.prog 14 #[.pointer (some ⟨ab, 0, none⟩), .string x] w fun e w' => e = .returned (.bool (isIn x s.A || isIn x s.B)) ∧ w = w' := by
  have c2 : w.cell? ⟨ab, 2, none⟩ = some (.pointer (some ⟨b, 0, none⟩)) := cell_at h.h 2
  obtain ⟨nA, nB, nC, nD, pA, pB, pC, pD⟩ := parts h.i.nd
  by_cases hA : x ∈ s.A
  · rw [(isIn_iff x s.A).2 hA, Bool.true_or]
    have HI := Lib.hid (in_yes h.r x hx 0 s.A rfl hA)
    clear h nA nB nC nD pA pB pC pD hA
    go_enter Try.func14, Try.ntmps14
    go_wp2_with (go_at_call 26; refine HI.out.mono ?_; rintro e w1 ⟨rfl, rfl⟩)
    go_ret
    exact ⟨rfl, rfl⟩
  · have eA : isIn x s.A = false := by rw [← Bool.not_eq_true, isIn_iff]; exact hA
    rw [eA, Bool.false_or]
    by_cases hB : x ∈ s.B
    · rw [(isIn_iff x s.B).2 hB]
      have HI := Lib.hid (in_yes h.r x hx 1 s.B rfl hB)
      clear h nA nB nC nD pA pB pC pD hA hB eA
      go_enter Try.func14, Try.ntmps14
      go_wp2_with (go_at_call 26; refine HI.out.mono ?_; rintro e w1 ⟨rfl, rfl⟩)
      go_ret
      exact ⟨rfl, rfl⟩
    · have eB : isIn x s.B = false := by rw [← Bool.not_eq_true, isIn_iff]; exact hB
      rw [eB]
      by_cases hC : x ∈ s.C
      · have HI := Lib.hid (in_yes h.r x hx 2 s.C rfl hC)
        clear h nA nB nC nD pA pB pC pD hA hB eA eB hC
        go_enter Try.func14, Try.ntmps14
        go_wp2_with (go_at_call 26; refine HI.out.mono ?_; rintro e w1 ⟨rfl, rfl⟩)
        go_ret
        exact ⟨rfl, rfl⟩
      · by_cases hD : x ∈ s.D
        · have HI := Lib.hid (in_yes h.r x hx 3 s.D rfl hD)
          clear h nA nB nC nD pA pB pC pD hA hB eA eB hC hD
          go_enter Try.func14, Try.ntmps14
          go_wp2_with (go_at_call 26; refine HI.out.mono ?_; rintro e w1 ⟨rfl, rfl⟩)
          go_ret
          exact ⟨rfl, rfl⟩
        · have HI := Lib.hid (in_no h.r x hx (by rw [keys_flat]; intro e; rcases mem_all.1 e with e | e | e | e; exact hA e; exact hB e; exact hC e; exact hD e))
          clear h nA nB nC nD pA pB pC pD hA hB eA eB hC hD
          go_enter Try.func14, Try.ntmps14
          go_wp2_with (go_at_call 26; refine HI.out.mono ?_; rintro e w1 ⟨rfl, rfl⟩)
          go_ret
          exact ⟨rfl, rfl⟩
theorem has_nil (x : ByteArray) (w : World) : Calls Try.prog 14 #[.pointer none, .string x] w fun e w' => e = .returned (.bool false) ∧ w = w' := by
  go_enter Try.func14, Try.ntmps14
  go_wp2_with fail
  go_ret
  exact ⟨rfl, rfl⟩

theorem len_at {w : World} {F : Nat → Prop} {ab b c T : Nat} {s : Ac} (h : ArcAt w F ab b c T s) :
    Calls Try.prog 13 #[.pointer (some ⟨ab, 0, none⟩)] w fun e w' => e = .returned (.int .i64 ((s.A.length : Int) + (s.B.length : Int))) ∧ ∃ m, w' = w.drewN m := by
  have c2 : w.cell? ⟨ab, 2, none⟩ = some (.pointer (some ⟨b, 0, none⟩)) := cell_at h.h 2
  have c2' : w.drew.cell? ⟨ab, 2, none⟩ = some (.pointer (some ⟨b, 0, none⟩)) := c2
  have HR := Lib.hid (fun n => ring_lens h n)
  have hl := h.lens
  generalize s.A.length = p at *
  generalize s.B.length = q at *
  obtain ⟨l1, -⟩ := hl
  have hw : IntKind.i64.wrap ((p : Int) + (q : Int)) = (p : Int) + (q : Int) := IntWalk.i64_in _ (by omega)
  clear h
  go_enter Try.func13, Try.ntmps13
  go_wp2_with fail
  go_quiet ((first | (go_at_call 28; with_reducible exact (HR.out _).1) | (go_at_call 28; with_reducible exact (HR.out _).2.1)))
  go_wp2_with fail
  go_ret
  exact ⟨rfl, _, rfl⟩
theorem len_nil (w : World) : Calls Try.prog 13 #[.pointer none] w fun e w' => e = .returned (.int .i64 0) ∧ w = w' := by
  go_enter Try.func13, Try.ntmps13
  go_wp2_with fail
  go_ret
  exact ⟨rfl, rfl⟩
theorem target_at {w : World} {F : Nat → Prop} {ab b c T : Nat} {s : Ac} (h : ArcAt w F ab b c T s) :
    Calls Try.prog 16 #[.pointer (some ⟨ab, 0, none⟩)] w fun e w' => e = .returned (.int .i64 (s.t : Int)) ∧ w = w' := by
  have c1 : w.cell? ⟨ab, 1, none⟩ = some (.int .i64 (s.t : Int)) := cell_at h.h 1
  generalize s.t = t at *
  clear h
  go_enter Try.func16, Try.ntmps16
  go_wp2_with fail
  go_ret
  exact ⟨rfl, rfl⟩
theorem target_nil (w : World) : Calls Try.prog 16 #[.pointer none] w fun e w' => e = .returned (.int .i64 0) ∧ w = w' := by
  go_enter Try.func16, Try.ntmps16
  go_wp2_with fail
  go_ret
  exact ⟨rfl, rfl⟩

end Go.Proofs.Ytebjbkpgicbgeaa.ArcW
