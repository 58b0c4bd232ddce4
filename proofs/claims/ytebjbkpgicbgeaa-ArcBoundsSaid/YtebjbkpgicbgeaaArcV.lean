/-
  Layer 7 (arc): Touch, replace, forget.
-/
import Derived.Test.YtebjbkpgicbgeaaArcW
namespace Go.Proofs.Ytebjbkpgicbgeaa.ArcV
set_option linter.unusedVariables false
set_option linter.unusedSimpArgs false
set_option maxRecDepth 100000
open Go.RowKit Go.Proofs.Ytebjbkpgicbgeaa.Mem Go.Proofs.Ytebjbkpgicbgeaa.RinM Go.Proofs.Ytebjbkpgicbgeaa.RinP Go.Proofs.Ytebjbkpgicbgeaa.RinW Go.Proofs.Ytebjbkpgicbgeaa.RinL Go.Proofs.Ytebjbkpgicbgeaa.RinF Go.Proofs.Ytebjbkpgicbgeaa.RinG Go.Proofs.Ytebjbkpgicbgeaa.RinH Go.Proofs.Ytebjbkpgicbgeaa.RinD Go.Proofs.Ytebjbkpgicbgeaa.RinN Go.Proofs.Ytebjbkpgicbgeaa.ArcP Go.Proofs.Ytebjbkpgicbgeaa.ArcQ Go.Proofs.Ytebjbkpgicbgeaa.ArcW

/-- What a call leaves: the policy as told, all else as it was. -/
def UpA (w w' : World) (F : Nat → Prop) (ab b c T : Nat) (s : Ac) : Prop :=
  ∃ F', ArcAt w' F' ab b c T s ∧ (∀ i, F' i → F i ∨ w.heap.size ≤ i) ∧ Keep (fun i => F i ∨ i = ab) w w'
theorem UpA.mono {w w' : World} {F : Nat → Prop} {ab b c T T' : Nat} {s : Ac} (h : UpA w w' F ab b c T s) (hT : T ≤ T') : UpA w w' F ab b c T' s := by
  obtain ⟨F', h1, h2, h3⟩ := h
  exact ⟨F', ⟨h1.h, h1.r.mono (fun _ e => e) hT, h1.n, h1.i, h1.hF⟩, h2, h3⟩
theorem UpA.keep0 {w w' w2 : World} {F : Nat → Prop} {ab b c T : Nat} {s : Ac} (h : UpA w w' F ab b c T s) (k : Keep (fun _ => False) w' w2) : UpA w w2 F ab b c T s := by
  obtain ⟨F', h1, h2, h3⟩ := h
  exact ⟨F', h1.keep0 k, h2, h3.trans k.toAny⟩
theorem UpA.trans {w w1 w2 : World} {F F1 : Nat → Prop} {ab b c T : Nat} {s : Ac} (h2 : ∀ i, F1 i → F i ∨ w.heap.size ≤ i) (h3 : Keep (fun i => F i ∨ i = ab) w w1) (h : UpA w1 w2 F1 ab b c T s) : UpA w w2 F ab b c T s := by
  obtain ⟨F2, g1, g2, g3⟩ := h
  refine ⟨F2, g1, fun i hi => ?_, h3.trans' g3 (fun i hi e => ?_)⟩
  · rcases g2 i hi with e | e
    · exact h2 i e
    · right; have := h3.size; omega
  · rcases e with e | e
    · rcases h2 i e with e2 | e2
      · exact .inl e2
      · omega
    · exact .inr e
theorem ArcAt.of {w w' : World} {F : Nat → Prop} {ab b c T T' : Nat} {s s' : Ac} (h : ArcAt w F ab b c T s) (r : Ring w' F b 4 (2 * c + 1) T' (keys s')) (k : Keep F w w') (ht : s'.t = s.t) (hi : AInv c s') : ArcAt w' F ab b c T' s' ∧ Keep F w w' :=
  ⟨⟨(k.block ab (lt_of_block h.h) h.n).trans (by rw [ht]; exact h.h), r, h.n, hi, fun i e => Nat.lt_of_lt_of_le (h.hF i e) k.size⟩, k⟩
theorem UpA.same {w w' : World} {F : Nat → Prop} {ab b c T : Nat} {s' : Ac} (h : ArcAt w' F ab b c T s') (k : Keep F w w') : UpA w w' F ab b c T s' := ⟨F, h, fun i e => .inl e, k.mono (fun i _ e => .inl e)⟩
theorem UpA.of {w w' : World} {F : Nat → Prop} {ab b c T T' : Nat} {s s' : Ac} (h : ArcAt w F ab b c T s) (r : Ring w' F b 4 (2 * c + 1) T' (keys s')) (k : Keep F w w') (ht : s'.t = s.t) (hi : AInv c s') : UpA w w' F ab b c T' s' :=
  UpA.same (ArcAt.of h r k ht hi).1 k

theorem arc_front {w : World} {F : Nat → Prop} {ab b c T : Nat} {s : Ac} (h : ArcAt w F ab b c T s) (hT : T ≤ 100000000) (i : Nat) (hi : i < 4) (x : ByteArray) (hx : x.size ≤ 64) (hr : x ∈ all s ∨ (all s).length < 2 * c + 1) :
    Calls Try.prog 33 #[.pointer (some ⟨b, 0, none⟩), .int .i64 (i : Int), .string x] w fun e w' => e = .returned (.bool true) ∧ Ring w' F b 4 (2 * c + 1) (T + 1) (keys (frA i x s)) ∧ Keep F w w' := by
  have := front_any h.r hT (i : Int) x
  rw [frontK_frA hi hx hr] at this
  exact this

theorem touch_no {w : World} {F : Nat → Prop} {ab b c T : Nat} {s : Ac} (h : ArcAt w F ab b c T s) (x : ByteArray) (hx : x.size ≤ 9223372036854775807) (hn : (isIn x s.A || isIn x s.B) = false) :
    Calls Try.prog 15 #[.pointer (some ⟨ab, 0, none⟩), .string x] w fun e w' => e = .returned (.bool false) ∧ w = w' := by
  have HH := has_at h x hx
  rw [hn] at HH
  replace HH := Lib.hid HH
  clear h hn
  go_enter Try.func15, Try.ntmps15
  go_wp2_with (go_at_call 14; refine HH.out.mono ?_; rintro e w1 ⟨rfl, rfl⟩)
  go_ret
  exact ⟨rfl, rfl⟩
theorem touch_nil (x : ByteArray) (w : World) : Calls Try.prog 15 #[.pointer none, .string x] w fun e w' => e = .returned (.bool false) ∧ w = w' := by
  go_enter Try.func15, Try.ntmps15
  go_wp2_with (go_at_call 14; refine (has_nil _ _).mono ?_; rintro e w1 ⟨rfl, rfl⟩)
  go_ret
  exact ⟨rfl, rfl⟩
theorem touch_yes {w : World} {F : Nat → Prop} {ab b c T : Nat} {s : Ac} (h : ArcAt w F ab b c T s) (hT : T ≤ 100000000) (x : ByteArray) (hx : x.size ≤ 9223372036854775807) (hn : (isIn x s.A || isIn x s.B) = true) :
    Calls Try.prog 15 #[.pointer (some ⟨ab, 0, none⟩), .string x] w fun e w' => e = .returned (.bool true) ∧ UpA w w' F ab b c (T + 1) (frA 1 x s) := by
  have HH := has_at h x hx
  rw [hn] at HH
  have hin : x ∈ s.A ∨ x ∈ s.B := by rw [Bool.or_eq_true, isIn_iff, isIn_iff] at hn; exact hn
  have hal : x ∈ all s := mem_all.2 (hin.elim .inl (fun e => .inr (.inl e)))
  have c2 : w.cell? ⟨ab, 2, none⟩ = some (.pointer (some ⟨b, 0, none⟩)) := cell_at h.h 2
  have HF := Lib.hid (arc_front h hT 1 (by omega) x (h.i.sm x hal) (.inl hal))
  have HT := Lib.hid (touch_inv h.i hin)
  replace HH := Lib.hid HH
  have H := Lib.hid h
  clear h hn hin hal
  go_enter Try.func15, Try.ntmps15
  go_wp2_with (first
    | (go_at_call 14; refine HH.out.mono ?_; rintro e w1 ⟨rfl, rfl⟩)
    | (go_at_call 33; refine HF.out.mono ?_; rintro e w1 ⟨rfl, r1, k1⟩))
  go_ret
  exact ⟨rfl, UpA.of H.out r1 k1 rfl HT.out.1⟩

/-- A slice of one text. -/
def One (w : World) (v : Value) (k : ByteArray) (B : Nat) : Prop := ∃ g, v = .slice (some ⟨g, 0, none⟩) 1 1 ∧ w.heap[g]? = some (.cells #[.string k] 9 (0, 0)) ∧ B ≤ g
theorem One.keep {w w' : World} {v : Value} {k : ByteArray} {B : Nat} {S : Nat → Prop} (h : One w v k B) (kk : Keep S w w') (hs : ∀ i, S i → i < B) : One w' v k B := by
  obtain ⟨g, h1, h2, h3⟩ := h
  exact ⟨g, h1, (kk.block g (lt_of_block h2) (fun e => by have := hs g e; omega)).trans h2, h3⟩

set_option maxHeartbeats 2000000 in
theorem repl_once {w : World} {F : Nat → Prop} {ab b c T : Nat} {s : Ac} (h : ArcAt w F ab b c T s) (hT : T ≤ 100000000) (wn : Bool) (A' : List ByteArray) (k : ByteArray) (hA : s.A = A' ++ [k]) (hf : fromA wn s = true) :
    Calls Try.prog 30 #[.pointer (some ⟨ab, 0, none⟩), .bool wn] w fun e w' => ∃ v, e = .returned v ∧ One w' v k w.heap.size ∧ ArcAt w' F ab b c (T + 1) (frA 2 k s) ∧ Keep F w w' := by
  have hkA : k ∈ s.A := by rw [hA]; simp
  have hal : k ∈ all s := mem_all.2 (.inl hkA)
  have c2 : w.cell? ⟨ab, 2, none⟩ = some (.pointer (some ⟨b, 0, none⟩)) := cell_at h.h 2
  have c1 : w.cell? ⟨ab, 1, none⟩ = some (.int .i64 (s.t : Int)) := cell_at h.h 1
  have L0 := Lib.hid (len_yes h.r 0 s.A rfl)
  have L1 := Lib.hid (len_yes h.r 1 s.B rfl)
  have BK := Lib.hid (back_yes h.r 0 A' k (by rw [← hA]; rfl))
  have HF := Lib.hid (fun w2 (k2 : Keep (fun _ => False) w w2) => arc_front (h.keep0 k2) hT 2 (by omega) k (h.i.sm k hal) (.inl hal))
  have hln := h.lens
  have hi' : AInv c (frA 2 k s) := by
    have hp := frA_perm (i := 2) h.i.nd hal
    obtain ⟨nA, nB, nC, nD, pA, pB, pC, pD⟩ := parts h.i.nd
    have e1 := rm_len nA hkA
    have e2 := rm_le k s.B
    have e3 := rm_le k s.C
    have e4 := h.i.ab
    have e5 := h.i.ac
    refine h.i.turn hp ?_ ?_ h.i.tl
    · show (rm k s.A).length + (rm k s.B).length ≤ c
      omega
    · show (rm k s.A).length + (k :: rm k s.C).length ≤ c
      rw [List.length_cons]
      omega
  have hbl := lt_of_block h.h
  have HI := Lib.hid hi'
  have H := Lib.hid h
  unfold fromA at hf
  rw [Bool.and_eq_true, Bool.or_eq_true, Bool.or_eq_true, Bool.and_eq_true, decide_eq_true_eq, decide_eq_true_eq, decide_eq_true_eq, decide_eq_true_eq] at hf
  generalize s.t = t at *
  generalize s.A.length = n at *
  generalize s.B.length = q at *
  obtain ⟨hn0, hf⟩ := hf
  have hn0' : (0 : Int) < (n : Int) := by omega
  clear hi' hal hkA hA h
  have fin : ∀ w2 w3, Keep (fun _ => False) w w2 → Ring w3 F b 4 (2 * c + 1) (T + 1) (keys (frA 2 k s)) → Keep F w2 w3 → ∃ v, Ending.returned (.slice (some ⟨w3.heap.size, 0, none⟩) 1 1) = .returned v ∧ One (w3.alloc (.cells #[.string k] 9)) v k w.heap.size ∧ ArcAt (w3.alloc (.cells #[.string k] 9)) F ab b c (T + 1) (frA 2 k s) ∧ Keep F w (w3.alloc (.cells #[.string k] 9)) := fun w2 w3 k2 r3 k3 =>
    ⟨_, rfl, ⟨_, rfl, block_new _ _, Nat.le_trans k2.size k3.size⟩, ArcAt.of H.out (r3.keep0 ((Keep.refl _ _).alloc _)) ((k2.toAny.trans k3).alloc _) rfl HI.out⟩
  have FIN := Lib.hid fin
  clear fin
  by_cases h1 : t < n
  · have h1' : (t : Int) < (n : Int) := by omega
    clear hf
    go_enter Try.func30, Try.ntmps30
    go_wp2_with (first
      | (go_at_call 28; refine L0.out.mono ?_; clear L0; rintro e w1 ⟨rfl, rfl⟩)
      | (go_at_call 31; refine BK.out.mono ?_; rintro e w2 ⟨rfl, k2⟩
         have d2 := (k2.cell (p := ⟨ab, 2, none⟩) hbl (fun e => e)).trans c2
         have HF2 := Lib.hid (HF.out w2 k2))
      | (go_at_call 33; refine HF2.out.mono ?_; rintro e w3 ⟨rfl, r3, k3⟩))
    go_ret
    exact FIN.out _ _ k2 r3 k3
  · have h1' : ¬ (t : Int) < (n : Int) := by omega
    by_cases h2 : wn = true ∧ n = t
    · obtain ⟨rfl, h2⟩ := h2
      have hq : ((n : Int) == (t : Int)) = true := by rw [beq_iff_eq]; omega
      clear hf h2
      go_enter Try.func30, Try.ntmps30
      go_wp2_with (first
        | (go_at_call 28; refine L0.out.mono ?_; clear L0; rintro e w1 ⟨rfl, rfl⟩)
        | (go_at_call 31; refine BK.out.mono ?_; rintro e w2 ⟨rfl, k2⟩
           have d2 := (k2.cell (p := ⟨ab, 2, none⟩) hbl (fun e => e)).trans c2
           have HF2 := Lib.hid (HF.out w2 k2))
        | (go_at_call 33; refine HF2.out.mono ?_; rintro e w3 ⟨rfl, r3, k3⟩))
      go_ret
      exact FIN.out _ _ k2 r3 k3
    · have hq0 : q = 0 := by
        rcases hf with (e | e) | e
        · exact absurd e h1
        · exact absurd e h2
        · exact e
      have hq1 : ((q : Int) == 0) = true := by rw [beq_iff_eq]; omega
      clear hf hq0
      cases wn with
      | false =>
        clear h2
        go_enter Try.func30, Try.ntmps30
        go_wp2_with (first
          | (go_at_call 28; refine L0.out.mono ?_; clear L0; rintro e w1 ⟨rfl, rfl⟩)
          | (go_at_call 28; refine L1.out.mono ?_; clear L1; rintro e w1 ⟨rfl, rfl⟩)
          | (go_at_call 31; refine BK.out.mono ?_; rintro e w2 ⟨rfl, k2⟩
             have d2 := (k2.cell (p := ⟨ab, 2, none⟩) hbl (fun e => e)).trans c2
             have HF2 := Lib.hid (HF.out w2 k2))
          | (go_at_call 33; refine HF2.out.mono ?_; rintro e w3 ⟨rfl, r3, k3⟩))
        go_ret
        exact FIN.out _ _ k2 r3 k3
      | true =>
        have hq : ((n : Int) == (t : Int)) = false := by rw [beq_eq_false_iff_ne]; intro e; exact h2 ⟨rfl, by omega⟩
        clear h2
        go_enter Try.func30, Try.ntmps30
        go_wp2_with (first
          | (go_at_call 28; refine L0.out.mono ?_; clear L0; rintro e w1 ⟨rfl, rfl⟩)
          | (go_at_call 28; refine L1.out.mono ?_; clear L1; rintro e w1 ⟨rfl, rfl⟩)
          | (go_at_call 31; refine BK.out.mono ?_; rintro e w2 ⟨rfl, k2⟩
             have d2 := (k2.cell (p := ⟨ab, 2, none⟩) hbl (fun e => e)).trans c2
             have HF2 := Lib.hid (HF.out w2 k2))
          | (go_at_call 33; refine HF2.out.mono ?_; rintro e w3 ⟨rfl, r3, k3⟩))
        go_ret
        exact FIN.out _ _ k2 r3 k3

set_option maxHeartbeats 2000000 in
theorem repl_often {w : World} {F : Nat → Prop} {ab b c T : Nat} {s : Ac} (h : ArcAt w F ab b c T s) (hT : T ≤ 100000000) (wn : Bool) (B' : List ByteArray) (k : ByteArray) (hB : s.B = B' ++ [k]) (hf : fromA wn s = false) :
    Calls Try.prog 30 #[.pointer (some ⟨ab, 0, none⟩), .bool wn] w fun e w' => ∃ v, e = .returned v ∧ One w' v k w.heap.size ∧ ArcAt w' F ab b c (T + 1) (frA 3 k s) ∧ Keep F w w' := by
  have hkB : k ∈ s.B := by rw [hB]; simp
  have hal : k ∈ all s := mem_all.2 (.inr (.inl hkB))
  have c2 : w.cell? ⟨ab, 2, none⟩ = some (.pointer (some ⟨b, 0, none⟩)) := cell_at h.h 2
  have c1 : w.cell? ⟨ab, 1, none⟩ = some (.int .i64 (s.t : Int)) := cell_at h.h 1
  have L0 := Lib.hid (len_yes h.r 0 s.A rfl)
  have L1 := Lib.hid (len_yes h.r 1 s.B rfl)
  have BK := Lib.hid (back_yes h.r 1 B' k (by rw [← hB]; rfl))
  have HF := Lib.hid (fun w2 (k2 : Keep (fun _ => False) w w2) => arc_front (h.keep0 k2) hT 3 (by omega) k (h.i.sm k hal) (.inl hal))
  have hln := h.lens
  have hi' : AInv c (frA 3 k s) := by
    have hp := frA_perm (i := 3) h.i.nd hal
    have e1 := rm_le k s.A
    have e2 := rm_le k s.B
    have e3 := rm_le k s.C
    have e4 := h.i.ab
    have e5 := h.i.ac
    refine h.i.turn hp ?_ ?_ h.i.tl
    · show (rm k s.A).length + (rm k s.B).length ≤ c
      omega
    · show (rm k s.A).length + (rm k s.C).length ≤ c
      omega
  have hq : 0 < s.B.length := by rw [hB]; simp
  have hbl := lt_of_block h.h
  have HI := Lib.hid hi'
  have H := Lib.hid h
  have hf' : ¬ (0 < s.A.length ∧ ((s.t < s.A.length ∨ wn = true ∧ s.A.length = s.t) ∨ s.B.length = 0)) := by
    intro e
    rw [← Bool.not_eq_true] at hf
    apply hf
    unfold fromA
    rw [Bool.and_eq_true, Bool.or_eq_true, Bool.or_eq_true, Bool.and_eq_true, decide_eq_true_eq, decide_eq_true_eq, decide_eq_true_eq, decide_eq_true_eq]
    exact e
  clear hf
  generalize s.t = t at *
  generalize s.A.length = n at *
  generalize s.B.length = q at *
  clear hi' hal hkB hB h
  have fin : ∀ w2 w3, Keep (fun _ => False) w w2 → Ring w3 F b 4 (2 * c + 1) (T + 1) (keys (frA 3 k s)) → Keep F w2 w3 → ∃ v, Ending.returned (.slice (some ⟨w3.heap.size, 0, none⟩) 1 1) = .returned v ∧ One (w3.alloc (.cells #[.string k] 9)) v k w.heap.size ∧ ArcAt (w3.alloc (.cells #[.string k] 9)) F ab b c (T + 1) (frA 3 k s) ∧ Keep F w (w3.alloc (.cells #[.string k] 9)) := fun w2 w3 k2 r3 k3 =>
    ⟨_, rfl, ⟨_, rfl, block_new _ _, Nat.le_trans k2.size k3.size⟩, ArcAt.of H.out (r3.keep0 ((Keep.refl _ _).alloc _)) ((k2.toAny.trans k3).alloc _) rfl HI.out⟩
  have FIN := Lib.hid fin
  clear fin
  have hq1 : ((q : Int) == 0) = false := by rw [beq_eq_false_iff_ne]; omega
  by_cases h0 : 0 < n
  · have h0' : (0 : Int) < (n : Int) := by omega
    have h1 : ¬ t < n := fun e => hf' ⟨h0, .inl (.inl e)⟩
    have h1' : ¬ (t : Int) < (n : Int) := by omega
    cases wn with
    | false =>
      clear hf'
      go_enter Try.func30, Try.ntmps30
      go_wp2_with (first
        | (go_at_call 28; refine L0.out.mono ?_; clear L0; rintro e w1 ⟨rfl, rfl⟩)
        | (go_at_call 28; refine L1.out.mono ?_; clear L1; rintro e w1 ⟨rfl, rfl⟩)
        | (go_at_call 31; refine BK.out.mono ?_; rintro e w2 ⟨rfl, k2⟩
           have d2 := (k2.cell (p := ⟨ab, 2, none⟩) hbl (fun e => e)).trans c2
           have HF2 := Lib.hid (HF.out w2 k2))
        | (go_at_call 33; refine HF2.out.mono ?_; rintro e w3 ⟨rfl, r3, k3⟩))
      go_ret
      exact FIN.out _ _ k2 r3 k3
    | true =>
      have hq2 : ((n : Int) == (t : Int)) = false := by rw [beq_eq_false_iff_ne]; intro e; exact hf' ⟨h0, .inl (.inr ⟨rfl, by omega⟩)⟩
      clear hf'
      go_enter Try.func30, Try.ntmps30
      go_wp2_with (first
        | (go_at_call 28; refine L0.out.mono ?_; clear L0; rintro e w1 ⟨rfl, rfl⟩)
        | (go_at_call 28; refine L1.out.mono ?_; clear L1; rintro e w1 ⟨rfl, rfl⟩)
        | (go_at_call 31; refine BK.out.mono ?_; rintro e w2 ⟨rfl, k2⟩
           have d2 := (k2.cell (p := ⟨ab, 2, none⟩) hbl (fun e => e)).trans c2
           have HF2 := Lib.hid (HF.out w2 k2))
        | (go_at_call 33; refine HF2.out.mono ?_; rintro e w3 ⟨rfl, r3, k3⟩))
      go_ret
      exact FIN.out _ _ k2 r3 k3
  · have h0' : ¬ (0 : Int) < (n : Int) := by omega
    clear hf'
    go_enter Try.func30, Try.ntmps30
    go_wp2_with (first
      | (go_at_call 28; refine L0.out.mono ?_; clear L0; rintro e w1 ⟨rfl, rfl⟩)
      | (go_at_call 31; refine BK.out.mono ?_; rintro e w2 ⟨rfl, k2⟩
         have d2 := (k2.cell (p := ⟨ab, 2, none⟩) hbl (fun e => e)).trans c2
         have HF2 := Lib.hid (HF.out w2 k2))
      | (go_at_call 33; refine HF2.out.mono ?_; rintro e w3 ⟨rfl, r3, k3⟩))
    go_ret
    exact FIN.out _ _ k2 r3 k3

theorem repl_at {w : World} {F : Nat → Prop} {ab b c T : Nat} {s : Ac} (h : ArcAt w F ab b c T s) (hT : T ≤ 100000000) (wn : Bool) (h0 : 0 < s.A.length + s.B.length) :
    Calls Try.prog 30 #[.pointer (some ⟨ab, 0, none⟩), .bool wn] w fun e w' => ∃ v k, e = .returned v ∧ (repl wn s).2 = some k ∧ One w' v k w.heap.size ∧ ArcAt w' F ab b c (T + 1) (repl wn s).1 ∧ Keep F w w' := by
  obtain ⟨nA, nB, nC, nD, pA, pB, pC, pD⟩ := parts h.i.nd
  have hA0 : ∀ {l : List ByteArray} {k : ByteArray} (l' : List ByteArray), l = l' ++ [k] → l.getLast? = some k := fun l' e => by rw [e]; simp
  rcases repl_cases (w := wn) h.i.nd h0 with ⟨A', k, e1, e2, -⟩ | ⟨B', k, e1, e2, -⟩
  · have e4 : repl wn s = (frA 2 k s, some k) := by unfold repl; rw [if_pos e2, hA0 A' e1]
    rw [e4]
    refine (repl_once h hT wn A' k e1 e2).mono ?_
    rintro e w' ⟨v, he, ho, hu⟩
    exact ⟨v, k, he, rfl, ho, hu⟩
  · have e4 : repl wn s = (frA 3 k s, some k) := by unfold repl; rw [if_neg (by rw [e2]; simp), hA0 B' e1]
    rw [e4]
    refine (repl_often h hT wn B' k e1 e2).mono ?_
    rintro e w' ⟨v, he, ho, hu⟩
    exact ⟨v, k, he, rfl, ho, hu⟩

/-- A key of a list is forgotten. -/
theorem UpA.drop {w w1 w' : World} {F : Nat → Prop} {ab b c T : Nat} {s s' : Ac} (h : ArcAt w F ab b c T s) (k1 : Keep (fun _ => False) w w1) (hu : Up w1 w' F b 4 (2 * c + 1) T (keys s')) (ht : s'.t = s.t) (hi : AInv c s') : UpA w w' F ab b c T s' := by
  obtain ⟨F', r, g1, g2, kk⟩ := hu
  have hbl := lt_of_block h.h
  have h1 := h.keep0 k1
  refine ⟨F', ⟨(kk.block ab (lt_of_block h1.h) h1.n).trans (by rw [ht]; exact h1.h), r, fun e => ?_, hi, g1⟩, fun i e => ?_, k1.toAny.trans (kk.mono (fun i _ e => .inl e))⟩
  · rcases g2 ab e with e2 | e2
    · exact h.n e2
    · have := k1.size; omega
  · rcases g2 i e with e2 | e2
    · exact .inl e2
    · right; have := k1.size; omega

theorem forget_at {w : World} {F : Nat → Prop} {ab b c T : Nat} {s : Ac} (h : ArcAt w F ab b c T s) (i : Nat) (l l' : List ByteArray) (k : ByteArray) (hl : (keys s)[i]? = some l) (e1 : l = l' ++ [k]) (hk : k ∈ all s) (hi : AInv c (rmA k s)) :
    Calls Try.prog 29 #[.pointer (some ⟨ab, 0, none⟩), .int .i64 (i : Int)] w fun e w' => e = .returned (.tuple #[]) ∧ UpA w w' F ab b c T (rmA k s) := by
  have c2 : w.cell? ⟨ab, 2, none⟩ = some (.pointer (some ⟨b, 0, none⟩)) := cell_at h.h 2
  have BK := Lib.hid (back_yes h.r i l' k (by rw [← e1]; exact hl))
  have hks := h.i.sm k hk
  have HD := Lib.hid (fun w2 (k2 : Keep (fun _ => False) w w2) => drop_yes (h.keep0 k2).r k (by omega) (by rw [keys_flat]; exact hk))
  have hbl := lt_of_block h.h
  have H := Lib.hid h
  have HI := Lib.hid hi
  clear h hl e1 hk hi
  go_enter Try.func29, Try.ntmps29
  go_wp2_with (first
    | (go_at_call 31; refine BK.out.mono ?_; rintro e w2 ⟨rfl, k2⟩
       have d2 := (k2.cell (p := ⟨ab, 2, none⟩) hbl (fun e => e)).trans c2
       have HD2 := Lib.hid (HD.out w2 k2))
    | (go_at_call 32; refine HD2.out.mono ?_; rintro e w3 ⟨rfl, u3⟩; replace u3 := Lib.hid u3))
  exact bodyPost_end (v := .tuple #[]) (by simp [results, Try.results29, go_sem]) rfl ⟨rfl, UpA.drop H.out k2 u3.out rfl HI.out⟩

end Go.Proofs.Ytebjbkpgicbgeaa.ArcV
