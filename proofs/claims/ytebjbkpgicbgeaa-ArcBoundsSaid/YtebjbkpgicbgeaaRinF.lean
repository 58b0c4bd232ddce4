/-
  Layer 6 (ring): lists of keys in memory; Len, Free, Lists, In, Back, Front.
-/
import Derived.Test.YtebjbkpgicbgeaaRinL
namespace Go.Proofs.Ytebjbkpgicbgeaa.RinF
set_option linter.unusedVariables false
set_option linter.unusedSimpArgs false
set_option maxRecDepth 100000
open Go.RowKit Go.Proofs.Ytebjbkpgicbgeaa.Mem Go.Proofs.Ytebjbkpgicbgeaa.RinM Go.Proofs.Ytebjbkpgicbgeaa.RinP Go.Proofs.Ytebjbkpgicbgeaa.RinW Go.Proofs.Ytebjbkpgicbgeaa.RinL

/-! ### more of the plain law -/
theorem inv_head {n k i : Nat} {sl : List Sl} {fr : List Nat} {L : List (List Nat)} {M : ByteArray → Option Nat} (h : Inv n k sl fr L M) {l : List Nat} (hl : L[i]? = some l) : (∀ a r, l = a :: r → nx sl i = a) ∧ (l = [] → nx sl i = i) ∧ nx sl i < n + k := by
  have hi : i < n := by have := (List.getElem?_eq_some_iff.1 hl).1; rw [h.lL] at this; exact this
  have hs := h.seg i l hl
  cases l with
  | nil => exact ⟨fun a r e => by simp at e, fun _ => hs.1, by rw [hs.1]; omega⟩
  | cons a r =>
    refine ⟨fun a' r' e => ?_, fun e => by simp at e, ?_⟩
    · injection e with e1 e2
      rw [← e1]; exact hs.1
    · rw [hs.1]
      exact (h.rng a (List.mem_append_right _ (mem_flat.2 ⟨i, _, hl, by simp⟩))).2
theorem inv_back {n k i : Nat} {sl : List Sl} {fr : List Nat} {L : List (List Nat)} {M : ByteArray → Option Nat} (h : Inv n k sl fr L M) {l : List Nat} {a : Nat} (hl : L[i]? = some (l ++ [a])) : pv sl i = a ∧ n ≤ a ∧ a < n + k := by
  have hs := h.seg i _ hl
  rw [show i :: (l ++ [a]) ++ [i] = (i :: l) ++ a :: [i] by simp, seg_split] at hs
  exact ⟨hs.2.2.1, h.rng a (List.mem_append_right _ (mem_flat.2 ⟨i, _, hl, by simp⟩))⟩
theorem modify_set (l : List Nat) (i m : Nat) (f : Nat → Nat) (h : l[i]? = some m) : l.modify i f = l.set i (f m) := by
  apply List.ext_getElem?
  intro j
  rw [List.getElem?_modify, List.getElem?_set]
  by_cases e : i = j
  · subst e
    rw [h, if_pos rfl, if_pos (List.getElem?_eq_some_iff.1 h).1]; simp
  · rw [if_neg e]
    cases l[j]? <;> simp [e]
theorem lens_at {L : List (List Nat)} {i : Nat} {l : List Nat} (h : L[i]? = some l) : (lens L)[i]? = some l.length := by unfold lens; rw [List.getElem?_map, h]; rfl

/-- Lists of keys, n of them, with k places. -/
def Ring (w : World) (F : Nat → Prop) (b n k T : Nat) (K : Keys) : Prop :=
  ∃ (sl : List Sl) (fr : List Nat) (M : ByteArray → Option Nat) (gs gm mb : Nat) (v : Value) (L : List (List Nat)),
    RAt w F b n (n + k) T sl fr (lens L) M gs gm mb v ∧ Inv n k sl fr L M ∧ keysOf sl L = K
section
variable {w w' : World} {F : Nat → Prop} {b n k T : Nat} {K : Keys}
theorem Ring.keep {S : Nat → Prop} (h : Ring w F b n k T K) (kk : Keep S w w') (hd : ∀ i, F i → ¬ S i) : Ring w' F b n k T K := by
  obtain ⟨sl, fr, M, gs, gm, mb, v, L, h1, h2, h3⟩ := h
  exact ⟨sl, fr, M, gs, gm, mb, v, L, h1.keep kk hd, h2, h3⟩
theorem Ring.keep0 (h : Ring w F b n k T K) (kk : Keep (fun _ => False) w w') : Ring w' F b n k T K := h.keep kk (fun _ _ e => e)
theorem Ring.mono {F' : Nat → Prop} {T' : Nat} (h : Ring w F b n k T K) (hF : ∀ k, F k → F' k) (hT : T ≤ T') : Ring w F' b n k T' K := by
  obtain ⟨sl, fr, M, gs, gm, mb, v, L, h1, h2, h3⟩ := h
  exact ⟨sl, fr, M, gs, gm, mb, v, L, h1.mono hF hT, h2, h3⟩
theorem Ring.len (h : Ring w F b n k T K) : K.length = n := by
  obtain ⟨sl, fr, M, gs, gm, mb, v, L, h1, h2, h3⟩ := h
  rw [← h3, keysOf_len, h2.lL]
theorem Ring.le (h : Ring w F b n k T K) : K.flatten.length ≤ k ∧ 1 ≤ n ∧ n + k ≤ 100000 := by
  obtain ⟨sl, fr, M, gs, gm, mb, v, L, h1, h2, h3⟩ := h
  have := h2.cnt
  rw [List.length_append] at this
  rw [← h3, keysOf_flat, List.length_map]
  exact ⟨by omega, h2.hn, h1.hN⟩
theorem Ring.tight (h : Ring w F b n k T K) : Ring w (fun i => F i ∧ i < w.heap.size) b n k T K := by
  obtain ⟨sl, fr, M, gs, gm, mb, v, L, h1, h2, h3⟩ := h
  refine ⟨sl, fr, M, gs, gm, mb, v, L, ⟨h1.h, h1.s, h1.m, h1.o, h1.c, h1.lsl, h1.lmn, h1.hN, h1.e1, h1.e2, h1.e3, h1.o1, h1.o2, h1.o3, ⟨h1.fb, lt_of_block h1.h⟩, ⟨h1.fs, lt_of_block h1.s⟩, ⟨h1.fm, lt_of_block h1.m⟩, ⟨h1.fc, h1.c.lt⟩, fun i e => ⟨h1.fo i e, ?_⟩⟩, h2, h3⟩
  obtain ⟨cs, t, hc⟩ := own_lt h1.o e
  exact lt_of_block hc
end

theorem is_at {w : World} {b n : Nat} (c0 : w.cell? ⟨b, 0, none⟩ = some (.int .i64 (n : Int))) (i : Int) :
    Calls Try.prog 47 #[.pointer (some ⟨b, 0, none⟩), .int .i64 i] w fun e w' => e = .returned (.bool (decide (0 ≤ i) && decide (i < (n : Int)))) ∧ w = w' := by
  by_cases h1 : 0 ≤ i
  · have d1 : decide (0 ≤ i) = true := decide_eq_true h1
    rw [d1, Bool.true_and]
    go_enter Try.func47, Try.ntmps47
    go_wp2_with fail
    go_ret
    exact ⟨rfl, rfl⟩
  · have d1 : decide (0 ≤ i) = false := decide_eq_false h1
    rw [d1, Bool.false_and]
    go_enter Try.func47, Try.ntmps47
    go_wp2_with fail
    go_ret
    exact ⟨rfl, rfl⟩
theorem is_nil (i : Int) (w : World) : Calls Try.prog 47 #[.pointer none, .int .i64 i] w fun e w' => e = .returned (.bool false) ∧ w = w' := by
  go_enter Try.func47, Try.ntmps47
  go_wp2_with fail
  go_ret
  exact ⟨rfl, rfl⟩
theorem is_yes {w : World} {F : Nat → Prop} {b n k T : Nat} {K : Keys} (h : Ring w F b n k T K) (i : Nat) (hi : i < n) :
    Calls Try.prog 47 #[.pointer (some ⟨b, 0, none⟩), .int .i64 (i : Int)] w fun e w' => e = .returned (.bool true) ∧ w = w' := by
  obtain ⟨sl, fr, M, gs, gm, mb, v, L, h1, h2, h3⟩ := h
  have := is_at (w := w) (b := b) (n := n) (cell_at h1.h 0) (i : Int)
  rw [show (decide ((0 : Int) ≤ (i : Int)) && decide ((i : Int) < (n : Int))) = true from by rw [Bool.and_eq_true, decide_eq_true_eq, decide_eq_true_eq]; omega] at this
  exact this
theorem is_no {w : World} {F : Nat → Prop} {b n k T : Nat} {K : Keys} (h : Ring w F b n k T K) (i : Int) (hi : ¬ (0 ≤ i ∧ i < n)) :
    Calls Try.prog 47 #[.pointer (some ⟨b, 0, none⟩), .int .i64 i] w fun e w' => e = .returned (.bool false) ∧ w = w' := by
  obtain ⟨sl, fr, M, gs, gm, mb, v, L, h1, h2, h3⟩ := h
  have := is_at (w := w) (b := b) (n := n) (cell_at h1.h 0) i
  rw [show (decide (0 ≤ i) && decide (i < (n : Int))) = false from by rw [← Bool.not_eq_true, Bool.and_eq_true, decide_eq_true_eq, decide_eq_true_eq]; exact hi] at this
  exact this

theorem len_yes {w : World} {F : Nat → Prop} {b n k T : Nat} {K : Keys} (h : Ring w F b n k T K) (i : Nat) (l : List ByteArray) (hl : K[i]? = some l) :
    Calls Try.prog 28 #[.pointer (some ⟨b, 0, none⟩), .int .i64 (i : Int)] w fun e w' => e = .returned (.int .i64 (l.length : Int)) ∧ w = w' := by
  have hi : i < n := by have := (List.getElem?_eq_some_iff.1 hl).1; rw [h.len] at this; exact this
  have HI := Lib.hid (is_yes h i hi)
  obtain ⟨sl, fr, M, gs, gm, mb, v, L, h1, h2, h3⟩ := h
  have c4 : w.cell? ⟨b, 4, none⟩ = some (.slice (some ⟨gm, 0, none⟩) n n) := cell_at h1.h 4
  have cm : w.cell? ⟨gm, i, none⟩ = some (.int .i64 (l.length : Int)) := h1.cellm i l.length (by
    rw [← h3] at hl
    unfold keysOf at hl
    rw [List.getElem?_map] at hl
    obtain ⟨l0, h0, rfl⟩ := Option.map_eq_some_iff.1 hl
    rw [lens_at h0, List.length_map])
  have hN := h1.hN
  have hi' : (i : Int) < (n : Int) := by omega
  generalize l.length = m at *
  clear h1 h2 h3 hl
  go_enter Try.func28, Try.ntmps28
  go_wp2_with (go_at_call 47; refine HI.out.mono ?_; rintro e w1 ⟨rfl, rfl⟩)
  go_ret
  exact ⟨rfl, rfl⟩
theorem len_no {w : World} {F : Nat → Prop} {b n k T : Nat} {K : Keys} (h : Ring w F b n k T K) (i : Int) (hi : ¬ (0 ≤ i ∧ i < n)) :
    Calls Try.prog 28 #[.pointer (some ⟨b, 0, none⟩), .int .i64 i] w fun e w' => e = .returned (.int .i64 0) ∧ w = w' := by
  have HI := Lib.hid (is_no h i hi)
  clear h hi
  go_enter Try.func28, Try.ntmps28
  go_wp2_with (go_at_call 47; refine HI.out.mono ?_; rintro e w1 ⟨rfl, rfl⟩)
  go_ret
  exact ⟨rfl, rfl⟩
theorem len_nil (i : Int) (w : World) : Calls Try.prog 28 #[.pointer none, .int .i64 i] w fun e w' => e = .returned (.int .i64 0) ∧ w = w' := by
  go_enter Try.func28, Try.ntmps28
  go_wp2_with (go_at_call 47; refine (is_nil _ _).mono ?_; rintro e w1 ⟨rfl, rfl⟩)
  go_ret
  exact ⟨rfl, rfl⟩
theorem free_at' {w : World} {F : Nat → Prop} {b n k T : Nat} {K : Keys} (h : Ring w F b n k T K) :
    Calls Try.prog 71 #[.pointer (some ⟨b, 0, none⟩)] w fun e w' => e = .returned (.int .i64 ((k - K.flatten.length : Nat) : Int)) ∧ w = w' := by
  obtain ⟨sl, fr, M, gs, gm, mb, v, L, h1, h2, h3⟩ := h
  obtain ⟨ao, cap, hv⟩ := owns_slice h1.o
  subst hv
  have c2 : w.cell? ⟨b, 2, none⟩ = some (.slice ao fr.length cap) := cell_at h1.h 2
  have e : k - K.flatten.length = fr.length := by
    have := h2.cnt
    rw [List.length_append] at this
    rw [← h3, keysOf_flat, List.length_map]
    omega
  rw [e]
  clear h1 h2 h3 e
  generalize fr.length = m at *
  go_enter Try.func71, Try.ntmps71
  go_wp2_with fail
  go_ret
  exact ⟨rfl, rfl⟩
theorem free_nil (w : World) : Calls Try.prog 71 #[.pointer none] w fun e w' => e = .returned (.int .i64 0) ∧ w = w' := by
  go_enter Try.func71, Try.ntmps71
  go_wp2_with fail
  go_ret
  exact ⟨rfl, rfl⟩
theorem lists_at {w : World} {F : Nat → Prop} {b n k T : Nat} {K : Keys} (h : Ring w F b n k T K) :
    Calls Try.prog 72 #[.pointer (some ⟨b, 0, none⟩)] w fun e w' => e = .returned (.int .i64 (n : Int)) ∧ w = w' := by
  obtain ⟨sl, fr, M, gs, gm, mb, v, L, h1, h2, h3⟩ := h
  have c0 : w.cell? ⟨b, 0, none⟩ = some (.int .i64 (n : Int)) := cell_at h1.h 0
  clear h1 h2 h3
  go_enter Try.func72, Try.ntmps72
  go_wp2_with fail
  go_ret
  exact ⟨rfl, rfl⟩
theorem lists_nil (w : World) : Calls Try.prog 72 #[.pointer none] w fun e w' => e = .returned (.int .i64 0) ∧ w = w' := by
  go_enter Try.func72, Try.ntmps72
  go_wp2_with fail
  go_ret
  exact ⟨rfl, rfl⟩

theorem in_yes {w : World} {F : Nat → Prop} {b n k T : Nat} {K : Keys} (h : Ring w F b n k T K) (x : ByteArray) (hx : x.size ≤ 9223372036854775807) (i : Nat) (l : List ByteArray) (hl : K[i]? = some l) (hxl : x ∈ l) :
    Calls Try.prog 26 #[.pointer (some ⟨b, 0, none⟩), .string x] w fun e w' => e = .returned (.tuple #[.int .i64 (i : Int), .bool true]) ∧ w = w' := by
  obtain ⟨sl, fr, M, gs, gm, mb, v, L, h1, h2, h3⟩ := h
  obtain ⟨l0, h0, rfl⟩ : ∃ l0, L[i]? = some l0 ∧ l0.map (ky sl) = l := by
    rw [← h3] at hl; unfold keysOf at hl; rw [List.getElem?_map] at hl; exact Option.map_eq_some_iff.1 hl
  obtain ⟨a, ha, rfl⟩ := List.mem_map.1 hxl
  have haf := mem_flat.2 ⟨i, l0, h0, ha⟩
  have hM := h2.m1 a haf
  have hls := h2.ls i l0 h0 a ha
  have hr := h2.rng a (List.mem_append_right _ haf)
  have lk := h1.c.look (ky sl a) hx
  rw [hM] at lk
  have c1 : w.cell? ⟨b, 1, none⟩ = some (.slice (some ⟨gs, 0, none⟩) (n + k) (n + k)) := cell_at h1.h 1
  have c3 : w.cell? ⟨b, 3, none⟩ = some (.map (some mb)) := cell_at h1.h 3
  have ca := h1.cell1 a hr.2
  rw [hls] at ca
  have hN := h1.hN
  simp only [Option.getD_some, Option.isSome_some] at lk
  generalize n + k = N at *
  generalize ky sl a = x at *
  have hra : a < N := hr.2
  clear h1 h2 h3 hl hxl hM hls haf h0 ha hr
  go_enter Try.func26, Try.ntmps26
  go_wp2_with fail
  go_ret2
  exact ⟨rfl, rfl⟩
theorem in_no {w : World} {F : Nat → Prop} {b n k T : Nat} {K : Keys} (h : Ring w F b n k T K) (x : ByteArray) (hx : x.size ≤ 9223372036854775807) (hxl : ¬ x ∈ K.flatten) :
    Calls Try.prog 26 #[.pointer (some ⟨b, 0, none⟩), .string x] w fun e w' => e = .returned (.tuple #[.int .i64 0, .bool false]) ∧ w = w' := by
  obtain ⟨sl, fr, M, gs, gm, mb, v, L, h1, h2, h3⟩ := h
  rw [← h3, h2.mem x] at hxl
  have hM : M x = none := by cases e : M x with
    | none => rfl
    | some a => rw [e] at hxl; simp at hxl
  have lk := h1.c.look x hx
  rw [hM] at lk
  have c3 : w.cell? ⟨b, 3, none⟩ = some (.map (some mb)) := cell_at h1.h 3
  simp only [Option.getD_none, Option.isSome_none] at lk
  clear h1 h2 h3 hxl hM
  go_enter Try.func26, Try.ntmps26
  go_wp2_with fail
  go_ret2
  exact ⟨rfl, rfl⟩
theorem in_nil (x : ByteArray) (w : World) : Calls Try.prog 26 #[.pointer none, .string x] w fun e w' => e = .returned (.tuple #[.int .i64 0, .bool false]) ∧ w = w' := by
  go_enter Try.func26, Try.ntmps26
  go_wp2_with fail
  go_ret2
  exact ⟨rfl, rfl⟩

theorem back_yes {w : World} {F : Nat → Prop} {b n k T : Nat} {K : Keys} (h : Ring w F b n k T K) (i : Nat) (l : List ByteArray) (x : ByteArray) (hl : K[i]? = some (l ++ [x])) :
    Calls Try.prog 31 #[.pointer (some ⟨b, 0, none⟩), .int .i64 (i : Int)] w fun e w' => e = .returned (.tuple #[.string x, .bool true]) ∧ Keep (fun _ => False) w w' := by
  have hi : i < n := by have := (List.getElem?_eq_some_iff.1 hl).1; rw [h.len] at this; exact this
  have HL := Lib.hid (len_yes h i _ hl)
  obtain ⟨sl, fr, M, gs, gm, mb, v, L, h1, h2, h3⟩ := h
  obtain ⟨l0, h0, hl0⟩ : ∃ l0, L[i]? = some l0 ∧ l0.map (ky sl) = l ++ [x] := by
    rw [← h3] at hl; unfold keysOf at hl; rw [List.getElem?_map] at hl; exact Option.map_eq_some_iff.1 hl
  obtain ⟨l1, a, rfl⟩ : ∃ l1 a, l0 = l1 ++ [a] := by
    rcases List.eq_nil_or_concat l0 with e | ⟨l1, a, e⟩
    · rw [e] at hl0; simp at hl0
    · exact ⟨l1, a, by simpa using e⟩
  have hka : ky sl a = x := by
    rw [List.map_append] at hl0
    have := List.append_inj_right' hl0 rfl
    simpa using this
  have hb := inv_back h2 h0
  have hN := h1.hN
  have c1 : w.cell? ⟨b, 1, none⟩ = some (.slice (some ⟨gs, 0, none⟩) (n + k) (n + k)) := cell_at h1.h 1
  have ci := h1.cell2 i (by omega)
  rw [hb.1] at ci
  have ca := h1.cell0 a hb.2.2
  rw [hka] at ca
  have hra : a < n + k := hb.2.2
  have hri : i < n + k := by omega
  generalize n + k = N at *
  have c1' : w.drew.cell? ⟨b, 1, none⟩ = some (.slice (some ⟨gs, 0, none⟩) N N) := c1
  have ci' : w.drew.cell? ⟨gs, i * 4 + 2, none⟩ = some (.int .i64 (a : Int)) := ci
  have ca' : w.drew.cell? ⟨gs, a * 4, none⟩ = some (.string x) := ca
  have hpos : (((l ++ [x]).length : Int) == 0) = false := by rw [beq_eq_false_iff_ne]; simp; omega
  generalize (l ++ [x]).length = m at *
  clear h1 h2 h3 hl h0 hl0 hka hb
  go_enter Try.func31, Try.ntmps31
  go_wp2_with (go_at_call 28; refine HL.out.mono ?_; rintro e w1 ⟨rfl, rfl⟩)
  go_region
  all_goals
    go_wp2_with fail
    go_ret2
    exact ⟨rfl, (Keep.refl _ w).drew⟩
theorem back_no {w : World} {F : Nat → Prop} {b n k T : Nat} {K : Keys} (h : Ring w F b n k T K) (i : Nat) (hl : K[i]? = some []) :
    Calls Try.prog 31 #[.pointer (some ⟨b, 0, none⟩), .int .i64 (i : Int)] w fun e w' => e = .returned (.tuple #[.string ⟨#[]⟩, .bool false]) ∧ w = w' := by
  have HL := Lib.hid (len_yes h i _ hl)
  clear h hl
  go_enter Try.func31, Try.ntmps31
  go_wp2_with (go_at_call 28; refine HL.out.mono ?_; rintro e w1 ⟨rfl, rfl⟩)
  go_ret2
  exact ⟨rfl, rfl⟩
theorem back_nil (i : Int) (w : World) : Calls Try.prog 31 #[.pointer none, .int .i64 i] w fun e w' => e = .returned (.tuple #[.string ⟨#[]⟩, .bool false]) ∧ w = w' := by
  go_enter Try.func31, Try.ntmps31
  go_wp2_with (go_at_call 28; refine (len_nil _ _).mono ?_; rintro e w1 ⟨rfl, rfl⟩)
  go_ret2
  exact ⟨rfl, rfl⟩

end Go.Proofs.Ytebjbkpgicbgeaa.RinF
