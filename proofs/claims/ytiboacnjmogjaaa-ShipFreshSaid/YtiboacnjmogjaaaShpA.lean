/-
  Layer 19 (ship): a link and a log of numbered records; what the laws begin with.
-/
import Derived.Test.YtiboacnjmogjaaaShpW
namespace Go.Proofs.Ytiboacnjmogjaaa.ShpA
set_option linter.unusedVariables false
set_option linter.unusedSimpArgs false
open Go.RowKit Go.Proofs.Ytiboacnjmogjaaa.Mem Go.Proofs.Ytiboacnjmogjaaa.LogW Go.Proofs.Ytiboacnjmogjaaa.LogV Go.Proofs.Ytiboacnjmogjaaa.LogU Go.Proofs.Ytiboacnjmogjaaa.LogL Go.Proofs.Ytiboacnjmogjaaa.ShpW

theorem num_seqs (n : Nat) : Num (seqs 0 n) := by
  intro i r h
  have hi : i < n := by
    rcases Nat.lt_or_ge i n with h' | h'
    · exact h'
    · rw [List.getElem?_eq_none (by rw [seqs_length]; exact h')] at h; cases h
  rw [seqs_at 0 n i hi] at h
  cases h
  show ((0 : Nat) : Int) + (i : Int) + 1 = _
  omega
/-- How many are sent at once. -/
def bat (n s : Nat) : Nat := min (n - s) 16
theorem bat_length (n s : Nat) : (batch (seqs 0 n) s).length = bat n s := by
  unfold batch bat
  rw [List.length_take, List.length_drop, seqs_length]; omega
theorem bat_at (n s i : Nat) (h : i < bat n s) : (batch (seqs 0 n) s)[i]? = some (rec0 ((s : Int) + i + 1) 0) := by
  unfold bat at h
  unfold batch
  rw [List.getElem?_take, if_pos (by rw [seqs_length]; exact h), List.getElem?_drop, seqs_at 0 n (s + i) (by omega)]
  congr 2
  omega
theorem bat_form {w : World} {F : Nat → Prop} {v : Value} {n s : Nat} (h : RowAt w F v (batch (seqs 0 n) s)) :
    ∃ ao cap, v = .slice ao (bat n s) cap ∧ (bat n s = 0 ∨ ∃ g, ao = some ⟨g, 0, none⟩ ∧ F g ∧ ∀ i, i < bat n s → w.cell? ⟨g, i * 9, none⟩ = some (.int .u64 ((s : Int) + i + 1))) := by
  obtain ⟨ao, cap, h1, h2⟩ := RowAt.form h
  rw [bat_length] at h1
  refine ⟨ao, cap, h1, ?_⟩
  rcases h2 with h2 | ⟨g, cur, h3, h4, h5, h6⟩
  · left; rw [← bat_length, h2]; rfl
  · right
    refine ⟨g, h3, h4, fun i hi => ?_⟩
    exact rec_cell h5 h6 (bat_at n s i hi) 0 (by omega)

/-- A link at b, a log of n numbered records at lb, both made behind w0. -/
structure SL (w0 w : World) (F : Nat → Prop) (b lb a s t n : Nat) : Prop where
  k : KAt w b a s t
  l : LogAt w F lb 256 0 (seqs 0 n)
  f : ∀ k, F k → w0.heap.size ≤ k
  d : ¬ F b
  b : w0.heap.size ≤ b
  w : Keep (fun _ => False) w0 w

section
variable {w0 w : World} {F : Nat → Prop} {b lb a s t n : Nat}
theorem SL.keep {w' : World} (h : SL w0 w F b lb a s t n) (k : Keep (fun _ => False) w w') : SL w0 w' F b lb a s t n :=
  ⟨h.k.keep k (fun e => e), h.l.keep k (fun _ _ e => e), h.f, h.d, h.b, h.w.trans k⟩
theorem SL.keepB {w' : World} {a' s' t' : Nat} (h : SL w0 w F b lb a s t n) (h1 : KAt w' b a' s' t') (k : Keep (fun k => k = b) w w') : SL w0 w' F b lb a' s' t' n :=
  ⟨h1, h.l.keep k (fun i hi e => h.d (e ▸ hi)), h.f, h.d, h.b, h.w.then k (fun i e => by have := h.b; omega)⟩

theorem SL.more (h : SL w0 w F b lb a s t n) (hs : s ≤ n) (hn : n ≤ 256) :
    Calls Try.prog 11 #[.pointer (some ⟨b, 0, none⟩), .pointer (some ⟨lb, 0, none⟩)] w fun e w' => ∃ v', e = .returned (.tuple #[v', .bool (decide (s < n))]) ∧
      RowAt w' (fun k => w.heap.size ≤ k ∧ k < w'.heap.size) v' (batch (seqs 0 n) s) ∧ SL w0 w' F b lb a (s + bat n s) t n := by
  have c := more_any h.k h.l (by rw [seqs_length]; exact hs) (by rw [seqs_length]; exact hn) (num_seqs n) h.d
  rw [seqs_length] at c
  refine c.mono ?_
  rintro e w' ⟨v', rfl, r, k, q⟩
  exact ⟨v', rfl, r, h.keepB k q⟩
theorem SL.tick_no (h : SL w0 w F b lb a s t n) (ht : t < 2) :
    Calls Try.prog 12 #[.pointer (some ⟨b, 0, none⟩), .pointer (some ⟨lb, 0, none⟩)] w fun e w' => e = .returned (.tuple #[.slice none 0 0, .bool false]) ∧ SL w0 w' F b lb a s (t + 1) n := by
  refine (ShpW.tick_no h.k _ ht).mono ?_
  rintro e w' ⟨rfl, k, q⟩
  exact ⟨rfl, h.keepB k q⟩
theorem SL.tick_yes (h : SL w0 w F b lb a s 2 n) (ha : a ≤ n) (hn : n ≤ 256) :
    Calls Try.prog 12 #[.pointer (some ⟨b, 0, none⟩), .pointer (some ⟨lb, 0, none⟩)] w fun e w' => ∃ v', e = .returned (.tuple #[v', .bool true]) ∧
      RowAt w' (fun k => w.heap.size ≤ k ∧ k < w'.heap.size) v' (batch (seqs 0 n) a) ∧ SL w0 w' F b lb a (a + bat n a) 0 n := by
  have c := ShpW.tick_yes h.k h.l rfl (by rw [seqs_length]; exact ha) (by rw [seqs_length]; exact hn) (num_seqs n) h.d
  rw [seqs_length] at c
  refine c.mono ?_
  rintro e w' ⟨v', rfl, r, k, q⟩
  exact ⟨v', rfl, r, h.keepB k q⟩
theorem SL.ack_no (h : SL w0 w F b lb a s t n) (q : Nat) (hq : q ≤ a ∨ n < q) (hn : n ≤ 256) :
    Calls Try.prog 13 #[.pointer (some ⟨b, 0, none⟩), .int .u64 q, .pointer (some ⟨lb, 0, none⟩)] w fun e w' => e = .returned (.bool false) ∧ SL w0 w' F b lb a s t n := by
  by_cases h1 : q ≤ a
  · refine (ack_low h.k _ q h1).mono ?_
    rintro e w' ⟨rfl, rfl⟩
    exact ⟨rfl, h⟩
  · refine (ack_high h.k h.l q (by omega) (by rw [seqs_length]; omega) (by rw [seqs_length]; omega)).mono ?_
    rintro e w' ⟨rfl, m, rfl⟩
    exact ⟨rfl, h.keep ((Keep.refl _ w).drewN m)⟩
theorem SL.ack_yes (h : SL w0 w F b lb a s t n) (q : Nat) (h1 : a < q) (h2 : q ≤ n) (hn : n ≤ 256) :
    Calls Try.prog 13 #[.pointer (some ⟨b, 0, none⟩), .int .u64 q, .pointer (some ⟨lb, 0, none⟩)] w fun e w' => e = .returned (.bool true) ∧ SL w0 w' F b lb q (max s q) 0 n := by
  refine (ShpW.ack_yes h.k h.l q h1 (by rw [seqs_length]; exact h2) (by rw [seqs_length]; omega)).mono ?_
  rintro e w' ⟨rfl, k, q⟩
  exact ⟨rfl, h.keepB k q⟩
theorem SL.add (h : SL w0 w F b lb a s t n) (hn : n < 256) :
    Calls Try.prog 10 #[.pointer (some ⟨lb, 0, none⟩), (rec0 ((n : Int) + 1) 0).agg] w fun e w' => e = .returned (.int .i64 0) ∧ ∃ F', SL w0 w' F' b lb a s t (n + 1) := by
  refine (add_at h.l (rec0 ((n : Int) + 1) 0) (by omega) (by rw [seqs_length]; exact hn) (by omega) (by rw [seqs_length]; simp [rec0])).mono ?_
  rintro e w' ⟨rfl, F', l', hF, k⟩
  refine ⟨rfl, F', h.k.keep k h.d, by rw [seqs_succ]; simpa using l', fun i hi => ?_, fun hb => ?_, h.b, h.w.then k h.f⟩
  · rcases hF i hi with e | e
    · exact h.f i e
    · have := h.w.size; omega
  · rcases hF b hb with e | e
    · exact h.d e
    · have := h.k.lt; omega
theorem SL.acked (h : SL w0 w F b lb a s t n) :
    Calls Try.prog 14 #[.pointer (some ⟨b, 0, none⟩)] w fun e w' => e = .returned (.int .u64 a) ∧ w = w' := acked_at b a s t w h.k
end

theorem filled_any (n : Nat) (hn : n ≤ 256) (w : World) :
    Calls Try.prog 7 #[.int .u64 0, .int .i64 n] w fun e w' => ∃ lb F, e = .returned (.tuple #[.pointer (some ⟨lb, 0, none⟩), .bool true]) ∧ LogAt w' F lb 256 0 (seqs 0 n) ∧ (∀ k, F k → w.heap.size ≤ k) ∧ Keep (fun _ => False) w w' := by
  go_enter Try.func7, Try.ntmps7
  go_wp2_with fail
  refine (new_at 0 256 (by omega) (by omega) _).mono ?_
  rintro e w1 ⟨rfl, l1, k1⟩
  have L1 := Lib.hid l1
  have K1 := Lib.hid k1
  clear l1 k1
  go_wp2_with fail
  go_loopw [7, 8] (fun e i wr => ∃ (k : Nat) (F : Nat → Prop), k ≤ n ∧ e = .int .i64 0 ∧ i = .int .i64 k ∧ LogAt wr F w.heap.size 256 0 (seqs 0 k) ∧ (∀ j, F j → w.heap.size ≤ j) ∧ Keep (fun _ => False) w wr) (fun e i wr => n - (intOf i).toNat)
  case atStart => exact ⟨0, _, by omega, rfl, rfl, L1.out, fun j e => by omega, K1.out⟩
  case round =>
    obtain ⟨k, F, hk, rfl, rfl, l3, hF, k3⟩ := hrel
    have L3 := Lib.hid l3
    have K3 := Lib.hid k3
    have HF := Lib.hid hF
    clear l3 k3 hF
    by_cases hlt : k < n
    · go_wp2_with fail
      refine (add_at L3.out (rec0 ((k : Int) + 1) 0) (by omega) (by rw [seqs_length]; omega) (by omega) (by rw [seqs_length]; simp [rec0])).mono ?_
      rintro e w4 ⟨rfl, F4, l4, d4, k4⟩
      have L4 := Lib.hid l4
      have D4 := Lib.hid d4
      have K4 := Lib.hid k4
      clear l4 d4 k4
      go_wp2_with fail
      go_roundw
      case rel => exact ⟨k + 1, F4, by omega, rfl, by go_num, by rw [seqs_succ]; simpa using L4.out, fun j e => by rcases D4.out j e with h | h; exact HF.out j h; have := K3.out.size; omega, K3.out.then K4.out HF.out⟩
      case measure => simp [intOf]; omega
    · obtain rfl : k = n := by omega
      go_wp2_with fail
      go_ret2
      exact ⟨_, F, rfl, L3.out, HF.out, K3.out⟩

/-- A new link beside a log. -/
theorem SL.start {w0 w w' : World} {F : Nat → Prop} {lb a n : Nat} (l : LogAt w F lb 256 0 (seqs 0 n)) (f : ∀ k, F k → w0.heap.size ≤ k) (hk : Keep (fun _ => False) w0 w) (h : KAt w' w.heap.size a a 0) (k : Keep (fun _ => False) w w') : SL w0 w' F w.heap.size lb a a 0 n :=
  ⟨h, l.keep k (fun _ _ e => e), f, fun e => by have := l.foot _ e; omega, hk.size, hk.trans k⟩

set_option maxHeartbeats 1000000 in
theorem awake_any (w : World) :
    Calls Try.prog 8 #[] w fun e w' => e = .returned (.bool true) ∧ Below w.heap.size w w' := by
  go_enter Try.func8, Try.ntmps8
  go_wp2_with fail
  refine (filled_any 3 (by omega) w).mono ?_
  rintro e w1 ⟨lb, F, rfl, l1, f1, k1⟩
  go_wp2_with fail
  refine (new_any 0 _).mono ?_
  rintro e w2 ⟨rfl, h2, k2⟩
  have S2 := SL.start l1 f1 k1 h2 k2
  clear l1 f1 k1 h2 k2
  generalize w1.heap.size = b at *
  go_wp2_with fail
  have C := S2.more (by omega) (by omega)
  rw [show decide (0 < 3) = true from rfl] at C
  refine C.mono ?_
  clear C
  rintro e w3 ⟨v3, rfl, r3, S3⟩
  obtain ⟨ao3, cap3, rfl, -⟩ := bat_form r3
  clear S2 r3
  have S3' : SL w w3 F b lb 0 3 0 3 := S3
  clear S3
  go_wp2_with fail
  have C := S3'.more (by omega) (by omega)
  rw [show decide (3 < 3) = false from rfl] at C
  refine C.mono ?_
  clear C
  rintro e w4 ⟨v4, rfl, r4, S4⟩
  have S4' : SL w w4 F b lb 0 3 0 3 := S4
  clear S3' r4 S4
  go_wp2_with fail
  refine (S4'.tick_no (by omega)).mono ?_
  rintro e w5 ⟨rfl, S5⟩
  clear S4'
  go_wp2_with fail
  refine (S5.tick_no (by omega)).mono ?_
  rintro e w6 ⟨rfl, S6⟩
  clear S5
  go_wp2_with fail
  refine (S6.tick_yes (by omega) (by omega)).mono ?_
  rintro e w7 ⟨v7, rfl, r7, S7⟩
  obtain ⟨ao7, cap7, rfl, -⟩ := bat_form r7
  clear S6 r7
  have S7' : SL w w7 F b lb 0 3 0 3 := S7
  clear S7
  have b3 : bat 3 0 = 3 := rfl
  simp only [b3]
  clear b3
  go_wp2_with fail
  refine (S7'.ack_yes 2 (by omega) (by omega) (by omega)).mono ?_
  rintro e w8 ⟨rfl, S8⟩
  clear S7'
  go_wp2_with fail
  refine S8.acked.mono ?_
  rintro e w9 ⟨rfl, rfl⟩
  go_wp2_with fail
  go_ret
  exact ⟨rfl, S8.w.below0⟩

end Go.Proofs.Ytiboacnjmogjaaa.ShpA
