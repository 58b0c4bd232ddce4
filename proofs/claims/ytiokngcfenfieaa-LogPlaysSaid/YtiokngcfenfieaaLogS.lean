/-
  The contracts of layer 13 (log): Slide.
-/
import Derived.Test.YtiokngcfenfieaaLogT
namespace Go.Proofs.Ytiokngcfenfieaa.LogS
set_option linter.unusedVariables false
set_option linter.unusedSimpArgs false
open Go.RowKit Go.Proofs.Ytiokngcfenfieaa.Mem Go.Proofs.Ytiokngcfenfieaa.LogW Go.Proofs.Ytiokngcfenfieaa.LogV Go.Proofs.Ytiokngcfenfieaa.LogU Go.Proofs.Ytiokngcfenfieaa.LogT

theorem slide_nil (r : Rec) (w : World) :
    Calls Try.prog 12 #[.pointer none, r.agg] w fun e w' => e = .returned (.int .i64 1) ∧ Keep (fun _ => False) w w' := by
  have ha := fun w => add_nil r w
  obtain ⟨seq, now, ses, num, kind, key, val, ttl, ver⟩ := r
  have Ha := Lib.hid ha
  clear ha
  simp only [Rec.agg, Rec.cells]
  go_enter Try.func12, Try.ntmps12
  go_wp2
  go_quiet (fail)
  go_wp2_with fail
  refine (Ha.out _).mono ?_
  rintro e w' ⟨rfl, hk⟩
  go_wp2
  go_ret
  exact ⟨rfl, ((Keep.refl _ _).alloc _).trans (Keep.of_drewN hk)⟩

section
variable {w : World} {F : Nat → Prop} {b most base : Nat} {rs : List Rec}
theorem slide_seq (h : LogAt w F b most base rs) (r : Rec) (hb : base ≤ 4611686018427387904) (hn : rs.length ≤ 256) (h0 : 0 ≤ r.seq) (h9 : r.seq ≤ 18446744073709551615) (hs : r.seq ≠ base + rs.length + 1) :
    Calls Try.prog 12 #[.pointer (some ⟨b, 0, none⟩), r.agg] w fun e w' => e = .returned (.int .i64 123) ∧ Keep (fun _ => False) w w' := by
  have hA : ∀ w1, Keep (fun _ => False) w w1 → Calls Try.prog 10 #[.pointer (some ⟨b, 0, none⟩), r.agg] w1 fun e w' => e = .returned (.int .i64 123) ∧ Keep (fun _ => False) w1 w' :=
    fun w1 hk => add_seq (h.keep hk (fun _ _ e => e)) r hb hn h0 h9 hs
  have hL : ∀ w1, Keep (fun _ => False) w w1 → Calls Try.prog 14 #[.pointer (some ⟨b, 0, none⟩)] w1 fun e w' => e = .returned (.int .u64 ((base : Int) + rs.length)) ∧ ∃ k, w' = w1.drewN k :=
    fun w1 hk => last_of (h.keep hk (fun _ _ e => e)) hb (by omega)
  have HA := Lib.hid hA
  have HL := Lib.hid hL
  clear hA hL h
  obtain ⟨seq, now, ses, num, kind, key, val, ttl, ver⟩ := r
  simp only at hs h0 h9
  simp only [Rec.agg, Rec.cells] at HA ⊢
  by_cases hz0 : seq = 0
  · subst hz0
    go_enter Try.func12, Try.ntmps12
    go_wp2
    go_quiet (fail)
    go_wp2_with fail
    refine (HA.out _ (((Keep.refl _ _).alloc _).drewN _)).mono ?_
    rintro e w' ⟨rfl, hk⟩
    go_wp2
    go_ret
    exact ⟨rfl, ((Keep.refl _ _).alloc _).trans (Keep.of_drewN hk)⟩
  · have hp : decide (0 < seq) = true := decide_eq_true (by omega)
    have h1 : 1 ≤ seq := by omega
    have hd : (seq - 1 == (base : Int) + rs.length) = false := by simp; omega
    go_enter Try.func12, Try.ntmps12
    go_wp2
    go_quiet ((go_at_call 14; exact Calls.quiet_of (HL.out _ (((Keep.refl _ _).alloc _).drewN _))))
    go_wp2_with fail
    refine (HA.out _ (((Keep.refl _ _).alloc _).drewN _)).mono ?_
    rintro e w' ⟨rfl, hk⟩
    go_wp2
    go_ret
    exact ⟨rfl, ((Keep.refl _ _).alloc _).trans (Keep.of_drewN hk)⟩

theorem slide_room (h : LogAt w F b most base rs) (r : Rec) (hb : base ≤ 4611686018427387904) (hn : rs.length < most) (hm : most ≤ 256) (hs : r.seq = base + rs.length + 1) :
    Calls Try.prog 12 #[.pointer (some ⟨b, 0, none⟩), r.agg] w fun e w' => e = .returned (.int .i64 0) ∧ ∃ F', LogAt w' F' b most base (rs ++ [r]) ∧ (∀ k, F' k → F k ∨ w.heap.size ≤ k) ∧ Keep F w w' := by
  have hA : ∀ w1, Keep (fun _ => False) w w1 → Calls Try.prog 10 #[.pointer (some ⟨b, 0, none⟩), r.agg] w1 fun e w' => e = .returned (.int .i64 0) ∧ ∃ F', LogAt w' F' b most base (rs ++ [r]) ∧ (∀ k, F' k → F k ∨ w1.heap.size ≤ k) ∧ Keep F w1 w' :=
    fun w1 hk => add_at (h.keep hk (fun _ _ e => e)) r hb hn hm hs
  have hL : ∀ w1, Keep (fun _ => False) w w1 → Calls Try.prog 14 #[.pointer (some ⟨b, 0, none⟩)] w1 fun e w' => e = .returned (.int .u64 ((base : Int) + rs.length)) ∧ ∃ k, w' = w1.drewN k :=
    fun w1 hk => last_of (h.keep hk (fun _ _ e => e)) hb (by omega)
  obtain ⟨v, h1, h2, h3, h4, h5, h6⟩ := h
  obtain ⟨ao, cap, rfl⟩ := owns_slice h2
  have c0 : w.cell? ⟨b, 0, none⟩ = some (.int .i64 most) := by rw [cell_at h1]; rfl
  have c2 : w.cell? ⟨b, 2, none⟩ = some (.slice ao rs.length cap) := by rw [cell_at h1]; rfl
  have hbw := lt_of_block h1
  have HA := Lib.hid hA
  have HL := Lib.hid hL
  clear hA hL h1 h2 h3 h4 h5 h6
  obtain ⟨seq, now, ses, num, kind, key, val, ttl, ver⟩ := r
  simp only at hs
  subst hs
  simp only [Rec.agg, Rec.cells] at HA ⊢
  have ha := fun o i => World.cell?_alloc_past (w := w) o b i hbw
  have hp : decide (0 < (base : Int) + rs.length + 1) = true := decide_eq_true (by omega)
  have hd : decide (most ≤ rs.length) = false := decide_eq_false (by omega)
  go_enter Try.func12, Try.ntmps12
  go_wp2
  go_quiet ((go_at_call 14; exact Calls.quiet_of (HL.out _ (((Keep.refl _ _).alloc _).drewN _))))
  go_wp2_with fail
  refine (HA.out _ (((Keep.refl _ _).alloc _).drewN _)).mono ?_
  rintro e w' ⟨rfl, F', g1, g2, g3⟩
  go_wp2
  go_ret
  exact ⟨rfl, F', g1, fun k hk => (g2 k hk).imp id (fun h => by simp at h; omega), ((Keep.refl _ _).alloc _).trans (Keep.of_drewN g3)⟩

theorem slide_full (h : LogAt w F b most base rs) (r : Rec) (hb : base ≤ 4611686018427387000) (hn : rs.length = most) (h1m : 1 ≤ most) (hm : most ≤ 256) (hs : r.seq = base + rs.length + 1) :
    Calls Try.prog 12 #[.pointer (some ⟨b, 0, none⟩), r.agg] w fun e w' => e = .returned (.int .i64 0) ∧ ∃ F', LogAt w' F' b most (base + 1) (rs.drop 1 ++ [r]) ∧ (∀ k, F' k → F k ∨ w.heap.size ≤ k) ∧ Keep F w w' := by
  have hA : ∀ F1 w1, LogAt w1 F1 b most (base + 1) (rs.drop 1) → Calls Try.prog 10 #[.pointer (some ⟨b, 0, none⟩), r.agg] w1 fun e w' => e = .returned (.int .i64 0) ∧ ∃ F', LogAt w' F' b most (base + 1) (rs.drop 1 ++ [r]) ∧ (∀ k, F' k → F1 k ∨ w1.heap.size ≤ k) ∧ Keep F1 w1 w' :=
    fun F1 w1 hl => add_at hl r (by omega) (by rw [List.length_drop]; omega) hm (by rw [List.length_drop, hs]; omega)
  have hC : ∀ w1, Keep (fun _ => False) w w1 → Calls Try.prog 18 #[.pointer (some ⟨b, 0, none⟩), .int .u64 ((base : Int) + 1)] w1 fun e w' => e = .returned (.tuple #[]) ∧ ∃ F', LogAt w' F' b most (base + 1) (rs.drop 1) ∧ (∀ k, F' k → F k ∨ w1.heap.size ≤ k) ∧ Keep F w1 w' := by
    intro w1 hk
    have := cut_yes (h.keep hk (fun _ _ e => e)) 1 (by omega) (by omega) (by omega) (by omega)
    rw [show min 1 rs.length = 1 from by omega] at this
    exact this
  have hL : ∀ w1, Keep (fun _ => False) w w1 → Calls Try.prog 14 #[.pointer (some ⟨b, 0, none⟩)] w1 fun e w' => e = .returned (.int .u64 ((base : Int) + rs.length)) ∧ ∃ k, w' = w1.drewN k :=
    fun w1 hk => last_of (h.keep hk (fun _ _ e => e)) (by omega) (by omega)
  have hbw := h.lt
  have hft := h.foot
  obtain ⟨v, h1, h2, h3, h4, h5, h6⟩ := h
  obtain ⟨ao, cap, rfl⟩ := owns_slice h2
  have c0 : w.cell? ⟨b, 0, none⟩ = some (.int .i64 most) := by rw [cell_at h1]; rfl
  have c1 : w.cell? ⟨b, 1, none⟩ = some (.int .u64 base) := by rw [cell_at h1]; rfl
  have c2 : w.cell? ⟨b, 2, none⟩ = some (.slice ao rs.length cap) := by rw [cell_at h1]; rfl
  have HA := Lib.hid hA
  have HL := Lib.hid hL
  have HC := Lib.hid hC
  have Hft := Lib.hid hft
  clear hA hL hC hft h1 h2 h3 h4 h5 h6
  obtain ⟨seq, now, ses, num, kind, key, val, ttl, ver⟩ := r
  simp only at hs
  subst hs
  simp only [Rec.agg, Rec.cells] at HA ⊢
  have ha := fun o i => World.cell?_alloc_past (w := w) o b i hbw
  have hp : decide (0 < (base : Int) + rs.length + 1) = true := decide_eq_true (by omega)
  have hd : decide (most ≤ rs.length) = true := decide_eq_true (by omega)
  have hb' : base ≤ 4611686018427387904 := by omega
  have hl : rs.length ≤ 256 := by omega
  have HN := Lib.hid hn
  clear hn
  go_enter Try.func12, Try.ntmps12
  go_wp2
  go_quiet ((go_at_call 14; exact Calls.quiet_of (HL.out _ (((Keep.refl _ _).alloc _).drewN _))))
  go_wp2_with fail
  refine (HC.out _ (((Keep.refl _ _).alloc _).drewN _)).mono ?_
  rintro e w1 ⟨rfl, F1, g1, g2, g3⟩
  have kx : w1.heap[w.heap.size]? = some (.cells #[.int .u64 ((base : Int) + rs.length + 1), .int .u64 now, .int .u64 ses, .int .u64 num, .int .i64 kind, .string key, .string val, .int .u64 ttl, .int .u64 ver] TR (0, 0)) :=
    (g3.block w.heap.size (by simp) (fun e => by have := Hft.out _ e; omega)).trans (block_new w _)
  have x0 := cell_at kx 0
  have x1 := cell_at kx 1
  have x2 := cell_at kx 2
  have x3 := cell_at kx 3
  have x4 := cell_at kx 4
  have x5 := cell_at kx 5
  have x6 := cell_at kx 6
  have x7 := cell_at kx 7
  have x8 := cell_at kx 8
  simp only [List.getElem?_toArray, List.getElem?_cons_zero, List.getElem?_cons_succ] at x0 x1 x2 x3 x4 x5 x6 x7 x8
  have Kx := Lib.hid kx
  clear kx
  have G1 := Lib.hid g1
  have G2 := Lib.hid g2
  clear g1 g2
  go_wp2_with fail
  refine (HA.out F1 _ G1.out).mono ?_
  rintro e w' ⟨rfl, F', i1, i2, i3⟩
  go_wp2
  go_ret
  refine ⟨rfl, F', i1, ?_, ?_⟩
  · intro k hk
    rcases i2 k hk with h | h
    · rcases G2.out k h with h | h
      · exact .inl h
      · simp at h; exact .inr (by omega)
    · have := g3.size; simp at this; exact .inr (by omega)
  · exact (((Keep.refl F w).alloc _).trans (Keep.of_drewN g3)).trans' i3 (fun k hk h => by
      rcases G2.out k h with h | h
      · exact h
      · simp at h; omega)
end

end Go.Proofs.Ytiokngcfenfieaa.LogS
