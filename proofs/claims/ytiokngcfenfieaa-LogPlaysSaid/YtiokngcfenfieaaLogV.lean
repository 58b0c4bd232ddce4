/-
  The contracts of layer 13 (log), over a log that is known by its records.
-/
import Derived.Test.YtiokngcfenfieaaLogW
namespace Go.Proofs.Ytiokngcfenfieaa.LogV
set_option linter.unusedVariables false
set_option linter.unusedSimpArgs false
open Go.RowKit Go.Proofs.Ytiokngcfenfieaa.Mem Go.Proofs.Ytiokngcfenfieaa.LogW

def flat (rs : List Rec) : List Value := rs.flatMap Rec.cells
theorem flat_length (rs : List Rec) : (flat rs).length = rs.length * 9 := by
  induction rs with
  | nil => rfl
  | cons r rs ih => unfold flat at *; rw [List.flatMap_cons, List.length_append, ih]; simp [Rec.cells]; omega
theorem flat_append (a b : List Rec) : flat (a ++ b) = flat a ++ flat b := by unfold flat; simp
theorem flat_one (r : Rec) : flat [r] = r.cells := by simp [flat]
theorem flat_drop (rs : List Rec) : ∀ d, flat (rs.drop d) = (flat rs).drop (d * 9) := by
  induction rs with
  | nil => intro d; simp [flat]
  | cons r rs ih =>
    intro d
    cases d with
    | zero => simp
    | succ d =>
      rw [List.drop_succ_cons, ih d]
      show _ = (r.cells ++ flat rs).drop _
      rw [show (d + 1) * 9 = r.cells.length + d * 9 from by simp [Rec.cells]; omega, ← List.drop_drop, List.drop_left]
theorem flat_take (rs : List Rec) : ∀ d, flat (rs.take d) = (flat rs).take (d * 9) := by
  induction rs with
  | nil => intro d; simp [flat]
  | cons r rs ih =>
    intro d
    cases d with
    | zero => simp [flat]
    | succ d =>
      rw [List.take_succ_cons]
      show r.cells ++ flat (rs.take d) = (r.cells ++ flat rs).take _
      rw [ih d, show (d + 1) * 9 = r.cells.length + d * 9 from by simp [Rec.cells]; omega, List.take_length_add_append]
theorem flat_one_cell (rs : List Rec) : ∀ u ∈ flat rs, u.oneCell' = true := by
  intro u hu
  simp only [flat, List.mem_flatMap] at hu
  obtain ⟨r, _, hr⟩ := hu
  simp [Rec.cells] at hr
  rcases hr with rfl | rfl | rfl | rfl | rfl | rfl | rfl | rfl | rfl <;> rfl

/-- A log lies at block b: its records; F: the blocks that it may touch. -/
def LogAt (w : World) (F : Nat → Prop) (b most base : Nat) (rs : List Rec) : Prop :=
  ∃ v, w.heap[b]? = some (.cells #[.int .i64 most, .int .u64 base, v] TL (0, 0)) ∧ w.ownsRow 0 TR 9 v rs.length (flat rs) ∧ v.ownBlock ≠ some b ∧ F b ∧ (∀ k, v.ownBlock = some k → F k) ∧ ∀ k, F k → k < w.heap.size
/-- A slice of records that somebody owns. -/
def RowAt (w : World) (F : Nat → Prop) (v : Value) (rs : List Rec) : Prop :=
  w.ownsRow 0 TR 9 v rs.length (flat rs) ∧ (∀ k, v.ownBlock = some k → F k) ∧ ∀ k, F k → k < w.heap.size

theorem LogAt.keep {w w' : World} {F S : Nat → Prop} {b most base : Nat} {rs : List Rec} (h : LogAt w F b most base rs) (hk : Keep S w w') (hd : ∀ k, F k → ¬ S k) : LogAt w' F b most base rs := by
  obtain ⟨v, h1, h2, h3, h4, h5, h6⟩ := h
  exact ⟨v, (hk.block b (lt_of_block h1) (hd b h4)).trans h1, owns_keep h2 hk (fun k e => hd k (h5 k e)), h3, h4, h5, fun k e => Nat.lt_of_lt_of_le (h6 k e) hk.size⟩
theorem RowAt.keep {w w' : World} {F S : Nat → Prop} {v : Value} {rs : List Rec} (h : RowAt w F v rs) (hk : Keep S w w') (hd : ∀ k, F k → ¬ S k) : RowAt w' F v rs := by
  obtain ⟨h1, h2, h3⟩ := h
  exact ⟨owns_keep h1 hk (fun k e => hd k (h2 k e)), h2, fun k e => Nat.lt_of_lt_of_le (h3 k e) hk.size⟩
theorem LogAt.lt {w : World} {F : Nat → Prop} {b most base : Nat} {rs : List Rec} (h : LogAt w F b most base rs) : b < w.heap.size := by
  obtain ⟨v, h1, _⟩ := h; exact lt_of_block h1
theorem LogAt.foot {w : World} {F : Nat → Prop} {b most base : Nat} {rs : List Rec} (h : LogAt w F b most base rs) : ∀ k, F k → k < w.heap.size := by
  obtain ⟨v, h1, h2, h3, h4, h5, h6⟩ := h; exact h6

theorem ret2 {a b c d : Value} (h : a = c) (h' : b = d) : Ending.returned (.tuple #[a, b]) = .returned (.tuple #[c, d]) := by rw [h, h']
theorem ret_i64 {a b : Int} (h : a = b) : Ending.returned (.int .i64 a) = .returned (.int .i64 b) := by rw [h]

theorem new_at (base most : Nat) (h1 : 1 ≤ most) (h2 : most ≤ 256) (w : World) :
    Calls Try.prog 8 #[.int .u64 base, .int .i64 most] w fun e w' => e = .returned (.tuple #[.pointer (some ⟨w.heap.size, 0, none⟩), .int .i64 0]) ∧ LogAt w' (fun k => k = w.heap.size) w.heap.size most base [] ∧ Keep (fun _ => False) w w' := by
  refine (new_ok base most (by omega) (by omega) w).mono ?_
  rintro e w' ⟨rfl, rfl⟩
  exact ⟨rfl, ⟨.slice none 0 0, block_new w _, World.ownsRow_nil _ _ _ _, by simp [Value.ownBlock], rfl, fun k hk => by simp [Value.ownBlock] at hk, fun k hk => by simp; omega⟩, (Keep.refl _ _).alloc _⟩

section
variable {w : World} {F : Nat → Prop} {b most base : Nat} {rs : List Rec}

theorem base_at (h : LogAt w F b most base rs) :
    Calls Try.prog 13 #[.pointer (some ⟨b, 0, none⟩)] w fun e w' => e = .returned (.int .u64 base) ∧ w = w' := by
  obtain ⟨v, h1, h2, h3, h4, h5, h6⟩ := h
  have c1 : w.cell? ⟨b, 1, none⟩ = some (.int .u64 base) := by rw [cell_at h1]; rfl
  clear h1 h2 h3 h4 h5 h6
  go_enter Try.func13, Try.ntmps13
  go_wp2
  go_ret
  exact ⟨rfl, rfl⟩

theorem last_of (h : LogAt w F b most base rs) (hb : base ≤ 4611686018427387904) (hn : rs.length ≤ 4611686018427387904) :
    Calls Try.prog 14 #[.pointer (some ⟨b, 0, none⟩)] w fun e w' => e = .returned (.int .u64 ((base : Int) + rs.length)) ∧ ∃ k, w' = w.drewN k := by
  obtain ⟨v, h1, h2, h3, h4, h5, h6⟩ := h
  obtain ⟨ao, cap, rfl⟩ := owns_slice h2
  exact last_at b base ao rs.length cap w hb hn (by rw [cell_at h1]; rfl) (by rw [cell_at h1]; rfl)

theorem room_at (h : LogAt w F b most base rs) (hm : most ≤ 4611686018427387904) (hn : rs.length ≤ 4611686018427387904) :
    Calls Try.prog 17 #[.pointer (some ⟨b, 0, none⟩)] w fun e w' => e = .returned (.int .i64 ((most : Int) - rs.length)) ∧ ∃ k, w' = w.drewN k := by
  obtain ⟨v, h1, h2, h3, h4, h5, h6⟩ := h
  obtain ⟨ao, cap, rfl⟩ := owns_slice h2
  have c0 : w.cell? ⟨b, 0, none⟩ = some (.int .i64 most) := by rw [cell_at h1]; rfl
  have c2 : w.cell? ⟨b, 2, none⟩ = some (.slice ao rs.length cap) := by rw [cell_at h1]; rfl
  generalize rs.length = n at *
  clear h1 h2 h3 h4 h5 h6
  go_enter Try.func17, Try.ntmps17
  go_wp2
  go_quiet (fail)
  go_wp2
  go_ret
  exact ⟨rfl, _, rfl⟩

theorem nils (w : World) :
    Calls Try.prog 13 #[.pointer none] w (fun e w' => e = .returned (.int .u64 0) ∧ w = w') ∧ Calls Try.prog 17 #[.pointer none] w (fun e w' => e = .returned (.int .i64 0) ∧ w = w') := by
  constructor
  · go_enter Try.func13, Try.ntmps13
    go_wp2
    go_ret
    exact ⟨rfl, rfl⟩
  · go_enter Try.func17, Try.ntmps17
    go_wp2
    go_ret
    exact ⟨rfl, rfl⟩

/-- A record behind all. -/
theorem add_at (h : LogAt w F b most base rs) (r : Rec) (hb : base ≤ 4611686018427387904) (hn : rs.length < most) (hm : most ≤ 256) (hs : r.seq = base + rs.length + 1) :
    Calls Try.prog 10 #[.pointer (some ⟨b, 0, none⟩), r.agg] w fun e w' => e = .returned (.int .i64 0) ∧ ∃ F', LogAt w' F' b most base (rs ++ [r]) ∧ (∀ k, F' k → F k ∨ w.heap.size ≤ k) ∧ Keep F w w' := by
  obtain ⟨v, h1, h2, h3, h4, h5, h6⟩ := h
  refine (add_ok b base most v rs.length (flat rs) r w hb hn hm h1 h2 h3 hs).mono ?_
  rintro e w' ⟨rfl, v', g1, g2, g3, g4⟩
  refine ⟨rfl, fun k => k = b ∨ v'.ownBlock = some k, ⟨v', g1, ?_, ?_, .inl rfl, fun k hk => .inr hk, ?_⟩, ?_, g4.mono ?_⟩
  · rw [List.length_append, flat_append, flat_one]; exact g2
  · rcases g3 with g3 | ⟨g, g3, hg⟩
    · rw [g3]; exact h3
    · intro e; rw [e] at g3; have := Option.some.inj g3; have := lt_of_block h1; omega
  · rintro k (rfl | hk)
    · exact lt_of_block g1
    · exact (g2.lt k hk).2
  · rintro k (rfl | hk)
    · exact .inl h4
    · rcases g3 with g3 | ⟨g, g3, hg⟩
      · exact .inl (h5 k (g3 ▸ hk))
      · rw [g3] at hk; have := Option.some.inj hk; exact .inr (by omega)
  · rintro k _ (rfl | hk)
    · exact h4
    · exact h5 k hk

theorem add_seq (h : LogAt w F b most base rs) (r : Rec) (hb : base ≤ 4611686018427387904) (hn : rs.length ≤ 256) (h0 : 0 ≤ r.seq) (h9 : r.seq ≤ 18446744073709551615) (hs : r.seq ≠ base + rs.length + 1) :
    Calls Try.prog 10 #[.pointer (some ⟨b, 0, none⟩), r.agg] w fun e w' => e = .returned (.int .i64 123) ∧ Keep (fun _ => False) w w' := by
  have hbw := h.lt
  obtain ⟨v, h1, h2, h3, h4, h5, h6⟩ := h
  obtain ⟨ao, cap, rfl⟩ := owns_slice h2
  have c0 : w.cell? ⟨b, 0, none⟩ = some (.int .i64 most) := by rw [cell_at h1]; rfl
  have c1 : w.cell? ⟨b, 1, none⟩ = some (.int .u64 base) := by rw [cell_at h1]; rfl
  have c2 : w.cell? ⟨b, 2, none⟩ = some (.slice ao rs.length cap) := by rw [cell_at h1]; rfl
  obtain ⟨seq, now, ses, num, kind, key, val, ttl, ver⟩ := r
  simp only at hs h0 h9
  generalize rs.length = n at *
  clear h1 h2 h3 h4 h5 h6
  simp only [Rec.agg, Rec.cells]
  have ha := fun o i => World.cell?_alloc_past (w := w) o b i hbw
  by_cases hz0 : seq = 0
  · subst hz0
    go_enter Try.func10, Try.ntmps10
    go_wp2
    go_quiet (fail)
    go_wp2
    go_ret
    exact ⟨rfl, by repeat (first | exact Keep.refl _ _ | apply Keep.drewN | apply Keep.alloc)⟩
  · have hz : (seq == 0) = false := by simpa using hz0
    have h1 : 1 ≤ seq := by omega
    have hd : (seq - 1 != (base : Int) + n) = true := by simp; omega
    go_enter Try.func10, Try.ntmps10
    go_wp2
    go_quiet ((go_at_call 14; exact Calls.quiet_of (last_at b base ao n cap _ hb (by omega) (by go_simp) (by go_simp))))
    go_wp2
    go_ret
    exact ⟨rfl, by repeat (first | exact Keep.refl _ _ | apply Keep.drewN | apply Keep.alloc)⟩

theorem add_full' (h : LogAt w F b most base rs) (r : Rec) (hb : base ≤ 4611686018427387904) (hn : rs.length ≤ 256) (hm : most ≤ rs.length) (hs : r.seq = base + rs.length + 1) :
    Calls Try.prog 10 #[.pointer (some ⟨b, 0, none⟩), r.agg] w fun e w' => e = .returned (.int .i64 130) ∧ Keep (fun _ => False) w w' := by
  have hbw := h.lt
  obtain ⟨v, h1, h2, h3, h4, h5, h6⟩ := h
  obtain ⟨ao, cap, rfl⟩ := owns_slice h2
  exact add_full b base most ao rs.length cap r w hbw hb (by omega) (by rw [cell_at h1]; rfl) (by rw [cell_at h1]; rfl) (by rw [cell_at h1]; rfl) hs hm
end

theorem add_nil (r : Rec) (w : World) :
    Calls Try.prog 10 #[.pointer none, r.agg] w fun e w' => e = .returned (.int .i64 1) ∧ Keep (fun _ => False) w w' := by
  obtain ⟨seq, now, ses, num, kind, key, val, ttl, ver⟩ := r
  simp only [Rec.agg, Rec.cells]
  go_enter Try.func10, Try.ntmps10
  go_wp2
  go_ret
  exact ⟨rfl, by repeat (first | exact Keep.refl _ _ | apply Keep.drewN | apply Keep.alloc)⟩

end Go.Proofs.Ytiokngcfenfieaa.LogV
