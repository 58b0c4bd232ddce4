/-
  The laws of layer 2 (stat): the walks.
-/
import Derived.Test.YtbhmgbcfkhmbpaaStatV
import Derived.OpenShut
import Derived.IntWalk
import Derived.Test.YtbhmgbcfkhmbpaaMem
import Derived.Deep.RegionHeld3
import Derived.Laws.StructEq
namespace Go.Proofs.Ytbhmgbcfkhmbpaa.StatL
set_option linter.unusedVariables false
set_option linter.unusedSimpArgs false
open Go.RowKit Go.Proofs.Ytbhmgbcfkhmbpaa.Mem Go.Proofs.Ytbhmgbcfkhmbpaa.StatW Go.Proofs.Ytbhmgbcfkhmbpaa.FloatP Go.Proofs.Ytbhmgbcfkhmbpaa.StatP Go.Proofs.Ytbhmgbcfkhmbpaa.FloatQ Go.Proofs.Ytbhmgbcfkhmbpaa.FloatRt Go.Proofs.Ytbhmgbcfkhmbpaa.StatV

theorem third : floatBits .quo .f64 (floatOfInt .f64 1) (floatOfInt .f64 3) = some 4599676419421066581 := by decide +kernel
theorem third_mul : floatBits .mul .f64 4599676419421066581 thousand = some 4644571678206416213 := by decide +kernel
theorem third_int : floatToIntVal .f64 (FloatKind.f64.encode ((FloatKind.f64.decode 4644571678206416213).integral .down)) .i64 = some 333 := by decide +kernel
theorem third_in : geB 4599676419421066581 0 = true ∧ leB 4599676419421066581 one = true := by decide +kernel
theorem third_perm : IsPerm 4599676419421066581 333 := by
  obtain ⟨n, h, _, _⟩ := perm_is 4599676419421066581
  rcases h with ⟨h1, h2, x, m, d, hn, hx, hd, hr⟩ | ⟨h, _⟩
  · have hx' := hx
    rw [third_mul] at hx'
    obtain rfl := Option.some.inj hx'
    have hi := hr.2.2.1
    rw [← hd, third_int] at hi
    have : (m : Int) = 333 := (Option.some.inj hi).symm
    exact .inl ⟨h1, h2, _, m, d, this.symm, hx, hd, hr⟩
  · rw [third_in.1, third_in.2] at h; rcases h with h | h <;> cases h

theorem awake_any (w : World) : Calls Try.prog 9 #[] w fun e w' => e = .returned (.bool true) ∧ Below w.heap.size w w' := by
  have hw : wrap64 1 = 1 := by decide +kernel
  have ho : ordF 0 4607182418800017408 = -1 := by decide +kernel
  go_enter Try.func9, Try.ntmps9
  go_wp2_with fail
  refine (rate_any 3 1 _).mono ?_
  rintro e w1 ⟨⟨wx, rfl⟩, b1⟩
  rw [(ar_some third wx).1]
  go_wp2_with fail
  refine (perMille_any _ 333 third_perm _).mono ?_
  rintro e w2 ⟨rfl, rfl⟩
  go_wp2_with fail
  refine (order_any _ _ _).mono ?_
  rintro e w2 ⟨rfl, rfl⟩
  go_wp2_with fail
  refine (add_any 1 0 0 1 _).mono ?_
  rintro e w2 ⟨rfl, b2⟩
  go_wp2_with fail
  go_ret
  exact ⟨rfl, b1.trans (b2.mono b1.size)⟩


theorem f_lt {a : Nat} (h : (Lit.float .f64 a).wf = true) : a < 18446744073709551616 := by
  have : a < 2 ^ 64 := by simpa [Lit.wf] using h
  omega

theorem statBlends_walk (o n t : Nat) (w : World) (w0 : (Lit.float .f64 o).wf = true) (w1 : (Lit.float .f64 n).wf = true) (w2 : (Lit.float .f64 t).wf = true) :
    Calls Try.prog 7 #[.float .f64 o, .float .f64 n, .float .f64 t] w fun e w' => e = .returned (.bool true) ∧ Below w.heap.size w w' := by
  clear w0 w1 w2
  go_enter Try.func7, Try.ntmps7
  go_wp2_with fail
  refine (awake_any _).mono ?_
  rintro e w1 ⟨rfl, b1⟩
  go_wp2_with fail
  refine (blend_any o n t _).mono ?_
  rintro e w2 ⟨⟨x1, x2, x3, x4, rfl⟩, k, rfl⟩
  go_wp2_with fail
  refine (refBlend_any o n t _).mono ?_
  rintro e w2 ⟨⟨y1, y2, y3, y4, rfl⟩, k', rfl⟩
  go_wp2_with fail
  refine (same_yes _ _ (blend_eqv o n t _ _ _ _ _ _ _ _) _).mono ?_
  rintro e w2 ⟨rfl, rfl⟩
  go_wp2_with fail
  go_ret
  exact ⟨rfl, ⟨b1.os, b1.tape, b1.output, b1.size, b1.block⟩⟩

theorem statAdds_walk (v0 v1 : Value) (w : World) (h0 : ∃ a h : Int, v0 = .agg #[.int .i64 a, .int .i64 h]) (h1 : ∃ a h : Int, v1 = .agg #[.int .i64 a, .int .i64 h]) :
    Calls Try.prog 4 #[v0, v1] w fun e w' => e = .returned (.bool true) ∧ Below w.heap.size w w' := by
  obtain ⟨a, h, rfl⟩ := h0
  obtain ⟨b, g, rfl⟩ := h1
  have c1 : wrap64 (b + a) = wrap64 (a + b) := by rw [Int.add_comm]
  have c2 : wrap64 (g + h) = wrap64 (h + g) := by rw [Int.add_comm]
  have A1 := add_any a h b g
  have A2 := add_any b g a h
  rw [c1, c2] at A2
  clear c1 c2
  generalize hx : wrap64 (a + b) = x at *
  generalize hy : wrap64 (h + g) = y at *
  have HA1 := Lib.hid A1
  have HA2 := Lib.hid A2
  have Hx := Lib.hid hx
  have Hy := Lib.hid hy
  clear A1 A2 hx hy
  go_enter Try.func4, Try.ntmps4
  go_wp2_with fail
  refine (HA1.out _).mono ?_
  rintro e w1 ⟨rfl, b1⟩
  go_wp2_with fail
  have z1 := b1.size
  simp only [World.size_alloc] at z1
  have k0 : (w1.alloc (.cells #[.int .i64 x, .int .i64 y] 27)).heap[w.heap.size]? = some (.cells #[.int .i64 a, .int .i64 h] 27) := by
    rw [Below.heap_alloc _ _ _ (by omega), b1.block _ (by simp; omega), Below.heap_alloc _ _ _ (by simp), heap_alloc_new]
  have k1 : (w1.alloc (.cells #[.int .i64 x, .int .i64 y] 27)).heap[w.heap.size + 1]? = some (.cells #[.int .i64 b, .int .i64 g] 27) := by
    rw [Below.heap_alloc _ _ _ (by omega), b1.block _ (by simp)]
    have := heap_alloc_new (w.alloc (.cells #[.int .i64 a, .int .i64 h] 27)) (.cells #[.int .i64 b, .int .i64 g] 27)
    simpa using this
  have k2 : (w1.alloc (.cells #[.int .i64 x, .int .i64 y] 27)).heap[w1.heap.size]? = some (.cells #[.int .i64 x, .int .i64 y] 27) := heap_alloc_new _ _
  have bw : Below w.heap.size w (w1.alloc (.cells #[.int .i64 x, .int .i64 y] 27)) :=
    ((((Below.refl _ w).alloc (Nat.le_refl _) _).alloc (by simp) _).trans (b1.mono (by simp; omega))).alloc (by omega) _
  generalize w1.alloc (.cells #[.int .i64 x, .int .i64 y] 27) = w2 at *
  generalize w1.heap.size = n2 at *
  have c0 : w2.cell? ⟨w.heap.size, 0, none⟩ = some (.int .i64 a) := by rw [cell_at k0]; rfl
  have c1 : w2.cell? ⟨w.heap.size, 1, none⟩ = some (.int .i64 h) := by rw [cell_at k0]; rfl
  have c2 : w2.cell? ⟨w.heap.size + 1, 0, none⟩ = some (.int .i64 b) := by rw [cell_at k1]; rfl
  have c3 : w2.cell? ⟨w.heap.size + 1, 1, none⟩ = some (.int .i64 g) := by rw [cell_at k1]; rfl
  have c4 : w2.cell? ⟨n2, 0, none⟩ = some (.int .i64 x) := by rw [cell_at k2]; rfl
  have c5 : w2.cell? ⟨n2, 1, none⟩ = some (.int .i64 y) := by rw [cell_at k2]; rfl
  clear k0 k1 k2 b1 z1
  have hx := Hx.out
  have hy := Hy.out
  have hx' : IntKind.i64.wrap (a + b) = x := (IntWalk.i64_left _).trans hx
  have hy' : IntKind.i64.wrap (h + g) = y := (IntWalk.i64_left _).trans hy
  go_region_held3 (fun w' => Below w.heap.size w w' ∧ w'.cell? ⟨w.heap.size, 0, none⟩ = some (.int .i64 a) ∧ w'.cell? ⟨w.heap.size, 1, none⟩ = some (.int .i64 h) ∧
      w'.cell? ⟨w.heap.size + 1, 0, none⟩ = some (.int .i64 b) ∧ w'.cell? ⟨w.heap.size + 1, 1, none⟩ = some (.int .i64 g) ∧
      w'.cell? ⟨n2, 0, none⟩ = some (.int .i64 x) ∧ w'.cell? ⟨n2, 1, none⟩ = some (.int .i64 y))
    (first
      | exact ⟨bw.drew, c0, c1, c2, c3, c4, c5⟩
      | assumption
      | (go_split_ands
         rename_i kb _ q0 q1 q2 q3 q4 q5
         exact ⟨Below.trans ‹Below w.heap.size w _› (kb.mono (Below.size ‹Below w.heap.size w _›)),
           (kb.cell (World.block_lt_of_cell? _ _ q0)).trans q0, (kb.cell (World.block_lt_of_cell? _ _ q1)).trans q1, (kb.cell (World.block_lt_of_cell? _ _ q2)).trans q2,
           (kb.cell (World.block_lt_of_cell? _ _ q3)).trans q3, (kb.cell (World.block_lt_of_cell? _ _ q4)).trans q4, (kb.cell (World.block_lt_of_cell? _ _ q5)).trans q5⟩))
    (first
      | (go_at_call 9; refine (awake_any _).mono ?_; rintro e w' ⟨rfl, kb⟩)
      | (go_at_call 12; refine (HA2.out _).mono ?_; rintro e w' ⟨rfl, kb⟩))
  rename_i HH
  have bz := HH.1
  clear HH
  go_wp2_with fail
  go_ret
  exact ⟨by simp, bz⟩

end Go.Proofs.Ytbhmgbcfkhmbpaa.StatL
