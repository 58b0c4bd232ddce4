/-
  Layer 17 (quorum): no proposer does nothing; which may be.
-/
import Derived.Test.YtppnjkiegiokeaaQuoN
import Derived.Test.YtppnjkiegiokeaaQuoOp
import Derived.IntWalk
namespace Go.Proofs.Ytppnjkiegiokeaa.QuoNon
set_option linter.unusedVariables false
set_option linter.unusedSimpArgs false
open Go.RowKit Go.Proofs.Ytppnjkiegiokeaa.Mem Go.Proofs.Ytppnjkiegiokeaa.QuoW Go.Proofs.Ytppnjkiegiokeaa.QuoV Go.Proofs.Ytppnjkiegiokeaa.QuoU Go.Proofs.Ytppnjkiegiokeaa.QuoR Go.Proofs.Ytppnjkiegiokeaa.QuoS Go.Proofs.Ytppnjkiegiokeaa.QuoA Go.Proofs.Ytppnjkiegiokeaa.QuoT Go.Proofs.Ytppnjkiegiokeaa.QuoN
attribute [-go_sem] Instr.loadAt loadVar
attribute [local go_sem] QuoT.loadAt_ptr QuoT.lv_bool QuoT.lv_int QuoT.lv_u64

theorem wrap_ne (x y : Int) (x0 : 0 ≤ x) (x1 : x ≤ 18446744073709551615) (y0 : 0 ≤ y) (y1 : y ≤ 18446744073709551615) (h : (x != IntKind.u64.wrap (y + 1)) = true) : (IntKind.u64.wrap (x - 1) == y) = false := by
  rw [IntKind.wrap_u64] at *
  simp only [bne_iff_ne, ne_eq] at h
  rw [beq_eq_false_iff_ne]
  omega
theorem wrap_eq (x y : Int) (x0 : 0 ≤ x) (x1 : x ≤ 18446744073709551615) (y0 : 0 ≤ y) (y1 : y ≤ 18446744073709551615) (h : (x != IntKind.u64.wrap (y + 1)) = false) : (IntKind.u64.wrap (x - 1) == y) = true := by
  rw [IntKind.wrap_u64] at *
  simp only [bne_eq_false_iff_eq] at h
  rw [beq_iff_eq]
  omega

set_option maxRecDepth 100000 in
set_option maxHeartbeats 4000000 in
theorem none1 (a b : Vw) (me : Int) (w : World) (hck1 : chk a = false) :
    Calls Try.prog 6 #[.agg #[.int .u64 a.v, .int .i64 a.p, .int .u64 a.pl, .int .i64 a.b, .int .u64 a.bl, .int .u64 a.e], .agg #[.int .u64 b.v, .int .i64 b.p, .int .u64 b.pl, .int .i64 b.b, .int .u64 b.bl, .int .u64 b.e], .int .i64 me] w fun e w' => e = .returned (.bool true) ∧ Below w.heap.size w w' := by
  have B := ((Below.refl w.heap.size w).alloc (Nat.le_refl _) (.cells #[.int .u64 a.v, .int .i64 a.p, .int .u64 a.pl, .int .i64 a.b, .int .u64 a.bl, .int .u64 a.e] 29)).alloc (by simp) (.cells #[.int .u64 b.v, .int .i64 b.p, .int .u64 b.pl, .int .i64 b.b, .int .u64 b.bl, .int .u64 b.e] 29)
  have ha : VAt ((w.alloc (.cells #[.int .u64 a.v, .int .i64 a.p, .int .u64 a.pl, .int .i64 a.b, .int .u64 a.bl, .int .u64 a.e] 29)).alloc (.cells #[.int .u64 b.v, .int .i64 b.p, .int .u64 b.pl, .int .i64 b.b, .int .u64 b.bl, .int .u64 b.e] 29)) w.heap.size a := block_alloc (block_new w _) _
  have hb : VAt ((w.alloc (.cells #[.int .u64 a.v, .int .i64 a.p, .int .u64 a.pl, .int .i64 a.b, .int .u64 a.bl, .int .u64 a.e] 29)).alloc (.cells #[.int .u64 b.v, .int .i64 b.p, .int .u64 b.pl, .int .i64 b.b, .int .u64 b.bl, .int .u64 b.e] 29)) (w.heap.size + 1) b := block_new_at (by simp)
  go_enter Try.func6, Try.ntmps6
  go_upto_region 1 with fail
  generalize ((w.alloc (.cells #[.int .u64 a.v, .int .i64 a.p, .int .u64 a.pl, .int .i64 a.b, .int .u64 a.bl, .int .u64 a.e] 29)).alloc (.cells #[.int .u64 b.v, .int .i64 b.p, .int .u64 b.pl, .int .i64 b.b, .int .u64 b.bl, .int .u64 b.e] 29)) = u0 at *
  have ld1 : (loadVar 29 ⟨w.heap.size, 0, none⟩).run Try.prog u0 = _ := load_v ha
  have ld2 : (loadVar 29 ⟨w.heap.size + 1, 0, none⟩).run Try.prog u0 = _ := load_v hb
  have ca : u0.cell? ⟨w.heap.size, 0, none⟩ = some (.int .u64 a.v) := cell_at ha 0
  have cb : u0.cell? ⟨w.heap.size + 1, 0, none⟩ = some (.int .u64 b.v) := cell_at hb 0
  have cp : u0.cell? ⟨w.heap.size + 1, 2, none⟩ = some (.int .u64 b.pl) := cell_at hb 2
  have NEWC := Lib.hid (new1 a b me b.pl u0 hck1)
  go_wp2_with fail
  refine (NEWC.out).mono ?_
  rintro e u1 ⟨rfl, k⟩
  clear ld1 ld2 ca cb cp
  replace ha : VAt u1 w.heap.size a := below_block k ha
  replace hb : VAt u1 (w.heap.size + 1) b := below_block k hb
  replace B := bb B k
  clear k
  have ld1 : (loadVar 29 ⟨w.heap.size, 0, none⟩).run Try.prog u1 = _ := load_v ha
  have ld2 : (loadVar 29 ⟨w.heap.size + 1, 0, none⟩).run Try.prog u1 = _ := load_v hb
  have ca : u1.cell? ⟨w.heap.size, 0, none⟩ = some (.int .u64 a.v) := cell_at ha 0
  have cb : u1.cell? ⟨w.heap.size + 1, 0, none⟩ = some (.int .u64 b.v) := cell_at hb 0
  have cp : u1.cell? ⟨w.heap.size + 1, 2, none⟩ = some (.int .u64 b.pl) := cell_at hb 2
  have C1 := check_any a u1
  rw [hck1] at C1
  go_wp2_with fail
  refine (C1).mono ?_
  rintro e u2 ⟨rfl, k⟩
  clear ld1 ld2 ca cb cp
  replace ha : VAt u2 w.heap.size a := below_block k ha
  replace hb : VAt u2 (w.heap.size + 1) b := below_block k hb
  replace B := bb B k
  clear k
  have ld1 : (loadVar 29 ⟨w.heap.size, 0, none⟩).run Try.prog u2 = _ := load_v ha
  have ld2 : (loadVar 29 ⟨w.heap.size + 1, 0, none⟩).run Try.prog u2 = _ := load_v hb
  have ca : u2.cell? ⟨w.heap.size, 0, none⟩ = some (.int .u64 a.v) := cell_at ha 0
  have cb : u2.cell? ⟨w.heap.size + 1, 0, none⟩ = some (.int .u64 b.v) := cell_at hb 0
  have cp : u2.cell? ⟨w.heap.size + 1, 2, none⟩ = some (.int .u64 b.pl) := cell_at hb 2
  go_wp2_with fail
  refine (awake_any u2).mono ?_
  rintro e u3 ⟨rfl, k⟩
  clear ld1 ld2 ca cb cp
  replace ha : VAt u3 w.heap.size a := below_block k ha
  replace hb : VAt u3 (w.heap.size + 1) b := below_block k hb
  replace B := bb B k
  clear k
  clear ha hb
  go_wp2_with fail
  refine (nil_begin u3).mono ?_
  rintro e u4 ⟨rfl, k⟩
  replace B := bb B k
  clear k
  go_wp2_with fail
  refine (nil_ballot u4).mono ?_
  rintro e u5 ⟨rfl, k⟩
  replace B := bb B k
  clear k
  go_wp2_with fail
  refine (nil_promised u5).mono ?_
  rintro e u6 ⟨rfl, k⟩
  replace B := bb B k
  clear k
  go_wp2_with fail
  refine (nil_took u6).mono ?_
  rintro e u7 ⟨rfl, k⟩
  replace B := bb B k
  clear k
  go_wp2_with fail
  refine (nil_second u7).mono ?_
  rintro e u8 ⟨rfl, k⟩
  replace B := bb B k
  clear k
  go_wp2_with fail
  refine (nil_value u8).mono ?_
  rintro e u9 ⟨rfl, k⟩
  replace B := bb B k
  clear k
  go_wp2_with fail
  refine (nil_known u9).mono ?_
  rintro e u10 ⟨rfl, k⟩
  replace B := bb B k
  clear k
  go_wp2_with fail
  go_ret
  exact ⟨rfl, B⟩

set_option maxRecDepth 100000 in
set_option maxHeartbeats 4000000 in
theorem none2 (a b : Vw) (me : Int) (w : World) (hck1 : chk a = true) (hck2 : chk b = false) :
    Calls Try.prog 6 #[.agg #[.int .u64 a.v, .int .i64 a.p, .int .u64 a.pl, .int .i64 a.b, .int .u64 a.bl, .int .u64 a.e], .agg #[.int .u64 b.v, .int .i64 b.p, .int .u64 b.pl, .int .i64 b.b, .int .u64 b.bl, .int .u64 b.e], .int .i64 me] w fun e w' => e = .returned (.bool true) ∧ Below w.heap.size w w' := by
  have B := ((Below.refl w.heap.size w).alloc (Nat.le_refl _) (.cells #[.int .u64 a.v, .int .i64 a.p, .int .u64 a.pl, .int .i64 a.b, .int .u64 a.bl, .int .u64 a.e] 29)).alloc (by simp) (.cells #[.int .u64 b.v, .int .i64 b.p, .int .u64 b.pl, .int .i64 b.b, .int .u64 b.bl, .int .u64 b.e] 29)
  have ha : VAt ((w.alloc (.cells #[.int .u64 a.v, .int .i64 a.p, .int .u64 a.pl, .int .i64 a.b, .int .u64 a.bl, .int .u64 a.e] 29)).alloc (.cells #[.int .u64 b.v, .int .i64 b.p, .int .u64 b.pl, .int .i64 b.b, .int .u64 b.bl, .int .u64 b.e] 29)) w.heap.size a := block_alloc (block_new w _) _
  have hb : VAt ((w.alloc (.cells #[.int .u64 a.v, .int .i64 a.p, .int .u64 a.pl, .int .i64 a.b, .int .u64 a.bl, .int .u64 a.e] 29)).alloc (.cells #[.int .u64 b.v, .int .i64 b.p, .int .u64 b.pl, .int .i64 b.b, .int .u64 b.bl, .int .u64 b.e] 29)) (w.heap.size + 1) b := block_new_at (by simp)
  go_enter Try.func6, Try.ntmps6
  go_upto_region 1 with fail
  generalize ((w.alloc (.cells #[.int .u64 a.v, .int .i64 a.p, .int .u64 a.pl, .int .i64 a.b, .int .u64 a.bl, .int .u64 a.e] 29)).alloc (.cells #[.int .u64 b.v, .int .i64 b.p, .int .u64 b.pl, .int .i64 b.b, .int .u64 b.bl, .int .u64 b.e] 29)) = u0 at *
  have ld1 : (loadVar 29 ⟨w.heap.size, 0, none⟩).run Try.prog u0 = _ := load_v ha
  have ld2 : (loadVar 29 ⟨w.heap.size + 1, 0, none⟩).run Try.prog u0 = _ := load_v hb
  have ca : u0.cell? ⟨w.heap.size, 0, none⟩ = some (.int .u64 a.v) := cell_at ha 0
  have cb : u0.cell? ⟨w.heap.size + 1, 0, none⟩ = some (.int .u64 b.v) := cell_at hb 0
  have cp : u0.cell? ⟨w.heap.size + 1, 2, none⟩ = some (.int .u64 b.pl) := cell_at hb 2
  have NEWC := Lib.hid (new2 a b me b.pl u0 hck1 hck2)
  go_wp2_with fail
  refine (NEWC.out).mono ?_
  rintro e u1 ⟨rfl, k⟩
  clear ld1 ld2 ca cb cp
  replace ha : VAt u1 w.heap.size a := below_block k ha
  replace hb : VAt u1 (w.heap.size + 1) b := below_block k hb
  replace B := bb B k
  clear k
  have ld1 : (loadVar 29 ⟨w.heap.size, 0, none⟩).run Try.prog u1 = _ := load_v ha
  have ld2 : (loadVar 29 ⟨w.heap.size + 1, 0, none⟩).run Try.prog u1 = _ := load_v hb
  have ca : u1.cell? ⟨w.heap.size, 0, none⟩ = some (.int .u64 a.v) := cell_at ha 0
  have cb : u1.cell? ⟨w.heap.size + 1, 0, none⟩ = some (.int .u64 b.v) := cell_at hb 0
  have cp : u1.cell? ⟨w.heap.size + 1, 2, none⟩ = some (.int .u64 b.pl) := cell_at hb 2
  have C1 := check_any a u1
  rw [hck1] at C1
  go_wp2_with fail
  refine (C1).mono ?_
  rintro e u2 ⟨rfl, k⟩
  clear ld1 ld2 ca cb cp
  replace ha : VAt u2 w.heap.size a := below_block k ha
  replace hb : VAt u2 (w.heap.size + 1) b := below_block k hb
  replace B := bb B k
  clear k
  have ld1 : (loadVar 29 ⟨w.heap.size, 0, none⟩).run Try.prog u2 = _ := load_v ha
  have ld2 : (loadVar 29 ⟨w.heap.size + 1, 0, none⟩).run Try.prog u2 = _ := load_v hb
  have ca : u2.cell? ⟨w.heap.size, 0, none⟩ = some (.int .u64 a.v) := cell_at ha 0
  have cb : u2.cell? ⟨w.heap.size + 1, 0, none⟩ = some (.int .u64 b.v) := cell_at hb 0
  have cp : u2.cell? ⟨w.heap.size + 1, 2, none⟩ = some (.int .u64 b.pl) := cell_at hb 2
  have C2 := check_any b u2
  rw [hck2] at C2
  go_wp2_with fail
  refine (C2).mono ?_
  rintro e u3 ⟨rfl, k⟩
  clear ld1 ld2 ca cb cp
  replace ha : VAt u3 w.heap.size a := below_block k ha
  replace hb : VAt u3 (w.heap.size + 1) b := below_block k hb
  replace B := bb B k
  clear k
  have ld1 : (loadVar 29 ⟨w.heap.size, 0, none⟩).run Try.prog u3 = _ := load_v ha
  have ld2 : (loadVar 29 ⟨w.heap.size + 1, 0, none⟩).run Try.prog u3 = _ := load_v hb
  have ca : u3.cell? ⟨w.heap.size, 0, none⟩ = some (.int .u64 a.v) := cell_at ha 0
  have cb : u3.cell? ⟨w.heap.size + 1, 0, none⟩ = some (.int .u64 b.v) := cell_at hb 0
  have cp : u3.cell? ⟨w.heap.size + 1, 2, none⟩ = some (.int .u64 b.pl) := cell_at hb 2
  go_wp2_with fail
  refine (awake_any u3).mono ?_
  rintro e u4 ⟨rfl, k⟩
  clear ld1 ld2 ca cb cp
  replace ha : VAt u4 w.heap.size a := below_block k ha
  replace hb : VAt u4 (w.heap.size + 1) b := below_block k hb
  replace B := bb B k
  clear k
  clear ha hb
  go_wp2_with fail
  refine (nil_begin u4).mono ?_
  rintro e u5 ⟨rfl, k⟩
  replace B := bb B k
  clear k
  go_wp2_with fail
  refine (nil_ballot u5).mono ?_
  rintro e u6 ⟨rfl, k⟩
  replace B := bb B k
  clear k
  go_wp2_with fail
  refine (nil_promised u6).mono ?_
  rintro e u7 ⟨rfl, k⟩
  replace B := bb B k
  clear k
  go_wp2_with fail
  refine (nil_took u7).mono ?_
  rintro e u8 ⟨rfl, k⟩
  replace B := bb B k
  clear k
  go_wp2_with fail
  refine (nil_second u8).mono ?_
  rintro e u9 ⟨rfl, k⟩
  replace B := bb B k
  clear k
  go_wp2_with fail
  refine (nil_value u9).mono ?_
  rintro e u10 ⟨rfl, k⟩
  replace B := bb B k
  clear k
  go_wp2_with fail
  refine (nil_known u10).mono ?_
  rintro e u11 ⟨rfl, k⟩
  replace B := bb B k
  clear k
  go_wp2_with fail
  go_ret
  exact ⟨rfl, B⟩

set_option maxRecDepth 100000 in
set_option maxHeartbeats 4000000 in
theorem none3 (a b : Vw) (me : Int) (w : World) (hck1 : chk a = true) (hck2 : chk b = true) (hv : (b.v != IntKind.u64.wrap (a.v + 1)) = true) (a0 : 0 ≤ a.v) (a1 : a.v ≤ 18446744073709551615) (b0 : 0 ≤ b.v) (b1 : b.v ≤ 18446744073709551615) :
    Calls Try.prog 6 #[.agg #[.int .u64 a.v, .int .i64 a.p, .int .u64 a.pl, .int .i64 a.b, .int .u64 a.bl, .int .u64 a.e], .agg #[.int .u64 b.v, .int .i64 b.p, .int .u64 b.pl, .int .i64 b.b, .int .u64 b.bl, .int .u64 b.e], .int .i64 me] w fun e w' => e = .returned (.bool true) ∧ Below w.heap.size w w' := by
  have hv2 := wrap_ne b.v a.v b0 b1 a0 a1 hv
  clear a0 a1 b0 b1
  have B := ((Below.refl w.heap.size w).alloc (Nat.le_refl _) (.cells #[.int .u64 a.v, .int .i64 a.p, .int .u64 a.pl, .int .i64 a.b, .int .u64 a.bl, .int .u64 a.e] 29)).alloc (by simp) (.cells #[.int .u64 b.v, .int .i64 b.p, .int .u64 b.pl, .int .i64 b.b, .int .u64 b.bl, .int .u64 b.e] 29)
  have ha : VAt ((w.alloc (.cells #[.int .u64 a.v, .int .i64 a.p, .int .u64 a.pl, .int .i64 a.b, .int .u64 a.bl, .int .u64 a.e] 29)).alloc (.cells #[.int .u64 b.v, .int .i64 b.p, .int .u64 b.pl, .int .i64 b.b, .int .u64 b.bl, .int .u64 b.e] 29)) w.heap.size a := block_alloc (block_new w _) _
  have hb : VAt ((w.alloc (.cells #[.int .u64 a.v, .int .i64 a.p, .int .u64 a.pl, .int .i64 a.b, .int .u64 a.bl, .int .u64 a.e] 29)).alloc (.cells #[.int .u64 b.v, .int .i64 b.p, .int .u64 b.pl, .int .i64 b.b, .int .u64 b.bl, .int .u64 b.e] 29)) (w.heap.size + 1) b := block_new_at (by simp)
  go_enter Try.func6, Try.ntmps6
  go_upto_region 1 with fail
  generalize ((w.alloc (.cells #[.int .u64 a.v, .int .i64 a.p, .int .u64 a.pl, .int .i64 a.b, .int .u64 a.bl, .int .u64 a.e] 29)).alloc (.cells #[.int .u64 b.v, .int .i64 b.p, .int .u64 b.pl, .int .i64 b.b, .int .u64 b.bl, .int .u64 b.e] 29)) = u0 at *
  have ld1 : (loadVar 29 ⟨w.heap.size, 0, none⟩).run Try.prog u0 = _ := load_v ha
  have ld2 : (loadVar 29 ⟨w.heap.size + 1, 0, none⟩).run Try.prog u0 = _ := load_v hb
  have ca : u0.cell? ⟨w.heap.size, 0, none⟩ = some (.int .u64 a.v) := cell_at ha 0
  have cb : u0.cell? ⟨w.heap.size + 1, 0, none⟩ = some (.int .u64 b.v) := cell_at hb 0
  have cp : u0.cell? ⟨w.heap.size + 1, 2, none⟩ = some (.int .u64 b.pl) := cell_at hb 2
  have NEWC := Lib.hid (new3 a b me b.pl u0 hck1 hck2 hv)
  go_wp2_with fail
  refine (NEWC.out).mono ?_
  rintro e u1 ⟨rfl, k⟩
  clear ld1 ld2 ca cb cp
  replace ha : VAt u1 w.heap.size a := below_block k ha
  replace hb : VAt u1 (w.heap.size + 1) b := below_block k hb
  replace B := bb B k
  clear k
  have ld1 : (loadVar 29 ⟨w.heap.size, 0, none⟩).run Try.prog u1 = _ := load_v ha
  have ld2 : (loadVar 29 ⟨w.heap.size + 1, 0, none⟩).run Try.prog u1 = _ := load_v hb
  have ca : u1.cell? ⟨w.heap.size, 0, none⟩ = some (.int .u64 a.v) := cell_at ha 0
  have cb : u1.cell? ⟨w.heap.size + 1, 0, none⟩ = some (.int .u64 b.v) := cell_at hb 0
  have cp : u1.cell? ⟨w.heap.size + 1, 2, none⟩ = some (.int .u64 b.pl) := cell_at hb 2
  have C1 := check_any a u1
  rw [hck1] at C1
  go_wp2_with fail
  refine (C1).mono ?_
  rintro e u2 ⟨rfl, k⟩
  clear ld1 ld2 ca cb cp
  replace ha : VAt u2 w.heap.size a := below_block k ha
  replace hb : VAt u2 (w.heap.size + 1) b := below_block k hb
  replace B := bb B k
  clear k
  have ld1 : (loadVar 29 ⟨w.heap.size, 0, none⟩).run Try.prog u2 = _ := load_v ha
  have ld2 : (loadVar 29 ⟨w.heap.size + 1, 0, none⟩).run Try.prog u2 = _ := load_v hb
  have ca : u2.cell? ⟨w.heap.size, 0, none⟩ = some (.int .u64 a.v) := cell_at ha 0
  have cb : u2.cell? ⟨w.heap.size + 1, 0, none⟩ = some (.int .u64 b.v) := cell_at hb 0
  have cp : u2.cell? ⟨w.heap.size + 1, 2, none⟩ = some (.int .u64 b.pl) := cell_at hb 2
  have C2 := check_any b u2
  rw [hck2] at C2
  go_wp2_with fail
  refine (C2).mono ?_
  rintro e u3 ⟨rfl, k⟩
  clear ld1 ld2 ca cb cp
  replace ha : VAt u3 w.heap.size a := below_block k ha
  replace hb : VAt u3 (w.heap.size + 1) b := below_block k hb
  replace B := bb B k
  clear k
  have ld1 : (loadVar 29 ⟨w.heap.size, 0, none⟩).run Try.prog u3 = _ := load_v ha
  have ld2 : (loadVar 29 ⟨w.heap.size + 1, 0, none⟩).run Try.prog u3 = _ := load_v hb
  have ca : u3.cell? ⟨w.heap.size, 0, none⟩ = some (.int .u64 a.v) := cell_at ha 0
  have cb : u3.cell? ⟨w.heap.size + 1, 0, none⟩ = some (.int .u64 b.v) := cell_at hb 0
  have cp : u3.cell? ⟨w.heap.size + 1, 2, none⟩ = some (.int .u64 b.pl) := cell_at hb 2
  go_wp2_with fail
  refine (awake_any u3).mono ?_
  rintro e u4 ⟨rfl, k⟩
  clear ld1 ld2 ca cb cp
  replace ha : VAt u4 w.heap.size a := below_block k ha
  replace hb : VAt u4 (w.heap.size + 1) b := below_block k hb
  replace B := bb B k
  clear k
  clear ha hb
  go_wp2_with fail
  refine (nil_begin u4).mono ?_
  rintro e u5 ⟨rfl, k⟩
  replace B := bb B k
  clear k
  go_wp2_with fail
  refine (nil_ballot u5).mono ?_
  rintro e u6 ⟨rfl, k⟩
  replace B := bb B k
  clear k
  go_wp2_with fail
  refine (nil_promised u6).mono ?_
  rintro e u7 ⟨rfl, k⟩
  replace B := bb B k
  clear k
  go_wp2_with fail
  refine (nil_took u7).mono ?_
  rintro e u8 ⟨rfl, k⟩
  replace B := bb B k
  clear k
  go_wp2_with fail
  refine (nil_second u8).mono ?_
  rintro e u9 ⟨rfl, k⟩
  replace B := bb B k
  clear k
  go_wp2_with fail
  refine (nil_value u9).mono ?_
  rintro e u10 ⟨rfl, k⟩
  replace B := bb B k
  clear k
  go_wp2_with fail
  refine (nil_known u10).mono ?_
  rintro e u11 ⟨rfl, k⟩
  replace B := bb B k
  clear k
  go_wp2_with fail
  go_ret
  exact ⟨rfl, B⟩

set_option maxRecDepth 100000 in
set_option maxHeartbeats 4000000 in
theorem none4 (a b : Vw) (me : Int) (w : World) (hck1 : chk a = true) (hck2 : chk b = true) (hv : (b.v != IntKind.u64.wrap (a.v + 1)) = false) (a0 : 0 ≤ a.v) (a1 : a.v ≤ 18446744073709551615) (b0 : 0 ≤ b.v) (b1 : b.v ≤ 18446744073709551615) (hm : me < 0) :
    Calls Try.prog 6 #[.agg #[.int .u64 a.v, .int .i64 a.p, .int .u64 a.pl, .int .i64 a.b, .int .u64 a.bl, .int .u64 a.e], .agg #[.int .u64 b.v, .int .i64 b.p, .int .u64 b.pl, .int .i64 b.b, .int .u64 b.bl, .int .u64 b.e], .int .i64 me] w fun e w' => e = .returned (.bool true) ∧ Below w.heap.size w w' := by
  have hv2 := wrap_eq b.v a.v b0 b1 a0 a1 hv
  clear a0 a1 b0 b1
  have e0 : (me == 0) = false := by rw [beq_eq_false_iff_ne]; omega
  have e1 : (me == 1) = false := by rw [beq_eq_false_iff_ne]; omega
  have B := ((Below.refl w.heap.size w).alloc (Nat.le_refl _) (.cells #[.int .u64 a.v, .int .i64 a.p, .int .u64 a.pl, .int .i64 a.b, .int .u64 a.bl, .int .u64 a.e] 29)).alloc (by simp) (.cells #[.int .u64 b.v, .int .i64 b.p, .int .u64 b.pl, .int .i64 b.b, .int .u64 b.bl, .int .u64 b.e] 29)
  have ha : VAt ((w.alloc (.cells #[.int .u64 a.v, .int .i64 a.p, .int .u64 a.pl, .int .i64 a.b, .int .u64 a.bl, .int .u64 a.e] 29)).alloc (.cells #[.int .u64 b.v, .int .i64 b.p, .int .u64 b.pl, .int .i64 b.b, .int .u64 b.bl, .int .u64 b.e] 29)) w.heap.size a := block_alloc (block_new w _) _
  have hb : VAt ((w.alloc (.cells #[.int .u64 a.v, .int .i64 a.p, .int .u64 a.pl, .int .i64 a.b, .int .u64 a.bl, .int .u64 a.e] 29)).alloc (.cells #[.int .u64 b.v, .int .i64 b.p, .int .u64 b.pl, .int .i64 b.b, .int .u64 b.bl, .int .u64 b.e] 29)) (w.heap.size + 1) b := block_new_at (by simp)
  go_enter Try.func6, Try.ntmps6
  go_upto_region 1 with fail
  generalize ((w.alloc (.cells #[.int .u64 a.v, .int .i64 a.p, .int .u64 a.pl, .int .i64 a.b, .int .u64 a.bl, .int .u64 a.e] 29)).alloc (.cells #[.int .u64 b.v, .int .i64 b.p, .int .u64 b.pl, .int .i64 b.b, .int .u64 b.bl, .int .u64 b.e] 29)) = u0 at *
  have ld1 : (loadVar 29 ⟨w.heap.size, 0, none⟩).run Try.prog u0 = _ := load_v ha
  have ld2 : (loadVar 29 ⟨w.heap.size + 1, 0, none⟩).run Try.prog u0 = _ := load_v hb
  have ca : u0.cell? ⟨w.heap.size, 0, none⟩ = some (.int .u64 a.v) := cell_at ha 0
  have cb : u0.cell? ⟨w.heap.size + 1, 0, none⟩ = some (.int .u64 b.v) := cell_at hb 0
  have cp : u0.cell? ⟨w.heap.size + 1, 2, none⟩ = some (.int .u64 b.pl) := cell_at hb 2
  have NEWC := Lib.hid (new4 a b me b.pl u0 hck1 hck2 hv hm)
  go_wp2_with fail
  refine (NEWC.out).mono ?_
  rintro e u1 ⟨rfl, k⟩
  clear ld1 ld2 ca cb cp
  replace ha : VAt u1 w.heap.size a := below_block k ha
  replace hb : VAt u1 (w.heap.size + 1) b := below_block k hb
  replace B := bb B k
  clear k
  have ld1 : (loadVar 29 ⟨w.heap.size, 0, none⟩).run Try.prog u1 = _ := load_v ha
  have ld2 : (loadVar 29 ⟨w.heap.size + 1, 0, none⟩).run Try.prog u1 = _ := load_v hb
  have ca : u1.cell? ⟨w.heap.size, 0, none⟩ = some (.int .u64 a.v) := cell_at ha 0
  have cb : u1.cell? ⟨w.heap.size + 1, 0, none⟩ = some (.int .u64 b.v) := cell_at hb 0
  have cp : u1.cell? ⟨w.heap.size + 1, 2, none⟩ = some (.int .u64 b.pl) := cell_at hb 2
  have C1 := check_any a u1
  rw [hck1] at C1
  go_wp2_with fail
  refine (C1).mono ?_
  rintro e u2 ⟨rfl, k⟩
  clear ld1 ld2 ca cb cp
  replace ha : VAt u2 w.heap.size a := below_block k ha
  replace hb : VAt u2 (w.heap.size + 1) b := below_block k hb
  replace B := bb B k
  clear k
  have ld1 : (loadVar 29 ⟨w.heap.size, 0, none⟩).run Try.prog u2 = _ := load_v ha
  have ld2 : (loadVar 29 ⟨w.heap.size + 1, 0, none⟩).run Try.prog u2 = _ := load_v hb
  have ca : u2.cell? ⟨w.heap.size, 0, none⟩ = some (.int .u64 a.v) := cell_at ha 0
  have cb : u2.cell? ⟨w.heap.size + 1, 0, none⟩ = some (.int .u64 b.v) := cell_at hb 0
  have cp : u2.cell? ⟨w.heap.size + 1, 2, none⟩ = some (.int .u64 b.pl) := cell_at hb 2
  have C2 := check_any b u2
  rw [hck2] at C2
  go_wp2_with fail
  refine (C2).mono ?_
  rintro e u3 ⟨rfl, k⟩
  clear ld1 ld2 ca cb cp
  replace ha : VAt u3 w.heap.size a := below_block k ha
  replace hb : VAt u3 (w.heap.size + 1) b := below_block k hb
  replace B := bb B k
  clear k
  have ld1 : (loadVar 29 ⟨w.heap.size, 0, none⟩).run Try.prog u3 = _ := load_v ha
  have ld2 : (loadVar 29 ⟨w.heap.size + 1, 0, none⟩).run Try.prog u3 = _ := load_v hb
  have ca : u3.cell? ⟨w.heap.size, 0, none⟩ = some (.int .u64 a.v) := cell_at ha 0
  have cb : u3.cell? ⟨w.heap.size + 1, 0, none⟩ = some (.int .u64 b.v) := cell_at hb 0
  have cp : u3.cell? ⟨w.heap.size + 1, 2, none⟩ = some (.int .u64 b.pl) := cell_at hb 2
  go_wp2_with fail
  refine (awake_any u3).mono ?_
  rintro e u4 ⟨rfl, k⟩
  clear ld1 ld2 ca cb cp
  replace ha : VAt u4 w.heap.size a := below_block k ha
  replace hb : VAt u4 (w.heap.size + 1) b := below_block k hb
  replace B := bb B k
  clear k
  clear ha hb
  go_wp2_with fail
  refine (nil_begin u4).mono ?_
  rintro e u5 ⟨rfl, k⟩
  replace B := bb B k
  clear k
  go_wp2_with fail
  refine (nil_ballot u5).mono ?_
  rintro e u6 ⟨rfl, k⟩
  replace B := bb B k
  clear k
  go_wp2_with fail
  refine (nil_promised u6).mono ?_
  rintro e u7 ⟨rfl, k⟩
  replace B := bb B k
  clear k
  go_wp2_with fail
  refine (nil_took u7).mono ?_
  rintro e u8 ⟨rfl, k⟩
  replace B := bb B k
  clear k
  go_wp2_with fail
  refine (nil_second u8).mono ?_
  rintro e u9 ⟨rfl, k⟩
  replace B := bb B k
  clear k
  go_wp2_with fail
  refine (nil_value u9).mono ?_
  rintro e u10 ⟨rfl, k⟩
  replace B := bb B k
  clear k
  go_wp2_with fail
  refine (nil_known u10).mono ?_
  rintro e u11 ⟨rfl, k⟩
  replace B := bb B k
  clear k
  go_wp2_with fail
  go_ret
  exact ⟨rfl, B⟩

set_option maxRecDepth 100000 in
set_option maxHeartbeats 4000000 in
theorem none5 (a b : Vw) (me : Int) (w : World) (hck1 : chk a = true) (hck2 : chk b = true) (hv : (b.v != IntKind.u64.wrap (a.v + 1)) = false) (a0 : 0 ≤ a.v) (a1 : a.v ≤ 18446744073709551615) (b0 : 0 ≤ b.v) (b1 : b.v ≤ 18446744073709551615) (hm : 1 < me) :
    Calls Try.prog 6 #[.agg #[.int .u64 a.v, .int .i64 a.p, .int .u64 a.pl, .int .i64 a.b, .int .u64 a.bl, .int .u64 a.e], .agg #[.int .u64 b.v, .int .i64 b.p, .int .u64 b.pl, .int .i64 b.b, .int .u64 b.bl, .int .u64 b.e], .int .i64 me] w fun e w' => e = .returned (.bool true) ∧ Below w.heap.size w w' := by
  have hv2 := wrap_eq b.v a.v b0 b1 a0 a1 hv
  clear a0 a1 b0 b1
  have e0 : (me == 0) = false := by rw [beq_eq_false_iff_ne]; omega
  have e1 : (me == 1) = false := by rw [beq_eq_false_iff_ne]; omega
  have B := ((Below.refl w.heap.size w).alloc (Nat.le_refl _) (.cells #[.int .u64 a.v, .int .i64 a.p, .int .u64 a.pl, .int .i64 a.b, .int .u64 a.bl, .int .u64 a.e] 29)).alloc (by simp) (.cells #[.int .u64 b.v, .int .i64 b.p, .int .u64 b.pl, .int .i64 b.b, .int .u64 b.bl, .int .u64 b.e] 29)
  have ha : VAt ((w.alloc (.cells #[.int .u64 a.v, .int .i64 a.p, .int .u64 a.pl, .int .i64 a.b, .int .u64 a.bl, .int .u64 a.e] 29)).alloc (.cells #[.int .u64 b.v, .int .i64 b.p, .int .u64 b.pl, .int .i64 b.b, .int .u64 b.bl, .int .u64 b.e] 29)) w.heap.size a := block_alloc (block_new w _) _
  have hb : VAt ((w.alloc (.cells #[.int .u64 a.v, .int .i64 a.p, .int .u64 a.pl, .int .i64 a.b, .int .u64 a.bl, .int .u64 a.e] 29)).alloc (.cells #[.int .u64 b.v, .int .i64 b.p, .int .u64 b.pl, .int .i64 b.b, .int .u64 b.bl, .int .u64 b.e] 29)) (w.heap.size + 1) b := block_new_at (by simp)
  go_enter Try.func6, Try.ntmps6
  go_upto_region 1 with fail
  generalize ((w.alloc (.cells #[.int .u64 a.v, .int .i64 a.p, .int .u64 a.pl, .int .i64 a.b, .int .u64 a.bl, .int .u64 a.e] 29)).alloc (.cells #[.int .u64 b.v, .int .i64 b.p, .int .u64 b.pl, .int .i64 b.b, .int .u64 b.bl, .int .u64 b.e] 29)) = u0 at *
  have ld1 : (loadVar 29 ⟨w.heap.size, 0, none⟩).run Try.prog u0 = _ := load_v ha
  have ld2 : (loadVar 29 ⟨w.heap.size + 1, 0, none⟩).run Try.prog u0 = _ := load_v hb
  have ca : u0.cell? ⟨w.heap.size, 0, none⟩ = some (.int .u64 a.v) := cell_at ha 0
  have cb : u0.cell? ⟨w.heap.size + 1, 0, none⟩ = some (.int .u64 b.v) := cell_at hb 0
  have cp : u0.cell? ⟨w.heap.size + 1, 2, none⟩ = some (.int .u64 b.pl) := cell_at hb 2
  have NEWC := Lib.hid (new5 a b me b.pl u0 hck1 hck2 hv hm)
  go_wp2_with fail
  refine (NEWC.out).mono ?_
  rintro e u1 ⟨rfl, k⟩
  clear ld1 ld2 ca cb cp
  replace ha : VAt u1 w.heap.size a := below_block k ha
  replace hb : VAt u1 (w.heap.size + 1) b := below_block k hb
  replace B := bb B k
  clear k
  have ld1 : (loadVar 29 ⟨w.heap.size, 0, none⟩).run Try.prog u1 = _ := load_v ha
  have ld2 : (loadVar 29 ⟨w.heap.size + 1, 0, none⟩).run Try.prog u1 = _ := load_v hb
  have ca : u1.cell? ⟨w.heap.size, 0, none⟩ = some (.int .u64 a.v) := cell_at ha 0
  have cb : u1.cell? ⟨w.heap.size + 1, 0, none⟩ = some (.int .u64 b.v) := cell_at hb 0
  have cp : u1.cell? ⟨w.heap.size + 1, 2, none⟩ = some (.int .u64 b.pl) := cell_at hb 2
  have C1 := check_any a u1
  rw [hck1] at C1
  go_wp2_with fail
  refine (C1).mono ?_
  rintro e u2 ⟨rfl, k⟩
  clear ld1 ld2 ca cb cp
  replace ha : VAt u2 w.heap.size a := below_block k ha
  replace hb : VAt u2 (w.heap.size + 1) b := below_block k hb
  replace B := bb B k
  clear k
  have ld1 : (loadVar 29 ⟨w.heap.size, 0, none⟩).run Try.prog u2 = _ := load_v ha
  have ld2 : (loadVar 29 ⟨w.heap.size + 1, 0, none⟩).run Try.prog u2 = _ := load_v hb
  have ca : u2.cell? ⟨w.heap.size, 0, none⟩ = some (.int .u64 a.v) := cell_at ha 0
  have cb : u2.cell? ⟨w.heap.size + 1, 0, none⟩ = some (.int .u64 b.v) := cell_at hb 0
  have cp : u2.cell? ⟨w.heap.size + 1, 2, none⟩ = some (.int .u64 b.pl) := cell_at hb 2
  have C2 := check_any b u2
  rw [hck2] at C2
  go_wp2_with fail
  refine (C2).mono ?_
  rintro e u3 ⟨rfl, k⟩
  clear ld1 ld2 ca cb cp
  replace ha : VAt u3 w.heap.size a := below_block k ha
  replace hb : VAt u3 (w.heap.size + 1) b := below_block k hb
  replace B := bb B k
  clear k
  have ld1 : (loadVar 29 ⟨w.heap.size, 0, none⟩).run Try.prog u3 = _ := load_v ha
  have ld2 : (loadVar 29 ⟨w.heap.size + 1, 0, none⟩).run Try.prog u3 = _ := load_v hb
  have ca : u3.cell? ⟨w.heap.size, 0, none⟩ = some (.int .u64 a.v) := cell_at ha 0
  have cb : u3.cell? ⟨w.heap.size + 1, 0, none⟩ = some (.int .u64 b.v) := cell_at hb 0
  have cp : u3.cell? ⟨w.heap.size + 1, 2, none⟩ = some (.int .u64 b.pl) := cell_at hb 2
  go_wp2_with fail
  refine (awake_any u3).mono ?_
  rintro e u4 ⟨rfl, k⟩
  clear ld1 ld2 ca cb cp
  replace ha : VAt u4 w.heap.size a := below_block k ha
  replace hb : VAt u4 (w.heap.size + 1) b := below_block k hb
  replace B := bb B k
  clear k
  clear ha hb
  go_wp2_with fail
  refine (nil_begin u4).mono ?_
  rintro e u5 ⟨rfl, k⟩
  replace B := bb B k
  clear k
  go_wp2_with fail
  refine (nil_ballot u5).mono ?_
  rintro e u6 ⟨rfl, k⟩
  replace B := bb B k
  clear k
  go_wp2_with fail
  refine (nil_promised u6).mono ?_
  rintro e u7 ⟨rfl, k⟩
  replace B := bb B k
  clear k
  go_wp2_with fail
  refine (nil_took u7).mono ?_
  rintro e u8 ⟨rfl, k⟩
  replace B := bb B k
  clear k
  go_wp2_with fail
  refine (nil_second u8).mono ?_
  rintro e u9 ⟨rfl, k⟩
  replace B := bb B k
  clear k
  go_wp2_with fail
  refine (nil_value u9).mono ?_
  rintro e u10 ⟨rfl, k⟩
  replace B := bb B k
  clear k
  go_wp2_with fail
  refine (nil_known u10).mono ?_
  rintro e u11 ⟨rfl, k⟩
  replace B := bb B k
  clear k
  go_wp2_with fail
  go_ret
  exact ⟨rfl, B⟩

set_option maxRecDepth 100000 in
set_option maxHeartbeats 4000000 in
theorem none6_0 (a b : Vw) (w : World) (hck1 : chk a = true) (hck2 : chk b = true) (hv : (b.v != IntKind.u64.wrap (a.v + 1)) = false) (a0 : 0 ≤ a.v) (a1 : a.v ≤ 18446744073709551615) (b0 : 0 ≤ b.v) (b1 : b.v ≤ 18446744073709551615) (hl : 16777216 ≤ b.pl) :
    Calls Try.prog 6 #[.agg #[.int .u64 a.v, .int .i64 a.p, .int .u64 a.pl, .int .i64 a.b, .int .u64 a.bl, .int .u64 a.e], .agg #[.int .u64 b.v, .int .i64 b.p, .int .u64 b.pl, .int .i64 b.b, .int .u64 b.bl, .int .u64 b.e], .int .i64 0] w fun e w' => e = .returned (.bool true) ∧ Below w.heap.size w w' := by
  have hv2 := wrap_eq b.v a.v b0 b1 a0 a1 hv
  clear a0 a1 b0 b1
  have dl : decide (b.pl < 16777216) = false := decide_eq_false (by omega)
  have B := ((Below.refl w.heap.size w).alloc (Nat.le_refl _) (.cells #[.int .u64 a.v, .int .i64 a.p, .int .u64 a.pl, .int .i64 a.b, .int .u64 a.bl, .int .u64 a.e] 29)).alloc (by simp) (.cells #[.int .u64 b.v, .int .i64 b.p, .int .u64 b.pl, .int .i64 b.b, .int .u64 b.bl, .int .u64 b.e] 29)
  have ha : VAt ((w.alloc (.cells #[.int .u64 a.v, .int .i64 a.p, .int .u64 a.pl, .int .i64 a.b, .int .u64 a.bl, .int .u64 a.e] 29)).alloc (.cells #[.int .u64 b.v, .int .i64 b.p, .int .u64 b.pl, .int .i64 b.b, .int .u64 b.bl, .int .u64 b.e] 29)) w.heap.size a := block_alloc (block_new w _) _
  have hb : VAt ((w.alloc (.cells #[.int .u64 a.v, .int .i64 a.p, .int .u64 a.pl, .int .i64 a.b, .int .u64 a.bl, .int .u64 a.e] 29)).alloc (.cells #[.int .u64 b.v, .int .i64 b.p, .int .u64 b.pl, .int .i64 b.b, .int .u64 b.bl, .int .u64 b.e] 29)) (w.heap.size + 1) b := block_new_at (by simp)
  go_enter Try.func6, Try.ntmps6
  go_upto_region 1 with fail
  generalize ((w.alloc (.cells #[.int .u64 a.v, .int .i64 a.p, .int .u64 a.pl, .int .i64 a.b, .int .u64 a.bl, .int .u64 a.e] 29)).alloc (.cells #[.int .u64 b.v, .int .i64 b.p, .int .u64 b.pl, .int .i64 b.b, .int .u64 b.bl, .int .u64 b.e] 29)) = u0 at *
  have ld1 : (loadVar 29 ⟨w.heap.size, 0, none⟩).run Try.prog u0 = _ := load_v ha
  have ld2 : (loadVar 29 ⟨w.heap.size + 1, 0, none⟩).run Try.prog u0 = _ := load_v hb
  have ca : u0.cell? ⟨w.heap.size, 0, none⟩ = some (.int .u64 a.v) := cell_at ha 0
  have cb : u0.cell? ⟨w.heap.size + 1, 0, none⟩ = some (.int .u64 b.v) := cell_at hb 0
  have cp : u0.cell? ⟨w.heap.size + 1, 2, none⟩ = some (.int .u64 b.pl) := cell_at hb 2
  have NEWC := Lib.hid (new6 a b 0 b.pl u0 hck1 hck2 hv (by omega) (by omega) hl)
  go_wp2_with fail
  refine (NEWC.out).mono ?_
  rintro e u1 ⟨rfl, k⟩
  clear ld1 ld2 ca cb cp
  replace ha : VAt u1 w.heap.size a := below_block k ha
  replace hb : VAt u1 (w.heap.size + 1) b := below_block k hb
  replace B := bb B k
  clear k
  have ld1 : (loadVar 29 ⟨w.heap.size, 0, none⟩).run Try.prog u1 = _ := load_v ha
  have ld2 : (loadVar 29 ⟨w.heap.size + 1, 0, none⟩).run Try.prog u1 = _ := load_v hb
  have ca : u1.cell? ⟨w.heap.size, 0, none⟩ = some (.int .u64 a.v) := cell_at ha 0
  have cb : u1.cell? ⟨w.heap.size + 1, 0, none⟩ = some (.int .u64 b.v) := cell_at hb 0
  have cp : u1.cell? ⟨w.heap.size + 1, 2, none⟩ = some (.int .u64 b.pl) := cell_at hb 2
  have C1 := check_any a u1
  rw [hck1] at C1
  go_wp2_with fail
  refine (C1).mono ?_
  rintro e u2 ⟨rfl, k⟩
  clear ld1 ld2 ca cb cp
  replace ha : VAt u2 w.heap.size a := below_block k ha
  replace hb : VAt u2 (w.heap.size + 1) b := below_block k hb
  replace B := bb B k
  clear k
  have ld1 : (loadVar 29 ⟨w.heap.size, 0, none⟩).run Try.prog u2 = _ := load_v ha
  have ld2 : (loadVar 29 ⟨w.heap.size + 1, 0, none⟩).run Try.prog u2 = _ := load_v hb
  have ca : u2.cell? ⟨w.heap.size, 0, none⟩ = some (.int .u64 a.v) := cell_at ha 0
  have cb : u2.cell? ⟨w.heap.size + 1, 0, none⟩ = some (.int .u64 b.v) := cell_at hb 0
  have cp : u2.cell? ⟨w.heap.size + 1, 2, none⟩ = some (.int .u64 b.pl) := cell_at hb 2
  have C2 := check_any b u2
  rw [hck2] at C2
  go_wp2_with fail
  refine (C2).mono ?_
  rintro e u3 ⟨rfl, k⟩
  clear ld1 ld2 ca cb cp
  replace ha : VAt u3 w.heap.size a := below_block k ha
  replace hb : VAt u3 (w.heap.size + 1) b := below_block k hb
  replace B := bb B k
  clear k
  have ld1 : (loadVar 29 ⟨w.heap.size, 0, none⟩).run Try.prog u3 = _ := load_v ha
  have ld2 : (loadVar 29 ⟨w.heap.size + 1, 0, none⟩).run Try.prog u3 = _ := load_v hb
  have ca : u3.cell? ⟨w.heap.size, 0, none⟩ = some (.int .u64 a.v) := cell_at ha 0
  have cb : u3.cell? ⟨w.heap.size + 1, 0, none⟩ = some (.int .u64 b.v) := cell_at hb 0
  have cp : u3.cell? ⟨w.heap.size + 1, 2, none⟩ = some (.int .u64 b.pl) := cell_at hb 2
  go_wp2_with fail
  refine (awake_any u3).mono ?_
  rintro e u4 ⟨rfl, k⟩
  clear ld1 ld2 ca cb cp
  replace ha : VAt u4 w.heap.size a := below_block k ha
  replace hb : VAt u4 (w.heap.size + 1) b := below_block k hb
  replace B := bb B k
  clear k
  clear ha hb
  go_wp2_with fail
  refine (nil_begin u4).mono ?_
  rintro e u5 ⟨rfl, k⟩
  replace B := bb B k
  clear k
  go_wp2_with fail
  refine (nil_ballot u5).mono ?_
  rintro e u6 ⟨rfl, k⟩
  replace B := bb B k
  clear k
  go_wp2_with fail
  refine (nil_promised u6).mono ?_
  rintro e u7 ⟨rfl, k⟩
  replace B := bb B k
  clear k
  go_wp2_with fail
  refine (nil_took u7).mono ?_
  rintro e u8 ⟨rfl, k⟩
  replace B := bb B k
  clear k
  go_wp2_with fail
  refine (nil_second u8).mono ?_
  rintro e u9 ⟨rfl, k⟩
  replace B := bb B k
  clear k
  go_wp2_with fail
  refine (nil_value u9).mono ?_
  rintro e u10 ⟨rfl, k⟩
  replace B := bb B k
  clear k
  go_wp2_with fail
  refine (nil_known u10).mono ?_
  rintro e u11 ⟨rfl, k⟩
  replace B := bb B k
  clear k
  go_wp2_with fail
  go_ret
  exact ⟨rfl, B⟩

set_option maxRecDepth 100000 in
set_option maxHeartbeats 4000000 in
theorem none7_0 (a b : Vw) (w : World) (hck1 : chk a = true) (hck2 : chk b = true) (hv : (b.v != IntKind.u64.wrap (a.v + 1)) = false) (a0 : 0 ≤ a.v) (a1 : a.v ≤ 18446744073709551615) (b0 : 0 ≤ b.v) (b1 : b.v ≤ 18446744073709551615) (l0 : 1 ≤ b.pl) (hl : b.pl < 16777216) :
    Calls Try.prog 6 #[.agg #[.int .u64 a.v, .int .i64 a.p, .int .u64 a.pl, .int .i64 a.b, .int .u64 a.bl, .int .u64 a.e], .agg #[.int .u64 b.v, .int .i64 b.p, .int .u64 b.pl, .int .i64 b.b, .int .u64 b.bl, .int .u64 b.e], .int .i64 0] w fun e w' => e = .returned (.bool true) ∧ Below w.heap.size w w' := by
  have hv2 := wrap_eq b.v a.v b0 b1 a0 a1 hv
  clear a0 a1 b0 b1
  have dl : decide (b.pl < 16777216) = true := decide_eq_true (by omega)
  have B := ((Below.refl w.heap.size w).alloc (Nat.le_refl _) (.cells #[.int .u64 a.v, .int .i64 a.p, .int .u64 a.pl, .int .i64 a.b, .int .u64 a.bl, .int .u64 a.e] 29)).alloc (by simp) (.cells #[.int .u64 b.v, .int .i64 b.p, .int .u64 b.pl, .int .i64 b.b, .int .u64 b.bl, .int .u64 b.e] 29)
  have ha : VAt ((w.alloc (.cells #[.int .u64 a.v, .int .i64 a.p, .int .u64 a.pl, .int .i64 a.b, .int .u64 a.bl, .int .u64 a.e] 29)).alloc (.cells #[.int .u64 b.v, .int .i64 b.p, .int .u64 b.pl, .int .i64 b.b, .int .u64 b.bl, .int .u64 b.e] 29)) w.heap.size a := block_alloc (block_new w _) _
  have hb : VAt ((w.alloc (.cells #[.int .u64 a.v, .int .i64 a.p, .int .u64 a.pl, .int .i64 a.b, .int .u64 a.bl, .int .u64 a.e] 29)).alloc (.cells #[.int .u64 b.v, .int .i64 b.p, .int .u64 b.pl, .int .i64 b.b, .int .u64 b.bl, .int .u64 b.e] 29)) (w.heap.size + 1) b := block_new_at (by simp)
  go_enter Try.func6, Try.ntmps6
  go_upto_region 1 with fail
  generalize ((w.alloc (.cells #[.int .u64 a.v, .int .i64 a.p, .int .u64 a.pl, .int .i64 a.b, .int .u64 a.bl, .int .u64 a.e] 29)).alloc (.cells #[.int .u64 b.v, .int .i64 b.p, .int .u64 b.pl, .int .i64 b.b, .int .u64 b.bl, .int .u64 b.e] 29)) = u0 at *
  have ld1 : (loadVar 29 ⟨w.heap.size, 0, none⟩).run Try.prog u0 = _ := load_v ha
  have ld2 : (loadVar 29 ⟨w.heap.size + 1, 0, none⟩).run Try.prog u0 = _ := load_v hb
  have ca : u0.cell? ⟨w.heap.size, 0, none⟩ = some (.int .u64 a.v) := cell_at ha 0
  have cb : u0.cell? ⟨w.heap.size + 1, 0, none⟩ = some (.int .u64 b.v) := cell_at hb 0
  have cp : u0.cell? ⟨w.heap.size + 1, 2, none⟩ = some (.int .u64 b.pl) := cell_at hb 2
  have NEWC := Lib.hid (new7 a b 0 b.pl u0 hck1 hck2 hv (by omega) (by omega) l0 hl)
  go_wp2_with fail
  refine (NEWC.out).mono ?_
  rintro e u1 ⟨⟨q, rfl⟩, k⟩
  clear ld1 ld2 ca cb cp
  replace ha : VAt u1 w.heap.size a := below_block k ha
  replace hb : VAt u1 (w.heap.size + 1) b := below_block k hb
  replace B := bb B k
  clear k
  have ld1 : (loadVar 29 ⟨w.heap.size, 0, none⟩).run Try.prog u1 = _ := load_v ha
  have ld2 : (loadVar 29 ⟨w.heap.size + 1, 0, none⟩).run Try.prog u1 = _ := load_v hb
  have ca : u1.cell? ⟨w.heap.size, 0, none⟩ = some (.int .u64 a.v) := cell_at ha 0
  have cb : u1.cell? ⟨w.heap.size + 1, 0, none⟩ = some (.int .u64 b.v) := cell_at hb 0
  have cp : u1.cell? ⟨w.heap.size + 1, 2, none⟩ = some (.int .u64 b.pl) := cell_at hb 2
  have C1 := check_any a u1
  rw [hck1] at C1
  go_wp2_with fail
  refine (C1).mono ?_
  rintro e u2 ⟨rfl, k⟩
  clear ld1 ld2 ca cb cp
  replace ha : VAt u2 w.heap.size a := below_block k ha
  replace hb : VAt u2 (w.heap.size + 1) b := below_block k hb
  replace B := bb B k
  clear k
  have ld1 : (loadVar 29 ⟨w.heap.size, 0, none⟩).run Try.prog u2 = _ := load_v ha
  have ld2 : (loadVar 29 ⟨w.heap.size + 1, 0, none⟩).run Try.prog u2 = _ := load_v hb
  have ca : u2.cell? ⟨w.heap.size, 0, none⟩ = some (.int .u64 a.v) := cell_at ha 0
  have cb : u2.cell? ⟨w.heap.size + 1, 0, none⟩ = some (.int .u64 b.v) := cell_at hb 0
  have cp : u2.cell? ⟨w.heap.size + 1, 2, none⟩ = some (.int .u64 b.pl) := cell_at hb 2
  have C2 := check_any b u2
  rw [hck2] at C2
  go_wp2_with fail
  refine (C2).mono ?_
  rintro e u3 ⟨rfl, k⟩
  clear ld1 ld2 ca cb cp
  replace ha : VAt u3 w.heap.size a := below_block k ha
  replace hb : VAt u3 (w.heap.size + 1) b := below_block k hb
  replace B := bb B k
  clear k
  have ld1 : (loadVar 29 ⟨w.heap.size, 0, none⟩).run Try.prog u3 = _ := load_v ha
  have ld2 : (loadVar 29 ⟨w.heap.size + 1, 0, none⟩).run Try.prog u3 = _ := load_v hb
  have ca : u3.cell? ⟨w.heap.size, 0, none⟩ = some (.int .u64 a.v) := cell_at ha 0
  have cb : u3.cell? ⟨w.heap.size + 1, 0, none⟩ = some (.int .u64 b.v) := cell_at hb 0
  have cp : u3.cell? ⟨w.heap.size + 1, 2, none⟩ = some (.int .u64 b.pl) := cell_at hb 2
  go_wp2_with fail
  refine (awake_any u3).mono ?_
  rintro e u4 ⟨rfl, k⟩
  clear ld1 ld2 ca cb cp
  replace ha : VAt u4 w.heap.size a := below_block k ha
  replace hb : VAt u4 (w.heap.size + 1) b := below_block k hb
  replace B := bb B k
  clear k
  clear ha hb
  go_wp2_with fail
  refine (nil_begin u4).mono ?_
  rintro e u5 ⟨rfl, k⟩
  replace B := bb B k
  clear k
  go_wp2_with fail
  refine (nil_ballot u5).mono ?_
  rintro e u6 ⟨rfl, k⟩
  replace B := bb B k
  clear k
  go_wp2_with fail
  refine (nil_promised u6).mono ?_
  rintro e u7 ⟨rfl, k⟩
  replace B := bb B k
  clear k
  go_wp2_with fail
  refine (nil_took u7).mono ?_
  rintro e u8 ⟨rfl, k⟩
  replace B := bb B k
  clear k
  go_wp2_with fail
  refine (nil_second u8).mono ?_
  rintro e u9 ⟨rfl, k⟩
  replace B := bb B k
  clear k
  go_wp2_with fail
  refine (nil_value u9).mono ?_
  rintro e u10 ⟨rfl, k⟩
  replace B := bb B k
  clear k
  go_wp2_with fail
  refine (nil_known u10).mono ?_
  rintro e u11 ⟨rfl, k⟩
  replace B := bb B k
  clear k
  go_wp2_with fail
  go_ret
  exact ⟨rfl, B⟩

set_option maxRecDepth 100000 in
set_option maxHeartbeats 4000000 in
theorem none6_1 (a b : Vw) (w : World) (hck1 : chk a = true) (hck2 : chk b = true) (hv : (b.v != IntKind.u64.wrap (a.v + 1)) = false) (a0 : 0 ≤ a.v) (a1 : a.v ≤ 18446744073709551615) (b0 : 0 ≤ b.v) (b1 : b.v ≤ 18446744073709551615) (hl : 16777216 ≤ b.pl) :
    Calls Try.prog 6 #[.agg #[.int .u64 a.v, .int .i64 a.p, .int .u64 a.pl, .int .i64 a.b, .int .u64 a.bl, .int .u64 a.e], .agg #[.int .u64 b.v, .int .i64 b.p, .int .u64 b.pl, .int .i64 b.b, .int .u64 b.bl, .int .u64 b.e], .int .i64 1] w fun e w' => e = .returned (.bool true) ∧ Below w.heap.size w w' := by
  have hv2 := wrap_eq b.v a.v b0 b1 a0 a1 hv
  clear a0 a1 b0 b1
  have dl : decide (b.pl < 16777216) = false := decide_eq_false (by omega)
  have B := ((Below.refl w.heap.size w).alloc (Nat.le_refl _) (.cells #[.int .u64 a.v, .int .i64 a.p, .int .u64 a.pl, .int .i64 a.b, .int .u64 a.bl, .int .u64 a.e] 29)).alloc (by simp) (.cells #[.int .u64 b.v, .int .i64 b.p, .int .u64 b.pl, .int .i64 b.b, .int .u64 b.bl, .int .u64 b.e] 29)
  have ha : VAt ((w.alloc (.cells #[.int .u64 a.v, .int .i64 a.p, .int .u64 a.pl, .int .i64 a.b, .int .u64 a.bl, .int .u64 a.e] 29)).alloc (.cells #[.int .u64 b.v, .int .i64 b.p, .int .u64 b.pl, .int .i64 b.b, .int .u64 b.bl, .int .u64 b.e] 29)) w.heap.size a := block_alloc (block_new w _) _
  have hb : VAt ((w.alloc (.cells #[.int .u64 a.v, .int .i64 a.p, .int .u64 a.pl, .int .i64 a.b, .int .u64 a.bl, .int .u64 a.e] 29)).alloc (.cells #[.int .u64 b.v, .int .i64 b.p, .int .u64 b.pl, .int .i64 b.b, .int .u64 b.bl, .int .u64 b.e] 29)) (w.heap.size + 1) b := block_new_at (by simp)
  go_enter Try.func6, Try.ntmps6
  go_upto_region 1 with fail
  generalize ((w.alloc (.cells #[.int .u64 a.v, .int .i64 a.p, .int .u64 a.pl, .int .i64 a.b, .int .u64 a.bl, .int .u64 a.e] 29)).alloc (.cells #[.int .u64 b.v, .int .i64 b.p, .int .u64 b.pl, .int .i64 b.b, .int .u64 b.bl, .int .u64 b.e] 29)) = u0 at *
  have ld1 : (loadVar 29 ⟨w.heap.size, 0, none⟩).run Try.prog u0 = _ := load_v ha
  have ld2 : (loadVar 29 ⟨w.heap.size + 1, 0, none⟩).run Try.prog u0 = _ := load_v hb
  have ca : u0.cell? ⟨w.heap.size, 0, none⟩ = some (.int .u64 a.v) := cell_at ha 0
  have cb : u0.cell? ⟨w.heap.size + 1, 0, none⟩ = some (.int .u64 b.v) := cell_at hb 0
  have cp : u0.cell? ⟨w.heap.size + 1, 2, none⟩ = some (.int .u64 b.pl) := cell_at hb 2
  have NEWC := Lib.hid (new6 a b 1 b.pl u0 hck1 hck2 hv (by omega) (by omega) hl)
  go_wp2_with fail
  refine (NEWC.out).mono ?_
  rintro e u1 ⟨rfl, k⟩
  clear ld1 ld2 ca cb cp
  replace ha : VAt u1 w.heap.size a := below_block k ha
  replace hb : VAt u1 (w.heap.size + 1) b := below_block k hb
  replace B := bb B k
  clear k
  have ld1 : (loadVar 29 ⟨w.heap.size, 0, none⟩).run Try.prog u1 = _ := load_v ha
  have ld2 : (loadVar 29 ⟨w.heap.size + 1, 0, none⟩).run Try.prog u1 = _ := load_v hb
  have ca : u1.cell? ⟨w.heap.size, 0, none⟩ = some (.int .u64 a.v) := cell_at ha 0
  have cb : u1.cell? ⟨w.heap.size + 1, 0, none⟩ = some (.int .u64 b.v) := cell_at hb 0
  have cp : u1.cell? ⟨w.heap.size + 1, 2, none⟩ = some (.int .u64 b.pl) := cell_at hb 2
  have C1 := check_any a u1
  rw [hck1] at C1
  go_wp2_with fail
  refine (C1).mono ?_
  rintro e u2 ⟨rfl, k⟩
  clear ld1 ld2 ca cb cp
  replace ha : VAt u2 w.heap.size a := below_block k ha
  replace hb : VAt u2 (w.heap.size + 1) b := below_block k hb
  replace B := bb B k
  clear k
  have ld1 : (loadVar 29 ⟨w.heap.size, 0, none⟩).run Try.prog u2 = _ := load_v ha
  have ld2 : (loadVar 29 ⟨w.heap.size + 1, 0, none⟩).run Try.prog u2 = _ := load_v hb
  have ca : u2.cell? ⟨w.heap.size, 0, none⟩ = some (.int .u64 a.v) := cell_at ha 0
  have cb : u2.cell? ⟨w.heap.size + 1, 0, none⟩ = some (.int .u64 b.v) := cell_at hb 0
  have cp : u2.cell? ⟨w.heap.size + 1, 2, none⟩ = some (.int .u64 b.pl) := cell_at hb 2
  have C2 := check_any b u2
  rw [hck2] at C2
  go_wp2_with fail
  refine (C2).mono ?_
  rintro e u3 ⟨rfl, k⟩
  clear ld1 ld2 ca cb cp
  replace ha : VAt u3 w.heap.size a := below_block k ha
  replace hb : VAt u3 (w.heap.size + 1) b := below_block k hb
  replace B := bb B k
  clear k
  have ld1 : (loadVar 29 ⟨w.heap.size, 0, none⟩).run Try.prog u3 = _ := load_v ha
  have ld2 : (loadVar 29 ⟨w.heap.size + 1, 0, none⟩).run Try.prog u3 = _ := load_v hb
  have ca : u3.cell? ⟨w.heap.size, 0, none⟩ = some (.int .u64 a.v) := cell_at ha 0
  have cb : u3.cell? ⟨w.heap.size + 1, 0, none⟩ = some (.int .u64 b.v) := cell_at hb 0
  have cp : u3.cell? ⟨w.heap.size + 1, 2, none⟩ = some (.int .u64 b.pl) := cell_at hb 2
  go_wp2_with fail
  refine (awake_any u3).mono ?_
  rintro e u4 ⟨rfl, k⟩
  clear ld1 ld2 ca cb cp
  replace ha : VAt u4 w.heap.size a := below_block k ha
  replace hb : VAt u4 (w.heap.size + 1) b := below_block k hb
  replace B := bb B k
  clear k
  clear ha hb
  go_wp2_with fail
  refine (nil_begin u4).mono ?_
  rintro e u5 ⟨rfl, k⟩
  replace B := bb B k
  clear k
  go_wp2_with fail
  refine (nil_ballot u5).mono ?_
  rintro e u6 ⟨rfl, k⟩
  replace B := bb B k
  clear k
  go_wp2_with fail
  refine (nil_promised u6).mono ?_
  rintro e u7 ⟨rfl, k⟩
  replace B := bb B k
  clear k
  go_wp2_with fail
  refine (nil_took u7).mono ?_
  rintro e u8 ⟨rfl, k⟩
  replace B := bb B k
  clear k
  go_wp2_with fail
  refine (nil_second u8).mono ?_
  rintro e u9 ⟨rfl, k⟩
  replace B := bb B k
  clear k
  go_wp2_with fail
  refine (nil_value u9).mono ?_
  rintro e u10 ⟨rfl, k⟩
  replace B := bb B k
  clear k
  go_wp2_with fail
  refine (nil_known u10).mono ?_
  rintro e u11 ⟨rfl, k⟩
  replace B := bb B k
  clear k
  go_wp2_with fail
  go_ret
  exact ⟨rfl, B⟩

set_option maxRecDepth 100000 in
set_option maxHeartbeats 4000000 in
theorem none7_1 (a b : Vw) (w : World) (hck1 : chk a = true) (hck2 : chk b = true) (hv : (b.v != IntKind.u64.wrap (a.v + 1)) = false) (a0 : 0 ≤ a.v) (a1 : a.v ≤ 18446744073709551615) (b0 : 0 ≤ b.v) (b1 : b.v ≤ 18446744073709551615) (l0 : 1 ≤ b.pl) (hl : b.pl < 16777216) :
    Calls Try.prog 6 #[.agg #[.int .u64 a.v, .int .i64 a.p, .int .u64 a.pl, .int .i64 a.b, .int .u64 a.bl, .int .u64 a.e], .agg #[.int .u64 b.v, .int .i64 b.p, .int .u64 b.pl, .int .i64 b.b, .int .u64 b.bl, .int .u64 b.e], .int .i64 1] w fun e w' => e = .returned (.bool true) ∧ Below w.heap.size w w' := by
  have hv2 := wrap_eq b.v a.v b0 b1 a0 a1 hv
  clear a0 a1 b0 b1
  have dl : decide (b.pl < 16777216) = true := decide_eq_true (by omega)
  have B := ((Below.refl w.heap.size w).alloc (Nat.le_refl _) (.cells #[.int .u64 a.v, .int .i64 a.p, .int .u64 a.pl, .int .i64 a.b, .int .u64 a.bl, .int .u64 a.e] 29)).alloc (by simp) (.cells #[.int .u64 b.v, .int .i64 b.p, .int .u64 b.pl, .int .i64 b.b, .int .u64 b.bl, .int .u64 b.e] 29)
  have ha : VAt ((w.alloc (.cells #[.int .u64 a.v, .int .i64 a.p, .int .u64 a.pl, .int .i64 a.b, .int .u64 a.bl, .int .u64 a.e] 29)).alloc (.cells #[.int .u64 b.v, .int .i64 b.p, .int .u64 b.pl, .int .i64 b.b, .int .u64 b.bl, .int .u64 b.e] 29)) w.heap.size a := block_alloc (block_new w _) _
  have hb : VAt ((w.alloc (.cells #[.int .u64 a.v, .int .i64 a.p, .int .u64 a.pl, .int .i64 a.b, .int .u64 a.bl, .int .u64 a.e] 29)).alloc (.cells #[.int .u64 b.v, .int .i64 b.p, .int .u64 b.pl, .int .i64 b.b, .int .u64 b.bl, .int .u64 b.e] 29)) (w.heap.size + 1) b := block_new_at (by simp)
  go_enter Try.func6, Try.ntmps6
  go_upto_region 1 with fail
  generalize ((w.alloc (.cells #[.int .u64 a.v, .int .i64 a.p, .int .u64 a.pl, .int .i64 a.b, .int .u64 a.bl, .int .u64 a.e] 29)).alloc (.cells #[.int .u64 b.v, .int .i64 b.p, .int .u64 b.pl, .int .i64 b.b, .int .u64 b.bl, .int .u64 b.e] 29)) = u0 at *
  have ld1 : (loadVar 29 ⟨w.heap.size, 0, none⟩).run Try.prog u0 = _ := load_v ha
  have ld2 : (loadVar 29 ⟨w.heap.size + 1, 0, none⟩).run Try.prog u0 = _ := load_v hb
  have ca : u0.cell? ⟨w.heap.size, 0, none⟩ = some (.int .u64 a.v) := cell_at ha 0
  have cb : u0.cell? ⟨w.heap.size + 1, 0, none⟩ = some (.int .u64 b.v) := cell_at hb 0
  have cp : u0.cell? ⟨w.heap.size + 1, 2, none⟩ = some (.int .u64 b.pl) := cell_at hb 2
  have NEWC := Lib.hid (new7 a b 1 b.pl u0 hck1 hck2 hv (by omega) (by omega) l0 hl)
  go_wp2_with fail
  refine (NEWC.out).mono ?_
  rintro e u1 ⟨⟨q, rfl⟩, k⟩
  clear ld1 ld2 ca cb cp
  replace ha : VAt u1 w.heap.size a := below_block k ha
  replace hb : VAt u1 (w.heap.size + 1) b := below_block k hb
  replace B := bb B k
  clear k
  have ld1 : (loadVar 29 ⟨w.heap.size, 0, none⟩).run Try.prog u1 = _ := load_v ha
  have ld2 : (loadVar 29 ⟨w.heap.size + 1, 0, none⟩).run Try.prog u1 = _ := load_v hb
  have ca : u1.cell? ⟨w.heap.size, 0, none⟩ = some (.int .u64 a.v) := cell_at ha 0
  have cb : u1.cell? ⟨w.heap.size + 1, 0, none⟩ = some (.int .u64 b.v) := cell_at hb 0
  have cp : u1.cell? ⟨w.heap.size + 1, 2, none⟩ = some (.int .u64 b.pl) := cell_at hb 2
  have C1 := check_any a u1
  rw [hck1] at C1
  go_wp2_with fail
  refine (C1).mono ?_
  rintro e u2 ⟨rfl, k⟩
  clear ld1 ld2 ca cb cp
  replace ha : VAt u2 w.heap.size a := below_block k ha
  replace hb : VAt u2 (w.heap.size + 1) b := below_block k hb
  replace B := bb B k
  clear k
  have ld1 : (loadVar 29 ⟨w.heap.size, 0, none⟩).run Try.prog u2 = _ := load_v ha
  have ld2 : (loadVar 29 ⟨w.heap.size + 1, 0, none⟩).run Try.prog u2 = _ := load_v hb
  have ca : u2.cell? ⟨w.heap.size, 0, none⟩ = some (.int .u64 a.v) := cell_at ha 0
  have cb : u2.cell? ⟨w.heap.size + 1, 0, none⟩ = some (.int .u64 b.v) := cell_at hb 0
  have cp : u2.cell? ⟨w.heap.size + 1, 2, none⟩ = some (.int .u64 b.pl) := cell_at hb 2
  have C2 := check_any b u2
  rw [hck2] at C2
  go_wp2_with fail
  refine (C2).mono ?_
  rintro e u3 ⟨rfl, k⟩
  clear ld1 ld2 ca cb cp
  replace ha : VAt u3 w.heap.size a := below_block k ha
  replace hb : VAt u3 (w.heap.size + 1) b := below_block k hb
  replace B := bb B k
  clear k
  have ld1 : (loadVar 29 ⟨w.heap.size, 0, none⟩).run Try.prog u3 = _ := load_v ha
  have ld2 : (loadVar 29 ⟨w.heap.size + 1, 0, none⟩).run Try.prog u3 = _ := load_v hb
  have ca : u3.cell? ⟨w.heap.size, 0, none⟩ = some (.int .u64 a.v) := cell_at ha 0
  have cb : u3.cell? ⟨w.heap.size + 1, 0, none⟩ = some (.int .u64 b.v) := cell_at hb 0
  have cp : u3.cell? ⟨w.heap.size + 1, 2, none⟩ = some (.int .u64 b.pl) := cell_at hb 2
  go_wp2_with fail
  refine (awake_any u3).mono ?_
  rintro e u4 ⟨rfl, k⟩
  clear ld1 ld2 ca cb cp
  replace ha : VAt u4 w.heap.size a := below_block k ha
  replace hb : VAt u4 (w.heap.size + 1) b := below_block k hb
  replace B := bb B k
  clear k
  clear ha hb
  go_wp2_with fail
  refine (nil_begin u4).mono ?_
  rintro e u5 ⟨rfl, k⟩
  replace B := bb B k
  clear k
  go_wp2_with fail
  refine (nil_ballot u5).mono ?_
  rintro e u6 ⟨rfl, k⟩
  replace B := bb B k
  clear k
  go_wp2_with fail
  refine (nil_promised u6).mono ?_
  rintro e u7 ⟨rfl, k⟩
  replace B := bb B k
  clear k
  go_wp2_with fail
  refine (nil_took u7).mono ?_
  rintro e u8 ⟨rfl, k⟩
  replace B := bb B k
  clear k
  go_wp2_with fail
  refine (nil_second u8).mono ?_
  rintro e u9 ⟨rfl, k⟩
  replace B := bb B k
  clear k
  go_wp2_with fail
  refine (nil_value u9).mono ?_
  rintro e u10 ⟨rfl, k⟩
  replace B := bb B k
  clear k
  go_wp2_with fail
  refine (nil_known u10).mono ?_
  rintro e u11 ⟨rfl, k⟩
  replace B := bb B k
  clear k
  go_wp2_with fail
  go_ret
  exact ⟨rfl, B⟩

theorem chk_pl (b : Vw) (h : chk b = true) : 1 ≤ b.pl := by
  unfold chk one at h
  simp only [Bool.and_eq_true, decide_eq_true_eq] at h
  omega
theorem quorumNone_walk (v v' : Value) (me : Int) (w : World) (hv : ∃ a : Vw, v = a.agg ∧ 0 ≤ a.v ∧ a.v ≤ 18446744073709551615) (hv' : ∃ a : Vw, v' = a.agg ∧ 0 ≤ a.v ∧ a.v ≤ 18446744073709551615) (wf : (Lit.int .i64 me).wf = true) :
    Calls Try.prog 6 #[v, v', .int .i64 me] w fun e w' => e = .returned (.bool true) ∧ Below w.heap.size w w' := by
  obtain ⟨a, rfl, a0, a1⟩ := hv
  obtain ⟨b, rfl, b0, b1⟩ := hv'
  cases h1 : chk a
  · exact none1 a b me w h1
  cases h2 : chk b
  · exact none2 a b me w h1 h2
  have hp := chk_pl b h2
  cases h3 : (b.v != IntKind.u64.wrap (a.v + 1))
  · by_cases m0 : me < 0
    · exact none4 a b me w h1 h2 h3 a0 a1 b0 b1 m0
    by_cases m1 : 1 < me
    · exact none5 a b me w h1 h2 h3 a0 a1 b0 b1 m1
    have hm : me = 0 ∨ me = 1 := by omega
    by_cases hl : 16777216 ≤ b.pl
    · rcases hm with rfl | rfl
      · exact none6_0 a b w h1 h2 h3 a0 a1 b0 b1 hl
      · exact none6_1 a b w h1 h2 h3 a0 a1 b0 b1 hl
    · rcases hm with rfl | rfl
      · exact none7_0 a b w h1 h2 h3 a0 a1 b0 b1 hp (by omega)
      · exact none7_1 a b w h1 h2 h3 a0 a1 b0 b1 hp (by omega)
  · exact none3 a b me w h1 h2 h3 a0 a1 b0 b1

end Go.Proofs.Ytppnjkiegiokeaa.QuoNon
