/-
  Layer 17 (quorum): the law on what is let be, answers that count.
-/
import Derived.Test.YtppnjkiegiokeaaQuoT
import Derived.Test.YtppnjkiegiokeaaOpen
namespace Go.Proofs.Ytppnjkiegiokeaa.QuoO0
set_option linter.unusedVariables false
set_option linter.unusedSimpArgs false
open Go.RowKit Go.Proofs.Ytppnjkiegiokeaa.Mem Go.Proofs.Ytppnjkiegiokeaa.Mask Go.Proofs.Ytppnjkiegiokeaa.QuoW Go.Proofs.Ytppnjkiegiokeaa.QuoV Go.Proofs.Ytppnjkiegiokeaa.QuoU Go.Proofs.Ytppnjkiegiokeaa.QuoR Go.Proofs.Ytppnjkiegiokeaa.QuoS Go.Proofs.Ytppnjkiegiokeaa.QuoA Go.Proofs.Ytppnjkiegiokeaa.QuoT Go.Proofs.Ytppnjkiegiokeaa.QuoK0 Go.Proofs.Ytppnjkiegiokeaa.QuoK1 Go.Proofs.Ytppnjkiegiokeaa.QuoK2 Go.Proofs.Ytppnjkiegiokeaa.QuoP0 Go.Proofs.Ytppnjkiegiokeaa.QuoP1 Go.Proofs.Ytppnjkiegiokeaa.QuoP2
attribute [-go_sem] Instr.loadAt loadVar
attribute [local go_sem] QuoT.loadAt_ptr QuoT.lv_bool QuoT.lv_int QuoT.lv_u64

def good : Pr := ⟨true, 2, 0, 0, zeroV, zeroV⟩
theorem und (b : Bool) (h : some undef = some (Value.bool b)) : False := by simp [undef] at h

set_option maxRecDepth 100000 in
set_option maxHeartbeats 8000000 in
theorem counts0 (xm xb : Int) (va vc : Vw) (w : World)  :
    Calls Try.prog 4 #[.int .i64 0, .int .u64 4294967302, (Pr.mk true 2 xm xb va vc).agg] w fun e w' => e = .returned (.bool true) ∧ Below w.heap.size w w' := by
  obtain ⟨ok, hok⟩ : ∃ ok, ok = true := ⟨_, rfl⟩
  obtain ⟨xv, hxv⟩ : ∃ xv : Int, xv = 2 := ⟨_, rfl⟩
  rw [← hok, ← hxv]
  replace hok := Lib.hid hok
  replace hxv := Lib.hid hxv
  have N0 := Lib.hid (new_ok 1 0 1 1 0 3 1 0 3 (by omega) (by omega) (by omega) (by omega) (by omega) (by omega) (by omega) (by omega) (by omega) (by omega) (by omega) (by omega) (by omega) (by omega))
  have B0 := (Below.refl w.heap.size w).alloc (Nat.le_refl _) (.cells (Pr.row ⟨ok, xv, xm, xb, va, vc⟩) TPr)
  have hx0 : XAt (w.alloc (.cells (Pr.row ⟨ok, xv, xm, xb, va, vc⟩) TPr)) w.heap.size ⟨ok, xv, xm, xb, va, vc⟩ := block_new w _
  have hX := Nat.le_refl w.heap.size
  simp only [Pr.row] at B0 hx0
  simp only [Pr.agg]
  go_enter Try.func4, Try.ntmps4
  go_wp2_with fail
  generalize (w.alloc (.cells #[.bool ok, .int .u64 xv, .int .u64 xm, .int .u64 xb, .int .u64 va.v, .int .i64 va.p, .int .u64 va.pl, .int .i64 va.b, .int .u64 va.bl, .int .u64 va.e, .int .u64 vc.v, .int .i64 vc.p, .int .u64 vc.pl, .int .i64 vc.b, .int .u64 vc.bl, .int .u64 vc.e] 37)) = u0 at *
  obtain ⟨X, hXe⟩ : ∃ X, X = w.heap.size := ⟨_, rfl⟩
  rw [← hXe] at hx0
  rw [← hXe]
  replace hXe := Lib.hid hXe
  refine (first_any _).mono ?_
  rintro e u1 ⟨rfl, k⟩
  have B1 := bb B0 k
  have hx1 := belowX k hx0
  clear k B0 hx0
  go_wp2_with fail
  refine (want_any _ _ _).mono ?_
  rintro e u2 ⟨rfl, k⟩
  have B2 := bb B1 k
  have hx2 := belowX k hx1
  clear k B1 hx1
  go_wp2_with fail
  refine (N0.out _).mono ?_
  rintro e u3 ⟨b, rfl, hb, p3, k⟩
  have neX : ¬ X = b := by have := lt_of_block hx2; omega
  have hbw : w.heap.size ≤ b := Nat.le_trans B2.size hb
  have B3 := bb B2 k
  have hx3 := belowX k hx2
  clear k B2 hx2 N0 hb
  go_wp2_with fail
  refine (awake_any _).mono ?_
  rintro e u4 ⟨rfl, k⟩
  have B4 := bb B3 k
  have hx4 := belowX k hx3
  have p4 := below_block k p3
  clear k B3 hx3 p3
  go_wp2_with fail
  refine (dB0 b _ p4).mono ?_
  rintro e u5 ⟨rfl, p5, k⟩
  have B5 := keepB B4 k hbw
  have hx5 := keepX k hx4 neX
  clear k B4 hx4 p4
  have p6 := block_alloc p5 (.cells (Pr.row good) TPr)
  have hx6 : XAt _ _ _ := block_alloc hx5 (.cells (Pr.row good) TPr)
  have hg6 : XAt _ _ good := block_new u5 (.cells (Pr.row good) TPr)
  have neY : ¬ u5.heap.size = b := by have := lt_of_block p5; omega
  have B6 := B5.alloc B5.size (.cells (Pr.row good) TPr)
  clear p5 hx5 B5
  go_wp2_with fail
  refine (dBB b _ p6).mono ?_
  rintro e u7 ⟨rfl, m, rfl⟩
  replace p6 := block_drewN p6 m
  replace hx6 : XAt _ _ _ := block_drewN hx6 m
  replace hg6 : XAt _ _ _ := block_drewN hg6 m
  replace B6 : Below w.heap.size w (World.drewN (u5.alloc (.cells (Pr.row good) TPr)) m) := B6.trans ⟨rfl, rfl, rfl, Nat.le_refl _, fun _ _ => rfl⟩
  obtain ⟨u, hu⟩ : ∃ u, u = World.drewN (u5.alloc (.cells (Pr.row good) TPr)) m := ⟨_, rfl⟩
  rw [← hu] at p6 hx6 hg6 B6
  rw [← hu]
  clear hu
  obtain ⟨Y, hY⟩ : ∃ Y, Y = u5.heap.size := ⟨_, rfl⟩
  rw [← hY] at hg6 neY
  rw [← hY]
  clear hY hX
  have x0 : u.cell? ⟨X, 0, none⟩ = some (.bool ok) := cell_at hx6 0
  have x1 : u.cell? ⟨X, 1, none⟩ = some (.int .u64 xv) := cell_at hx6 1
  have ld : (loadVar 37 ⟨X, 0, none⟩).run Try.prog u = _ := load_x hx6
  have p := p6
  have hx := hx6
  have hg := hg6
  have B := B6
  clear p6 hx6 hg6 B6
  obtain rfl := hok.out
  obtain rfl := hxv.out
  clear hok hxv
  go_wp2_with fail
  have C : Calls _ _ _ _ (fun e w' => e = .returned (.bool false) ∧ PAt w' b (PS.prom s03 0 xb va) ∧ Keep (· = b) u w') := promised0 s03 b xm xb va vc u p live03 rfl rfl
  refine C.mono ?_
  clear C
  rintro e v8 ⟨rfl, p', k⟩
  replace B := keepB B k hbw
  replace hg := keepX k hg neY
  replace hx := keepX k hx neX
  clear p k
  have p := p'
  clear p'
  clear ld x0 x1
  have ld : (loadVar 37 ⟨X, 0, none⟩).run Try.prog v8 = _ := load_x hx
  go_wp2_with fail
  have C : Calls _ _ _ _ (fun e w' => e = .returned (.bool false) ∧ Below v8.heap.size v8 w') := promised_no (PS.prom s03 0 xb va) b 0 4294967302 ⟨true, 2, xm, xb, va, vc⟩ v8 p (Live.prom live03 _ _ _) (.inr (.inl ⟨rfl, rfl⟩))
  refine C.mono ?_
  clear C
  rintro e v9 ⟨rfl, k⟩
  replace B := bb B k
  replace hg := belowX k hg
  replace p := below_block k p
  clear k
  clear hx
  clear ld
  have ld : (loadVar 37 ⟨Y, 0, none⟩).run Try.prog v9 = _ := load_x hg
  go_wp2_with fail
  have C : Calls _ _ _ _ (fun e w' => e = .returned (.bool true) ∧ PAt w' b (PS.prom (PS.prom s03 0 xb va) 1 0 zeroV) ∧ Keep (· = b) v9 w') := promised1 (PS.prom s03 0 xb va) b 0 0 zeroV zeroV v9 p (Live.prom live03 _ _ _) rfl rfl
  refine C.mono ?_
  clear C
  rintro e v10 ⟨rfl, p', k⟩
  replace B := keepB B k hbw
  replace hg := keepX k hg neY
  clear p k
  have p := p'
  clear p'
  clear ld
  have ld : (loadVar 37 ⟨Y, 0, none⟩).run Try.prog v10 = _ := load_x hg
  go_wp2_with fail
  have C : Calls _ _ _ _ (fun e w' => e = .returned (.bool false) ∧ Below v10.heap.size v10 w') := promised_no (PS.prom (PS.prom s03 0 xb va) 1 0 zeroV) b 2 4294967302 good v10 p (Live.prom (Live.prom live03 _ _ _) _ _ _) (.inl rfl)
  refine C.mono ?_
  clear C
  rintro e v11 ⟨rfl, k⟩
  replace B := bb B k
  replace hg := belowX k hg
  replace p := below_block k p
  clear k
  go_wp2_with fail
  all_goals try (exfalso; apply und; assumption)
  have C : Calls _ _ _ _ (fun e w' => e = .returned (.bool true) ∧ v11 = w') := second_any (PS.prom (PS.prom s03 0 xb va) 1 0 zeroV) b v11 p
  refine C.mono ?_
  clear C
  rintro e _ ⟨rfl, rfl⟩
  clear ld
  have ld : (loadVar 37 ⟨Y, 0, none⟩).run Try.prog v11 = _ := load_x hg
  go_wp2_with fail
  have C : Calls _ _ _ _ (fun e w' => e = .returned (.bool false) ∧ Below v11.heap.size v11 w') := took_no (PS.prom (PS.prom s03 0 xb va) 1 0 zeroV) b 0 4294967304 good v11 p (Live.prom (Live.prom live03 _ _ _) _ _ _) (.inl rfl)
  refine C.mono ?_
  clear C
  rintro e v12 ⟨rfl, k⟩
  replace B := bb B k
  replace hg := belowX k hg
  replace p := below_block k p
  clear k
  clear ld
  have ld : (loadVar 37 ⟨Y, 0, none⟩).run Try.prog v12 = _ := load_x hg
  go_wp2_with fail
  have C : Calls _ _ _ _ (fun e w' => e = .returned (.bool false) ∧ Below v12.heap.size v12 w') := took_no (PS.prom (PS.prom s03 0 xb va) 1 0 zeroV) b 3 4294967302 good v12 p (Live.prom (Live.prom live03 _ _ _) _ _ _) (.inl rfl)
  refine C.mono ?_
  clear C
  rintro e v13 ⟨rfl, k⟩
  replace B := bb B k
  replace hg := belowX k hg
  replace p := below_block k p
  clear k
  clear ld
  have ld : (loadVar 37 ⟨Y, 0, none⟩).run Try.prog v13 = _ := load_x hg
  go_wp2_with fail
  have C : Calls _ _ _ _ (fun e w' => e = .returned (.bool false) ∧ PAt w' b (PS.take (PS.prom (PS.prom s03 0 xb va) 1 0 zeroV) 0) ∧ Keep (· = b) v13 w') := took0 (PS.prom (PS.prom s03 0 xb va) 1 0 zeroV) b 0 0 zeroV zeroV v13 p (Live.prom (Live.prom live03 _ _ _) _ _ _) rfl rfl
  refine C.mono ?_
  clear C
  rintro e v14 ⟨rfl, p', k⟩
  replace B := keepB B k hbw
  replace hg := keepX k hg neY
  clear p k
  have p := p'
  clear p'
  clear ld
  have ld : (loadVar 37 ⟨Y, 0, none⟩).run Try.prog v14 = _ := load_x hg
  go_wp2_with fail
  have C : Calls _ _ _ _ (fun e w' => e = .returned (.bool false) ∧ Below v14.heap.size v14 w') := took_no (PS.take (PS.prom (PS.prom s03 0 xb va) 1 0 zeroV) 0) b 0 4294967302 good v14 p (Live.take (Live.prom (Live.prom live03 _ _ _) _ _ _) _) (.inr (.inl ⟨rfl, rfl⟩))
  refine C.mono ?_
  clear C
  rintro e v15 ⟨rfl, k⟩
  replace B := bb B k
  replace hg := belowX k hg
  replace p := below_block k p
  clear k
  clear ld
  have ld : (loadVar 37 ⟨Y, 0, none⟩).run Try.prog v15 = _ := load_x hg
  go_wp2_with fail
  have C : Calls _ _ _ _ (fun e w' => e = .returned (.bool true) ∧ PAt w' b (PS.take (PS.take (PS.prom (PS.prom s03 0 xb va) 1 0 zeroV) 0) 1) ∧ Keep (· = b) v15 w') := took1 (PS.take (PS.prom (PS.prom s03 0 xb va) 1 0 zeroV) 0) b 0 0 zeroV zeroV v15 p (Live.take (Live.prom (Live.prom live03 _ _ _) _ _ _) _) rfl rfl
  refine C.mono ?_
  clear C
  rintro e v16 ⟨rfl, p', k⟩
  replace B := keepB B k hbw
  replace hg := keepX k hg neY
  clear p k
  have p := p'
  clear p'
  clear ld
  have ld : (loadVar 37 ⟨Y, 0, none⟩).run Try.prog v16 = _ := load_x hg
  go_wp2_with fail
  have C : Calls _ _ _ _ (fun e w' => e = .returned (.bool false) ∧ PAt w' b (PS.take (PS.take (PS.take (PS.prom (PS.prom s03 0 xb va) 1 0 zeroV) 0) 1) 2) ∧ Keep (· = b) v16 w') := took2 (PS.take (PS.take (PS.prom (PS.prom s03 0 xb va) 1 0 zeroV) 0) 1) b 0 0 zeroV zeroV v16 p (Live.take (Live.take (Live.prom (Live.prom live03 _ _ _) _ _ _) _) _) rfl rfl
  refine C.mono ?_
  clear C
  rintro e v17 ⟨rfl, p', k⟩
  replace B := keepB B k hbw
  replace hg := keepX k hg neY
  clear p k
  have p := p'
  clear p'
  go_wp2_with fail
  go_ret
  exact ⟨rfl, B⟩

set_option maxRecDepth 100000 in
set_option maxHeartbeats 8000000 in
theorem counts1 (xm xb : Int) (va vc : Vw) (w : World)  :
    Calls Try.prog 4 #[.int .i64 1, .int .u64 4294967302, (Pr.mk true 2 xm xb va vc).agg] w fun e w' => e = .returned (.bool true) ∧ Below w.heap.size w w' := by
  obtain ⟨ok, hok⟩ : ∃ ok, ok = true := ⟨_, rfl⟩
  obtain ⟨xv, hxv⟩ : ∃ xv : Int, xv = 2 := ⟨_, rfl⟩
  rw [← hok, ← hxv]
  replace hok := Lib.hid hok
  replace hxv := Lib.hid hxv
  have N0 := Lib.hid (new_ok 1 0 1 1 0 3 1 0 3 (by omega) (by omega) (by omega) (by omega) (by omega) (by omega) (by omega) (by omega) (by omega) (by omega) (by omega) (by omega) (by omega) (by omega))
  have B0 := (Below.refl w.heap.size w).alloc (Nat.le_refl _) (.cells (Pr.row ⟨ok, xv, xm, xb, va, vc⟩) TPr)
  have hx0 : XAt (w.alloc (.cells (Pr.row ⟨ok, xv, xm, xb, va, vc⟩) TPr)) w.heap.size ⟨ok, xv, xm, xb, va, vc⟩ := block_new w _
  have hX := Nat.le_refl w.heap.size
  simp only [Pr.row] at B0 hx0
  simp only [Pr.agg]
  go_enter Try.func4, Try.ntmps4
  go_wp2_with fail
  generalize (w.alloc (.cells #[.bool ok, .int .u64 xv, .int .u64 xm, .int .u64 xb, .int .u64 va.v, .int .i64 va.p, .int .u64 va.pl, .int .i64 va.b, .int .u64 va.bl, .int .u64 va.e, .int .u64 vc.v, .int .i64 vc.p, .int .u64 vc.pl, .int .i64 vc.b, .int .u64 vc.bl, .int .u64 vc.e] 37)) = u0 at *
  obtain ⟨X, hXe⟩ : ∃ X, X = w.heap.size := ⟨_, rfl⟩
  rw [← hXe] at hx0
  rw [← hXe]
  replace hXe := Lib.hid hXe
  refine (first_any _).mono ?_
  rintro e u1 ⟨rfl, k⟩
  have B1 := bb B0 k
  have hx1 := belowX k hx0
  clear k B0 hx0
  go_wp2_with fail
  refine (want_any _ _ _).mono ?_
  rintro e u2 ⟨rfl, k⟩
  have B2 := bb B1 k
  have hx2 := belowX k hx1
  clear k B1 hx1
  go_wp2_with fail
  refine (N0.out _).mono ?_
  rintro e u3 ⟨b, rfl, hb, p3, k⟩
  have neX : ¬ X = b := by have := lt_of_block hx2; omega
  have hbw : w.heap.size ≤ b := Nat.le_trans B2.size hb
  have B3 := bb B2 k
  have hx3 := belowX k hx2
  clear k B2 hx2 N0 hb
  go_wp2_with fail
  refine (awake_any _).mono ?_
  rintro e u4 ⟨rfl, k⟩
  have B4 := bb B3 k
  have hx4 := belowX k hx3
  have p4 := below_block k p3
  clear k B3 hx3 p3
  go_wp2_with fail
  refine (dB0 b _ p4).mono ?_
  rintro e u5 ⟨rfl, p5, k⟩
  have B5 := keepB B4 k hbw
  have hx5 := keepX k hx4 neX
  clear k B4 hx4 p4
  have p6 := block_alloc p5 (.cells (Pr.row good) TPr)
  have hx6 : XAt _ _ _ := block_alloc hx5 (.cells (Pr.row good) TPr)
  have hg6 : XAt _ _ good := block_new u5 (.cells (Pr.row good) TPr)
  have neY : ¬ u5.heap.size = b := by have := lt_of_block p5; omega
  have B6 := B5.alloc B5.size (.cells (Pr.row good) TPr)
  clear p5 hx5 B5
  go_wp2_with fail
  refine (dBB b _ p6).mono ?_
  rintro e u7 ⟨rfl, m, rfl⟩
  replace p6 := block_drewN p6 m
  replace hx6 : XAt _ _ _ := block_drewN hx6 m
  replace hg6 : XAt _ _ _ := block_drewN hg6 m
  replace B6 : Below w.heap.size w (World.drewN (u5.alloc (.cells (Pr.row good) TPr)) m) := B6.trans ⟨rfl, rfl, rfl, Nat.le_refl _, fun _ _ => rfl⟩
  obtain ⟨u, hu⟩ : ∃ u, u = World.drewN (u5.alloc (.cells (Pr.row good) TPr)) m := ⟨_, rfl⟩
  rw [← hu] at p6 hx6 hg6 B6
  rw [← hu]
  clear hu
  obtain ⟨Y, hY⟩ : ∃ Y, Y = u5.heap.size := ⟨_, rfl⟩
  rw [← hY] at hg6 neY
  rw [← hY]
  clear hY hX
  have x0 : u.cell? ⟨X, 0, none⟩ = some (.bool ok) := cell_at hx6 0
  have x1 : u.cell? ⟨X, 1, none⟩ = some (.int .u64 xv) := cell_at hx6 1
  have ld : (loadVar 37 ⟨X, 0, none⟩).run Try.prog u = _ := load_x hx6
  have p := p6
  have hx := hx6
  have hg := hg6
  have B := B6
  clear p6 hx6 hg6 B6
  obtain rfl := hok.out
  obtain rfl := hxv.out
  clear hok hxv
  go_wp2_with fail
  have C : Calls _ _ _ _ (fun e w' => e = .returned (.bool false) ∧ PAt w' b (PS.prom s03 1 xb va) ∧ Keep (· = b) u w') := promised1 s03 b xm xb va vc u p live03 rfl rfl
  refine C.mono ?_
  clear C
  rintro e v8 ⟨rfl, p', k⟩
  replace B := keepB B k hbw
  replace hg := keepX k hg neY
  replace hx := keepX k hx neX
  clear p k
  have p := p'
  clear p'
  clear ld x0 x1
  have ld : (loadVar 37 ⟨X, 0, none⟩).run Try.prog v8 = _ := load_x hx
  go_wp2_with fail
  have C : Calls _ _ _ _ (fun e w' => e = .returned (.bool false) ∧ Below v8.heap.size v8 w') := promised_no (PS.prom s03 1 xb va) b 1 4294967302 ⟨true, 2, xm, xb, va, vc⟩ v8 p (Live.prom live03 _ _ _) (.inr (.inr (.inl ⟨rfl, rfl⟩)))
  refine C.mono ?_
  clear C
  rintro e v9 ⟨rfl, k⟩
  replace B := bb B k
  replace hg := belowX k hg
  replace p := below_block k p
  clear k
  clear hx
  clear ld
  have ld : (loadVar 37 ⟨Y, 0, none⟩).run Try.prog v9 = _ := load_x hg
  go_wp2_with fail
  have C : Calls _ _ _ _ (fun e w' => e = .returned (.bool true) ∧ PAt w' b (PS.prom (PS.prom s03 1 xb va) 2 0 zeroV) ∧ Keep (· = b) v9 w') := promised2 (PS.prom s03 1 xb va) b 0 0 zeroV zeroV v9 p (Live.prom live03 _ _ _) rfl rfl
  refine C.mono ?_
  clear C
  rintro e v10 ⟨rfl, p', k⟩
  replace B := keepB B k hbw
  replace hg := keepX k hg neY
  clear p k
  have p := p'
  clear p'
  clear ld
  have ld : (loadVar 37 ⟨Y, 0, none⟩).run Try.prog v10 = _ := load_x hg
  go_wp2_with fail
  have C : Calls _ _ _ _ (fun e w' => e = .returned (.bool false) ∧ Below v10.heap.size v10 w') := promised_no (PS.prom (PS.prom s03 1 xb va) 2 0 zeroV) b 0 4294967302 good v10 p (Live.prom (Live.prom live03 _ _ _) _ _ _) (.inl rfl)
  refine C.mono ?_
  clear C
  rintro e v11 ⟨rfl, k⟩
  replace B := bb B k
  replace hg := belowX k hg
  replace p := below_block k p
  clear k
  go_wp2_with fail
  all_goals try (exfalso; apply und; assumption)
  have C : Calls _ _ _ _ (fun e w' => e = .returned (.bool true) ∧ v11 = w') := second_any (PS.prom (PS.prom s03 1 xb va) 2 0 zeroV) b v11 p
  refine C.mono ?_
  clear C
  rintro e _ ⟨rfl, rfl⟩
  clear ld
  have ld : (loadVar 37 ⟨Y, 0, none⟩).run Try.prog v11 = _ := load_x hg
  go_wp2_with fail
  have C : Calls _ _ _ _ (fun e w' => e = .returned (.bool false) ∧ Below v11.heap.size v11 w') := took_no (PS.prom (PS.prom s03 1 xb va) 2 0 zeroV) b 1 4294967304 good v11 p (Live.prom (Live.prom live03 _ _ _) _ _ _) (.inl rfl)
  refine C.mono ?_
  clear C
  rintro e v12 ⟨rfl, k⟩
  replace B := bb B k
  replace hg := belowX k hg
  replace p := below_block k p
  clear k
  clear ld
  have ld : (loadVar 37 ⟨Y, 0, none⟩).run Try.prog v12 = _ := load_x hg
  go_wp2_with fail
  have C : Calls _ _ _ _ (fun e w' => e = .returned (.bool false) ∧ Below v12.heap.size v12 w') := took_no (PS.prom (PS.prom s03 1 xb va) 2 0 zeroV) b 3 4294967302 good v12 p (Live.prom (Live.prom live03 _ _ _) _ _ _) (.inl rfl)
  refine C.mono ?_
  clear C
  rintro e v13 ⟨rfl, k⟩
  replace B := bb B k
  replace hg := belowX k hg
  replace p := below_block k p
  clear k
  clear ld
  have ld : (loadVar 37 ⟨Y, 0, none⟩).run Try.prog v13 = _ := load_x hg
  go_wp2_with fail
  have C : Calls _ _ _ _ (fun e w' => e = .returned (.bool false) ∧ PAt w' b (PS.take (PS.prom (PS.prom s03 1 xb va) 2 0 zeroV) 1) ∧ Keep (· = b) v13 w') := took1 (PS.prom (PS.prom s03 1 xb va) 2 0 zeroV) b 0 0 zeroV zeroV v13 p (Live.prom (Live.prom live03 _ _ _) _ _ _) rfl rfl
  refine C.mono ?_
  clear C
  rintro e v14 ⟨rfl, p', k⟩
  replace B := keepB B k hbw
  replace hg := keepX k hg neY
  clear p k
  have p := p'
  clear p'
  clear ld
  have ld : (loadVar 37 ⟨Y, 0, none⟩).run Try.prog v14 = _ := load_x hg
  go_wp2_with fail
  have C : Calls _ _ _ _ (fun e w' => e = .returned (.bool false) ∧ Below v14.heap.size v14 w') := took_no (PS.take (PS.prom (PS.prom s03 1 xb va) 2 0 zeroV) 1) b 1 4294967302 good v14 p (Live.take (Live.prom (Live.prom live03 _ _ _) _ _ _) _) (.inr (.inr (.inl ⟨rfl, rfl⟩)))
  refine C.mono ?_
  clear C
  rintro e v15 ⟨rfl, k⟩
  replace B := bb B k
  replace hg := belowX k hg
  replace p := below_block k p
  clear k
  clear ld
  have ld : (loadVar 37 ⟨Y, 0, none⟩).run Try.prog v15 = _ := load_x hg
  go_wp2_with fail
  have C : Calls _ _ _ _ (fun e w' => e = .returned (.bool true) ∧ PAt w' b (PS.take (PS.take (PS.prom (PS.prom s03 1 xb va) 2 0 zeroV) 1) 2) ∧ Keep (· = b) v15 w') := took2 (PS.take (PS.prom (PS.prom s03 1 xb va) 2 0 zeroV) 1) b 0 0 zeroV zeroV v15 p (Live.take (Live.prom (Live.prom live03 _ _ _) _ _ _) _) rfl rfl
  refine C.mono ?_
  clear C
  rintro e v16 ⟨rfl, p', k⟩
  replace B := keepB B k hbw
  replace hg := keepX k hg neY
  clear p k
  have p := p'
  clear p'
  clear ld
  have ld : (loadVar 37 ⟨Y, 0, none⟩).run Try.prog v16 = _ := load_x hg
  go_wp2_with fail
  have C : Calls _ _ _ _ (fun e w' => e = .returned (.bool false) ∧ PAt w' b (PS.take (PS.take (PS.take (PS.prom (PS.prom s03 1 xb va) 2 0 zeroV) 1) 2) 0) ∧ Keep (· = b) v16 w') := took0 (PS.take (PS.take (PS.prom (PS.prom s03 1 xb va) 2 0 zeroV) 1) 2) b 0 0 zeroV zeroV v16 p (Live.take (Live.take (Live.prom (Live.prom live03 _ _ _) _ _ _) _) _) rfl rfl
  refine C.mono ?_
  clear C
  rintro e v17 ⟨rfl, p', k⟩
  replace B := keepB B k hbw
  replace hg := keepX k hg neY
  clear p k
  have p := p'
  clear p'
  go_wp2_with fail
  go_ret
  exact ⟨rfl, B⟩

set_option maxRecDepth 100000 in
set_option maxHeartbeats 8000000 in
theorem counts2 (xm xb : Int) (va vc : Vw) (w : World)  :
    Calls Try.prog 4 #[.int .i64 2, .int .u64 4294967302, (Pr.mk true 2 xm xb va vc).agg] w fun e w' => e = .returned (.bool true) ∧ Below w.heap.size w w' := by
  obtain ⟨ok, hok⟩ : ∃ ok, ok = true := ⟨_, rfl⟩
  obtain ⟨xv, hxv⟩ : ∃ xv : Int, xv = 2 := ⟨_, rfl⟩
  rw [← hok, ← hxv]
  replace hok := Lib.hid hok
  replace hxv := Lib.hid hxv
  have N0 := Lib.hid (new_ok 1 0 1 1 0 3 1 0 3 (by omega) (by omega) (by omega) (by omega) (by omega) (by omega) (by omega) (by omega) (by omega) (by omega) (by omega) (by omega) (by omega) (by omega))
  have B0 := (Below.refl w.heap.size w).alloc (Nat.le_refl _) (.cells (Pr.row ⟨ok, xv, xm, xb, va, vc⟩) TPr)
  have hx0 : XAt (w.alloc (.cells (Pr.row ⟨ok, xv, xm, xb, va, vc⟩) TPr)) w.heap.size ⟨ok, xv, xm, xb, va, vc⟩ := block_new w _
  have hX := Nat.le_refl w.heap.size
  simp only [Pr.row] at B0 hx0
  simp only [Pr.agg]
  go_enter Try.func4, Try.ntmps4
  go_wp2_with fail
  generalize (w.alloc (.cells #[.bool ok, .int .u64 xv, .int .u64 xm, .int .u64 xb, .int .u64 va.v, .int .i64 va.p, .int .u64 va.pl, .int .i64 va.b, .int .u64 va.bl, .int .u64 va.e, .int .u64 vc.v, .int .i64 vc.p, .int .u64 vc.pl, .int .i64 vc.b, .int .u64 vc.bl, .int .u64 vc.e] 37)) = u0 at *
  obtain ⟨X, hXe⟩ : ∃ X, X = w.heap.size := ⟨_, rfl⟩
  rw [← hXe] at hx0
  rw [← hXe]
  replace hXe := Lib.hid hXe
  refine (first_any _).mono ?_
  rintro e u1 ⟨rfl, k⟩
  have B1 := bb B0 k
  have hx1 := belowX k hx0
  clear k B0 hx0
  go_wp2_with fail
  refine (want_any _ _ _).mono ?_
  rintro e u2 ⟨rfl, k⟩
  have B2 := bb B1 k
  have hx2 := belowX k hx1
  clear k B1 hx1
  go_wp2_with fail
  refine (N0.out _).mono ?_
  rintro e u3 ⟨b, rfl, hb, p3, k⟩
  have neX : ¬ X = b := by have := lt_of_block hx2; omega
  have hbw : w.heap.size ≤ b := Nat.le_trans B2.size hb
  have B3 := bb B2 k
  have hx3 := belowX k hx2
  clear k B2 hx2 N0 hb
  go_wp2_with fail
  refine (awake_any _).mono ?_
  rintro e u4 ⟨rfl, k⟩
  have B4 := bb B3 k
  have hx4 := belowX k hx3
  have p4 := below_block k p3
  clear k B3 hx3 p3
  go_wp2_with fail
  refine (dB0 b _ p4).mono ?_
  rintro e u5 ⟨rfl, p5, k⟩
  have B5 := keepB B4 k hbw
  have hx5 := keepX k hx4 neX
  clear k B4 hx4 p4
  have p6 := block_alloc p5 (.cells (Pr.row good) TPr)
  have hx6 : XAt _ _ _ := block_alloc hx5 (.cells (Pr.row good) TPr)
  have hg6 : XAt _ _ good := block_new u5 (.cells (Pr.row good) TPr)
  have neY : ¬ u5.heap.size = b := by have := lt_of_block p5; omega
  have B6 := B5.alloc B5.size (.cells (Pr.row good) TPr)
  clear p5 hx5 B5
  go_wp2_with fail
  refine (dBB b _ p6).mono ?_
  rintro e u7 ⟨rfl, m, rfl⟩
  replace p6 := block_drewN p6 m
  replace hx6 : XAt _ _ _ := block_drewN hx6 m
  replace hg6 : XAt _ _ _ := block_drewN hg6 m
  replace B6 : Below w.heap.size w (World.drewN (u5.alloc (.cells (Pr.row good) TPr)) m) := B6.trans ⟨rfl, rfl, rfl, Nat.le_refl _, fun _ _ => rfl⟩
  obtain ⟨u, hu⟩ : ∃ u, u = World.drewN (u5.alloc (.cells (Pr.row good) TPr)) m := ⟨_, rfl⟩
  rw [← hu] at p6 hx6 hg6 B6
  rw [← hu]
  clear hu
  obtain ⟨Y, hY⟩ : ∃ Y, Y = u5.heap.size := ⟨_, rfl⟩
  rw [← hY] at hg6 neY
  rw [← hY]
  clear hY hX
  have x0 : u.cell? ⟨X, 0, none⟩ = some (.bool ok) := cell_at hx6 0
  have x1 : u.cell? ⟨X, 1, none⟩ = some (.int .u64 xv) := cell_at hx6 1
  have ld : (loadVar 37 ⟨X, 0, none⟩).run Try.prog u = _ := load_x hx6
  have p := p6
  have hx := hx6
  have hg := hg6
  have B := B6
  clear p6 hx6 hg6 B6
  obtain rfl := hok.out
  obtain rfl := hxv.out
  clear hok hxv
  go_wp2_with fail
  have C : Calls _ _ _ _ (fun e w' => e = .returned (.bool false) ∧ PAt w' b (PS.prom s03 2 xb va) ∧ Keep (· = b) u w') := promised2 s03 b xm xb va vc u p live03 rfl rfl
  refine C.mono ?_
  clear C
  rintro e v8 ⟨rfl, p', k⟩
  replace B := keepB B k hbw
  replace hg := keepX k hg neY
  replace hx := keepX k hx neX
  clear p k
  have p := p'
  clear p'
  clear ld x0 x1
  have ld : (loadVar 37 ⟨X, 0, none⟩).run Try.prog v8 = _ := load_x hx
  go_wp2_with fail
  have C : Calls _ _ _ _ (fun e w' => e = .returned (.bool false) ∧ Below v8.heap.size v8 w') := promised_no (PS.prom s03 2 xb va) b 2 4294967302 ⟨true, 2, xm, xb, va, vc⟩ v8 p (Live.prom live03 _ _ _) (.inr (.inr (.inr ⟨rfl, rfl⟩)))
  refine C.mono ?_
  clear C
  rintro e v9 ⟨rfl, k⟩
  replace B := bb B k
  replace hg := belowX k hg
  replace p := below_block k p
  clear k
  clear hx
  clear ld
  have ld : (loadVar 37 ⟨Y, 0, none⟩).run Try.prog v9 = _ := load_x hg
  go_wp2_with fail
  have C : Calls _ _ _ _ (fun e w' => e = .returned (.bool true) ∧ PAt w' b (PS.prom (PS.prom s03 2 xb va) 0 0 zeroV) ∧ Keep (· = b) v9 w') := promised0 (PS.prom s03 2 xb va) b 0 0 zeroV zeroV v9 p (Live.prom live03 _ _ _) rfl rfl
  refine C.mono ?_
  clear C
  rintro e v10 ⟨rfl, p', k⟩
  replace B := keepB B k hbw
  replace hg := keepX k hg neY
  clear p k
  have p := p'
  clear p'
  clear ld
  have ld : (loadVar 37 ⟨Y, 0, none⟩).run Try.prog v10 = _ := load_x hg
  go_wp2_with fail
  have C : Calls _ _ _ _ (fun e w' => e = .returned (.bool false) ∧ Below v10.heap.size v10 w') := promised_no (PS.prom (PS.prom s03 2 xb va) 0 0 zeroV) b 1 4294967302 good v10 p (Live.prom (Live.prom live03 _ _ _) _ _ _) (.inl rfl)
  refine C.mono ?_
  clear C
  rintro e v11 ⟨rfl, k⟩
  replace B := bb B k
  replace hg := belowX k hg
  replace p := below_block k p
  clear k
  go_wp2_with fail
  all_goals try (exfalso; apply und; assumption)
  have C : Calls _ _ _ _ (fun e w' => e = .returned (.bool true) ∧ v11 = w') := second_any (PS.prom (PS.prom s03 2 xb va) 0 0 zeroV) b v11 p
  refine C.mono ?_
  clear C
  rintro e _ ⟨rfl, rfl⟩
  clear ld
  have ld : (loadVar 37 ⟨Y, 0, none⟩).run Try.prog v11 = _ := load_x hg
  go_wp2_with fail
  have C : Calls _ _ _ _ (fun e w' => e = .returned (.bool false) ∧ Below v11.heap.size v11 w') := took_no (PS.prom (PS.prom s03 2 xb va) 0 0 zeroV) b 2 4294967304 good v11 p (Live.prom (Live.prom live03 _ _ _) _ _ _) (.inl rfl)
  refine C.mono ?_
  clear C
  rintro e v12 ⟨rfl, k⟩
  replace B := bb B k
  replace hg := belowX k hg
  replace p := below_block k p
  clear k
  clear ld
  have ld : (loadVar 37 ⟨Y, 0, none⟩).run Try.prog v12 = _ := load_x hg
  go_wp2_with fail
  have C : Calls _ _ _ _ (fun e w' => e = .returned (.bool false) ∧ Below v12.heap.size v12 w') := took_no (PS.prom (PS.prom s03 2 xb va) 0 0 zeroV) b 3 4294967302 good v12 p (Live.prom (Live.prom live03 _ _ _) _ _ _) (.inl rfl)
  refine C.mono ?_
  clear C
  rintro e v13 ⟨rfl, k⟩
  replace B := bb B k
  replace hg := belowX k hg
  replace p := below_block k p
  clear k
  clear ld
  have ld : (loadVar 37 ⟨Y, 0, none⟩).run Try.prog v13 = _ := load_x hg
  go_wp2_with fail
  have C : Calls _ _ _ _ (fun e w' => e = .returned (.bool false) ∧ PAt w' b (PS.take (PS.prom (PS.prom s03 2 xb va) 0 0 zeroV) 2) ∧ Keep (· = b) v13 w') := took2 (PS.prom (PS.prom s03 2 xb va) 0 0 zeroV) b 0 0 zeroV zeroV v13 p (Live.prom (Live.prom live03 _ _ _) _ _ _) rfl rfl
  refine C.mono ?_
  clear C
  rintro e v14 ⟨rfl, p', k⟩
  replace B := keepB B k hbw
  replace hg := keepX k hg neY
  clear p k
  have p := p'
  clear p'
  clear ld
  have ld : (loadVar 37 ⟨Y, 0, none⟩).run Try.prog v14 = _ := load_x hg
  go_wp2_with fail
  have C : Calls _ _ _ _ (fun e w' => e = .returned (.bool false) ∧ Below v14.heap.size v14 w') := took_no (PS.take (PS.prom (PS.prom s03 2 xb va) 0 0 zeroV) 2) b 2 4294967302 good v14 p (Live.take (Live.prom (Live.prom live03 _ _ _) _ _ _) _) (.inr (.inr (.inr ⟨rfl, rfl⟩)))
  refine C.mono ?_
  clear C
  rintro e v15 ⟨rfl, k⟩
  replace B := bb B k
  replace hg := belowX k hg
  replace p := below_block k p
  clear k
  clear ld
  have ld : (loadVar 37 ⟨Y, 0, none⟩).run Try.prog v15 = _ := load_x hg
  go_wp2_with fail
  have C : Calls _ _ _ _ (fun e w' => e = .returned (.bool true) ∧ PAt w' b (PS.take (PS.take (PS.prom (PS.prom s03 2 xb va) 0 0 zeroV) 2) 0) ∧ Keep (· = b) v15 w') := took0 (PS.take (PS.prom (PS.prom s03 2 xb va) 0 0 zeroV) 2) b 0 0 zeroV zeroV v15 p (Live.take (Live.prom (Live.prom live03 _ _ _) _ _ _) _) rfl rfl
  refine C.mono ?_
  clear C
  rintro e v16 ⟨rfl, p', k⟩
  replace B := keepB B k hbw
  replace hg := keepX k hg neY
  clear p k
  have p := p'
  clear p'
  clear ld
  have ld : (loadVar 37 ⟨Y, 0, none⟩).run Try.prog v16 = _ := load_x hg
  go_wp2_with fail
  have C : Calls _ _ _ _ (fun e w' => e = .returned (.bool false) ∧ PAt w' b (PS.take (PS.take (PS.take (PS.prom (PS.prom s03 2 xb va) 0 0 zeroV) 2) 0) 1) ∧ Keep (· = b) v16 w') := took1 (PS.take (PS.take (PS.prom (PS.prom s03 2 xb va) 0 0 zeroV) 2) 0) b 0 0 zeroV zeroV v16 p (Live.take (Live.take (Live.prom (Live.prom live03 _ _ _) _ _ _) _) _) rfl rfl
  refine C.mono ?_
  clear C
  rintro e v17 ⟨rfl, p', k⟩
  replace B := keepB B k hbw
  replace hg := keepX k hg neY
  clear p k
  have p := p'
  clear p'
  go_wp2_with fail
  go_ret
  exact ⟨rfl, B⟩

end Go.Proofs.Ytppnjkiegiokeaa.QuoO0
