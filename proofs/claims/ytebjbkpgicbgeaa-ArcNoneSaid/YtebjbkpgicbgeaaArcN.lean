/-
  Layer 7 (arc): no policy.
-/
import Derived.Test.YtebjbkpgicbgeaaArcF
namespace Go.Proofs.Ytebjbkpgicbgeaa.ArcN
set_option linter.unusedVariables false
set_option linter.unusedSimpArgs false
set_option maxRecDepth 100000
open Go.RowKit Go.Proofs.Ytebjbkpgicbgeaa.Mem Go.Proofs.Ytebjbkpgicbgeaa.RinM Go.Proofs.Ytebjbkpgicbgeaa.RinP Go.Proofs.Ytebjbkpgicbgeaa.RinG Go.Proofs.Ytebjbkpgicbgeaa.ArcP Go.Proofs.Ytebjbkpgicbgeaa.ArcK Go.Proofs.Ytebjbkpgicbgeaa.ArcQ Go.Proofs.Ytebjbkpgicbgeaa.ArcW Go.Proofs.Ytebjbkpgicbgeaa.ArcV Go.Proofs.Ytebjbkpgicbgeaa.ArcU Go.Proofs.Ytebjbkpgicbgeaa.ArcO Go.Proofs.Ytebjbkpgicbgeaa.ArcF Go.Proofs.Ytebjbkpgicbgeaa.Mask Go.Proofs.Ytebjbkpgicbgeaa.Open

theorem insert_nil (x : ByteArray) (w : World) : Calls Try.prog 12 #[.pointer none, .string x] w fun e w' => e = .returned (.slice none 0 0) ∧ w = w' := by
  go_enter Try.func12, Try.ntmps12
  go_wp2_with fail
  go_ret
  exact ⟨rfl, rfl⟩
theorem remove_nil (x : ByteArray) (w : World) : Calls Try.prog 17 #[.pointer none, .string x] w fun e w' => e = .returned (.bool false) ∧ w = w' := by
  go_enter Try.func17, Try.ntmps17
  go_wp2_with (go_at_call 14; refine (has_nil _ _).mono ?_; rintro e w1 ⟨rfl, rfl⟩)
  go_ret
  exact ⟨rfl, rfl⟩
theorem evict_nil (w : World) : Calls Try.prog 18 #[.pointer none] w fun e w' => e = .returned (.tuple #[.string ⟨#[]⟩, .bool false]) ∧ w = w' := by
  go_enter Try.func18, Try.ntmps18
  go_wp2_with (go_at_call 13; refine (len_nil _).mono ?_; rintro e w1 ⟨rfl, rfl⟩)
  go_ret2
  exact ⟨rfl, rfl⟩
theorem export_nil (w : World) : Calls Try.prog 20 #[.pointer none] w fun e w' => e = .returned (.string ⟨#[]⟩) ∧ w = w' := by
  go_enter Try.func20, Try.ntmps20
  go_wp2_with fail
  go_ret
  exact ⟨rfl, rfl⟩
theorem lists_nil (w : World) : Calls Try.prog 19 #[.pointer none] w fun e w' => e = .returned (.agg #[.slice none 0 0, .slice none 0 0, .slice none 0 0, .slice none 0 0]) ∧ Keep (fun _ => False) w w' := by
  go_enter Try.func19, Try.ntmps19
  go_wp2_with fail
  refine bodyPost_ret (v := .agg #[.slice none 0 0, .slice none 0 0, .slice none 0 0, .slice none 0 0]) ?_ rfl ⟨rfl, ?_⟩
  · simp [results, Try.results19, go_sem]
  · exact ((Keep.refl _ _).alloc _).alloc _

def zn (n : Nat) : ByteArray := ⟨(List.replicate n (0 : UInt8)).toArray⟩
abbrev zl : ByteArray := zn 65
theorem zl_size : zl.size = 65 := by decide
theorem infoB : (Try.prog.info? 5).map (fun i => (i.zero, i.size, i.bytes)) = some (some (.int .u8 0), 1, 1) := by kernel_rfl
theorem made_bytes (n : Nat) : madeCells (Value.int .u8 0).cells (n * 1) = (List.replicate n (Value.int .u8 0)).toArray := by
  apply Array.ext'
  show (madeCells #[Value.int .u8 0] (n * 1)).toList = _
  rw [toList_madeCells_one, Nat.mul_one]
theorem cvn (n : Nat) (W : World) : (convert 33 9 (.slice (some ⟨W.heap.size, 0, none⟩) n n)).run Try.prog (W.alloc (.cells (List.replicate n (Value.int .u8 0)).toArray 5)) = .ok (.string (zn n)) (W.alloc (.cells (List.replicate n (Value.int .u8 0)).toArray 5)) := by
  have h := run_convert_bytes_back (P := Try.prog) (W.alloc (.cells (List.replicate n (Value.int .u8 0)).toArray 5)) 33 9 5 ⟨W.heap.size, 0, none⟩ n (List.replicate n (0 : UInt8)) Try.underlying33 Try.underlying5 Try.underlying9 (fun j hj => by
    have hj2 : j < n := by simpa using hj
    have : (⟨W.heap.size, 0, none⟩ : Addr).add j = ⟨W.heap.size, j, none⟩ := by
      unfold Addr.add
      split
      · rename_i e; subst e; rfl
      · simp
    rw [this, cell_at (block_new W _) j]
    simp [hj2])
  rw [List.length_replicate] at h
  exact h
theorem ins_zl (c : Nat) (s : Ac) : ins c zl s = (s, none) := by
  unfold ins
  rw [if_pos (by rw [zl_size]; omega)]
set_option maxHeartbeats 4000000 in
theorem arcNone_good (most : Int) (key : ByteArray) (w : World) (hk : key.size ≤ 9223372036854775807) (k : Nat) (hb : bits .and .i64 most 2047 = (k : Int)) (h1 : 1 ≤ k) (h2 : k ≤ 1000) :
    Calls Try.prog 7 #[.int .i64 most, .string key] w fun e w' => e = .returned (.bool true) ∧ Below w.heap.size w w' := by
  obtain ⟨i0, hi, hz0, hz1, hz2⟩ := info_parts infoB
  have mk := fun W => run_make (P := Try.prog) W 33 5 i0 _ Try.underlying33 hi hz0 .i64 .i64 65 65 (by omega) (by omega) (by rw [hz2]; omega) (by omega)
  simp only [hz1, show (65 : Int).toNat = 65 from rfl, made_bytes] at mk
  have hcv := cvn 65
  obtain ⟨zc, hzc⟩ : ∃ zc, zc = (List.replicate 65 (Value.int .u8 0)).toArray := ⟨_, rfl⟩
  obtain ⟨zs, hzs⟩ : ∃ zs, zs = zn 65 := ⟨_, rfl⟩
  rw [← hzc] at mk
  rw [← hzc, ← hzs] at hcv
  have HZS := Lib.hid hzs
  clear hzc hzs
  have N1 := Lib.hid (own_new k h1 h2 w)
  have hg1 : (1 : Int) ≤ (k : Int) := by omega
  have hg2 : (k : Int) ≤ 1000 := by omega
  go_enter Try.func7, Try.ntmps7
  go_upto_region 6 with (first
    | (go_at_call 18; refine (evict_nil _).mono ?_; rintro e w1 ⟨rfl, rfl⟩)
    | (go_at_call 9; with_reducible refine N1.out.mono ?_; rintro e w1 ⟨ab, b, rfl, O1⟩; replace O1 := Lib.hid O1)
    | (go_at_call 9; refine (own_new 3 (by omega) (by omega) _).mono ?_; rintro e w2 ⟨ab2, b2, rfl, O2⟩; replace O2 := Lib.hid O2))
  go_upto_region 7 with fail
  go_upto_region 8 with (go_at_call 12; rw [HZS.out]; refine (own_insert (O2.out.keep0 ((Keep.refl _ _).alloc (.cells zc 5))) (by omega) zl (by rw [zl_size]; omega)).mono ?_; rintro e w3 ⟨v, rfl, o3, O3⟩; rw [ins_zl] at o3 O3; obtain rfl : v = .slice none 0 0 := o3; replace O3 := Lib.hid O3)
  have HEXK := Lib.hid hk
  clear mk hcv hk hi hz0 hz1 hz2
  go_wp2_with (first
    | (go_at_call 19; refine (lists_nil _).mono ?_; rintro e w4 ⟨rfl, k4⟩; replace k4 := Lib.hid k4)
    | (go_at_call 10; refine (awake_any _).mono ?_; rintro e w5 ⟨rfl, k5⟩
       have c5 : w5.cell? ⟨w4.heap.size, 0, none⟩ = some (.slice none 0 0) := (k5.cell (p := ⟨w4.heap.size, 0, none⟩) (by simp) (fun e => e)).trans (cell_at (block_new w4 _) 0)
       have O5 := O3.out.keep0 (k4.out.trans (((Keep.refl _ _).alloc _).trans k5))
       have T5 := Lib.hid (own_len O5)
       replace O5 := Lib.hid O5
       replace k5 := Lib.hid k5)
    | (go_at_call 11; refine (few_any key HEXK.out _).mono ?_; rintro e w6 ⟨rfl, rfl⟩)
    | (go_at_call 14; refine (has_nil _ _).mono ?_; rintro e w6 ⟨rfl, rfl⟩)
    | (go_at_call 13; with_reducible refine T5.out.mono ?_; rintro e w7 ⟨rfl, O7⟩; replace O7 := Lib.hid O7)
    | (go_at_call 13; refine (len_nil _).mono ?_; rintro e w6 ⟨rfl, rfl⟩)
    | (go_at_call 15; refine (touch_nil _ _).mono ?_; rintro e w6 ⟨rfl, rfl⟩)
    | (go_at_call 12; refine (insert_nil _ _).mono ?_; rintro e w6 ⟨rfl, rfl⟩)
    | (go_at_call 17; refine (remove_nil _ _).mono ?_; rintro e w6 ⟨rfl, rfl⟩)
    | (go_at_call 16; refine (target_nil _).mono ?_; rintro e w6 ⟨rfl, rfl⟩)
    | (go_at_call 20; refine (export_nil _).mono ?_; rintro e w6 ⟨rfl, rfl⟩))
  go_ret
  exact ⟨rfl, (O1.out.kept.trans O7.out.kept).below0⟩
set_option maxHeartbeats 4000000 in
theorem arcNone_many (most : Int) (key : ByteArray) (w : World) (hk : key.size ≤ 9223372036854775807) (k : Nat) (hb : bits .and .i64 most 2047 = (k : Int)) (h2 : 1000 < k) :
    Calls Try.prog 7 #[.int .i64 most, .string key] w fun e w' => e = .returned (.bool true) ∧ Below w.heap.size w w' := by
  obtain ⟨i0, hi, hz0, hz1, hz2⟩ := info_parts infoB
  have mk := fun W => run_make (P := Try.prog) W 33 5 i0 _ Try.underlying33 hi hz0 .i64 .i64 65 65 (by omega) (by omega) (by rw [hz2]; omega) (by omega)
  simp only [hz1, show (65 : Int).toNat = 65 from rfl, made_bytes] at mk
  have hcv := cvn 65
  obtain ⟨zc, hzc⟩ : ∃ zc, zc = (List.replicate 65 (Value.int .u8 0)).toArray := ⟨_, rfl⟩
  obtain ⟨zs, hzs⟩ : ∃ zs, zs = zn 65 := ⟨_, rfl⟩
  rw [← hzc] at mk
  rw [← hzc, ← hzs] at hcv
  have HZS := Lib.hid hzs
  clear hzc hzs
  have N1 := Lib.hid (new_bad (k : Int) (by omega) w)
  have hg1 : (1 : Int) ≤ (k : Int) := by omega
  have hg2 : ¬ (k : Int) ≤ 1000 := by omega
  go_enter Try.func7, Try.ntmps7
  go_upto_region 6 with (first
    | (go_at_call 18; refine (evict_nil _).mono ?_; rintro e w1 ⟨rfl, rfl⟩)
    | (go_at_call 9; with_reducible refine N1.out.mono ?_; rintro e w1 ⟨rfl, rfl⟩)
    | (go_at_call 9; refine (own_new 3 (by omega) (by omega) _).mono ?_; rintro e w2 ⟨ab2, b2, rfl, O2⟩; replace O2 := Lib.hid O2))
  go_upto_region 7 with fail
  go_upto_region 8 with (go_at_call 12; rw [HZS.out]; refine (own_insert (O2.out.keep0 ((Keep.refl _ _).alloc (.cells zc 5))) (by omega) zl (by rw [zl_size]; omega)).mono ?_; rintro e w3 ⟨v, rfl, o3, O3⟩; rw [ins_zl] at o3 O3; obtain rfl : v = .slice none 0 0 := o3; replace O3 := Lib.hid O3)
  have HEXK := Lib.hid hk
  clear mk hcv hk hi hz0 hz1 hz2
  go_wp2_with (first
    | (go_at_call 19; refine (lists_nil _).mono ?_; rintro e w4 ⟨rfl, k4⟩; replace k4 := Lib.hid k4)
    | (go_at_call 10; refine (awake_any _).mono ?_; rintro e w5 ⟨rfl, k5⟩
       have c5 : w5.cell? ⟨w4.heap.size, 0, none⟩ = some (.slice none 0 0) := (k5.cell (p := ⟨w4.heap.size, 0, none⟩) (by simp) (fun e => e)).trans (cell_at (block_new w4 _) 0)
       have O5 := O3.out.keep0 (k4.out.trans (((Keep.refl _ _).alloc _).trans k5))
       have T5 := Lib.hid (own_len O5)
       replace O5 := Lib.hid O5
       replace k5 := Lib.hid k5)
    | (go_at_call 11; refine (few_any key HEXK.out _).mono ?_; rintro e w6 ⟨rfl, rfl⟩)
    | (go_at_call 14; refine (has_nil _ _).mono ?_; rintro e w6 ⟨rfl, rfl⟩)
    | (go_at_call 13; with_reducible refine T5.out.mono ?_; rintro e w7 ⟨rfl, O7⟩; replace O7 := Lib.hid O7)
    | (go_at_call 13; refine (len_nil _).mono ?_; rintro e w6 ⟨rfl, rfl⟩)
    | (go_at_call 15; refine (touch_nil _ _).mono ?_; rintro e w6 ⟨rfl, rfl⟩)
    | (go_at_call 12; refine (insert_nil _ _).mono ?_; rintro e w6 ⟨rfl, rfl⟩)
    | (go_at_call 17; refine (remove_nil _ _).mono ?_; rintro e w6 ⟨rfl, rfl⟩)
    | (go_at_call 16; refine (target_nil _).mono ?_; rintro e w6 ⟨rfl, rfl⟩)
    | (go_at_call 20; refine (export_nil _).mono ?_; rintro e w6 ⟨rfl, rfl⟩))
  go_ret
  exact ⟨by show Ending.returned (Value.bool (!decide ((k : Int) ≤ 1000))) = _; rw [decide_eq_false (by omega)]; rfl, O7.out.kept.below0⟩
set_option maxHeartbeats 4000000 in
theorem arcNone_zero (most : Int) (key : ByteArray) (w : World) (hk : key.size ≤ 9223372036854775807) (k : Nat) (hb : bits .and .i64 most 2047 = (k : Int)) (h2 : k < 1) :
    Calls Try.prog 7 #[.int .i64 most, .string key] w fun e w' => e = .returned (.bool true) ∧ Below w.heap.size w w' := by
  obtain ⟨i0, hi, hz0, hz1, hz2⟩ := info_parts infoB
  have mk := fun W => run_make (P := Try.prog) W 33 5 i0 _ Try.underlying33 hi hz0 .i64 .i64 65 65 (by omega) (by omega) (by rw [hz2]; omega) (by omega)
  simp only [hz1, show (65 : Int).toNat = 65 from rfl, made_bytes] at mk
  have hcv := cvn 65
  obtain ⟨zc, hzc⟩ : ∃ zc, zc = (List.replicate 65 (Value.int .u8 0)).toArray := ⟨_, rfl⟩
  obtain ⟨zs, hzs⟩ : ∃ zs, zs = zn 65 := ⟨_, rfl⟩
  rw [← hzc] at mk
  rw [← hzc, ← hzs] at hcv
  have HZS := Lib.hid hzs
  clear hzc hzs
  have N1 := Lib.hid (new_bad (k : Int) (by omega) w)
  have hg1 : ¬ (1 : Int) ≤ (k : Int) := by omega
  go_enter Try.func7, Try.ntmps7
  go_upto_region 6 with (first
    | (go_at_call 18; refine (evict_nil _).mono ?_; rintro e w1 ⟨rfl, rfl⟩)
    | (go_at_call 9; with_reducible refine N1.out.mono ?_; rintro e w1 ⟨rfl, rfl⟩)
    | (go_at_call 9; refine (own_new 3 (by omega) (by omega) _).mono ?_; rintro e w2 ⟨ab2, b2, rfl, O2⟩; replace O2 := Lib.hid O2))
  go_upto_region 7 with fail
  go_upto_region 8 with (go_at_call 12; rw [HZS.out]; refine (own_insert (O2.out.keep0 ((Keep.refl _ _).alloc (.cells zc 5))) (by omega) zl (by rw [zl_size]; omega)).mono ?_; rintro e w3 ⟨v, rfl, o3, O3⟩; rw [ins_zl] at o3 O3; obtain rfl : v = .slice none 0 0 := o3; replace O3 := Lib.hid O3)
  have HEXK := Lib.hid hk
  clear mk hcv hk hi hz0 hz1 hz2
  go_wp2_with (first
    | (go_at_call 19; refine (lists_nil _).mono ?_; rintro e w4 ⟨rfl, k4⟩; replace k4 := Lib.hid k4)
    | (go_at_call 10; refine (awake_any _).mono ?_; rintro e w5 ⟨rfl, k5⟩
       have c5 : w5.cell? ⟨w4.heap.size, 0, none⟩ = some (.slice none 0 0) := (k5.cell (p := ⟨w4.heap.size, 0, none⟩) (by simp) (fun e => e)).trans (cell_at (block_new w4 _) 0)
       have O5 := O3.out.keep0 (k4.out.trans (((Keep.refl _ _).alloc _).trans k5))
       have T5 := Lib.hid (own_len O5)
       replace O5 := Lib.hid O5
       replace k5 := Lib.hid k5)
    | (go_at_call 11; refine (few_any key HEXK.out _).mono ?_; rintro e w6 ⟨rfl, rfl⟩)
    | (go_at_call 14; refine (has_nil _ _).mono ?_; rintro e w6 ⟨rfl, rfl⟩)
    | (go_at_call 13; with_reducible refine T5.out.mono ?_; rintro e w7 ⟨rfl, O7⟩; replace O7 := Lib.hid O7)
    | (go_at_call 13; refine (len_nil _).mono ?_; rintro e w6 ⟨rfl, rfl⟩)
    | (go_at_call 15; refine (touch_nil _ _).mono ?_; rintro e w6 ⟨rfl, rfl⟩)
    | (go_at_call 12; refine (insert_nil _ _).mono ?_; rintro e w6 ⟨rfl, rfl⟩)
    | (go_at_call 17; refine (remove_nil _ _).mono ?_; rintro e w6 ⟨rfl, rfl⟩)
    | (go_at_call 16; refine (target_nil _).mono ?_; rintro e w6 ⟨rfl, rfl⟩)
    | (go_at_call 20; refine (export_nil _).mono ?_; rintro e w6 ⟨rfl, rfl⟩))
  go_ret
  exact ⟨rfl, O7.out.kept.below0⟩
theorem arcNone_walk (most : Int) (key : ByteArray) (w : World) (wp : (Lit.int .i64 most).wf = true) (hk : key.size ≤ 9223372036854775807) :
    Calls Try.prog 7 #[.int .i64 most, .string key] w fun e w' => e = .returned (.bool true) ∧ Below w.heap.size w w' := by
  obtain ⟨k, hc, hc2, -⟩ := i64_and most 11 (by omega)
  have hc' : bits .and .i64 most 2047 = (k : Int) := hc
  by_cases h1 : 1 ≤ k
  · by_cases h2 : k ≤ 1000
    · exact arcNone_good most key w hk k hc' h1 h2
    · exact arcNone_many most key w hk k hc' (by omega)
  · exact arcNone_zero most key w hk k hc' (by omega)

end Go.Proofs.Ytebjbkpgicbgeaa.ArcN
