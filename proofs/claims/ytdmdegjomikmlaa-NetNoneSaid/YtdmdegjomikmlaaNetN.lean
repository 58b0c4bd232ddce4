/-
  Layer 22 (net): no network; the law NetNone.
-/
import Derived.Test.YtdmdegjomikmlaaNetA
namespace Go.Proofs.Ytdmdegjomikmlaa.NetN
set_option linter.unusedVariables false
set_option linter.unusedSimpArgs false
open Go.RowKit Go.Proofs.Ytdmdegjomikmlaa.Mem Go.Proofs.Ytdmdegjomikmlaa.NetM Go.Proofs.Ytdmdegjomikmlaa.NetW Go.Proofs.Ytdmdegjomikmlaa.NetS Go.Proofs.Ytdmdegjomikmlaa.NetD Go.Proofs.Ytdmdegjomikmlaa.NetT Go.Proofs.Ytdmdegjomikmlaa.NetA
attribute [-go_sem] Instr.loadAt loadVar
attribute [local go_sem] loadAt_ptr lv_int lv_bool lv_string lv_u8 lv_ps lv_map

theorem cut_nil (a b : Int) (w : World) : Calls Try.prog 15 #[.pointer none, .int .i64 a, .int .i64 b] w fun e w' => e = .returned (.tuple #[]) ∧ Keep (fun _ => False) w w' := by
  go_enter Try.func15, Try.ntmps15
  go_wp2_with fail
  exact bodyPost_ret (v := .tuple #[]) (by simp [results, Try.results15, go_sem]) rfl ⟨rfl, ((Keep.refl _ _).alloc _).alloc _⟩
theorem heal_nil (w : World) : Calls Try.prog 16 #[.pointer none] w fun e w' => e = .returned (.tuple #[]) ∧ Keep (fun _ => False) w w' := by
  go_enter Try.func16, Try.ntmps16
  go_wp2_with fail
  exact bodyPost_end (v := .tuple #[]) (by simp [results, Try.results16, go_sem]) rfl ⟨rfl, Keep.refl _ _⟩
theorem len_nil (w : World) : Calls Try.prog 11 #[.pointer none] w fun e w' => e = .returned (.int .i64 0) ∧ Keep (fun _ => False) w w' := by
  go_enter Try.func11, Try.ntmps11
  go_wp2_with fail
  go_ret
  exact ⟨rfl, Keep.refl _ _⟩
theorem all_nil (w : World) : Calls Try.prog 14 #[.pointer none] w fun e w' => e = .returned (.slice none 0 0) ∧ Keep (fun _ => False) w w' := by
  go_enter Try.func14, Try.ntmps14
  go_wp2_with fail
  go_ret
  exact ⟨rfl, Keep.refl _ _⟩
theorem is_nil (i : Int) (w : World) : Calls Try.prog 22 #[.pointer none, .int .i64 i] w fun e w' => e = .returned (.bool false) ∧ w = w' := by
  go_enter Try.func22, Try.ntmps22
  go_wp2_with fail
  go_ret
  exact ⟨rfl, rfl⟩
theorem take_nil (i : Int) (w : World) : Calls Try.prog 18 #[.pointer none, .int .i64 i] w fun e w' => e = .returned (.tuple #[noPk, .bool false]) ∧ Keep (fun _ => False) w w' := by
  go_enter Try.func18, Try.ntmps18
  go_wp2_with (go_at_call 22; refine (is_nil _ _).mono ?_; rintro e w1 ⟨rfl, rfl⟩)
  have ln := load_new w ⟨0, 0, ⟨#[]⟩, false⟩
  simp only at ln
  exact bodyPost_ret (v := .tuple #[noPk, .bool false]) (by simp [results, Try.results18, go_sem, ln, noPk]) rfl ⟨rfl, (Keep.refl _ _).alloc _⟩
theorem drop_nil (i : Int) (w : World) : Calls Try.prog 19 #[.pointer none, .int .i64 i] w fun e w' => e = .returned (.bool false) ∧ Keep (fun _ => False) w w' := by
  go_enter Try.func19, Try.ntmps19
  go_wp2_with (go_at_call 18; refine (take_nil _ _).mono ?_; rintro e w1 ⟨rfl, k1⟩; unfold noPk)
  go_ret
  exact ⟨rfl, k1.alloc _⟩
theorem double_nil (i : Int) (w : World) : Calls Try.prog 13 #[.pointer none, .int .i64 i] w fun e w' => e = .returned (.bool false) ∧ Keep (fun _ => False) w w' := by
  go_enter Try.func13, Try.ntmps13
  go_wp2_with (go_at_call 22; refine (is_nil _ _).mono ?_; rintro e w1 ⟨rfl, rfl⟩)
  go_ret
  exact ⟨rfl, Keep.refl _ _⟩
theorem spoil_nil (i a c : Int) (w : World) : Calls Try.prog 12 #[.pointer none, .int .i64 i, .int .i64 a, .int .u8 c] w fun e w' => e = .returned (.bool false) ∧ Keep (fun _ => False) w w' := by
  go_enter Try.func12, Try.ntmps12
  go_wp2_with (go_at_call 22; refine (is_nil _ _).mono ?_; rintro e w1 ⟨rfl, rfl⟩)
  go_ret
  exact ⟨rfl, Keep.refl _ _⟩

theorem netNone_walk (a b : Int) (w : World) (wa : (Lit.int .i64 a).wf = true) (wb : (Lit.int .i64 b).wf = true) :
    Calls Try.prog 7 #[.int .i64 a, .int .i64 b] w fun e w' => e = .returned (.bool true) ∧ Below w.heap.size w w' := by
  go_enter Try.func7, Try.ntmps7
  go_wp2_with (first
    | (go_at_call 15; refine (cut_nil _ _ _).mono ?_; rintro e w1 ⟨rfl, k1⟩)
    | (go_at_call 16; refine (heal_nil _).mono ?_; rintro e w2 ⟨rfl, k2⟩)
    | (go_at_call 18; refine (take_nil _ _).mono ?_; rintro e w3 ⟨rfl, k3⟩; unfold noPk; replace k3 := k3.alloc (.cells #[.int .i64 0, .int .i64 0, .string ⟨#[]⟩, .bool false] TP))
    | (go_at_call 8; refine (awake_any _).mono ?_; rintro e w4 ⟨rfl, k4⟩)
    | (go_at_call 10; refine (send_nil _ _).mono ?_; rintro e w5 ⟨rfl, rfl⟩)
    | (go_at_call 19; refine (drop_nil _ _).mono ?_; rintro e w6 ⟨rfl, k6⟩)
    | (go_at_call 13; refine (double_nil _ _).mono ?_; rintro e w7 ⟨rfl, k7⟩)
    | (go_at_call 12; refine (spoil_nil _ _ _ _).mono ?_; rintro e w8 ⟨rfl, k8⟩)
    | (go_at_call 11; refine (len_nil _).mono ?_; rintro e w9 ⟨rfl, k9⟩)
    | (go_at_call 14; refine (all_nil _).mono ?_; rintro e w10 ⟨rfl, k10⟩))
  go_ret
  exact ⟨rfl, Keep.below0 ((((((((k1.trans k2).trans k3).trans k4).alloc _).trans k6).trans k7).trans k8).trans (k9.trans k10))⟩

end Go.Proofs.Ytdmdegjomikmlaa.NetN
