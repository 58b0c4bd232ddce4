/-
  Layer 22 (net): the closure of Cut.
-/
import Derived.Test.YtdmdegjomikmlaaNetH
namespace Go.Proofs.Ytdmdegjomikmlaa.NetI
set_option linter.unusedVariables false
set_option linter.unusedSimpArgs false
open Go.RowKit Go.Proofs.Ytdmdegjomikmlaa.Mem Go.Proofs.Ytdmdegjomikmlaa.NetM Go.Proofs.Ytdmdegjomikmlaa.NetW Go.Proofs.Ytdmdegjomikmlaa.NetS Go.Proofs.Ytdmdegjomikmlaa.NetD Go.Proofs.Ytdmdegjomikmlaa.NetT Go.Proofs.Ytdmdegjomikmlaa.NetA Go.Proofs.Ytdmdegjomikmlaa.NetH
attribute [-go_sem] Instr.loadAt loadVar
attribute [local go_sem] loadAt_ptr lv_int lv_bool lv_string lv_u8 lv_ps lv_map

theorem closure_any (A B : Nat) (a b : Int) (p : Pk) (w : World) (hA : w.cell? ⟨A, 0, none⟩ = some (.int .i64 a)) (hB : w.cell? ⟨B, 0, none⟩ = some (.int .i64 b)) (hAl : A < w.heap.size) (hBl : B < w.heap.size) :
    Calls Try.prog 25 #[p.agg, .pointer (some ⟨A, 0, none⟩), .pointer (some ⟨B, 0, none⟩)] w fun e w' => e = .returned (.bool (same a b p)) ∧ Below w.heap.size w w' := by
  obtain ⟨fr, to_, s, sp⟩ := p
  unfold Pk.agg Pk.cells
  obtain ⟨u, hu⟩ : ∃ u, u = w.alloc (.cells #[.int .i64 fr, .int .i64 to_, .string s, .bool sp] TP) := ⟨_, rfl⟩
  have ku : Keep (fun _ => False) w u := by rw [hu]; exact (Keep.refl _ _).alloc _
  have hx : u.heap[w.heap.size]? = some (.cells #[.int .i64 fr, .int .i64 to_, .string s, .bool sp] TP (0, 0)) := by rw [hu]; exact block_new w _
  have hS : ∀ w', Keep (fun _ => False) u w' → w'.cell? ⟨w.heap.size, 0, none⟩ = some (.int .i64 fr) ∧ w'.cell? ⟨w.heap.size, 1, none⟩ = some (.int .i64 to_) ∧ w'.cell? ⟨A, 0, none⟩ = some (.int .i64 a) ∧ w'.cell? ⟨B, 0, none⟩ = some (.int .i64 b) := fun w' kk => by
    have hb3 := (kk.block w.heap.size (lt_of_block hx) (fun e => e)).trans hx
    exact ⟨cell_at hb3 0, cell_at hb3 1, ((ku.trans kk).cell (p := ⟨A, 0, none⟩) hAl (fun e => e)).trans hA, ((ku.trans kk).cell (p := ⟨B, 0, none⟩) hBl (fun e => e)).trans hB⟩
  have HS := Lib.hid hS
  have Hu := Lib.hid hu
  have Ku := Lib.hid ku
  clear hS hu ku hA hB hx
  cases h1 : (min fr to_ == min a b) <;> cases h2 : (max fr to_ == max a b)
  all_goals
    go_enter Try.func25, Try.ntmps25
    go_wp2_with fail
    rw [← Hu.out]
    go_region_held3 (fun w' => Keep (fun _ => False) u w' ∧ w'.cell? ⟨w.heap.size, 0, none⟩ = some (.int .i64 fr) ∧ w'.cell? ⟨w.heap.size, 1, none⟩ = some (.int .i64 to_) ∧ w'.cell? ⟨A, 0, none⟩ = some (.int .i64 a) ∧ w'.cell? ⟨B, 0, none⟩ = some (.int .i64 b))
      (first
        | exact ⟨(Keep.refl (fun _ => False) u).drew, HS.out _ ((Keep.refl (fun _ => False) u).drew)⟩
        | (have kk : Keep (fun _ => False) u w1 := by
             refine Keep.trans ?_ (Keep.of0 k1)
             apply And.left
             assumption
           exact ⟨kk, HS.out _ kk⟩))
      (first
        | (go_at_call 20; refine (both_any _ _ _).mono ?_; rintro e w1 ⟨rfl, k1⟩))
    go_wp2_with fail
    go_ret
    refine ⟨?_, Keep.below0 ((Ku.out.trans ((Keep.refl (fun _ => False) u).drew)).trans ((Keep.of0 (by assumption)).trans (Keep.of0 k1)))⟩
    show _ = Ending.returned (Value.bool ((min fr to_ == min a b) && (max fr to_ == max a b)))
    rw [h1, h2]
    rfl

end Go.Proofs.Ytdmdegjomikmlaa.NetI
