/-
  Layer 17 (quorum): what is promised, what is taken.
-/
import Derived.Test.YtppnjkiegiokeaaQuoW
namespace Go.Proofs.Ytppnjkiegiokeaa.QuoV
set_option linter.unusedVariables false
set_option linter.unusedSimpArgs false
open Go.RowKit Go.Proofs.Ytppnjkiegiokeaa.Mem Go.Proofs.Ytppnjkiegiokeaa.QuoW

def b2 (x : Bool) : Int := if x then 1 else 0
def cnt (x y z : Bool) : Int := b2 x + b2 y + b2 z

theorem infoB : (Try.prog.info? 4).map (fun i => (i.zero, i.size, i.bytes)) = some (some (.bool false), 1, 1) := by kernel_rfl
theorem count_any (x y z : Bool) (w : World) :
    Calls Try.prog 23 #[.agg #[.bool x, .bool y, .bool z]] w fun e w' => e = .returned (.int .i64 (cnt x y z)) ∧ Below w.heap.size w w' := by
  have j0 : ∀ (x y z : Bool) (w : World), (Instr.index 55 (.agg #[.bool x, .bool y, .bool z]) (.int .i64 0)).run Try.prog w = .ok (.bool x) w := fun _ _ _ _ => by kernel_rfl
  have j1 : ∀ (x y z : Bool) (w : World), (Instr.index 55 (.agg #[.bool x, .bool y, .bool z]) (.int .i64 1)).run Try.prog w = .ok (.bool y) w := fun _ _ _ _ => by kernel_rfl
  have j2 : ∀ (x y z : Bool) (w : World), (Instr.index 55 (.agg #[.bool x, .bool y, .bool z]) (.int .i64 2)).run Try.prog w = .ok (.bool z) w := fun _ _ _ _ => by kernel_rfl
  have e1 : b2 true = 1 := rfl
  have e0 : b2 false = 0 := rfl
  have bw : Below w.heap.size w (w.alloc (.cells #[.bool x, .bool y, .bool z] 55)) := (Below.refl _ w).alloc (Nat.le_refl _) _
  go_enter Try.func23, Try.ntmps23
  go_wp2_with fail
  go_loop [3, 5, 7] (fun n c i => (i = .int .i64 0 ∧ n = .int .i64 0) ∨ (i = .int .i64 1 ∧ n = .int .i64 (b2 x)) ∨ (i = .int .i64 2 ∧ n = .int .i64 (b2 x + b2 y)) ∨ (i = .int .i64 3 ∧ n = .int .i64 (b2 x + b2 y + b2 z))) (fun _ _ i => 3 - (intOf i).toNat)
  case atStart => exact .inl ⟨rfl, rfl⟩
  case round =>
    rcases hrel with ⟨rfl, rfl⟩ | ⟨rfl, rfl⟩ | ⟨rfl, rfl⟩ | ⟨rfl, rfl⟩
    · cases x
      all_goals
        go_wp2
        go_round
        case rel => exact .inr (.inl ⟨rfl, rfl⟩)
        case measure => simp [intOf]
    · cases x <;> cases y
      all_goals
        go_wp2
        go_round
        case rel => exact .inr (.inr (.inl ⟨rfl, rfl⟩))
        case measure => simp [intOf]
    · cases x <;> cases y <;> cases z
      all_goals
        go_wp2
        go_round
        case rel => exact .inr (.inr (.inr ⟨rfl, rfl⟩))
        case measure => simp [intOf]
    · go_wp2
      go_ret
      exact ⟨rfl, bw⟩

theorem second_any (s : PS) (b : Nat) (w : World) (h : PAt w b s) :
    Calls Try.prog 14 #[.pointer (some ⟨b, 0, none⟩)] w fun e w' => e = .returned (.bool s.sec) ∧ w = w' := by
  have c28 : w.cell? ⟨b, 28, none⟩ = some (.bool s.sec) := h.c 28
  clear h
  go_enter Try.func14, Try.ntmps14
  go_wp2_with fail
  go_ret
  exact ⟨rfl, rfl⟩

theorem value_any (s : PS) (b : Nat) (w : World) (h : PAt w b s) :
    Calls Try.prog 17 #[.pointer (some ⟨b, 0, none⟩)] w fun e w' => e = .returned s.val.agg ∧ Below w.heap.size w w' := by
  have hl := World.block_lt_of_cell? w ⟨b, 22, none⟩ (show w.cell? ⟨b, 22, none⟩ = some (.int .u64 s.val.v) from h.c 22)
  have c22 : ∀ o, (w.alloc o).cell? ⟨b, 22, none⟩ = some (.int .u64 s.val.v) := fun o => PAt.c (s := s) (block_alloc h o) 22
  have c23 : ∀ o, (w.alloc o).cell? ⟨b, 23, none⟩ = some (.int .i64 s.val.p) := fun o => PAt.c (s := s) (block_alloc h o) 23
  have c24 : ∀ o, (w.alloc o).cell? ⟨b, 24, none⟩ = some (.int .u64 s.val.pl) := fun o => PAt.c (s := s) (block_alloc h o) 24
  have c25 : ∀ o, (w.alloc o).cell? ⟨b, 25, none⟩ = some (.int .i64 s.val.b) := fun o => PAt.c (s := s) (block_alloc h o) 25
  have c26 : ∀ o, (w.alloc o).cell? ⟨b, 26, none⟩ = some (.int .u64 s.val.bl) := fun o => PAt.c (s := s) (block_alloc h o) 26
  have c27 : ∀ o, (w.alloc o).cell? ⟨b, 27, none⟩ = some (.int .u64 s.val.e) := fun o => PAt.c (s := s) (block_alloc h o) 27
  have bw : ∀ o, Below w.heap.size w (w.alloc o) := fun o => (Below.refl _ w).alloc (Nat.le_refl _) o
  clear h hl
  go_enter Try.func17, Try.ntmps17
  go_wp2_with fail
  exact bodyPost_ret (v := s.val.agg) (by simp [results, Try.results17, go_sem, Vw.agg]) rfl ⟨rfl, bw _⟩

end Go.Proofs.Ytppnjkiegiokeaa.QuoV
