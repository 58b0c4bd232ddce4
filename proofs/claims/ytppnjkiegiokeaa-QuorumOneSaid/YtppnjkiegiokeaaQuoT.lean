/-
  Layer 17 (quorum): answers and views in memory, steps of a proposer.
-/
import Derived.Test.YtppnjkiegiokeaaQuoA
namespace Go.Proofs.Ytppnjkiegiokeaa.QuoT
set_option linter.unusedVariables false
set_option linter.unusedSimpArgs false
open Go.RowKit Go.Proofs.Ytppnjkiegiokeaa.Mem Go.Proofs.Ytppnjkiegiokeaa.QuoW Go.Proofs.Ytppnjkiegiokeaa.QuoV Go.Proofs.Ytppnjkiegiokeaa.QuoU Go.Proofs.Ytppnjkiegiokeaa.QuoR Go.Proofs.Ytppnjkiegiokeaa.QuoS Go.Proofs.Ytppnjkiegiokeaa.QuoA

/-- An answer in memory. -/
def Pr.row (x : Pr) : Array Value := #[.bool x.ok, .int .u64 x.v, .int .u64 x.most, .int .u64 x.bal,
  .int .u64 x.val.v, .int .i64 x.val.p, .int .u64 x.val.pl, .int .i64 x.val.b, .int .u64 x.val.bl, .int .u64 x.val.e,
  .int .u64 x.ch.v, .int .i64 x.ch.p, .int .u64 x.ch.pl, .int .i64 x.ch.b, .int .u64 x.ch.bl, .int .u64 x.ch.e]
abbrev TPr : TypeId := 37
def XAt (w : World) (X : Nat) (x : Pr) : Prop := w.heap[X]? = some (.cells (Pr.row x) TPr (0, 0))
theorem load_x {w : World} {X : Nat} {x : Pr} (h : XAt w X x) : (loadVar 37 ⟨X, 0, none⟩).run Try.prog w = .ok (.agg #[.bool x.ok, .int .u64 x.v, .int .u64 x.most, .int .u64 x.bal,
  .int .u64 x.val.v, .int .i64 x.val.p, .int .u64 x.val.pl, .int .i64 x.val.b, .int .u64 x.val.bl, .int .u64 x.val.e,
  .int .u64 x.ch.v, .int .i64 x.ch.p, .int .u64 x.ch.pl, .int .i64 x.ch.b, .int .u64 x.ch.bl, .int .u64 x.ch.e]) w :=
  run_loadVar_mid w X 0 37 (Pr.row x).toList _ (World.rangeAt_of_block h 0 16) Try.underlying37 rfl infoPr
theorem keepX {u v : World} {b X : Nat} {x : Pr} (k : Keep (· = b) u v) (h : XAt u X x) (hne : ¬ X = b) : XAt v X x := (k.block X (lt_of_block h) hne).trans h
theorem belowX {u v : World} {X : Nat} {x : Pr} (k : Below u.heap.size u v) (h : XAt u X x) : XAt v X x := below_block k h
theorem keepB {w u v : World} {b : Nat} (hb : Below w.heap.size w u) (k : Keep (· = b) u v) (h : w.heap.size ≤ b) : Below w.heap.size w v := hb.trans (k.below hb.size (fun k e => by subst e; exact h))
theorem bb {w u v : World} (hb : Below w.heap.size w u) (k : Below u.heap.size u v) : Below w.heap.size w v := hb.trans (k.mono hb.size)

theorem loadAt_ptr (ty : TypeId) (p : Addr) (w : World) : (Instr.loadAt ty (.pointer (some p))).run Try.prog w = (loadVar ty p).run Try.prog w := by
  simp only [Instr.loadAt, Instr.sureAddr, Sem.run_bind, Sem.run_pure, Result.andThen_ok]
theorem lv_bool (p : Addr) (w : World) : (loadVar 4 p).run Try.prog w = (load p).run Try.prog w := by simp [loadVar, go_sem]
theorem lv_int (p : Addr) (w : World) : (loadVar 3 p).run Try.prog w = (load p).run Try.prog w := by simp [loadVar, go_sem]
theorem lv_u64 (p : Addr) (w : World) : (loadVar 23 p).run Try.prog w = (load p).run Try.prog w := by simp [loadVar, go_sem]

theorem Live.prom {s : PS} (h : Live s) (k : Nat) (bal : Int) (val : Vw) : Live (PS.prom s k bal val) := ⟨h.r0, h.r1, h.l0, h.l1, h.m0, h.m1⟩
theorem Live.take {s : PS} (h : Live s) (k : Nat) : Live (PS.take s k) := ⟨h.r0, h.r1, h.l0, h.l1, h.m0, h.m1⟩

/-- The proposer of most laws: node 0 in life 3, behind its first ballot. -/
abbrev s03 : PS := st 0 3 1 false false false false false false 0 (wantV 0 3) false
theorem live03 : Live s03 := live _ _ _ _ _ _ _ _ _ _ _ _ (by omega) (by omega) (by omega) (by omega) (by omega) (by omega)
theorem dB0 (b : Nat) (w : World) (h : PAt w b (fresh firstV (wantV 0 3) 0 3)) : Calls Try.prog 13 #[.pointer (some ⟨b, 0, none⟩), .int .u64 0] w fun e w' => e = .returned (.bool true) ∧ PAt w' b s03 ∧ Keep (· = b) w w' :=
  begin_any _ b 0 w h (by decide) (by omega) (by omega) (by decide)
theorem dBB (b : Nat) (w : World) (h : PAt w b s03) : Calls Try.prog 12 #[.pointer (some ⟨b, 0, none⟩)] w fun e w' => e = .returned (.int .u64 4294967302) ∧ ∃ m, w' = w.drewN m :=
  ballot_any _ b w h (by decide) (by decide) (by decide) (by decide) (by decide) (by decide)

end Go.Proofs.Ytppnjkiegiokeaa.QuoT
