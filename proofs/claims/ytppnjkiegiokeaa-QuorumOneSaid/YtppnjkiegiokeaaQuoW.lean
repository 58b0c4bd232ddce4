/-
  Layer 17 (quorum): a proposer in memory, and what its functions do.
-/
import Derived.Test.YtppnjkiegiokeaaProg
import Derived.Test.YtppnjkiegiokeaaMem
import Derived.WalkKit
import Derived.Deep.QuietTactic
import Derived.BigQuiet
import Derived.Deep.AppendLies
import Derived.Deep.RegionLaw
import Derived.Deep.RegionHeld3
import Derived.StillTailTactics
import Derived.Deep.MidRow
import Derived.WalkSpells
import Derived.WalkLawsBesides
import Derived.Test.YtppnjkiegiokeaaMask
import Derived.Laws.StructEq
import Derived.IntWalk
namespace Go.Proofs.Ytppnjkiegiokeaa.QuoW
set_option linter.unusedVariables false
set_option linter.unusedSimpArgs false
open Go.RowKit Go.Proofs.Ytppnjkiegiokeaa.Mem

/-- A view. -/
structure Vw where
  v : Int
  p : Int
  pl : Int
  b : Int
  bl : Int
  e : Int
def Vw.cells (x : Vw) : List Value := [.int .u64 x.v, .int .i64 x.p, .int .u64 x.pl, .int .i64 x.b, .int .u64 x.bl, .int .u64 x.e]
def Vw.agg (x : Vw) : Value := .agg #[.int .u64 x.v, .int .i64 x.p, .int .u64 x.pl, .int .i64 x.b, .int .u64 x.bl, .int .u64 x.e]
/-- A promise. -/
structure Pr where
  ok : Bool
  v : Int
  most : Int
  bal : Int
  val : Vw
  ch : Vw
def Pr.agg (x : Pr) : Value := .agg #[.bool x.ok, .int .u64 x.v, .int .u64 x.most, .int .u64 x.bal,
  .int .u64 x.val.v, .int .i64 x.val.p, .int .u64 x.val.pl, .int .i64 x.val.b, .int .u64 x.val.bl, .int .u64 x.val.e,
  .int .u64 x.ch.v, .int .i64 x.ch.p, .int .u64 x.ch.pl, .int .i64 x.ch.b, .int .u64 x.ch.bl, .int .u64 x.ch.e]
/-- A proposer. -/
structure PS where
  kn : Vw
  wa : Vw
  me : Int
  life : Int
  round : Int
  y0 : Bool
  y1 : Bool
  y2 : Bool
  t0 : Bool
  t1 : Bool
  t2 : Bool
  best : Int
  val : Vw
  sec : Bool
def PS.row (s : PS) : Array Value := #[.int .u64 s.kn.v, .int .i64 s.kn.p, .int .u64 s.kn.pl, .int .i64 s.kn.b, .int .u64 s.kn.bl, .int .u64 s.kn.e,
  .int .u64 s.wa.v, .int .i64 s.wa.p, .int .u64 s.wa.pl, .int .i64 s.wa.b, .int .u64 s.wa.bl, .int .u64 s.wa.e,
  .int .i64 s.me, .int .u64 s.life, .int .u64 s.round, .bool s.y0, .bool s.y1, .bool s.y2, .bool s.t0, .bool s.t1, .bool s.t2, .int .u64 s.best,
  .int .u64 s.val.v, .int .i64 s.val.p, .int .u64 s.val.pl, .int .i64 s.val.b, .int .u64 s.val.bl, .int .u64 s.val.e, .bool s.sec]
def PS.lst (s : PS) : List Value := [.int .u64 s.kn.v, .int .i64 s.kn.p, .int .u64 s.kn.pl, .int .i64 s.kn.b, .int .u64 s.kn.bl, .int .u64 s.kn.e,
  .int .u64 s.wa.v, .int .i64 s.wa.p, .int .u64 s.wa.pl, .int .i64 s.wa.b, .int .u64 s.wa.bl, .int .u64 s.wa.e,
  .int .i64 s.me, .int .u64 s.life, .int .u64 s.round, .bool s.y0, .bool s.y1, .bool s.y2, .bool s.t0, .bool s.t1, .bool s.t2, .int .u64 s.best,
  .int .u64 s.val.v, .int .i64 s.val.p, .int .u64 s.val.pl, .int .i64 s.val.b, .int .u64 s.val.bl, .int .u64 s.val.e, .bool s.sec]
abbrev TP : TypeId := 57
def PAt (w : World) (b : Nat) (s : PS) : Prop := w.heap[b]? = some (.cells s.row TP (0, 0))

theorem PAt.c {w : World} {b : Nat} {s : PS} (h : PAt w b s) (i : Nat) : w.cell? ⟨b, i, none⟩ = s.row[i]? := cell_at h i

def ballotI (s : PS) : Int := if s.round = 0 then 0 else s.round * 4294967296 + s.life * 2 + s.me

theorem or_add (a b i : Nat) (hb : b < 2 ^ i) (h : a * 2 ^ i + b < 18446744073709551616) : bits .or .u64 ((a * 2 ^ i : Nat) : Int) (b : Int) = ((a * 2 ^ i + b : Nat) : Int) := by
  show IntKind.u64.wrap (((BitVec.ofInt 64 ((a * 2 ^ i : Nat) : Int)) ||| (BitVec.ofInt 64 (b : Int))).toNat : Int) = _
  simp only [BitVec.toNat_or, BitVec.ofInt_natCast, BitVec.toNat_ofNat]
  rw [Nat.mod_eq_of_lt (show a * 2 ^ i < 2 ^ 64 by omega), Nat.mod_eq_of_lt (show b < 2 ^ 64 by omega), ← Nat.shiftLeft_eq, ← Nat.shiftLeft_add_eq_or_of_lt hb, Nat.shiftLeft_eq, IntKind.wrap_u64]
  omega
theorem ballot_bits (r l me : Int) (r0 : 0 ≤ r) (r1 : r ≤ 1073741824) (l0 : 0 ≤ l) (l1 : l < 16777216) (m0 : 0 ≤ me) (m1 : me ≤ 1) :
    bits .or .u64 (bits .or .u64 (IntKind.u64.wrap (r * 4294967296)) (IntKind.u64.wrap (l * 2))) (IntKind.u64.wrap me) = r * 4294967296 + l * 2 + me := by
  have w1 : IntKind.u64.wrap (r * 4294967296) = ((r.toNat * 2 ^ 32 : Nat) : Int) := by rw [IntKind.wrap_u64]; omega
  have w2 : IntKind.u64.wrap (l * 2) = ((l.toNat * 2 : Nat) : Int) := by rw [IntKind.wrap_u64]; omega
  have w3 : IntKind.u64.wrap me = (me.toNat : Int) := by rw [IntKind.wrap_u64]; omega
  rw [w1, w2, w3, or_add _ _ 32 (by omega) (by omega)]
  have e : r.toNat * 2 ^ 32 + l.toNat * 2 = (r.toNat * 2147483648 + l.toNat) * 2 ^ 1 := by omega
  rw [e, or_add _ _ 1 (by omega) (by omega)]
  omega

theorem ballot_any (s : PS) (b : Nat) (w : World) (h : PAt w b s) (r0 : 0 ≤ s.round) (r1 : s.round ≤ 1073741824) (l0 : 0 ≤ s.life) (l1 : s.life < 16777216) (m0 : 0 ≤ s.me) (m1 : s.me ≤ 1) :
    Calls Try.prog 12 #[.pointer (some ⟨b, 0, none⟩)] w fun e w' => e = .returned (.int .u64 (ballotI s)) ∧ ∃ m, w' = w.drewN m := by
  have c12 : w.cell? ⟨b, 12, none⟩ = some (.int .i64 s.me) := h.c 12
  have c13 : w.cell? ⟨b, 13, none⟩ = some (.int .u64 s.life) := h.c 13
  have c14 : w.cell? ⟨b, 14, none⟩ = some (.int .u64 s.round) := h.c 14
  clear h
  unfold ballotI
  generalize s.round = r at *
  generalize s.life = l at *
  generalize s.me = me at *
  by_cases hr : r = 0
  · rw [if_pos hr]
    have d : decide (r = 0) = true := decide_eq_true hr
    have d' : (r == 0) = true := by simp [hr]
    clear hr r0 r1 l0 l1 m0 m1
    go_enter Try.func12, Try.ntmps12
    go_wp2_with fail
    go_ret
    exact ⟨rfl, 0, rfl⟩
  · rw [if_neg hr]
    have d : decide (r = 0) = false := decide_eq_false hr
    have d' : (r == 0) = false := by simp [hr]
    have hB := Lib.hid (ballot_bits r l me r0 r1 l0 l1 m0 m1)
    clear hr r0 r1 l0 l1 m0 m1
    go_enter Try.func12, Try.ntmps12
    go_wp2_with fail
    go_quiet (fail)
    go_wp2_with fail
    go_ret
    exact ⟨by rw [← hB.out]; rfl, _, rfl⟩

/-- The least that all proposers of this chapter keep to. -/
structure PS.Ok (s : PS) : Prop where
  r0 : 0 ≤ s.round
  r1 : s.round ≤ 1073741824
  l0 : 0 ≤ s.life
  l1 : s.life < 16777216
  m0 : 0 ≤ s.me
  m1 : s.me ≤ 1

def PS.begun (s : PS) (above : Int) : PS := ⟨s.kn, s.wa, s.me, s.life, max s.round (above / 4294967296) + 1, false, false, false, false, false, false, 0, s.wa, false⟩

/-! ### many cells at once -/
def put (cs : Array Value) : Nat → List Value → Array Value
  | _, [] => cs
  | o, v :: r => put (cs.setIfInBounds o v) (o + 1) r
theorem block_setCells {b : Nat} {t : TypeId} {fr : Nat × Nat} (vs : List Value) : ∀ (w : World) (cs : Array Value) (o : Nat), w.heap[b]? = some (.cells cs t fr) → (w.setCells b o vs).heap[b]? = some (.cells (put cs o vs) t fr) := by
  induction vs with
  | nil => intro w cs o h; exact h
  | cons v r ih => intro w cs o h; exact ih _ _ _ (block_set h o v)
theorem Keep.setCells {S : Nat → Prop} {a : World} {b : Nat} (hp : S b ∨ a.heap.size ≤ b) (vs : List Value) : ∀ (w : World) (o : Nat), Keep S a w → Keep S a (w.setCells b o vs) := by
  induction vs with
  | nil => intro w o h; exact h
  | cons v r ih => intro w o h; exact ih _ _ (h.setCell hp v)
theorem there_block {w : World} {b : Nat} {cs : Array Value} {t : TypeId} (h : w.heap[b]? = some (.cells cs t (0, 0))) (o n : Nat) (hn : o + n ≤ cs.size) : w.there b o n := fun j hj => by
  rw [cell_at h, free_at h]
  exact ⟨by rw [Array.getElem?_eq_getElem (by omega)]; rfl, rfl⟩
theorem put_all : ∀ (vs p q : List Value), q.length = vs.length → put (p ++ q).toArray p.length vs = (p ++ vs).toArray
  | [], p, q, h => by
    have : q = [] := List.length_eq_zero_iff.1 h
    subst this; rfl
  | v :: r, p, [], h => by cases h
  | v :: r, p, x :: q, h => by
    have e : ((p ++ x :: q).toArray.setIfInBounds p.length v) = ((p ++ [v]) ++ q).toArray := by simp [List.set_append]
    have := put_all r (p ++ [v]) q (by simpa using h)
    rw [List.length_append] at this
    show put _ _ r = _
    rw [e]
    simpa using this
theorem put_row (a b : Array Value) (h : a.size = b.size) : put a 0 b.toList = b := by
  have := put_all b.toList [] a.toList (by simpa using h)
  simpa using this
theorem put_PS (s s' : PS) : put s.row 0 s'.row.toList = s'.row := put_row _ _ rfl
theorem one_row (s : PS) : s.row.all (·.oneCell') = true := by simp [PS.row, Value.oneCell']
theorem store_PS {w : World} {b : Nat} {s : PS} (h : PAt w b s) (s' : PS) : (storeCells ⟨b, 0, none⟩ s'.lst 0).run Try.prog w = .ok () (w.setCells b 0 s'.lst) := by
  have ht := there_block (o := 0) (n := 29) h (Nat.le_refl _)
  exact run_storeCells_cells (P := Try.prog) b 0 s'.lst 0 w (fun j hj => by have := (ht j hj).1; simpa using this) (fun j hj => by have := (ht j hj).2; simpa using this)
    (fun v hv => (Array.all_eq_true_iff_forall_mem.1 (one_row s')) v (by simpa [PS.row, PS.lst] using hv))
theorem infoP : (Try.prog.info? TP).map (·.size) = some 29 := by kernel_rfl
theorem infoV : (Try.prog.info? 29).map (·.size) = some 6 := by kernel_rfl
theorem load_view {w : World} {b o : Nat} {cs : Array Value} {t : TypeId} {fr : Nat × Nat} (x : Vw) (h : w.heap[b]? = some (.cells cs t fr)) (hx : (cs.extract o (o + 6)).toList = x.cells) :
    (loadVar 29 ⟨b, o, none⟩).run Try.prog w = .ok x.agg w := by
  have := run_loadVar_mid (P := Try.prog) w b o 29 x.cells _ (by rw [← hx]; exact World.rangeAt_of_block h o 6) Try.underlying29 rfl infoV
  exact this

theorem begin_any (s : PS) (b : Nat) (above : Int) (w : World) (h : PAt w b s) (r0 : 0 ≤ s.round) (a0 : 0 ≤ above) (a1 : above < 18446744073709551616) (hm : max s.round (above / 4294967296) + 1 ≤ 1073741824) :
    Calls Try.prog 13 #[.pointer (some ⟨b, 0, none⟩), .int .u64 above] w fun e w' => e = .returned (.bool true) ∧ PAt w' b (s.begun above) ∧ Keep (· = b) w w' := by
  have c0 : w.cell? ⟨b, 0, none⟩ = some (.int .u64 s.kn.v) := h.c 0
  have c1 : w.cell? ⟨b, 1, none⟩ = some (.int .i64 s.kn.p) := h.c 1
  have c2 : w.cell? ⟨b, 2, none⟩ = some (.int .u64 s.kn.pl) := h.c 2
  have c3 : w.cell? ⟨b, 3, none⟩ = some (.int .i64 s.kn.b) := h.c 3
  have c4 : w.cell? ⟨b, 4, none⟩ = some (.int .u64 s.kn.bl) := h.c 4
  have c5 : w.cell? ⟨b, 5, none⟩ = some (.int .u64 s.kn.e) := h.c 5
  have c6 : w.cell? ⟨b, 6, none⟩ = some (.int .u64 s.wa.v) := h.c 6
  have c7 : w.cell? ⟨b, 7, none⟩ = some (.int .i64 s.wa.p) := h.c 7
  have c8 : w.cell? ⟨b, 8, none⟩ = some (.int .u64 s.wa.pl) := h.c 8
  have c9 : w.cell? ⟨b, 9, none⟩ = some (.int .i64 s.wa.b) := h.c 9
  have c10 : w.cell? ⟨b, 10, none⟩ = some (.int .u64 s.wa.bl) := h.c 10
  have c11 : w.cell? ⟨b, 11, none⟩ = some (.int .u64 s.wa.e) := h.c 11
  have c12 : w.cell? ⟨b, 12, none⟩ = some (.int .i64 s.me) := h.c 12
  have c13 : w.cell? ⟨b, 13, none⟩ = some (.int .u64 s.life) := h.c 13
  have c14 : w.cell? ⟨b, 14, none⟩ = some (.int .u64 s.round) := h.c 14
  have H := Lib.hid h
  clear h
  by_cases hc : s.round < above / 4294967296
  · have hn : max s.round (above / 4294967296) = above / 4294967296 := by omega
    unfold PS.begun
    rw [hn] at hm ⊢
    have h2 : ¬ above / 4294967296 ≤ s.round := by omega
    clear hn
    go_enter Try.func13, Try.ntmps13
    go_wp2_with fail
    go_still_tail 24, (by kernel_rfl)
    change wpList _ _ _ _ _ w.drew
    clear c0 c1 c2 c3 c4 c5 c6 c7 c8 c9 c10 c11 c12 c13 c14
    refine wpList_store_mid rfl TP (.tmp 41) (.tmp 40) rfl b 0 (PS.row (PS.mk s.kn s.wa s.me s.life (above / 4294967296 + 1) false false false false false false 0 s.wa false)) rfl rfl (there_block (block_drew H.out) 0 29 (Nat.le_refl _)) infoP (one_row _) ?_
    have fin : PAt (w.drew.setCells b 0 (PS.row (PS.mk s.kn s.wa s.me s.life (above / 4294967296 + 1) false false false false false false 0 s.wa false)).toList) b (PS.mk s.kn s.wa s.me s.life (above / 4294967296 + 1) false false false false false false 0 s.wa false) := by
      unfold PAt; rw [block_setCells _ _ _ 0 (block_drew H.out), put_PS]
    have kp : Keep (· = b) w (w.drew.setCells b 0 (PS.row (PS.mk s.kn s.wa s.me s.life (above / 4294967296 + 1) false false false false false false 0 s.wa false)).toList) := Keep.setCells (S := fun k => k = b) (.inl rfl) _ _ 0 (Keep.refl _ _).drew
    generalize w.drew.setCells b 0 (PS.row (PS.mk s.kn s.wa s.me s.life (above / 4294967296 + 1) false false false false false false 0 s.wa false)).toList = w3 at *
    go_wp2_with fail
    go_ret
    exact ⟨rfl, fin, kp⟩
  · have hn : max s.round (above / 4294967296) = s.round := by omega
    unfold PS.begun
    rw [hn] at hm ⊢
    clear hn
    have hr : s.round ≤ 1073741823 := by omega
    go_enter Try.func13, Try.ntmps13
    go_wp2_with fail
    go_still_tail 24, (by kernel_rfl)
    change wpList _ _ _ _ _ w.drew
    clear c0 c1 c2 c3 c4 c5 c6 c7 c8 c9 c10 c11 c12 c13 c14
    refine wpList_store_mid rfl TP (.tmp 41) (.tmp 40) rfl b 0 (PS.row (PS.mk s.kn s.wa s.me s.life (s.round + 1) false false false false false false 0 s.wa false)) rfl rfl (there_block (block_drew H.out) 0 29 (Nat.le_refl _)) infoP (one_row _) ?_
    have fin : PAt (w.drew.setCells b 0 (PS.row (PS.mk s.kn s.wa s.me s.life (s.round + 1) false false false false false false 0 s.wa false)).toList) b (PS.mk s.kn s.wa s.me s.life (s.round + 1) false false false false false false 0 s.wa false) := by
      unfold PAt; rw [block_setCells _ _ _ 0 (block_drew H.out), put_PS]
    have kp : Keep (· = b) w (w.drew.setCells b 0 (PS.row (PS.mk s.kn s.wa s.me s.life (s.round + 1) false false false false false false 0 s.wa false)).toList) := Keep.setCells (S := fun k => k = b) (.inl rfl) _ _ 0 (Keep.refl _ _).drew
    generalize w.drew.setCells b 0 (PS.row (PS.mk s.kn s.wa s.me s.life (s.round + 1) false false false false false false 0 s.wa false)).toList = w3 at *
    go_wp2_with fail
    go_ret
    exact ⟨rfl, fin, kp⟩

end Go.Proofs.Ytppnjkiegiokeaa.QuoW
