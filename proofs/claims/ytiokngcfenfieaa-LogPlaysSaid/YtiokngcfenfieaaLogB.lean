/-
  Layer 13 (log): the law's own model: do.
-/
import Derived.Test.YtiokngcfenfieaaLogC
import Derived.Deep.RegionHeld3
import Derived.Lib.QuietBelow
import Derived.Deep.DeepCutAuto
namespace Go.Proofs.Ytiokngcfenfieaa.LogB
set_option linter.unusedVariables false
set_option linter.unusedSimpArgs false
set_option maxRecDepth 100000
open Go.Sort (grow)
open Go.RowKit Go.Proofs.Ytiokngcfenfieaa.Mem Go.Proofs.Ytiokngcfenfieaa.LogW Go.Proofs.Ytiokngcfenfieaa.LogV Go.Proofs.Ytiokngcfenfieaa.LogU Go.Proofs.Ytiokngcfenfieaa.LogT Go.Proofs.Ytiokngcfenfieaa.LogS Go.Proofs.Ytiokngcfenfieaa.LogL Go.Proofs.Ytiokngcfenfieaa.LogA Go.Proofs.Ytiokngcfenfieaa.LogC

/-! ### many cells at once -/
def put (cs : Array Value) : Nat → List Value → Array Value
  | _, [] => cs
  | o, v :: r => put (cs.setIfInBounds o v) (o + 1) r
theorem block_setCells {b : Nat} {t : TypeId} {fr : Nat × Nat} (vs : List Value) : ∀ (w : World) (cs : Array Value) (o : Nat), w.heap[b]? = some (.cells cs t fr) → (w.setCells b o vs).heap[b]? = some (.cells (put cs o vs) t fr) := by
  induction vs with
  | nil => intro w cs o h; exact h
  | cons v r ih => intro w cs o h; exact ih _ _ _ (block_set h o v)
theorem Keep.setCells {S : Nat → Prop} {a : World} {b : Nat} (hp : S b ∨ a.heap.size ≤ b) (vs : List Value) : ∀ (w : World) (o : Nat), Keep S a w → Keep S a (w.setCells b o vs) := by
  induction vs with
  | nil => intro w o h; exact h
  | cons v r ih => intro w o h; exact ih _ _ (h.setCell hp v)
theorem there_block {w : World} {b : Nat} {cs : Array Value} {t : TypeId} (h : w.heap[b]? = some (.cells cs t (0, 0))) (o n : Nat) (hn : o + n ≤ cs.size) : w.there b o n := fun j hj => by
  rw [cell_at h, free_at h]
  exact ⟨by rw [Array.getElem?_eq_getElem (by omega)]; rfl, rfl⟩
theorem put_all : ∀ (vs p q : List Value), q.length = vs.length → put (p ++ q).toArray p.length vs = (p ++ vs).toArray
  | [], p, q, h => by
    have : q = [] := List.length_eq_zero_iff.1 h
    subst this; rfl
  | v :: r, p, [], h => by cases h
  | v :: r, p, x :: q, h => by
    have e : ((p ++ x :: q).toArray.setIfInBounds p.length v) = ((p ++ [v]) ++ q).toArray := by simp [List.set_append]
    have := put_all r (p ++ [v]) q (by simpa using h)
    rw [List.length_append] at this
    show put _ _ r = _
    rw [e]
    simpa using this
theorem put_row (a b : Array Value) (h : a.size = b.size) : put a 0 b.toList = b := by
  have := put_all b.toList [] a.toList (by simpa using h)
  simpa using this

theorem infoR9 : (Try.prog.info? 33).map (·.size) = some 9 := by kernel_rfl
theorem rec_one (r : Rec) : r.cells.toArray.all (·.oneCell') = true := by simp [Rec.cells, Value.oneCell']
theorem sa_u64 (p : Addr) (v : Value) (w : World) : (Instr.storeAt 22 (.pointer (some p)) v).run Try.prog w = (storeVar 22 p v).run Try.prog w := by
  simp only [Instr.storeAt, Instr.sureAddr, Sem.run_bind, Sem.run_pure, Result.andThen_ok]
theorem sa_mod (p : Addr) (v : Value) (w : World) : (Instr.storeAt TM (.pointer (some p)) v).run Try.prog w = (storeVar TM p v).run Try.prog w := by
  simp only [Instr.storeAt, Instr.sureAddr, Sem.run_bind, Sem.run_pure, Result.andThen_ok]
theorem sa_sl (p : Addr) (v : Value) (w : World) : (Instr.storeAt 34 (.pointer (some p)) v).run Try.prog w = (storeVar 34 p v).run Try.prog w := by
  simp only [Instr.storeAt, Instr.sureAddr, Sem.run_bind, Sem.run_pure, Result.andThen_ok]
def zRec : Array Value := #[.int .u64 0, .int .u64 0, .int .u64 0, .int .u64 0, .int .i64 0, .string ⟨#[]⟩, .string ⟨#[]⟩, .int .u64 0, .int .u64 0]
theorem store_rec {w : World} {X : Nat} {cs : Array Value} (h : w.heap[X]? = some (.cells cs TR (0, 0))) (hc : cs.size = 9) (a b : Int) :
    (Instr.storeAt TR (.pointer (some ⟨X, 0, none⟩)) (.agg #[.int .u64 a, .int .u64 0, .int .u64 0, .int .u64 b, .int .i64 0, .string ⟨#[]⟩, .string ⟨#[]⟩, .int .u64 0, .int .u64 0])).run Try.prog w = .ok () (w.setCells X 0 (rec0 a b).cells) :=
  run_storeAt_mid (P := Try.prog) w X 0 TR _ (there_block h 0 9 (by omega)) infoR9 (rec_one (rec0 a b))
theorem rec_block {w : World} {X : Nat} {cs : Array Value} (h : w.heap[X]? = some (.cells cs TR (0, 0))) (hc : cs.size = 9) (a b : Int) : (w.setCells X 0 (rec0 a b).cells).heap[X]? = some (.cells (rec0 a b).cells.toArray TR (0, 0)) := by
  rw [block_setCells _ w cs 0 h]
  have := put_row cs (rec0 a b).cells.toArray (by rw [hc]; rfl)
  rw [← this]
attribute [-go_sem] Instr.storeAt Builtin.append_
attribute [local go_sem] sa_u64 sa_sl
def actv (kd at_ num : Int) : Value := .agg #[.int .i64 kd, .int .u64 at_, .int .u64 num]
/-- Behind the start of do: the model, the act and the record, each in its box. -/
structure Beg (w w1 : World) (base most n cap : Nat) (ao : Option Addr) (kd at_ num : Int) (X : Nat) : Prop where
  m : w1.heap[w.heap.size]? = some (.cells #[.int .u64 (base : Int), .slice ao n cap, .int .i64 (most : Int)] TM (0, 0))
  a : w1.heap[w.heap.size + 1]? = some (.cells #[.int .i64 kd, .int .u64 at_, .int .u64 num] 47 (0, 0))
  z : w1.heap[w.heap.size + 1 + 1]? = some (.cells #[.int .u64 0, .slice none 0 0, .int .i64 0] TM (0, 0))
  x : w1.heap[X]? = some (.cells (rec0 ((base : Int) + (n : Int) + 1) num).cells.toArray TR (0, 0))
  hX : w.heap.size + 2 < X
  k : Keep (fun _ => False) w w1

theorem Beg.mk2 {w w0 W : World} {base most n cap : Nat} {ao : Option Addr} {kd at_ num : Int} {X : Nat} (k0 : Keep (fun _ => False) w w0) (m : w0.heap[w.heap.size]? = some (.cells #[.int .u64 (base : Int), .slice ao n cap, .int .i64 (most : Int)] TM (0, 0)))
    (a : w0.heap[w.heap.size + 1]? = some (.cells #[.int .i64 kd, .int .u64 at_, .int .u64 num] 47 (0, 0))) (z : w0.heap[w.heap.size + 1 + 1]? = some (.cells #[.int .u64 0, .slice none 0 0, .int .i64 0] TM (0, 0)))
    (k : Keep (fun _ => False) w0 W) (x : W.heap[X]? = some (.cells (rec0 ((base : Int) + (n : Int) + 1) num).cells.toArray TR (0, 0))) (hX : w.heap.size + 2 < X) : Beg w W base most n cap ao kd at_ num X :=
  ⟨(k.block _ (lt_of_block m) (fun e => e)).trans m, (k.block _ (lt_of_block a) (fun e => e)).trans a, (k.block _ (lt_of_block z) (fun e => e)).trans z, x, hX, k0.trans k⟩

theorem infoM3 : (Try.prog.info? TM).map (·.size) = some 3 := by kernel_rfl
theorem store_mod {w : World} {X : Nat} {cs : Array Value} (h : w.heap[X]? = some (.cells cs TM (0, 0))) (hc : cs.size = 3) (a c : Int) (ao : Option Addr) (n cap : Nat) :
    (Instr.storeAt TM (.pointer (some ⟨X, 0, none⟩)) (.agg #[.int .u64 a, .slice ao n cap, .int .i64 c])).run Try.prog w = .ok () (w.setCells X 0 [.int .u64 a, .slice ao n cap, .int .i64 c]) :=
  run_storeAt_mid (P := Try.prog) w X 0 TM _ (there_block h 0 3 (by omega)) infoM3 (by simp [Value.oneCell'])
theorem mod_block {w : World} {X : Nat} {cs : Array Value} (h : w.heap[X]? = some (.cells cs TM (0, 0))) (hc : cs.size = 3) (a c : Int) (v : Value) : (w.setCells X 0 [.int .u64 a, v, .int .i64 c]).heap[X]? = some (.cells #[.int .u64 a, v, .int .i64 c] TM (0, 0)) := by
  rw [block_setCells _ w cs 0 h]
  have := put_row cs #[.int .u64 a, v, .int .i64 c] (by rw [hc]; rfl)
  rw [← this]
theorem Beg.cells {w W w' : World} {base most n cap : Nat} {ao : Option Addr} {kd at_ num : Int} {X : Nat} (h : Beg w W base most n cap ao kd at_ num X) (k : Keep (fun _ => False) W w') : w'.heap[X]? = some (.cells (rec0 ((base : Int) + (n : Int) + 1) num).cells.toArray TR (0, 0)) := (k.block _ (lt_of_block h.x) (fun e => e)).trans h.x
theorem Beg.xs {w W w2 : World} {F : Nat → Prop} {base most n cap : Nat} {ao : Option Addr} {kd at_ num : Int} {X : Nat} (hb : ∀ q, w.heap.size ≤ q → ¬ F q) (h : Beg w W base most n cap ao kd at_ num X) (k : Keep F W w2) :
    ∀ w', Keep (fun j => j = w.heap.size) w2 w' → w'.cell? ⟨X, 0, none⟩ = some (.int .u64 ((base : Int) + (n : Int) + 1)) ∧ w'.cell? ⟨X, 1, none⟩ = some (.int .u64 0) ∧ w'.cell? ⟨X, 2, none⟩ = some (.int .u64 0) ∧ w'.cell? ⟨X, 3, none⟩ = some (.int .u64 num) ∧ w'.cell? ⟨X, 4, none⟩ = some (.int .i64 0) ∧ w'.cell? ⟨X, 5, none⟩ = some (.string ⟨#[]⟩) ∧ w'.cell? ⟨X, 6, none⟩ = some (.string ⟨#[]⟩) ∧ w'.cell? ⟨X, 7, none⟩ = some (.int .u64 0) ∧ w'.cell? ⟨X, 8, none⟩ = some (.int .u64 0) := by
  intro w' k'
  have hX := h.hX
  have b1 := (k.block _ (lt_of_block h.x) (hb _ (by omega))).trans h.x
  have b2 := (k'.block _ (lt_of_block b1) (by omega)).trans b1
  exact ⟨cell_at b2 0, cell_at b2 1, cell_at b2 2, cell_at b2 3, cell_at b2 4, cell_at b2 5, cell_at b2 6, cell_at b2 7, cell_at b2 8⟩
/-- What 'do' comes to. -/
def Did (w w' : World) (F : Nat → Prop) (b most base : Nat) (rs : List Rec) (B : Nat) (base' : Nat) (v' : Value) : Prop :=
  ∃ F' rs', LogAt w' F' b most base' rs' ∧ MRow w' F' B v' rs' ∧ (∀ i, F' i → F i ∨ w.heap.size ≤ i) ∧ Keep F w w' ∧ rs'.length ≤ most ∧ base ≤ base' ∧ base' + rs'.length ≤ base + rs.length + 1

theorem Did.of {w wc w2 Wf : World} {F F2 S : Nat → Prop} {b most base b2 B : Nat} {rs rs2 : List Rec} {v' : Value} (hFb : ∀ i, F i → i < w.heap.size) (k1 : Keep (fun _ => False) w wc) (l2 : LogAt w2 F2 b most b2 rs2) (f2 : ∀ i, F2 i → F i ∨ wc.heap.size ≤ i) (k2 : Keep F wc w2)
    (hS : ∀ i, S i → w.heap.size ≤ i ∧ i < wc.heap.size) (kf : Keep S w2 Wf) (hr : Keep F w Wf → MRow Wf F2 B v' rs2) (h1 : rs2.length ≤ most) (h2 : base ≤ b2) (h3 : b2 + rs2.length ≤ base + rs.length + 1) : Did w Wf F b most base rs B b2 v' := by
  have hsz := k1.size
  have kall : Keep F w Wf := (k1.toAny.trans k2).trans' kf (fun i hi e => by have := hS i e; omega)
  refine ⟨F2, rs2, l2.keep kf (fun i f e => ?_), hr kall, fun i f => (f2 i f).imp id (fun e => by omega), kall, h1, h2, h3⟩
  · have h4 := hS i e
    rcases f2 i f with h5 | h5
    · have := hFb i h5; omega
    · omega
theorem Did.app {w wc w2 wa : World} {F F2 : Nat → Prop} {b most base b2 B n2 g c : Nat} {rs rs2 : List Rec} {r : Rec} (hFb : ∀ i, F i → i < w.heap.size) (k1 : Keep (fun _ => False) w wc) (l2 : LogAt w2 F2 b most b2 (rs2 ++ [r])) (f2 : ∀ i, F2 i → F i ∨ wc.heap.size ≤ i) (k2 : Keep F wc w2)
    (hA : App w2 wa w.heap.size b2 most (n2 + 1) (rs2 ++ [r]) g c) (hz : w.heap.size + 1 + 1 < wc.heap.size) (hB : B ≤ w.heap.size) (hn2 : n2 = rs2.length) (h1 : n2 + 1 ≤ most) (h2 : base ≤ b2) (h3 : b2 + n2 ≤ base + rs.length) (vs : List Value) :
    Did w (wa.setCells (w.heap.size + 1 + 1) 0 vs) F b most base rs B b2 (.slice (some ⟨g, 0, none⟩) (n2 + 1) c) := by
  have s2 := k2.size
  have hg := hA.g
  have kz : Keep (fun j => j = w.heap.size + 1 + 1) wa (wa.setCells (w.heap.size + 1 + 1) 0 vs) := Keep.setCells (S := fun j => j = w.heap.size + 1 + 1) (.inl rfl) _ _ _ (Keep.refl _ _)
  refine Did.of (S := fun j => j = w.heap.size ∨ j = w.heap.size + 1 + 1) hFb k1 l2 f2 k2 (fun i e => by omega) ((hA.k.mono (fun i _ e => .inl e)).trans (kz.mono (fun i _ e => .inr e))) (fun kk => ?_) (by rw [List.length_append, ← hn2]; exact h1) h2 (by rw [List.length_append, ← hn2]; simp; omega)
  have hrow : (wa.setCells (w.heap.size + 1 + 1) 0 vs).ownsRow 0 TR 9 (.slice (some ⟨g, 0, none⟩) (n2 + 1) c) (n2 + 1) (flat (rs2 ++ [r])) := by
    refine owns_keep hA.r kz (fun q e f => ?_)
    have h9 : g = q := by simpa [Value.ownBlock] using e
    omega
  refine row_mrow hrow (by rw [List.length_append, ← hn2]; rfl) (by omega) (fun f => ?_)
  have := l2.foot _ f
  omega
theorem App.pre {W W0 Wa : World} {M base most n g c : Nat} {rs : List Rec} (h : App W0 Wa M base most n rs g c) (k : Keep (fun j => j = M) W W0) : App W Wa M base most n rs g c := ⟨h.m, k.trans h.k, h.r, Nat.le_trans k.size h.g⟩
theorem cut_log {w : World} {F : Nat → Prop} {b most base : Nat} {rs : List Rec} (h : LogAt w F b most base rs) (at_ : Int) (hb : base ≤ 1000000) (hn : rs.length ≤ 256) (h0 : 0 ≤ at_) (h9 : at_ ≤ 18446744073709551615) :
    Calls Try.prog 18 #[.pointer (some ⟨b, 0, none⟩), .int .u64 at_] w fun e w' => e = .returned (.tuple #[]) ∧ ∃ F', LogAt w' F' b most (base + gone base at_ rs.length) (rs.drop (gone base at_ rs.length)) ∧ (∀ k, F' k → F k ∨ w.heap.size ≤ k) ∧ Keep F w w' := by
  by_cases hc : at_ ≤ (base : Int)
  · have hg : gone base at_ rs.length = 0 := by unfold gone; omega
    rw [hg]
    refine (cut_no h at_ hc).mono ?_
    rintro e w' ⟨he, rfl⟩
    exact ⟨he, F, by simpa using h, fun k e => .inl e, Keep.refl _ _⟩
  · obtain ⟨d, hd⟩ : ∃ d : Nat, at_ = (base : Int) + (d : Int) := ⟨(at_ - base).toNat, by omega⟩
    have hg : gone base at_ rs.length = min d rs.length := by unfold gone; omega
    rw [hg, hd]
    exact cut_yes h d (by omega) hn (by omega) (by omega)
theorem MRow.move {W W' : World} {F F2 : Nat → Prop} {B : Nat} {v : Value} {rs : List Rec} (h : MRow W F B v rs) (k : Keep F W W') (hF : ∀ i, F2 i → F i ∨ W.heap.size ≤ i) : MRow W' F2 B v rs := by
  obtain ⟨ao, cap, h1, h2, h9, h3⟩ := h
  refine ⟨ao, cap, h1, h2, h9, ?_⟩
  rcases h3 with h3 | ⟨g, off, h4, h5, h6, h7, h8⟩
  · exact .inl h3
  · exact .inr ⟨g, off, h4, h5, Nat.lt_of_lt_of_le h6 k.size, fun f => (hF g f).elim h7 (fun e => by omega), fun j u e => (k.cell (p := ⟨g, _, none⟩) h6 h7).trans (h8 j u e)⟩
theorem mrow_form {W : World} {F : Nat → Prop} {B : Nat} {v : Value} {rs : List Rec} (h : MRow W F B v rs) : ∃ ao n cap, v = .slice ao n cap ∧ n = rs.length := by
  obtain ⟨ao, cap, h1, -⟩ := h
  exact ⟨ao, _, cap, h1, rfl⟩

set_option maxHeartbeats 64000000 in
theorem do_any (base most n cap : Nat) (ao : Option Addr) (b : Nat) (kd at_ num : Int) (w : World) (F : Nat → Prop) (B : Nat) (rs : List Rec) (hnr : n = rs.length) (hL : LogAt w F b most base rs) (hr : MRow w F B (.slice ao n cap) rs) (hBw : B ≤ w.heap.size) (hb : base ≤ 1000000) (hm1 : 1 ≤ most) (hm : most ≤ 256) (hnm : n ≤ most) (ha0 : 0 ≤ at_) (ha9 : at_ ≤ 18446744073709551615) (hFb : ∀ i, F i → i < w.heap.size) :
    Calls Try.prog 15 #[mod base (.slice ao n cap) most, .pointer (some ⟨b, 0, none⟩), actv kd at_ num] w fun e w' => ∃ base' v', e = .returned (.tuple #[mod base' v' most, .bool true]) ∧ Did w w' F b most base rs B base' v' := by
  have hn : n ≤ 256 := by omega
  have HL := Lib.hid hL
  have HR := Lib.hid hr
  have HNR := Lib.hid hnr
  have HFB := Lib.hid hFb
  clear hL hr hnr hFb
  unfold mod actv
  go_enter Try.func15, Try.ntmps15
  go_wp2_with fail
  obtain ⟨w0, hw0⟩ : ∃ w0, w0 = ((w.alloc (.cells #[.int .u64 (base : Int), .slice ao n cap, .int .i64 (most : Int)] TM)).alloc (.cells #[.int .i64 kd, .int .u64 at_, .int .u64 num] 47)).alloc (.cells #[.int .u64 0, .slice none 0 0, .int .i64 0] TM) := ⟨_, rfl⟩
  rw [← hw0]
  have hs0 : w0.heap.size = w.heap.size + 3 := by rw [hw0]; simp
  have k0 : Keep (fun _ => False) w w0 := by rw [hw0]; exact (((Keep.refl _ w).alloc _).alloc _).alloc _
  have m0 : w0.heap[w.heap.size]? = some (.cells #[.int .u64 (base : Int), .slice ao n cap, .int .i64 (most : Int)] TM (0, 0)) := by rw [hw0]; exact block_alloc (block_alloc (block_new w _) _) _
  have a0 : w0.heap[w.heap.size + 1]? = some (.cells #[.int .i64 kd, .int .u64 at_, .int .u64 num] 47 (0, 0)) := by rw [hw0]; exact block_alloc (block_new_at (by simp)) _
  have z0 : w0.heap[w.heap.size + 1 + 1]? = some (.cells #[.int .u64 0, .slice none 0 0, .int .i64 0] TM (0, 0)) := by rw [hw0]; exact block_new_at (by simp)
  clear hw0
  have hS : ∀ w', Keep (fun _ => False) w0 w' → w'.cell? ⟨w.heap.size, 0, none⟩ = some (.int .u64 (base : Int)) ∧ w'.cell? ⟨w.heap.size, 1, none⟩ = some (.slice ao n cap) ∧ w'.cell? ⟨w.heap.size, 2, none⟩ = some (.int .i64 (most : Int)) ∧ w'.cell? ⟨w.heap.size + 1, 2, none⟩ = some (.int .u64 num) := fun w' kk => by
    have m1 := (kk.block _ (lt_of_block m0) (fun e => e)).trans m0
    have a1 := (kk.block _ (lt_of_block a0) (fun e => e)).trans a0
    exact ⟨cell_at m1 0, cell_at m1 1, cell_at m1 2, cell_at a1 2⟩
  have HS := Lib.hid hS
  have M0 := Lib.hid m0
  have A0 := Lib.hid a0
  have Z0 := Lib.hid z0
  have e1 : IntKind.u64.wrap ((base : Int) + (n : Int) + 1) = (base : Int) + (n : Int) + 1 := IntWalk.u64_in _ (by omega)
  clear hS m0 a0 z0
  go_cut [8] (fun x8 W => ∃ X, x8 = .pointer (some ⟨X, 0, none⟩) ∧ Hid (Beg w W base most n cap ao kd at_ num X))
  case first =>
    refine wp_region_held_drew (S := (fun w' => Keep (fun _ => False) w0 w' ∧ w'.cell? ⟨w.heap.size, 0, none⟩ = some (.int .u64 (base : Int)) ∧ w'.cell? ⟨w.heap.size, 1, none⟩ = some (.slice ao n cap) ∧ w'.cell? ⟨w.heap.size, 2, none⟩ = some (.int .i64 (most : Int)) ∧ w'.cell? ⟨w.heap.size + 1, 2, none⟩ = some (.int .u64 num))) (by kernel_rfl) ?_ (fun hHeld => ?_)
    · exact ⟨(Keep.refl _ w0).drew, HS.out _ ((Keep.refl _ w0).drew)⟩
    refine wpAnyH_take (i := 0) (oi := { dst := some 11, op := Op.load TM (Operand.tmp 3), type := TM, pos := "law.go:44", after := #[], guard := none }) (v := .agg #[.int .u64 (base : Int), .slice ao n cap, .int .i64 (most : Int)]) rfl (by kernel_rfl) (by kernel_rfl) (by kernel_rfl) (fun _ _ _ h => h) (Or.inl ⟨by rfl, ?_⟩) (by assumption) ?_
    · (intro w' hSw; (try dsimp only at hSw); go_simp)
    try simp only [Act.put, List.setIfInBounds_toArray, List.set_cons_zero, List.set_cons_succ]
    refine wpAnyH_take (i := 3) (oi := { dst := some 14, op := Op.fieldAddr 47 (Operand.tmp 5) 2, type := 0, pos := "law.go:44", after := #[], guard := none }) (v := .pointer (some ⟨w.heap.size + 1, 2, none⟩)) rfl (by kernel_rfl) (by kernel_rfl) (by kernel_rfl) (fun _ _ _ h => h) (Or.inl ⟨by rfl, ?_⟩) (by assumption) ?_
    · (intro w' hSw; (try dsimp only at hSw); go_simp)
    try simp only [Act.put, List.setIfInBounds_toArray, List.set_cons_zero, List.set_cons_succ]
    refine wpAnyH_take (i := 4) (oi := { dst := some 15, op := Op.load 22 (Operand.tmp 14), type := 22, pos := "law.go:44", after := #[{ on := 3, ground := Ground.data }], guard := none }) (v := .int .u64 num) rfl (by kernel_rfl) (by kernel_rfl) (by kernel_rfl) (fun _ _ _ h => h) (Or.inl ⟨by rfl, ?_⟩) (by assumption) ?_
    · (intro w' hSw; (try dsimp only at hSw); go_simp)
    try simp only [Act.put, List.setIfInBounds_toArray, List.set_cons_zero, List.set_cons_succ]
    refine wpAnyH_ready (rs := [1, 6]) (by kernel_rfl) (by simp) ?_
    refine AllReadyH.cons (o := { dst := some 12, op := Op.call { callee := Callee.value (Operand.func 16), args := #[Operand.tmp 11], argTypes := #[TM] }, type := 22, pos := "law.go:44", after := #[{ on := 0, ground := Ground.data }], guard := none }) rfl (fun K hK => ?_) ?_
    · skip
      go_simp
      go_at_call 16
      refine (last_m base n cap most ao (by omega) (by omega) _).mono ?_
      rintro e w1 ⟨rfl, k1⟩
      go_simp
      have kk : Keep (fun _ => False) w0 w1 := Keep.trans ((Keep.refl _ w0).drew) k1
      refine hK.out _ _ ⟨kk, HS.out _ kk⟩ (fun hHeld => ?_)
      clear hK K
      try simp only [Act.put, List.setIfInBounds_toArray, List.set_cons_zero, List.set_cons_succ]
      refine wpAnyH_take (i := 2) (oi := { dst := some 13, op := Op.binOp BinOp.add 22 (Operand.tmp 12) (Operand.const (Value.int IntKind.u64 1)) 22, type := 22, pos := "law.go:44", after := #[{ on := 1, ground := Ground.data }], guard := none }) (v := .int .u64 ((base : Int) + (n : Int) + 1)) rfl (by kernel_rfl) (by kernel_rfl) (by kernel_rfl) (fun _ _ _ h => h) (Or.inl ⟨by rfl, ?_⟩) (by assumption) ?_
      · (intro w' hSw; (try dsimp only at hSw); go_simp)
      try simp only [Act.put, List.setIfInBounds_toArray, List.set_cons_zero, List.set_cons_succ]
      refine wpAnyH_take (i := 5) (oi := { dst := some 16, op := Op.build TR #[(0, Operand.tmp 13), (3, Operand.tmp 15)], type := TR, pos := "law.go:44", after := #[{ on := 2, ground := Ground.data }, { on := 4, ground := Ground.data }], guard := none }) (v := .agg #[.int .u64 ((base : Int) + (n : Int) + 1), .int .u64 0, .int .u64 0, .int .u64 num, .int .i64 0, .string ⟨#[]⟩, .string ⟨#[]⟩, .int .u64 0, .int .u64 0]) rfl (by kernel_rfl) (by kernel_rfl) (by kernel_rfl) (fun _ _ _ h => h) (Or.inl ⟨by rfl, ?_⟩) (by assumption) ?_
      · (intro w' hSw; (try dsimp only at hSw); go_simp)
      try simp only [Act.put, List.setIfInBounds_toArray, List.set_cons_zero, List.set_cons_succ]
      refine wpAnyH_ready (rs := [6]) (by kernel_rfl) (by simp) ?_
      refine AllReadyH.cons (o := { dst := some 8, op := Op.alloc TR, type := 0, pos := "law.go:44", after := #[], guard := none }) rfl (fun K hK => ?_) AllReadyH.nil
      go_simp
      have kk2 : Keep (fun _ => False) w0 (w1.alloc (.cells zRec TR)) := kk.alloc _
      refine hK.out _ _ ⟨kk2, HS.out _ kk2⟩ (fun hHeld => ?_)
      clear hK K
      try simp only [Act.put, List.setIfInBounds_toArray, List.set_cons_zero, List.set_cons_succ]
      have bx := block_new w1 (.cells zRec TR)
      have st1 := store_rec bx rfl ((base : Int) + (n : Int) + 1) num
      have bx2 := rec_block bx rfl ((base : Int) + (n : Int) + 1) num
      unfold zRec at st1
      refine wpAnyH_ready (rs := [7]) (by kernel_rfl) (by simp) ?_
      refine AllReadyH.cons (o := { dst := none, op := Op.store TR (Operand.tmp 8) (Operand.tmp 16), type := 0, pos := "law.go:44", after := #[{ on := 6, ground := Ground.data }, { on := 5, ground := Ground.data }, { on := 1, ground := Ground.chain }, { on := 0, ground := Ground.phase }, { on := 1, ground := Ground.phase }, { on := 2, ground := Ground.phase }, { on := 3, ground := Ground.phase }, { on := 4, ground := Ground.phase }, { on := 5, ground := Ground.phase }, { on := 6, ground := Ground.phase }], guard := none }) rfl (fun K hK => ?_) AllReadyH.nil
      go_simp
      have kk3 : Keep (fun _ => False) w0 ((w1.alloc (.cells zRec TR)).setCells w1.heap.size 0 (rec0 ((base : Int) + (n : Int) + 1) num).cells) := Keep.setCells (S := fun _ => False) (.inr kk.size) _ _ _ kk2
      refine hK.out _ _ ⟨kk3, HS.out _ kk3⟩ (fun hHeld => ?_)
      clear hK K
      try simp only [Act.put, List.setIfInBounds_toArray, List.set_cons_zero, List.set_cons_succ]
      refine wpAnyH_done (by kernel_rfl) ?_ _
      go_wp2_with fail
      go_meet
      exact ⟨_, rfl, Lib.hid (Beg.mk2 k0 M0.out A0.out Z0.out kk3 bx2 (by have := kk.size; omega))⟩
    refine AllReadyH.cons (o := { dst := some 8, op := Op.alloc TR, type := 0, pos := "law.go:44", after := #[], guard := none }) rfl (fun K hK => ?_) AllReadyH.nil
    go_simp
    have kk : Keep (fun _ => False) w0 ((w0.alloc (.cells zRec TR)).drew) := ((Keep.refl _ w0).alloc _).drew
    refine hK.out _ _ ⟨kk, HS.out _ kk⟩ (fun hHeld => ?_)
    clear hK K
    try simp only [Act.put, List.setIfInBounds_toArray, List.set_cons_zero, List.set_cons_succ]
    refine wpAnyH_ready (rs := [1]) (by kernel_rfl) (by simp) ?_
    refine AllReadyH.cons (o := { dst := some 12, op := Op.call { callee := Callee.value (Operand.func 16), args := #[Operand.tmp 11], argTypes := #[TM] }, type := 22, pos := "law.go:44", after := #[{ on := 0, ground := Ground.data }], guard := none }) rfl (fun K hK => ?_) AllReadyH.nil
    go_simp
    go_at_call 16
    refine (last_m base n cap most ao (by omega) (by omega) _).mono ?_
    rintro e w1 ⟨rfl, k1⟩
    go_simp
    have kk2 : Keep (fun _ => False) w0 w1 := Keep.trans kk k1
    refine hK.out _ _ ⟨kk2, HS.out _ kk2⟩ (fun hHeld => ?_)
    clear hK K
    try simp only [Act.put, List.setIfInBounds_toArray, List.set_cons_zero, List.set_cons_succ]
    refine wpAnyH_take (i := 2) (oi := { dst := some 13, op := Op.binOp BinOp.add 22 (Operand.tmp 12) (Operand.const (Value.int IntKind.u64 1)) 22, type := 22, pos := "law.go:44", after := #[{ on := 1, ground := Ground.data }], guard := none }) (v := .int .u64 ((base : Int) + (n : Int) + 1)) rfl (by kernel_rfl) (by kernel_rfl) (by kernel_rfl) (fun _ _ _ h => h) (Or.inl ⟨by rfl, ?_⟩) (by assumption) ?_
    · (intro w' hSw; (try dsimp only at hSw); go_simp)
    try simp only [Act.put, List.setIfInBounds_toArray, List.set_cons_zero, List.set_cons_succ]
    refine wpAnyH_take (i := 5) (oi := { dst := some 16, op := Op.build TR #[(0, Operand.tmp 13), (3, Operand.tmp 15)], type := TR, pos := "law.go:44", after := #[{ on := 2, ground := Ground.data }, { on := 4, ground := Ground.data }], guard := none }) (v := .agg #[.int .u64 ((base : Int) + (n : Int) + 1), .int .u64 0, .int .u64 0, .int .u64 num, .int .i64 0, .string ⟨#[]⟩, .string ⟨#[]⟩, .int .u64 0, .int .u64 0]) rfl (by kernel_rfl) (by kernel_rfl) (by kernel_rfl) (fun _ _ _ h => h) (Or.inl ⟨by rfl, ?_⟩) (by assumption) ?_
    · (intro w' hSw; (try dsimp only at hSw); go_simp)
    try simp only [Act.put, List.setIfInBounds_toArray, List.set_cons_zero, List.set_cons_succ]
    have bx : w1.heap[w.heap.size + 3]? = some (.cells zRec TR (0, 0)) := (k1.block _ (by simp; omega) (fun e => e)).trans (block_drew (block_new_at hs0))
    have st1 := store_rec bx rfl ((base : Int) + (n : Int) + 1) num
    have bx2 := rec_block bx rfl ((base : Int) + (n : Int) + 1) num
    refine wpAnyH_ready (rs := [7]) (by kernel_rfl) (by simp) ?_
    refine AllReadyH.cons (o := { dst := none, op := Op.store TR (Operand.tmp 8) (Operand.tmp 16), type := 0, pos := "law.go:44", after := #[{ on := 6, ground := Ground.data }, { on := 5, ground := Ground.data }, { on := 1, ground := Ground.chain }, { on := 0, ground := Ground.phase }, { on := 1, ground := Ground.phase }, { on := 2, ground := Ground.phase }, { on := 3, ground := Ground.phase }, { on := 4, ground := Ground.phase }, { on := 5, ground := Ground.phase }, { on := 6, ground := Ground.phase }], guard := none }) rfl (fun K hK => ?_) AllReadyH.nil
    go_simp
    have kk3 : Keep (fun _ => False) w0 (w1.setCells (w.heap.size + 3) 0 (rec0 ((base : Int) + (n : Int) + 1) num).cells) := Keep.setCells (S := fun _ => False) (.inr (by omega)) _ _ _ kk2
    refine hK.out _ _ ⟨kk3, HS.out _ kk3⟩ (fun hHeld => ?_)
    clear hK K
    try simp only [Act.put, List.setIfInBounds_toArray, List.set_cons_zero, List.set_cons_succ]
    refine wpAnyH_done (by kernel_rfl) ?_ _
    go_wp2_with fail
    go_meet
    exact ⟨_, rfl, Lib.hid (Beg.mk2 k0 M0.out A0.out Z0.out kk3 bx2 (by omega))⟩
  case rest =>
    obtain ⟨X, rfl, hB⟩ := hcut
    have HL1 := Lib.hid (HL.out.keep hB.out.k (fun _ _ e => e))
    have HR1 := Lib.hid (HR.out.keep hB.out.k (fun _ _ e => e.elim))
    have b1 := hB.out.a
    have u0 : wc.cell? ⟨w.heap.size + 1, 0, none⟩ = some (.int .i64 kd) := cell_at b1 0
    have u1 : wc.cell? ⟨w.heap.size + 1, 1, none⟩ = some (.int .u64 at_) := cell_at b1 1
    clear b1
    have u1' := Lib.hid u1
    by_cases h4 : kd = 4
    · subst h4
      have hrl : rs.length ≤ 256 := by have := HNR.out; omega
      have C1 := Lib.hid (cut_log HL1.out at_ hb hrl ha0 ha9)
      obtain ⟨d, hd⟩ : ∃ d, d = gone base at_ rs.length := ⟨_, rfl⟩
      obtain ⟨b2, hb2⟩ : ∃ b2, b2 = base + d := ⟨_, rfl⟩
      have HB2 := Lib.hid hb2
      have hd1 : d ≤ rs.length := by rw [hd]; unfold gone; omega
      rw [← hd] at C1
      have HD := Lib.hid hd
      have hbz := hB.out.z
      clear hd hb2
      go_upto_region 7 with (go_at_call 18; refine C1.out.mono ?_; clear C1; rintro e w2 ⟨rfl, F2, l2, f2, k2⟩)
      have hbig : ∀ q, w.heap.size ≤ q → ¬ F q := fun q hq f => by have := HFB.out q f; omega
      have hmB := (k2.block _ (lt_of_block hB.out.m) (hbig _ (Nat.le_refl _))).trans hB.out.m
      have haB := (k2.block _ (lt_of_block hB.out.a) (hbig _ (by omega))).trans hB.out.a
      have hzB := (k2.block _ (lt_of_block hB.out.z) (hbig _ (by omega))).trans hB.out.z
      have p0 := cell_at hmB 0
      have p1 := cell_at hmB 1
      have p2 := cell_at hmB 2
      have p3 := cell_at haB 1
      simp at p0 p1 p2 p3
      have C2 := Lib.hid (cut_m base most rs at_ F B (.slice ao n cap) w w2 HR.out (by omega) hrl ha0 ha9)
      rw [← HD.out] at C2
      rw [← show b2 = base + d from HB2.out] at C2
      unfold mod at C2
      have HZB := Lib.hid hzB
      have HL2' := Lib.hid (show LogAt w2 F2 b most b2 (rs.drop d) by rw [show b2 = base + d from HB2.out]; exact l2)
      have HF2 := Lib.hid f2
      have K2 := Lib.hid k2
      clear hmB haB hzB l2 f2 k2 hbz u1 u0
      go_wp2_with (go_at_call 20; refine C2.out.mono ?_; clear C2; rintro e w3 ⟨v3, rfl, r3, k3⟩
                   obtain ⟨a3, n3, c3, hv3, hn3⟩ := mrow_form r3
                   subst hv3
                   replace hn3 := Lib.hid hn3
                   have hz3 := (k3.block _ (lt_of_block HZB.out) (fun e => e)).trans HZB.out
                   have st := store_mod hz3 rfl (b2 : Int) (most : Int) a3 n3 c3
                   have hz4 := mod_block hz3 rfl (b2 : Int) (most : Int) (.slice a3 n3 c3)
                   have q0 := cell_at hz4 0
                   have q1 := cell_at hz4 1
                   have q2 := cell_at hz4 2
                   replace r3 := Lib.hid r3
                   replace k3 := Lib.hid k3
                   replace hz4 := Lib.hid hz4
                   clear hz3)
      simp [zRec] at q0 q1 q2
      have hm3 := HD.out
      have hb3 := HB2.out
      have hgd : d ≤ rs.length := hd1
      refine bodyPost_ret (v := .tuple #[.agg #[.int .u64 (b2 : Int), .slice a3 n3 c3, .int .i64 (most : Int)], .bool true]) ?_ rfl ⟨b2, _, rfl, Did.of (S := fun j => j = w.heap.size + 1 + 1) HFB.out hB.out.k HL2'.out HF2.out K2.out (fun i e => by have := lt_of_block hB.out.z; omega) (k3.out.toAny.trans (Keep.setCells (S := fun j => j = w.heap.size + 1 + 1) (.inl rfl) _ _ _ (Keep.refl _ _))) ?_ (by rw [List.length_drop]; have := HNR.out; omega) (by omega) (by rw [List.length_drop]; omega)⟩
      · simp [results, Try.results15, go_sem, q0, q1, q2]
      · exact fun kk => MRow.move r3.out kk (fun i f => (HF2.out i f).imp id (fun e => Nat.le_trans hB.out.k.size e))
    · by_cases h5 : kd = 5
      · subst h5
        have hrl : rs.length ≤ 256 := by have := HNR.out; omega
        have bx := hB.out.x
        have x0 : wc.cell? ⟨X, 0, none⟩ = some (.int .u64 ((base : Int) + (n : Int) + 1)) := cell_at bx 0
        have x1 : wc.cell? ⟨X, 1, none⟩ = some (.int .u64 0) := cell_at bx 1
        have x2 : wc.cell? ⟨X, 2, none⟩ = some (.int .u64 0) := cell_at bx 2
        have x3 : wc.cell? ⟨X, 3, none⟩ = some (.int .u64 num) := cell_at bx 3
        have x4 : wc.cell? ⟨X, 4, none⟩ = some (.int .i64 0) := cell_at bx 4
        have x5 : wc.cell? ⟨X, 5, none⟩ = some (.string ⟨#[]⟩) := cell_at bx 5
        have x6 : wc.cell? ⟨X, 6, none⟩ = some (.string ⟨#[]⟩) := cell_at bx 6
        have x7 : wc.cell? ⟨X, 7, none⟩ = some (.int .u64 0) := cell_at bx 7
        have x8 : wc.cell? ⟨X, 8, none⟩ = some (.int .u64 0) := cell_at bx 8
        clear bx
        have hbig : ∀ q, w.heap.size ≤ q → ¬ F q := fun q hq f => by have := HFB.out q f; omega
        have HBIG := Lib.hid hbig
        clear hbig
        by_cases hroom : n < most
        · have C1 := Lib.hid (slide_room HL1.out (rec0 ((base : Int) + (n : Int) + 1) num) (by omega) (by rw [← HNR.out]; exact hroom) hm (by rw [← HNR.out]; rfl))
          unfold Rec.agg Rec.cells rec0 at C1
          go_upto_region 10 with (go_at_call 12; refine C1.out.mono ?_; clear C1; rintro e w2 ⟨rfl, F2, l2, f2, k2⟩)
          have hmB := (k2.block _ (lt_of_block hB.out.m) (HBIG.out _ (Nat.le_refl _))).trans hB.out.m
          have p0 := cell_at hmB 0
          have p1 := cell_at hmB 1
          have p2 := cell_at hmB 2
          simp at p0 p1 p2
          have HL2 := Lib.hid l2
          have HF2 := Lib.hid f2
          have K2 := Lib.hid k2
          have HM2 := Lib.hid hmB
          clear l2 f2 k2 hmB x0 x1 x2 x3 x4 x5 x6 x7 x8 u0 u1
          go_upto_region 12 with fail
          have HM := HM2
          have HMR := Lib.hid (MRow.move HR1.out K2.out HF2.out)
          have HNN := HNR
          have HN9 := Lib.hid hn
          have HSZ := Lib.hid (show w.heap.size + 1 + 1 < w2.heap.size by have := K2.out.size; have := lt_of_block hB.out.z; omega)
          have HZ2 := Lib.hid ((K2.out.block _ (lt_of_block hB.out.z) (HBIG.out _ (by omega))).trans hB.out.z)
          have HSX := Lib.hid (Beg.xs (HBIG.out) hB.out K2.out)
          go_cut [] (fun W' => ∃ g c, Hid (App w2 W' w.heap.size base most (n + 1) (rs ++ [rec0 ((base : Int) + (n : Int) + 1) num]) g c))
          case first =>
            clear p0 p1 p2
            refine wp_region_held_drew (S := (fun w' => Keep (fun j => j = w.heap.size) w2 w')) (by kernel_rfl) ?_ (fun hHeld => ?_)
            · exact (Keep.refl (fun j => j = w.heap.size) w2).drew
            refine wpAnyH_take (i := 1) (oi := { dst := some 51, op := Op.fieldAddr TM (Operand.tmp 3) 1, type := 0, pos := "law.go:56", after := #[], guard := none }) (v := .pointer (some ⟨w.heap.size, 1, none⟩)) rfl (by kernel_rfl) (by kernel_rfl) (by kernel_rfl) (fun _ _ _ h => h) (Or.inl ⟨by rfl, ?_⟩) (by assumption) ?_
            · (intro w' hSw; (try dsimp only at hSw); go_simp)
            try simp only [Act.put, List.setIfInBounds_toArray, List.set_cons_zero, List.set_cons_succ]
            refine wpAnyH_take (i := 4) (oi := { dst := some 54, op := Op.load TR (Operand.tmp 8), type := TR, pos := "law.go:56", after := #[], guard := none }) (v := .agg #[.int .u64 ((base : Int) + (n : Int) + 1), .int .u64 0, .int .u64 0, .int .u64 num, .int .i64 0, .string ⟨#[]⟩, .string ⟨#[]⟩, .int .u64 0, .int .u64 0]) rfl (by kernel_rfl) (by kernel_rfl) (by kernel_rfl) (fun _ _ _ h => h) (Or.inl ⟨by rfl, ?_⟩) (by assumption) ?_
            · (intro w' hSw; (try dsimp only at hSw); obtain ⟨x0, x1, x2, x3, x4, x5, x6, x7, x8⟩ := HSX.out w' hSw; go_simp)
            try simp only [Act.put, List.setIfInBounds_toArray, List.set_cons_zero, List.set_cons_succ]
            have kk0 : Keep (fun _ => False) w2 w2.drew := (Keep.refl _ _).drew
            refine wpAnyH_ready (rs := [0, 2, 5]) (by kernel_rfl) (by simp) ?_
            refine AllReadyH.cons (o := { dst := some 50, op := Op.buildSlice TS 0 #[], type := TS, pos := "law.go:56", after := #[], guard := none }) rfl (fun K hK => ?_) ?_
            · skip
              go_simp
              obtain ⟨v1, hv⟩ : ∃ V, V = (w2.alloc (.cells #[] TR)).drew := ⟨_, rfl⟩
              rw [← hv]
              have ks : Keep (fun _ => False) w2 v1 := by rw [hv]; exact ((Keep.refl _ _).alloc _).drew
              have nz1 := Lib.hid (show v1.heap.size = w2.heap.size + 1 by rw [hv]; simp)
              have bE1 : v1.heap[w2.heap.size]? = some (.cells #[] TR (0, 0)) := by rw [hv]; exact block_drew (block_new w2 _)
              clear hv
              have kk1 : Keep (fun _ => False) w2 v1 := ks
              have sz1 := kk1.size
              refine hK.out _ _ kk1.to1 (fun hHeld => ?_)
              clear hK K
              try simp only [Act.put, List.setIfInBounds_toArray, List.set_cons_zero, List.set_cons_succ]
              refine wpAnyH_ready (rs := [2, 5]) (by kernel_rfl) (by simp) ?_
              refine AllReadyH.cons (o := { dst := some 52, op := Op.load TS (Operand.tmp 51), type := TS, pos := "law.go:56", after := #[{ on := 1, ground := Ground.data }], guard := none }) rfl (fun K hK => ?_) ?_
              · skip
                have p1 : v1.cell? ⟨w.heap.size, 1, none⟩ = some (.slice ao n cap) := cell_at ((kk1.block _ (lt_of_block HM.out) (fun e => e)).trans HM.out) 1
                go_simp
                refine hK.out _ _ kk1.to1 (fun hHeld => ?_)
                clear hK K p1
                try simp only [Act.put, List.setIfInBounds_toArray, List.set_cons_zero, List.set_cons_succ]
                refine wpAnyH_ready (rs := [3, 5]) (by kernel_rfl) (by simp) ?_
                refine AllReadyH.cons (o := { dst := some 53, op := Op.call { callee := Callee.builtin Builtin.append, args := #[Operand.tmp 50, Operand.tmp 52], argTypes := #[TS, TS] }, type := TS, pos := "law.go:56", after := #[{ on := 0, ground := Ground.data }, { on := 2, ground := Ground.data }], guard := none }) rfl (fun K hK => ?_) ?_
                · skip
                  obtain ⟨g1, c1, v2, hrun1, rw2, ks, hg1⟩ := app_first bE1 (HMR.out.keep kk1 (fun _ _ e => e.elim)) HN9.out HNN.out TS
                  go_simp
                  have kk2 : Keep (fun _ => False) w2 v2 := kk1.then ks (fun q e => by have := nz1.out; have := HSZ.out; omega)
                  have sz2 := kk2.size
                  clear hrun1
                  refine hK.out _ _ kk2.to1 (fun hHeld => ?_)
                  clear hK K
                  try simp only [Act.put, List.setIfInBounds_toArray, List.set_cons_zero, List.set_cons_succ]
                  refine wpAnyH_ready (rs := [5]) (by kernel_rfl) (by simp) ?_
                  refine AllReadyH.cons (o := { dst := some 55, op := Op.buildSlice TS 1 #[(0, Operand.tmp 54)], type := TS, pos := "law.go:56", after := #[{ on := 4, ground := Ground.data }], guard := none }) rfl (fun K hK => ?_) ?_
                  · skip
                    go_simp
                    obtain ⟨v3, hv⟩ : ∃ V, V = (v2.alloc (.cells #[.int .u64 ((base : Int) + (n : Int) + 1), .int .u64 0, .int .u64 0, .int .u64 num, .int .i64 0, .string ⟨#[]⟩, .string ⟨#[]⟩, .int .u64 0, .int .u64 0] TR)) := ⟨_, rfl⟩
                    rw [← hv]
                    have ks : Keep (fun _ => False) v2 v3 := by rw [hv]; exact ((Keep.refl _ _).alloc _)
                    have nz3 := Lib.hid (show v3.heap.size = v2.heap.size + 1 by rw [hv]; simp)
                    have bY3 : v3.heap[v2.heap.size]? = some (.cells (rec0 ((base : Int) + (n : Int) + 1) num).cells.toArray TR (0, 0)) := by rw [hv]; exact block_new v2 _
                    clear hv
                    have kk3 : Keep (fun _ => False) w2 v3 := kk2.trans ks
                    have sz3 := kk3.size
                    have rw3 := owns_keep rw2 ks (fun _ _ e => e)
                    refine hK.out _ _ kk3.to1 (fun hHeld => ?_)
                    clear hK K
                    try simp only [Act.put, List.setIfInBounds_toArray, List.set_cons_zero, List.set_cons_succ]
                    refine wpAnyH_ready (rs := [6]) (by kernel_rfl) (by simp) ?_
                    refine AllReadyH.cons (o := { dst := some 56, op := Op.call { callee := Callee.builtin Builtin.append, args := #[Operand.tmp 53, Operand.tmp 55], argTypes := #[TS, TS] }, type := TS, pos := "law.go:56", after := #[{ on := 3, ground := Ground.data }, { on := 5, ground := Ground.data }, { on := 3, ground := Ground.chain }], guard := none }) rfl (fun K hK => ?_) ?_
                    · skip
                      obtain ⟨g2, c2, v4, hrun2, rz4, ks, hg2⟩ := app_second rw3 (rec0 ((base : Int) + (n : Int) + 1) num) bY3 HN9.out TS
                      go_simp
                      have kk4 : Keep (fun _ => False) w2 v4 := kk3.then ks (fun q e => by have := nz1.out; have := nz3.out; have := HSZ.out; omega)
                      have sz4 := kk4.size
                      clear hrun2
                      refine hK.out _ _ kk4.to1 (fun hHeld => ?_)
                      clear hK K
                      try simp only [Act.put, List.setIfInBounds_toArray, List.set_cons_zero, List.set_cons_succ]
                      have pm := (kk4.block _ (lt_of_block HM.out) (fun e => e)).trans HM.out
                      have p1 : v4.cell? ⟨w.heap.size, 1, none⟩ = some (.slice ao n cap) := cell_at pm 1
                      have p2 : v4.frozen? ⟨w.heap.size, 1, none⟩ = false := free_at pm 1
                      clear pm
                      refine wpAnyH_take (i := 7) (oi := { dst := some 57, op := Op.fieldAddr TM (Operand.tmp 3) 1, type := 0, pos := "law.go:56", after := #[{ on := 0, ground := Ground.phase }, { on := 1, ground := Ground.phase }, { on := 2, ground := Ground.phase }, { on := 3, ground := Ground.phase }, { on := 4, ground := Ground.phase }, { on := 5, ground := Ground.phase }, { on := 6, ground := Ground.phase }], guard := none }) (v := .pointer (some ⟨w.heap.size, 1, none⟩)) rfl (by kernel_rfl) (by kernel_rfl) (by kernel_rfl) (fun _ _ _ h => h) (Or.inl ⟨by rfl, ?_⟩) (by assumption) ?_
                      · (intro w' hSw; (try dsimp only at hSw); go_simp)
                      try simp only [Act.put, List.setIfInBounds_toArray, List.set_cons_zero, List.set_cons_succ]
                      refine wpAnyH_ready (rs := [8]) (by kernel_rfl) (by simp) ?_
                      refine AllReadyH.cons (o := { dst := none, op := Op.store TS (Operand.tmp 57) (Operand.tmp 56), type := 0, pos := "law.go:56", after := #[{ on := 7, ground := Ground.data }, { on := 6, ground := Ground.data }, { on := 6, ground := Ground.chain }, { on := 0, ground := Ground.phase }, { on := 1, ground := Ground.phase }, { on := 2, ground := Ground.phase }, { on := 3, ground := Ground.phase }, { on := 4, ground := Ground.phase }, { on := 5, ground := Ground.phase }, { on := 6, ground := Ground.phase }], guard := none }) rfl (fun K hK => ?_) AllReadyH.nil
                      go_simp
                      refine hK.out _ _ (kk4.to1.set1 _ _) (fun hHeld => ?_)
                      clear hK K
                      try simp only [Act.put, List.setIfInBounds_toArray, List.set_cons_zero, List.set_cons_succ]
                      refine wpAnyH_done (by kernel_rfl) ?_ _
                      go_wp2_with fail
                      go_meet
                      exact ⟨_, _, Lib.hid (App.mk2 HM.out kk4 rz4 (by have := nz1.out; have := nz3.out; have := HSZ.out; omega))⟩
                    exact AllReadyH.nil
                  exact AllReadyH.nil
                refine AllReadyH.cons (o := { dst := some 55, op := Op.buildSlice TS 1 #[(0, Operand.tmp 54)], type := TS, pos := "law.go:56", after := #[{ on := 4, ground := Ground.data }], guard := none }) rfl (fun K hK => ?_) ?_
                · skip
                  go_simp
                  obtain ⟨v2, hv⟩ : ∃ V, V = (v1.alloc (.cells #[.int .u64 ((base : Int) + (n : Int) + 1), .int .u64 0, .int .u64 0, .int .u64 num, .int .i64 0, .string ⟨#[]⟩, .string ⟨#[]⟩, .int .u64 0, .int .u64 0] TR)) := ⟨_, rfl⟩
                  rw [← hv]
                  have ks : Keep (fun _ => False) v1 v2 := by rw [hv]; exact ((Keep.refl _ _).alloc _)
                  have nz2 := Lib.hid (show v2.heap.size = v1.heap.size + 1 by rw [hv]; simp)
                  have bY2 : v2.heap[v1.heap.size]? = some (.cells (rec0 ((base : Int) + (n : Int) + 1) num).cells.toArray TR (0, 0)) := by rw [hv]; exact block_new v1 _
                  clear hv
                  have kk2 : Keep (fun _ => False) w2 v2 := kk1.trans ks
                  have sz2 := kk2.size
                  have bE2 := (ks.block _ (lt_of_block bE1) (fun e => e)).trans bE1
                  refine hK.out _ _ kk2.to1 (fun hHeld => ?_)
                  clear hK K
                  try simp only [Act.put, List.setIfInBounds_toArray, List.set_cons_zero, List.set_cons_succ]
                  refine wpAnyH_ready (rs := [3]) (by kernel_rfl) (by simp) ?_
                  refine AllReadyH.cons (o := { dst := some 53, op := Op.call { callee := Callee.builtin Builtin.append, args := #[Operand.tmp 50, Operand.tmp 52], argTypes := #[TS, TS] }, type := TS, pos := "law.go:56", after := #[{ on := 0, ground := Ground.data }, { on := 2, ground := Ground.data }], guard := none }) rfl (fun K hK => ?_) ?_
                  · skip
                    obtain ⟨g1, c1, v3, hrun1, rw3, ks, hg1⟩ := app_first bE2 (HMR.out.keep kk2 (fun _ _ e => e.elim)) HN9.out HNN.out TS
                    go_simp
                    have kk3 : Keep (fun _ => False) w2 v3 := kk2.then ks (fun q e => by have := nz1.out; have := nz2.out; have := HSZ.out; omega)
                    have sz3 := kk3.size
                    have bY3 := (ks.block _ (lt_of_block bY2) (fun e => by have := nz1.out; have := nz2.out; have := HSZ.out; omega)).trans bY2
                    clear hrun1
                    refine hK.out _ _ kk3.to1 (fun hHeld => ?_)
                    clear hK K
                    try simp only [Act.put, List.setIfInBounds_toArray, List.set_cons_zero, List.set_cons_succ]
                    refine wpAnyH_ready (rs := [6]) (by kernel_rfl) (by simp) ?_
                    refine AllReadyH.cons (o := { dst := some 56, op := Op.call { callee := Callee.builtin Builtin.append, args := #[Operand.tmp 53, Operand.tmp 55], argTypes := #[TS, TS] }, type := TS, pos := "law.go:56", after := #[{ on := 3, ground := Ground.data }, { on := 5, ground := Ground.data }, { on := 3, ground := Ground.chain }], guard := none }) rfl (fun K hK => ?_) ?_
                    · skip
                      obtain ⟨g2, c2, v4, hrun2, rz4, ks, hg2⟩ := app_second rw3 (rec0 ((base : Int) + (n : Int) + 1) num) bY3 HN9.out TS
                      go_simp
                      have kk4 : Keep (fun _ => False) w2 v4 := kk3.then ks (fun q e => by have := nz1.out; have := nz2.out; have := HSZ.out; omega)
                      have sz4 := kk4.size
                      clear hrun2
                      refine hK.out _ _ kk4.to1 (fun hHeld => ?_)
                      clear hK K
                      try simp only [Act.put, List.setIfInBounds_toArray, List.set_cons_zero, List.set_cons_succ]
                      have pm := (kk4.block _ (lt_of_block HM.out) (fun e => e)).trans HM.out
                      have p1 : v4.cell? ⟨w.heap.size, 1, none⟩ = some (.slice ao n cap) := cell_at pm 1
                      have p2 : v4.frozen? ⟨w.heap.size, 1, none⟩ = false := free_at pm 1
                      clear pm
                      refine wpAnyH_take (i := 7) (oi := { dst := some 57, op := Op.fieldAddr TM (Operand.tmp 3) 1, type := 0, pos := "law.go:56", after := #[{ on := 0, ground := Ground.phase }, { on := 1, ground := Ground.phase }, { on := 2, ground := Ground.phase }, { on := 3, ground := Ground.phase }, { on := 4, ground := Ground.phase }, { on := 5, ground := Ground.phase }, { on := 6, ground := Ground.phase }], guard := none }) (v := .pointer (some ⟨w.heap.size, 1, none⟩)) rfl (by kernel_rfl) (by kernel_rfl) (by kernel_rfl) (fun _ _ _ h => h) (Or.inl ⟨by rfl, ?_⟩) (by assumption) ?_
                      · (intro w' hSw; (try dsimp only at hSw); go_simp)
                      try simp only [Act.put, List.setIfInBounds_toArray, List.set_cons_zero, List.set_cons_succ]
                      refine wpAnyH_ready (rs := [8]) (by kernel_rfl) (by simp) ?_
                      refine AllReadyH.cons (o := { dst := none, op := Op.store TS (Operand.tmp 57) (Operand.tmp 56), type := 0, pos := "law.go:56", after := #[{ on := 7, ground := Ground.data }, { on := 6, ground := Ground.data }, { on := 6, ground := Ground.chain }, { on := 0, ground := Ground.phase }, { on := 1, ground := Ground.phase }, { on := 2, ground := Ground.phase }, { on := 3, ground := Ground.phase }, { on := 4, ground := Ground.phase }, { on := 5, ground := Ground.phase }, { on := 6, ground := Ground.phase }], guard := none }) rfl (fun K hK => ?_) AllReadyH.nil
                      go_simp
                      refine hK.out _ _ (kk4.to1.set1 _ _) (fun hHeld => ?_)
                      clear hK K
                      try simp only [Act.put, List.setIfInBounds_toArray, List.set_cons_zero, List.set_cons_succ]
                      refine wpAnyH_done (by kernel_rfl) ?_ _
                      go_wp2_with fail
                      go_meet
                      exact ⟨_, _, Lib.hid (App.mk2 HM.out kk4 rz4 (by have := nz1.out; have := nz2.out; have := HSZ.out; omega))⟩
                    exact AllReadyH.nil
                  exact AllReadyH.nil
                exact AllReadyH.nil
              refine AllReadyH.cons (o := { dst := some 55, op := Op.buildSlice TS 1 #[(0, Operand.tmp 54)], type := TS, pos := "law.go:56", after := #[{ on := 4, ground := Ground.data }], guard := none }) rfl (fun K hK => ?_) ?_
              · skip
                go_simp
                obtain ⟨v2, hv⟩ : ∃ V, V = (v1.alloc (.cells #[.int .u64 ((base : Int) + (n : Int) + 1), .int .u64 0, .int .u64 0, .int .u64 num, .int .i64 0, .string ⟨#[]⟩, .string ⟨#[]⟩, .int .u64 0, .int .u64 0] TR)) := ⟨_, rfl⟩
                rw [← hv]
                have ks : Keep (fun _ => False) v1 v2 := by rw [hv]; exact ((Keep.refl _ _).alloc _)
                have nz2 := Lib.hid (show v2.heap.size = v1.heap.size + 1 by rw [hv]; simp)
                have bY2 : v2.heap[v1.heap.size]? = some (.cells (rec0 ((base : Int) + (n : Int) + 1) num).cells.toArray TR (0, 0)) := by rw [hv]; exact block_new v1 _
                clear hv
                have kk2 : Keep (fun _ => False) w2 v2 := kk1.trans ks
                have sz2 := kk2.size
                have bE2 := (ks.block _ (lt_of_block bE1) (fun e => e)).trans bE1
                refine hK.out _ _ kk2.to1 (fun hHeld => ?_)
                clear hK K
                try simp only [Act.put, List.setIfInBounds_toArray, List.set_cons_zero, List.set_cons_succ]
                refine wpAnyH_ready (rs := [2]) (by kernel_rfl) (by simp) ?_
                refine AllReadyH.cons (o := { dst := some 52, op := Op.load TS (Operand.tmp 51), type := TS, pos := "law.go:56", after := #[{ on := 1, ground := Ground.data }], guard := none }) rfl (fun K hK => ?_) ?_
                · skip
                  have p1 : v2.cell? ⟨w.heap.size, 1, none⟩ = some (.slice ao n cap) := cell_at ((kk2.block _ (lt_of_block HM.out) (fun e => e)).trans HM.out) 1
                  go_simp
                  refine hK.out _ _ kk2.to1 (fun hHeld => ?_)
                  clear hK K p1
                  try simp only [Act.put, List.setIfInBounds_toArray, List.set_cons_zero, List.set_cons_succ]
                  refine wpAnyH_ready (rs := [3]) (by kernel_rfl) (by simp) ?_
                  refine AllReadyH.cons (o := { dst := some 53, op := Op.call { callee := Callee.builtin Builtin.append, args := #[Operand.tmp 50, Operand.tmp 52], argTypes := #[TS, TS] }, type := TS, pos := "law.go:56", after := #[{ on := 0, ground := Ground.data }, { on := 2, ground := Ground.data }], guard := none }) rfl (fun K hK => ?_) ?_
                  · skip
                    obtain ⟨g1, c1, v3, hrun1, rw3, ks, hg1⟩ := app_first bE2 (HMR.out.keep kk2 (fun _ _ e => e.elim)) HN9.out HNN.out TS
                    go_simp
                    have kk3 : Keep (fun _ => False) w2 v3 := kk2.then ks (fun q e => by have := nz1.out; have := nz2.out; have := HSZ.out; omega)
                    have sz3 := kk3.size
                    have bY3 := (ks.block _ (lt_of_block bY2) (fun e => by have := nz1.out; have := nz2.out; have := HSZ.out; omega)).trans bY2
                    clear hrun1
                    refine hK.out _ _ kk3.to1 (fun hHeld => ?_)
                    clear hK K
                    try simp only [Act.put, List.setIfInBounds_toArray, List.set_cons_zero, List.set_cons_succ]
                    refine wpAnyH_ready (rs := [6]) (by kernel_rfl) (by simp) ?_
                    refine AllReadyH.cons (o := { dst := some 56, op := Op.call { callee := Callee.builtin Builtin.append, args := #[Operand.tmp 53, Operand.tmp 55], argTypes := #[TS, TS] }, type := TS, pos := "law.go:56", after := #[{ on := 3, ground := Ground.data }, { on := 5, ground := Ground.data }, { on := 3, ground := Ground.chain }], guard := none }) rfl (fun K hK => ?_) ?_
                    · skip
                      obtain ⟨g2, c2, v4, hrun2, rz4, ks, hg2⟩ := app_second rw3 (rec0 ((base : Int) + (n : Int) + 1) num) bY3 HN9.out TS
                      go_simp
                      have kk4 : Keep (fun _ => False) w2 v4 := kk3.then ks (fun q e => by have := nz1.out; have := nz2.out; have := HSZ.out; omega)
                      have sz4 := kk4.size
                      clear hrun2
                      refine hK.out _ _ kk4.to1 (fun hHeld => ?_)
                      clear hK K
                      try simp only [Act.put, List.setIfInBounds_toArray, List.set_cons_zero, List.set_cons_succ]
                      have pm := (kk4.block _ (lt_of_block HM.out) (fun e => e)).trans HM.out
                      have p1 : v4.cell? ⟨w.heap.size, 1, none⟩ = some (.slice ao n cap) := cell_at pm 1
                      have p2 : v4.frozen? ⟨w.heap.size, 1, none⟩ = false := free_at pm 1
                      clear pm
                      refine wpAnyH_take (i := 7) (oi := { dst := some 57, op := Op.fieldAddr TM (Operand.tmp 3) 1, type := 0, pos := "law.go:56", after := #[{ on := 0, ground := Ground.phase }, { on := 1, ground := Ground.phase }, { on := 2, ground := Ground.phase }, { on := 3, ground := Ground.phase }, { on := 4, ground := Ground.phase }, { on := 5, ground := Ground.phase }, { on := 6, ground := Ground.phase }], guard := none }) (v := .pointer (some ⟨w.heap.size, 1, none⟩)) rfl (by kernel_rfl) (by kernel_rfl) (by kernel_rfl) (fun _ _ _ h => h) (Or.inl ⟨by rfl, ?_⟩) (by assumption) ?_
                      · (intro w' hSw; (try dsimp only at hSw); go_simp)
                      try simp only [Act.put, List.setIfInBounds_toArray, List.set_cons_zero, List.set_cons_succ]
                      refine wpAnyH_ready (rs := [8]) (by kernel_rfl) (by simp) ?_
                      refine AllReadyH.cons (o := { dst := none, op := Op.store TS (Operand.tmp 57) (Operand.tmp 56), type := 0, pos := "law.go:56", after := #[{ on := 7, ground := Ground.data }, { on := 6, ground := Ground.data }, { on := 6, ground := Ground.chain }, { on := 0, ground := Ground.phase }, { on := 1, ground := Ground.phase }, { on := 2, ground := Ground.phase }, { on := 3, ground := Ground.phase }, { on := 4, ground := Ground.phase }, { on := 5, ground := Ground.phase }, { on := 6, ground := Ground.phase }], guard := none }) rfl (fun K hK => ?_) AllReadyH.nil
                      go_simp
                      refine hK.out _ _ (kk4.to1.set1 _ _) (fun hHeld => ?_)
                      clear hK K
                      try simp only [Act.put, List.setIfInBounds_toArray, List.set_cons_zero, List.set_cons_succ]
                      refine wpAnyH_done (by kernel_rfl) ?_ _
                      go_wp2_with fail
                      go_meet
                      exact ⟨_, _, Lib.hid (App.mk2 HM.out kk4 rz4 (by have := nz1.out; have := nz2.out; have := HSZ.out; omega))⟩
                    exact AllReadyH.nil
                  exact AllReadyH.nil
                exact AllReadyH.nil
              exact AllReadyH.nil
            refine AllReadyH.cons (o := { dst := some 52, op := Op.load TS (Operand.tmp 51), type := TS, pos := "law.go:56", after := #[{ on := 1, ground := Ground.data }], guard := none }) rfl (fun K hK => ?_) ?_
            · skip
              have p1 : w2.cell? ⟨w.heap.size, 1, none⟩ = some (.slice ao n cap) := cell_at ((kk0.block _ (lt_of_block HM.out) (fun e => e)).trans HM.out) 1
              go_simp
              refine hK.out _ _ kk0.to1 (fun hHeld => ?_)
              clear hK K p1
              try simp only [Act.put, List.setIfInBounds_toArray, List.set_cons_zero, List.set_cons_succ]
              refine wpAnyH_ready (rs := [0, 5]) (by kernel_rfl) (by simp) ?_
              refine AllReadyH.cons (o := { dst := some 50, op := Op.buildSlice TS 0 #[], type := TS, pos := "law.go:56", after := #[], guard := none }) rfl (fun K hK => ?_) ?_
              · skip
                go_simp
                obtain ⟨v1, hv⟩ : ∃ V, V = (w2.alloc (.cells #[] TR)).drew := ⟨_, rfl⟩
                rw [← hv]
                have ks : Keep (fun _ => False) w2 v1 := by rw [hv]; exact ((Keep.refl _ _).alloc _).drew
                have nz1 := Lib.hid (show v1.heap.size = w2.heap.size + 1 by rw [hv]; simp)
                have bE1 : v1.heap[w2.heap.size]? = some (.cells #[] TR (0, 0)) := by rw [hv]; exact block_drew (block_new w2 _)
                clear hv
                have kk1 : Keep (fun _ => False) w2 v1 := ks
                have sz1 := kk1.size
                refine hK.out _ _ kk1.to1 (fun hHeld => ?_)
                clear hK K
                try simp only [Act.put, List.setIfInBounds_toArray, List.set_cons_zero, List.set_cons_succ]
                refine wpAnyH_ready (rs := [3, 5]) (by kernel_rfl) (by simp) ?_
                refine AllReadyH.cons (o := { dst := some 53, op := Op.call { callee := Callee.builtin Builtin.append, args := #[Operand.tmp 50, Operand.tmp 52], argTypes := #[TS, TS] }, type := TS, pos := "law.go:56", after := #[{ on := 0, ground := Ground.data }, { on := 2, ground := Ground.data }], guard := none }) rfl (fun K hK => ?_) ?_
                · skip
                  obtain ⟨g1, c1, v2, hrun1, rw2, ks, hg1⟩ := app_first bE1 (HMR.out.keep kk1 (fun _ _ e => e.elim)) HN9.out HNN.out TS
                  go_simp
                  have kk2 : Keep (fun _ => False) w2 v2 := kk1.then ks (fun q e => by have := nz1.out; have := HSZ.out; omega)
                  have sz2 := kk2.size
                  clear hrun1
                  refine hK.out _ _ kk2.to1 (fun hHeld => ?_)
                  clear hK K
                  try simp only [Act.put, List.setIfInBounds_toArray, List.set_cons_zero, List.set_cons_succ]
                  refine wpAnyH_ready (rs := [5]) (by kernel_rfl) (by simp) ?_
                  refine AllReadyH.cons (o := { dst := some 55, op := Op.buildSlice TS 1 #[(0, Operand.tmp 54)], type := TS, pos := "law.go:56", after := #[{ on := 4, ground := Ground.data }], guard := none }) rfl (fun K hK => ?_) ?_
                  · skip
                    go_simp
                    obtain ⟨v3, hv⟩ : ∃ V, V = (v2.alloc (.cells #[.int .u64 ((base : Int) + (n : Int) + 1), .int .u64 0, .int .u64 0, .int .u64 num, .int .i64 0, .string ⟨#[]⟩, .string ⟨#[]⟩, .int .u64 0, .int .u64 0] TR)) := ⟨_, rfl⟩
                    rw [← hv]
                    have ks : Keep (fun _ => False) v2 v3 := by rw [hv]; exact ((Keep.refl _ _).alloc _)
                    have nz3 := Lib.hid (show v3.heap.size = v2.heap.size + 1 by rw [hv]; simp)
                    have bY3 : v3.heap[v2.heap.size]? = some (.cells (rec0 ((base : Int) + (n : Int) + 1) num).cells.toArray TR (0, 0)) := by rw [hv]; exact block_new v2 _
                    clear hv
                    have kk3 : Keep (fun _ => False) w2 v3 := kk2.trans ks
                    have sz3 := kk3.size
                    have rw3 := owns_keep rw2 ks (fun _ _ e => e)
                    refine hK.out _ _ kk3.to1 (fun hHeld => ?_)
                    clear hK K
                    try simp only [Act.put, List.setIfInBounds_toArray, List.set_cons_zero, List.set_cons_succ]
                    refine wpAnyH_ready (rs := [6]) (by kernel_rfl) (by simp) ?_
                    refine AllReadyH.cons (o := { dst := some 56, op := Op.call { callee := Callee.builtin Builtin.append, args := #[Operand.tmp 53, Operand.tmp 55], argTypes := #[TS, TS] }, type := TS, pos := "law.go:56", after := #[{ on := 3, ground := Ground.data }, { on := 5, ground := Ground.data }, { on := 3, ground := Ground.chain }], guard := none }) rfl (fun K hK => ?_) ?_
                    · skip
                      obtain ⟨g2, c2, v4, hrun2, rz4, ks, hg2⟩ := app_second rw3 (rec0 ((base : Int) + (n : Int) + 1) num) bY3 HN9.out TS
                      go_simp
                      have kk4 : Keep (fun _ => False) w2 v4 := kk3.then ks (fun q e => by have := nz1.out; have := nz3.out; have := HSZ.out; omega)
                      have sz4 := kk4.size
                      clear hrun2
                      refine hK.out _ _ kk4.to1 (fun hHeld => ?_)
                      clear hK K
                      try simp only [Act.put, List.setIfInBounds_toArray, List.set_cons_zero, List.set_cons_succ]
                      have pm := (kk4.block _ (lt_of_block HM.out) (fun e => e)).trans HM.out
                      have p1 : v4.cell? ⟨w.heap.size, 1, none⟩ = some (.slice ao n cap) := cell_at pm 1
                      have p2 : v4.frozen? ⟨w.heap.size, 1, none⟩ = false := free_at pm 1
                      clear pm
                      refine wpAnyH_take (i := 7) (oi := { dst := some 57, op := Op.fieldAddr TM (Operand.tmp 3) 1, type := 0, pos := "law.go:56", after := #[{ on := 0, ground := Ground.phase }, { on := 1, ground := Ground.phase }, { on := 2, ground := Ground.phase }, { on := 3, ground := Ground.phase }, { on := 4, ground := Ground.phase }, { on := 5, ground := Ground.phase }, { on := 6, ground := Ground.phase }], guard := none }) (v := .pointer (some ⟨w.heap.size, 1, none⟩)) rfl (by kernel_rfl) (by kernel_rfl) (by kernel_rfl) (fun _ _ _ h => h) (Or.inl ⟨by rfl, ?_⟩) (by assumption) ?_
                      · (intro w' hSw; (try dsimp only at hSw); go_simp)
                      try simp only [Act.put, List.setIfInBounds_toArray, List.set_cons_zero, List.set_cons_succ]
                      refine wpAnyH_ready (rs := [8]) (by kernel_rfl) (by simp) ?_
                      refine AllReadyH.cons (o := { dst := none, op := Op.store TS (Operand.tmp 57) (Operand.tmp 56), type := 0, pos := "law.go:56", after := #[{ on := 7, ground := Ground.data }, { on := 6, ground := Ground.data }, { on := 6, ground := Ground.chain }, { on := 0, ground := Ground.phase }, { on := 1, ground := Ground.phase }, { on := 2, ground := Ground.phase }, { on := 3, ground := Ground.phase }, { on := 4, ground := Ground.phase }, { on := 5, ground := Ground.phase }, { on := 6, ground := Ground.phase }], guard := none }) rfl (fun K hK => ?_) AllReadyH.nil
                      go_simp
                      refine hK.out _ _ (kk4.to1.set1 _ _) (fun hHeld => ?_)
                      clear hK K
                      try simp only [Act.put, List.setIfInBounds_toArray, List.set_cons_zero, List.set_cons_succ]
                      refine wpAnyH_done (by kernel_rfl) ?_ _
                      go_wp2_with fail
                      go_meet
                      exact ⟨_, _, Lib.hid (App.mk2 HM.out kk4 rz4 (by have := nz1.out; have := nz3.out; have := HSZ.out; omega))⟩
                    exact AllReadyH.nil
                  exact AllReadyH.nil
                refine AllReadyH.cons (o := { dst := some 55, op := Op.buildSlice TS 1 #[(0, Operand.tmp 54)], type := TS, pos := "law.go:56", after := #[{ on := 4, ground := Ground.data }], guard := none }) rfl (fun K hK => ?_) ?_
                · skip
                  go_simp
                  obtain ⟨v2, hv⟩ : ∃ V, V = (v1.alloc (.cells #[.int .u64 ((base : Int) + (n : Int) + 1), .int .u64 0, .int .u64 0, .int .u64 num, .int .i64 0, .string ⟨#[]⟩, .string ⟨#[]⟩, .int .u64 0, .int .u64 0] TR)) := ⟨_, rfl⟩
                  rw [← hv]
                  have ks : Keep (fun _ => False) v1 v2 := by rw [hv]; exact ((Keep.refl _ _).alloc _)
                  have nz2 := Lib.hid (show v2.heap.size = v1.heap.size + 1 by rw [hv]; simp)
                  have bY2 : v2.heap[v1.heap.size]? = some (.cells (rec0 ((base : Int) + (n : Int) + 1) num).cells.toArray TR (0, 0)) := by rw [hv]; exact block_new v1 _
                  clear hv
                  have kk2 : Keep (fun _ => False) w2 v2 := kk1.trans ks
                  have sz2 := kk2.size
                  have bE2 := (ks.block _ (lt_of_block bE1) (fun e => e)).trans bE1
                  refine hK.out _ _ kk2.to1 (fun hHeld => ?_)
                  clear hK K
                  try simp only [Act.put, List.setIfInBounds_toArray, List.set_cons_zero, List.set_cons_succ]
                  refine wpAnyH_ready (rs := [3]) (by kernel_rfl) (by simp) ?_
                  refine AllReadyH.cons (o := { dst := some 53, op := Op.call { callee := Callee.builtin Builtin.append, args := #[Operand.tmp 50, Operand.tmp 52], argTypes := #[TS, TS] }, type := TS, pos := "law.go:56", after := #[{ on := 0, ground := Ground.data }, { on := 2, ground := Ground.data }], guard := none }) rfl (fun K hK => ?_) ?_
                  · skip
                    obtain ⟨g1, c1, v3, hrun1, rw3, ks, hg1⟩ := app_first bE2 (HMR.out.keep kk2 (fun _ _ e => e.elim)) HN9.out HNN.out TS
                    go_simp
                    have kk3 : Keep (fun _ => False) w2 v3 := kk2.then ks (fun q e => by have := nz1.out; have := nz2.out; have := HSZ.out; omega)
                    have sz3 := kk3.size
                    have bY3 := (ks.block _ (lt_of_block bY2) (fun e => by have := nz1.out; have := nz2.out; have := HSZ.out; omega)).trans bY2
                    clear hrun1
                    refine hK.out _ _ kk3.to1 (fun hHeld => ?_)
                    clear hK K
                    try simp only [Act.put, List.setIfInBounds_toArray, List.set_cons_zero, List.set_cons_succ]
                    refine wpAnyH_ready (rs := [6]) (by kernel_rfl) (by simp) ?_
                    refine AllReadyH.cons (o := { dst := some 56, op := Op.call { callee := Callee.builtin Builtin.append, args := #[Operand.tmp 53, Operand.tmp 55], argTypes := #[TS, TS] }, type := TS, pos := "law.go:56", after := #[{ on := 3, ground := Ground.data }, { on := 5, ground := Ground.data }, { on := 3, ground := Ground.chain }], guard := none }) rfl (fun K hK => ?_) ?_
                    · skip
                      obtain ⟨g2, c2, v4, hrun2, rz4, ks, hg2⟩ := app_second rw3 (rec0 ((base : Int) + (n : Int) + 1) num) bY3 HN9.out TS
                      go_simp
                      have kk4 : Keep (fun _ => False) w2 v4 := kk3.then ks (fun q e => by have := nz1.out; have := nz2.out; have := HSZ.out; omega)
                      have sz4 := kk4.size
                      clear hrun2
                      refine hK.out _ _ kk4.to1 (fun hHeld => ?_)
                      clear hK K
                      try simp only [Act.put, List.setIfInBounds_toArray, List.set_cons_zero, List.set_cons_succ]
                      have pm := (kk4.block _ (lt_of_block HM.out) (fun e => e)).trans HM.out
                      have p1 : v4.cell? ⟨w.heap.size, 1, none⟩ = some (.slice ao n cap) := cell_at pm 1
                      have p2 : v4.frozen? ⟨w.heap.size, 1, none⟩ = false := free_at pm 1
                      clear pm
                      refine wpAnyH_take (i := 7) (oi := { dst := some 57, op := Op.fieldAddr TM (Operand.tmp 3) 1, type := 0, pos := "law.go:56", after := #[{ on := 0, ground := Ground.phase }, { on := 1, ground := Ground.phase }, { on := 2, ground := Ground.phase }, { on := 3, ground := Ground.phase }, { on := 4, ground := Ground.phase }, { on := 5, ground := Ground.phase }, { on := 6, ground := Ground.phase }], guard := none }) (v := .pointer (some ⟨w.heap.size, 1, none⟩)) rfl (by kernel_rfl) (by kernel_rfl) (by kernel_rfl) (fun _ _ _ h => h) (Or.inl ⟨by rfl, ?_⟩) (by assumption) ?_
                      · (intro w' hSw; (try dsimp only at hSw); go_simp)
                      try simp only [Act.put, List.setIfInBounds_toArray, List.set_cons_zero, List.set_cons_succ]
                      refine wpAnyH_ready (rs := [8]) (by kernel_rfl) (by simp) ?_
                      refine AllReadyH.cons (o := { dst := none, op := Op.store TS (Operand.tmp 57) (Operand.tmp 56), type := 0, pos := "law.go:56", after := #[{ on := 7, ground := Ground.data }, { on := 6, ground := Ground.data }, { on := 6, ground := Ground.chain }, { on := 0, ground := Ground.phase }, { on := 1, ground := Ground.phase }, { on := 2, ground := Ground.phase }, { on := 3, ground := Ground.phase }, { on := 4, ground := Ground.phase }, { on := 5, ground := Ground.phase }, { on := 6, ground := Ground.phase }], guard := none }) rfl (fun K hK => ?_) AllReadyH.nil
                      go_simp
                      refine hK.out _ _ (kk4.to1.set1 _ _) (fun hHeld => ?_)
                      clear hK K
                      try simp only [Act.put, List.setIfInBounds_toArray, List.set_cons_zero, List.set_cons_succ]
                      refine wpAnyH_done (by kernel_rfl) ?_ _
                      go_wp2_with fail
                      go_meet
                      exact ⟨_, _, Lib.hid (App.mk2 HM.out kk4 rz4 (by have := nz1.out; have := nz2.out; have := HSZ.out; omega))⟩
                    exact AllReadyH.nil
                  exact AllReadyH.nil
                exact AllReadyH.nil
              refine AllReadyH.cons (o := { dst := some 55, op := Op.buildSlice TS 1 #[(0, Operand.tmp 54)], type := TS, pos := "law.go:56", after := #[{ on := 4, ground := Ground.data }], guard := none }) rfl (fun K hK => ?_) ?_
              · skip
                go_simp
                obtain ⟨v1, hv⟩ : ∃ V, V = (w2.alloc (.cells #[.int .u64 ((base : Int) + (n : Int) + 1), .int .u64 0, .int .u64 0, .int .u64 num, .int .i64 0, .string ⟨#[]⟩, .string ⟨#[]⟩, .int .u64 0, .int .u64 0] TR)).drew := ⟨_, rfl⟩
                rw [← hv]
                have ks : Keep (fun _ => False) w2 v1 := by rw [hv]; exact ((Keep.refl _ _).alloc _).drew
                have nz1 := Lib.hid (show v1.heap.size = w2.heap.size + 1 by rw [hv]; simp)
                have bY1 : v1.heap[w2.heap.size]? = some (.cells (rec0 ((base : Int) + (n : Int) + 1) num).cells.toArray TR (0, 0)) := by rw [hv]; exact block_drew (block_new w2 _)
                clear hv
                have kk1 : Keep (fun _ => False) w2 v1 := ks
                have sz1 := kk1.size
                refine hK.out _ _ kk1.to1 (fun hHeld => ?_)
                clear hK K
                try simp only [Act.put, List.setIfInBounds_toArray, List.set_cons_zero, List.set_cons_succ]
                refine wpAnyH_ready (rs := [0]) (by kernel_rfl) (by simp) ?_
                refine AllReadyH.cons (o := { dst := some 50, op := Op.buildSlice TS 0 #[], type := TS, pos := "law.go:56", after := #[], guard := none }) rfl (fun K hK => ?_) ?_
                · skip
                  go_simp
                  obtain ⟨v2, hv⟩ : ∃ V, V = (v1.alloc (.cells #[] TR)) := ⟨_, rfl⟩
                  rw [← hv]
                  have ks : Keep (fun _ => False) v1 v2 := by rw [hv]; exact ((Keep.refl _ _).alloc _)
                  have nz2 := Lib.hid (show v2.heap.size = v1.heap.size + 1 by rw [hv]; simp)
                  have bE2 : v2.heap[v1.heap.size]? = some (.cells #[] TR (0, 0)) := by rw [hv]; exact block_new v1 _
                  clear hv
                  have kk2 : Keep (fun _ => False) w2 v2 := kk1.trans ks
                  have sz2 := kk2.size
                  have bY2 := (ks.block _ (lt_of_block bY1) (fun e => e)).trans bY1
                  refine hK.out _ _ kk2.to1 (fun hHeld => ?_)
                  clear hK K
                  try simp only [Act.put, List.setIfInBounds_toArray, List.set_cons_zero, List.set_cons_succ]
                  refine wpAnyH_ready (rs := [3]) (by kernel_rfl) (by simp) ?_
                  refine AllReadyH.cons (o := { dst := some 53, op := Op.call { callee := Callee.builtin Builtin.append, args := #[Operand.tmp 50, Operand.tmp 52], argTypes := #[TS, TS] }, type := TS, pos := "law.go:56", after := #[{ on := 0, ground := Ground.data }, { on := 2, ground := Ground.data }], guard := none }) rfl (fun K hK => ?_) ?_
                  · skip
                    obtain ⟨g1, c1, v3, hrun1, rw3, ks, hg1⟩ := app_first bE2 (HMR.out.keep kk2 (fun _ _ e => e.elim)) HN9.out HNN.out TS
                    go_simp
                    have kk3 : Keep (fun _ => False) w2 v3 := kk2.then ks (fun q e => by have := nz1.out; have := nz2.out; have := HSZ.out; omega)
                    have sz3 := kk3.size
                    have bY3 := (ks.block _ (lt_of_block bY2) (fun e => by have := nz1.out; have := nz2.out; have := HSZ.out; omega)).trans bY2
                    clear hrun1
                    refine hK.out _ _ kk3.to1 (fun hHeld => ?_)
                    clear hK K
                    try simp only [Act.put, List.setIfInBounds_toArray, List.set_cons_zero, List.set_cons_succ]
                    refine wpAnyH_ready (rs := [6]) (by kernel_rfl) (by simp) ?_
                    refine AllReadyH.cons (o := { dst := some 56, op := Op.call { callee := Callee.builtin Builtin.append, args := #[Operand.tmp 53, Operand.tmp 55], argTypes := #[TS, TS] }, type := TS, pos := "law.go:56", after := #[{ on := 3, ground := Ground.data }, { on := 5, ground := Ground.data }, { on := 3, ground := Ground.chain }], guard := none }) rfl (fun K hK => ?_) ?_
                    · skip
                      obtain ⟨g2, c2, v4, hrun2, rz4, ks, hg2⟩ := app_second rw3 (rec0 ((base : Int) + (n : Int) + 1) num) bY3 HN9.out TS
                      go_simp
                      have kk4 : Keep (fun _ => False) w2 v4 := kk3.then ks (fun q e => by have := nz1.out; have := nz2.out; have := HSZ.out; omega)
                      have sz4 := kk4.size
                      clear hrun2
                      refine hK.out _ _ kk4.to1 (fun hHeld => ?_)
                      clear hK K
                      try simp only [Act.put, List.setIfInBounds_toArray, List.set_cons_zero, List.set_cons_succ]
                      have pm := (kk4.block _ (lt_of_block HM.out) (fun e => e)).trans HM.out
                      have p1 : v4.cell? ⟨w.heap.size, 1, none⟩ = some (.slice ao n cap) := cell_at pm 1
                      have p2 : v4.frozen? ⟨w.heap.size, 1, none⟩ = false := free_at pm 1
                      clear pm
                      refine wpAnyH_take (i := 7) (oi := { dst := some 57, op := Op.fieldAddr TM (Operand.tmp 3) 1, type := 0, pos := "law.go:56", after := #[{ on := 0, ground := Ground.phase }, { on := 1, ground := Ground.phase }, { on := 2, ground := Ground.phase }, { on := 3, ground := Ground.phase }, { on := 4, ground := Ground.phase }, { on := 5, ground := Ground.phase }, { on := 6, ground := Ground.phase }], guard := none }) (v := .pointer (some ⟨w.heap.size, 1, none⟩)) rfl (by kernel_rfl) (by kernel_rfl) (by kernel_rfl) (fun _ _ _ h => h) (Or.inl ⟨by rfl, ?_⟩) (by assumption) ?_
                      · (intro w' hSw; (try dsimp only at hSw); go_simp)
                      try simp only [Act.put, List.setIfInBounds_toArray, List.set_cons_zero, List.set_cons_succ]
                      refine wpAnyH_ready (rs := [8]) (by kernel_rfl) (by simp) ?_
                      refine AllReadyH.cons (o := { dst := none, op := Op.store TS (Operand.tmp 57) (Operand.tmp 56), type := 0, pos := "law.go:56", after := #[{ on := 7, ground := Ground.data }, { on := 6, ground := Ground.data }, { on := 6, ground := Ground.chain }, { on := 0, ground := Ground.phase }, { on := 1, ground := Ground.phase }, { on := 2, ground := Ground.phase }, { on := 3, ground := Ground.phase }, { on := 4, ground := Ground.phase }, { on := 5, ground := Ground.phase }, { on := 6, ground := Ground.phase }], guard := none }) rfl (fun K hK => ?_) AllReadyH.nil
                      go_simp
                      refine hK.out _ _ (kk4.to1.set1 _ _) (fun hHeld => ?_)
                      clear hK K
                      try simp only [Act.put, List.setIfInBounds_toArray, List.set_cons_zero, List.set_cons_succ]
                      refine wpAnyH_done (by kernel_rfl) ?_ _
                      go_wp2_with fail
                      go_meet
                      exact ⟨_, _, Lib.hid (App.mk2 HM.out kk4 rz4 (by have := nz1.out; have := nz2.out; have := HSZ.out; omega))⟩
                    exact AllReadyH.nil
                  exact AllReadyH.nil
                exact AllReadyH.nil
              exact AllReadyH.nil
            refine AllReadyH.cons (o := { dst := some 55, op := Op.buildSlice TS 1 #[(0, Operand.tmp 54)], type := TS, pos := "law.go:56", after := #[{ on := 4, ground := Ground.data }], guard := none }) rfl (fun K hK => ?_) ?_
            · skip
              go_simp
              obtain ⟨v1, hv⟩ : ∃ V, V = (w2.alloc (.cells #[.int .u64 ((base : Int) + (n : Int) + 1), .int .u64 0, .int .u64 0, .int .u64 num, .int .i64 0, .string ⟨#[]⟩, .string ⟨#[]⟩, .int .u64 0, .int .u64 0] TR)).drew := ⟨_, rfl⟩
              rw [← hv]
              have ks : Keep (fun _ => False) w2 v1 := by rw [hv]; exact ((Keep.refl _ _).alloc _).drew
              have nz1 := Lib.hid (show v1.heap.size = w2.heap.size + 1 by rw [hv]; simp)
              have bY1 : v1.heap[w2.heap.size]? = some (.cells (rec0 ((base : Int) + (n : Int) + 1) num).cells.toArray TR (0, 0)) := by rw [hv]; exact block_drew (block_new w2 _)
              clear hv
              have kk1 : Keep (fun _ => False) w2 v1 := ks
              have sz1 := kk1.size
              refine hK.out _ _ kk1.to1 (fun hHeld => ?_)
              clear hK K
              try simp only [Act.put, List.setIfInBounds_toArray, List.set_cons_zero, List.set_cons_succ]
              refine wpAnyH_ready (rs := [0, 2]) (by kernel_rfl) (by simp) ?_
              refine AllReadyH.cons (o := { dst := some 50, op := Op.buildSlice TS 0 #[], type := TS, pos := "law.go:56", after := #[], guard := none }) rfl (fun K hK => ?_) ?_
              · skip
                go_simp
                obtain ⟨v2, hv⟩ : ∃ V, V = (v1.alloc (.cells #[] TR)) := ⟨_, rfl⟩
                rw [← hv]
                have ks : Keep (fun _ => False) v1 v2 := by rw [hv]; exact ((Keep.refl _ _).alloc _)
                have nz2 := Lib.hid (show v2.heap.size = v1.heap.size + 1 by rw [hv]; simp)
                have bE2 : v2.heap[v1.heap.size]? = some (.cells #[] TR (0, 0)) := by rw [hv]; exact block_new v1 _
                clear hv
                have kk2 : Keep (fun _ => False) w2 v2 := kk1.trans ks
                have sz2 := kk2.size
                have bY2 := (ks.block _ (lt_of_block bY1) (fun e => e)).trans bY1
                refine hK.out _ _ kk2.to1 (fun hHeld => ?_)
                clear hK K
                try simp only [Act.put, List.setIfInBounds_toArray, List.set_cons_zero, List.set_cons_succ]
                refine wpAnyH_ready (rs := [2]) (by kernel_rfl) (by simp) ?_
                refine AllReadyH.cons (o := { dst := some 52, op := Op.load TS (Operand.tmp 51), type := TS, pos := "law.go:56", after := #[{ on := 1, ground := Ground.data }], guard := none }) rfl (fun K hK => ?_) ?_
                · skip
                  have p1 : v2.cell? ⟨w.heap.size, 1, none⟩ = some (.slice ao n cap) := cell_at ((kk2.block _ (lt_of_block HM.out) (fun e => e)).trans HM.out) 1
                  go_simp
                  refine hK.out _ _ kk2.to1 (fun hHeld => ?_)
                  clear hK K p1
                  try simp only [Act.put, List.setIfInBounds_toArray, List.set_cons_zero, List.set_cons_succ]
                  refine wpAnyH_ready (rs := [3]) (by kernel_rfl) (by simp) ?_
                  refine AllReadyH.cons (o := { dst := some 53, op := Op.call { callee := Callee.builtin Builtin.append, args := #[Operand.tmp 50, Operand.tmp 52], argTypes := #[TS, TS] }, type := TS, pos := "law.go:56", after := #[{ on := 0, ground := Ground.data }, { on := 2, ground := Ground.data }], guard := none }) rfl (fun K hK => ?_) ?_
                  · skip
                    obtain ⟨g1, c1, v3, hrun1, rw3, ks, hg1⟩ := app_first bE2 (HMR.out.keep kk2 (fun _ _ e => e.elim)) HN9.out HNN.out TS
                    go_simp
                    have kk3 : Keep (fun _ => False) w2 v3 := kk2.then ks (fun q e => by have := nz1.out; have := nz2.out; have := HSZ.out; omega)
                    have sz3 := kk3.size
                    have bY3 := (ks.block _ (lt_of_block bY2) (fun e => by have := nz1.out; have := nz2.out; have := HSZ.out; omega)).trans bY2
                    clear hrun1
                    refine hK.out _ _ kk3.to1 (fun hHeld => ?_)
                    clear hK K
                    try simp only [Act.put, List.setIfInBounds_toArray, List.set_cons_zero, List.set_cons_succ]
                    refine wpAnyH_ready (rs := [6]) (by kernel_rfl) (by simp) ?_
                    refine AllReadyH.cons (o := { dst := some 56, op := Op.call { callee := Callee.builtin Builtin.append, args := #[Operand.tmp 53, Operand.tmp 55], argTypes := #[TS, TS] }, type := TS, pos := "law.go:56", after := #[{ on := 3, ground := Ground.data }, { on := 5, ground := Ground.data }, { on := 3, ground := Ground.chain }], guard := none }) rfl (fun K hK => ?_) ?_
                    · skip
                      obtain ⟨g2, c2, v4, hrun2, rz4, ks, hg2⟩ := app_second rw3 (rec0 ((base : Int) + (n : Int) + 1) num) bY3 HN9.out TS
                      go_simp
                      have kk4 : Keep (fun _ => False) w2 v4 := kk3.then ks (fun q e => by have := nz1.out; have := nz2.out; have := HSZ.out; omega)
                      have sz4 := kk4.size
                      clear hrun2
                      refine hK.out _ _ kk4.to1 (fun hHeld => ?_)
                      clear hK K
                      try simp only [Act.put, List.setIfInBounds_toArray, List.set_cons_zero, List.set_cons_succ]
                      have pm := (kk4.block _ (lt_of_block HM.out) (fun e => e)).trans HM.out
                      have p1 : v4.cell? ⟨w.heap.size, 1, none⟩ = some (.slice ao n cap) := cell_at pm 1
                      have p2 : v4.frozen? ⟨w.heap.size, 1, none⟩ = false := free_at pm 1
                      clear pm
                      refine wpAnyH_take (i := 7) (oi := { dst := some 57, op := Op.fieldAddr TM (Operand.tmp 3) 1, type := 0, pos := "law.go:56", after := #[{ on := 0, ground := Ground.phase }, { on := 1, ground := Ground.phase }, { on := 2, ground := Ground.phase }, { on := 3, ground := Ground.phase }, { on := 4, ground := Ground.phase }, { on := 5, ground := Ground.phase }, { on := 6, ground := Ground.phase }], guard := none }) (v := .pointer (some ⟨w.heap.size, 1, none⟩)) rfl (by kernel_rfl) (by kernel_rfl) (by kernel_rfl) (fun _ _ _ h => h) (Or.inl ⟨by rfl, ?_⟩) (by assumption) ?_
                      · (intro w' hSw; (try dsimp only at hSw); go_simp)
                      try simp only [Act.put, List.setIfInBounds_toArray, List.set_cons_zero, List.set_cons_succ]
                      refine wpAnyH_ready (rs := [8]) (by kernel_rfl) (by simp) ?_
                      refine AllReadyH.cons (o := { dst := none, op := Op.store TS (Operand.tmp 57) (Operand.tmp 56), type := 0, pos := "law.go:56", after := #[{ on := 7, ground := Ground.data }, { on := 6, ground := Ground.data }, { on := 6, ground := Ground.chain }, { on := 0, ground := Ground.phase }, { on := 1, ground := Ground.phase }, { on := 2, ground := Ground.phase }, { on := 3, ground := Ground.phase }, { on := 4, ground := Ground.phase }, { on := 5, ground := Ground.phase }, { on := 6, ground := Ground.phase }], guard := none }) rfl (fun K hK => ?_) AllReadyH.nil
                      go_simp
                      refine hK.out _ _ (kk4.to1.set1 _ _) (fun hHeld => ?_)
                      clear hK K
                      try simp only [Act.put, List.setIfInBounds_toArray, List.set_cons_zero, List.set_cons_succ]
                      refine wpAnyH_done (by kernel_rfl) ?_ _
                      go_wp2_with fail
                      go_meet
                      exact ⟨_, _, Lib.hid (App.mk2 HM.out kk4 rz4 (by have := nz1.out; have := nz2.out; have := HSZ.out; omega))⟩
                    exact AllReadyH.nil
                  exact AllReadyH.nil
                exact AllReadyH.nil
              refine AllReadyH.cons (o := { dst := some 52, op := Op.load TS (Operand.tmp 51), type := TS, pos := "law.go:56", after := #[{ on := 1, ground := Ground.data }], guard := none }) rfl (fun K hK => ?_) ?_
              · skip
                have p1 : v1.cell? ⟨w.heap.size, 1, none⟩ = some (.slice ao n cap) := cell_at ((kk1.block _ (lt_of_block HM.out) (fun e => e)).trans HM.out) 1
                go_simp
                refine hK.out _ _ kk1.to1 (fun hHeld => ?_)
                clear hK K p1
                try simp only [Act.put, List.setIfInBounds_toArray, List.set_cons_zero, List.set_cons_succ]
                refine wpAnyH_ready (rs := [0]) (by kernel_rfl) (by simp) ?_
                refine AllReadyH.cons (o := { dst := some 50, op := Op.buildSlice TS 0 #[], type := TS, pos := "law.go:56", after := #[], guard := none }) rfl (fun K hK => ?_) ?_
                · skip
                  go_simp
                  obtain ⟨v2, hv⟩ : ∃ V, V = (v1.alloc (.cells #[] TR)) := ⟨_, rfl⟩
                  rw [← hv]
                  have ks : Keep (fun _ => False) v1 v2 := by rw [hv]; exact ((Keep.refl _ _).alloc _)
                  have nz2 := Lib.hid (show v2.heap.size = v1.heap.size + 1 by rw [hv]; simp)
                  have bE2 : v2.heap[v1.heap.size]? = some (.cells #[] TR (0, 0)) := by rw [hv]; exact block_new v1 _
                  clear hv
                  have kk2 : Keep (fun _ => False) w2 v2 := kk1.trans ks
                  have sz2 := kk2.size
                  have bY2 := (ks.block _ (lt_of_block bY1) (fun e => e)).trans bY1
                  refine hK.out _ _ kk2.to1 (fun hHeld => ?_)
                  clear hK K
                  try simp only [Act.put, List.setIfInBounds_toArray, List.set_cons_zero, List.set_cons_succ]
                  refine wpAnyH_ready (rs := [3]) (by kernel_rfl) (by simp) ?_
                  refine AllReadyH.cons (o := { dst := some 53, op := Op.call { callee := Callee.builtin Builtin.append, args := #[Operand.tmp 50, Operand.tmp 52], argTypes := #[TS, TS] }, type := TS, pos := "law.go:56", after := #[{ on := 0, ground := Ground.data }, { on := 2, ground := Ground.data }], guard := none }) rfl (fun K hK => ?_) ?_
                  · skip
                    obtain ⟨g1, c1, v3, hrun1, rw3, ks, hg1⟩ := app_first bE2 (HMR.out.keep kk2 (fun _ _ e => e.elim)) HN9.out HNN.out TS
                    go_simp
                    have kk3 : Keep (fun _ => False) w2 v3 := kk2.then ks (fun q e => by have := nz1.out; have := nz2.out; have := HSZ.out; omega)
                    have sz3 := kk3.size
                    have bY3 := (ks.block _ (lt_of_block bY2) (fun e => by have := nz1.out; have := nz2.out; have := HSZ.out; omega)).trans bY2
                    clear hrun1
                    refine hK.out _ _ kk3.to1 (fun hHeld => ?_)
                    clear hK K
                    try simp only [Act.put, List.setIfInBounds_toArray, List.set_cons_zero, List.set_cons_succ]
                    refine wpAnyH_ready (rs := [6]) (by kernel_rfl) (by simp) ?_
                    refine AllReadyH.cons (o := { dst := some 56, op := Op.call { callee := Callee.builtin Builtin.append, args := #[Operand.tmp 53, Operand.tmp 55], argTypes := #[TS, TS] }, type := TS, pos := "law.go:56", after := #[{ on := 3, ground := Ground.data }, { on := 5, ground := Ground.data }, { on := 3, ground := Ground.chain }], guard := none }) rfl (fun K hK => ?_) ?_
                    · skip
                      obtain ⟨g2, c2, v4, hrun2, rz4, ks, hg2⟩ := app_second rw3 (rec0 ((base : Int) + (n : Int) + 1) num) bY3 HN9.out TS
                      go_simp
                      have kk4 : Keep (fun _ => False) w2 v4 := kk3.then ks (fun q e => by have := nz1.out; have := nz2.out; have := HSZ.out; omega)
                      have sz4 := kk4.size
                      clear hrun2
                      refine hK.out _ _ kk4.to1 (fun hHeld => ?_)
                      clear hK K
                      try simp only [Act.put, List.setIfInBounds_toArray, List.set_cons_zero, List.set_cons_succ]
                      have pm := (kk4.block _ (lt_of_block HM.out) (fun e => e)).trans HM.out
                      have p1 : v4.cell? ⟨w.heap.size, 1, none⟩ = some (.slice ao n cap) := cell_at pm 1
                      have p2 : v4.frozen? ⟨w.heap.size, 1, none⟩ = false := free_at pm 1
                      clear pm
                      refine wpAnyH_take (i := 7) (oi := { dst := some 57, op := Op.fieldAddr TM (Operand.tmp 3) 1, type := 0, pos := "law.go:56", after := #[{ on := 0, ground := Ground.phase }, { on := 1, ground := Ground.phase }, { on := 2, ground := Ground.phase }, { on := 3, ground := Ground.phase }, { on := 4, ground := Ground.phase }, { on := 5, ground := Ground.phase }, { on := 6, ground := Ground.phase }], guard := none }) (v := .pointer (some ⟨w.heap.size, 1, none⟩)) rfl (by kernel_rfl) (by kernel_rfl) (by kernel_rfl) (fun _ _ _ h => h) (Or.inl ⟨by rfl, ?_⟩) (by assumption) ?_
                      · (intro w' hSw; (try dsimp only at hSw); go_simp)
                      try simp only [Act.put, List.setIfInBounds_toArray, List.set_cons_zero, List.set_cons_succ]
                      refine wpAnyH_ready (rs := [8]) (by kernel_rfl) (by simp) ?_
                      refine AllReadyH.cons (o := { dst := none, op := Op.store TS (Operand.tmp 57) (Operand.tmp 56), type := 0, pos := "law.go:56", after := #[{ on := 7, ground := Ground.data }, { on := 6, ground := Ground.data }, { on := 6, ground := Ground.chain }, { on := 0, ground := Ground.phase }, { on := 1, ground := Ground.phase }, { on := 2, ground := Ground.phase }, { on := 3, ground := Ground.phase }, { on := 4, ground := Ground.phase }, { on := 5, ground := Ground.phase }, { on := 6, ground := Ground.phase }], guard := none }) rfl (fun K hK => ?_) AllReadyH.nil
                      go_simp
                      refine hK.out _ _ (kk4.to1.set1 _ _) (fun hHeld => ?_)
                      clear hK K
                      try simp only [Act.put, List.setIfInBounds_toArray, List.set_cons_zero, List.set_cons_succ]
                      refine wpAnyH_done (by kernel_rfl) ?_ _
                      go_wp2_with fail
                      go_meet
                      exact ⟨_, _, Lib.hid (App.mk2 HM.out kk4 rz4 (by have := nz1.out; have := nz2.out; have := HSZ.out; omega))⟩
                    exact AllReadyH.nil
                  exact AllReadyH.nil
                exact AllReadyH.nil
              exact AllReadyH.nil
            exact AllReadyH.nil
          case rest =>
            obtain ⟨g, c, hA⟩ := hcut
            have hm3 := hA.out.m
            have m0 := cell_at hm3 0
            have m1 := cell_at hm3 1
            have m2 := cell_at hm3 2
            simp at m0 m1 m2
            have hz3 := (hA.out.k.block _ (lt_of_block HZ2.out) (by omega)).trans HZ2.out
            have st := store_mod hz3 rfl (base : Int) (most : Int) (some ⟨g, 0, none⟩) (n + 1) c
            have hz4 := mod_block hz3 rfl (base : Int) (most : Int) (.slice (some ⟨g, 0, none⟩) (n + 1) c)
            have q0 := cell_at hz4 0
            have q1 := cell_at hz4 1
            have q2 := cell_at hz4 2
            simp at q0 q1 q2
            clear hz3 hz4 hm3
            go_wp2_with fail
            refine bodyPost_ret (v := .tuple #[.agg #[.int .u64 (base : Int), .slice (some ⟨g, 0, none⟩) (n + 1) c, .int .i64 (most : Int)], .bool true]) ?_ rfl ⟨base, _, rfl, Did.app HFB.out hB.out.k HL2.out HF2.out K2.out hA.out (lt_of_block hB.out.z) hBw HNN.out (by omega) (by omega) (by have := HNR.out; omega) _⟩
            simp [results, Try.results15, go_sem, q0, q1, q2]
        · have hfull : n = most := by omega
          obtain ⟨b2, hb2⟩ : ∃ b2, b2 = base + 1 := ⟨_, rfl⟩
          have C1 := slide_full HL1.out (rec0 ((base : Int) + (n : Int) + 1) num) (by omega) (by rw [← HNR.out]; exact hfull) hm1 hm (by rw [← HNR.out]; rfl)
          rw [← hb2] at C1
          replace C1 := Lib.hid C1
          have C2 := cut_m base most rs ((base : Int) + 1) F B (.slice ao n cap) w
          have hg1 : gone base ((base : Int) + 1) rs.length = 1 := by unfold gone; have := HNR.out; omega
          rw [hg1, ← hb2] at C2
          replace C2 := Lib.hid (fun W => C2 W HR.out (by omega) hrl (by omega) (by omega))
          have HB2 := Lib.hid hb2
          have hb2' : IntKind.u64.wrap ((base : Int) + 1) = (base : Int) + 1 := IntWalk.u64_in _ (by omega)
          have HFULL := Lib.hid hfull
          clear hfull
          have hmn : most ≤ n := by omega
          clear hroom
          unfold mod at C2
          clear hb2 hg1
          unfold Rec.agg Rec.cells rec0 at C1
          go_upto_region 11 with (go_at_call 12; refine C1.out.mono ?_; clear C1; rintro e w2 ⟨rfl, F2, l2, f2, k2⟩
                                  have hmB := (k2.block _ (lt_of_block hB.out.m) (HBIG.out _ (Nat.le_refl _))).trans hB.out.m
                                  have p0 := cell_at hmB 0
                                  have p1 := cell_at hmB 1
                                  have p2 := cell_at hmB 2
                                  simp at p0 p1 p2
                                  have HL2 := Lib.hid l2
                                  have HF2 := Lib.hid f2
                                  have K2 := Lib.hid k2
                                  have HM2 := Lib.hid hmB
                                  clear l2 f2 k2 hmB)
          clear x0 x1 x2 x3 x4 x5 x6 x7 x8 u0 u1
          go_upto_region 12 with (go_at_call 20; refine (C2.out _).mono ?_; clear C2; rintro e w3 ⟨v3, rfl, r3, k3⟩
                                  obtain ⟨a3, n3, c3, hv3, hn3⟩ := mrow_form r3
                                  subst hv3
                                  have HNN := Lib.hid hn3
                                  have hm3 := (k3.block _ (lt_of_block HM2.out) (fun e => e)).trans HM2.out
                                  have st := store_mod hm3 rfl (b2 : Int) (most : Int) a3 n3 c3
                                  have HM := Lib.hid (mod_block hm3 rfl (b2 : Int) (most : Int) (.slice a3 n3 c3))
                                  have R3 := Lib.hid r3
                                  have K3 := Lib.hid k3
                                  clear r3 k3 hm3 hn3)
          obtain ⟨w4, hw4⟩ : ∃ w4, w4 = w3.setCells w.heap.size 0 [.int .u64 (b2 : Int), .slice a3 n3 c3, .int .i64 (most : Int)] := ⟨_, rfl⟩
          rw [← hw4]
          have hM4 := HM.out
          rw [← hw4] at hM4
          clear HM
          have HM := Lib.hid hM4
          clear hM4
          have k24 : Keep (fun j => j = w.heap.size) w2 w4 := by rw [hw4]; exact K3.out.toAny.trans (Keep.setCells (S := fun j => j = w.heap.size) (.inl rfl) _ _ _ (Keep.refl _ _))
          have K24 := Lib.hid k24
          have HMR := Lib.hid (MRow.move (W' := w4) R3.out ((hB.out.k.toAny.trans K2.out).trans' k24 (fun i hi e => by omega)) (fun i f => (HF2.out i f).imp id (fun e => Nat.le_trans hB.out.k.size e)))
          have hdl : (rs.drop 1).length = n - 1 := by rw [List.length_drop, ← HNR.out]
          have HN9 := Lib.hid (show n3 ≤ 256 by have := HNN.out; omega)
          have HN3 := Lib.hid (show n3 + 1 = n by have := HNN.out; omega)
          have HSZ := Lib.hid (show w.heap.size + 1 + 1 < w4.heap.size by have := K2.out.size; have := k24.size; have := lt_of_block hB.out.z; omega)
          have HZ2 := Lib.hid ((k24.block _ (Nat.lt_of_lt_of_le (lt_of_block hB.out.z) K2.out.size) (by omega)).trans ((K2.out.block _ (lt_of_block hB.out.z) (HBIG.out _ (by omega))).trans hB.out.z))
          have HSX := Lib.hid (fun W kw => Beg.xs (HBIG.out) hB.out K2.out W (K24.out.trans kw))
          clear hw4 k24 hdl
          go_cut [] (fun W' => ∃ g c, Hid (App w4 W' w.heap.size b2 most (n3 + 1) (rs.drop 1 ++ [rec0 ((base : Int) + (n : Int) + 1) num]) g c))
          case first =>
            clear p0 p1 p2 st
            refine wp_region_held_drew (S := (fun w' => Keep (fun j => j = w.heap.size) w4 w')) (by kernel_rfl) ?_ (fun hHeld => ?_)
            · exact (Keep.refl (fun j => j = w.heap.size) w4).drew
            refine wpAnyH_take (i := 1) (oi := { dst := some 51, op := Op.fieldAddr TM (Operand.tmp 3) 1, type := 0, pos := "law.go:56", after := #[], guard := none }) (v := .pointer (some ⟨w.heap.size, 1, none⟩)) rfl (by kernel_rfl) (by kernel_rfl) (by kernel_rfl) (fun _ _ _ h => h) (Or.inl ⟨by rfl, ?_⟩) (by assumption) ?_
            · (intro w' hSw; (try dsimp only at hSw); go_simp)
            try simp only [Act.put, List.setIfInBounds_toArray, List.set_cons_zero, List.set_cons_succ]
            refine wpAnyH_take (i := 4) (oi := { dst := some 54, op := Op.load TR (Operand.tmp 8), type := TR, pos := "law.go:56", after := #[], guard := none }) (v := .agg #[.int .u64 ((base : Int) + (n : Int) + 1), .int .u64 0, .int .u64 0, .int .u64 num, .int .i64 0, .string ⟨#[]⟩, .string ⟨#[]⟩, .int .u64 0, .int .u64 0]) rfl (by kernel_rfl) (by kernel_rfl) (by kernel_rfl) (fun _ _ _ h => h) (Or.inl ⟨by rfl, ?_⟩) (by assumption) ?_
            · (intro w' hSw; (try dsimp only at hSw); obtain ⟨x0, x1, x2, x3, x4, x5, x6, x7, x8⟩ := HSX.out w' hSw; go_simp)
            try simp only [Act.put, List.setIfInBounds_toArray, List.set_cons_zero, List.set_cons_succ]
            have kk0 : Keep (fun _ => False) w4 w4.drew := (Keep.refl _ _).drew
            refine wpAnyH_ready (rs := [0, 2, 5]) (by kernel_rfl) (by simp) ?_
            refine AllReadyH.cons (o := { dst := some 50, op := Op.buildSlice TS 0 #[], type := TS, pos := "law.go:56", after := #[], guard := none }) rfl (fun K hK => ?_) ?_
            · skip
              go_simp
              obtain ⟨v1, hv⟩ : ∃ V, V = (w4.alloc (.cells #[] TR)).drew := ⟨_, rfl⟩
              rw [← hv]
              have ks : Keep (fun _ => False) w4 v1 := by rw [hv]; exact ((Keep.refl _ _).alloc _).drew
              have nz1 := Lib.hid (show v1.heap.size = w4.heap.size + 1 by rw [hv]; simp)
              have bE1 : v1.heap[w4.heap.size]? = some (.cells #[] TR (0, 0)) := by rw [hv]; exact block_drew (block_new w4 _)
              clear hv
              have kk1 : Keep (fun _ => False) w4 v1 := ks
              have sz1 := kk1.size
              refine hK.out _ _ kk1.to1 (fun hHeld => ?_)
              clear hK K
              try simp only [Act.put, List.setIfInBounds_toArray, List.set_cons_zero, List.set_cons_succ]
              refine wpAnyH_ready (rs := [2, 5]) (by kernel_rfl) (by simp) ?_
              refine AllReadyH.cons (o := { dst := some 52, op := Op.load TS (Operand.tmp 51), type := TS, pos := "law.go:56", after := #[{ on := 1, ground := Ground.data }], guard := none }) rfl (fun K hK => ?_) ?_
              · skip
                have p1 : v1.cell? ⟨w.heap.size, 1, none⟩ = some (.slice a3 n3 c3) := cell_at ((kk1.block _ (lt_of_block HM.out) (fun e => e)).trans HM.out) 1
                go_simp
                refine hK.out _ _ kk1.to1 (fun hHeld => ?_)
                clear hK K p1
                try simp only [Act.put, List.setIfInBounds_toArray, List.set_cons_zero, List.set_cons_succ]
                refine wpAnyH_ready (rs := [3, 5]) (by kernel_rfl) (by simp) ?_
                refine AllReadyH.cons (o := { dst := some 53, op := Op.call { callee := Callee.builtin Builtin.append, args := #[Operand.tmp 50, Operand.tmp 52], argTypes := #[TS, TS] }, type := TS, pos := "law.go:56", after := #[{ on := 0, ground := Ground.data }, { on := 2, ground := Ground.data }], guard := none }) rfl (fun K hK => ?_) ?_
                · skip
                  obtain ⟨g1, c1, v2, hrun1, rw2, ks, hg1⟩ := app_first bE1 (HMR.out.keep kk1 (fun _ _ e => e.elim)) HN9.out HNN.out TS
                  go_simp
                  have kk2 : Keep (fun _ => False) w4 v2 := kk1.then ks (fun q e => by have := nz1.out; have := HSZ.out; omega)
                  have sz2 := kk2.size
                  clear hrun1
                  refine hK.out _ _ kk2.to1 (fun hHeld => ?_)
                  clear hK K
                  try simp only [Act.put, List.setIfInBounds_toArray, List.set_cons_zero, List.set_cons_succ]
                  refine wpAnyH_ready (rs := [5]) (by kernel_rfl) (by simp) ?_
                  refine AllReadyH.cons (o := { dst := some 55, op := Op.buildSlice TS 1 #[(0, Operand.tmp 54)], type := TS, pos := "law.go:56", after := #[{ on := 4, ground := Ground.data }], guard := none }) rfl (fun K hK => ?_) ?_
                  · skip
                    go_simp
                    obtain ⟨v3, hv⟩ : ∃ V, V = (v2.alloc (.cells #[.int .u64 ((base : Int) + (n : Int) + 1), .int .u64 0, .int .u64 0, .int .u64 num, .int .i64 0, .string ⟨#[]⟩, .string ⟨#[]⟩, .int .u64 0, .int .u64 0] TR)) := ⟨_, rfl⟩
                    rw [← hv]
                    have ks : Keep (fun _ => False) v2 v3 := by rw [hv]; exact ((Keep.refl _ _).alloc _)
                    have nz3 := Lib.hid (show v3.heap.size = v2.heap.size + 1 by rw [hv]; simp)
                    have bY3 : v3.heap[v2.heap.size]? = some (.cells (rec0 ((base : Int) + (n : Int) + 1) num).cells.toArray TR (0, 0)) := by rw [hv]; exact block_new v2 _
                    clear hv
                    have kk3 : Keep (fun _ => False) w4 v3 := kk2.trans ks
                    have sz3 := kk3.size
                    have rw3 := owns_keep rw2 ks (fun _ _ e => e)
                    refine hK.out _ _ kk3.to1 (fun hHeld => ?_)
                    clear hK K
                    try simp only [Act.put, List.setIfInBounds_toArray, List.set_cons_zero, List.set_cons_succ]
                    refine wpAnyH_ready (rs := [6]) (by kernel_rfl) (by simp) ?_
                    refine AllReadyH.cons (o := { dst := some 56, op := Op.call { callee := Callee.builtin Builtin.append, args := #[Operand.tmp 53, Operand.tmp 55], argTypes := #[TS, TS] }, type := TS, pos := "law.go:56", after := #[{ on := 3, ground := Ground.data }, { on := 5, ground := Ground.data }, { on := 3, ground := Ground.chain }], guard := none }) rfl (fun K hK => ?_) ?_
                    · skip
                      obtain ⟨g2, c2, v4, hrun2, rz4, ks, hg2⟩ := app_second rw3 (rec0 ((base : Int) + (n : Int) + 1) num) bY3 HN9.out TS
                      go_simp
                      have kk4 : Keep (fun _ => False) w4 v4 := kk3.then ks (fun q e => by have := nz1.out; have := nz3.out; have := HSZ.out; omega)
                      have sz4 := kk4.size
                      clear hrun2
                      refine hK.out _ _ kk4.to1 (fun hHeld => ?_)
                      clear hK K
                      try simp only [Act.put, List.setIfInBounds_toArray, List.set_cons_zero, List.set_cons_succ]
                      have pm := (kk4.block _ (lt_of_block HM.out) (fun e => e)).trans HM.out
                      have p1 : v4.cell? ⟨w.heap.size, 1, none⟩ = some (.slice a3 n3 c3) := cell_at pm 1
                      have p2 : v4.frozen? ⟨w.heap.size, 1, none⟩ = false := free_at pm 1
                      clear pm
                      refine wpAnyH_take (i := 7) (oi := { dst := some 57, op := Op.fieldAddr TM (Operand.tmp 3) 1, type := 0, pos := "law.go:56", after := #[{ on := 0, ground := Ground.phase }, { on := 1, ground := Ground.phase }, { on := 2, ground := Ground.phase }, { on := 3, ground := Ground.phase }, { on := 4, ground := Ground.phase }, { on := 5, ground := Ground.phase }, { on := 6, ground := Ground.phase }], guard := none }) (v := .pointer (some ⟨w.heap.size, 1, none⟩)) rfl (by kernel_rfl) (by kernel_rfl) (by kernel_rfl) (fun _ _ _ h => h) (Or.inl ⟨by rfl, ?_⟩) (by assumption) ?_
                      · (intro w' hSw; (try dsimp only at hSw); go_simp)
                      try simp only [Act.put, List.setIfInBounds_toArray, List.set_cons_zero, List.set_cons_succ]
                      refine wpAnyH_ready (rs := [8]) (by kernel_rfl) (by simp) ?_
                      refine AllReadyH.cons (o := { dst := none, op := Op.store TS (Operand.tmp 57) (Operand.tmp 56), type := 0, pos := "law.go:56", after := #[{ on := 7, ground := Ground.data }, { on := 6, ground := Ground.data }, { on := 6, ground := Ground.chain }, { on := 0, ground := Ground.phase }, { on := 1, ground := Ground.phase }, { on := 2, ground := Ground.phase }, { on := 3, ground := Ground.phase }, { on := 4, ground := Ground.phase }, { on := 5, ground := Ground.phase }, { on := 6, ground := Ground.phase }], guard := none }) rfl (fun K hK => ?_) AllReadyH.nil
                      go_simp
                      refine hK.out _ _ (kk4.to1.set1 _ _) (fun hHeld => ?_)
                      clear hK K
                      try simp only [Act.put, List.setIfInBounds_toArray, List.set_cons_zero, List.set_cons_succ]
                      refine wpAnyH_done (by kernel_rfl) ?_ _
                      go_wp2_with fail
                      go_meet
                      exact ⟨_, _, Lib.hid (App.mk2 HM.out kk4 rz4 (by have := nz1.out; have := nz3.out; have := HSZ.out; omega))⟩
                    exact AllReadyH.nil
                  exact AllReadyH.nil
                refine AllReadyH.cons (o := { dst := some 55, op := Op.buildSlice TS 1 #[(0, Operand.tmp 54)], type := TS, pos := "law.go:56", after := #[{ on := 4, ground := Ground.data }], guard := none }) rfl (fun K hK => ?_) ?_
                · skip
                  go_simp
                  obtain ⟨v2, hv⟩ : ∃ V, V = (v1.alloc (.cells #[.int .u64 ((base : Int) + (n : Int) + 1), .int .u64 0, .int .u64 0, .int .u64 num, .int .i64 0, .string ⟨#[]⟩, .string ⟨#[]⟩, .int .u64 0, .int .u64 0] TR)) := ⟨_, rfl⟩
                  rw [← hv]
                  have ks : Keep (fun _ => False) v1 v2 := by rw [hv]; exact ((Keep.refl _ _).alloc _)
                  have nz2 := Lib.hid (show v2.heap.size = v1.heap.size + 1 by rw [hv]; simp)
                  have bY2 : v2.heap[v1.heap.size]? = some (.cells (rec0 ((base : Int) + (n : Int) + 1) num).cells.toArray TR (0, 0)) := by rw [hv]; exact block_new v1 _
                  clear hv
                  have kk2 : Keep (fun _ => False) w4 v2 := kk1.trans ks
                  have sz2 := kk2.size
                  have bE2 := (ks.block _ (lt_of_block bE1) (fun e => e)).trans bE1
                  refine hK.out _ _ kk2.to1 (fun hHeld => ?_)
                  clear hK K
                  try simp only [Act.put, List.setIfInBounds_toArray, List.set_cons_zero, List.set_cons_succ]
                  refine wpAnyH_ready (rs := [3]) (by kernel_rfl) (by simp) ?_
                  refine AllReadyH.cons (o := { dst := some 53, op := Op.call { callee := Callee.builtin Builtin.append, args := #[Operand.tmp 50, Operand.tmp 52], argTypes := #[TS, TS] }, type := TS, pos := "law.go:56", after := #[{ on := 0, ground := Ground.data }, { on := 2, ground := Ground.data }], guard := none }) rfl (fun K hK => ?_) ?_
                  · skip
                    obtain ⟨g1, c1, v3, hrun1, rw3, ks, hg1⟩ := app_first bE2 (HMR.out.keep kk2 (fun _ _ e => e.elim)) HN9.out HNN.out TS
                    go_simp
                    have kk3 : Keep (fun _ => False) w4 v3 := kk2.then ks (fun q e => by have := nz1.out; have := nz2.out; have := HSZ.out; omega)
                    have sz3 := kk3.size
                    have bY3 := (ks.block _ (lt_of_block bY2) (fun e => by have := nz1.out; have := nz2.out; have := HSZ.out; omega)).trans bY2
                    clear hrun1
                    refine hK.out _ _ kk3.to1 (fun hHeld => ?_)
                    clear hK K
                    try simp only [Act.put, List.setIfInBounds_toArray, List.set_cons_zero, List.set_cons_succ]
                    refine wpAnyH_ready (rs := [6]) (by kernel_rfl) (by simp) ?_
                    refine AllReadyH.cons (o := { dst := some 56, op := Op.call { callee := Callee.builtin Builtin.append, args := #[Operand.tmp 53, Operand.tmp 55], argTypes := #[TS, TS] }, type := TS, pos := "law.go:56", after := #[{ on := 3, ground := Ground.data }, { on := 5, ground := Ground.data }, { on := 3, ground := Ground.chain }], guard := none }) rfl (fun K hK => ?_) ?_
                    · skip
                      obtain ⟨g2, c2, v4, hrun2, rz4, ks, hg2⟩ := app_second rw3 (rec0 ((base : Int) + (n : Int) + 1) num) bY3 HN9.out TS
                      go_simp
                      have kk4 : Keep (fun _ => False) w4 v4 := kk3.then ks (fun q e => by have := nz1.out; have := nz2.out; have := HSZ.out; omega)
                      have sz4 := kk4.size
                      clear hrun2
                      refine hK.out _ _ kk4.to1 (fun hHeld => ?_)
                      clear hK K
                      try simp only [Act.put, List.setIfInBounds_toArray, List.set_cons_zero, List.set_cons_succ]
                      have pm := (kk4.block _ (lt_of_block HM.out) (fun e => e)).trans HM.out
                      have p1 : v4.cell? ⟨w.heap.size, 1, none⟩ = some (.slice a3 n3 c3) := cell_at pm 1
                      have p2 : v4.frozen? ⟨w.heap.size, 1, none⟩ = false := free_at pm 1
                      clear pm
                      refine wpAnyH_take (i := 7) (oi := { dst := some 57, op := Op.fieldAddr TM (Operand.tmp 3) 1, type := 0, pos := "law.go:56", after := #[{ on := 0, ground := Ground.phase }, { on := 1, ground := Ground.phase }, { on := 2, ground := Ground.phase }, { on := 3, ground := Ground.phase }, { on := 4, ground := Ground.phase }, { on := 5, ground := Ground.phase }, { on := 6, ground := Ground.phase }], guard := none }) (v := .pointer (some ⟨w.heap.size, 1, none⟩)) rfl (by kernel_rfl) (by kernel_rfl) (by kernel_rfl) (fun _ _ _ h => h) (Or.inl ⟨by rfl, ?_⟩) (by assumption) ?_
                      · (intro w' hSw; (try dsimp only at hSw); go_simp)
                      try simp only [Act.put, List.setIfInBounds_toArray, List.set_cons_zero, List.set_cons_succ]
                      refine wpAnyH_ready (rs := [8]) (by kernel_rfl) (by simp) ?_
                      refine AllReadyH.cons (o := { dst := none, op := Op.store TS (Operand.tmp 57) (Operand.tmp 56), type := 0, pos := "law.go:56", after := #[{ on := 7, ground := Ground.data }, { on := 6, ground := Ground.data }, { on := 6, ground := Ground.chain }, { on := 0, ground := Ground.phase }, { on := 1, ground := Ground.phase }, { on := 2, ground := Ground.phase }, { on := 3, ground := Ground.phase }, { on := 4, ground := Ground.phase }, { on := 5, ground := Ground.phase }, { on := 6, ground := Ground.phase }], guard := none }) rfl (fun K hK => ?_) AllReadyH.nil
                      go_simp
                      refine hK.out _ _ (kk4.to1.set1 _ _) (fun hHeld => ?_)
                      clear hK K
                      try simp only [Act.put, List.setIfInBounds_toArray, List.set_cons_zero, List.set_cons_succ]
                      refine wpAnyH_done (by kernel_rfl) ?_ _
                      go_wp2_with fail
                      go_meet
                      exact ⟨_, _, Lib.hid (App.mk2 HM.out kk4 rz4 (by have := nz1.out; have := nz2.out; have := HSZ.out; omega))⟩
                    exact AllReadyH.nil
                  exact AllReadyH.nil
                exact AllReadyH.nil
              refine AllReadyH.cons (o := { dst := some 55, op := Op.buildSlice TS 1 #[(0, Operand.tmp 54)], type := TS, pos := "law.go:56", after := #[{ on := 4, ground := Ground.data }], guard := none }) rfl (fun K hK => ?_) ?_
              · skip
                go_simp
                obtain ⟨v2, hv⟩ : ∃ V, V = (v1.alloc (.cells #[.int .u64 ((base : Int) + (n : Int) + 1), .int .u64 0, .int .u64 0, .int .u64 num, .int .i64 0, .string ⟨#[]⟩, .string ⟨#[]⟩, .int .u64 0, .int .u64 0] TR)) := ⟨_, rfl⟩
                rw [← hv]
                have ks : Keep (fun _ => False) v1 v2 := by rw [hv]; exact ((Keep.refl _ _).alloc _)
                have nz2 := Lib.hid (show v2.heap.size = v1.heap.size + 1 by rw [hv]; simp)
                have bY2 : v2.heap[v1.heap.size]? = some (.cells (rec0 ((base : Int) + (n : Int) + 1) num).cells.toArray TR (0, 0)) := by rw [hv]; exact block_new v1 _
                clear hv
                have kk2 : Keep (fun _ => False) w4 v2 := kk1.trans ks
                have sz2 := kk2.size
                have bE2 := (ks.block _ (lt_of_block bE1) (fun e => e)).trans bE1
                refine hK.out _ _ kk2.to1 (fun hHeld => ?_)
                clear hK K
                try simp only [Act.put, List.setIfInBounds_toArray, List.set_cons_zero, List.set_cons_succ]
                refine wpAnyH_ready (rs := [2]) (by kernel_rfl) (by simp) ?_
                refine AllReadyH.cons (o := { dst := some 52, op := Op.load TS (Operand.tmp 51), type := TS, pos := "law.go:56", after := #[{ on := 1, ground := Ground.data }], guard := none }) rfl (fun K hK => ?_) ?_
                · skip
                  have p1 : v2.cell? ⟨w.heap.size, 1, none⟩ = some (.slice a3 n3 c3) := cell_at ((kk2.block _ (lt_of_block HM.out) (fun e => e)).trans HM.out) 1
                  go_simp
                  refine hK.out _ _ kk2.to1 (fun hHeld => ?_)
                  clear hK K p1
                  try simp only [Act.put, List.setIfInBounds_toArray, List.set_cons_zero, List.set_cons_succ]
                  refine wpAnyH_ready (rs := [3]) (by kernel_rfl) (by simp) ?_
                  refine AllReadyH.cons (o := { dst := some 53, op := Op.call { callee := Callee.builtin Builtin.append, args := #[Operand.tmp 50, Operand.tmp 52], argTypes := #[TS, TS] }, type := TS, pos := "law.go:56", after := #[{ on := 0, ground := Ground.data }, { on := 2, ground := Ground.data }], guard := none }) rfl (fun K hK => ?_) ?_
                  · skip
                    obtain ⟨g1, c1, v3, hrun1, rw3, ks, hg1⟩ := app_first bE2 (HMR.out.keep kk2 (fun _ _ e => e.elim)) HN9.out HNN.out TS
                    go_simp
                    have kk3 : Keep (fun _ => False) w4 v3 := kk2.then ks (fun q e => by have := nz1.out; have := nz2.out; have := HSZ.out; omega)
                    have sz3 := kk3.size
                    have bY3 := (ks.block _ (lt_of_block bY2) (fun e => by have := nz1.out; have := nz2.out; have := HSZ.out; omega)).trans bY2
                    clear hrun1
                    refine hK.out _ _ kk3.to1 (fun hHeld => ?_)
                    clear hK K
                    try simp only [Act.put, List.setIfInBounds_toArray, List.set_cons_zero, List.set_cons_succ]
                    refine wpAnyH_ready (rs := [6]) (by kernel_rfl) (by simp) ?_
                    refine AllReadyH.cons (o := { dst := some 56, op := Op.call { callee := Callee.builtin Builtin.append, args := #[Operand.tmp 53, Operand.tmp 55], argTypes := #[TS, TS] }, type := TS, pos := "law.go:56", after := #[{ on := 3, ground := Ground.data }, { on := 5, ground := Ground.data }, { on := 3, ground := Ground.chain }], guard := none }) rfl (fun K hK => ?_) ?_
                    · skip
                      obtain ⟨g2, c2, v4, hrun2, rz4, ks, hg2⟩ := app_second rw3 (rec0 ((base : Int) + (n : Int) + 1) num) bY3 HN9.out TS
                      go_simp
                      have kk4 : Keep (fun _ => False) w4 v4 := kk3.then ks (fun q e => by have := nz1.out; have := nz2.out; have := HSZ.out; omega)
                      have sz4 := kk4.size
                      clear hrun2
                      refine hK.out _ _ kk4.to1 (fun hHeld => ?_)
                      clear hK K
                      try simp only [Act.put, List.setIfInBounds_toArray, List.set_cons_zero, List.set_cons_succ]
                      have pm := (kk4.block _ (lt_of_block HM.out) (fun e => e)).trans HM.out
                      have p1 : v4.cell? ⟨w.heap.size, 1, none⟩ = some (.slice a3 n3 c3) := cell_at pm 1
                      have p2 : v4.frozen? ⟨w.heap.size, 1, none⟩ = false := free_at pm 1
                      clear pm
                      refine wpAnyH_take (i := 7) (oi := { dst := some 57, op := Op.fieldAddr TM (Operand.tmp 3) 1, type := 0, pos := "law.go:56", after := #[{ on := 0, ground := Ground.phase }, { on := 1, ground := Ground.phase }, { on := 2, ground := Ground.phase }, { on := 3, ground := Ground.phase }, { on := 4, ground := Ground.phase }, { on := 5, ground := Ground.phase }, { on := 6, ground := Ground.phase }], guard := none }) (v := .pointer (some ⟨w.heap.size, 1, none⟩)) rfl (by kernel_rfl) (by kernel_rfl) (by kernel_rfl) (fun _ _ _ h => h) (Or.inl ⟨by rfl, ?_⟩) (by assumption) ?_
                      · (intro w' hSw; (try dsimp only at hSw); go_simp)
                      try simp only [Act.put, List.setIfInBounds_toArray, List.set_cons_zero, List.set_cons_succ]
                      refine wpAnyH_ready (rs := [8]) (by kernel_rfl) (by simp) ?_
                      refine AllReadyH.cons (o := { dst := none, op := Op.store TS (Operand.tmp 57) (Operand.tmp 56), type := 0, pos := "law.go:56", after := #[{ on := 7, ground := Ground.data }, { on := 6, ground := Ground.data }, { on := 6, ground := Ground.chain }, { on := 0, ground := Ground.phase }, { on := 1, ground := Ground.phase }, { on := 2, ground := Ground.phase }, { on := 3, ground := Ground.phase }, { on := 4, ground := Ground.phase }, { on := 5, ground := Ground.phase }, { on := 6, ground := Ground.phase }], guard := none }) rfl (fun K hK => ?_) AllReadyH.nil
                      go_simp
                      refine hK.out _ _ (kk4.to1.set1 _ _) (fun hHeld => ?_)
                      clear hK K
                      try simp only [Act.put, List.setIfInBounds_toArray, List.set_cons_zero, List.set_cons_succ]
                      refine wpAnyH_done (by kernel_rfl) ?_ _
                      go_wp2_with fail
                      go_meet
                      exact ⟨_, _, Lib.hid (App.mk2 HM.out kk4 rz4 (by have := nz1.out; have := nz2.out; have := HSZ.out; omega))⟩
                    exact AllReadyH.nil
                  exact AllReadyH.nil
                exact AllReadyH.nil
              exact AllReadyH.nil
            refine AllReadyH.cons (o := { dst := some 52, op := Op.load TS (Operand.tmp 51), type := TS, pos := "law.go:56", after := #[{ on := 1, ground := Ground.data }], guard := none }) rfl (fun K hK => ?_) ?_
            · skip
              have p1 : w4.cell? ⟨w.heap.size, 1, none⟩ = some (.slice a3 n3 c3) := cell_at ((kk0.block _ (lt_of_block HM.out) (fun e => e)).trans HM.out) 1
              go_simp
              refine hK.out _ _ kk0.to1 (fun hHeld => ?_)
              clear hK K p1
              try simp only [Act.put, List.setIfInBounds_toArray, List.set_cons_zero, List.set_cons_succ]
              refine wpAnyH_ready (rs := [0, 5]) (by kernel_rfl) (by simp) ?_
              refine AllReadyH.cons (o := { dst := some 50, op := Op.buildSlice TS 0 #[], type := TS, pos := "law.go:56", after := #[], guard := none }) rfl (fun K hK => ?_) ?_
              · skip
                go_simp
                obtain ⟨v1, hv⟩ : ∃ V, V = (w4.alloc (.cells #[] TR)).drew := ⟨_, rfl⟩
                rw [← hv]
                have ks : Keep (fun _ => False) w4 v1 := by rw [hv]; exact ((Keep.refl _ _).alloc _).drew
                have nz1 := Lib.hid (show v1.heap.size = w4.heap.size + 1 by rw [hv]; simp)
                have bE1 : v1.heap[w4.heap.size]? = some (.cells #[] TR (0, 0)) := by rw [hv]; exact block_drew (block_new w4 _)
                clear hv
                have kk1 : Keep (fun _ => False) w4 v1 := ks
                have sz1 := kk1.size
                refine hK.out _ _ kk1.to1 (fun hHeld => ?_)
                clear hK K
                try simp only [Act.put, List.setIfInBounds_toArray, List.set_cons_zero, List.set_cons_succ]
                refine wpAnyH_ready (rs := [3, 5]) (by kernel_rfl) (by simp) ?_
                refine AllReadyH.cons (o := { dst := some 53, op := Op.call { callee := Callee.builtin Builtin.append, args := #[Operand.tmp 50, Operand.tmp 52], argTypes := #[TS, TS] }, type := TS, pos := "law.go:56", after := #[{ on := 0, ground := Ground.data }, { on := 2, ground := Ground.data }], guard := none }) rfl (fun K hK => ?_) ?_
                · skip
                  obtain ⟨g1, c1, v2, hrun1, rw2, ks, hg1⟩ := app_first bE1 (HMR.out.keep kk1 (fun _ _ e => e.elim)) HN9.out HNN.out TS
                  go_simp
                  have kk2 : Keep (fun _ => False) w4 v2 := kk1.then ks (fun q e => by have := nz1.out; have := HSZ.out; omega)
                  have sz2 := kk2.size
                  clear hrun1
                  refine hK.out _ _ kk2.to1 (fun hHeld => ?_)
                  clear hK K
                  try simp only [Act.put, List.setIfInBounds_toArray, List.set_cons_zero, List.set_cons_succ]
                  refine wpAnyH_ready (rs := [5]) (by kernel_rfl) (by simp) ?_
                  refine AllReadyH.cons (o := { dst := some 55, op := Op.buildSlice TS 1 #[(0, Operand.tmp 54)], type := TS, pos := "law.go:56", after := #[{ on := 4, ground := Ground.data }], guard := none }) rfl (fun K hK => ?_) ?_
                  · skip
                    go_simp
                    obtain ⟨v3, hv⟩ : ∃ V, V = (v2.alloc (.cells #[.int .u64 ((base : Int) + (n : Int) + 1), .int .u64 0, .int .u64 0, .int .u64 num, .int .i64 0, .string ⟨#[]⟩, .string ⟨#[]⟩, .int .u64 0, .int .u64 0] TR)) := ⟨_, rfl⟩
                    rw [← hv]
                    have ks : Keep (fun _ => False) v2 v3 := by rw [hv]; exact ((Keep.refl _ _).alloc _)
                    have nz3 := Lib.hid (show v3.heap.size = v2.heap.size + 1 by rw [hv]; simp)
                    have bY3 : v3.heap[v2.heap.size]? = some (.cells (rec0 ((base : Int) + (n : Int) + 1) num).cells.toArray TR (0, 0)) := by rw [hv]; exact block_new v2 _
                    clear hv
                    have kk3 : Keep (fun _ => False) w4 v3 := kk2.trans ks
                    have sz3 := kk3.size
                    have rw3 := owns_keep rw2 ks (fun _ _ e => e)
                    refine hK.out _ _ kk3.to1 (fun hHeld => ?_)
                    clear hK K
                    try simp only [Act.put, List.setIfInBounds_toArray, List.set_cons_zero, List.set_cons_succ]
                    refine wpAnyH_ready (rs := [6]) (by kernel_rfl) (by simp) ?_
                    refine AllReadyH.cons (o := { dst := some 56, op := Op.call { callee := Callee.builtin Builtin.append, args := #[Operand.tmp 53, Operand.tmp 55], argTypes := #[TS, TS] }, type := TS, pos := "law.go:56", after := #[{ on := 3, ground := Ground.data }, { on := 5, ground := Ground.data }, { on := 3, ground := Ground.chain }], guard := none }) rfl (fun K hK => ?_) ?_
                    · skip
                      obtain ⟨g2, c2, v4, hrun2, rz4, ks, hg2⟩ := app_second rw3 (rec0 ((base : Int) + (n : Int) + 1) num) bY3 HN9.out TS
                      go_simp
                      have kk4 : Keep (fun _ => False) w4 v4 := kk3.then ks (fun q e => by have := nz1.out; have := nz3.out; have := HSZ.out; omega)
                      have sz4 := kk4.size
                      clear hrun2
                      refine hK.out _ _ kk4.to1 (fun hHeld => ?_)
                      clear hK K
                      try simp only [Act.put, List.setIfInBounds_toArray, List.set_cons_zero, List.set_cons_succ]
                      have pm := (kk4.block _ (lt_of_block HM.out) (fun e => e)).trans HM.out
                      have p1 : v4.cell? ⟨w.heap.size, 1, none⟩ = some (.slice a3 n3 c3) := cell_at pm 1
                      have p2 : v4.frozen? ⟨w.heap.size, 1, none⟩ = false := free_at pm 1
                      clear pm
                      refine wpAnyH_take (i := 7) (oi := { dst := some 57, op := Op.fieldAddr TM (Operand.tmp 3) 1, type := 0, pos := "law.go:56", after := #[{ on := 0, ground := Ground.phase }, { on := 1, ground := Ground.phase }, { on := 2, ground := Ground.phase }, { on := 3, ground := Ground.phase }, { on := 4, ground := Ground.phase }, { on := 5, ground := Ground.phase }, { on := 6, ground := Ground.phase }], guard := none }) (v := .pointer (some ⟨w.heap.size, 1, none⟩)) rfl (by kernel_rfl) (by kernel_rfl) (by kernel_rfl) (fun _ _ _ h => h) (Or.inl ⟨by rfl, ?_⟩) (by assumption) ?_
                      · (intro w' hSw; (try dsimp only at hSw); go_simp)
                      try simp only [Act.put, List.setIfInBounds_toArray, List.set_cons_zero, List.set_cons_succ]
                      refine wpAnyH_ready (rs := [8]) (by kernel_rfl) (by simp) ?_
                      refine AllReadyH.cons (o := { dst := none, op := Op.store TS (Operand.tmp 57) (Operand.tmp 56), type := 0, pos := "law.go:56", after := #[{ on := 7, ground := Ground.data }, { on := 6, ground := Ground.data }, { on := 6, ground := Ground.chain }, { on := 0, ground := Ground.phase }, { on := 1, ground := Ground.phase }, { on := 2, ground := Ground.phase }, { on := 3, ground := Ground.phase }, { on := 4, ground := Ground.phase }, { on := 5, ground := Ground.phase }, { on := 6, ground := Ground.phase }], guard := none }) rfl (fun K hK => ?_) AllReadyH.nil
                      go_simp
                      refine hK.out _ _ (kk4.to1.set1 _ _) (fun hHeld => ?_)
                      clear hK K
                      try simp only [Act.put, List.setIfInBounds_toArray, List.set_cons_zero, List.set_cons_succ]
                      refine wpAnyH_done (by kernel_rfl) ?_ _
                      go_wp2_with fail
                      go_meet
                      exact ⟨_, _, Lib.hid (App.mk2 HM.out kk4 rz4 (by have := nz1.out; have := nz3.out; have := HSZ.out; omega))⟩
                    exact AllReadyH.nil
                  exact AllReadyH.nil
                refine AllReadyH.cons (o := { dst := some 55, op := Op.buildSlice TS 1 #[(0, Operand.tmp 54)], type := TS, pos := "law.go:56", after := #[{ on := 4, ground := Ground.data }], guard := none }) rfl (fun K hK => ?_) ?_
                · skip
                  go_simp
                  obtain ⟨v2, hv⟩ : ∃ V, V = (v1.alloc (.cells #[.int .u64 ((base : Int) + (n : Int) + 1), .int .u64 0, .int .u64 0, .int .u64 num, .int .i64 0, .string ⟨#[]⟩, .string ⟨#[]⟩, .int .u64 0, .int .u64 0] TR)) := ⟨_, rfl⟩
                  rw [← hv]
                  have ks : Keep (fun _ => False) v1 v2 := by rw [hv]; exact ((Keep.refl _ _).alloc _)
                  have nz2 := Lib.hid (show v2.heap.size = v1.heap.size + 1 by rw [hv]; simp)
                  have bY2 : v2.heap[v1.heap.size]? = some (.cells (rec0 ((base : Int) + (n : Int) + 1) num).cells.toArray TR (0, 0)) := by rw [hv]; exact block_new v1 _
                  clear hv
                  have kk2 : Keep (fun _ => False) w4 v2 := kk1.trans ks
                  have sz2 := kk2.size
                  have bE2 := (ks.block _ (lt_of_block bE1) (fun e => e)).trans bE1
                  refine hK.out _ _ kk2.to1 (fun hHeld => ?_)
                  clear hK K
                  try simp only [Act.put, List.setIfInBounds_toArray, List.set_cons_zero, List.set_cons_succ]
                  refine wpAnyH_ready (rs := [3]) (by kernel_rfl) (by simp) ?_
                  refine AllReadyH.cons (o := { dst := some 53, op := Op.call { callee := Callee.builtin Builtin.append, args := #[Operand.tmp 50, Operand.tmp 52], argTypes := #[TS, TS] }, type := TS, pos := "law.go:56", after := #[{ on := 0, ground := Ground.data }, { on := 2, ground := Ground.data }], guard := none }) rfl (fun K hK => ?_) ?_
                  · skip
                    obtain ⟨g1, c1, v3, hrun1, rw3, ks, hg1⟩ := app_first bE2 (HMR.out.keep kk2 (fun _ _ e => e.elim)) HN9.out HNN.out TS
                    go_simp
                    have kk3 : Keep (fun _ => False) w4 v3 := kk2.then ks (fun q e => by have := nz1.out; have := nz2.out; have := HSZ.out; omega)
                    have sz3 := kk3.size
                    have bY3 := (ks.block _ (lt_of_block bY2) (fun e => by have := nz1.out; have := nz2.out; have := HSZ.out; omega)).trans bY2
                    clear hrun1
                    refine hK.out _ _ kk3.to1 (fun hHeld => ?_)
                    clear hK K
                    try simp only [Act.put, List.setIfInBounds_toArray, List.set_cons_zero, List.set_cons_succ]
                    refine wpAnyH_ready (rs := [6]) (by kernel_rfl) (by simp) ?_
                    refine AllReadyH.cons (o := { dst := some 56, op := Op.call { callee := Callee.builtin Builtin.append, args := #[Operand.tmp 53, Operand.tmp 55], argTypes := #[TS, TS] }, type := TS, pos := "law.go:56", after := #[{ on := 3, ground := Ground.data }, { on := 5, ground := Ground.data }, { on := 3, ground := Ground.chain }], guard := none }) rfl (fun K hK => ?_) ?_
                    · skip
                      obtain ⟨g2, c2, v4, hrun2, rz4, ks, hg2⟩ := app_second rw3 (rec0 ((base : Int) + (n : Int) + 1) num) bY3 HN9.out TS
                      go_simp
                      have kk4 : Keep (fun _ => False) w4 v4 := kk3.then ks (fun q e => by have := nz1.out; have := nz2.out; have := HSZ.out; omega)
                      have sz4 := kk4.size
                      clear hrun2
                      refine hK.out _ _ kk4.to1 (fun hHeld => ?_)
                      clear hK K
                      try simp only [Act.put, List.setIfInBounds_toArray, List.set_cons_zero, List.set_cons_succ]
                      have pm := (kk4.block _ (lt_of_block HM.out) (fun e => e)).trans HM.out
                      have p1 : v4.cell? ⟨w.heap.size, 1, none⟩ = some (.slice a3 n3 c3) := cell_at pm 1
                      have p2 : v4.frozen? ⟨w.heap.size, 1, none⟩ = false := free_at pm 1
                      clear pm
                      refine wpAnyH_take (i := 7) (oi := { dst := some 57, op := Op.fieldAddr TM (Operand.tmp 3) 1, type := 0, pos := "law.go:56", after := #[{ on := 0, ground := Ground.phase }, { on := 1, ground := Ground.phase }, { on := 2, ground := Ground.phase }, { on := 3, ground := Ground.phase }, { on := 4, ground := Ground.phase }, { on := 5, ground := Ground.phase }, { on := 6, ground := Ground.phase }], guard := none }) (v := .pointer (some ⟨w.heap.size, 1, none⟩)) rfl (by kernel_rfl) (by kernel_rfl) (by kernel_rfl) (fun _ _ _ h => h) (Or.inl ⟨by rfl, ?_⟩) (by assumption) ?_
                      · (intro w' hSw; (try dsimp only at hSw); go_simp)
                      try simp only [Act.put, List.setIfInBounds_toArray, List.set_cons_zero, List.set_cons_succ]
                      refine wpAnyH_ready (rs := [8]) (by kernel_rfl) (by simp) ?_
                      refine AllReadyH.cons (o := { dst := none, op := Op.store TS (Operand.tmp 57) (Operand.tmp 56), type := 0, pos := "law.go:56", after := #[{ on := 7, ground := Ground.data }, { on := 6, ground := Ground.data }, { on := 6, ground := Ground.chain }, { on := 0, ground := Ground.phase }, { on := 1, ground := Ground.phase }, { on := 2, ground := Ground.phase }, { on := 3, ground := Ground.phase }, { on := 4, ground := Ground.phase }, { on := 5, ground := Ground.phase }, { on := 6, ground := Ground.phase }], guard := none }) rfl (fun K hK => ?_) AllReadyH.nil
                      go_simp
                      refine hK.out _ _ (kk4.to1.set1 _ _) (fun hHeld => ?_)
                      clear hK K
                      try simp only [Act.put, List.setIfInBounds_toArray, List.set_cons_zero, List.set_cons_succ]
                      refine wpAnyH_done (by kernel_rfl) ?_ _
                      go_wp2_with fail
                      go_meet
                      exact ⟨_, _, Lib.hid (App.mk2 HM.out kk4 rz4 (by have := nz1.out; have := nz2.out; have := HSZ.out; omega))⟩
                    exact AllReadyH.nil
                  exact AllReadyH.nil
                exact AllReadyH.nil
              refine AllReadyH.cons (o := { dst := some 55, op := Op.buildSlice TS 1 #[(0, Operand.tmp 54)], type := TS, pos := "law.go:56", after := #[{ on := 4, ground := Ground.data }], guard := none }) rfl (fun K hK => ?_) ?_
              · skip
                go_simp
                obtain ⟨v1, hv⟩ : ∃ V, V = (w4.alloc (.cells #[.int .u64 ((base : Int) + (n : Int) + 1), .int .u64 0, .int .u64 0, .int .u64 num, .int .i64 0, .string ⟨#[]⟩, .string ⟨#[]⟩, .int .u64 0, .int .u64 0] TR)).drew := ⟨_, rfl⟩
                rw [← hv]
                have ks : Keep (fun _ => False) w4 v1 := by rw [hv]; exact ((Keep.refl _ _).alloc _).drew
                have nz1 := Lib.hid (show v1.heap.size = w4.heap.size + 1 by rw [hv]; simp)
                have bY1 : v1.heap[w4.heap.size]? = some (.cells (rec0 ((base : Int) + (n : Int) + 1) num).cells.toArray TR (0, 0)) := by rw [hv]; exact block_drew (block_new w4 _)
                clear hv
                have kk1 : Keep (fun _ => False) w4 v1 := ks
                have sz1 := kk1.size
                refine hK.out _ _ kk1.to1 (fun hHeld => ?_)
                clear hK K
                try simp only [Act.put, List.setIfInBounds_toArray, List.set_cons_zero, List.set_cons_succ]
                refine wpAnyH_ready (rs := [0]) (by kernel_rfl) (by simp) ?_
                refine AllReadyH.cons (o := { dst := some 50, op := Op.buildSlice TS 0 #[], type := TS, pos := "law.go:56", after := #[], guard := none }) rfl (fun K hK => ?_) ?_
                · skip
                  go_simp
                  obtain ⟨v2, hv⟩ : ∃ V, V = (v1.alloc (.cells #[] TR)) := ⟨_, rfl⟩
                  rw [← hv]
                  have ks : Keep (fun _ => False) v1 v2 := by rw [hv]; exact ((Keep.refl _ _).alloc _)
                  have nz2 := Lib.hid (show v2.heap.size = v1.heap.size + 1 by rw [hv]; simp)
                  have bE2 : v2.heap[v1.heap.size]? = some (.cells #[] TR (0, 0)) := by rw [hv]; exact block_new v1 _
                  clear hv
                  have kk2 : Keep (fun _ => False) w4 v2 := kk1.trans ks
                  have sz2 := kk2.size
                  have bY2 := (ks.block _ (lt_of_block bY1) (fun e => e)).trans bY1
                  refine hK.out _ _ kk2.to1 (fun hHeld => ?_)
                  clear hK K
                  try simp only [Act.put, List.setIfInBounds_toArray, List.set_cons_zero, List.set_cons_succ]
                  refine wpAnyH_ready (rs := [3]) (by kernel_rfl) (by simp) ?_
                  refine AllReadyH.cons (o := { dst := some 53, op := Op.call { callee := Callee.builtin Builtin.append, args := #[Operand.tmp 50, Operand.tmp 52], argTypes := #[TS, TS] }, type := TS, pos := "law.go:56", after := #[{ on := 0, ground := Ground.data }, { on := 2, ground := Ground.data }], guard := none }) rfl (fun K hK => ?_) ?_
                  · skip
                    obtain ⟨g1, c1, v3, hrun1, rw3, ks, hg1⟩ := app_first bE2 (HMR.out.keep kk2 (fun _ _ e => e.elim)) HN9.out HNN.out TS
                    go_simp
                    have kk3 : Keep (fun _ => False) w4 v3 := kk2.then ks (fun q e => by have := nz1.out; have := nz2.out; have := HSZ.out; omega)
                    have sz3 := kk3.size
                    have bY3 := (ks.block _ (lt_of_block bY2) (fun e => by have := nz1.out; have := nz2.out; have := HSZ.out; omega)).trans bY2
                    clear hrun1
                    refine hK.out _ _ kk3.to1 (fun hHeld => ?_)
                    clear hK K
                    try simp only [Act.put, List.setIfInBounds_toArray, List.set_cons_zero, List.set_cons_succ]
                    refine wpAnyH_ready (rs := [6]) (by kernel_rfl) (by simp) ?_
                    refine AllReadyH.cons (o := { dst := some 56, op := Op.call { callee := Callee.builtin Builtin.append, args := #[Operand.tmp 53, Operand.tmp 55], argTypes := #[TS, TS] }, type := TS, pos := "law.go:56", after := #[{ on := 3, ground := Ground.data }, { on := 5, ground := Ground.data }, { on := 3, ground := Ground.chain }], guard := none }) rfl (fun K hK => ?_) ?_
                    · skip
                      obtain ⟨g2, c2, v4, hrun2, rz4, ks, hg2⟩ := app_second rw3 (rec0 ((base : Int) + (n : Int) + 1) num) bY3 HN9.out TS
                      go_simp
                      have kk4 : Keep (fun _ => False) w4 v4 := kk3.then ks (fun q e => by have := nz1.out; have := nz2.out; have := HSZ.out; omega)
                      have sz4 := kk4.size
                      clear hrun2
                      refine hK.out _ _ kk4.to1 (fun hHeld => ?_)
                      clear hK K
                      try simp only [Act.put, List.setIfInBounds_toArray, List.set_cons_zero, List.set_cons_succ]
                      have pm := (kk4.block _ (lt_of_block HM.out) (fun e => e)).trans HM.out
                      have p1 : v4.cell? ⟨w.heap.size, 1, none⟩ = some (.slice a3 n3 c3) := cell_at pm 1
                      have p2 : v4.frozen? ⟨w.heap.size, 1, none⟩ = false := free_at pm 1
                      clear pm
                      refine wpAnyH_take (i := 7) (oi := { dst := some 57, op := Op.fieldAddr TM (Operand.tmp 3) 1, type := 0, pos := "law.go:56", after := #[{ on := 0, ground := Ground.phase }, { on := 1, ground := Ground.phase }, { on := 2, ground := Ground.phase }, { on := 3, ground := Ground.phase }, { on := 4, ground := Ground.phase }, { on := 5, ground := Ground.phase }, { on := 6, ground := Ground.phase }], guard := none }) (v := .pointer (some ⟨w.heap.size, 1, none⟩)) rfl (by kernel_rfl) (by kernel_rfl) (by kernel_rfl) (fun _ _ _ h => h) (Or.inl ⟨by rfl, ?_⟩) (by assumption) ?_
                      · (intro w' hSw; (try dsimp only at hSw); go_simp)
                      try simp only [Act.put, List.setIfInBounds_toArray, List.set_cons_zero, List.set_cons_succ]
                      refine wpAnyH_ready (rs := [8]) (by kernel_rfl) (by simp) ?_
                      refine AllReadyH.cons (o := { dst := none, op := Op.store TS (Operand.tmp 57) (Operand.tmp 56), type := 0, pos := "law.go:56", after := #[{ on := 7, ground := Ground.data }, { on := 6, ground := Ground.data }, { on := 6, ground := Ground.chain }, { on := 0, ground := Ground.phase }, { on := 1, ground := Ground.phase }, { on := 2, ground := Ground.phase }, { on := 3, ground := Ground.phase }, { on := 4, ground := Ground.phase }, { on := 5, ground := Ground.phase }, { on := 6, ground := Ground.phase }], guard := none }) rfl (fun K hK => ?_) AllReadyH.nil
                      go_simp
                      refine hK.out _ _ (kk4.to1.set1 _ _) (fun hHeld => ?_)
                      clear hK K
                      try simp only [Act.put, List.setIfInBounds_toArray, List.set_cons_zero, List.set_cons_succ]
                      refine wpAnyH_done (by kernel_rfl) ?_ _
                      go_wp2_with fail
                      go_meet
                      exact ⟨_, _, Lib.hid (App.mk2 HM.out kk4 rz4 (by have := nz1.out; have := nz2.out; have := HSZ.out; omega))⟩
                    exact AllReadyH.nil
                  exact AllReadyH.nil
                exact AllReadyH.nil
              exact AllReadyH.nil
            refine AllReadyH.cons (o := { dst := some 55, op := Op.buildSlice TS 1 #[(0, Operand.tmp 54)], type := TS, pos := "law.go:56", after := #[{ on := 4, ground := Ground.data }], guard := none }) rfl (fun K hK => ?_) ?_
            · skip
              go_simp
              obtain ⟨v1, hv⟩ : ∃ V, V = (w4.alloc (.cells #[.int .u64 ((base : Int) + (n : Int) + 1), .int .u64 0, .int .u64 0, .int .u64 num, .int .i64 0, .string ⟨#[]⟩, .string ⟨#[]⟩, .int .u64 0, .int .u64 0] TR)).drew := ⟨_, rfl⟩
              rw [← hv]
              have ks : Keep (fun _ => False) w4 v1 := by rw [hv]; exact ((Keep.refl _ _).alloc _).drew
              have nz1 := Lib.hid (show v1.heap.size = w4.heap.size + 1 by rw [hv]; simp)
              have bY1 : v1.heap[w4.heap.size]? = some (.cells (rec0 ((base : Int) + (n : Int) + 1) num).cells.toArray TR (0, 0)) := by rw [hv]; exact block_drew (block_new w4 _)
              clear hv
              have kk1 : Keep (fun _ => False) w4 v1 := ks
              have sz1 := kk1.size
              refine hK.out _ _ kk1.to1 (fun hHeld => ?_)
              clear hK K
              try simp only [Act.put, List.setIfInBounds_toArray, List.set_cons_zero, List.set_cons_succ]
              refine wpAnyH_ready (rs := [0, 2]) (by kernel_rfl) (by simp) ?_
              refine AllReadyH.cons (o := { dst := some 50, op := Op.buildSlice TS 0 #[], type := TS, pos := "law.go:56", after := #[], guard := none }) rfl (fun K hK => ?_) ?_
              · skip
                go_simp
                obtain ⟨v2, hv⟩ : ∃ V, V = (v1.alloc (.cells #[] TR)) := ⟨_, rfl⟩
                rw [← hv]
                have ks : Keep (fun _ => False) v1 v2 := by rw [hv]; exact ((Keep.refl _ _).alloc _)
                have nz2 := Lib.hid (show v2.heap.size = v1.heap.size + 1 by rw [hv]; simp)
                have bE2 : v2.heap[v1.heap.size]? = some (.cells #[] TR (0, 0)) := by rw [hv]; exact block_new v1 _
                clear hv
                have kk2 : Keep (fun _ => False) w4 v2 := kk1.trans ks
                have sz2 := kk2.size
                have bY2 := (ks.block _ (lt_of_block bY1) (fun e => e)).trans bY1
                refine hK.out _ _ kk2.to1 (fun hHeld => ?_)
                clear hK K
                try simp only [Act.put, List.setIfInBounds_toArray, List.set_cons_zero, List.set_cons_succ]
                refine wpAnyH_ready (rs := [2]) (by kernel_rfl) (by simp) ?_
                refine AllReadyH.cons (o := { dst := some 52, op := Op.load TS (Operand.tmp 51), type := TS, pos := "law.go:56", after := #[{ on := 1, ground := Ground.data }], guard := none }) rfl (fun K hK => ?_) ?_
                · skip
                  have p1 : v2.cell? ⟨w.heap.size, 1, none⟩ = some (.slice a3 n3 c3) := cell_at ((kk2.block _ (lt_of_block HM.out) (fun e => e)).trans HM.out) 1
                  go_simp
                  refine hK.out _ _ kk2.to1 (fun hHeld => ?_)
                  clear hK K p1
                  try simp only [Act.put, List.setIfInBounds_toArray, List.set_cons_zero, List.set_cons_succ]
                  refine wpAnyH_ready (rs := [3]) (by kernel_rfl) (by simp) ?_
                  refine AllReadyH.cons (o := { dst := some 53, op := Op.call { callee := Callee.builtin Builtin.append, args := #[Operand.tmp 50, Operand.tmp 52], argTypes := #[TS, TS] }, type := TS, pos := "law.go:56", after := #[{ on := 0, ground := Ground.data }, { on := 2, ground := Ground.data }], guard := none }) rfl (fun K hK => ?_) ?_
                  · skip
                    obtain ⟨g1, c1, v3, hrun1, rw3, ks, hg1⟩ := app_first bE2 (HMR.out.keep kk2 (fun _ _ e => e.elim)) HN9.out HNN.out TS
                    go_simp
                    have kk3 : Keep (fun _ => False) w4 v3 := kk2.then ks (fun q e => by have := nz1.out; have := nz2.out; have := HSZ.out; omega)
                    have sz3 := kk3.size
                    have bY3 := (ks.block _ (lt_of_block bY2) (fun e => by have := nz1.out; have := nz2.out; have := HSZ.out; omega)).trans bY2
                    clear hrun1
                    refine hK.out _ _ kk3.to1 (fun hHeld => ?_)
                    clear hK K
                    try simp only [Act.put, List.setIfInBounds_toArray, List.set_cons_zero, List.set_cons_succ]
                    refine wpAnyH_ready (rs := [6]) (by kernel_rfl) (by simp) ?_
                    refine AllReadyH.cons (o := { dst := some 56, op := Op.call { callee := Callee.builtin Builtin.append, args := #[Operand.tmp 53, Operand.tmp 55], argTypes := #[TS, TS] }, type := TS, pos := "law.go:56", after := #[{ on := 3, ground := Ground.data }, { on := 5, ground := Ground.data }, { on := 3, ground := Ground.chain }], guard := none }) rfl (fun K hK => ?_) ?_
                    · skip
                      obtain ⟨g2, c2, v4, hrun2, rz4, ks, hg2⟩ := app_second rw3 (rec0 ((base : Int) + (n : Int) + 1) num) bY3 HN9.out TS
                      go_simp
                      have kk4 : Keep (fun _ => False) w4 v4 := kk3.then ks (fun q e => by have := nz1.out; have := nz2.out; have := HSZ.out; omega)
                      have sz4 := kk4.size
                      clear hrun2
                      refine hK.out _ _ kk4.to1 (fun hHeld => ?_)
                      clear hK K
                      try simp only [Act.put, List.setIfInBounds_toArray, List.set_cons_zero, List.set_cons_succ]
                      have pm := (kk4.block _ (lt_of_block HM.out) (fun e => e)).trans HM.out
                      have p1 : v4.cell? ⟨w.heap.size, 1, none⟩ = some (.slice a3 n3 c3) := cell_at pm 1
                      have p2 : v4.frozen? ⟨w.heap.size, 1, none⟩ = false := free_at pm 1
                      clear pm
                      refine wpAnyH_take (i := 7) (oi := { dst := some 57, op := Op.fieldAddr TM (Operand.tmp 3) 1, type := 0, pos := "law.go:56", after := #[{ on := 0, ground := Ground.phase }, { on := 1, ground := Ground.phase }, { on := 2, ground := Ground.phase }, { on := 3, ground := Ground.phase }, { on := 4, ground := Ground.phase }, { on := 5, ground := Ground.phase }, { on := 6, ground := Ground.phase }], guard := none }) (v := .pointer (some ⟨w.heap.size, 1, none⟩)) rfl (by kernel_rfl) (by kernel_rfl) (by kernel_rfl) (fun _ _ _ h => h) (Or.inl ⟨by rfl, ?_⟩) (by assumption) ?_
                      · (intro w' hSw; (try dsimp only at hSw); go_simp)
                      try simp only [Act.put, List.setIfInBounds_toArray, List.set_cons_zero, List.set_cons_succ]
                      refine wpAnyH_ready (rs := [8]) (by kernel_rfl) (by simp) ?_
                      refine AllReadyH.cons (o := { dst := none, op := Op.store TS (Operand.tmp 57) (Operand.tmp 56), type := 0, pos := "law.go:56", after := #[{ on := 7, ground := Ground.data }, { on := 6, ground := Ground.data }, { on := 6, ground := Ground.chain }, { on := 0, ground := Ground.phase }, { on := 1, ground := Ground.phase }, { on := 2, ground := Ground.phase }, { on := 3, ground := Ground.phase }, { on := 4, ground := Ground.phase }, { on := 5, ground := Ground.phase }, { on := 6, ground := Ground.phase }], guard := none }) rfl (fun K hK => ?_) AllReadyH.nil
                      go_simp
                      refine hK.out _ _ (kk4.to1.set1 _ _) (fun hHeld => ?_)
                      clear hK K
                      try simp only [Act.put, List.setIfInBounds_toArray, List.set_cons_zero, List.set_cons_succ]
                      refine wpAnyH_done (by kernel_rfl) ?_ _
                      go_wp2_with fail
                      go_meet
                      exact ⟨_, _, Lib.hid (App.mk2 HM.out kk4 rz4 (by have := nz1.out; have := nz2.out; have := HSZ.out; omega))⟩
                    exact AllReadyH.nil
                  exact AllReadyH.nil
                exact AllReadyH.nil
              refine AllReadyH.cons (o := { dst := some 52, op := Op.load TS (Operand.tmp 51), type := TS, pos := "law.go:56", after := #[{ on := 1, ground := Ground.data }], guard := none }) rfl (fun K hK => ?_) ?_
              · skip
                have p1 : v1.cell? ⟨w.heap.size, 1, none⟩ = some (.slice a3 n3 c3) := cell_at ((kk1.block _ (lt_of_block HM.out) (fun e => e)).trans HM.out) 1
                go_simp
                refine hK.out _ _ kk1.to1 (fun hHeld => ?_)
                clear hK K p1
                try simp only [Act.put, List.setIfInBounds_toArray, List.set_cons_zero, List.set_cons_succ]
                refine wpAnyH_ready (rs := [0]) (by kernel_rfl) (by simp) ?_
                refine AllReadyH.cons (o := { dst := some 50, op := Op.buildSlice TS 0 #[], type := TS, pos := "law.go:56", after := #[], guard := none }) rfl (fun K hK => ?_) ?_
                · skip
                  go_simp
                  obtain ⟨v2, hv⟩ : ∃ V, V = (v1.alloc (.cells #[] TR)) := ⟨_, rfl⟩
                  rw [← hv]
                  have ks : Keep (fun _ => False) v1 v2 := by rw [hv]; exact ((Keep.refl _ _).alloc _)
                  have nz2 := Lib.hid (show v2.heap.size = v1.heap.size + 1 by rw [hv]; simp)
                  have bE2 : v2.heap[v1.heap.size]? = some (.cells #[] TR (0, 0)) := by rw [hv]; exact block_new v1 _
                  clear hv
                  have kk2 : Keep (fun _ => False) w4 v2 := kk1.trans ks
                  have sz2 := kk2.size
                  have bY2 := (ks.block _ (lt_of_block bY1) (fun e => e)).trans bY1
                  refine hK.out _ _ kk2.to1 (fun hHeld => ?_)
                  clear hK K
                  try simp only [Act.put, List.setIfInBounds_toArray, List.set_cons_zero, List.set_cons_succ]
                  refine wpAnyH_ready (rs := [3]) (by kernel_rfl) (by simp) ?_
                  refine AllReadyH.cons (o := { dst := some 53, op := Op.call { callee := Callee.builtin Builtin.append, args := #[Operand.tmp 50, Operand.tmp 52], argTypes := #[TS, TS] }, type := TS, pos := "law.go:56", after := #[{ on := 0, ground := Ground.data }, { on := 2, ground := Ground.data }], guard := none }) rfl (fun K hK => ?_) ?_
                  · skip
                    obtain ⟨g1, c1, v3, hrun1, rw3, ks, hg1⟩ := app_first bE2 (HMR.out.keep kk2 (fun _ _ e => e.elim)) HN9.out HNN.out TS
                    go_simp
                    have kk3 : Keep (fun _ => False) w4 v3 := kk2.then ks (fun q e => by have := nz1.out; have := nz2.out; have := HSZ.out; omega)
                    have sz3 := kk3.size
                    have bY3 := (ks.block _ (lt_of_block bY2) (fun e => by have := nz1.out; have := nz2.out; have := HSZ.out; omega)).trans bY2
                    clear hrun1
                    refine hK.out _ _ kk3.to1 (fun hHeld => ?_)
                    clear hK K
                    try simp only [Act.put, List.setIfInBounds_toArray, List.set_cons_zero, List.set_cons_succ]
                    refine wpAnyH_ready (rs := [6]) (by kernel_rfl) (by simp) ?_
                    refine AllReadyH.cons (o := { dst := some 56, op := Op.call { callee := Callee.builtin Builtin.append, args := #[Operand.tmp 53, Operand.tmp 55], argTypes := #[TS, TS] }, type := TS, pos := "law.go:56", after := #[{ on := 3, ground := Ground.data }, { on := 5, ground := Ground.data }, { on := 3, ground := Ground.chain }], guard := none }) rfl (fun K hK => ?_) ?_
                    · skip
                      obtain ⟨g2, c2, v4, hrun2, rz4, ks, hg2⟩ := app_second rw3 (rec0 ((base : Int) + (n : Int) + 1) num) bY3 HN9.out TS
                      go_simp
                      have kk4 : Keep (fun _ => False) w4 v4 := kk3.then ks (fun q e => by have := nz1.out; have := nz2.out; have := HSZ.out; omega)
                      have sz4 := kk4.size
                      clear hrun2
                      refine hK.out _ _ kk4.to1 (fun hHeld => ?_)
                      clear hK K
                      try simp only [Act.put, List.setIfInBounds_toArray, List.set_cons_zero, List.set_cons_succ]
                      have pm := (kk4.block _ (lt_of_block HM.out) (fun e => e)).trans HM.out
                      have p1 : v4.cell? ⟨w.heap.size, 1, none⟩ = some (.slice a3 n3 c3) := cell_at pm 1
                      have p2 : v4.frozen? ⟨w.heap.size, 1, none⟩ = false := free_at pm 1
                      clear pm
                      refine wpAnyH_take (i := 7) (oi := { dst := some 57, op := Op.fieldAddr TM (Operand.tmp 3) 1, type := 0, pos := "law.go:56", after := #[{ on := 0, ground := Ground.phase }, { on := 1, ground := Ground.phase }, { on := 2, ground := Ground.phase }, { on := 3, ground := Ground.phase }, { on := 4, ground := Ground.phase }, { on := 5, ground := Ground.phase }, { on := 6, ground := Ground.phase }], guard := none }) (v := .pointer (some ⟨w.heap.size, 1, none⟩)) rfl (by kernel_rfl) (by kernel_rfl) (by kernel_rfl) (fun _ _ _ h => h) (Or.inl ⟨by rfl, ?_⟩) (by assumption) ?_
                      · (intro w' hSw; (try dsimp only at hSw); go_simp)
                      try simp only [Act.put, List.setIfInBounds_toArray, List.set_cons_zero, List.set_cons_succ]
                      refine wpAnyH_ready (rs := [8]) (by kernel_rfl) (by simp) ?_
                      refine AllReadyH.cons (o := { dst := none, op := Op.store TS (Operand.tmp 57) (Operand.tmp 56), type := 0, pos := "law.go:56", after := #[{ on := 7, ground := Ground.data }, { on := 6, ground := Ground.data }, { on := 6, ground := Ground.chain }, { on := 0, ground := Ground.phase }, { on := 1, ground := Ground.phase }, { on := 2, ground := Ground.phase }, { on := 3, ground := Ground.phase }, { on := 4, ground := Ground.phase }, { on := 5, ground := Ground.phase }, { on := 6, ground := Ground.phase }], guard := none }) rfl (fun K hK => ?_) AllReadyH.nil
                      go_simp
                      refine hK.out _ _ (kk4.to1.set1 _ _) (fun hHeld => ?_)
                      clear hK K
                      try simp only [Act.put, List.setIfInBounds_toArray, List.set_cons_zero, List.set_cons_succ]
                      refine wpAnyH_done (by kernel_rfl) ?_ _
                      go_wp2_with fail
                      go_meet
                      exact ⟨_, _, Lib.hid (App.mk2 HM.out kk4 rz4 (by have := nz1.out; have := nz2.out; have := HSZ.out; omega))⟩
                    exact AllReadyH.nil
                  exact AllReadyH.nil
                exact AllReadyH.nil
              exact AllReadyH.nil
            exact AllReadyH.nil
          case rest =>
            clear st
            obtain ⟨g, c, hA⟩ := hcut
            have hm3 := hA.out.m
            have m0 := cell_at hm3 0
            have m1 := cell_at hm3 1
            have m2 := cell_at hm3 2
            simp at m0 m1 m2
            have hz3 := (hA.out.k.block _ (lt_of_block HZ2.out) (by omega)).trans HZ2.out
            have st := store_mod hz3 rfl (b2 : Int) (most : Int) (some ⟨g, 0, none⟩) (n3 + 1) c
            have hz4 := mod_block hz3 rfl (b2 : Int) (most : Int) (.slice (some ⟨g, 0, none⟩) (n3 + 1) c)
            have q0 := cell_at hz4 0
            have q1 := cell_at hz4 1
            have q2 := cell_at hz4 2
            simp at q0 q1 q2
            clear hz3 hz4 hm3
            go_wp2_with fail
            refine bodyPost_ret (v := .tuple #[.agg #[.int .u64 (b2 : Int), .slice (some ⟨g, 0, none⟩) (n3 + 1) c, .int .i64 (most : Int)], .bool true]) ?_ rfl ⟨b2, _, rfl, Did.app HFB.out hB.out.k HL2.out HF2.out K2.out (App.pre hA.out K24.out) (lt_of_block hB.out.z) hBw HNN.out (by have := HN3.out; omega) (by have := HB2.out; omega) (by have := HNR.out; have := HB2.out; have := HN3.out; omega) _⟩
            simp [results, Try.results15, go_sem, q0, q1, q2]
      · by_cases h3 : kd = 3
        · subst h3
          have bx := hB.out.x
          have fx := free_at bx 0
          have xx0 : wc.cell? ⟨X, 0, none⟩ = some (.int .u64 ((base : Int) + (n : Int) + 1)) := cell_at bx 0
          go_upto_region 14 with fail
          obtain ⟨wt, hwt⟩ : ∃ wt, wt = wc.setCell ⟨X, 0, none⟩ (.int .u64 at_) := ⟨_, rfl⟩
          rw [← hwt]
          have hXt : wt.heap[X]? = some (.cells (rec0 at_ num).cells.toArray TR (0, 0)) := by rw [hwt]; exact (block_set bx 0 _).trans (by simp [rec0, Rec.cells])
          have ktx : Keep (fun j => j = X) wc wt := by rw [hwt]; exact (Keep.refl (fun j => j = X) wc).set1 _ _
          have hX9 := hB.out.hX
          have hbt' : Keep (fun _ => False) w wt := hB.out.k.then ktx (fun q e => by omega)
          have hmt := (ktx.block _ (lt_of_block hB.out.m) (by omega)).trans hB.out.m
          have hat := (ktx.block _ (lt_of_block hB.out.a) (by omega)).trans hB.out.a
          have hzt := (ktx.block _ (lt_of_block hB.out.z) (by omega)).trans hB.out.z
          have HXT := Lib.hid hXt
          have HMT := Lib.hid hmt
          have HAT := Lib.hid hat
          have HZT := Lib.hid hzt
          have HZT9 := Lib.hid (lt_of_block hzt)
          have hbt := Lib.hid hbt'
          have HX9 := Lib.hid hX9
          replace HL1 := Lib.hid (HL.out.keep hbt' (fun _ _ e => e))
          replace HR1 := Lib.hid (HR.out.keep hbt' (fun _ _ e => e.elim))
          clear hXt hmt hat hzt hbt' hX9 ktx hwt bx fx xx0
          by_cases hs : at_ = (base : Int) + (n : Int) + 1
          · have HB9 := hB
            clear hB
            have hB : Hid (Beg w wt base most n cap ao 3 at_ num X) := Lib.hid ⟨HMT.out, HAT.out, HZT.out, by rw [← hs]; exact HXT.out, HX9.out, hbt.out⟩
            clear hs
            have hrl : rs.length ≤ 256 := by have := HNR.out; omega
            have hbig : ∀ q, w.heap.size ≤ q → ¬ F q := fun q hq f => by have := HFB.out q f; omega
            have HBIG := Lib.hid hbig
            have HXB := Lib.hid hB.out.x
            have HZB9 := Lib.hid (lt_of_block hB.out.z)
            clear hbig
            have x0 : wt.cell? ⟨X, 0, none⟩ = some (.int .u64 ((base : Int) + (n : Int) + 1)) := cell_at hB.out.x 0
            have x1 : wt.cell? ⟨X, 1, none⟩ = some (.int .u64 0) := cell_at hB.out.x 1
            have x2 : wt.cell? ⟨X, 2, none⟩ = some (.int .u64 0) := cell_at hB.out.x 2
            have x3 : wt.cell? ⟨X, 3, none⟩ = some (.int .u64 num) := cell_at hB.out.x 3
            have x4 : wt.cell? ⟨X, 4, none⟩ = some (.int .i64 0) := cell_at hB.out.x 4
            have x5 : wt.cell? ⟨X, 5, none⟩ = some (.string ⟨#[]⟩) := cell_at hB.out.x 5
            have x6 : wt.cell? ⟨X, 6, none⟩ = some (.string ⟨#[]⟩) := cell_at hB.out.x 6
            have x7 : wt.cell? ⟨X, 7, none⟩ = some (.int .u64 0) := cell_at hB.out.x 7
            have x8 : wt.cell? ⟨X, 8, none⟩ = some (.int .u64 0) := cell_at hB.out.x 8
            by_cases hroom : n < most
            · have C1 := Lib.hid (add_at HL1.out (rec0 ((base : Int) + (n : Int) + 1) num) (by omega) (by rw [← HNR.out]; exact hroom) hm (by rw [← HNR.out]; rfl))
              unfold Rec.agg Rec.cells rec0 at C1
              go_upto_region 15 with (go_at_call 10; refine C1.out.mono ?_; clear C1; rintro e w2 ⟨rfl, F2, l2, f2, k2⟩)
              have HX2 := Lib.hid ((k2.block _ (lt_of_block HXB.out) (HBIG.out _ (by have := hB.out.hX; omega))).trans HXB.out)
              have HM2 := Lib.hid ((k2.block _ (lt_of_block hB.out.m) (HBIG.out _ (Nat.le_refl _))).trans hB.out.m)
              have HZ2 := Lib.hid ((k2.block _ (lt_of_block hB.out.z) (HBIG.out _ (by omega))).trans hB.out.z)
              have HL2 := Lib.hid l2
              have HF2 := Lib.hid f2
              have K2 := Lib.hid k2
              clear l2 f2 k2 u0 u1 x0 x1 x2 x3 x4 x5 x6 x7 x8
              have hq : ∀ d os, (grow (redrawn w2 d) os).cell? ⟨X, 0, none⟩ = some (.int .u64 ((base : Int) + (n : Int) + 1)) ∧ (grow (redrawn w2 d) os).cell? ⟨w.heap.size, 0, none⟩ = some (.int .u64 (base : Int)) ∧ (grow (redrawn w2 d) os).cell? ⟨w.heap.size, 1, none⟩ = some (.slice ao n cap) ∧ (grow (redrawn w2 d) os).cell? ⟨w.heap.size, 2, none⟩ = some (.int .i64 (most : Int)) := fun d os => ⟨cell_regrown (cell_at HX2.out 0) d os, cell_regrown (cell_at HM2.out 0) d os, cell_regrown (cell_at HM2.out 1) d os, cell_regrown (cell_at HM2.out 2) d os⟩
              have hq0 := fun d os => (hq d os).1
              have hq1 := fun d os => (hq d os).2.1
              have hq2 := fun d os => (hq d os).2.2.1
              have hq3 := fun d os => (hq d os).2.2.2
              have CQ := Lib.hid (fun d os => Calls.regrown_of (w := w2) (d := d) (os := os) ((last_m base n cap most ao (by omega) (by omega) (grow (redrawn w2 d) os)).mono fun _ _ ⟨he, k⟩ => ⟨he, k.below0⟩))
              unfold mod at CQ
              clear hq
              refine wp_region_quiet_below (by kernel_rfl) (by kernel_rfl) ?_
              repeat (quiet_step (exact CQ.out _ _))
              refine wpQuiet_nil ?_
              intro _ hw'
              obtain ⟨⟨dq, osq⟩, hw''⟩ := hw'
              subst hw''
              clear hq0 hq1 hq2 hq3 CQ
              obtain ⟨w5, hw5⟩ : ∃ w5, w5 = grow (redrawn w2 dq) osq := ⟨_, rfl⟩
              rw [← hw5]
              have k25 : Keep (fun _ => False) w2 w5 := by rw [hw5]; exact Keep.of0 (below_regrown w2 dq osq)
              have K25 := Lib.hid k25
              have HM5 := Lib.hid ((k25.block _ (lt_of_block HM2.out) (fun e => e)).trans HM2.out)
              have HZ5 := Lib.hid ((k25.block _ (lt_of_block HZ2.out) (fun e => e)).trans HZ2.out)
              clear hw5 k25
              have m0 := cell_at HM5.out 0
              have m1 := cell_at HM5.out 1
              have m2 := cell_at HM5.out 2
              simp at m0 m1 m2
              go_upto_region 19 with fail
              have HM := HM5
              have HMR := Lib.hid ((MRow.move HR1.out K2.out HF2.out).keep K25.out (fun _ _ e => e.elim))
              have HNN := HNR
              have HN9 := Lib.hid hn
              have HSZ := Lib.hid (show w.heap.size + 1 + 1 < w5.heap.size by have := K2.out.size; have := K25.out.size; have := HZB9.out; omega)
              have HSX := Lib.hid (fun W kw => Beg.xs (HBIG.out) hB.out K2.out W (K25.out.to1.trans kw))
              go_cut [] (fun W' => ∃ g c, Hid (App w5 W' w.heap.size base most (n + 1) (rs ++ [rec0 ((base : Int) + (n : Int) + 1) num]) g c))
              case first =>
                clear m0 m1 m2
                refine wp_region_held_drew (S := (fun w' => Keep (fun j => j = w.heap.size) w5 w')) (by kernel_rfl) ?_ (fun hHeld => ?_)
                · exact (Keep.refl (fun j => j = w.heap.size) w5).drew
                refine wpAnyH_take (i := 1) (oi := { dst := some 83, op := Op.fieldAddr TM (Operand.tmp 3) 1, type := 0, pos := "law.go:66", after := #[], guard := none }) (v := .pointer (some ⟨w.heap.size, 1, none⟩)) rfl (by kernel_rfl) (by kernel_rfl) (by kernel_rfl) (fun _ _ _ h => h) (Or.inl ⟨by rfl, ?_⟩) (by assumption) ?_
                · (intro w' hSw; (try dsimp only at hSw); go_simp)
                try simp only [Act.put, List.setIfInBounds_toArray, List.set_cons_zero, List.set_cons_succ]
                refine wpAnyH_take (i := 4) (oi := { dst := some 86, op := Op.load TR (Operand.tmp 8), type := TR, pos := "law.go:66", after := #[], guard := none }) (v := .agg #[.int .u64 ((base : Int) + (n : Int) + 1), .int .u64 0, .int .u64 0, .int .u64 num, .int .i64 0, .string ⟨#[]⟩, .string ⟨#[]⟩, .int .u64 0, .int .u64 0]) rfl (by kernel_rfl) (by kernel_rfl) (by kernel_rfl) (fun _ _ _ h => h) (Or.inl ⟨by rfl, ?_⟩) (by assumption) ?_
                · (intro w' hSw; (try dsimp only at hSw); obtain ⟨x0, x1, x2, x3, x4, x5, x6, x7, x8⟩ := HSX.out w' hSw; go_simp)
                try simp only [Act.put, List.setIfInBounds_toArray, List.set_cons_zero, List.set_cons_succ]
                have kk0 : Keep (fun _ => False) w5 w5.drew := (Keep.refl _ _).drew
                refine wpAnyH_ready (rs := [0, 2, 5]) (by kernel_rfl) (by simp) ?_
                refine AllReadyH.cons (o := { dst := some 82, op := Op.buildSlice TS 0 #[], type := TS, pos := "law.go:66", after := #[], guard := none }) rfl (fun K hK => ?_) ?_
                · skip
                  go_simp
                  obtain ⟨v1, hv⟩ : ∃ V, V = (w5.alloc (.cells #[] TR)).drew := ⟨_, rfl⟩
                  rw [← hv]
                  have ks : Keep (fun _ => False) w5 v1 := by rw [hv]; exact ((Keep.refl _ _).alloc _).drew
                  have nz1 := Lib.hid (show v1.heap.size = w5.heap.size + 1 by rw [hv]; simp)
                  have bE1 : v1.heap[w5.heap.size]? = some (.cells #[] TR (0, 0)) := by rw [hv]; exact block_drew (block_new w5 _)
                  clear hv
                  have kk1 : Keep (fun _ => False) w5 v1 := ks
                  have sz1 := kk1.size
                  refine hK.out _ _ kk1.to1 (fun hHeld => ?_)
                  clear hK K
                  try simp only [Act.put, List.setIfInBounds_toArray, List.set_cons_zero, List.set_cons_succ]
                  refine wpAnyH_ready (rs := [2, 5]) (by kernel_rfl) (by simp) ?_
                  refine AllReadyH.cons (o := { dst := some 84, op := Op.load TS (Operand.tmp 83), type := TS, pos := "law.go:66", after := #[{ on := 1, ground := Ground.data }], guard := none }) rfl (fun K hK => ?_) ?_
                  · skip
                    have p1 : v1.cell? ⟨w.heap.size, 1, none⟩ = some (.slice ao n cap) := cell_at ((kk1.block _ (lt_of_block HM.out) (fun e => e)).trans HM.out) 1
                    go_simp
                    refine hK.out _ _ kk1.to1 (fun hHeld => ?_)
                    clear hK K p1
                    try simp only [Act.put, List.setIfInBounds_toArray, List.set_cons_zero, List.set_cons_succ]
                    refine wpAnyH_ready (rs := [3, 5]) (by kernel_rfl) (by simp) ?_
                    refine AllReadyH.cons (o := { dst := some 85, op := Op.call { callee := Callee.builtin Builtin.append, args := #[Operand.tmp 82, Operand.tmp 84], argTypes := #[TS, TS] }, type := TS, pos := "law.go:66", after := #[{ on := 0, ground := Ground.data }, { on := 2, ground := Ground.data }], guard := none }) rfl (fun K hK => ?_) ?_
                    · skip
                      obtain ⟨g1, c1, v2, hrun1, rw2, ks, hg1⟩ := app_first bE1 (HMR.out.keep kk1 (fun _ _ e => e.elim)) HN9.out HNN.out TS
                      go_simp
                      have kk2 : Keep (fun _ => False) w5 v2 := kk1.then ks (fun q e => by have := nz1.out; have := HSZ.out; omega)
                      have sz2 := kk2.size
                      clear hrun1
                      refine hK.out _ _ kk2.to1 (fun hHeld => ?_)
                      clear hK K
                      try simp only [Act.put, List.setIfInBounds_toArray, List.set_cons_zero, List.set_cons_succ]
                      refine wpAnyH_ready (rs := [5]) (by kernel_rfl) (by simp) ?_
                      refine AllReadyH.cons (o := { dst := some 87, op := Op.buildSlice TS 1 #[(0, Operand.tmp 86)], type := TS, pos := "law.go:66", after := #[{ on := 4, ground := Ground.data }], guard := none }) rfl (fun K hK => ?_) ?_
                      · skip
                        go_simp
                        obtain ⟨v3, hv⟩ : ∃ V, V = (v2.alloc (.cells #[.int .u64 ((base : Int) + (n : Int) + 1), .int .u64 0, .int .u64 0, .int .u64 num, .int .i64 0, .string ⟨#[]⟩, .string ⟨#[]⟩, .int .u64 0, .int .u64 0] TR)) := ⟨_, rfl⟩
                        rw [← hv]
                        have ks : Keep (fun _ => False) v2 v3 := by rw [hv]; exact ((Keep.refl _ _).alloc _)
                        have nz3 := Lib.hid (show v3.heap.size = v2.heap.size + 1 by rw [hv]; simp)
                        have bY3 : v3.heap[v2.heap.size]? = some (.cells (rec0 ((base : Int) + (n : Int) + 1) num).cells.toArray TR (0, 0)) := by rw [hv]; exact block_new v2 _
                        clear hv
                        have kk3 : Keep (fun _ => False) w5 v3 := kk2.trans ks
                        have sz3 := kk3.size
                        have rw3 := owns_keep rw2 ks (fun _ _ e => e)
                        refine hK.out _ _ kk3.to1 (fun hHeld => ?_)
                        clear hK K
                        try simp only [Act.put, List.setIfInBounds_toArray, List.set_cons_zero, List.set_cons_succ]
                        refine wpAnyH_ready (rs := [6]) (by kernel_rfl) (by simp) ?_
                        refine AllReadyH.cons (o := { dst := some 88, op := Op.call { callee := Callee.builtin Builtin.append, args := #[Operand.tmp 85, Operand.tmp 87], argTypes := #[TS, TS] }, type := TS, pos := "law.go:66", after := #[{ on := 3, ground := Ground.data }, { on := 5, ground := Ground.data }, { on := 3, ground := Ground.chain }], guard := none }) rfl (fun K hK => ?_) ?_
                        · skip
                          obtain ⟨g2, c2, v4, hrun2, rz4, ks, hg2⟩ := app_second rw3 (rec0 ((base : Int) + (n : Int) + 1) num) bY3 HN9.out TS
                          go_simp
                          have kk4 : Keep (fun _ => False) w5 v4 := kk3.then ks (fun q e => by have := nz1.out; have := nz3.out; have := HSZ.out; omega)
                          have sz4 := kk4.size
                          clear hrun2
                          refine hK.out _ _ kk4.to1 (fun hHeld => ?_)
                          clear hK K
                          try simp only [Act.put, List.setIfInBounds_toArray, List.set_cons_zero, List.set_cons_succ]
                          have pm := (kk4.block _ (lt_of_block HM.out) (fun e => e)).trans HM.out
                          have p1 : v4.cell? ⟨w.heap.size, 1, none⟩ = some (.slice ao n cap) := cell_at pm 1
                          have p2 : v4.frozen? ⟨w.heap.size, 1, none⟩ = false := free_at pm 1
                          clear pm
                          refine wpAnyH_take (i := 7) (oi := { dst := some 89, op := Op.fieldAddr TM (Operand.tmp 3) 1, type := 0, pos := "law.go:66", after := #[{ on := 0, ground := Ground.phase }, { on := 1, ground := Ground.phase }, { on := 2, ground := Ground.phase }, { on := 3, ground := Ground.phase }, { on := 4, ground := Ground.phase }, { on := 5, ground := Ground.phase }, { on := 6, ground := Ground.phase }], guard := none }) (v := .pointer (some ⟨w.heap.size, 1, none⟩)) rfl (by kernel_rfl) (by kernel_rfl) (by kernel_rfl) (fun _ _ _ h => h) (Or.inl ⟨by rfl, ?_⟩) (by assumption) ?_
                          · (intro w' hSw; (try dsimp only at hSw); go_simp)
                          try simp only [Act.put, List.setIfInBounds_toArray, List.set_cons_zero, List.set_cons_succ]
                          refine wpAnyH_ready (rs := [8]) (by kernel_rfl) (by simp) ?_
                          refine AllReadyH.cons (o := { dst := none, op := Op.store TS (Operand.tmp 89) (Operand.tmp 88), type := 0, pos := "law.go:66", after := #[{ on := 7, ground := Ground.data }, { on := 6, ground := Ground.data }, { on := 6, ground := Ground.chain }, { on := 0, ground := Ground.phase }, { on := 1, ground := Ground.phase }, { on := 2, ground := Ground.phase }, { on := 3, ground := Ground.phase }, { on := 4, ground := Ground.phase }, { on := 5, ground := Ground.phase }, { on := 6, ground := Ground.phase }], guard := none }) rfl (fun K hK => ?_) AllReadyH.nil
                          go_simp
                          refine hK.out _ _ (kk4.to1.set1 _ _) (fun hHeld => ?_)
                          clear hK K
                          try simp only [Act.put, List.setIfInBounds_toArray, List.set_cons_zero, List.set_cons_succ]
                          refine wpAnyH_done (by kernel_rfl) ?_ _
                          go_wp2_with fail
                          go_meet
                          exact ⟨_, _, Lib.hid (App.mk2 HM.out kk4 rz4 (by have := nz1.out; have := nz3.out; have := HSZ.out; omega))⟩
                        exact AllReadyH.nil
                      exact AllReadyH.nil
                    refine AllReadyH.cons (o := { dst := some 87, op := Op.buildSlice TS 1 #[(0, Operand.tmp 86)], type := TS, pos := "law.go:66", after := #[{ on := 4, ground := Ground.data }], guard := none }) rfl (fun K hK => ?_) ?_
                    · skip
                      go_simp
                      obtain ⟨v2, hv⟩ : ∃ V, V = (v1.alloc (.cells #[.int .u64 ((base : Int) + (n : Int) + 1), .int .u64 0, .int .u64 0, .int .u64 num, .int .i64 0, .string ⟨#[]⟩, .string ⟨#[]⟩, .int .u64 0, .int .u64 0] TR)) := ⟨_, rfl⟩
                      rw [← hv]
                      have ks : Keep (fun _ => False) v1 v2 := by rw [hv]; exact ((Keep.refl _ _).alloc _)
                      have nz2 := Lib.hid (show v2.heap.size = v1.heap.size + 1 by rw [hv]; simp)
                      have bY2 : v2.heap[v1.heap.size]? = some (.cells (rec0 ((base : Int) + (n : Int) + 1) num).cells.toArray TR (0, 0)) := by rw [hv]; exact block_new v1 _
                      clear hv
                      have kk2 : Keep (fun _ => False) w5 v2 := kk1.trans ks
                      have sz2 := kk2.size
                      have bE2 := (ks.block _ (lt_of_block bE1) (fun e => e)).trans bE1
                      refine hK.out _ _ kk2.to1 (fun hHeld => ?_)
                      clear hK K
                      try simp only [Act.put, List.setIfInBounds_toArray, List.set_cons_zero, List.set_cons_succ]
                      refine wpAnyH_ready (rs := [3]) (by kernel_rfl) (by simp) ?_
                      refine AllReadyH.cons (o := { dst := some 85, op := Op.call { callee := Callee.builtin Builtin.append, args := #[Operand.tmp 82, Operand.tmp 84], argTypes := #[TS, TS] }, type := TS, pos := "law.go:66", after := #[{ on := 0, ground := Ground.data }, { on := 2, ground := Ground.data }], guard := none }) rfl (fun K hK => ?_) ?_
                      · skip
                        obtain ⟨g1, c1, v3, hrun1, rw3, ks, hg1⟩ := app_first bE2 (HMR.out.keep kk2 (fun _ _ e => e.elim)) HN9.out HNN.out TS
                        go_simp
                        have kk3 : Keep (fun _ => False) w5 v3 := kk2.then ks (fun q e => by have := nz1.out; have := nz2.out; have := HSZ.out; omega)
                        have sz3 := kk3.size
                        have bY3 := (ks.block _ (lt_of_block bY2) (fun e => by have := nz1.out; have := nz2.out; have := HSZ.out; omega)).trans bY2
                        clear hrun1
                        refine hK.out _ _ kk3.to1 (fun hHeld => ?_)
                        clear hK K
                        try simp only [Act.put, List.setIfInBounds_toArray, List.set_cons_zero, List.set_cons_succ]
                        refine wpAnyH_ready (rs := [6]) (by kernel_rfl) (by simp) ?_
                        refine AllReadyH.cons (o := { dst := some 88, op := Op.call { callee := Callee.builtin Builtin.append, args := #[Operand.tmp 85, Operand.tmp 87], argTypes := #[TS, TS] }, type := TS, pos := "law.go:66", after := #[{ on := 3, ground := Ground.data }, { on := 5, ground := Ground.data }, { on := 3, ground := Ground.chain }], guard := none }) rfl (fun K hK => ?_) ?_
                        · skip
                          obtain ⟨g2, c2, v4, hrun2, rz4, ks, hg2⟩ := app_second rw3 (rec0 ((base : Int) + (n : Int) + 1) num) bY3 HN9.out TS
                          go_simp
                          have kk4 : Keep (fun _ => False) w5 v4 := kk3.then ks (fun q e => by have := nz1.out; have := nz2.out; have := HSZ.out; omega)
                          have sz4 := kk4.size
                          clear hrun2
                          refine hK.out _ _ kk4.to1 (fun hHeld => ?_)
                          clear hK K
                          try simp only [Act.put, List.setIfInBounds_toArray, List.set_cons_zero, List.set_cons_succ]
                          have pm := (kk4.block _ (lt_of_block HM.out) (fun e => e)).trans HM.out
                          have p1 : v4.cell? ⟨w.heap.size, 1, none⟩ = some (.slice ao n cap) := cell_at pm 1
                          have p2 : v4.frozen? ⟨w.heap.size, 1, none⟩ = false := free_at pm 1
                          clear pm
                          refine wpAnyH_take (i := 7) (oi := { dst := some 89, op := Op.fieldAddr TM (Operand.tmp 3) 1, type := 0, pos := "law.go:66", after := #[{ on := 0, ground := Ground.phase }, { on := 1, ground := Ground.phase }, { on := 2, ground := Ground.phase }, { on := 3, ground := Ground.phase }, { on := 4, ground := Ground.phase }, { on := 5, ground := Ground.phase }, { on := 6, ground := Ground.phase }], guard := none }) (v := .pointer (some ⟨w.heap.size, 1, none⟩)) rfl (by kernel_rfl) (by kernel_rfl) (by kernel_rfl) (fun _ _ _ h => h) (Or.inl ⟨by rfl, ?_⟩) (by assumption) ?_
                          · (intro w' hSw; (try dsimp only at hSw); go_simp)
                          try simp only [Act.put, List.setIfInBounds_toArray, List.set_cons_zero, List.set_cons_succ]
                          refine wpAnyH_ready (rs := [8]) (by kernel_rfl) (by simp) ?_
                          refine AllReadyH.cons (o := { dst := none, op := Op.store TS (Operand.tmp 89) (Operand.tmp 88), type := 0, pos := "law.go:66", after := #[{ on := 7, ground := Ground.data }, { on := 6, ground := Ground.data }, { on := 6, ground := Ground.chain }, { on := 0, ground := Ground.phase }, { on := 1, ground := Ground.phase }, { on := 2, ground := Ground.phase }, { on := 3, ground := Ground.phase }, { on := 4, ground := Ground.phase }, { on := 5, ground := Ground.phase }, { on := 6, ground := Ground.phase }], guard := none }) rfl (fun K hK => ?_) AllReadyH.nil
                          go_simp
                          refine hK.out _ _ (kk4.to1.set1 _ _) (fun hHeld => ?_)
                          clear hK K
                          try simp only [Act.put, List.setIfInBounds_toArray, List.set_cons_zero, List.set_cons_succ]
                          refine wpAnyH_done (by kernel_rfl) ?_ _
                          go_wp2_with fail
                          go_meet
                          exact ⟨_, _, Lib.hid (App.mk2 HM.out kk4 rz4 (by have := nz1.out; have := nz2.out; have := HSZ.out; omega))⟩
                        exact AllReadyH.nil
                      exact AllReadyH.nil
                    exact AllReadyH.nil
                  refine AllReadyH.cons (o := { dst := some 87, op := Op.buildSlice TS 1 #[(0, Operand.tmp 86)], type := TS, pos := "law.go:66", after := #[{ on := 4, ground := Ground.data }], guard := none }) rfl (fun K hK => ?_) ?_
                  · skip
                    go_simp
                    obtain ⟨v2, hv⟩ : ∃ V, V = (v1.alloc (.cells #[.int .u64 ((base : Int) + (n : Int) + 1), .int .u64 0, .int .u64 0, .int .u64 num, .int .i64 0, .string ⟨#[]⟩, .string ⟨#[]⟩, .int .u64 0, .int .u64 0] TR)) := ⟨_, rfl⟩
                    rw [← hv]
                    have ks : Keep (fun _ => False) v1 v2 := by rw [hv]; exact ((Keep.refl _ _).alloc _)
                    have nz2 := Lib.hid (show v2.heap.size = v1.heap.size + 1 by rw [hv]; simp)
                    have bY2 : v2.heap[v1.heap.size]? = some (.cells (rec0 ((base : Int) + (n : Int) + 1) num).cells.toArray TR (0, 0)) := by rw [hv]; exact block_new v1 _
                    clear hv
                    have kk2 : Keep (fun _ => False) w5 v2 := kk1.trans ks
                    have sz2 := kk2.size
                    have bE2 := (ks.block _ (lt_of_block bE1) (fun e => e)).trans bE1
                    refine hK.out _ _ kk2.to1 (fun hHeld => ?_)
                    clear hK K
                    try simp only [Act.put, List.setIfInBounds_toArray, List.set_cons_zero, List.set_cons_succ]
                    refine wpAnyH_ready (rs := [2]) (by kernel_rfl) (by simp) ?_
                    refine AllReadyH.cons (o := { dst := some 84, op := Op.load TS (Operand.tmp 83), type := TS, pos := "law.go:66", after := #[{ on := 1, ground := Ground.data }], guard := none }) rfl (fun K hK => ?_) ?_
                    · skip
                      have p1 : v2.cell? ⟨w.heap.size, 1, none⟩ = some (.slice ao n cap) := cell_at ((kk2.block _ (lt_of_block HM.out) (fun e => e)).trans HM.out) 1
                      go_simp
                      refine hK.out _ _ kk2.to1 (fun hHeld => ?_)
                      clear hK K p1
                      try simp only [Act.put, List.setIfInBounds_toArray, List.set_cons_zero, List.set_cons_succ]
                      refine wpAnyH_ready (rs := [3]) (by kernel_rfl) (by simp) ?_
                      refine AllReadyH.cons (o := { dst := some 85, op := Op.call { callee := Callee.builtin Builtin.append, args := #[Operand.tmp 82, Operand.tmp 84], argTypes := #[TS, TS] }, type := TS, pos := "law.go:66", after := #[{ on := 0, ground := Ground.data }, { on := 2, ground := Ground.data }], guard := none }) rfl (fun K hK => ?_) ?_
                      · skip
                        obtain ⟨g1, c1, v3, hrun1, rw3, ks, hg1⟩ := app_first bE2 (HMR.out.keep kk2 (fun _ _ e => e.elim)) HN9.out HNN.out TS
                        go_simp
                        have kk3 : Keep (fun _ => False) w5 v3 := kk2.then ks (fun q e => by have := nz1.out; have := nz2.out; have := HSZ.out; omega)
                        have sz3 := kk3.size
                        have bY3 := (ks.block _ (lt_of_block bY2) (fun e => by have := nz1.out; have := nz2.out; have := HSZ.out; omega)).trans bY2
                        clear hrun1
                        refine hK.out _ _ kk3.to1 (fun hHeld => ?_)
                        clear hK K
                        try simp only [Act.put, List.setIfInBounds_toArray, List.set_cons_zero, List.set_cons_succ]
                        refine wpAnyH_ready (rs := [6]) (by kernel_rfl) (by simp) ?_
                        refine AllReadyH.cons (o := { dst := some 88, op := Op.call { callee := Callee.builtin Builtin.append, args := #[Operand.tmp 85, Operand.tmp 87], argTypes := #[TS, TS] }, type := TS, pos := "law.go:66", after := #[{ on := 3, ground := Ground.data }, { on := 5, ground := Ground.data }, { on := 3, ground := Ground.chain }], guard := none }) rfl (fun K hK => ?_) ?_
                        · skip
                          obtain ⟨g2, c2, v4, hrun2, rz4, ks, hg2⟩ := app_second rw3 (rec0 ((base : Int) + (n : Int) + 1) num) bY3 HN9.out TS
                          go_simp
                          have kk4 : Keep (fun _ => False) w5 v4 := kk3.then ks (fun q e => by have := nz1.out; have := nz2.out; have := HSZ.out; omega)
                          have sz4 := kk4.size
                          clear hrun2
                          refine hK.out _ _ kk4.to1 (fun hHeld => ?_)
                          clear hK K
                          try simp only [Act.put, List.setIfInBounds_toArray, List.set_cons_zero, List.set_cons_succ]
                          have pm := (kk4.block _ (lt_of_block HM.out) (fun e => e)).trans HM.out
                          have p1 : v4.cell? ⟨w.heap.size, 1, none⟩ = some (.slice ao n cap) := cell_at pm 1
                          have p2 : v4.frozen? ⟨w.heap.size, 1, none⟩ = false := free_at pm 1
                          clear pm
                          refine wpAnyH_take (i := 7) (oi := { dst := some 89, op := Op.fieldAddr TM (Operand.tmp 3) 1, type := 0, pos := "law.go:66", after := #[{ on := 0, ground := Ground.phase }, { on := 1, ground := Ground.phase }, { on := 2, ground := Ground.phase }, { on := 3, ground := Ground.phase }, { on := 4, ground := Ground.phase }, { on := 5, ground := Ground.phase }, { on := 6, ground := Ground.phase }], guard := none }) (v := .pointer (some ⟨w.heap.size, 1, none⟩)) rfl (by kernel_rfl) (by kernel_rfl) (by kernel_rfl) (fun _ _ _ h => h) (Or.inl ⟨by rfl, ?_⟩) (by assumption) ?_
                          · (intro w' hSw; (try dsimp only at hSw); go_simp)
                          try simp only [Act.put, List.setIfInBounds_toArray, List.set_cons_zero, List.set_cons_succ]
                          refine wpAnyH_ready (rs := [8]) (by kernel_rfl) (by simp) ?_
                          refine AllReadyH.cons (o := { dst := none, op := Op.store TS (Operand.tmp 89) (Operand.tmp 88), type := 0, pos := "law.go:66", after := #[{ on := 7, ground := Ground.data }, { on := 6, ground := Ground.data }, { on := 6, ground := Ground.chain }, { on := 0, ground := Ground.phase }, { on := 1, ground := Ground.phase }, { on := 2, ground := Ground.phase }, { on := 3, ground := Ground.phase }, { on := 4, ground := Ground.phase }, { on := 5, ground := Ground.phase }, { on := 6, ground := Ground.phase }], guard := none }) rfl (fun K hK => ?_) AllReadyH.nil
                          go_simp
                          refine hK.out _ _ (kk4.to1.set1 _ _) (fun hHeld => ?_)
                          clear hK K
                          try simp only [Act.put, List.setIfInBounds_toArray, List.set_cons_zero, List.set_cons_succ]
                          refine wpAnyH_done (by kernel_rfl) ?_ _
                          go_wp2_with fail
                          go_meet
                          exact ⟨_, _, Lib.hid (App.mk2 HM.out kk4 rz4 (by have := nz1.out; have := nz2.out; have := HSZ.out; omega))⟩
                        exact AllReadyH.nil
                      exact AllReadyH.nil
                    exact AllReadyH.nil
                  exact AllReadyH.nil
                refine AllReadyH.cons (o := { dst := some 84, op := Op.load TS (Operand.tmp 83), type := TS, pos := "law.go:66", after := #[{ on := 1, ground := Ground.data }], guard := none }) rfl (fun K hK => ?_) ?_
                · skip
                  have p1 : w5.cell? ⟨w.heap.size, 1, none⟩ = some (.slice ao n cap) := cell_at ((kk0.block _ (lt_of_block HM.out) (fun e => e)).trans HM.out) 1
                  go_simp
                  refine hK.out _ _ kk0.to1 (fun hHeld => ?_)
                  clear hK K p1
                  try simp only [Act.put, List.setIfInBounds_toArray, List.set_cons_zero, List.set_cons_succ]
                  refine wpAnyH_ready (rs := [0, 5]) (by kernel_rfl) (by simp) ?_
                  refine AllReadyH.cons (o := { dst := some 82, op := Op.buildSlice TS 0 #[], type := TS, pos := "law.go:66", after := #[], guard := none }) rfl (fun K hK => ?_) ?_
                  · skip
                    go_simp
                    obtain ⟨v1, hv⟩ : ∃ V, V = (w5.alloc (.cells #[] TR)).drew := ⟨_, rfl⟩
                    rw [← hv]
                    have ks : Keep (fun _ => False) w5 v1 := by rw [hv]; exact ((Keep.refl _ _).alloc _).drew
                    have nz1 := Lib.hid (show v1.heap.size = w5.heap.size + 1 by rw [hv]; simp)
                    have bE1 : v1.heap[w5.heap.size]? = some (.cells #[] TR (0, 0)) := by rw [hv]; exact block_drew (block_new w5 _)
                    clear hv
                    have kk1 : Keep (fun _ => False) w5 v1 := ks
                    have sz1 := kk1.size
                    refine hK.out _ _ kk1.to1 (fun hHeld => ?_)
                    clear hK K
                    try simp only [Act.put, List.setIfInBounds_toArray, List.set_cons_zero, List.set_cons_succ]
                    refine wpAnyH_ready (rs := [3, 5]) (by kernel_rfl) (by simp) ?_
                    refine AllReadyH.cons (o := { dst := some 85, op := Op.call { callee := Callee.builtin Builtin.append, args := #[Operand.tmp 82, Operand.tmp 84], argTypes := #[TS, TS] }, type := TS, pos := "law.go:66", after := #[{ on := 0, ground := Ground.data }, { on := 2, ground := Ground.data }], guard := none }) rfl (fun K hK => ?_) ?_
                    · skip
                      obtain ⟨g1, c1, v2, hrun1, rw2, ks, hg1⟩ := app_first bE1 (HMR.out.keep kk1 (fun _ _ e => e.elim)) HN9.out HNN.out TS
                      go_simp
                      have kk2 : Keep (fun _ => False) w5 v2 := kk1.then ks (fun q e => by have := nz1.out; have := HSZ.out; omega)
                      have sz2 := kk2.size
                      clear hrun1
                      refine hK.out _ _ kk2.to1 (fun hHeld => ?_)
                      clear hK K
                      try simp only [Act.put, List.setIfInBounds_toArray, List.set_cons_zero, List.set_cons_succ]
                      refine wpAnyH_ready (rs := [5]) (by kernel_rfl) (by simp) ?_
                      refine AllReadyH.cons (o := { dst := some 87, op := Op.buildSlice TS 1 #[(0, Operand.tmp 86)], type := TS, pos := "law.go:66", after := #[{ on := 4, ground := Ground.data }], guard := none }) rfl (fun K hK => ?_) ?_
                      · skip
                        go_simp
                        obtain ⟨v3, hv⟩ : ∃ V, V = (v2.alloc (.cells #[.int .u64 ((base : Int) + (n : Int) + 1), .int .u64 0, .int .u64 0, .int .u64 num, .int .i64 0, .string ⟨#[]⟩, .string ⟨#[]⟩, .int .u64 0, .int .u64 0] TR)) := ⟨_, rfl⟩
                        rw [← hv]
                        have ks : Keep (fun _ => False) v2 v3 := by rw [hv]; exact ((Keep.refl _ _).alloc _)
                        have nz3 := Lib.hid (show v3.heap.size = v2.heap.size + 1 by rw [hv]; simp)
                        have bY3 : v3.heap[v2.heap.size]? = some (.cells (rec0 ((base : Int) + (n : Int) + 1) num).cells.toArray TR (0, 0)) := by rw [hv]; exact block_new v2 _
                        clear hv
                        have kk3 : Keep (fun _ => False) w5 v3 := kk2.trans ks
                        have sz3 := kk3.size
                        have rw3 := owns_keep rw2 ks (fun _ _ e => e)
                        refine hK.out _ _ kk3.to1 (fun hHeld => ?_)
                        clear hK K
                        try simp only [Act.put, List.setIfInBounds_toArray, List.set_cons_zero, List.set_cons_succ]
                        refine wpAnyH_ready (rs := [6]) (by kernel_rfl) (by simp) ?_
                        refine AllReadyH.cons (o := { dst := some 88, op := Op.call { callee := Callee.builtin Builtin.append, args := #[Operand.tmp 85, Operand.tmp 87], argTypes := #[TS, TS] }, type := TS, pos := "law.go:66", after := #[{ on := 3, ground := Ground.data }, { on := 5, ground := Ground.data }, { on := 3, ground := Ground.chain }], guard := none }) rfl (fun K hK => ?_) ?_
                        · skip
                          obtain ⟨g2, c2, v4, hrun2, rz4, ks, hg2⟩ := app_second rw3 (rec0 ((base : Int) + (n : Int) + 1) num) bY3 HN9.out TS
                          go_simp
                          have kk4 : Keep (fun _ => False) w5 v4 := kk3.then ks (fun q e => by have := nz1.out; have := nz3.out; have := HSZ.out; omega)
                          have sz4 := kk4.size
                          clear hrun2
                          refine hK.out _ _ kk4.to1 (fun hHeld => ?_)
                          clear hK K
                          try simp only [Act.put, List.setIfInBounds_toArray, List.set_cons_zero, List.set_cons_succ]
                          have pm := (kk4.block _ (lt_of_block HM.out) (fun e => e)).trans HM.out
                          have p1 : v4.cell? ⟨w.heap.size, 1, none⟩ = some (.slice ao n cap) := cell_at pm 1
                          have p2 : v4.frozen? ⟨w.heap.size, 1, none⟩ = false := free_at pm 1
                          clear pm
                          refine wpAnyH_take (i := 7) (oi := { dst := some 89, op := Op.fieldAddr TM (Operand.tmp 3) 1, type := 0, pos := "law.go:66", after := #[{ on := 0, ground := Ground.phase }, { on := 1, ground := Ground.phase }, { on := 2, ground := Ground.phase }, { on := 3, ground := Ground.phase }, { on := 4, ground := Ground.phase }, { on := 5, ground := Ground.phase }, { on := 6, ground := Ground.phase }], guard := none }) (v := .pointer (some ⟨w.heap.size, 1, none⟩)) rfl (by kernel_rfl) (by kernel_rfl) (by kernel_rfl) (fun _ _ _ h => h) (Or.inl ⟨by rfl, ?_⟩) (by assumption) ?_
                          · (intro w' hSw; (try dsimp only at hSw); go_simp)
                          try simp only [Act.put, List.setIfInBounds_toArray, List.set_cons_zero, List.set_cons_succ]
                          refine wpAnyH_ready (rs := [8]) (by kernel_rfl) (by simp) ?_
                          refine AllReadyH.cons (o := { dst := none, op := Op.store TS (Operand.tmp 89) (Operand.tmp 88), type := 0, pos := "law.go:66", after := #[{ on := 7, ground := Ground.data }, { on := 6, ground := Ground.data }, { on := 6, ground := Ground.chain }, { on := 0, ground := Ground.phase }, { on := 1, ground := Ground.phase }, { on := 2, ground := Ground.phase }, { on := 3, ground := Ground.phase }, { on := 4, ground := Ground.phase }, { on := 5, ground := Ground.phase }, { on := 6, ground := Ground.phase }], guard := none }) rfl (fun K hK => ?_) AllReadyH.nil
                          go_simp
                          refine hK.out _ _ (kk4.to1.set1 _ _) (fun hHeld => ?_)
                          clear hK K
                          try simp only [Act.put, List.setIfInBounds_toArray, List.set_cons_zero, List.set_cons_succ]
                          refine wpAnyH_done (by kernel_rfl) ?_ _
                          go_wp2_with fail
                          go_meet
                          exact ⟨_, _, Lib.hid (App.mk2 HM.out kk4 rz4 (by have := nz1.out; have := nz3.out; have := HSZ.out; omega))⟩
                        exact AllReadyH.nil
                      exact AllReadyH.nil
                    refine AllReadyH.cons (o := { dst := some 87, op := Op.buildSlice TS 1 #[(0, Operand.tmp 86)], type := TS, pos := "law.go:66", after := #[{ on := 4, ground := Ground.data }], guard := none }) rfl (fun K hK => ?_) ?_
                    · skip
                      go_simp
                      obtain ⟨v2, hv⟩ : ∃ V, V = (v1.alloc (.cells #[.int .u64 ((base : Int) + (n : Int) + 1), .int .u64 0, .int .u64 0, .int .u64 num, .int .i64 0, .string ⟨#[]⟩, .string ⟨#[]⟩, .int .u64 0, .int .u64 0] TR)) := ⟨_, rfl⟩
                      rw [← hv]
                      have ks : Keep (fun _ => False) v1 v2 := by rw [hv]; exact ((Keep.refl _ _).alloc _)
                      have nz2 := Lib.hid (show v2.heap.size = v1.heap.size + 1 by rw [hv]; simp)
                      have bY2 : v2.heap[v1.heap.size]? = some (.cells (rec0 ((base : Int) + (n : Int) + 1) num).cells.toArray TR (0, 0)) := by rw [hv]; exact block_new v1 _
                      clear hv
                      have kk2 : Keep (fun _ => False) w5 v2 := kk1.trans ks
                      have sz2 := kk2.size
                      have bE2 := (ks.block _ (lt_of_block bE1) (fun e => e)).trans bE1
                      refine hK.out _ _ kk2.to1 (fun hHeld => ?_)
                      clear hK K
                      try simp only [Act.put, List.setIfInBounds_toArray, List.set_cons_zero, List.set_cons_succ]
                      refine wpAnyH_ready (rs := [3]) (by kernel_rfl) (by simp) ?_
                      refine AllReadyH.cons (o := { dst := some 85, op := Op.call { callee := Callee.builtin Builtin.append, args := #[Operand.tmp 82, Operand.tmp 84], argTypes := #[TS, TS] }, type := TS, pos := "law.go:66", after := #[{ on := 0, ground := Ground.data }, { on := 2, ground := Ground.data }], guard := none }) rfl (fun K hK => ?_) ?_
                      · skip
                        obtain ⟨g1, c1, v3, hrun1, rw3, ks, hg1⟩ := app_first bE2 (HMR.out.keep kk2 (fun _ _ e => e.elim)) HN9.out HNN.out TS
                        go_simp
                        have kk3 : Keep (fun _ => False) w5 v3 := kk2.then ks (fun q e => by have := nz1.out; have := nz2.out; have := HSZ.out; omega)
                        have sz3 := kk3.size
                        have bY3 := (ks.block _ (lt_of_block bY2) (fun e => by have := nz1.out; have := nz2.out; have := HSZ.out; omega)).trans bY2
                        clear hrun1
                        refine hK.out _ _ kk3.to1 (fun hHeld => ?_)
                        clear hK K
                        try simp only [Act.put, List.setIfInBounds_toArray, List.set_cons_zero, List.set_cons_succ]
                        refine wpAnyH_ready (rs := [6]) (by kernel_rfl) (by simp) ?_
                        refine AllReadyH.cons (o := { dst := some 88, op := Op.call { callee := Callee.builtin Builtin.append, args := #[Operand.tmp 85, Operand.tmp 87], argTypes := #[TS, TS] }, type := TS, pos := "law.go:66", after := #[{ on := 3, ground := Ground.data }, { on := 5, ground := Ground.data }, { on := 3, ground := Ground.chain }], guard := none }) rfl (fun K hK => ?_) ?_
                        · skip
                          obtain ⟨g2, c2, v4, hrun2, rz4, ks, hg2⟩ := app_second rw3 (rec0 ((base : Int) + (n : Int) + 1) num) bY3 HN9.out TS
                          go_simp
                          have kk4 : Keep (fun _ => False) w5 v4 := kk3.then ks (fun q e => by have := nz1.out; have := nz2.out; have := HSZ.out; omega)
                          have sz4 := kk4.size
                          clear hrun2
                          refine hK.out _ _ kk4.to1 (fun hHeld => ?_)
                          clear hK K
                          try simp only [Act.put, List.setIfInBounds_toArray, List.set_cons_zero, List.set_cons_succ]
                          have pm := (kk4.block _ (lt_of_block HM.out) (fun e => e)).trans HM.out
                          have p1 : v4.cell? ⟨w.heap.size, 1, none⟩ = some (.slice ao n cap) := cell_at pm 1
                          have p2 : v4.frozen? ⟨w.heap.size, 1, none⟩ = false := free_at pm 1
                          clear pm
                          refine wpAnyH_take (i := 7) (oi := { dst := some 89, op := Op.fieldAddr TM (Operand.tmp 3) 1, type := 0, pos := "law.go:66", after := #[{ on := 0, ground := Ground.phase }, { on := 1, ground := Ground.phase }, { on := 2, ground := Ground.phase }, { on := 3, ground := Ground.phase }, { on := 4, ground := Ground.phase }, { on := 5, ground := Ground.phase }, { on := 6, ground := Ground.phase }], guard := none }) (v := .pointer (some ⟨w.heap.size, 1, none⟩)) rfl (by kernel_rfl) (by kernel_rfl) (by kernel_rfl) (fun _ _ _ h => h) (Or.inl ⟨by rfl, ?_⟩) (by assumption) ?_
                          · (intro w' hSw; (try dsimp only at hSw); go_simp)
                          try simp only [Act.put, List.setIfInBounds_toArray, List.set_cons_zero, List.set_cons_succ]
                          refine wpAnyH_ready (rs := [8]) (by kernel_rfl) (by simp) ?_
                          refine AllReadyH.cons (o := { dst := none, op := Op.store TS (Operand.tmp 89) (Operand.tmp 88), type := 0, pos := "law.go:66", after := #[{ on := 7, ground := Ground.data }, { on := 6, ground := Ground.data }, { on := 6, ground := Ground.chain }, { on := 0, ground := Ground.phase }, { on := 1, ground := Ground.phase }, { on := 2, ground := Ground.phase }, { on := 3, ground := Ground.phase }, { on := 4, ground := Ground.phase }, { on := 5, ground := Ground.phase }, { on := 6, ground := Ground.phase }], guard := none }) rfl (fun K hK => ?_) AllReadyH.nil
                          go_simp
                          refine hK.out _ _ (kk4.to1.set1 _ _) (fun hHeld => ?_)
                          clear hK K
                          try simp only [Act.put, List.setIfInBounds_toArray, List.set_cons_zero, List.set_cons_succ]
                          refine wpAnyH_done (by kernel_rfl) ?_ _
                          go_wp2_with fail
                          go_meet
                          exact ⟨_, _, Lib.hid (App.mk2 HM.out kk4 rz4 (by have := nz1.out; have := nz2.out; have := HSZ.out; omega))⟩
                        exact AllReadyH.nil
                      exact AllReadyH.nil
                    exact AllReadyH.nil
                  refine AllReadyH.cons (o := { dst := some 87, op := Op.buildSlice TS 1 #[(0, Operand.tmp 86)], type := TS, pos := "law.go:66", after := #[{ on := 4, ground := Ground.data }], guard := none }) rfl (fun K hK => ?_) ?_
                  · skip
                    go_simp
                    obtain ⟨v1, hv⟩ : ∃ V, V = (w5.alloc (.cells #[.int .u64 ((base : Int) + (n : Int) + 1), .int .u64 0, .int .u64 0, .int .u64 num, .int .i64 0, .string ⟨#[]⟩, .string ⟨#[]⟩, .int .u64 0, .int .u64 0] TR)).drew := ⟨_, rfl⟩
                    rw [← hv]
                    have ks : Keep (fun _ => False) w5 v1 := by rw [hv]; exact ((Keep.refl _ _).alloc _).drew
                    have nz1 := Lib.hid (show v1.heap.size = w5.heap.size + 1 by rw [hv]; simp)
                    have bY1 : v1.heap[w5.heap.size]? = some (.cells (rec0 ((base : Int) + (n : Int) + 1) num).cells.toArray TR (0, 0)) := by rw [hv]; exact block_drew (block_new w5 _)
                    clear hv
                    have kk1 : Keep (fun _ => False) w5 v1 := ks
                    have sz1 := kk1.size
                    refine hK.out _ _ kk1.to1 (fun hHeld => ?_)
                    clear hK K
                    try simp only [Act.put, List.setIfInBounds_toArray, List.set_cons_zero, List.set_cons_succ]
                    refine wpAnyH_ready (rs := [0]) (by kernel_rfl) (by simp) ?_
                    refine AllReadyH.cons (o := { dst := some 82, op := Op.buildSlice TS 0 #[], type := TS, pos := "law.go:66", after := #[], guard := none }) rfl (fun K hK => ?_) ?_
                    · skip
                      go_simp
                      obtain ⟨v2, hv⟩ : ∃ V, V = (v1.alloc (.cells #[] TR)) := ⟨_, rfl⟩
                      rw [← hv]
                      have ks : Keep (fun _ => False) v1 v2 := by rw [hv]; exact ((Keep.refl _ _).alloc _)
                      have nz2 := Lib.hid (show v2.heap.size = v1.heap.size + 1 by rw [hv]; simp)
                      have bE2 : v2.heap[v1.heap.size]? = some (.cells #[] TR (0, 0)) := by rw [hv]; exact block_new v1 _
                      clear hv
                      have kk2 : Keep (fun _ => False) w5 v2 := kk1.trans ks
                      have sz2 := kk2.size
                      have bY2 := (ks.block _ (lt_of_block bY1) (fun e => e)).trans bY1
                      refine hK.out _ _ kk2.to1 (fun hHeld => ?_)
                      clear hK K
                      try simp only [Act.put, List.setIfInBounds_toArray, List.set_cons_zero, List.set_cons_succ]
                      refine wpAnyH_ready (rs := [3]) (by kernel_rfl) (by simp) ?_
                      refine AllReadyH.cons (o := { dst := some 85, op := Op.call { callee := Callee.builtin Builtin.append, args := #[Operand.tmp 82, Operand.tmp 84], argTypes := #[TS, TS] }, type := TS, pos := "law.go:66", after := #[{ on := 0, ground := Ground.data }, { on := 2, ground := Ground.data }], guard := none }) rfl (fun K hK => ?_) ?_
                      · skip
                        obtain ⟨g1, c1, v3, hrun1, rw3, ks, hg1⟩ := app_first bE2 (HMR.out.keep kk2 (fun _ _ e => e.elim)) HN9.out HNN.out TS
                        go_simp
                        have kk3 : Keep (fun _ => False) w5 v3 := kk2.then ks (fun q e => by have := nz1.out; have := nz2.out; have := HSZ.out; omega)
                        have sz3 := kk3.size
                        have bY3 := (ks.block _ (lt_of_block bY2) (fun e => by have := nz1.out; have := nz2.out; have := HSZ.out; omega)).trans bY2
                        clear hrun1
                        refine hK.out _ _ kk3.to1 (fun hHeld => ?_)
                        clear hK K
                        try simp only [Act.put, List.setIfInBounds_toArray, List.set_cons_zero, List.set_cons_succ]
                        refine wpAnyH_ready (rs := [6]) (by kernel_rfl) (by simp) ?_
                        refine AllReadyH.cons (o := { dst := some 88, op := Op.call { callee := Callee.builtin Builtin.append, args := #[Operand.tmp 85, Operand.tmp 87], argTypes := #[TS, TS] }, type := TS, pos := "law.go:66", after := #[{ on := 3, ground := Ground.data }, { on := 5, ground := Ground.data }, { on := 3, ground := Ground.chain }], guard := none }) rfl (fun K hK => ?_) ?_
                        · skip
                          obtain ⟨g2, c2, v4, hrun2, rz4, ks, hg2⟩ := app_second rw3 (rec0 ((base : Int) + (n : Int) + 1) num) bY3 HN9.out TS
                          go_simp
                          have kk4 : Keep (fun _ => False) w5 v4 := kk3.then ks (fun q e => by have := nz1.out; have := nz2.out; have := HSZ.out; omega)
                          have sz4 := kk4.size
                          clear hrun2
                          refine hK.out _ _ kk4.to1 (fun hHeld => ?_)
                          clear hK K
                          try simp only [Act.put, List.setIfInBounds_toArray, List.set_cons_zero, List.set_cons_succ]
                          have pm := (kk4.block _ (lt_of_block HM.out) (fun e => e)).trans HM.out
                          have p1 : v4.cell? ⟨w.heap.size, 1, none⟩ = some (.slice ao n cap) := cell_at pm 1
                          have p2 : v4.frozen? ⟨w.heap.size, 1, none⟩ = false := free_at pm 1
                          clear pm
                          refine wpAnyH_take (i := 7) (oi := { dst := some 89, op := Op.fieldAddr TM (Operand.tmp 3) 1, type := 0, pos := "law.go:66", after := #[{ on := 0, ground := Ground.phase }, { on := 1, ground := Ground.phase }, { on := 2, ground := Ground.phase }, { on := 3, ground := Ground.phase }, { on := 4, ground := Ground.phase }, { on := 5, ground := Ground.phase }, { on := 6, ground := Ground.phase }], guard := none }) (v := .pointer (some ⟨w.heap.size, 1, none⟩)) rfl (by kernel_rfl) (by kernel_rfl) (by kernel_rfl) (fun _ _ _ h => h) (Or.inl ⟨by rfl, ?_⟩) (by assumption) ?_
                          · (intro w' hSw; (try dsimp only at hSw); go_simp)
                          try simp only [Act.put, List.setIfInBounds_toArray, List.set_cons_zero, List.set_cons_succ]
                          refine wpAnyH_ready (rs := [8]) (by kernel_rfl) (by simp) ?_
                          refine AllReadyH.cons (o := { dst := none, op := Op.store TS (Operand.tmp 89) (Operand.tmp 88), type := 0, pos := "law.go:66", after := #[{ on := 7, ground := Ground.data }, { on := 6, ground := Ground.data }, { on := 6, ground := Ground.chain }, { on := 0, ground := Ground.phase }, { on := 1, ground := Ground.phase }, { on := 2, ground := Ground.phase }, { on := 3, ground := Ground.phase }, { on := 4, ground := Ground.phase }, { on := 5, ground := Ground.phase }, { on := 6, ground := Ground.phase }], guard := none }) rfl (fun K hK => ?_) AllReadyH.nil
                          go_simp
                          refine hK.out _ _ (kk4.to1.set1 _ _) (fun hHeld => ?_)
                          clear hK K
                          try simp only [Act.put, List.setIfInBounds_toArray, List.set_cons_zero, List.set_cons_succ]
                          refine wpAnyH_done (by kernel_rfl) ?_ _
                          go_wp2_with fail
                          go_meet
                          exact ⟨_, _, Lib.hid (App.mk2 HM.out kk4 rz4 (by have := nz1.out; have := nz2.out; have := HSZ.out; omega))⟩
                        exact AllReadyH.nil
                      exact AllReadyH.nil
                    exact AllReadyH.nil
                  exact AllReadyH.nil
                refine AllReadyH.cons (o := { dst := some 87, op := Op.buildSlice TS 1 #[(0, Operand.tmp 86)], type := TS, pos := "law.go:66", after := #[{ on := 4, ground := Ground.data }], guard := none }) rfl (fun K hK => ?_) ?_
                · skip
                  go_simp
                  obtain ⟨v1, hv⟩ : ∃ V, V = (w5.alloc (.cells #[.int .u64 ((base : Int) + (n : Int) + 1), .int .u64 0, .int .u64 0, .int .u64 num, .int .i64 0, .string ⟨#[]⟩, .string ⟨#[]⟩, .int .u64 0, .int .u64 0] TR)).drew := ⟨_, rfl⟩
                  rw [← hv]
                  have ks : Keep (fun _ => False) w5 v1 := by rw [hv]; exact ((Keep.refl _ _).alloc _).drew
                  have nz1 := Lib.hid (show v1.heap.size = w5.heap.size + 1 by rw [hv]; simp)
                  have bY1 : v1.heap[w5.heap.size]? = some (.cells (rec0 ((base : Int) + (n : Int) + 1) num).cells.toArray TR (0, 0)) := by rw [hv]; exact block_drew (block_new w5 _)
                  clear hv
                  have kk1 : Keep (fun _ => False) w5 v1 := ks
                  have sz1 := kk1.size
                  refine hK.out _ _ kk1.to1 (fun hHeld => ?_)
                  clear hK K
                  try simp only [Act.put, List.setIfInBounds_toArray, List.set_cons_zero, List.set_cons_succ]
                  refine wpAnyH_ready (rs := [0, 2]) (by kernel_rfl) (by simp) ?_
                  refine AllReadyH.cons (o := { dst := some 82, op := Op.buildSlice TS 0 #[], type := TS, pos := "law.go:66", after := #[], guard := none }) rfl (fun K hK => ?_) ?_
                  · skip
                    go_simp
                    obtain ⟨v2, hv⟩ : ∃ V, V = (v1.alloc (.cells #[] TR)) := ⟨_, rfl⟩
                    rw [← hv]
                    have ks : Keep (fun _ => False) v1 v2 := by rw [hv]; exact ((Keep.refl _ _).alloc _)
                    have nz2 := Lib.hid (show v2.heap.size = v1.heap.size + 1 by rw [hv]; simp)
                    have bE2 : v2.heap[v1.heap.size]? = some (.cells #[] TR (0, 0)) := by rw [hv]; exact block_new v1 _
                    clear hv
                    have kk2 : Keep (fun _ => False) w5 v2 := kk1.trans ks
                    have sz2 := kk2.size
                    have bY2 := (ks.block _ (lt_of_block bY1) (fun e => e)).trans bY1
                    refine hK.out _ _ kk2.to1 (fun hHeld => ?_)
                    clear hK K
                    try simp only [Act.put, List.setIfInBounds_toArray, List.set_cons_zero, List.set_cons_succ]
                    refine wpAnyH_ready (rs := [2]) (by kernel_rfl) (by simp) ?_
                    refine AllReadyH.cons (o := { dst := some 84, op := Op.load TS (Operand.tmp 83), type := TS, pos := "law.go:66", after := #[{ on := 1, ground := Ground.data }], guard := none }) rfl (fun K hK => ?_) ?_
                    · skip
                      have p1 : v2.cell? ⟨w.heap.size, 1, none⟩ = some (.slice ao n cap) := cell_at ((kk2.block _ (lt_of_block HM.out) (fun e => e)).trans HM.out) 1
                      go_simp
                      refine hK.out _ _ kk2.to1 (fun hHeld => ?_)
                      clear hK K p1
                      try simp only [Act.put, List.setIfInBounds_toArray, List.set_cons_zero, List.set_cons_succ]
                      refine wpAnyH_ready (rs := [3]) (by kernel_rfl) (by simp) ?_
                      refine AllReadyH.cons (o := { dst := some 85, op := Op.call { callee := Callee.builtin Builtin.append, args := #[Operand.tmp 82, Operand.tmp 84], argTypes := #[TS, TS] }, type := TS, pos := "law.go:66", after := #[{ on := 0, ground := Ground.data }, { on := 2, ground := Ground.data }], guard := none }) rfl (fun K hK => ?_) ?_
                      · skip
                        obtain ⟨g1, c1, v3, hrun1, rw3, ks, hg1⟩ := app_first bE2 (HMR.out.keep kk2 (fun _ _ e => e.elim)) HN9.out HNN.out TS
                        go_simp
                        have kk3 : Keep (fun _ => False) w5 v3 := kk2.then ks (fun q e => by have := nz1.out; have := nz2.out; have := HSZ.out; omega)
                        have sz3 := kk3.size
                        have bY3 := (ks.block _ (lt_of_block bY2) (fun e => by have := nz1.out; have := nz2.out; have := HSZ.out; omega)).trans bY2
                        clear hrun1
                        refine hK.out _ _ kk3.to1 (fun hHeld => ?_)
                        clear hK K
                        try simp only [Act.put, List.setIfInBounds_toArray, List.set_cons_zero, List.set_cons_succ]
                        refine wpAnyH_ready (rs := [6]) (by kernel_rfl) (by simp) ?_
                        refine AllReadyH.cons (o := { dst := some 88, op := Op.call { callee := Callee.builtin Builtin.append, args := #[Operand.tmp 85, Operand.tmp 87], argTypes := #[TS, TS] }, type := TS, pos := "law.go:66", after := #[{ on := 3, ground := Ground.data }, { on := 5, ground := Ground.data }, { on := 3, ground := Ground.chain }], guard := none }) rfl (fun K hK => ?_) ?_
                        · skip
                          obtain ⟨g2, c2, v4, hrun2, rz4, ks, hg2⟩ := app_second rw3 (rec0 ((base : Int) + (n : Int) + 1) num) bY3 HN9.out TS
                          go_simp
                          have kk4 : Keep (fun _ => False) w5 v4 := kk3.then ks (fun q e => by have := nz1.out; have := nz2.out; have := HSZ.out; omega)
                          have sz4 := kk4.size
                          clear hrun2
                          refine hK.out _ _ kk4.to1 (fun hHeld => ?_)
                          clear hK K
                          try simp only [Act.put, List.setIfInBounds_toArray, List.set_cons_zero, List.set_cons_succ]
                          have pm := (kk4.block _ (lt_of_block HM.out) (fun e => e)).trans HM.out
                          have p1 : v4.cell? ⟨w.heap.size, 1, none⟩ = some (.slice ao n cap) := cell_at pm 1
                          have p2 : v4.frozen? ⟨w.heap.size, 1, none⟩ = false := free_at pm 1
                          clear pm
                          refine wpAnyH_take (i := 7) (oi := { dst := some 89, op := Op.fieldAddr TM (Operand.tmp 3) 1, type := 0, pos := "law.go:66", after := #[{ on := 0, ground := Ground.phase }, { on := 1, ground := Ground.phase }, { on := 2, ground := Ground.phase }, { on := 3, ground := Ground.phase }, { on := 4, ground := Ground.phase }, { on := 5, ground := Ground.phase }, { on := 6, ground := Ground.phase }], guard := none }) (v := .pointer (some ⟨w.heap.size, 1, none⟩)) rfl (by kernel_rfl) (by kernel_rfl) (by kernel_rfl) (fun _ _ _ h => h) (Or.inl ⟨by rfl, ?_⟩) (by assumption) ?_
                          · (intro w' hSw; (try dsimp only at hSw); go_simp)
                          try simp only [Act.put, List.setIfInBounds_toArray, List.set_cons_zero, List.set_cons_succ]
                          refine wpAnyH_ready (rs := [8]) (by kernel_rfl) (by simp) ?_
                          refine AllReadyH.cons (o := { dst := none, op := Op.store TS (Operand.tmp 89) (Operand.tmp 88), type := 0, pos := "law.go:66", after := #[{ on := 7, ground := Ground.data }, { on := 6, ground := Ground.data }, { on := 6, ground := Ground.chain }, { on := 0, ground := Ground.phase }, { on := 1, ground := Ground.phase }, { on := 2, ground := Ground.phase }, { on := 3, ground := Ground.phase }, { on := 4, ground := Ground.phase }, { on := 5, ground := Ground.phase }, { on := 6, ground := Ground.phase }], guard := none }) rfl (fun K hK => ?_) AllReadyH.nil
                          go_simp
                          refine hK.out _ _ (kk4.to1.set1 _ _) (fun hHeld => ?_)
                          clear hK K
                          try simp only [Act.put, List.setIfInBounds_toArray, List.set_cons_zero, List.set_cons_succ]
                          refine wpAnyH_done (by kernel_rfl) ?_ _
                          go_wp2_with fail
                          go_meet
                          exact ⟨_, _, Lib.hid (App.mk2 HM.out kk4 rz4 (by have := nz1.out; have := nz2.out; have := HSZ.out; omega))⟩
                        exact AllReadyH.nil
                      exact AllReadyH.nil
                    exact AllReadyH.nil
                  refine AllReadyH.cons (o := { dst := some 84, op := Op.load TS (Operand.tmp 83), type := TS, pos := "law.go:66", after := #[{ on := 1, ground := Ground.data }], guard := none }) rfl (fun K hK => ?_) ?_
                  · skip
                    have p1 : v1.cell? ⟨w.heap.size, 1, none⟩ = some (.slice ao n cap) := cell_at ((kk1.block _ (lt_of_block HM.out) (fun e => e)).trans HM.out) 1
                    go_simp
                    refine hK.out _ _ kk1.to1 (fun hHeld => ?_)
                    clear hK K p1
                    try simp only [Act.put, List.setIfInBounds_toArray, List.set_cons_zero, List.set_cons_succ]
                    refine wpAnyH_ready (rs := [0]) (by kernel_rfl) (by simp) ?_
                    refine AllReadyH.cons (o := { dst := some 82, op := Op.buildSlice TS 0 #[], type := TS, pos := "law.go:66", after := #[], guard := none }) rfl (fun K hK => ?_) ?_
                    · skip
                      go_simp
                      obtain ⟨v2, hv⟩ : ∃ V, V = (v1.alloc (.cells #[] TR)) := ⟨_, rfl⟩
                      rw [← hv]
                      have ks : Keep (fun _ => False) v1 v2 := by rw [hv]; exact ((Keep.refl _ _).alloc _)
                      have nz2 := Lib.hid (show v2.heap.size = v1.heap.size + 1 by rw [hv]; simp)
                      have bE2 : v2.heap[v1.heap.size]? = some (.cells #[] TR (0, 0)) := by rw [hv]; exact block_new v1 _
                      clear hv
                      have kk2 : Keep (fun _ => False) w5 v2 := kk1.trans ks
                      have sz2 := kk2.size
                      have bY2 := (ks.block _ (lt_of_block bY1) (fun e => e)).trans bY1
                      refine hK.out _ _ kk2.to1 (fun hHeld => ?_)
                      clear hK K
                      try simp only [Act.put, List.setIfInBounds_toArray, List.set_cons_zero, List.set_cons_succ]
                      refine wpAnyH_ready (rs := [3]) (by kernel_rfl) (by simp) ?_
                      refine AllReadyH.cons (o := { dst := some 85, op := Op.call { callee := Callee.builtin Builtin.append, args := #[Operand.tmp 82, Operand.tmp 84], argTypes := #[TS, TS] }, type := TS, pos := "law.go:66", after := #[{ on := 0, ground := Ground.data }, { on := 2, ground := Ground.data }], guard := none }) rfl (fun K hK => ?_) ?_
                      · skip
                        obtain ⟨g1, c1, v3, hrun1, rw3, ks, hg1⟩ := app_first bE2 (HMR.out.keep kk2 (fun _ _ e => e.elim)) HN9.out HNN.out TS
                        go_simp
                        have kk3 : Keep (fun _ => False) w5 v3 := kk2.then ks (fun q e => by have := nz1.out; have := nz2.out; have := HSZ.out; omega)
                        have sz3 := kk3.size
                        have bY3 := (ks.block _ (lt_of_block bY2) (fun e => by have := nz1.out; have := nz2.out; have := HSZ.out; omega)).trans bY2
                        clear hrun1
                        refine hK.out _ _ kk3.to1 (fun hHeld => ?_)
                        clear hK K
                        try simp only [Act.put, List.setIfInBounds_toArray, List.set_cons_zero, List.set_cons_succ]
                        refine wpAnyH_ready (rs := [6]) (by kernel_rfl) (by simp) ?_
                        refine AllReadyH.cons (o := { dst := some 88, op := Op.call { callee := Callee.builtin Builtin.append, args := #[Operand.tmp 85, Operand.tmp 87], argTypes := #[TS, TS] }, type := TS, pos := "law.go:66", after := #[{ on := 3, ground := Ground.data }, { on := 5, ground := Ground.data }, { on := 3, ground := Ground.chain }], guard := none }) rfl (fun K hK => ?_) ?_
                        · skip
                          obtain ⟨g2, c2, v4, hrun2, rz4, ks, hg2⟩ := app_second rw3 (rec0 ((base : Int) + (n : Int) + 1) num) bY3 HN9.out TS
                          go_simp
                          have kk4 : Keep (fun _ => False) w5 v4 := kk3.then ks (fun q e => by have := nz1.out; have := nz2.out; have := HSZ.out; omega)
                          have sz4 := kk4.size
                          clear hrun2
                          refine hK.out _ _ kk4.to1 (fun hHeld => ?_)
                          clear hK K
                          try simp only [Act.put, List.setIfInBounds_toArray, List.set_cons_zero, List.set_cons_succ]
                          have pm := (kk4.block _ (lt_of_block HM.out) (fun e => e)).trans HM.out
                          have p1 : v4.cell? ⟨w.heap.size, 1, none⟩ = some (.slice ao n cap) := cell_at pm 1
                          have p2 : v4.frozen? ⟨w.heap.size, 1, none⟩ = false := free_at pm 1
                          clear pm
                          refine wpAnyH_take (i := 7) (oi := { dst := some 89, op := Op.fieldAddr TM (Operand.tmp 3) 1, type := 0, pos := "law.go:66", after := #[{ on := 0, ground := Ground.phase }, { on := 1, ground := Ground.phase }, { on := 2, ground := Ground.phase }, { on := 3, ground := Ground.phase }, { on := 4, ground := Ground.phase }, { on := 5, ground := Ground.phase }, { on := 6, ground := Ground.phase }], guard := none }) (v := .pointer (some ⟨w.heap.size, 1, none⟩)) rfl (by kernel_rfl) (by kernel_rfl) (by kernel_rfl) (fun _ _ _ h => h) (Or.inl ⟨by rfl, ?_⟩) (by assumption) ?_
                          · (intro w' hSw; (try dsimp only at hSw); go_simp)
                          try simp only [Act.put, List.setIfInBounds_toArray, List.set_cons_zero, List.set_cons_succ]
                          refine wpAnyH_ready (rs := [8]) (by kernel_rfl) (by simp) ?_
                          refine AllReadyH.cons (o := { dst := none, op := Op.store TS (Operand.tmp 89) (Operand.tmp 88), type := 0, pos := "law.go:66", after := #[{ on := 7, ground := Ground.data }, { on := 6, ground := Ground.data }, { on := 6, ground := Ground.chain }, { on := 0, ground := Ground.phase }, { on := 1, ground := Ground.phase }, { on := 2, ground := Ground.phase }, { on := 3, ground := Ground.phase }, { on := 4, ground := Ground.phase }, { on := 5, ground := Ground.phase }, { on := 6, ground := Ground.phase }], guard := none }) rfl (fun K hK => ?_) AllReadyH.nil
                          go_simp
                          refine hK.out _ _ (kk4.to1.set1 _ _) (fun hHeld => ?_)
                          clear hK K
                          try simp only [Act.put, List.setIfInBounds_toArray, List.set_cons_zero, List.set_cons_succ]
                          refine wpAnyH_done (by kernel_rfl) ?_ _
                          go_wp2_with fail
                          go_meet
                          exact ⟨_, _, Lib.hid (App.mk2 HM.out kk4 rz4 (by have := nz1.out; have := nz2.out; have := HSZ.out; omega))⟩
                        exact AllReadyH.nil
                      exact AllReadyH.nil
                    exact AllReadyH.nil
                  exact AllReadyH.nil
                exact AllReadyH.nil
              case rest =>
                clear m0 m1 m2
                obtain ⟨g, c, hA⟩ := hcut
                have hm3 := hA.out.m
                have m0 := cell_at hm3 0
                have m1 := cell_at hm3 1
                have m2 := cell_at hm3 2
                simp at m0 m1 m2
                have hz3 := (hA.out.k.block _ (lt_of_block HZ5.out) (by omega)).trans HZ5.out
                have st := store_mod hz3 rfl (base : Int) (most : Int) (some ⟨g, 0, none⟩) (n + 1) c
                have hz4 := mod_block hz3 rfl (base : Int) (most : Int) (.slice (some ⟨g, 0, none⟩) (n + 1) c)
                have q0 := cell_at hz4 0
                have q1 := cell_at hz4 1
                have q2 := cell_at hz4 2
                simp at q0 q1 q2
                clear hz3 hz4 hm3
                go_wp2_with fail
                refine bodyPost_ret (v := .tuple #[.agg #[.int .u64 (base : Int), .slice (some ⟨g, 0, none⟩) (n + 1) c, .int .i64 (most : Int)], .bool true]) ?_ rfl ⟨base, _, rfl, Did.app HFB.out hB.out.k HL2.out HF2.out K2.out (App.pre hA.out K25.out.to1) HZB9.out hBw HNN.out (by omega) (by omega) (by have := HNR.out; omega) _⟩
                simp [results, Try.results15, go_sem, q0, q1, q2]
            · have C1 := Lib.hid (add_full' HL1.out (rec0 ((base : Int) + (n : Int) + 1) num) (by omega) hrl (by rw [← HNR.out]; omega) (by rw [← HNR.out]; rfl))
              unfold Rec.agg Rec.cells rec0 at C1
              go_upto_region 15 with (go_at_call 10; refine C1.out.mono ?_; clear C1; rintro e w2 ⟨rfl, k2⟩)
              have HX2 := Lib.hid ((k2.block _ (lt_of_block HXB.out) (fun e => e)).trans HXB.out)
              have HM2 := Lib.hid ((k2.block _ (lt_of_block hB.out.m) (fun e => e)).trans hB.out.m)
              have HZ2 := Lib.hid ((k2.block _ (lt_of_block hB.out.z) (fun e => e)).trans hB.out.z)
              have K2 := Lib.hid k2
              clear k2 u0 u1 x0 x1 x2 x3 x4 x5 x6 x7 x8
              have hq : ∀ d os, (grow (redrawn w2 d) os).cell? ⟨X, 0, none⟩ = some (.int .u64 ((base : Int) + (n : Int) + 1)) ∧ (grow (redrawn w2 d) os).cell? ⟨w.heap.size, 0, none⟩ = some (.int .u64 (base : Int)) ∧ (grow (redrawn w2 d) os).cell? ⟨w.heap.size, 1, none⟩ = some (.slice ao n cap) ∧ (grow (redrawn w2 d) os).cell? ⟨w.heap.size, 2, none⟩ = some (.int .i64 (most : Int)) := fun d os => ⟨cell_regrown (cell_at HX2.out 0) d os, cell_regrown (cell_at HM2.out 0) d os, cell_regrown (cell_at HM2.out 1) d os, cell_regrown (cell_at HM2.out 2) d os⟩
              have hq0 := fun d os => (hq d os).1
              have hq1 := fun d os => (hq d os).2.1
              have hq2 := fun d os => (hq d os).2.2.1
              have hq3 := fun d os => (hq d os).2.2.2
              have CQ := Lib.hid (fun d os => Calls.regrown_of (w := w2) (d := d) (os := os) ((last_m base n cap most ao (by omega) (by omega) (grow (redrawn w2 d) os)).mono fun _ _ ⟨he, k⟩ => ⟨he, k.below0⟩))
              unfold mod at CQ
              clear hq
              refine wp_region_quiet_below (by kernel_rfl) (by kernel_rfl) ?_
              repeat (quiet_step (exact CQ.out _ _))
              refine wpQuiet_nil ?_
              intro _ hw'
              obtain ⟨⟨dq, osq⟩, hw''⟩ := hw'
              subst hw''
              clear hq0 hq1 hq2 hq3 CQ
              obtain ⟨w5, hw5⟩ : ∃ w5, w5 = grow (redrawn w2 dq) osq := ⟨_, rfl⟩
              rw [← hw5]
              have k25 : Keep (fun _ => False) w2 w5 := by rw [hw5]; exact Keep.of0 (below_regrown w2 dq osq)
              have K25 := Lib.hid k25
              have HM5 := Lib.hid ((k25.block _ (lt_of_block HM2.out) (fun e => e)).trans HM2.out)
              have HZ5 := Lib.hid ((k25.block _ (lt_of_block HZ2.out) (fun e => e)).trans HZ2.out)
              clear hw5 k25
              have m0 := cell_at HM5.out 0
              have m1 := cell_at HM5.out 1
              have m2 := cell_at HM5.out 2
              simp at m0 m1 m2
              have st := store_mod HZ5.out rfl (base : Int) (most : Int) ao n cap
              have hz4 := mod_block HZ5.out rfl (base : Int) (most : Int) (.slice ao n cap)
              have q0 := cell_at hz4 0
              have q1 := cell_at hz4 1
              have q2 := cell_at hz4 2
              simp at q0 q1 q2
              clear hz4
              go_wp2_with fail
              refine bodyPost_ret (v := .tuple #[.agg #[.int .u64 (base : Int), .slice ao n cap, .int .i64 (most : Int)], .bool true]) ?_ rfl ⟨base, _, rfl, Did.of (S := fun j => j = w.heap.size + 1 + 1) HFB.out (hB.out.k) (HL1.out.keep K2.out (fun _ _ e => e)) (fun i f => .inl f) (K2.out.toAny) (fun i e => by have := HZB9.out; omega) (K25.out.toAny.trans (Keep.setCells (S := fun j => j = w.heap.size + 1 + 1) (.inl rfl) _ _ _ (Keep.refl _ _))) (fun kk => MRow.move HR.out kk (fun i f => .inl f)) (by have := HNR.out; omega) (Nat.le_refl _) (by omega)⟩
              simp [results, Try.results15, go_sem, q0, q1, q2]
          · have hrl : rs.length ≤ 256 := by have := HNR.out; omega
            have x0 : wt.cell? ⟨X, 0, none⟩ = some (.int .u64 at_) := cell_at HXT.out 0
            have x1 : wt.cell? ⟨X, 1, none⟩ = some (.int .u64 0) := cell_at HXT.out 1
            have x2 : wt.cell? ⟨X, 2, none⟩ = some (.int .u64 0) := cell_at HXT.out 2
            have x3 : wt.cell? ⟨X, 3, none⟩ = some (.int .u64 num) := cell_at HXT.out 3
            have x4 : wt.cell? ⟨X, 4, none⟩ = some (.int .i64 0) := cell_at HXT.out 4
            have x5 : wt.cell? ⟨X, 5, none⟩ = some (.string ⟨#[]⟩) := cell_at HXT.out 5
            have x6 : wt.cell? ⟨X, 6, none⟩ = some (.string ⟨#[]⟩) := cell_at HXT.out 6
            have x7 : wt.cell? ⟨X, 7, none⟩ = some (.int .u64 0) := cell_at HXT.out 7
            have x8 : wt.cell? ⟨X, 8, none⟩ = some (.int .u64 0) := cell_at HXT.out 8
            skip
            have C1 := Lib.hid (add_seq HL1.out (rec0 at_ num) (by omega) hrl ha0 ha9 (by rw [← HNR.out]; exact hs))
            unfold Rec.agg Rec.cells rec0 at C1
            go_upto_region 15 with (go_at_call 10; refine C1.out.mono ?_; clear C1; rintro e w2 ⟨rfl, k2⟩)
            have HX2 := Lib.hid ((k2.block _ (lt_of_block HXT.out) (fun e => e)).trans HXT.out)
            have HM2 := Lib.hid ((k2.block _ (lt_of_block HMT.out) (fun e => e)).trans HMT.out)
            have HZ2 := Lib.hid ((k2.block _ (lt_of_block HZT.out) (fun e => e)).trans HZT.out)
            have K2 := Lib.hid k2
            clear k2 u0 u1 x0 x1 x2 x3 x4 x5 x6 x7 x8
            have hq : ∀ d os, (grow (redrawn w2 d) os).cell? ⟨X, 0, none⟩ = some (.int .u64 at_) ∧ (grow (redrawn w2 d) os).cell? ⟨w.heap.size, 0, none⟩ = some (.int .u64 (base : Int)) ∧ (grow (redrawn w2 d) os).cell? ⟨w.heap.size, 1, none⟩ = some (.slice ao n cap) ∧ (grow (redrawn w2 d) os).cell? ⟨w.heap.size, 2, none⟩ = some (.int .i64 (most : Int)) := fun d os => ⟨cell_regrown (cell_at HX2.out 0) d os, cell_regrown (cell_at HM2.out 0) d os, cell_regrown (cell_at HM2.out 1) d os, cell_regrown (cell_at HM2.out 2) d os⟩
            have hq0 := fun d os => (hq d os).1
            have hq1 := fun d os => (hq d os).2.1
            have hq2 := fun d os => (hq d os).2.2.1
            have hq3 := fun d os => (hq d os).2.2.2
            have CQ := Lib.hid (fun d os => Calls.regrown_of (w := w2) (d := d) (os := os) ((last_m base n cap most ao (by omega) (by omega) (grow (redrawn w2 d) os)).mono fun _ _ ⟨he, k⟩ => ⟨he, k.below0⟩))
            unfold mod at CQ
            clear hq
            refine wp_region_quiet_below (by kernel_rfl) (by kernel_rfl) ?_
            repeat (quiet_step (exact CQ.out _ _))
            refine wpQuiet_nil ?_
            intro _ hw'
            obtain ⟨⟨dq, osq⟩, hw''⟩ := hw'
            subst hw''
            clear hq0 hq1 hq2 hq3 CQ
            obtain ⟨w5, hw5⟩ : ∃ w5, w5 = grow (redrawn w2 dq) osq := ⟨_, rfl⟩
            rw [← hw5]
            have k25 : Keep (fun _ => False) w2 w5 := by rw [hw5]; exact Keep.of0 (below_regrown w2 dq osq)
            have K25 := Lib.hid k25
            have HM5 := Lib.hid ((k25.block _ (lt_of_block HM2.out) (fun e => e)).trans HM2.out)
            have HZ5 := Lib.hid ((k25.block _ (lt_of_block HZ2.out) (fun e => e)).trans HZ2.out)
            clear hw5 k25
            have m0 := cell_at HM5.out 0
            have m1 := cell_at HM5.out 1
            have m2 := cell_at HM5.out 2
            simp at m0 m1 m2
            have st := store_mod HZ5.out rfl (base : Int) (most : Int) ao n cap
            have hz4 := mod_block HZ5.out rfl (base : Int) (most : Int) (.slice ao n cap)
            have q0 := cell_at hz4 0
            have q1 := cell_at hz4 1
            have q2 := cell_at hz4 2
            simp at q0 q1 q2
            clear hz4
            go_wp2_with fail
            refine bodyPost_ret (v := .tuple #[.agg #[.int .u64 (base : Int), .slice ao n cap, .int .i64 (most : Int)], .bool true]) ?_ rfl ⟨base, _, rfl, Did.of (S := fun j => j = w.heap.size + 1 + 1) HFB.out (hbt.out) (HL1.out.keep K2.out (fun _ _ e => e)) (fun i f => .inl f) (K2.out.toAny) (fun i e => by have := HZT9.out; omega) (K25.out.toAny.trans (Keep.setCells (S := fun j => j = w.heap.size + 1 + 1) (.inl rfl) _ _ _ (Keep.refl _ _))) (fun kk => MRow.move HR.out kk (fun i f => .inl f)) (by have := HNR.out; omega) (Nat.le_refl _) (by omega)⟩
            simp [results, Try.results15, go_sem, q0, q1, q2]
        · skip
          have hrl : rs.length ≤ 256 := by have := HNR.out; omega
          have hbig : ∀ q, w.heap.size ≤ q → ¬ F q := fun q hq f => by have := HFB.out q f; omega
          have HBIG := Lib.hid hbig
          have HXB := Lib.hid hB.out.x
          have HZB9 := Lib.hid (lt_of_block hB.out.z)
          clear hbig
          have x0 : wc.cell? ⟨X, 0, none⟩ = some (.int .u64 ((base : Int) + (n : Int) + 1)) := cell_at hB.out.x 0
          have x1 : wc.cell? ⟨X, 1, none⟩ = some (.int .u64 0) := cell_at hB.out.x 1
          have x2 : wc.cell? ⟨X, 2, none⟩ = some (.int .u64 0) := cell_at hB.out.x 2
          have x3 : wc.cell? ⟨X, 3, none⟩ = some (.int .u64 num) := cell_at hB.out.x 3
          have x4 : wc.cell? ⟨X, 4, none⟩ = some (.int .i64 0) := cell_at hB.out.x 4
          have x5 : wc.cell? ⟨X, 5, none⟩ = some (.string ⟨#[]⟩) := cell_at hB.out.x 5
          have x6 : wc.cell? ⟨X, 6, none⟩ = some (.string ⟨#[]⟩) := cell_at hB.out.x 6
          have x7 : wc.cell? ⟨X, 7, none⟩ = some (.int .u64 0) := cell_at hB.out.x 7
          have x8 : wc.cell? ⟨X, 8, none⟩ = some (.int .u64 0) := cell_at hB.out.x 8
          by_cases hroom : n < most
          · have C1 := Lib.hid (add_at HL1.out (rec0 ((base : Int) + (n : Int) + 1) num) (by omega) (by rw [← HNR.out]; exact hroom) hm (by rw [← HNR.out]; rfl))
            unfold Rec.agg Rec.cells rec0 at C1
            go_upto_region 15 with (go_at_call 10; refine C1.out.mono ?_; clear C1; rintro e w2 ⟨rfl, F2, l2, f2, k2⟩)
            have HX2 := Lib.hid ((k2.block _ (lt_of_block HXB.out) (HBIG.out _ (by have := hB.out.hX; omega))).trans HXB.out)
            have HM2 := Lib.hid ((k2.block _ (lt_of_block hB.out.m) (HBIG.out _ (Nat.le_refl _))).trans hB.out.m)
            have HZ2 := Lib.hid ((k2.block _ (lt_of_block hB.out.z) (HBIG.out _ (by omega))).trans hB.out.z)
            have HL2 := Lib.hid l2
            have HF2 := Lib.hid f2
            have K2 := Lib.hid k2
            clear l2 f2 k2 u0 u1 x0 x1 x2 x3 x4 x5 x6 x7 x8
            have hq : ∀ d os, (grow (redrawn w2 d) os).cell? ⟨X, 0, none⟩ = some (.int .u64 ((base : Int) + (n : Int) + 1)) ∧ (grow (redrawn w2 d) os).cell? ⟨w.heap.size, 0, none⟩ = some (.int .u64 (base : Int)) ∧ (grow (redrawn w2 d) os).cell? ⟨w.heap.size, 1, none⟩ = some (.slice ao n cap) ∧ (grow (redrawn w2 d) os).cell? ⟨w.heap.size, 2, none⟩ = some (.int .i64 (most : Int)) := fun d os => ⟨cell_regrown (cell_at HX2.out 0) d os, cell_regrown (cell_at HM2.out 0) d os, cell_regrown (cell_at HM2.out 1) d os, cell_regrown (cell_at HM2.out 2) d os⟩
            have hq0 := fun d os => (hq d os).1
            have hq1 := fun d os => (hq d os).2.1
            have hq2 := fun d os => (hq d os).2.2.1
            have hq3 := fun d os => (hq d os).2.2.2
            have CQ := Lib.hid (fun d os => Calls.regrown_of (w := w2) (d := d) (os := os) ((last_m base n cap most ao (by omega) (by omega) (grow (redrawn w2 d) os)).mono fun _ _ ⟨he, k⟩ => ⟨he, k.below0⟩))
            unfold mod at CQ
            clear hq
            refine wp_region_quiet_below (by kernel_rfl) (by kernel_rfl) ?_
            repeat (quiet_step (exact CQ.out _ _))
            refine wpQuiet_nil ?_
            intro _ hw'
            obtain ⟨⟨dq, osq⟩, hw''⟩ := hw'
            subst hw''
            clear hq0 hq1 hq2 hq3 CQ
            obtain ⟨w5, hw5⟩ : ∃ w5, w5 = grow (redrawn w2 dq) osq := ⟨_, rfl⟩
            rw [← hw5]
            have k25 : Keep (fun _ => False) w2 w5 := by rw [hw5]; exact Keep.of0 (below_regrown w2 dq osq)
            have K25 := Lib.hid k25
            have HM5 := Lib.hid ((k25.block _ (lt_of_block HM2.out) (fun e => e)).trans HM2.out)
            have HZ5 := Lib.hid ((k25.block _ (lt_of_block HZ2.out) (fun e => e)).trans HZ2.out)
            clear hw5 k25
            have m0 := cell_at HM5.out 0
            have m1 := cell_at HM5.out 1
            have m2 := cell_at HM5.out 2
            simp at m0 m1 m2
            go_upto_region 19 with fail
            have HM := HM5
            have HMR := Lib.hid ((MRow.move HR1.out K2.out HF2.out).keep K25.out (fun _ _ e => e.elim))
            have HNN := HNR
            have HN9 := Lib.hid hn
            have HSZ := Lib.hid (show w.heap.size + 1 + 1 < w5.heap.size by have := K2.out.size; have := K25.out.size; have := HZB9.out; omega)
            have HSX := Lib.hid (fun W kw => Beg.xs (HBIG.out) hB.out K2.out W (K25.out.to1.trans kw))
            go_cut [] (fun W' => ∃ g c, Hid (App w5 W' w.heap.size base most (n + 1) (rs ++ [rec0 ((base : Int) + (n : Int) + 1) num]) g c))
            case first =>
              clear m0 m1 m2
              refine wp_region_held_drew (S := (fun w' => Keep (fun j => j = w.heap.size) w5 w')) (by kernel_rfl) ?_ (fun hHeld => ?_)
              · exact (Keep.refl (fun j => j = w.heap.size) w5).drew
              refine wpAnyH_take (i := 1) (oi := { dst := some 83, op := Op.fieldAddr TM (Operand.tmp 3) 1, type := 0, pos := "law.go:66", after := #[], guard := none }) (v := .pointer (some ⟨w.heap.size, 1, none⟩)) rfl (by kernel_rfl) (by kernel_rfl) (by kernel_rfl) (fun _ _ _ h => h) (Or.inl ⟨by rfl, ?_⟩) (by assumption) ?_
              · (intro w' hSw; (try dsimp only at hSw); go_simp)
              try simp only [Act.put, List.setIfInBounds_toArray, List.set_cons_zero, List.set_cons_succ]
              refine wpAnyH_take (i := 4) (oi := { dst := some 86, op := Op.load TR (Operand.tmp 8), type := TR, pos := "law.go:66", after := #[], guard := none }) (v := .agg #[.int .u64 ((base : Int) + (n : Int) + 1), .int .u64 0, .int .u64 0, .int .u64 num, .int .i64 0, .string ⟨#[]⟩, .string ⟨#[]⟩, .int .u64 0, .int .u64 0]) rfl (by kernel_rfl) (by kernel_rfl) (by kernel_rfl) (fun _ _ _ h => h) (Or.inl ⟨by rfl, ?_⟩) (by assumption) ?_
              · (intro w' hSw; (try dsimp only at hSw); obtain ⟨x0, x1, x2, x3, x4, x5, x6, x7, x8⟩ := HSX.out w' hSw; go_simp)
              try simp only [Act.put, List.setIfInBounds_toArray, List.set_cons_zero, List.set_cons_succ]
              have kk0 : Keep (fun _ => False) w5 w5.drew := (Keep.refl _ _).drew
              refine wpAnyH_ready (rs := [0, 2, 5]) (by kernel_rfl) (by simp) ?_
              refine AllReadyH.cons (o := { dst := some 82, op := Op.buildSlice TS 0 #[], type := TS, pos := "law.go:66", after := #[], guard := none }) rfl (fun K hK => ?_) ?_
              · skip
                go_simp
                obtain ⟨v1, hv⟩ : ∃ V, V = (w5.alloc (.cells #[] TR)).drew := ⟨_, rfl⟩
                rw [← hv]
                have ks : Keep (fun _ => False) w5 v1 := by rw [hv]; exact ((Keep.refl _ _).alloc _).drew
                have nz1 := Lib.hid (show v1.heap.size = w5.heap.size + 1 by rw [hv]; simp)
                have bE1 : v1.heap[w5.heap.size]? = some (.cells #[] TR (0, 0)) := by rw [hv]; exact block_drew (block_new w5 _)
                clear hv
                have kk1 : Keep (fun _ => False) w5 v1 := ks
                have sz1 := kk1.size
                refine hK.out _ _ kk1.to1 (fun hHeld => ?_)
                clear hK K
                try simp only [Act.put, List.setIfInBounds_toArray, List.set_cons_zero, List.set_cons_succ]
                refine wpAnyH_ready (rs := [2, 5]) (by kernel_rfl) (by simp) ?_
                refine AllReadyH.cons (o := { dst := some 84, op := Op.load TS (Operand.tmp 83), type := TS, pos := "law.go:66", after := #[{ on := 1, ground := Ground.data }], guard := none }) rfl (fun K hK => ?_) ?_
                · skip
                  have p1 : v1.cell? ⟨w.heap.size, 1, none⟩ = some (.slice ao n cap) := cell_at ((kk1.block _ (lt_of_block HM.out) (fun e => e)).trans HM.out) 1
                  go_simp
                  refine hK.out _ _ kk1.to1 (fun hHeld => ?_)
                  clear hK K p1
                  try simp only [Act.put, List.setIfInBounds_toArray, List.set_cons_zero, List.set_cons_succ]
                  refine wpAnyH_ready (rs := [3, 5]) (by kernel_rfl) (by simp) ?_
                  refine AllReadyH.cons (o := { dst := some 85, op := Op.call { callee := Callee.builtin Builtin.append, args := #[Operand.tmp 82, Operand.tmp 84], argTypes := #[TS, TS] }, type := TS, pos := "law.go:66", after := #[{ on := 0, ground := Ground.data }, { on := 2, ground := Ground.data }], guard := none }) rfl (fun K hK => ?_) ?_
                  · skip
                    obtain ⟨g1, c1, v2, hrun1, rw2, ks, hg1⟩ := app_first bE1 (HMR.out.keep kk1 (fun _ _ e => e.elim)) HN9.out HNN.out TS
                    go_simp
                    have kk2 : Keep (fun _ => False) w5 v2 := kk1.then ks (fun q e => by have := nz1.out; have := HSZ.out; omega)
                    have sz2 := kk2.size
                    clear hrun1
                    refine hK.out _ _ kk2.to1 (fun hHeld => ?_)
                    clear hK K
                    try simp only [Act.put, List.setIfInBounds_toArray, List.set_cons_zero, List.set_cons_succ]
                    refine wpAnyH_ready (rs := [5]) (by kernel_rfl) (by simp) ?_
                    refine AllReadyH.cons (o := { dst := some 87, op := Op.buildSlice TS 1 #[(0, Operand.tmp 86)], type := TS, pos := "law.go:66", after := #[{ on := 4, ground := Ground.data }], guard := none }) rfl (fun K hK => ?_) ?_
                    · skip
                      go_simp
                      obtain ⟨v3, hv⟩ : ∃ V, V = (v2.alloc (.cells #[.int .u64 ((base : Int) + (n : Int) + 1), .int .u64 0, .int .u64 0, .int .u64 num, .int .i64 0, .string ⟨#[]⟩, .string ⟨#[]⟩, .int .u64 0, .int .u64 0] TR)) := ⟨_, rfl⟩
                      rw [← hv]
                      have ks : Keep (fun _ => False) v2 v3 := by rw [hv]; exact ((Keep.refl _ _).alloc _)
                      have nz3 := Lib.hid (show v3.heap.size = v2.heap.size + 1 by rw [hv]; simp)
                      have bY3 : v3.heap[v2.heap.size]? = some (.cells (rec0 ((base : Int) + (n : Int) + 1) num).cells.toArray TR (0, 0)) := by rw [hv]; exact block_new v2 _
                      clear hv
                      have kk3 : Keep (fun _ => False) w5 v3 := kk2.trans ks
                      have sz3 := kk3.size
                      have rw3 := owns_keep rw2 ks (fun _ _ e => e)
                      refine hK.out _ _ kk3.to1 (fun hHeld => ?_)
                      clear hK K
                      try simp only [Act.put, List.setIfInBounds_toArray, List.set_cons_zero, List.set_cons_succ]
                      refine wpAnyH_ready (rs := [6]) (by kernel_rfl) (by simp) ?_
                      refine AllReadyH.cons (o := { dst := some 88, op := Op.call { callee := Callee.builtin Builtin.append, args := #[Operand.tmp 85, Operand.tmp 87], argTypes := #[TS, TS] }, type := TS, pos := "law.go:66", after := #[{ on := 3, ground := Ground.data }, { on := 5, ground := Ground.data }, { on := 3, ground := Ground.chain }], guard := none }) rfl (fun K hK => ?_) ?_
                      · skip
                        obtain ⟨g2, c2, v4, hrun2, rz4, ks, hg2⟩ := app_second rw3 (rec0 ((base : Int) + (n : Int) + 1) num) bY3 HN9.out TS
                        go_simp
                        have kk4 : Keep (fun _ => False) w5 v4 := kk3.then ks (fun q e => by have := nz1.out; have := nz3.out; have := HSZ.out; omega)
                        have sz4 := kk4.size
                        clear hrun2
                        refine hK.out _ _ kk4.to1 (fun hHeld => ?_)
                        clear hK K
                        try simp only [Act.put, List.setIfInBounds_toArray, List.set_cons_zero, List.set_cons_succ]
                        have pm := (kk4.block _ (lt_of_block HM.out) (fun e => e)).trans HM.out
                        have p1 : v4.cell? ⟨w.heap.size, 1, none⟩ = some (.slice ao n cap) := cell_at pm 1
                        have p2 : v4.frozen? ⟨w.heap.size, 1, none⟩ = false := free_at pm 1
                        clear pm
                        refine wpAnyH_take (i := 7) (oi := { dst := some 89, op := Op.fieldAddr TM (Operand.tmp 3) 1, type := 0, pos := "law.go:66", after := #[{ on := 0, ground := Ground.phase }, { on := 1, ground := Ground.phase }, { on := 2, ground := Ground.phase }, { on := 3, ground := Ground.phase }, { on := 4, ground := Ground.phase }, { on := 5, ground := Ground.phase }, { on := 6, ground := Ground.phase }], guard := none }) (v := .pointer (some ⟨w.heap.size, 1, none⟩)) rfl (by kernel_rfl) (by kernel_rfl) (by kernel_rfl) (fun _ _ _ h => h) (Or.inl ⟨by rfl, ?_⟩) (by assumption) ?_
                        · (intro w' hSw; (try dsimp only at hSw); go_simp)
                        try simp only [Act.put, List.setIfInBounds_toArray, List.set_cons_zero, List.set_cons_succ]
                        refine wpAnyH_ready (rs := [8]) (by kernel_rfl) (by simp) ?_
                        refine AllReadyH.cons (o := { dst := none, op := Op.store TS (Operand.tmp 89) (Operand.tmp 88), type := 0, pos := "law.go:66", after := #[{ on := 7, ground := Ground.data }, { on := 6, ground := Ground.data }, { on := 6, ground := Ground.chain }, { on := 0, ground := Ground.phase }, { on := 1, ground := Ground.phase }, { on := 2, ground := Ground.phase }, { on := 3, ground := Ground.phase }, { on := 4, ground := Ground.phase }, { on := 5, ground := Ground.phase }, { on := 6, ground := Ground.phase }], guard := none }) rfl (fun K hK => ?_) AllReadyH.nil
                        go_simp
                        refine hK.out _ _ (kk4.to1.set1 _ _) (fun hHeld => ?_)
                        clear hK K
                        try simp only [Act.put, List.setIfInBounds_toArray, List.set_cons_zero, List.set_cons_succ]
                        refine wpAnyH_done (by kernel_rfl) ?_ _
                        go_wp2_with fail
                        go_meet
                        exact ⟨_, _, Lib.hid (App.mk2 HM.out kk4 rz4 (by have := nz1.out; have := nz3.out; have := HSZ.out; omega))⟩
                      exact AllReadyH.nil
                    exact AllReadyH.nil
                  refine AllReadyH.cons (o := { dst := some 87, op := Op.buildSlice TS 1 #[(0, Operand.tmp 86)], type := TS, pos := "law.go:66", after := #[{ on := 4, ground := Ground.data }], guard := none }) rfl (fun K hK => ?_) ?_
                  · skip
                    go_simp
                    obtain ⟨v2, hv⟩ : ∃ V, V = (v1.alloc (.cells #[.int .u64 ((base : Int) + (n : Int) + 1), .int .u64 0, .int .u64 0, .int .u64 num, .int .i64 0, .string ⟨#[]⟩, .string ⟨#[]⟩, .int .u64 0, .int .u64 0] TR)) := ⟨_, rfl⟩
                    rw [← hv]
                    have ks : Keep (fun _ => False) v1 v2 := by rw [hv]; exact ((Keep.refl _ _).alloc _)
                    have nz2 := Lib.hid (show v2.heap.size = v1.heap.size + 1 by rw [hv]; simp)
                    have bY2 : v2.heap[v1.heap.size]? = some (.cells (rec0 ((base : Int) + (n : Int) + 1) num).cells.toArray TR (0, 0)) := by rw [hv]; exact block_new v1 _
                    clear hv
                    have kk2 : Keep (fun _ => False) w5 v2 := kk1.trans ks
                    have sz2 := kk2.size
                    have bE2 := (ks.block _ (lt_of_block bE1) (fun e => e)).trans bE1
                    refine hK.out _ _ kk2.to1 (fun hHeld => ?_)
                    clear hK K
                    try simp only [Act.put, List.setIfInBounds_toArray, List.set_cons_zero, List.set_cons_succ]
                    refine wpAnyH_ready (rs := [3]) (by kernel_rfl) (by simp) ?_
                    refine AllReadyH.cons (o := { dst := some 85, op := Op.call { callee := Callee.builtin Builtin.append, args := #[Operand.tmp 82, Operand.tmp 84], argTypes := #[TS, TS] }, type := TS, pos := "law.go:66", after := #[{ on := 0, ground := Ground.data }, { on := 2, ground := Ground.data }], guard := none }) rfl (fun K hK => ?_) ?_
                    · skip
                      obtain ⟨g1, c1, v3, hrun1, rw3, ks, hg1⟩ := app_first bE2 (HMR.out.keep kk2 (fun _ _ e => e.elim)) HN9.out HNN.out TS
                      go_simp
                      have kk3 : Keep (fun _ => False) w5 v3 := kk2.then ks (fun q e => by have := nz1.out; have := nz2.out; have := HSZ.out; omega)
                      have sz3 := kk3.size
                      have bY3 := (ks.block _ (lt_of_block bY2) (fun e => by have := nz1.out; have := nz2.out; have := HSZ.out; omega)).trans bY2
                      clear hrun1
                      refine hK.out _ _ kk3.to1 (fun hHeld => ?_)
                      clear hK K
                      try simp only [Act.put, List.setIfInBounds_toArray, List.set_cons_zero, List.set_cons_succ]
                      refine wpAnyH_ready (rs := [6]) (by kernel_rfl) (by simp) ?_
                      refine AllReadyH.cons (o := { dst := some 88, op := Op.call { callee := Callee.builtin Builtin.append, args := #[Operand.tmp 85, Operand.tmp 87], argTypes := #[TS, TS] }, type := TS, pos := "law.go:66", after := #[{ on := 3, ground := Ground.data }, { on := 5, ground := Ground.data }, { on := 3, ground := Ground.chain }], guard := none }) rfl (fun K hK => ?_) ?_
                      · skip
                        obtain ⟨g2, c2, v4, hrun2, rz4, ks, hg2⟩ := app_second rw3 (rec0 ((base : Int) + (n : Int) + 1) num) bY3 HN9.out TS
                        go_simp
                        have kk4 : Keep (fun _ => False) w5 v4 := kk3.then ks (fun q e => by have := nz1.out; have := nz2.out; have := HSZ.out; omega)
                        have sz4 := kk4.size
                        clear hrun2
                        refine hK.out _ _ kk4.to1 (fun hHeld => ?_)
                        clear hK K
                        try simp only [Act.put, List.setIfInBounds_toArray, List.set_cons_zero, List.set_cons_succ]
                        have pm := (kk4.block _ (lt_of_block HM.out) (fun e => e)).trans HM.out
                        have p1 : v4.cell? ⟨w.heap.size, 1, none⟩ = some (.slice ao n cap) := cell_at pm 1
                        have p2 : v4.frozen? ⟨w.heap.size, 1, none⟩ = false := free_at pm 1
                        clear pm
                        refine wpAnyH_take (i := 7) (oi := { dst := some 89, op := Op.fieldAddr TM (Operand.tmp 3) 1, type := 0, pos := "law.go:66", after := #[{ on := 0, ground := Ground.phase }, { on := 1, ground := Ground.phase }, { on := 2, ground := Ground.phase }, { on := 3, ground := Ground.phase }, { on := 4, ground := Ground.phase }, { on := 5, ground := Ground.phase }, { on := 6, ground := Ground.phase }], guard := none }) (v := .pointer (some ⟨w.heap.size, 1, none⟩)) rfl (by kernel_rfl) (by kernel_rfl) (by kernel_rfl) (fun _ _ _ h => h) (Or.inl ⟨by rfl, ?_⟩) (by assumption) ?_
                        · (intro w' hSw; (try dsimp only at hSw); go_simp)
                        try simp only [Act.put, List.setIfInBounds_toArray, List.set_cons_zero, List.set_cons_succ]
                        refine wpAnyH_ready (rs := [8]) (by kernel_rfl) (by simp) ?_
                        refine AllReadyH.cons (o := { dst := none, op := Op.store TS (Operand.tmp 89) (Operand.tmp 88), type := 0, pos := "law.go:66", after := #[{ on := 7, ground := Ground.data }, { on := 6, ground := Ground.data }, { on := 6, ground := Ground.chain }, { on := 0, ground := Ground.phase }, { on := 1, ground := Ground.phase }, { on := 2, ground := Ground.phase }, { on := 3, ground := Ground.phase }, { on := 4, ground := Ground.phase }, { on := 5, ground := Ground.phase }, { on := 6, ground := Ground.phase }], guard := none }) rfl (fun K hK => ?_) AllReadyH.nil
                        go_simp
                        refine hK.out _ _ (kk4.to1.set1 _ _) (fun hHeld => ?_)
                        clear hK K
                        try simp only [Act.put, List.setIfInBounds_toArray, List.set_cons_zero, List.set_cons_succ]
                        refine wpAnyH_done (by kernel_rfl) ?_ _
                        go_wp2_with fail
                        go_meet
                        exact ⟨_, _, Lib.hid (App.mk2 HM.out kk4 rz4 (by have := nz1.out; have := nz2.out; have := HSZ.out; omega))⟩
                      exact AllReadyH.nil
                    exact AllReadyH.nil
                  exact AllReadyH.nil
                refine AllReadyH.cons (o := { dst := some 87, op := Op.buildSlice TS 1 #[(0, Operand.tmp 86)], type := TS, pos := "law.go:66", after := #[{ on := 4, ground := Ground.data }], guard := none }) rfl (fun K hK => ?_) ?_
                · skip
                  go_simp
                  obtain ⟨v2, hv⟩ : ∃ V, V = (v1.alloc (.cells #[.int .u64 ((base : Int) + (n : Int) + 1), .int .u64 0, .int .u64 0, .int .u64 num, .int .i64 0, .string ⟨#[]⟩, .string ⟨#[]⟩, .int .u64 0, .int .u64 0] TR)) := ⟨_, rfl⟩
                  rw [← hv]
                  have ks : Keep (fun _ => False) v1 v2 := by rw [hv]; exact ((Keep.refl _ _).alloc _)
                  have nz2 := Lib.hid (show v2.heap.size = v1.heap.size + 1 by rw [hv]; simp)
                  have bY2 : v2.heap[v1.heap.size]? = some (.cells (rec0 ((base : Int) + (n : Int) + 1) num).cells.toArray TR (0, 0)) := by rw [hv]; exact block_new v1 _
                  clear hv
                  have kk2 : Keep (fun _ => False) w5 v2 := kk1.trans ks
                  have sz2 := kk2.size
                  have bE2 := (ks.block _ (lt_of_block bE1) (fun e => e)).trans bE1
                  refine hK.out _ _ kk2.to1 (fun hHeld => ?_)
                  clear hK K
                  try simp only [Act.put, List.setIfInBounds_toArray, List.set_cons_zero, List.set_cons_succ]
                  refine wpAnyH_ready (rs := [2]) (by kernel_rfl) (by simp) ?_
                  refine AllReadyH.cons (o := { dst := some 84, op := Op.load TS (Operand.tmp 83), type := TS, pos := "law.go:66", after := #[{ on := 1, ground := Ground.data }], guard := none }) rfl (fun K hK => ?_) ?_
                  · skip
                    have p1 : v2.cell? ⟨w.heap.size, 1, none⟩ = some (.slice ao n cap) := cell_at ((kk2.block _ (lt_of_block HM.out) (fun e => e)).trans HM.out) 1
                    go_simp
                    refine hK.out _ _ kk2.to1 (fun hHeld => ?_)
                    clear hK K p1
                    try simp only [Act.put, List.setIfInBounds_toArray, List.set_cons_zero, List.set_cons_succ]
                    refine wpAnyH_ready (rs := [3]) (by kernel_rfl) (by simp) ?_
                    refine AllReadyH.cons (o := { dst := some 85, op := Op.call { callee := Callee.builtin Builtin.append, args := #[Operand.tmp 82, Operand.tmp 84], argTypes := #[TS, TS] }, type := TS, pos := "law.go:66", after := #[{ on := 0, ground := Ground.data }, { on := 2, ground := Ground.data }], guard := none }) rfl (fun K hK => ?_) ?_
                    · skip
                      obtain ⟨g1, c1, v3, hrun1, rw3, ks, hg1⟩ := app_first bE2 (HMR.out.keep kk2 (fun _ _ e => e.elim)) HN9.out HNN.out TS
                      go_simp
                      have kk3 : Keep (fun _ => False) w5 v3 := kk2.then ks (fun q e => by have := nz1.out; have := nz2.out; have := HSZ.out; omega)
                      have sz3 := kk3.size
                      have bY3 := (ks.block _ (lt_of_block bY2) (fun e => by have := nz1.out; have := nz2.out; have := HSZ.out; omega)).trans bY2
                      clear hrun1
                      refine hK.out _ _ kk3.to1 (fun hHeld => ?_)
                      clear hK K
                      try simp only [Act.put, List.setIfInBounds_toArray, List.set_cons_zero, List.set_cons_succ]
                      refine wpAnyH_ready (rs := [6]) (by kernel_rfl) (by simp) ?_
                      refine AllReadyH.cons (o := { dst := some 88, op := Op.call { callee := Callee.builtin Builtin.append, args := #[Operand.tmp 85, Operand.tmp 87], argTypes := #[TS, TS] }, type := TS, pos := "law.go:66", after := #[{ on := 3, ground := Ground.data }, { on := 5, ground := Ground.data }, { on := 3, ground := Ground.chain }], guard := none }) rfl (fun K hK => ?_) ?_
                      · skip
                        obtain ⟨g2, c2, v4, hrun2, rz4, ks, hg2⟩ := app_second rw3 (rec0 ((base : Int) + (n : Int) + 1) num) bY3 HN9.out TS
                        go_simp
                        have kk4 : Keep (fun _ => False) w5 v4 := kk3.then ks (fun q e => by have := nz1.out; have := nz2.out; have := HSZ.out; omega)
                        have sz4 := kk4.size
                        clear hrun2
                        refine hK.out _ _ kk4.to1 (fun hHeld => ?_)
                        clear hK K
                        try simp only [Act.put, List.setIfInBounds_toArray, List.set_cons_zero, List.set_cons_succ]
                        have pm := (kk4.block _ (lt_of_block HM.out) (fun e => e)).trans HM.out
                        have p1 : v4.cell? ⟨w.heap.size, 1, none⟩ = some (.slice ao n cap) := cell_at pm 1
                        have p2 : v4.frozen? ⟨w.heap.size, 1, none⟩ = false := free_at pm 1
                        clear pm
                        refine wpAnyH_take (i := 7) (oi := { dst := some 89, op := Op.fieldAddr TM (Operand.tmp 3) 1, type := 0, pos := "law.go:66", after := #[{ on := 0, ground := Ground.phase }, { on := 1, ground := Ground.phase }, { on := 2, ground := Ground.phase }, { on := 3, ground := Ground.phase }, { on := 4, ground := Ground.phase }, { on := 5, ground := Ground.phase }, { on := 6, ground := Ground.phase }], guard := none }) (v := .pointer (some ⟨w.heap.size, 1, none⟩)) rfl (by kernel_rfl) (by kernel_rfl) (by kernel_rfl) (fun _ _ _ h => h) (Or.inl ⟨by rfl, ?_⟩) (by assumption) ?_
                        · (intro w' hSw; (try dsimp only at hSw); go_simp)
                        try simp only [Act.put, List.setIfInBounds_toArray, List.set_cons_zero, List.set_cons_succ]
                        refine wpAnyH_ready (rs := [8]) (by kernel_rfl) (by simp) ?_
                        refine AllReadyH.cons (o := { dst := none, op := Op.store TS (Operand.tmp 89) (Operand.tmp 88), type := 0, pos := "law.go:66", after := #[{ on := 7, ground := Ground.data }, { on := 6, ground := Ground.data }, { on := 6, ground := Ground.chain }, { on := 0, ground := Ground.phase }, { on := 1, ground := Ground.phase }, { on := 2, ground := Ground.phase }, { on := 3, ground := Ground.phase }, { on := 4, ground := Ground.phase }, { on := 5, ground := Ground.phase }, { on := 6, ground := Ground.phase }], guard := none }) rfl (fun K hK => ?_) AllReadyH.nil
                        go_simp
                        refine hK.out _ _ (kk4.to1.set1 _ _) (fun hHeld => ?_)
                        clear hK K
                        try simp only [Act.put, List.setIfInBounds_toArray, List.set_cons_zero, List.set_cons_succ]
                        refine wpAnyH_done (by kernel_rfl) ?_ _
                        go_wp2_with fail
                        go_meet
                        exact ⟨_, _, Lib.hid (App.mk2 HM.out kk4 rz4 (by have := nz1.out; have := nz2.out; have := HSZ.out; omega))⟩
                      exact AllReadyH.nil
                    exact AllReadyH.nil
                  exact AllReadyH.nil
                exact AllReadyH.nil
              refine AllReadyH.cons (o := { dst := some 84, op := Op.load TS (Operand.tmp 83), type := TS, pos := "law.go:66", after := #[{ on := 1, ground := Ground.data }], guard := none }) rfl (fun K hK => ?_) ?_
              · skip
                have p1 : w5.cell? ⟨w.heap.size, 1, none⟩ = some (.slice ao n cap) := cell_at ((kk0.block _ (lt_of_block HM.out) (fun e => e)).trans HM.out) 1
                go_simp
                refine hK.out _ _ kk0.to1 (fun hHeld => ?_)
                clear hK K p1
                try simp only [Act.put, List.setIfInBounds_toArray, List.set_cons_zero, List.set_cons_succ]
                refine wpAnyH_ready (rs := [0, 5]) (by kernel_rfl) (by simp) ?_
                refine AllReadyH.cons (o := { dst := some 82, op := Op.buildSlice TS 0 #[], type := TS, pos := "law.go:66", after := #[], guard := none }) rfl (fun K hK => ?_) ?_
                · skip
                  go_simp
                  obtain ⟨v1, hv⟩ : ∃ V, V = (w5.alloc (.cells #[] TR)).drew := ⟨_, rfl⟩
                  rw [← hv]
                  have ks : Keep (fun _ => False) w5 v1 := by rw [hv]; exact ((Keep.refl _ _).alloc _).drew
                  have nz1 := Lib.hid (show v1.heap.size = w5.heap.size + 1 by rw [hv]; simp)
                  have bE1 : v1.heap[w5.heap.size]? = some (.cells #[] TR (0, 0)) := by rw [hv]; exact block_drew (block_new w5 _)
                  clear hv
                  have kk1 : Keep (fun _ => False) w5 v1 := ks
                  have sz1 := kk1.size
                  refine hK.out _ _ kk1.to1 (fun hHeld => ?_)
                  clear hK K
                  try simp only [Act.put, List.setIfInBounds_toArray, List.set_cons_zero, List.set_cons_succ]
                  refine wpAnyH_ready (rs := [3, 5]) (by kernel_rfl) (by simp) ?_
                  refine AllReadyH.cons (o := { dst := some 85, op := Op.call { callee := Callee.builtin Builtin.append, args := #[Operand.tmp 82, Operand.tmp 84], argTypes := #[TS, TS] }, type := TS, pos := "law.go:66", after := #[{ on := 0, ground := Ground.data }, { on := 2, ground := Ground.data }], guard := none }) rfl (fun K hK => ?_) ?_
                  · skip
                    obtain ⟨g1, c1, v2, hrun1, rw2, ks, hg1⟩ := app_first bE1 (HMR.out.keep kk1 (fun _ _ e => e.elim)) HN9.out HNN.out TS
                    go_simp
                    have kk2 : Keep (fun _ => False) w5 v2 := kk1.then ks (fun q e => by have := nz1.out; have := HSZ.out; omega)
                    have sz2 := kk2.size
                    clear hrun1
                    refine hK.out _ _ kk2.to1 (fun hHeld => ?_)
                    clear hK K
                    try simp only [Act.put, List.setIfInBounds_toArray, List.set_cons_zero, List.set_cons_succ]
                    refine wpAnyH_ready (rs := [5]) (by kernel_rfl) (by simp) ?_
                    refine AllReadyH.cons (o := { dst := some 87, op := Op.buildSlice TS 1 #[(0, Operand.tmp 86)], type := TS, pos := "law.go:66", after := #[{ on := 4, ground := Ground.data }], guard := none }) rfl (fun K hK => ?_) ?_
                    · skip
                      go_simp
                      obtain ⟨v3, hv⟩ : ∃ V, V = (v2.alloc (.cells #[.int .u64 ((base : Int) + (n : Int) + 1), .int .u64 0, .int .u64 0, .int .u64 num, .int .i64 0, .string ⟨#[]⟩, .string ⟨#[]⟩, .int .u64 0, .int .u64 0] TR)) := ⟨_, rfl⟩
                      rw [← hv]
                      have ks : Keep (fun _ => False) v2 v3 := by rw [hv]; exact ((Keep.refl _ _).alloc _)
                      have nz3 := Lib.hid (show v3.heap.size = v2.heap.size + 1 by rw [hv]; simp)
                      have bY3 : v3.heap[v2.heap.size]? = some (.cells (rec0 ((base : Int) + (n : Int) + 1) num).cells.toArray TR (0, 0)) := by rw [hv]; exact block_new v2 _
                      clear hv
                      have kk3 : Keep (fun _ => False) w5 v3 := kk2.trans ks
                      have sz3 := kk3.size
                      have rw3 := owns_keep rw2 ks (fun _ _ e => e)
                      refine hK.out _ _ kk3.to1 (fun hHeld => ?_)
                      clear hK K
                      try simp only [Act.put, List.setIfInBounds_toArray, List.set_cons_zero, List.set_cons_succ]
                      refine wpAnyH_ready (rs := [6]) (by kernel_rfl) (by simp) ?_
                      refine AllReadyH.cons (o := { dst := some 88, op := Op.call { callee := Callee.builtin Builtin.append, args := #[Operand.tmp 85, Operand.tmp 87], argTypes := #[TS, TS] }, type := TS, pos := "law.go:66", after := #[{ on := 3, ground := Ground.data }, { on := 5, ground := Ground.data }, { on := 3, ground := Ground.chain }], guard := none }) rfl (fun K hK => ?_) ?_
                      · skip
                        obtain ⟨g2, c2, v4, hrun2, rz4, ks, hg2⟩ := app_second rw3 (rec0 ((base : Int) + (n : Int) + 1) num) bY3 HN9.out TS
                        go_simp
                        have kk4 : Keep (fun _ => False) w5 v4 := kk3.then ks (fun q e => by have := nz1.out; have := nz3.out; have := HSZ.out; omega)
                        have sz4 := kk4.size
                        clear hrun2
                        refine hK.out _ _ kk4.to1 (fun hHeld => ?_)
                        clear hK K
                        try simp only [Act.put, List.setIfInBounds_toArray, List.set_cons_zero, List.set_cons_succ]
                        have pm := (kk4.block _ (lt_of_block HM.out) (fun e => e)).trans HM.out
                        have p1 : v4.cell? ⟨w.heap.size, 1, none⟩ = some (.slice ao n cap) := cell_at pm 1
                        have p2 : v4.frozen? ⟨w.heap.size, 1, none⟩ = false := free_at pm 1
                        clear pm
                        refine wpAnyH_take (i := 7) (oi := { dst := some 89, op := Op.fieldAddr TM (Operand.tmp 3) 1, type := 0, pos := "law.go:66", after := #[{ on := 0, ground := Ground.phase }, { on := 1, ground := Ground.phase }, { on := 2, ground := Ground.phase }, { on := 3, ground := Ground.phase }, { on := 4, ground := Ground.phase }, { on := 5, ground := Ground.phase }, { on := 6, ground := Ground.phase }], guard := none }) (v := .pointer (some ⟨w.heap.size, 1, none⟩)) rfl (by kernel_rfl) (by kernel_rfl) (by kernel_rfl) (fun _ _ _ h => h) (Or.inl ⟨by rfl, ?_⟩) (by assumption) ?_
                        · (intro w' hSw; (try dsimp only at hSw); go_simp)
                        try simp only [Act.put, List.setIfInBounds_toArray, List.set_cons_zero, List.set_cons_succ]
                        refine wpAnyH_ready (rs := [8]) (by kernel_rfl) (by simp) ?_
                        refine AllReadyH.cons (o := { dst := none, op := Op.store TS (Operand.tmp 89) (Operand.tmp 88), type := 0, pos := "law.go:66", after := #[{ on := 7, ground := Ground.data }, { on := 6, ground := Ground.data }, { on := 6, ground := Ground.chain }, { on := 0, ground := Ground.phase }, { on := 1, ground := Ground.phase }, { on := 2, ground := Ground.phase }, { on := 3, ground := Ground.phase }, { on := 4, ground := Ground.phase }, { on := 5, ground := Ground.phase }, { on := 6, ground := Ground.phase }], guard := none }) rfl (fun K hK => ?_) AllReadyH.nil
                        go_simp
                        refine hK.out _ _ (kk4.to1.set1 _ _) (fun hHeld => ?_)
                        clear hK K
                        try simp only [Act.put, List.setIfInBounds_toArray, List.set_cons_zero, List.set_cons_succ]
                        refine wpAnyH_done (by kernel_rfl) ?_ _
                        go_wp2_with fail
                        go_meet
                        exact ⟨_, _, Lib.hid (App.mk2 HM.out kk4 rz4 (by have := nz1.out; have := nz3.out; have := HSZ.out; omega))⟩
                      exact AllReadyH.nil
                    exact AllReadyH.nil
                  refine AllReadyH.cons (o := { dst := some 87, op := Op.buildSlice TS 1 #[(0, Operand.tmp 86)], type := TS, pos := "law.go:66", after := #[{ on := 4, ground := Ground.data }], guard := none }) rfl (fun K hK => ?_) ?_
                  · skip
                    go_simp
                    obtain ⟨v2, hv⟩ : ∃ V, V = (v1.alloc (.cells #[.int .u64 ((base : Int) + (n : Int) + 1), .int .u64 0, .int .u64 0, .int .u64 num, .int .i64 0, .string ⟨#[]⟩, .string ⟨#[]⟩, .int .u64 0, .int .u64 0] TR)) := ⟨_, rfl⟩
                    rw [← hv]
                    have ks : Keep (fun _ => False) v1 v2 := by rw [hv]; exact ((Keep.refl _ _).alloc _)
                    have nz2 := Lib.hid (show v2.heap.size = v1.heap.size + 1 by rw [hv]; simp)
                    have bY2 : v2.heap[v1.heap.size]? = some (.cells (rec0 ((base : Int) + (n : Int) + 1) num).cells.toArray TR (0, 0)) := by rw [hv]; exact block_new v1 _
                    clear hv
                    have kk2 : Keep (fun _ => False) w5 v2 := kk1.trans ks
                    have sz2 := kk2.size
                    have bE2 := (ks.block _ (lt_of_block bE1) (fun e => e)).trans bE1
                    refine hK.out _ _ kk2.to1 (fun hHeld => ?_)
                    clear hK K
                    try simp only [Act.put, List.setIfInBounds_toArray, List.set_cons_zero, List.set_cons_succ]
                    refine wpAnyH_ready (rs := [3]) (by kernel_rfl) (by simp) ?_
                    refine AllReadyH.cons (o := { dst := some 85, op := Op.call { callee := Callee.builtin Builtin.append, args := #[Operand.tmp 82, Operand.tmp 84], argTypes := #[TS, TS] }, type := TS, pos := "law.go:66", after := #[{ on := 0, ground := Ground.data }, { on := 2, ground := Ground.data }], guard := none }) rfl (fun K hK => ?_) ?_
                    · skip
                      obtain ⟨g1, c1, v3, hrun1, rw3, ks, hg1⟩ := app_first bE2 (HMR.out.keep kk2 (fun _ _ e => e.elim)) HN9.out HNN.out TS
                      go_simp
                      have kk3 : Keep (fun _ => False) w5 v3 := kk2.then ks (fun q e => by have := nz1.out; have := nz2.out; have := HSZ.out; omega)
                      have sz3 := kk3.size
                      have bY3 := (ks.block _ (lt_of_block bY2) (fun e => by have := nz1.out; have := nz2.out; have := HSZ.out; omega)).trans bY2
                      clear hrun1
                      refine hK.out _ _ kk3.to1 (fun hHeld => ?_)
                      clear hK K
                      try simp only [Act.put, List.setIfInBounds_toArray, List.set_cons_zero, List.set_cons_succ]
                      refine wpAnyH_ready (rs := [6]) (by kernel_rfl) (by simp) ?_
                      refine AllReadyH.cons (o := { dst := some 88, op := Op.call { callee := Callee.builtin Builtin.append, args := #[Operand.tmp 85, Operand.tmp 87], argTypes := #[TS, TS] }, type := TS, pos := "law.go:66", after := #[{ on := 3, ground := Ground.data }, { on := 5, ground := Ground.data }, { on := 3, ground := Ground.chain }], guard := none }) rfl (fun K hK => ?_) ?_
                      · skip
                        obtain ⟨g2, c2, v4, hrun2, rz4, ks, hg2⟩ := app_second rw3 (rec0 ((base : Int) + (n : Int) + 1) num) bY3 HN9.out TS
                        go_simp
                        have kk4 : Keep (fun _ => False) w5 v4 := kk3.then ks (fun q e => by have := nz1.out; have := nz2.out; have := HSZ.out; omega)
                        have sz4 := kk4.size
                        clear hrun2
                        refine hK.out _ _ kk4.to1 (fun hHeld => ?_)
                        clear hK K
                        try simp only [Act.put, List.setIfInBounds_toArray, List.set_cons_zero, List.set_cons_succ]
                        have pm := (kk4.block _ (lt_of_block HM.out) (fun e => e)).trans HM.out
                        have p1 : v4.cell? ⟨w.heap.size, 1, none⟩ = some (.slice ao n cap) := cell_at pm 1
                        have p2 : v4.frozen? ⟨w.heap.size, 1, none⟩ = false := free_at pm 1
                        clear pm
                        refine wpAnyH_take (i := 7) (oi := { dst := some 89, op := Op.fieldAddr TM (Operand.tmp 3) 1, type := 0, pos := "law.go:66", after := #[{ on := 0, ground := Ground.phase }, { on := 1, ground := Ground.phase }, { on := 2, ground := Ground.phase }, { on := 3, ground := Ground.phase }, { on := 4, ground := Ground.phase }, { on := 5, ground := Ground.phase }, { on := 6, ground := Ground.phase }], guard := none }) (v := .pointer (some ⟨w.heap.size, 1, none⟩)) rfl (by kernel_rfl) (by kernel_rfl) (by kernel_rfl) (fun _ _ _ h => h) (Or.inl ⟨by rfl, ?_⟩) (by assumption) ?_
                        · (intro w' hSw; (try dsimp only at hSw); go_simp)
                        try simp only [Act.put, List.setIfInBounds_toArray, List.set_cons_zero, List.set_cons_succ]
                        refine wpAnyH_ready (rs := [8]) (by kernel_rfl) (by simp) ?_
                        refine AllReadyH.cons (o := { dst := none, op := Op.store TS (Operand.tmp 89) (Operand.tmp 88), type := 0, pos := "law.go:66", after := #[{ on := 7, ground := Ground.data }, { on := 6, ground := Ground.data }, { on := 6, ground := Ground.chain }, { on := 0, ground := Ground.phase }, { on := 1, ground := Ground.phase }, { on := 2, ground := Ground.phase }, { on := 3, ground := Ground.phase }, { on := 4, ground := Ground.phase }, { on := 5, ground := Ground.phase }, { on := 6, ground := Ground.phase }], guard := none }) rfl (fun K hK => ?_) AllReadyH.nil
                        go_simp
                        refine hK.out _ _ (kk4.to1.set1 _ _) (fun hHeld => ?_)
                        clear hK K
                        try simp only [Act.put, List.setIfInBounds_toArray, List.set_cons_zero, List.set_cons_succ]
                        refine wpAnyH_done (by kernel_rfl) ?_ _
                        go_wp2_with fail
                        go_meet
                        exact ⟨_, _, Lib.hid (App.mk2 HM.out kk4 rz4 (by have := nz1.out; have := nz2.out; have := HSZ.out; omega))⟩
                      exact AllReadyH.nil
                    exact AllReadyH.nil
                  exact AllReadyH.nil
                refine AllReadyH.cons (o := { dst := some 87, op := Op.buildSlice TS 1 #[(0, Operand.tmp 86)], type := TS, pos := "law.go:66", after := #[{ on := 4, ground := Ground.data }], guard := none }) rfl (fun K hK => ?_) ?_
                · skip
                  go_simp
                  obtain ⟨v1, hv⟩ : ∃ V, V = (w5.alloc (.cells #[.int .u64 ((base : Int) + (n : Int) + 1), .int .u64 0, .int .u64 0, .int .u64 num, .int .i64 0, .string ⟨#[]⟩, .string ⟨#[]⟩, .int .u64 0, .int .u64 0] TR)).drew := ⟨_, rfl⟩
                  rw [← hv]
                  have ks : Keep (fun _ => False) w5 v1 := by rw [hv]; exact ((Keep.refl _ _).alloc _).drew
                  have nz1 := Lib.hid (show v1.heap.size = w5.heap.size + 1 by rw [hv]; simp)
                  have bY1 : v1.heap[w5.heap.size]? = some (.cells (rec0 ((base : Int) + (n : Int) + 1) num).cells.toArray TR (0, 0)) := by rw [hv]; exact block_drew (block_new w5 _)
                  clear hv
                  have kk1 : Keep (fun _ => False) w5 v1 := ks
                  have sz1 := kk1.size
                  refine hK.out _ _ kk1.to1 (fun hHeld => ?_)
                  clear hK K
                  try simp only [Act.put, List.setIfInBounds_toArray, List.set_cons_zero, List.set_cons_succ]
                  refine wpAnyH_ready (rs := [0]) (by kernel_rfl) (by simp) ?_
                  refine AllReadyH.cons (o := { dst := some 82, op := Op.buildSlice TS 0 #[], type := TS, pos := "law.go:66", after := #[], guard := none }) rfl (fun K hK => ?_) ?_
                  · skip
                    go_simp
                    obtain ⟨v2, hv⟩ : ∃ V, V = (v1.alloc (.cells #[] TR)) := ⟨_, rfl⟩
                    rw [← hv]
                    have ks : Keep (fun _ => False) v1 v2 := by rw [hv]; exact ((Keep.refl _ _).alloc _)
                    have nz2 := Lib.hid (show v2.heap.size = v1.heap.size + 1 by rw [hv]; simp)
                    have bE2 : v2.heap[v1.heap.size]? = some (.cells #[] TR (0, 0)) := by rw [hv]; exact block_new v1 _
                    clear hv
                    have kk2 : Keep (fun _ => False) w5 v2 := kk1.trans ks
                    have sz2 := kk2.size
                    have bY2 := (ks.block _ (lt_of_block bY1) (fun e => e)).trans bY1
                    refine hK.out _ _ kk2.to1 (fun hHeld => ?_)
                    clear hK K
                    try simp only [Act.put, List.setIfInBounds_toArray, List.set_cons_zero, List.set_cons_succ]
                    refine wpAnyH_ready (rs := [3]) (by kernel_rfl) (by simp) ?_
                    refine AllReadyH.cons (o := { dst := some 85, op := Op.call { callee := Callee.builtin Builtin.append, args := #[Operand.tmp 82, Operand.tmp 84], argTypes := #[TS, TS] }, type := TS, pos := "law.go:66", after := #[{ on := 0, ground := Ground.data }, { on := 2, ground := Ground.data }], guard := none }) rfl (fun K hK => ?_) ?_
                    · skip
                      obtain ⟨g1, c1, v3, hrun1, rw3, ks, hg1⟩ := app_first bE2 (HMR.out.keep kk2 (fun _ _ e => e.elim)) HN9.out HNN.out TS
                      go_simp
                      have kk3 : Keep (fun _ => False) w5 v3 := kk2.then ks (fun q e => by have := nz1.out; have := nz2.out; have := HSZ.out; omega)
                      have sz3 := kk3.size
                      have bY3 := (ks.block _ (lt_of_block bY2) (fun e => by have := nz1.out; have := nz2.out; have := HSZ.out; omega)).trans bY2
                      clear hrun1
                      refine hK.out _ _ kk3.to1 (fun hHeld => ?_)
                      clear hK K
                      try simp only [Act.put, List.setIfInBounds_toArray, List.set_cons_zero, List.set_cons_succ]
                      refine wpAnyH_ready (rs := [6]) (by kernel_rfl) (by simp) ?_
                      refine AllReadyH.cons (o := { dst := some 88, op := Op.call { callee := Callee.builtin Builtin.append, args := #[Operand.tmp 85, Operand.tmp 87], argTypes := #[TS, TS] }, type := TS, pos := "law.go:66", after := #[{ on := 3, ground := Ground.data }, { on := 5, ground := Ground.data }, { on := 3, ground := Ground.chain }], guard := none }) rfl (fun K hK => ?_) ?_
                      · skip
                        obtain ⟨g2, c2, v4, hrun2, rz4, ks, hg2⟩ := app_second rw3 (rec0 ((base : Int) + (n : Int) + 1) num) bY3 HN9.out TS
                        go_simp
                        have kk4 : Keep (fun _ => False) w5 v4 := kk3.then ks (fun q e => by have := nz1.out; have := nz2.out; have := HSZ.out; omega)
                        have sz4 := kk4.size
                        clear hrun2
                        refine hK.out _ _ kk4.to1 (fun hHeld => ?_)
                        clear hK K
                        try simp only [Act.put, List.setIfInBounds_toArray, List.set_cons_zero, List.set_cons_succ]
                        have pm := (kk4.block _ (lt_of_block HM.out) (fun e => e)).trans HM.out
                        have p1 : v4.cell? ⟨w.heap.size, 1, none⟩ = some (.slice ao n cap) := cell_at pm 1
                        have p2 : v4.frozen? ⟨w.heap.size, 1, none⟩ = false := free_at pm 1
                        clear pm
                        refine wpAnyH_take (i := 7) (oi := { dst := some 89, op := Op.fieldAddr TM (Operand.tmp 3) 1, type := 0, pos := "law.go:66", after := #[{ on := 0, ground := Ground.phase }, { on := 1, ground := Ground.phase }, { on := 2, ground := Ground.phase }, { on := 3, ground := Ground.phase }, { on := 4, ground := Ground.phase }, { on := 5, ground := Ground.phase }, { on := 6, ground := Ground.phase }], guard := none }) (v := .pointer (some ⟨w.heap.size, 1, none⟩)) rfl (by kernel_rfl) (by kernel_rfl) (by kernel_rfl) (fun _ _ _ h => h) (Or.inl ⟨by rfl, ?_⟩) (by assumption) ?_
                        · (intro w' hSw; (try dsimp only at hSw); go_simp)
                        try simp only [Act.put, List.setIfInBounds_toArray, List.set_cons_zero, List.set_cons_succ]
                        refine wpAnyH_ready (rs := [8]) (by kernel_rfl) (by simp) ?_
                        refine AllReadyH.cons (o := { dst := none, op := Op.store TS (Operand.tmp 89) (Operand.tmp 88), type := 0, pos := "law.go:66", after := #[{ on := 7, ground := Ground.data }, { on := 6, ground := Ground.data }, { on := 6, ground := Ground.chain }, { on := 0, ground := Ground.phase }, { on := 1, ground := Ground.phase }, { on := 2, ground := Ground.phase }, { on := 3, ground := Ground.phase }, { on := 4, ground := Ground.phase }, { on := 5, ground := Ground.phase }, { on := 6, ground := Ground.phase }], guard := none }) rfl (fun K hK => ?_) AllReadyH.nil
                        go_simp
                        refine hK.out _ _ (kk4.to1.set1 _ _) (fun hHeld => ?_)
                        clear hK K
                        try simp only [Act.put, List.setIfInBounds_toArray, List.set_cons_zero, List.set_cons_succ]
                        refine wpAnyH_done (by kernel_rfl) ?_ _
                        go_wp2_with fail
                        go_meet
                        exact ⟨_, _, Lib.hid (App.mk2 HM.out kk4 rz4 (by have := nz1.out; have := nz2.out; have := HSZ.out; omega))⟩
                      exact AllReadyH.nil
                    exact AllReadyH.nil
                  exact AllReadyH.nil
                exact AllReadyH.nil
              refine AllReadyH.cons (o := { dst := some 87, op := Op.buildSlice TS 1 #[(0, Operand.tmp 86)], type := TS, pos := "law.go:66", after := #[{ on := 4, ground := Ground.data }], guard := none }) rfl (fun K hK => ?_) ?_
              · skip
                go_simp
                obtain ⟨v1, hv⟩ : ∃ V, V = (w5.alloc (.cells #[.int .u64 ((base : Int) + (n : Int) + 1), .int .u64 0, .int .u64 0, .int .u64 num, .int .i64 0, .string ⟨#[]⟩, .string ⟨#[]⟩, .int .u64 0, .int .u64 0] TR)).drew := ⟨_, rfl⟩
                rw [← hv]
                have ks : Keep (fun _ => False) w5 v1 := by rw [hv]; exact ((Keep.refl _ _).alloc _).drew
                have nz1 := Lib.hid (show v1.heap.size = w5.heap.size + 1 by rw [hv]; simp)
                have bY1 : v1.heap[w5.heap.size]? = some (.cells (rec0 ((base : Int) + (n : Int) + 1) num).cells.toArray TR (0, 0)) := by rw [hv]; exact block_drew (block_new w5 _)
                clear hv
                have kk1 : Keep (fun _ => False) w5 v1 := ks
                have sz1 := kk1.size
                refine hK.out _ _ kk1.to1 (fun hHeld => ?_)
                clear hK K
                try simp only [Act.put, List.setIfInBounds_toArray, List.set_cons_zero, List.set_cons_succ]
                refine wpAnyH_ready (rs := [0, 2]) (by kernel_rfl) (by simp) ?_
                refine AllReadyH.cons (o := { dst := some 82, op := Op.buildSlice TS 0 #[], type := TS, pos := "law.go:66", after := #[], guard := none }) rfl (fun K hK => ?_) ?_
                · skip
                  go_simp
                  obtain ⟨v2, hv⟩ : ∃ V, V = (v1.alloc (.cells #[] TR)) := ⟨_, rfl⟩
                  rw [← hv]
                  have ks : Keep (fun _ => False) v1 v2 := by rw [hv]; exact ((Keep.refl _ _).alloc _)
                  have nz2 := Lib.hid (show v2.heap.size = v1.heap.size + 1 by rw [hv]; simp)
                  have bE2 : v2.heap[v1.heap.size]? = some (.cells #[] TR (0, 0)) := by rw [hv]; exact block_new v1 _
                  clear hv
                  have kk2 : Keep (fun _ => False) w5 v2 := kk1.trans ks
                  have sz2 := kk2.size
                  have bY2 := (ks.block _ (lt_of_block bY1) (fun e => e)).trans bY1
                  refine hK.out _ _ kk2.to1 (fun hHeld => ?_)
                  clear hK K
                  try simp only [Act.put, List.setIfInBounds_toArray, List.set_cons_zero, List.set_cons_succ]
                  refine wpAnyH_ready (rs := [2]) (by kernel_rfl) (by simp) ?_
                  refine AllReadyH.cons (o := { dst := some 84, op := Op.load TS (Operand.tmp 83), type := TS, pos := "law.go:66", after := #[{ on := 1, ground := Ground.data }], guard := none }) rfl (fun K hK => ?_) ?_
                  · skip
                    have p1 : v2.cell? ⟨w.heap.size, 1, none⟩ = some (.slice ao n cap) := cell_at ((kk2.block _ (lt_of_block HM.out) (fun e => e)).trans HM.out) 1
                    go_simp
                    refine hK.out _ _ kk2.to1 (fun hHeld => ?_)
                    clear hK K p1
                    try simp only [Act.put, List.setIfInBounds_toArray, List.set_cons_zero, List.set_cons_succ]
                    refine wpAnyH_ready (rs := [3]) (by kernel_rfl) (by simp) ?_
                    refine AllReadyH.cons (o := { dst := some 85, op := Op.call { callee := Callee.builtin Builtin.append, args := #[Operand.tmp 82, Operand.tmp 84], argTypes := #[TS, TS] }, type := TS, pos := "law.go:66", after := #[{ on := 0, ground := Ground.data }, { on := 2, ground := Ground.data }], guard := none }) rfl (fun K hK => ?_) ?_
                    · skip
                      obtain ⟨g1, c1, v3, hrun1, rw3, ks, hg1⟩ := app_first bE2 (HMR.out.keep kk2 (fun _ _ e => e.elim)) HN9.out HNN.out TS
                      go_simp
                      have kk3 : Keep (fun _ => False) w5 v3 := kk2.then ks (fun q e => by have := nz1.out; have := nz2.out; have := HSZ.out; omega)
                      have sz3 := kk3.size
                      have bY3 := (ks.block _ (lt_of_block bY2) (fun e => by have := nz1.out; have := nz2.out; have := HSZ.out; omega)).trans bY2
                      clear hrun1
                      refine hK.out _ _ kk3.to1 (fun hHeld => ?_)
                      clear hK K
                      try simp only [Act.put, List.setIfInBounds_toArray, List.set_cons_zero, List.set_cons_succ]
                      refine wpAnyH_ready (rs := [6]) (by kernel_rfl) (by simp) ?_
                      refine AllReadyH.cons (o := { dst := some 88, op := Op.call { callee := Callee.builtin Builtin.append, args := #[Operand.tmp 85, Operand.tmp 87], argTypes := #[TS, TS] }, type := TS, pos := "law.go:66", after := #[{ on := 3, ground := Ground.data }, { on := 5, ground := Ground.data }, { on := 3, ground := Ground.chain }], guard := none }) rfl (fun K hK => ?_) ?_
                      · skip
                        obtain ⟨g2, c2, v4, hrun2, rz4, ks, hg2⟩ := app_second rw3 (rec0 ((base : Int) + (n : Int) + 1) num) bY3 HN9.out TS
                        go_simp
                        have kk4 : Keep (fun _ => False) w5 v4 := kk3.then ks (fun q e => by have := nz1.out; have := nz2.out; have := HSZ.out; omega)
                        have sz4 := kk4.size
                        clear hrun2
                        refine hK.out _ _ kk4.to1 (fun hHeld => ?_)
                        clear hK K
                        try simp only [Act.put, List.setIfInBounds_toArray, List.set_cons_zero, List.set_cons_succ]
                        have pm := (kk4.block _ (lt_of_block HM.out) (fun e => e)).trans HM.out
                        have p1 : v4.cell? ⟨w.heap.size, 1, none⟩ = some (.slice ao n cap) := cell_at pm 1
                        have p2 : v4.frozen? ⟨w.heap.size, 1, none⟩ = false := free_at pm 1
                        clear pm
                        refine wpAnyH_take (i := 7) (oi := { dst := some 89, op := Op.fieldAddr TM (Operand.tmp 3) 1, type := 0, pos := "law.go:66", after := #[{ on := 0, ground := Ground.phase }, { on := 1, ground := Ground.phase }, { on := 2, ground := Ground.phase }, { on := 3, ground := Ground.phase }, { on := 4, ground := Ground.phase }, { on := 5, ground := Ground.phase }, { on := 6, ground := Ground.phase }], guard := none }) (v := .pointer (some ⟨w.heap.size, 1, none⟩)) rfl (by kernel_rfl) (by kernel_rfl) (by kernel_rfl) (fun _ _ _ h => h) (Or.inl ⟨by rfl, ?_⟩) (by assumption) ?_
                        · (intro w' hSw; (try dsimp only at hSw); go_simp)
                        try simp only [Act.put, List.setIfInBounds_toArray, List.set_cons_zero, List.set_cons_succ]
                        refine wpAnyH_ready (rs := [8]) (by kernel_rfl) (by simp) ?_
                        refine AllReadyH.cons (o := { dst := none, op := Op.store TS (Operand.tmp 89) (Operand.tmp 88), type := 0, pos := "law.go:66", after := #[{ on := 7, ground := Ground.data }, { on := 6, ground := Ground.data }, { on := 6, ground := Ground.chain }, { on := 0, ground := Ground.phase }, { on := 1, ground := Ground.phase }, { on := 2, ground := Ground.phase }, { on := 3, ground := Ground.phase }, { on := 4, ground := Ground.phase }, { on := 5, ground := Ground.phase }, { on := 6, ground := Ground.phase }], guard := none }) rfl (fun K hK => ?_) AllReadyH.nil
                        go_simp
                        refine hK.out _ _ (kk4.to1.set1 _ _) (fun hHeld => ?_)
                        clear hK K
                        try simp only [Act.put, List.setIfInBounds_toArray, List.set_cons_zero, List.set_cons_succ]
                        refine wpAnyH_done (by kernel_rfl) ?_ _
                        go_wp2_with fail
                        go_meet
                        exact ⟨_, _, Lib.hid (App.mk2 HM.out kk4 rz4 (by have := nz1.out; have := nz2.out; have := HSZ.out; omega))⟩
                      exact AllReadyH.nil
                    exact AllReadyH.nil
                  exact AllReadyH.nil
                refine AllReadyH.cons (o := { dst := some 84, op := Op.load TS (Operand.tmp 83), type := TS, pos := "law.go:66", after := #[{ on := 1, ground := Ground.data }], guard := none }) rfl (fun K hK => ?_) ?_
                · skip
                  have p1 : v1.cell? ⟨w.heap.size, 1, none⟩ = some (.slice ao n cap) := cell_at ((kk1.block _ (lt_of_block HM.out) (fun e => e)).trans HM.out) 1
                  go_simp
                  refine hK.out _ _ kk1.to1 (fun hHeld => ?_)
                  clear hK K p1
                  try simp only [Act.put, List.setIfInBounds_toArray, List.set_cons_zero, List.set_cons_succ]
                  refine wpAnyH_ready (rs := [0]) (by kernel_rfl) (by simp) ?_
                  refine AllReadyH.cons (o := { dst := some 82, op := Op.buildSlice TS 0 #[], type := TS, pos := "law.go:66", after := #[], guard := none }) rfl (fun K hK => ?_) ?_
                  · skip
                    go_simp
                    obtain ⟨v2, hv⟩ : ∃ V, V = (v1.alloc (.cells #[] TR)) := ⟨_, rfl⟩
                    rw [← hv]
                    have ks : Keep (fun _ => False) v1 v2 := by rw [hv]; exact ((Keep.refl _ _).alloc _)
                    have nz2 := Lib.hid (show v2.heap.size = v1.heap.size + 1 by rw [hv]; simp)
                    have bE2 : v2.heap[v1.heap.size]? = some (.cells #[] TR (0, 0)) := by rw [hv]; exact block_new v1 _
                    clear hv
                    have kk2 : Keep (fun _ => False) w5 v2 := kk1.trans ks
                    have sz2 := kk2.size
                    have bY2 := (ks.block _ (lt_of_block bY1) (fun e => e)).trans bY1
                    refine hK.out _ _ kk2.to1 (fun hHeld => ?_)
                    clear hK K
                    try simp only [Act.put, List.setIfInBounds_toArray, List.set_cons_zero, List.set_cons_succ]
                    refine wpAnyH_ready (rs := [3]) (by kernel_rfl) (by simp) ?_
                    refine AllReadyH.cons (o := { dst := some 85, op := Op.call { callee := Callee.builtin Builtin.append, args := #[Operand.tmp 82, Operand.tmp 84], argTypes := #[TS, TS] }, type := TS, pos := "law.go:66", after := #[{ on := 0, ground := Ground.data }, { on := 2, ground := Ground.data }], guard := none }) rfl (fun K hK => ?_) ?_
                    · skip
                      obtain ⟨g1, c1, v3, hrun1, rw3, ks, hg1⟩ := app_first bE2 (HMR.out.keep kk2 (fun _ _ e => e.elim)) HN9.out HNN.out TS
                      go_simp
                      have kk3 : Keep (fun _ => False) w5 v3 := kk2.then ks (fun q e => by have := nz1.out; have := nz2.out; have := HSZ.out; omega)
                      have sz3 := kk3.size
                      have bY3 := (ks.block _ (lt_of_block bY2) (fun e => by have := nz1.out; have := nz2.out; have := HSZ.out; omega)).trans bY2
                      clear hrun1
                      refine hK.out _ _ kk3.to1 (fun hHeld => ?_)
                      clear hK K
                      try simp only [Act.put, List.setIfInBounds_toArray, List.set_cons_zero, List.set_cons_succ]
                      refine wpAnyH_ready (rs := [6]) (by kernel_rfl) (by simp) ?_
                      refine AllReadyH.cons (o := { dst := some 88, op := Op.call { callee := Callee.builtin Builtin.append, args := #[Operand.tmp 85, Operand.tmp 87], argTypes := #[TS, TS] }, type := TS, pos := "law.go:66", after := #[{ on := 3, ground := Ground.data }, { on := 5, ground := Ground.data }, { on := 3, ground := Ground.chain }], guard := none }) rfl (fun K hK => ?_) ?_
                      · skip
                        obtain ⟨g2, c2, v4, hrun2, rz4, ks, hg2⟩ := app_second rw3 (rec0 ((base : Int) + (n : Int) + 1) num) bY3 HN9.out TS
                        go_simp
                        have kk4 : Keep (fun _ => False) w5 v4 := kk3.then ks (fun q e => by have := nz1.out; have := nz2.out; have := HSZ.out; omega)
                        have sz4 := kk4.size
                        clear hrun2
                        refine hK.out _ _ kk4.to1 (fun hHeld => ?_)
                        clear hK K
                        try simp only [Act.put, List.setIfInBounds_toArray, List.set_cons_zero, List.set_cons_succ]
                        have pm := (kk4.block _ (lt_of_block HM.out) (fun e => e)).trans HM.out
                        have p1 : v4.cell? ⟨w.heap.size, 1, none⟩ = some (.slice ao n cap) := cell_at pm 1
                        have p2 : v4.frozen? ⟨w.heap.size, 1, none⟩ = false := free_at pm 1
                        clear pm
                        refine wpAnyH_take (i := 7) (oi := { dst := some 89, op := Op.fieldAddr TM (Operand.tmp 3) 1, type := 0, pos := "law.go:66", after := #[{ on := 0, ground := Ground.phase }, { on := 1, ground := Ground.phase }, { on := 2, ground := Ground.phase }, { on := 3, ground := Ground.phase }, { on := 4, ground := Ground.phase }, { on := 5, ground := Ground.phase }, { on := 6, ground := Ground.phase }], guard := none }) (v := .pointer (some ⟨w.heap.size, 1, none⟩)) rfl (by kernel_rfl) (by kernel_rfl) (by kernel_rfl) (fun _ _ _ h => h) (Or.inl ⟨by rfl, ?_⟩) (by assumption) ?_
                        · (intro w' hSw; (try dsimp only at hSw); go_simp)
                        try simp only [Act.put, List.setIfInBounds_toArray, List.set_cons_zero, List.set_cons_succ]
                        refine wpAnyH_ready (rs := [8]) (by kernel_rfl) (by simp) ?_
                        refine AllReadyH.cons (o := { dst := none, op := Op.store TS (Operand.tmp 89) (Operand.tmp 88), type := 0, pos := "law.go:66", after := #[{ on := 7, ground := Ground.data }, { on := 6, ground := Ground.data }, { on := 6, ground := Ground.chain }, { on := 0, ground := Ground.phase }, { on := 1, ground := Ground.phase }, { on := 2, ground := Ground.phase }, { on := 3, ground := Ground.phase }, { on := 4, ground := Ground.phase }, { on := 5, ground := Ground.phase }, { on := 6, ground := Ground.phase }], guard := none }) rfl (fun K hK => ?_) AllReadyH.nil
                        go_simp
                        refine hK.out _ _ (kk4.to1.set1 _ _) (fun hHeld => ?_)
                        clear hK K
                        try simp only [Act.put, List.setIfInBounds_toArray, List.set_cons_zero, List.set_cons_succ]
                        refine wpAnyH_done (by kernel_rfl) ?_ _
                        go_wp2_with fail
                        go_meet
                        exact ⟨_, _, Lib.hid (App.mk2 HM.out kk4 rz4 (by have := nz1.out; have := nz2.out; have := HSZ.out; omega))⟩
                      exact AllReadyH.nil
                    exact AllReadyH.nil
                  exact AllReadyH.nil
                exact AllReadyH.nil
              exact AllReadyH.nil
            case rest =>
              clear m0 m1 m2
              obtain ⟨g, c, hA⟩ := hcut
              have hm3 := hA.out.m
              have m0 := cell_at hm3 0
              have m1 := cell_at hm3 1
              have m2 := cell_at hm3 2
              simp at m0 m1 m2
              have hz3 := (hA.out.k.block _ (lt_of_block HZ5.out) (by omega)).trans HZ5.out
              have st := store_mod hz3 rfl (base : Int) (most : Int) (some ⟨g, 0, none⟩) (n + 1) c
              have hz4 := mod_block hz3 rfl (base : Int) (most : Int) (.slice (some ⟨g, 0, none⟩) (n + 1) c)
              have q0 := cell_at hz4 0
              have q1 := cell_at hz4 1
              have q2 := cell_at hz4 2
              simp at q0 q1 q2
              clear hz3 hz4 hm3
              go_wp2_with fail
              refine bodyPost_ret (v := .tuple #[.agg #[.int .u64 (base : Int), .slice (some ⟨g, 0, none⟩) (n + 1) c, .int .i64 (most : Int)], .bool true]) ?_ rfl ⟨base, _, rfl, Did.app HFB.out hB.out.k HL2.out HF2.out K2.out (App.pre hA.out K25.out.to1) HZB9.out hBw HNN.out (by omega) (by omega) (by have := HNR.out; omega) _⟩
              simp [results, Try.results15, go_sem, q0, q1, q2]
          · have C1 := Lib.hid (add_full' HL1.out (rec0 ((base : Int) + (n : Int) + 1) num) (by omega) hrl (by rw [← HNR.out]; omega) (by rw [← HNR.out]; rfl))
            unfold Rec.agg Rec.cells rec0 at C1
            go_upto_region 15 with (go_at_call 10; refine C1.out.mono ?_; clear C1; rintro e w2 ⟨rfl, k2⟩)
            have HX2 := Lib.hid ((k2.block _ (lt_of_block HXB.out) (fun e => e)).trans HXB.out)
            have HM2 := Lib.hid ((k2.block _ (lt_of_block hB.out.m) (fun e => e)).trans hB.out.m)
            have HZ2 := Lib.hid ((k2.block _ (lt_of_block hB.out.z) (fun e => e)).trans hB.out.z)
            have K2 := Lib.hid k2
            clear k2 u0 u1 x0 x1 x2 x3 x4 x5 x6 x7 x8
            have hq : ∀ d os, (grow (redrawn w2 d) os).cell? ⟨X, 0, none⟩ = some (.int .u64 ((base : Int) + (n : Int) + 1)) ∧ (grow (redrawn w2 d) os).cell? ⟨w.heap.size, 0, none⟩ = some (.int .u64 (base : Int)) ∧ (grow (redrawn w2 d) os).cell? ⟨w.heap.size, 1, none⟩ = some (.slice ao n cap) ∧ (grow (redrawn w2 d) os).cell? ⟨w.heap.size, 2, none⟩ = some (.int .i64 (most : Int)) := fun d os => ⟨cell_regrown (cell_at HX2.out 0) d os, cell_regrown (cell_at HM2.out 0) d os, cell_regrown (cell_at HM2.out 1) d os, cell_regrown (cell_at HM2.out 2) d os⟩
            have hq0 := fun d os => (hq d os).1
            have hq1 := fun d os => (hq d os).2.1
            have hq2 := fun d os => (hq d os).2.2.1
            have hq3 := fun d os => (hq d os).2.2.2
            have CQ := Lib.hid (fun d os => Calls.regrown_of (w := w2) (d := d) (os := os) ((last_m base n cap most ao (by omega) (by omega) (grow (redrawn w2 d) os)).mono fun _ _ ⟨he, k⟩ => ⟨he, k.below0⟩))
            unfold mod at CQ
            clear hq
            refine wp_region_quiet_below (by kernel_rfl) (by kernel_rfl) ?_
            repeat (quiet_step (exact CQ.out _ _))
            refine wpQuiet_nil ?_
            intro _ hw'
            obtain ⟨⟨dq, osq⟩, hw''⟩ := hw'
            subst hw''
            clear hq0 hq1 hq2 hq3 CQ
            obtain ⟨w5, hw5⟩ : ∃ w5, w5 = grow (redrawn w2 dq) osq := ⟨_, rfl⟩
            rw [← hw5]
            have k25 : Keep (fun _ => False) w2 w5 := by rw [hw5]; exact Keep.of0 (below_regrown w2 dq osq)
            have K25 := Lib.hid k25
            have HM5 := Lib.hid ((k25.block _ (lt_of_block HM2.out) (fun e => e)).trans HM2.out)
            have HZ5 := Lib.hid ((k25.block _ (lt_of_block HZ2.out) (fun e => e)).trans HZ2.out)
            clear hw5 k25
            have m0 := cell_at HM5.out 0
            have m1 := cell_at HM5.out 1
            have m2 := cell_at HM5.out 2
            simp at m0 m1 m2
            have st := store_mod HZ5.out rfl (base : Int) (most : Int) ao n cap
            have hz4 := mod_block HZ5.out rfl (base : Int) (most : Int) (.slice ao n cap)
            have q0 := cell_at hz4 0
            have q1 := cell_at hz4 1
            have q2 := cell_at hz4 2
            simp at q0 q1 q2
            clear hz4
            go_wp2_with fail
            refine bodyPost_ret (v := .tuple #[.agg #[.int .u64 (base : Int), .slice ao n cap, .int .i64 (most : Int)], .bool true]) ?_ rfl ⟨base, _, rfl, Did.of (S := fun j => j = w.heap.size + 1 + 1) HFB.out (hB.out.k) (HL1.out.keep K2.out (fun _ _ e => e)) (fun i f => .inl f) (K2.out.toAny) (fun i e => by have := HZB9.out; omega) (K25.out.toAny.trans (Keep.setCells (S := fun j => j = w.heap.size + 1 + 1) (.inl rfl) _ _ _ (Keep.refl _ _))) (fun kk => MRow.move HR.out kk (fun i f => .inl f)) (by have := HNR.out; omega) (Nat.le_refl _) (by omega)⟩
            simp [results, Try.results15, go_sem, q0, q1, q2]

end Go.Proofs.Ytiokngcfenfieaa.LogB
