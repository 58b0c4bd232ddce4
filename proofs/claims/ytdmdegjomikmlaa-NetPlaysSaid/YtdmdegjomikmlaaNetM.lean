/-
  Layer 22 (net): the ways that are cut, a map in memory.
-/
import Derived.Test.YtdmdegjomikmlaaMem2
import Derived.Test.YtdmdegjomikmlaaProg
import Derived.Maps.Own
import Derived.Maps.OwnSet
import Derived.Maps.Views
import Derived.DeepKeys4
import Derived.Lib.SmallJoins
import Derived.ProofKit
import Derived.OpenShut
import Derived.MapFrom
namespace Go.Proofs.Ytdmdegjomikmlaa.NetM
set_option linter.unusedVariables false
set_option linter.unusedSimpArgs false
open Go.RowKit Go.Proofs.Ytdmdegjomikmlaa.Mem Go.Maps Go.ChangeMaps Go.MapKept Go.WideElems

abbrev TW : TypeId := 52
abbrev TM : TypeId := 48
theorem laidOut : laidOutB Try.prog = true := by kernel_rfl
theorem rowW : (TW : TypeId) < Try.prog.types.size := of_decide_eq_true (by kernel_rfl)
theorem cellsW : Try.prog.cellsOf TW = 2 := by kernel_rfl
theorem deepW : Try.prog.keyTypeAt (Try.prog.types.size + 1) TW = true := by kernel_rfl
theorem wideW : (match Try.prog.underlying TW with | some (.array _ _) | some (.struct _) => true | _ => false) = true := by kernel_rfl
theorem lawW : Keyed Try.prog TW := Keyed.of_law (Go.deep_law_laid laidOut (m := 2) (by omega) rowW (by kernel_rfl) wideW)

/-- A way, as a key. -/
def kl (a b : Int) : Lit := (DataW.agg [.lit (.int .i64 a), .lit (.int .i64 b)] : DataW Unit).asKey
theorem key_ok (a b : Int) (wa : (Lit.int .i64 a).wf = true) (wb : (Lit.int .i64 b).wf = true) : keyOf Try.prog TW (.agg #[.int .i64 a, .int .i64 b]) = some (kl a b) := by
  have hf : (Value.agg #[.int .i64 a, .int .i64 b]).formed Try.prog TW = true := by
    simp [Value.formed, Try.underlying52, cellsW]
  have ht : DataW.Trod (fun _ => ()) Try.prog default 0 (fun _ => false) false TW (.agg #[.int .i64 a, .int .i64 b]) (.agg [.lit (.int .i64 a), .lit (.int .i64 b)]) ([] ++ []) :=
    Go.Joins.shut_agg2 Try.underlying52 (by kernel_rfl) cellsW (y0 := (.lit (.int .i64 a), [])) (y1 := (.lit (.int .i64 b), [])) ⟨1, by simp [DataW.trod, Try.underlying3, wa]⟩ ⟨1, by simp [DataW.trod, Try.underlying3, wb]⟩
  exact (keyOf_asKey deepW wideW hf ht).1
theorem kl_inj (a b c d : Int) (wa : (Lit.int .i64 a).wf = true) (wb : (Lit.int .i64 b).wf = true) (wc : (Lit.int .i64 c).wf = true) (wd : (Lit.int .i64 d).wf = true) (h : kl a b = kl c d) : a = c ∧ b = d := by
  have h1 := key_ok a b wa wb
  have h2 := key_ok c d wc wd
  rw [← h] at h2
  have := lawW.inj h1 h2
  simpa using this

/-- The map at mb tells S of each way; it has at most n. -/
def Cuts (w : World) (mb n : Nat) (S : Int → Int → Bool) : Prop :=
  ∃ D : DataW Unit, w.ownsMap Try.prog TW (plainElem Try.prog 4) mb n D ∧
    ∀ a b : Int, (Lit.int .i64 a).wf = true → (Lit.int .i64 b).wf = true → D.atKey (kl a b) (.lit (.bool false)) = .lit (.bool (S a b))

theorem Cuts.keep {w w' : World} {K : Nat → Prop} {mb n : Nat} {S : Int → Int → Bool} (h : Cuts w mb n S) (k : Keep K w w') (hn : ¬ K mb) : Cuts w' mb n S := by
  obtain ⟨D, ⟨es, clock, hb, F, hs, hD⟩, h2⟩ := h
  exact ⟨D, ⟨es, clock, (k.block mb (lt_of_block hb) hn).trans hb, F, hs, hD⟩, h2⟩
theorem Cuts.lt {w : World} {mb n : Nat} {S : Int → Int → Bool} (h : Cuts w mb n S) : mb < w.heap.size := by
  obtain ⟨D, h1, h2⟩ := h; exact h1.lt
theorem Cuts.mono {w : World} {mb n n' : Nat} {S : Int → Int → Bool} (h : Cuts w mb n S) (hn : n ≤ n') : Cuts w mb n' S := by
  obtain ⟨D, h1, h2⟩ := h; exact ⟨D, h1.mono hn, h2⟩
theorem Cuts.made (w : World) : Cuts (w.alloc (.map #[] 0)) w.heap.size 0 (fun _ _ => false) := ⟨_, World.ownsMap_made w _ _ _, fun _ _ _ _ => rfl⟩

theorem zeroB (w : World) : (zeroValue 4).run Try.prog w = .ok (.bool false) w := by kernel_rfl
theorem plain_bool_inv {v : Value} {z : DataW Unit × List MemPlace} (h : plainElem Try.prog 4 v = some z) : ∃ x, v = .bool x ∧ z = (.lit (.bool x), []) := by
  unfold plainElem at h
  rw [Try.underlying4] at h
  cases v <;> simp at h
  exact ⟨_, rfl, h.symm⟩

theorem Cuts.look {w : World} {mb n : Nat} {S : Int → Int → Bool} (h : Cuts w mb n S) (a b : Int) (wa : (Lit.int .i64 a).wf = true) (wb : (Lit.int .i64 b).wf = true) :
    (Instr.lookup TM (.map (some mb)) (.agg #[.int .i64 a, .int .i64 b]) false).run Try.prog w = .ok (.bool (S a b)) w := by
  obtain ⟨D, h1, h2⟩ := h
  obtain ⟨v, ps, hrun, hv⟩ := h1.lookup lawW Try.underlying48 (zeroB w) (plainElem_bool Try.underlying4 false) (key_ok a b wa wb)
  rw [h2 a b wa wb] at hv
  obtain ⟨x, rfl, hx⟩ := plain_bool_inv hv
  simp at hx
  rw [hx.1]
  exact hrun

theorem Cuts.put {w : World} {mb n : Nat} {S : Int → Int → Bool} (h : Cuts w mb n S) (hn : n ≤ 1000000) (a b : Int) (wa : (Lit.int .i64 a).wf = true) (wb : (Lit.int .i64 b).wf = true) :
    ∃ w', (Instr.mapUpdate TM (.map (some mb)) (.agg #[.int .i64 a, .int .i64 b]) (.bool true)).run Try.prog w = .ok () w' ∧ Cuts w' mb (n + 1) (fun x y => S x y || (x == a && y == b)) ∧ w.grownBy w' (some mb) := by
  obtain ⟨D, h1, h2⟩ := h
  obtain ⟨w', hrun, ho, hg⟩ := h1.update lawW Try.underlying48 (by unfold maxLen; omega) (key_ok a b wa wb) (plainElem_bool Try.underlying4 true)
  refine ⟨w', hrun, ⟨_, ho, fun x y wx wy => ?_⟩, hg⟩
  by_cases e : x = a ∧ y = b
  · obtain ⟨rfl, rfl⟩ := e
    rw [Maps.atKey_put_same h1.isMap (lawW.key (key_ok x y wx wy))]
    simp
  · rw [Maps.atKey_put_other (fun hk => e (kl_inj x y a b wx wy wa wb hk)), h2 x y wx wy]
    have : (x == a && y == b) = false := by
      rw [Bool.and_eq_false_iff, beq_eq_false_iff_ne, beq_eq_false_iff_ne]
      by_cases e1 : x = a
      · right; exact fun e2 => e ⟨e1, e2⟩
      · left; exact e1
    show _ = DataW.lit (Lit.bool (S x y || (x == a && y == b)))
    rw [this, Bool.or_false]

theorem Cuts.clear {w : World} {mb n : Nat} {S : Int → Int → Bool} (h : Cuts w mb n S) :
    ∃ w', (∀ ty, (Builtin.clear_ #[TM] ty #[.map (some mb)]).run Try.prog w = .ok (.tuple #[]) w') ∧ Cuts w' mb 0 (fun _ _ => false) ∧ w.grownBy w' (some mb) := by
  obtain ⟨D, ⟨es, clock, hb, F, hs, hD⟩, h2⟩ := h
  refine ⟨setBlock w mb (.map #[] clock), fun ty => by simp [Builtin.clear_, run_underlying Try.underlying48, Go.MapKept.run_getObj_map hb, Go.MapKept.run_setObj_map _ hb, setBlock, Result.andThen], ?_, ?_⟩
  · exact ⟨.map [], ⟨#[], clock, heap_setBlock_same hb _, ⟨by simp, stamped_empty _, by simp⟩, Nat.le_refl _, rfl⟩, fun _ _ _ _ => rfl⟩
  · exact ⟨rfl, rfl, rfl, by simp [setBlock], fun i _ hi => heap_setBlock_other hb _ (fun e => hi (by rw [e]))⟩

end Go.Proofs.Ytdmdegjomikmlaa.NetM
