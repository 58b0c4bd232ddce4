/-
  Layer 6 (ring): the places of keys, a map in memory.
-/
import Derived.Test.YtebjbkpgicbgeaaMem2
import Derived.Test.YtebjbkpgicbgeaaProg
import Derived.Maps.Own
import Derived.Maps.OwnSet
import Derived.Maps.Views
import Derived.ProofKit
import Derived.OpenShut
import Derived.MapFrom
namespace Go.Proofs.Ytebjbkpgicbgeaa.RinM
set_option linter.unusedVariables false
set_option linter.unusedSimpArgs false
open Go.RowKit Go.Proofs.Ytebjbkpgicbgeaa.Mem Go.Maps Go.ChangeMaps Go.MapKept Go.WideElems

abbrev TM : TypeId := 80
abbrev TStr : TypeId := 9
abbrev TInt : TypeId := 3
theorem lawS : Keyed Try.prog TStr := string_keyed Try.underlying9
theorem zeroI (w : World) : (zeroValue 3).run Try.prog w = .ok (.int .i64 0) w := by kernel_rfl
def kl (x : ByteArray) : Lit := .string x.data.toList
theorem key_ok (x : ByteArray) (h : x.size ≤ maxLen) : keyOf Try.prog TStr (.string x) = some (kl x) := WideMaps.keyOf_string_mk Try.underlying9 h
theorem kl_ne {x y : ByteArray} (h : x ≠ y) : kl x ≠ kl y := by
  intro e
  apply h
  injection e with e
  cases x; cases y
  congr 1
  exact Array.ext' e

/-- The map at mb tells M; at most n were put. -/
def Mp (w : World) (mb n : Nat) (M : ByteArray → Option Nat) : Prop :=
  ∃ D : DataW Unit, w.ownsMap Try.prog TStr (plainElem Try.prog TInt) mb n D ∧
    ∀ x : ByteArray, x.size ≤ maxLen → Maps.has D (kl x) = (M x).isSome ∧ D.atKey (kl x) (.lit (.int .i64 0)) = .lit (.int .i64 (((M x).getD 0 : Nat) : Int))

theorem Mp.keep {w w' : World} {K : Nat → Prop} {mb n : Nat} {M : ByteArray → Option Nat} (h : Mp w mb n M) (k : Keep K w w') (hn : ¬ K mb) : Mp w' mb n M := by
  obtain ⟨D, ⟨es, clock, hb, F, hs, hD⟩, h2⟩ := h
  exact ⟨D, ⟨es, clock, (k.block mb (lt_of_block hb) hn).trans hb, F, hs, hD⟩, h2⟩
theorem Mp.isMap {w : World} {mb n : Nat} {M : ByteArray → Option Nat} (h : Mp w mb n M) : ∃ es clock, w.heap[mb]? = some (.map es clock) := by
  obtain ⟨D, ⟨es, clock, hb, _⟩, _⟩ := h
  exact ⟨es, clock, hb⟩
theorem Mp.lt {w : World} {mb n : Nat} {M : ByteArray → Option Nat} (h : Mp w mb n M) : mb < w.heap.size := by
  obtain ⟨es, clock, hb⟩ := h.isMap
  exact lt_of_block hb
theorem Mp.mono {w : World} {mb n n' : Nat} {M : ByteArray → Option Nat} (h : Mp w mb n M) (hn : n ≤ n') : Mp w mb n' M := by
  obtain ⟨D, h1, h2⟩ := h; exact ⟨D, h1.mono hn, h2⟩
theorem Mp.made (w : World) : Mp (w.alloc (.map #[] 0)) w.heap.size 0 (fun _ => none) := ⟨_, World.ownsMap_made w _ _ _, fun _ _ => ⟨rfl, rfl⟩⟩
theorem Mp.of_empty {w : World} {mb : Nat} (h : w.heap[mb]? = some (.map #[] 0)) : Mp w mb 0 (fun _ => none) := ⟨.map [], ⟨#[], 0, h, ⟨by simp, stamped_empty 0, by simp⟩, Nat.le_refl _, rfl⟩, fun x hx => ⟨rfl, rfl⟩⟩
theorem Mp.ext {w : World} {mb n : Nat} {M M' : ByteArray → Option Nat} (h : Mp w mb n M) (e : ∀ x, M x = M' x) : Mp w mb n M' := by
  obtain ⟨D, h1, h2⟩ := h
  exact ⟨D, h1, fun x hx => by rw [← e x]; exact h2 x hx⟩

theorem Mp.look {w : World} {mb n : Nat} {M : ByteArray → Option Nat} (h : Mp w mb n M) (x : ByteArray) (hx : x.size ≤ maxLen) :
    (Instr.lookup TM (.map (some mb)) (.string x) true).run Try.prog w = .ok (.tuple #[.int .i64 (((M x).getD 0 : Nat) : Int), .bool (M x).isSome]) w := by
  obtain ⟨D, h1, h2⟩ := h
  obtain ⟨v, ps, hrun, hv⟩ := h1.look_ok lawS Try.underlying80 (zeroI w) (plainElem_int Try.underlying3 (a := 0) rfl) (key_ok x hx)
  obtain ⟨e1, e2⟩ := h2 x hx
  rw [e2] at hv
  rw [e1] at hrun
  obtain ⟨c, rfl, hc, hw⟩ := plainElem_int_inv Try.underlying3 hv
  simp at hc
  rw [hc.1]
  exact hrun

theorem Mp.put {w : World} {mb n : Nat} {M : ByteArray → Option Nat} (h : Mp w mb n M) (hn : n ≤ 100000000) (x : ByteArray) (hx : x.size ≤ maxLen) (a : Nat) (ha : a ≤ 1000000) :
    ∃ w', (Instr.mapUpdate TM (.map (some mb)) (.string x) (.int .i64 (a : Int))).run Try.prog w = .ok () w' ∧ Mp w' mb (n + 1) (fun y => if y = x then some a else M y) ∧ Keep (fun k => k = mb) w w' := by
  obtain ⟨D, h1, h2⟩ := h
  obtain ⟨w', hrun, ho, hg⟩ := h1.update lawS Try.underlying80 (by unfold maxLen; omega) (key_ok x hx) (plainElem_int Try.underlying3 (a := (a : Int)) (WalkArith.wf_i64 (by omega)))
  refine ⟨w', hrun, ⟨_, ho, fun y hy => ?_⟩, (Keep.refl _ w).grown hg (fun k e => .inl (by cases e; rfl))⟩
  by_cases e : y = x
  · subst e
    simp only [if_true]
    exact ⟨Maps.has_put_same h1.isMap (lawS.key (key_ok y hx)) _, by rw [Maps.atKey_put_same h1.isMap (lawS.key (key_ok y hx))]; rfl⟩
  · simp only [if_neg e]
    exact ⟨by rw [Maps.has_put_other (kl_ne e)]; exact (h2 y hy).1, by rw [Maps.atKey_put_other (kl_ne e)]; exact (h2 y hy).2⟩

theorem Mp.drop {w : World} {mb n : Nat} {M : ByteArray → Option Nat} (h : Mp w mb n M) (x : ByteArray) (hx : x.size ≤ maxLen) :
    ∃ w', (∀ ty, (Builtin.delete_ #[TM, TStr] ty #[.map (some mb), .string x]).run Try.prog w = .ok (.tuple #[]) w') ∧ Mp w' mb n (fun y => if y = x then none else M y) ∧ Keep (fun k => k = mb) w w' := by
  obtain ⟨D, ⟨es, clock, hb, F, hs, hD⟩, h2⟩ := h
  obtain ⟨es', hrun, F', hle, hdel, _⟩ := Maps.fit_drop (ty := 0) lawS Try.underlying80 hb F (key_ok x hx)
  refine ⟨setBlock w mb (.map es' clock), fun ty => ?_, ⟨D.del (kl x), ⟨es', clock, heap_setBlock_same hb _, F', Nat.le_trans hle hs, by rw [hD, DataW.del_eq, hdel]⟩, fun y hy => ?_⟩, ⟨rfl, rfl, rfl, by simp [setBlock], fun i _ hi => heap_setBlock_other hb _ (fun e => hi e)⟩⟩
  · exact hrun
  · by_cases e : y = x
    · subst e
      simp only [if_true]
      exact ⟨Maps.has_del_same, by rw [Maps.atKey_del_same]; rfl⟩
    · simp only [if_neg e]
      exact ⟨by rw [Maps.has_del_other (kl_ne e)]; exact (h2 y hy).1, by rw [Maps.atKey_del_other (kl_ne e)]; exact (h2 y hy).2⟩

end Go.Proofs.Ytebjbkpgicbgeaa.RinM
