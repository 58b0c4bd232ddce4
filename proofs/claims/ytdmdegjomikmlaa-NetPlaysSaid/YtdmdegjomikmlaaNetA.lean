/-
  Layer 22 (net): Drop; Send of a fresh row; awake.
-/
import Derived.Test.YtdmdegjomikmlaaNetT
namespace Go.Proofs.Ytdmdegjomikmlaa.NetA
set_option linter.unusedVariables false
set_option linter.unusedSimpArgs false
open Go.RowKit Go.Proofs.Ytdmdegjomikmlaa.Mem Go.Proofs.Ytdmdegjomikmlaa.NetM Go.Proofs.Ytdmdegjomikmlaa.NetW Go.Proofs.Ytdmdegjomikmlaa.NetS Go.Proofs.Ytdmdegjomikmlaa.NetD Go.Proofs.Ytdmdegjomikmlaa.NetT
attribute [-go_sem] Instr.loadAt loadVar
attribute [local go_sem] loadAt_ptr lv_int lv_bool lv_string lv_u8 lv_ps lv_map

/-- What a call leaves: the network as told, all else as it was. -/
def Up (w w' : World) (F : Nat → Prop) (b : Nat) (ps : List Pk) (n : Nat) (S : Int → Int → Bool) (mb : Nat) : Prop :=
  ∃ F' v', NetAt w' F' b ps n S v' mb ∧ (∀ k, F' k → k < w'.heap.size) ∧ (∀ k, F' k → F k ∨ w.heap.size ≤ k) ∧ Keep F w w'

theorem own_lt {w : World} {v : Value} {n k : Nat} {ns : List Value} (h : w.ownsRow 0 TP 4 v n ns) (e : v.ownBlock = some k) : k < w.heap.size := by
  rcases h.2 with ⟨rfl, _⟩ | ⟨g, cap, cur, rfl, _, hg, _⟩
  · simp [Value.ownBlock] at e
  · simp [Value.ownBlock] at e
    subst e
    exact lt_of_block hg
theorem net_tight {w : World} {F : Nat → Prop} {b n mb : Nat} {ps : List Pk} {S : Int → Int → Bool} {v : Value} (h : NetAt w F b ps n S v mb) : NetAt w (fun k => F k ∧ k < w.heap.size) b ps n S v mb :=
  ⟨h.h, h.o, h.c, h.nb, ⟨h.fb, lt_of_block h.h⟩, ⟨h.fm, h.c.lt⟩, fun k e => ⟨h.fo k e, own_lt h.o e⟩, h.ok⟩

theorem drop_no {w : World} {F : Nat → Prop} {b n mb : Nat} {ps : List Pk} {S : Int → Int → Bool} {v : Value} (h : NetAt w F b ps n S v mb) (i : Int) (hi : ¬ (0 ≤ i ∧ i < ps.length)) :
    Calls Try.prog 19 #[.pointer (some ⟨b, 0, none⟩), .int .i64 i] w fun e w' => e = .returned (.bool false) ∧ Keep (fun _ => False) w w' := by
  have HT := Lib.hid (take_no h i hi)
  clear h hi
  go_enter Try.func19, Try.ntmps19
  go_wp2_with (go_at_call 18; refine HT.out.mono ?_; rintro e w1 ⟨rfl, k1⟩; unfold noPk)
  go_ret
  exact ⟨rfl, k1.alloc _⟩

theorem drop_yes {w : World} {F : Nat → Prop} {b n mb : Nat} {ps : List Pk} {S : Int → Int → Bool} {v : Value} (h : NetAt w F b ps n S v mb) (i : Nat) (p : Pk) (hp : ps[i]? = some p) (hn : ps.length ≤ 1000000) :
    Calls Try.prog 19 #[.pointer (some ⟨b, 0, none⟩), .int .i64 i] w fun e w' => e = .returned (.bool true) ∧ ∃ v', NetAt w' F b (ps.eraseIdx i) n S v' mb ∧ Keep F w w' := by
  have HT := Lib.hid (take_yes h i p hp hn)
  clear h hp hn
  go_enter Try.func19, Try.ntmps19
  go_wp2_with (go_at_call 18; refine HT.out.mono ?_; rintro e w1 ⟨rfl, v1, n1, k1⟩; replace n1 := Lib.hid n1; unfold Pk.agg Pk.cells)
  go_ret
  exact ⟨rfl, v1, n1.out.keep0 ((Keep.refl _ _).alloc _), k1.alloc _⟩

theorem send_row {w : World} {F : Nat → Prop} {b n mb : Nat} {ps : List Pk} {S : Int → Int → Bool} {v : Value} (h : NetAt w F b ps n S v mb) (hF : ∀ k, F k → k < w.heap.size) (T : TypeId) (qs : List Pk) (hok : ∀ p ∈ qs, p.Ok) (hn : ps.length + qs.length ≤ 100000) (hop : ∀ p ∈ qs, S (min p.fr p.to_) (max p.fr p.to_) = false) :
    Calls Try.prog 10 #[.pointer (some ⟨b, 0, none⟩), .slice (some ⟨w.heap.size, 0, none⟩) qs.length qs.length] (w.alloc (.cells (flat qs).toArray T)) fun e w' => e = .returned (.int .i64 (snd S ps qs).2) ∧ Up w w' F b (snd S ps qs).1 n S mb := by
  have ka : Keep (fun _ => False) w (w.alloc (.cells (flat qs).toArray T)) := (Keep.refl _ w).alloc _
  have hs : (w.alloc (.cells (flat qs).toArray T)).heap.size = w.heap.size + 1 := by simp
  refine (send_open (h.keep0 ka) (fun k hk => by have := hF k hk; omega) qs w.heap.size qs.length (fun e => by have := hF _ e; omega) (by omega) ?_ hok hn hop).mono ?_
  · intro i p hp j hj
    rw [cell_at (block_new w _)]
    have := flat_at qs i j p hp hj
    rw [← this]; simp
  · rintro e w' ⟨rfl, F', v', n1, f1, f2, k1⟩
    exact ⟨rfl, F', v', n1, f1, fun k hk => (f2 k hk).imp id (fun e => by omega), ka.toAny.trans k1⟩

def no : Int → Int → Bool := fun _ _ => false
def aw : List Pk := [⟨1, 2, ⟨#[97]⟩, false⟩, ⟨2, 1, ⟨#[98]⟩, false⟩]
theorem aw_ok : ∀ p ∈ aw, p.Ok := by
  intro p hp
  simp only [aw, List.mem_cons, List.not_mem_nil, or_false] at hp
  rcases hp with rfl | rfl <;> exact ⟨by decide, by decide, by decide⟩
theorem aw_snd : snd no [] aw = (aw, 2) := by simp [snd, stp, aw, no, cnt]

/-- New, with what it makes told tightly. -/
theorem new_tight (w : World) :
    Calls Try.prog 9 #[] w fun e w' => ∃ b mb F, e = .returned (.pointer (some ⟨b, 0, none⟩)) ∧ NetAt w' F b [] 0 no (.slice none 0 0) mb ∧ (∀ k, F k → k < w'.heap.size) ∧ (∀ k, F k → w.heap.size ≤ k) ∧ Keep (fun _ => False) w w' := by
  refine (new_any w).mono ?_
  rintro e w' ⟨b, mb, rfl, n1, k1⟩
  exact ⟨b, mb, _, rfl, net_tight n1, fun k hk => hk.2, fun k hk => hk.1, k1⟩

theorem awake_any (w : World) : Calls Try.prog 8 #[] w fun e w' => e = .returned (.bool true) ∧ Keep (fun _ => False) w w' := by
  go_enter Try.func8, Try.ntmps8
  go_wp2_with (first
    | (go_at_call 9; refine (new_tight _).mono ?_; rintro e w1 ⟨b, mb, F1, rfl, n1, f1, g1, k1⟩
       have HS := Lib.hid (send_row n1 f1 TP aw aw_ok (show 0 + 2 ≤ 100000 by omega) (fun _ _ => rfl))
       clear n1)
    | (go_at_call 10; refine HS.out.mono ?_; rintro e w2 ⟨rfl, F2, v2, n2, f2, g2, k2⟩
       rw [aw_snd] at n2 ⊢
       have HT := Lib.hid (take_yes n2 1 _ rfl (show 2 ≤ 1000000 by omega))
       clear n2)
    | (go_at_call 18; refine HT.out.mono ?_; rintro e w3 ⟨rfl, v3, n3, k3⟩; unfold Pk.agg Pk.cells
       have HL := Lib.hid (fun o => len_at (n3.keep0 ((Keep.refl _ _).alloc o)))
       clear n3)
    | (go_at_call 11; refine (HL.out _).mono ?_; rintro e w4 ⟨rfl, rfl⟩))
  go_ret
  exact ⟨rfl, (Keep.then (Keep.then k1 k2 g1) k3 (fun i hi => by rcases g2 i hi with e | e; exact g1 i e; have := k1.size; omega)).alloc _⟩

end Go.Proofs.Ytdmdegjomikmlaa.NetA
