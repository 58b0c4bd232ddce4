/-
  The laws of layer 13 (log): the common part: awake, rows of records that are read.
-/
import Derived.Test.YtiokngcfenfieaaLogS
import Derived.Test.YtiokngcfenfieaaMask
import Derived.OpenShut
namespace Go.Proofs.Ytiokngcfenfieaa.LogL
set_option linter.unusedVariables false
set_option linter.unusedSimpArgs false
open Go.RowKit Go.Proofs.Ytiokngcfenfieaa.Mask Go.Proofs.Ytiokngcfenfieaa.Mem Go.Proofs.Ytiokngcfenfieaa.LogW Go.Proofs.Ytiokngcfenfieaa.LogV Go.Proofs.Ytiokngcfenfieaa.LogU Go.Proofs.Ytiokngcfenfieaa.LogT Go.Proofs.Ytiokngcfenfieaa.LogS

def rec0 (seq num : Int) : Rec := ⟨seq, 0, 0, num, 0, ⟨#[]⟩, ⟨#[]⟩, 0, 0⟩

theorem flat_at (rs : List Rec) : ∀ (i j : Nat) (r : Rec), rs[i]? = some r → j < 9 → (flat rs)[i * 9 + j]? = r.cells[j]? := by
  induction rs with
  | nil => intro i j r h; simp at h
  | cons a rs ih =>
    intro i j r h hj
    show (a.cells ++ flat rs)[i * 9 + j]? = _
    cases i with
    | zero =>
      simp only [List.getElem?_cons_zero, Option.some.injEq] at h
      subst h
      rw [List.getElem?_append_left (by simp [Rec.cells]; omega), Nat.zero_mul, Nat.zero_add]
    | succ i =>
      rw [List.getElem?_append_right (by simp [Rec.cells]; omega)]
      rw [show (i + 1) * 9 + j - a.cells.length = i * 9 + j from by simp [Rec.cells]; omega]
      exact ih i j r (by simpa using h) hj

/-- What a row of records is: nil and empty, or a block that holds them. -/
theorem RowAt.form {w : World} {F : Nat → Prop} {v : Value} {rs : List Rec} (h : RowAt w F v rs) :
    ∃ ao cap, v = .slice ao rs.length cap ∧ (rs = [] ∨ ∃ g cur, ao = some ⟨g, 0, none⟩ ∧ F g ∧ w.heap[g]? = some (.cells cur TR (0, 0)) ∧ cur.toList.take (rs.length * 9) = flat rs) := by
  obtain ⟨h1, h2, h3⟩ := h
  rcases h1.2 with ⟨hv, hn⟩ | ⟨g, cap, cur, hv, hb, hg, hc, hm, hs, ht⟩
  · exact ⟨none, 0, by rw [hv, hn], .inl (List.eq_nil_of_length_eq_zero hn)⟩
  · exact ⟨_, cap, hv, .inr ⟨g, cur, rfl, h2 g (by rw [hv]; rfl), hg, ht⟩⟩
theorem rec_cell {w : World} {g N : Nat} {cur : Array Value} {fr : Nat × Nat} {rs : List Rec} (hg : w.heap[g]? = some (.cells cur TR fr)) (ht : cur.toList.take N = flat rs) {i : Nat} {r : Rec} (hi : rs[i]? = some r) (j : Nat) (hj : j < 9) :
    w.cell? ⟨g, i * 9 + j, none⟩ = r.cells[j]? := by
  have h := flat_at rs i j r hi hj
  rw [← ht, List.getElem?_take] at h
  rw [cell_at hg]
  split at h
  · simpa using h
  · rename_i hge
    exfalso
    have h9 : (flat rs).length ≤ N := by rw [← ht, List.length_take]; omega
    have hil : i < rs.length := (List.getElem?_eq_some_iff.1 hi).1
    rw [flat_length] at h9
    omega

/-- A step that touches only what was made since w0. -/
theorem fresh {w0 a c : World} {F : Nat → Prop} (h : Keep (fun _ => False) w0 a) (k : Keep F a c) (hF : ∀ i, F i → w0.heap.size ≤ i) : Keep (fun _ => False) w0 c :=
  h.trans' k (fun i hi e => by have := hF i e; omega)

theorem awake_any (w : World) : Calls Try.prog 9 #[] w fun e w' => e = .returned (.bool true) ∧ Keep (fun _ => False) w w' := by
  go_enter Try.func9, Try.ntmps9
  go_wp2_with fail
  refine (new_at 5 4 (by omega) (by omega) _).mono ?_
  rintro e w1 ⟨rfl, l1, k1⟩
  go_wp2_with fail
  refine (add_at l1 (rec0 6 0) (by omega) (by simp) (by omega) (by simp [rec0])).mono ?_
  rintro e w2 ⟨rfl, F2, l2, d2, k2⟩
  go_wp2_with fail
  refine (add_at l2 (rec0 7 0) (by omega) (by simp) (by omega) (by simp [rec0])).mono ?_
  rintro e w3 ⟨rfl, F3, l3, d3, k3⟩
  go_wp2_with fail
  refine (add_seq l3 (rec0 9 0) (by omega) (by simp) (by simp [rec0]) (by simp [rec0]) (by simp [rec0])).mono ?_
  rintro e w4 ⟨rfl, k4⟩
  have l4 := l3.keep k4 (fun _ _ e => e)
  go_wp2_with fail
  refine (from_yes l4 1 1 10 (by omega) (by simp) (by simp) (by rfl)).mono ?_
  rintro e w5 ⟨v5, rfl, r5, k5⟩
  have l5 := l4.keep k5 (fun _ _ e => e)
  obtain ⟨ao, cap, rfl, h | ⟨g, cur, rfl, hF, hg, ht⟩⟩ := RowAt.form r5
  · simp at h
  have x0 := rec_cell hg ht (i := 0) (r := rec0 7 0) rfl 0 (by omega)
  simp only [rec0, Rec.cells, Nat.zero_mul, Nat.zero_add, List.getElem?_cons_zero] at x0
  clear hg ht
  go_wp2_with fail
  refine (base_at l5).mono ?_
  rintro e w6 ⟨rfl, rfl⟩
  go_wp2_with fail
  refine (last_of l5 (by omega) (by simp)).mono ?_
  rintro e w6 ⟨rfl, q, rfl⟩
  go_wp2_with fail
  go_ret
  exact ⟨rfl, by
    have a1 := fresh k1 k2 (fun k e => by omega)
    have a2 := fresh a1 k3 (fun k e => by have := k1.size; rcases d2 k e with h | h <;> omega)
    exact ((a2.trans k4).trans k5).drewN _⟩

/-! ### records numbered from a place on -/
def seqs (base n : Nat) : List Rec := (List.range n).map fun (i : Nat) => rec0 ((base : Int) + (i : Int) + 1) 0
theorem seqs_length (base n : Nat) : (seqs base n).length = n := by simp [seqs]
theorem seqs_succ (base n : Nat) : seqs base (n + 1) = seqs base n ++ [rec0 ((base : Int) + n + 1) 0] := by simp [seqs, List.range_succ]
theorem seqs_at (base n i : Nat) (h : i < n) : (seqs base n)[i]? = some (rec0 ((base : Int) + i + 1) 0) := by simp [seqs, h]

end Go.Proofs.Ytiokngcfenfieaa.LogL
