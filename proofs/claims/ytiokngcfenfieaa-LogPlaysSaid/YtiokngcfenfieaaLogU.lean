/-
  The contracts of layer 13 (log): From, Cut, Slide.
-/
import Derived.Test.YtiokngcfenfieaaLogV
namespace Go.Proofs.Ytiokngcfenfieaa.LogU
set_option linter.unusedVariables false
set_option linter.unusedSimpArgs false
open Go.RowKit Go.Proofs.Ytiokngcfenfieaa.Mem Go.Proofs.Ytiokngcfenfieaa.LogW Go.Proofs.Ytiokngcfenfieaa.LogV

theorem from_nil (seq most : Int) (w : World) :
    Calls Try.prog 11 #[.pointer none, .int .u64 seq, .int .i64 most] w fun e w' => e = .returned (.tuple #[.slice none 0 0, .bool false]) ∧ w = w' := by
  go_enter Try.func11, Try.ntmps11
  go_wp2
  go_ret2
  exact ⟨rfl, rfl⟩

theorem row_cells {w : World} {g N : Nat} {cur : Array Value} {fr : Nat × Nat} {rs : List Rec} (hg : w.heap[g]? = some (.cells cur TR fr)) (htk : cur.toList.take N = flat rs) (d m : Nat) :
    ∀ j u, (flat ((rs.drop d).take m))[j]? = some u → w.cell? ⟨g, d * 9 + j, none⟩ = some u := by
  intro j u hu
  rw [flat_take, flat_drop, ← htk] at hu
  rw [List.getElem?_take] at hu
  split at hu
  · rw [List.getElem?_drop, List.getElem?_take] at hu
    split at hu
    · rw [cell_at hg]; simpa using hu
    · cases hu
  · cases hu

theorem row_close {w w' : World} {q n : Nat} {v' : Value} {xs : List Value} {rs : List Rec} (hown : w'.ownsRow (w.drewN q).heap.size TR 9 v' n xs) (hk : Keep (fun _ => False) (w.drewN q) w') (hn : n = rs.length) (hx : xs = flat rs) :
    RowAt w' (fun k => w.heap.size ≤ k ∧ k < w'.heap.size) v' rs := by
  subst hn hx
  refine ⟨⟨hown.1, ?_⟩, fun k hk => hown.lt k hk, fun k hk => hk.2⟩
  rcases hown.2 with h | ⟨g, cap, cur, h1, h2, h3⟩
  · exact .inl h
  · exact .inr ⟨g, cap, cur, h1, Nat.zero_le _, h3⟩

section
variable {w : World} {F : Nat → Prop} {b cap0 base : Nat} {rs : List Rec}
theorem from_no (h : LogAt w F b cap0 base rs) (seq most : Int) (hb : base ≤ 4611686018427387904) (hn : rs.length ≤ 256) (hs : seq < base ∨ (base : Int) + rs.length < seq) :
    Calls Try.prog 11 #[.pointer (some ⟨b, 0, none⟩), .int .u64 seq, .int .i64 most] w fun e w' => e = .returned (.tuple #[.slice none 0 0, .bool false]) ∧ ∃ k, w' = w.drewN k := by
  obtain ⟨v, h1, h2, h3, h4, h5, h6⟩ := h
  obtain ⟨ao, cap, rfl⟩ := owns_slice h2
  have c1 : w.cell? ⟨b, 1, none⟩ = some (.int .u64 base) := by rw [cell_at h1]; rfl
  have c2 : w.cell? ⟨b, 2, none⟩ = some (.slice ao rs.length cap) := by rw [cell_at h1]; rfl
  generalize rs.length = n at *
  clear h1 h2 h3 h4 h5 h6
  rcases hs with hs | hs
  · have hd : decide (seq < (base : Int)) = true := decide_eq_true hs
    go_enter Try.func11, Try.ntmps11
    go_wp2
    go_ret2
    exact ⟨rfl, 0, rfl⟩
  · have hd : decide (seq < (base : Int)) = false := decide_eq_false (by omega)
    have hd2 : decide ((base : Int) + n < seq) = true := decide_eq_true hs
    go_enter Try.func11, Try.ntmps11
    go_wp2_with (go_at_call 14; refine (last_at b base ao n cap _ hb (by omega) (by go_simp) (by go_simp)).mono ?_; rintro e w' ⟨rfl, nq, rfl⟩)
    go_ret2
    exact ⟨rfl, _, rfl⟩

theorem from_yes (h : LogAt w F b cap0 base rs) (d m : Nat) (most : Int) (hb : base ≤ 4611686018427387904) (hn : rs.length ≤ 256) (hs : d ≤ rs.length) (hm : (m : Int) = min ((rs.length : Int) - d) (max most 0)) :
    Calls Try.prog 11 #[.pointer (some ⟨b, 0, none⟩), .int .u64 ((base : Int) + d), .int .i64 most] w fun e w' => ∃ v', e = .returned (.tuple #[v', .bool true]) ∧ RowAt w' (fun k => w.heap.size ≤ k ∧ k < w'.heap.size) v' ((rs.drop d).take m) ∧ Keep (fun _ => False) w w' := by
  obtain ⟨v, h1, h2, h3, h4, h5, h6⟩ := h
  obtain ⟨ao, cap, rfl⟩ := owns_slice h2
  have c1 : w.cell? ⟨b, 1, none⟩ = some (.int .u64 base) := by rw [cell_at h1]; rfl
  have c2 : w.cell? ⟨b, 2, none⟩ = some (.slice ao rs.length cap) := by rw [cell_at h1]; rfl
  have hd : decide ((base : Int) + d < (base : Int)) = false := decide_eq_false (by omega)
  have hd3 : decide (rs.length < d) = false := decide_eq_false (by omega)
  have hd4 : (d : Int) ≤ (rs.length : Int) := by omega
  rcases h2.2 with ⟨hv, hn0⟩ | ⟨g, cap', cur, hv, hb0, hg, hnc, hcm, hcs, htk⟩
  · simp only [Value.slice.injEq] at hv
    obtain ⟨rfl, _, rfl⟩ := hv
    obtain rfl : d = 0 := by omega
    obtain rfl : m = 0 := by omega
    have hrs : rs = [] := List.eq_nil_of_length_eq_zero hn0
    subst hrs
    clear h1 h2 h3 h4 h5 h6 hm
    go_enter Try.func11, Try.ntmps11
    go_wp2_with (go_at_call 14; refine (last_at b base none 0 0 _ hb (by omega) (by go_simp) (by go_simp)).mono ?_; rintro e w' ⟨rfl, nq, rfl⟩)
    go_quiet (fail)
    go_wp2_with (go_at_call 19; refine (clone_nil _ _ _ ⟨rfl, rfl⟩).mono ?_; rintro e w' ⟨rfl, rfl⟩)
    all_goals
      go_ret2
      exact ⟨_, rfl, ⟨World.ownsRow_nil _ _ _ _, fun k hk => by simp [Value.ownBlock] at hk, fun k hk => hk.2⟩, by repeat (first | exact Keep.refl _ _ | apply Keep.drewN)⟩
  simp only [Value.slice.injEq] at hv
  obtain ⟨rfl, _, rfl⟩ := hv
  have hgl := lt_of_block hg
  have H2 := Lib.hid h2
  have Hm := Lib.hid hm
  have Htk := Lib.hid htk
  have Hg := Lib.hid hg
  have Hcs := Lib.hid hcs
  clear h1 h2 h3 h4 h5 h6 hm htk hg hcs
  by_cases hcd : cap = d
  · obtain rfl : d = rs.length := by omega
    obtain rfl : m = 0 := by have := Hm.out; omega
    subst hcd
    go_enter Try.func11, Try.ntmps11
    go_wp2_with (go_at_call 14; refine (last_at b base (some ⟨g, 0, none⟩) rs.length rs.length _ hb (by omega) (by go_simp) (by go_simp)).mono ?_; rintro e w' ⟨rfl, nq, rfl⟩)
    go_quiet (fail)
    go_wp2_with fail
    all_goals
      refine (clone_some g 0 0 0 [] _ (by exact hgl) rfl (by simp) (fun j u h => by simp at h) (by omega)).mono ?_
      rintro e w' ⟨v', rfl, hown, hk⟩
      go_wp2
      go_ret2
      exact ⟨_, rfl, row_close hown hk (by simp) (by simp [flat]), Keep.of_drewN hk⟩
  · have Hc := Lib.hid (row_cells Hg.out Htk.out d m)
    go_enter Try.func11, Try.ntmps11
    go_wp2_with (go_at_call 14; refine (last_at b base (some ⟨g, 0, none⟩) rs.length cap _ hb (by omega) (by go_simp) (by go_simp)).mono ?_; rintro e w' ⟨rfl, nq, rfl⟩)
    go_quiet (fail)
    go_wp2_with fail
    all_goals
      refine (clone_some g (d * 9) _ _ (flat ((rs.drop d).take m)) _ (by exact hgl) (by rw [flat_length, List.length_take, List.length_drop]; have := Hm.out; omega) (flat_one_cell _) (by exact fun j u h => Hc.out j u h) (by omega)).mono ?_
      rintro e w' ⟨v', rfl, hown, hk⟩
      go_wp2
      go_ret2
      have hl : rs.length - d = m ∨ most.toNat = m ∨ 0 = m := by have := Hm.out; omega
      exact ⟨_, rfl, row_close hown hk (by rw [List.length_take, List.length_drop]; have := Hm.out; omega) rfl, Keep.of_drewN hk⟩
end

end Go.Proofs.Ytiokngcfenfieaa.LogU
