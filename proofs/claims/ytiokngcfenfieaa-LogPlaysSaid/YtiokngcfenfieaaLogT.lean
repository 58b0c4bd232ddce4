/-
  The contracts of layer 13 (log): Cut, Slide.
-/
import Derived.Test.YtiokngcfenfieaaLogU
namespace Go.Proofs.Ytiokngcfenfieaa.LogT
set_option linter.unusedVariables false
set_option linter.unusedSimpArgs false
open Go.RowKit Go.Proofs.Ytiokngcfenfieaa.Mem Go.Proofs.Ytiokngcfenfieaa.LogW Go.Proofs.Ytiokngcfenfieaa.LogV Go.Proofs.Ytiokngcfenfieaa.LogU

theorem row_cells' {w : World} {g : Nat} {cur : Array Value} {fr : Nat × Nat} {rs : List Rec} (hg : w.heap[g]? = some (.cells cur TR fr)) {N : Nat} (htk : cur.toList.take N = flat rs) (d : Nat) :
    ∀ j u, (flat (rs.drop d))[j]? = some u → w.cell? ⟨g, d * 9 + j, none⟩ = some u := by
  have h := row_cells hg htk d rs.length
  rw [List.take_of_length_le (by rw [List.length_drop]; omega)] at h
  exact h

section
variable {w : World} {F : Nat → Prop} {b most base : Nat} {rs : List Rec}
theorem cut_no (h : LogAt w F b most base rs) (seq : Int) (hs : seq ≤ base) :
    Calls Try.prog 18 #[.pointer (some ⟨b, 0, none⟩), .int .u64 seq] w fun e w' => e = .returned (.tuple #[]) ∧ w = w' := by
  obtain ⟨v, h1, h2, h3, h4, h5, h6⟩ := h
  have c1 : w.cell? ⟨b, 1, none⟩ = some (.int .u64 base) := by rw [cell_at h1]; rfl
  clear h1 h2 h3 h4 h5 h6
  have hd : decide ((base : Int) < seq) = false := decide_eq_false (by omega)
  go_enter Try.func18, Try.ntmps18
  go_wp2
  go_end0
  exact ⟨rfl, rfl⟩

theorem cut_close {w w1 : World} {F : Nat → Prop} {b most base : Nat} {rs : List Rec} (h : LogAt w F b most base rs) (n : Nat) (hn : n ≤ rs.length) {v' : Value} {N : Nat} {xs : List Value}
    (hown : w1.ownsRow w.heap.size TR 9 v' N xs) (hN : N = (rs.drop n).length) (hxs : xs = flat (rs.drop n)) (hk : Keep (fun _ => False) w w1) {x : Int} (hx : x = ((base + n : Nat) : Int)) :
    ∃ F', LogAt ((w1.setCell ⟨b, 2, none⟩ v').setCell ⟨b, 1, none⟩ (.int .u64 x)) F' b most (base + n) (rs.drop n) ∧ (∀ k, F' k → F k ∨ w.heap.size ≤ k) ∧ Keep F w ((w1.setCell ⟨b, 2, none⟩ v').setCell ⟨b, 1, none⟩ (.int .u64 x)) := by
  subst hN hxs hx
  obtain ⟨v, h1, h2, h3, h4, h5, h6⟩ := h
  have hbl := lt_of_block h1
  have h1' := (hk.block b hbl (fun e => e)).trans h1
  have hset := block_set (block_set h1' 2 v') 1 (.int .u64 ((base + n : Nat) : Int))
  have hK : Keep (fun k => k = b) w1 ((w1.setCell ⟨b, 2, none⟩ v').setCell ⟨b, 1, none⟩ (.int .u64 ((base + n : Nat) : Int))) := Keep.setCell (S := fun k => k = b) (Keep.setCell (S := fun k => k = b) (Keep.refl _ _) (Or.inl (Eq.refl b)) _) (Or.inl (Eq.refl b)) _
  have hlt := hown.lt
  have hown' := owns_keep hown hK (fun k hk' e => by have := (hlt k hk').1; omega)
  refine ⟨fun k => k = b ∨ v'.ownBlock = some k, ⟨v', hset, ⟨hown'.1, ?_⟩, ?_, .inl rfl, fun k hk => .inr hk, ?_⟩, ?_, ?_⟩
  · rcases hown'.2 with h | ⟨g, cap, cur, g1, g2, g3⟩
    · exact .inl h
    · exact .inr ⟨g, cap, cur, g1, Nat.zero_le _, g3⟩
  · intro e; have := (hlt b e).1; omega
  · rintro k (rfl | hk')
    · exact lt_of_block hset
    · exact (hown'.lt k hk').2
  · rintro k (rfl | hk')
    · exact .inl h4
    · exact .inr (hlt k hk').1
  · exact (hk.mono (fun _ _ e => e.elim)).trans (((Keep.refl F _).setCell (.inl h4) _).setCell (.inl h4) _)

theorem cut_yes (h : LogAt w F b most base rs) (d : Nat) (hb : base ≤ 4611686018427387904) (hlen : rs.length ≤ 256) (hd0 : 1 ≤ d) (hd9 : base + d ≤ 18446744073709551615) :
    Calls Try.prog 18 #[.pointer (some ⟨b, 0, none⟩), .int .u64 ((base : Int) + d)] w fun e w' => e = .returned (.tuple #[]) ∧ ∃ F', LogAt w' F' b most (base + min d rs.length) (rs.drop (min d rs.length)) ∧ (∀ k, F' k → F k ∨ w.heap.size ≤ k) ∧ Keep F w w' := by
  have H := Lib.hid h
  obtain ⟨v, h1, h2, h3, h4, h5, h6⟩ := h
  obtain ⟨ao, cap, rfl⟩ := owns_slice h2
  have c1 : w.cell? ⟨b, 1, none⟩ = some (.int .u64 base) := by rw [cell_at h1]; rfl
  have c2 : w.cell? ⟨b, 2, none⟩ = some (.slice ao rs.length cap) := by rw [cell_at h1]; rfl
  have f1 := free_at h1 1
  have f2 := free_at h1 2
  have hbl := lt_of_block h1
  have hd : decide ((base : Int) < (base : Int) + d) = true := decide_eq_true (by omega)
  obtain ⟨n, hnd⟩ : ∃ n, n = min d rs.length := ⟨_, rfl⟩
  rw [← hnd]
  have hn1 : n ≤ rs.length := by omega
  have hn2 : (n : Int) ≤ (rs.length : Int) := by omega
  have key : ∀ (w1 : World) (v' : Value) (N : Nat) (xs : List Value), w1.ownsRow w.heap.size TR 9 v' N xs → N = (rs.drop n).length → xs = flat (rs.drop n) → Keep (fun _ => False) w w1 → ∀ x : Int, x = ((base + n : Nat) : Int) →
      ∃ F', LogAt ((w1.setCell ⟨b, 2, none⟩ v').setCell ⟨b, 1, none⟩ (.int .u64 x)) F' b most (base + n) (rs.drop n) ∧ (∀ k, F' k → F k ∨ w.heap.size ≤ k) ∧ Keep F w ((w1.setCell ⟨b, 2, none⟩ v').setCell ⟨b, 1, none⟩ (.int .u64 x)) :=
    fun w1 v' N xs g1 g2 g3 g4 x g5 => cut_close H.out n hn1 g1 g2 g3 g4 g5
  have Key := Lib.hid key
  clear key
  have hcase : (d ≤ rs.length ∧ n = d) ∨ (rs.length < d ∧ n = rs.length) := by omega
  rcases h2.2 with ⟨hv, hn0⟩ | ⟨g, cap', cur, hv, hb0, hg, hnc, hcm, hcs, htk⟩
  · simp only [Value.slice.injEq] at hv
    obtain ⟨rfl, _, rfl⟩ := hv
    obtain rfl : n = 0 := by omega
    have hrs : rs = [] := List.eq_nil_of_length_eq_zero hn0
    subst hrs
    clear h1 h2 h3 h4 h5 h6 hnd hcase
    go_enter Try.func18, Try.ntmps18
    go_wp2
    go_quiet ((go_at_call 14; exact Calls.quiet_of (last_at b base none 0 0 _ hb (by omega) (by go_simp) (by go_simp))))
    go_wp2_with (go_at_call 19; refine (clone_nil _ _ _ ⟨rfl, rfl⟩).mono ?_; rintro e w' ⟨rfl, rfl⟩)
    go_end0
    exact ⟨rfl, Key.out (w.drewN _) (.slice none 0 0) 0 [] (World.ownsRow_nil _ _ _ _) rfl rfl ((Keep.refl _ _).drewN _) _ (by simp)⟩
  simp only [Value.slice.injEq] at hv
  obtain ⟨rfl, _, rfl⟩ := hv
  have hgl := lt_of_block hg
  have Htk := Lib.hid htk
  have Hg := Lib.hid hg
  have HN := Lib.hid hnd
  clear h1 h2 h3 h4 h5 h6 htk hg hcs hnd
  have hlen2 : rs.length - n ≤ 1000000 := by omega
  have hcan : ∀ x : Int, (base : Int) + x - base = x := fun x => by omega
  have hto : ∀ x : Nat, ((base : Int) + (x : Int)).toNat - base = x := fun x => by omega
  by_cases hcd : cap = n
  · obtain rfl : n = rs.length := by omega
    subst hcd
    have hge : rs.length ≤ d := by omega
    have hge' : (rs.length : Int) ≤ (d : Int) := by omega
    clear hcase
    go_enter Try.func18, Try.ntmps18
    go_wp2
    go_quiet ((go_at_call 14; exact Calls.quiet_of (last_at b base (some ⟨g, 0, none⟩) rs.length rs.length _ hb (by omega) (by go_simp) (by go_simp))))
    go_wp2_with fail
    all_goals
      refine (clone_some g 0 0 0 [] _ (by exact hgl) rfl (by simp) (fun j u h => by simp at h) (by omega)).mono ?_
      rintro e w' ⟨v', rfl, hown, hk⟩
      have k1 := (hk.cell (p := ⟨b, 1, none⟩) hbl (fun e => e)).trans c1
      have k2 := (hk.cell (p := ⟨b, 2, none⟩) hbl (fun e => e)).trans c2
      have q1 := (hk.frozen (p := ⟨b, 1, none⟩) hbl (fun e => e)).trans f1
      have q2 := (hk.frozen (p := ⟨b, 2, none⟩) hbl (fun e => e)).trans f2
      obtain ⟨ao', cp', rfl⟩ := owns_slice hown
      go_wp2
      go_end0
      exact ⟨rfl, Key.out w' _ 0 [] hown (by simp) (by simp [flat]) (Keep.of_drewN hk) _ (by omega)⟩
  · have Hc := Lib.hid (row_cells' Hg.out Htk.out n)
    rcases hcase with ⟨hle, rfl⟩ | ⟨hle, rfl⟩
    · have hle' : (n : Int) ≤ (rs.length : Int) := by omega
      go_enter Try.func18, Try.ntmps18
      go_wp2
      go_quiet ((go_at_call 14; exact Calls.quiet_of (last_at b base (some ⟨g, 0, none⟩) rs.length cap _ hb (by omega) (by go_simp) (by go_simp))))
      go_wp2_with fail
      all_goals
        refine (clone_some g (n * 9) (rs.length - n) (cap - n) (flat (rs.drop n)) _ (by exact hgl) (by rw [flat_length, List.length_drop]) (flat_one_cell _) (by exact fun j u h => Hc.out j u h) hlen2).mono ?_
        rintro e w' ⟨v', rfl, hown, hk⟩
        have k1 := (hk.cell (p := ⟨b, 1, none⟩) hbl (fun e => e)).trans c1
        have k2 := (hk.cell (p := ⟨b, 2, none⟩) hbl (fun e => e)).trans c2
        have q1 := (hk.frozen (p := ⟨b, 1, none⟩) hbl (fun e => e)).trans f1
        have q2 := (hk.frozen (p := ⟨b, 2, none⟩) hbl (fun e => e)).trans f2
        obtain ⟨ao', cp', rfl⟩ := owns_slice hown
        go_wp2
        go_end0
        exact ⟨rfl, Key.out w' _ _ _ hown (by simp) rfl (Keep.of_drewN hk) _ (by omega)⟩
    · have hle' : (rs.length : Int) < (d : Int) := by omega
      go_enter Try.func18, Try.ntmps18
      go_wp2
      go_quiet ((go_at_call 14; exact Calls.quiet_of (last_at b base (some ⟨g, 0, none⟩) rs.length cap _ hb (by omega) (by go_simp) (by go_simp))))
      go_wp2_with fail
      all_goals
        refine (clone_some g (rs.length * 9) 0 (cap - rs.length) (flat (rs.drop rs.length)) _ (by exact hgl) (by rw [flat_length, List.length_drop]; omega) (flat_one_cell _) (by exact fun j u h => Hc.out j u h) (by omega)).mono ?_
        rintro e w' ⟨v', rfl, hown, hk⟩
        have k1 := (hk.cell (p := ⟨b, 1, none⟩) hbl (fun e => e)).trans c1
        have k2 := (hk.cell (p := ⟨b, 2, none⟩) hbl (fun e => e)).trans c2
        have q1 := (hk.frozen (p := ⟨b, 1, none⟩) hbl (fun e => e)).trans f1
        have q2 := (hk.frozen (p := ⟨b, 2, none⟩) hbl (fun e => e)).trans f2
        obtain ⟨ao', cp', rfl⟩ := owns_slice hown
        go_wp2
        go_end0
        exact ⟨rfl, Key.out w' _ _ _ hown (by simp) rfl (Keep.of_drewN hk) _ (by omega)⟩
end

end Go.Proofs.Ytiokngcfenfieaa.LogT
