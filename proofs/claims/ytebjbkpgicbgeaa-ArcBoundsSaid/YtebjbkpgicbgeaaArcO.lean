/-
  Layer 7 (arc): a policy of one's own, as the laws make one; awake; few.
-/
import Derived.Test.YtebjbkpgicbgeaaArcK
namespace Go.Proofs.Ytebjbkpgicbgeaa.ArcO
set_option linter.unusedVariables false
set_option linter.unusedSimpArgs false
set_option maxRecDepth 100000
open Go.RowKit Go.Proofs.Ytebjbkpgicbgeaa.Mem Go.Proofs.Ytebjbkpgicbgeaa.RinM Go.Proofs.Ytebjbkpgicbgeaa.RinP Go.Proofs.Ytebjbkpgicbgeaa.RinW Go.Proofs.Ytebjbkpgicbgeaa.RinL Go.Proofs.Ytebjbkpgicbgeaa.RinF Go.Proofs.Ytebjbkpgicbgeaa.RinG Go.Proofs.Ytebjbkpgicbgeaa.RinH Go.Proofs.Ytebjbkpgicbgeaa.RinD Go.Proofs.Ytebjbkpgicbgeaa.RinN Go.Proofs.Ytebjbkpgicbgeaa.ArcP Go.Proofs.Ytebjbkpgicbgeaa.ArcQ Go.Proofs.Ytebjbkpgicbgeaa.ArcW Go.Proofs.Ytebjbkpgicbgeaa.ArcV Go.Proofs.Ytebjbkpgicbgeaa.ArcU Go.Proofs.Ytebjbkpgicbgeaa.ArcI Go.Proofs.Ytebjbkpgicbgeaa.ArcJ Go.Proofs.Ytebjbkpgicbgeaa.ArcK

def Own (w w' : World) (ab b c T : Nat) (s : Ac) : Prop := ∃ F, ArcAt w' F ab b c T s ∧ (∀ i, F i → w.heap.size ≤ i) ∧ w.heap.size ≤ ab ∧ Keep (fun _ => False) w w'
section
variable {w w' : World} {ab b c T : Nat} {s : Ac}
theorem Own.keep0 {w2 : World} (h : Own w w' ab b c T s) (k : Keep (fun _ => False) w' w2) : Own w w2 ab b c T s := by
  obtain ⟨F, h1, h2, h3, h4⟩ := h
  exact ⟨F, h1.keep0 k, h2, h3, h4.trans k⟩
theorem Own.kept (h : Own w w' ab b c T s) : Keep (fun _ => False) w w' := h.elim fun _ h => h.2.2.2
theorem Own.inv (h : Own w w' ab b c T s) : AInv c s := h.elim fun _ h => h.1.i
theorem Own.up {w2 : World} {F : Nat → Prop} {T' : Nat} {s' : Ac} (h2 : ∀ i, F i → w.heap.size ≤ i) (h3 : w.heap.size ≤ ab) (h4 : Keep (fun _ => False) w w') (u : UpA w' w2 F ab b c T' s') : Own w w2 ab b c T' s' := by
  obtain ⟨F', g1, g2, g3⟩ := u
  refine ⟨F', g1, fun i e => ?_, h3, h4.then g3 (fun i e => ?_)⟩
  · rcases g2 i e with e | e
    · exact h2 i e
    · exact Nat.le_trans h4.size e
  · rcases e with e | e
    · exact h2 i e
    · omega
theorem own_insert (h : Own w w' ab b c T s) (hT : T ≤ 100000) (x : ByteArray) (hx : x.size ≤ 9223372036854775807) :
    Calls Try.prog 12 #[.pointer (some ⟨ab, 0, none⟩), .string x] w' fun e w2 => ∃ v, e = .returned v ∧ OutV w2 v (ins c x s).2 w'.heap.size ∧ Own w w2 ab b c (T + 2) (ins c x s).1 := by
  obtain ⟨F, h1, h2, h3, h4⟩ := h
  refine (insert_at h1 hT x hx).mono ?_
  rintro e w2 ⟨v, he, ho, hu⟩
  exact ⟨v, he, ho, Own.up h2 h3 h4 hu⟩
theorem own_touch (h : Own w w' ab b c T s) (hT : T ≤ 100000) (x : ByteArray) (hx : x.size ≤ 9223372036854775807) (hn : (isIn x s.A || isIn x s.B) = true) :
    Calls Try.prog 15 #[.pointer (some ⟨ab, 0, none⟩), .string x] w' fun e w2 => e = .returned (.bool true) ∧ Own w w2 ab b c (T + 1) (frA 1 x s) := by
  obtain ⟨F, h1, h2, h3, h4⟩ := h
  refine (touch_yes h1 (by omega) x hx hn).mono ?_
  rintro e w2 ⟨he, hu⟩
  exact ⟨he, Own.up h2 h3 h4 hu⟩
theorem own_has (h : Own w w' ab b c T s) (x : ByteArray) (hx : x.size ≤ 9223372036854775807) :
    Calls Try.prog 14 #[.pointer (some ⟨ab, 0, none⟩), .string x] w' fun e w2 => e = .returned (.bool (isIn x s.A || isIn x s.B)) ∧ w' = w2 := by
  obtain ⟨F, h1, h2, h3, h4⟩ := h
  exact has_at h1 x hx
theorem own_len (h : Own w w' ab b c T s) :
    Calls Try.prog 13 #[.pointer (some ⟨ab, 0, none⟩)] w' fun e w2 => e = .returned (.int .i64 ((s.A.length : Int) + (s.B.length : Int))) ∧ Own w w2 ab b c T s := by
  have h' := h
  obtain ⟨F, h1, h2, h3, h4⟩ := h'
  refine (len_at h1).mono ?_
  rintro e w2 ⟨he, m, rfl⟩
  exact ⟨he, h.keep0 ((Keep.refl _ _).drewN m)⟩
theorem own_target (h : Own w w' ab b c T s) :
    Calls Try.prog 16 #[.pointer (some ⟨ab, 0, none⟩)] w' fun e w2 => e = .returned (.int .i64 (s.t : Int)) ∧ w' = w2 := by
  obtain ⟨F, h1, h2, h3, h4⟩ := h
  exact target_at h1
end
theorem own_new (c : Nat) (h1 : 1 ≤ c) (h2 : c ≤ 1000) (w : World) :
    Calls Try.prog 9 #[.int .i64 (c : Int)] w fun e w' => ∃ ab b, e = .returned (.tuple #[.pointer (some ⟨ab, 0, none⟩), .int .i64 0]) ∧ Own w w' ab b c 0 ⟨0, [], [], [], []⟩ := by
  refine (new_at c h1 h2 w).mono ?_
  rintro e w' ⟨ab, b, F, he, g1, g2, g3, g4⟩
  exact ⟨ab, b, he, F, g1, g2, g3, g4⟩

def tx : ByteArray := ⟨#[120]⟩
def ty : ByteArray := ⟨#[121]⟩
def tz : ByteArray := ⟨#[122]⟩
theorem aw1 : ins 2 tx ⟨0, [], [], [], []⟩ = (⟨0, [tx], [], [], []⟩, none) := by kernel_rfl
theorem aw2 : ins 2 ty ⟨0, [tx], [], [], []⟩ = (⟨0, [ty, tx], [], [], []⟩, none) := by kernel_rfl
theorem aw3 : frA 1 tx ⟨0, [ty, tx], [], [], []⟩ = ⟨0, [ty], [tx], [], []⟩ := by kernel_rfl
theorem aw4 : ins 2 tz ⟨0, [ty], [tx], [], []⟩ = (⟨0, [tz], [tx], [ty], []⟩, some ty) := by kernel_rfl
set_option maxHeartbeats 400000 in
theorem awake_any (w : World) : Calls Try.prog 10 #[] w fun e w' => e = .returned (.bool true) ∧ Keep (fun _ => False) w w' := by
  have N := Lib.hid (own_new 2 (by omega) (by omega) w)
  have x1 : (isIn (⟨#[120]⟩ : ByteArray) [tz] || isIn (⟨#[120]⟩ : ByteArray) [tx]) = true := by decide +kernel
  have x2 : (isIn (⟨#[121]⟩ : ByteArray) [tz] || isIn (⟨#[121]⟩ : ByteArray) [tx]) = false := by decide +kernel
  go_enter Try.func10, Try.ntmps10
  go_upto_region 2 with (go_at_call 9; refine N.out.mono ?_; rintro e w1 ⟨ab, b, rfl, O1⟩; replace O1 := Lib.hid O1)
  go_upto_region 3 with (go_at_call 12; refine (own_insert O1.out (by omega) tx (by decide)).mono ?_; rintro e w2 ⟨v, rfl, o2, O2⟩; rw [aw1] at o2 O2; obtain rfl : v = .slice none 0 0 := o2; replace O2 := Lib.hid O2; clear O1)
  go_upto_region 4 with (go_at_call 12; refine (own_insert O2.out (by omega) ty (by decide)).mono ?_; rintro e w3 ⟨v, rfl, o3, O3⟩; rw [aw2] at o3 O3; obtain rfl : v = .slice none 0 0 := o3; replace O3 := Lib.hid O3; clear O2)
  go_upto_region 5 with (go_at_call 15; refine (own_touch O3.out (by omega) tx (by decide) (by decide +kernel)).mono ?_; rintro e w4 ⟨rfl, O4⟩; rw [aw3] at O4; replace O4 := Lib.hid O4; clear O3)
  go_upto_region 6 with (go_at_call 12; refine (own_insert O4.out (by omega) tz (by decide)).mono ?_; rintro e w5 ⟨v, rfl, o5, O5⟩; rw [aw4] at o5 O5; obtain ⟨g, rfl, hg, -⟩ := o5)
  have cg : w5.cell? ⟨g, 0, none⟩ = some (.string ⟨#[121]⟩) := cell_at hg 0
  clear hg
  have H1 := Lib.hid (own_has O5 ⟨#[120]⟩ (by decide))
  have H2 := Lib.hid (own_has O5 ⟨#[121]⟩ (by decide))
  have H3 := Lib.hid (own_len O5)
  rw [x1] at H1
  rw [x2] at H2
  clear O5
  go_wp2_with (first
    | (go_at_call 14; with_reducible refine H1.out.mono ?_; rintro e w6 ⟨rfl, rfl⟩)
    | (go_at_call 14; with_reducible refine H2.out.mono ?_; rintro e w6 ⟨rfl, rfl⟩)
    | (go_at_call 13; refine H3.out.mono ?_; rintro e w7 ⟨rfl, O7⟩; replace O7 := Lib.hid O7))
  go_ret
  exact ⟨rfl, O7.out.kept⟩

end Go.Proofs.Ytebjbkpgicbgeaa.ArcO
