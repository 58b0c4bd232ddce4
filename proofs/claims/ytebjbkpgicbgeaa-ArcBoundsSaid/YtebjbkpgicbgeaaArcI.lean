/-
  Layer 7 (arc): Insert.
-/
import Derived.Test.YtebjbkpgicbgeaaArcU
namespace Go.Proofs.Ytebjbkpgicbgeaa.ArcI
set_option linter.unusedVariables false
set_option linter.unusedSimpArgs false
set_option maxRecDepth 100000
open Go.RowKit Go.Proofs.Ytebjbkpgicbgeaa.Mem Go.Proofs.Ytebjbkpgicbgeaa.RinM Go.Proofs.Ytebjbkpgicbgeaa.RinP Go.Proofs.Ytebjbkpgicbgeaa.RinW Go.Proofs.Ytebjbkpgicbgeaa.RinL Go.Proofs.Ytebjbkpgicbgeaa.RinF Go.Proofs.Ytebjbkpgicbgeaa.RinG Go.Proofs.Ytebjbkpgicbgeaa.RinH Go.Proofs.Ytebjbkpgicbgeaa.RinD Go.Proofs.Ytebjbkpgicbgeaa.RinN Go.Proofs.Ytebjbkpgicbgeaa.ArcP Go.Proofs.Ytebjbkpgicbgeaa.ArcQ Go.Proofs.Ytebjbkpgicbgeaa.ArcW Go.Proofs.Ytebjbkpgicbgeaa.ArcV Go.Proofs.Ytebjbkpgicbgeaa.ArcU

theorem ins_nil (x : ByteArray) (w : World) : Calls Try.prog 12 #[.pointer none, .string x] w fun e w' => e = .returned (.slice none 0 0) ∧ w = w' := by
  go_enter Try.func12, Try.ntmps12
  go_wp2_with fail
  go_ret
  exact ⟨rfl, rfl⟩
theorem ins_long {w : World} {ab : Nat} (x : ByteArray) (hx : 64 < x.size) (hx2 : x.size ≤ 9223372036854775807) : Calls Try.prog 12 #[.pointer (some ⟨ab, 0, none⟩), .string x] w fun e w' => e = .returned (.slice none 0 0) ∧ w = w' := by
  go_enter Try.func12, Try.ntmps12
  go_wp2_with fail
  go_ret
  exact ⟨rfl, rfl⟩
theorem ins_touch {w : World} {F : Nat → Prop} {ab b c T : Nat} {s : Ac} (h : ArcAt w F ab b c T s) (hT : T ≤ 100000) (x : ByteArray) (hx : x.size ≤ 64) (hn : (isIn x s.A || isIn x s.B) = true) :
    Calls Try.prog 12 #[.pointer (some ⟨ab, 0, none⟩), .string x] w fun e w' => e = .returned (.slice none 0 0) ∧ UpA w w' F ab b c (T + 1) (frA 1 x s) := by
  have HT := Lib.hid (touch_yes h (by omega) x (by omega) hn)
  clear h hn
  go_enter Try.func12, Try.ntmps12
  go_wp2_with (go_at_call 15; refine HT.out.mono ?_; rintro e w1 ⟨rfl, hu⟩; replace hu := Lib.hid hu)
  go_ret
  exact ⟨rfl, hu.out⟩
theorem ins_two {w : World} {F : Nat → Prop} {ab b c T : Nat} {s : Ac} (h : ArcAt w F ab b c T s) (hT : T ≤ 100000) (x : ByteArray) (hx : x.size ≤ 64) (hn : (isIn x s.A || isIn x s.B) = false) (hC : x ∈ s.C) :
    Calls Try.prog 12 #[.pointer (some ⟨ab, 0, none⟩), .string x] w fun e w' => ∃ v, e = .returned v ∧ OutV w' v (again c x false s).2 w.heap.size ∧ UpA w w' F ab b c (T + 2) (again c x false s).1 := by
  have c2 : w.cell? ⟨ab, 2, none⟩ = some (.pointer (some ⟨b, 0, none⟩)) := cell_at h.h 2
  have HT := Lib.hid (touch_no h x (by omega) hn)
  have HI := Lib.hid (in_yes h.r x (by omega) 2 s.C rfl hC)
  have HP := Lib.hid (again_part h hT x false (.inl hC) (by simpa using hC))
  clear h hn hC
  go_enter Try.func12, Try.ntmps12
  go_wp2_with (first
    | (go_at_call 15; refine HT.out.mono ?_; rintro e w1 ⟨rfl, rfl⟩)
    | (go_at_call 26; refine HI.out.mono ?_; rintro e w1 ⟨rfl, rfl⟩)
    | (go_at_call 27; refine HP.out.mono ?_; rintro e w1 ⟨v, rfl, ho, ha, k⟩
       obtain ⟨ao, n, hv⟩ := ho.form
       subst hv
       replace ho := Lib.hid ho
       replace ha := Lib.hid ha))
  go_ret
  exact ⟨_, rfl, ho.out, F, ha.out, fun i e => .inl e, k⟩
theorem ins_three {w : World} {F : Nat → Prop} {ab b c T : Nat} {s : Ac} (h : ArcAt w F ab b c T s) (hT : T ≤ 100000) (x : ByteArray) (hx : x.size ≤ 64) (hn : (isIn x s.A || isIn x s.B) = false) (hC : x ∈ s.D) :
    Calls Try.prog 12 #[.pointer (some ⟨ab, 0, none⟩), .string x] w fun e w' => ∃ v, e = .returned v ∧ OutV w' v (again c x true s).2 w.heap.size ∧ UpA w w' F ab b c (T + 2) (again c x true s).1 := by
  have c2 : w.cell? ⟨ab, 2, none⟩ = some (.pointer (some ⟨b, 0, none⟩)) := cell_at h.h 2
  have HT := Lib.hid (touch_no h x (by omega) hn)
  have HI := Lib.hid (in_yes h.r x (by omega) 3 s.D rfl hC)
  have HP := Lib.hid (again_part h hT x true (.inr hC) (by simpa using hC))
  clear h hn hC
  go_enter Try.func12, Try.ntmps12
  go_wp2_with (first
    | (go_at_call 15; refine HT.out.mono ?_; rintro e w1 ⟨rfl, rfl⟩)
    | (go_at_call 26; refine HI.out.mono ?_; rintro e w1 ⟨rfl, rfl⟩)
    | (go_at_call 27; refine HP.out.mono ?_; rintro e w1 ⟨v, rfl, ho, ha, k⟩
       obtain ⟨ao, n, hv⟩ := ho.form
       subst hv
       replace ho := Lib.hid ho
       replace ha := Lib.hid ha))
  go_ret
  exact ⟨_, rfl, ho.out, F, ha.out, fun i e => .inl e, k⟩

end Go.Proofs.Ytebjbkpgicbgeaa.ArcI
