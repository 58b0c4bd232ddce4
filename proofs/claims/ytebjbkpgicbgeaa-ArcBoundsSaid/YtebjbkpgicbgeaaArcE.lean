/-
  Layer 7 (arc): Remove, Evict.
-/
import Derived.Test.YtebjbkpgicbgeaaArcF
namespace Go.Proofs.Ytebjbkpgicbgeaa.ArcE
set_option linter.unusedVariables false
set_option linter.unusedSimpArgs false
set_option maxRecDepth 100000
open Go.RowKit Go.Proofs.Ytebjbkpgicbgeaa.Mem Go.Proofs.Ytebjbkpgicbgeaa.RinM Go.Proofs.Ytebjbkpgicbgeaa.RinP Go.Proofs.Ytebjbkpgicbgeaa.RinD Go.Proofs.Ytebjbkpgicbgeaa.RinG Go.Proofs.Ytebjbkpgicbgeaa.ArcP Go.Proofs.Ytebjbkpgicbgeaa.ArcQ Go.Proofs.Ytebjbkpgicbgeaa.ArcW Go.Proofs.Ytebjbkpgicbgeaa.ArcV Go.Proofs.Ytebjbkpgicbgeaa.ArcU Go.Proofs.Ytebjbkpgicbgeaa.ArcO Go.Proofs.Ytebjbkpgicbgeaa.ArcF Go.Proofs.Ytebjbkpgicbgeaa.Mask Go.Proofs.Ytebjbkpgicbgeaa.Open

theorem rm_inv {c : Nat} {s : Ac} (h : AInv c s) (x : ByteArray) : AInv c (rmA x s) := by
  by_cases hx : x ∈ all s
  · have hp : (all s).Perm (x :: all (rmA x s)) := by rw [all_rmA]; exact (rm_perm h.nd hx).symm
    have h1 := h.ab
    have h2 := h.ac
    have l1 := rm_le x s.A
    have l2 := rm_le x s.B
    have l3 := rm_le x s.C
    exact (h.less hp (by show (rm x s.A).length + (rm x s.B).length ≤ c; omega) (by show (rm x s.A).length + (rm x s.C).length ≤ c; omega) h.tl).1
  · rw [rmA_self hx]; exact h
theorem remove_at {w : World} {F : Nat → Prop} {ab b c T : Nat} {s : Ac} (h : ArcAt w F ab b c T s) (x : ByteArray) (hx : x.size ≤ 9223372036854775807) :
    Calls Try.prog 17 #[.pointer (some ⟨ab, 0, none⟩), .string x] w fun e w' => e = .returned (.bool (isIn x s.A || isIn x s.B)) ∧ UpA w w' F ab b c T (rmA x s) := by
  have c2 : w.cell? ⟨ab, 2, none⟩ = some (.pointer (some ⟨b, 0, none⟩)) := cell_at h.h 2
  have HH := Lib.hid (has_at h x hx)
  generalize (isIn x s.A || isIn x s.B) = r at *
  have HI := Lib.hid (rm_inv h.i x)
  by_cases hn : x ∈ all s
  · have HD := Lib.hid (drop_yes h.r x hx (by rw [keys_flat]; exact hn))
    have H := Lib.hid h
    clear h hn
    go_enter Try.func17, Try.ntmps17
    go_wp2_with (first
      | (go_at_call 14; refine HH.out.mono ?_; rintro e w1 ⟨rfl, rfl⟩)
      | (go_at_call 32; refine HD.out.mono ?_; rintro e w3 ⟨rfl, u3⟩; replace u3 := Lib.hid u3))
    go_ret
    exact ⟨rfl, UpA.drop H.out (Keep.refl _ _) u3.out rfl HI.out⟩
  · have HD := Lib.hid (drop_no h.r x hx (by rw [keys_flat]; exact hn))
    have H := Lib.hid h
    rw [rmA_self hn]
    clear h hn HI
    go_enter Try.func17, Try.ntmps17
    go_wp2_with (first
      | (go_at_call 14; refine HH.out.mono ?_; rintro e w1 ⟨rfl, rfl⟩)
      | (go_at_call 32; refine HD.out.mono ?_; rintro e w3 ⟨rfl, rfl⟩))
    go_ret
    exact ⟨rfl, UpA.same H.out (Keep.refl _ _)⟩

/-- What Evict does. -/
def evi (s : Ac) : Ac × Option ByteArray := if s.A.length + s.B.length = 0 then (s, none) else repl false s
theorem evi_inv {c : Nat} {s : Ac} (h : AInv c s) : AInv c (evi s).1 := by
  unfold evi
  split
  · exact h
  · exact (repl_inv h (by omega)).1
theorem evict_at {w : World} {F : Nat → Prop} {ab b c T : Nat} {s : Ac} (h : ArcAt w F ab b c T s) (hT : T ≤ 1000000) :
    Calls Try.prog 18 #[.pointer (some ⟨ab, 0, none⟩)] w fun e w' => e = .returned (.tuple #[.string ((evi s).2.getD ⟨#[]⟩), .bool (evi s).2.isSome]) ∧ UpA w w' F ab b c (T + 1) (evi s).1 := by
  have HL := Lib.hid (len_at h)
  have hl := h.lens
  unfold evi
  by_cases h0 : s.A.length + s.B.length = 0
  · rw [if_pos h0]
    have h0' : (s.A.length : Int) + (s.B.length : Int) = 0 := by omega
    have H := Lib.hid h
    clear h
    rw [h0'] at HL
    go_enter Try.func18, Try.ntmps18
    go_wp2_with (go_at_call 13; refine HL.out.mono ?_; rintro e w1 ⟨rfl, m, rfl⟩)
    go_ret2
    exact ⟨rfl, (UpA.same (H.out.keep0 ((Keep.refl _ w).drewN m)) ((Keep.refl _ w).drewN m)).mono (by omega)⟩
  · rw [if_neg h0]
    have HR := Lib.hid (fun m => repl_at (h.keep0 ((Keep.refl _ w).drewN m)) (by omega) false (by omega))
    obtain ⟨z, hz⟩ : ∃ z : Int, z = (s.A.length : Int) + (s.B.length : Int) := ⟨_, rfl⟩
    have hz0 : z ≠ 0 := by omega
    have hz1 : ¬ z = 0 := hz0
    rw [← hz] at HL
    clear h h0 hl hz
    go_enter Try.func18, Try.ntmps18
    go_wp2_with (first
      | (go_at_call 13; refine HL.out.mono ?_; rintro e w1 ⟨rfl, m, rfl⟩)
      | (go_at_call 30; refine (HR.out m).mono ?_; rintro e w3 ⟨v, k, rfl, hk, ⟨g, rfl, hg, hgs⟩, a3, k3⟩
         have cg : w3.cell? ⟨g, 0, none⟩ = some (.string k) := cell_at hg 0
         replace a3 := Lib.hid a3
         replace hk := Lib.hid hk
         replace k3 := Lib.hid k3
         clear hg hgs))
    go_ret2
    rw [hk.out]
    exact ⟨rfl, UpA.same a3.out (((Keep.refl _ w).drewN m).trans k3.out)⟩

end Go.Proofs.Ytebjbkpgicbgeaa.ArcE
