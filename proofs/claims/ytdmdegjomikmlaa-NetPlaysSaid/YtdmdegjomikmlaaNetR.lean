/-
  Layer 22 (net): Spoil of any packet; the law NetSpoils.
-/
import Derived.Test.YtdmdegjomikmlaaNetQ
import Derived.Test.YtdmdegjomikmlaaNetC
import Derived.Deep.DeepCutAuto
namespace Go.Proofs.Ytdmdegjomikmlaa.NetR
set_option linter.unusedVariables false
set_option linter.unusedSimpArgs false
open Go.RowKit Go.Proofs.Ytdmdegjomikmlaa.Mem Go.Proofs.Ytdmdegjomikmlaa.NetM Go.Proofs.Ytdmdegjomikmlaa.NetW Go.Proofs.Ytdmdegjomikmlaa.NetS Go.Proofs.Ytdmdegjomikmlaa.NetD Go.Proofs.Ytdmdegjomikmlaa.NetT Go.Proofs.Ytdmdegjomikmlaa.NetA Go.Proofs.Ytdmdegjomikmlaa.NetP Go.Proofs.Ytdmdegjomikmlaa.NetQ Go.Proofs.Ytdmdegjomikmlaa.NetC
attribute [-go_sem] Instr.loadAt loadVar
attribute [local go_sem] loadAt_ptr lv_int lv_bool lv_string lv_u8 lv_ps lv_map

/-- A packet behind Spoil. -/
def sp1 (p : Pk) (at_ c : Int) : Pk := if canSpoil p at_ c = true then spoilt p at_.toNat c else p
theorem set_self {α : Type} (l : List α) (i : Nat) (x : α) (h : l[i]? = some x) : l.set i x = l := by
  apply List.ext_getElem?
  intro j
  rw [List.getElem?_set]
  by_cases e : i = j
  · subst e
    rw [if_pos rfl, if_pos ((List.getElem?_eq_some_iff.1 h).1), h]
  · rw [if_neg e]
theorem spoil_any {w : World} {F : Nat → Prop} {b n mb : Nat} {ps : List Pk} {S : Int → Int → Bool} {v : Value} (h : NetAt w F b ps n S v mb) (i : Nat) (p : Pk) (hp : ps[i]? = some p) (hn : ps.length ≤ 1000000) (at_ c : Int) (hcl : 0 ≤ c) (hch : c < 256) :
    Calls Try.prog 12 #[.pointer (some ⟨b, 0, none⟩), .int .i64 i, .int .i64 at_, .int .u8 c] w fun e w' => e = .returned (.bool (canSpoil p at_ c)) ∧ ∃ v', NetAt w' F b (ps.set i (sp1 p at_ c)) n S v' mb ∧ Keep F w w' := by
  cases hc : canSpoil p at_ c
  · refine (spoil_no h i p hp hn at_ c hc).mono ?_
    rintro e w' ⟨rfl, rfl⟩
    refine ⟨rfl, v, ?_, Keep.refl _ _⟩
    unfold sp1
    rw [if_neg (by rw [hc]; simp), set_self ps i p hp]
    exact h
  · have hc' := hc
    unfold canSpoil at hc'
    simp only [Bool.and_eq_true, Bool.not_eq_true', decide_eq_true_eq] at hc'
    obtain ⟨⟨⟨h1, h2⟩, h3⟩, h4⟩ := hc'
    obtain ⟨d, rfl⟩ : ∃ d : Nat, at_ = d := ⟨at_.toNat, by omega⟩
    refine (spoil_yes h i p hp hn d c h1 h2 (by omega) hcl hch).mono ?_
    rintro e w' ⟨rfl, v', n1, k1⟩
    refine ⟨rfl, v', ?_, k1⟩
    unfold sp1
    rw [if_pos hc]
    exact n1

/-- At how many of the first k places two texts differ. -/
def dif (a b : List UInt8) : Nat → Nat
  | 0 => 0
  | k + 1 => dif a b k + if (a[k]?.getD 0 != b[k]?.getD 0) then 1 else 0
theorem dif_self (a : List UInt8) : ∀ k, dif a a k = 0
  | 0 => rfl
  | k + 1 => by simp [dif, dif_self a k]
theorem dif_set (a : List UInt8) (at_ : Nat) (x : UInt8) (h : at_ < a.length) (hx : x ≠ a[at_]?.getD 0) : ∀ k, dif (a.set at_ x) a k = if at_ < k then 1 else 0
  | 0 => by simp [dif]
  | k + 1 => by
    have key : (if ((a.set at_ x)[k]?.getD 0 != a[k]?.getD 0) = true then 1 else 0) = if at_ = k then 1 else 0 := by
      rw [List.getElem?_set]
      by_cases e : at_ = k
      · subst e
        have hq : (x != a[at_]?.getD 0) = true := by simpa using hx
        simp only [if_true, h, Option.getD_some, hq]
      · simp [e]
    show dif (a.set at_ x) a k + _ = _
    rw [dif_set a at_ x h hx k, key]
    split <;> split <;> split <;> omega
theorem xb_ne (x : UInt8) (c : Int) (h0 : 0 < c) (h1 : c < 256) : xb x c ≠ x := by
  intro e
  have h2 : UInt8.ofNat c.toNat = 0 := by
    have : x ^^^ (x ^^^ UInt8.ofNat c.toNat) = x ^^^ x := by rw [show x ^^^ UInt8.ofNat c.toNat = x from e]
    rw [← UInt8.xor_assoc, UInt8.xor_self, UInt8.zero_xor] at this
    exact this
  have := congrArg UInt8.toNat h2
  simp at this
  omega
theorem sp1_size (p : Pk) (at_ c : Int) : (sp1 p at_ c).s.size = p.s.size := by
  unfold sp1
  split
  · show (List.set _ _ _).toArray.size = p.s.data.size
    simp
  · rfl
theorem sp1_sp (p : Pk) (at_ c : Int) (h : p.sp = false) : (sp1 p at_ c).sp = canSpoil p at_ c := by
  unfold sp1
  split
  · rename_i e; rw [e]; rfl
  · rename_i e; rw [h]; simpa using e
theorem sp1_dif (p : Pk) (at_ c : Int) (h1 : 0 ≤ c) (h2 : c < 256) : dif (sp1 p at_ c).s.data.toList p.s.data.toList p.s.size = if canSpoil p at_ c then 1 else 0 := by
  unfold sp1
  split
  · rename_i e
    have hc' := e
    unfold canSpoil at hc'
    simp only [Bool.and_eq_true, Bool.not_eq_true', decide_eq_true_eq] at hc'
    obtain ⟨⟨⟨_, h3⟩, h4⟩, h5⟩ := hc'
    have h6 : at_.toNat < p.s.data.toList.length := by
      have : p.s.size = p.s.data.toList.length := by simp
      omega
    show dif (p.s.data.toList.set _ _) _ _ = _
    rw [dif_set _ _ _ h6 (xb_ne _ _ (by have : c ≠ 0 := by simpa using h3
                                        omega) h2), if_pos (by omega)]
  · rw [dif_self]

end Go.Proofs.Ytdmdegjomikmlaa.NetR
