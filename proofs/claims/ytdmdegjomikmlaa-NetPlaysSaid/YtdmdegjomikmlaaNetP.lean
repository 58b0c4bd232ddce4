/-
  Layer 22 (net): Spoil.
-/
import Derived.Test.YtdmdegjomikmlaaNetA
import Derived.Laws.IdiomStrings
namespace Go.Proofs.Ytdmdegjomikmlaa.NetP
set_option linter.unusedVariables false
set_option linter.unusedSimpArgs false
open Go.RowKit Go.Proofs.Ytdmdegjomikmlaa.Mem Go.Proofs.Ytdmdegjomikmlaa.NetM Go.Proofs.Ytdmdegjomikmlaa.NetW Go.Proofs.Ytdmdegjomikmlaa.NetS Go.Proofs.Ytdmdegjomikmlaa.NetD Go.Proofs.Ytdmdegjomikmlaa.NetT Go.Proofs.Ytdmdegjomikmlaa.NetA
attribute [-go_sem] Instr.loadAt loadVar
attribute [local go_sem] loadAt_ptr lv_int lv_bool lv_string lv_u8 lv_ps lv_map

/-- A byte, some of its bits turned. -/
def xb (x : UInt8) (c : Int) : UInt8 := x ^^^ UInt8.ofNat c.toNat
theorem xb_bits (x : UInt8) (c : Int) (h0 : 0 ≤ c) (h1 : c < 256) : bits .xor .u8 (x.toNat : Int) c = ((xb x c).toNat : Int) := by
  obtain ⟨d, rfl⟩ : ∃ d : Nat, c = d := ⟨c.toNat, by omega⟩
  have hx : x.toNat < 256 := x.toNat_lt
  have hd : d < 256 := by omega
  have hxd : x.toNat ^^^ d < 2 ^ 8 := Nat.xor_lt_two_pow hx hd
  show IntKind.u8.wrap (((BitVec.ofInt 8 (x.toNat : Int)) ^^^ (BitVec.ofInt 8 (d : Int))).toNat : Int) = _
  simp only [BitVec.toNat_xor, BitVec.ofInt_natCast, BitVec.toNat_ofNat]
  rw [Nat.mod_eq_of_lt (show x.toNat < 2 ^ 8 by omega), Nat.mod_eq_of_lt (show d < 2 ^ 8 by omega), IntKind.wrap_u8]
  simp only [xb, UInt8.toNat_xor, Int.toNat_natCast, UInt8.toNat_ofNat']
  rw [Nat.mod_eq_of_lt hd]
  omega

/-- A packet, spoilt. -/
def spoilt (p : Pk) (at_ : Nat) (c : Int) : Pk := ⟨p.fr, p.to_, ⟨(p.s.data.toList.set at_ (xb (p.s.data.toList[at_]?.getD 0) c)).toArray⟩, true⟩

theorem spoil_out {w : World} {F : Nat → Prop} {b n mb : Nat} {ps : List Pk} {S : Int → Int → Bool} {v : Value} (h : NetAt w F b ps n S v mb) (i at_ c : Int) (hi : ¬ (0 ≤ i ∧ i < ps.length)) :
    Calls Try.prog 12 #[.pointer (some ⟨b, 0, none⟩), .int .i64 i, .int .i64 at_, .int .u8 c] w fun e w' => e = .returned (.bool false) ∧ w = w' := by
  have his := is_at h i
  have hd : (decide (0 ≤ i) && decide (i < (ps.length : Int))) = false := by
    rw [← Bool.not_eq_true, Bool.and_eq_true, decide_eq_true_eq, decide_eq_true_eq]; exact hi
  rw [hd] at his
  have His := Lib.hid his
  clear h his hi hd
  go_enter Try.func12, Try.ntmps12
  go_wp2_with (go_at_call 22; refine His.out.mono ?_; rintro e w1 ⟨rfl, rfl⟩)
  go_ret
  exact ⟨rfl, rfl⟩

/-- What Spoil asks of a packet. -/
def canSpoil (p : Pk) (at_ c : Int) : Bool := !p.sp && !(c == 0) && decide (0 ≤ at_) && decide (at_ < p.s.size)

set_option maxHeartbeats 4000000 in
theorem spoil_no {w : World} {F : Nat → Prop} {b n mb : Nat} {ps : List Pk} {S : Int → Int → Bool} {v : Value} (h : NetAt w F b ps n S v mb) (i : Nat) (p : Pk) (hp : ps[i]? = some p) (hn : ps.length ≤ 1000000) (at_ c : Int) (hc : canSpoil p at_ c = false) :
    Calls Try.prog 12 #[.pointer (some ⟨b, 0, none⟩), .int .i64 i, .int .i64 at_, .int .u8 c] w fun e w' => e = .returned (.bool false) ∧ w = w' := by
  have hi : i < ps.length := (List.getElem?_eq_some_iff.1 hp).1
  have his := is_at h i
  have hd : (decide ((0 : Int) ≤ i) && decide ((i : Int) < (ps.length : Int))) = true := by
    rw [Bool.and_eq_true, decide_eq_true_eq, decide_eq_true_eq]; omega
  rw [hd] at his
  have His := Lib.hid his
  have hne : ps ≠ [] := by intro e; rw [e] at hi; simp at hi
  obtain ⟨g, cap, rfl, hg, -, hcell⟩ := row_cells (g := 0) h.o hne
  have c0 : w.cell? ⟨b, 0, none⟩ = some (.slice (some ⟨g, 0, none⟩) ps.length cap) := cell_at h.h 0
  have c2 := hcell i p hp 2 (by omega)
  have c3 := hcell i p hp 3 (by omega)
  have hpo := (h.ok p (List.mem_of_getElem? hp)).2.2
  obtain ⟨fr, to_, s, sp⟩ := p
  obtain ⟨m, hm⟩ : ∃ m, m = ps.length := ⟨_, rfl⟩
  rw [← hm] at c0 hi hn
  simp only [Pk.cells, List.getElem?_cons_succ, List.getElem?_cons_zero] at c2 c3
  simp only [canSpoil] at hc hpo
  have hi' : (i : Int) < (m : Int) := by omega
  clear h his hd hne hg hcell hm hp
  cases hsp : sp
  · subst hsp
    cases hc0 : (c == 0)
    · rw [hc0] at hc
      by_cases h0 : at_ < 0
      · go_enter Try.func12, Try.ntmps12
        clear hc
        go_wp2_with (go_at_call 22; refine His.out.mono ?_; rintro e w1 ⟨rfl, rfl⟩)
        go_ret
        exact ⟨rfl, rfl⟩
      · have hle : ¬ at_ < (s.size : Int) := by
          intro e
          simp at hc
          omega
        have hle2 : (s.size : Int) ≤ at_ := by omega
        clear hc
        go_enter Try.func12, Try.ntmps12
        go_wp2_with (go_at_call 22; refine His.out.mono ?_; rintro e w1 ⟨rfl, rfl⟩)
        go_ret
        exact ⟨rfl, rfl⟩
    · clear hc
      go_enter Try.func12, Try.ntmps12
      go_wp2_with (go_at_call 22; refine His.out.mono ?_; rintro e w1 ⟨rfl, rfl⟩)
      go_ret
      exact ⟨rfl, rfl⟩
  · subst hsp
    clear hc
    go_enter Try.func12, Try.ntmps12
    go_wp2_with (go_at_call 22; refine His.out.mono ?_; rintro e w1 ⟨rfl, rfl⟩)
    go_ret
    exact ⟨rfl, rfl⟩

end Go.Proofs.Ytdmdegjomikmlaa.NetP
