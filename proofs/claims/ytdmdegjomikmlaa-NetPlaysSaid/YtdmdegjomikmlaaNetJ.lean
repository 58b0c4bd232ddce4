/-
  Layer 22 (net): slices.IndexFunc with Cut's closure.
-/
import Derived.Test.YtdmdegjomikmlaaNetI
namespace Go.Proofs.Ytdmdegjomikmlaa.NetJ
set_option linter.unusedVariables false
set_option linter.unusedSimpArgs false
open Go.RowKit Go.Proofs.Ytdmdegjomikmlaa.Mem Go.Proofs.Ytdmdegjomikmlaa.NetM Go.Proofs.Ytdmdegjomikmlaa.NetW Go.Proofs.Ytdmdegjomikmlaa.NetS Go.Proofs.Ytdmdegjomikmlaa.NetD Go.Proofs.Ytdmdegjomikmlaa.NetT Go.Proofs.Ytdmdegjomikmlaa.NetA Go.Proofs.Ytdmdegjomikmlaa.NetH Go.Proofs.Ytdmdegjomikmlaa.NetI
attribute [-go_sem] Instr.loadAt loadVar
attribute [local go_sem] loadAt_ptr lv_int lv_bool lv_string lv_u8 lv_ps lv_map

/-- The first place from k on at which f holds; -1: none. -/
def at1 (f : Pk → Bool) (ps : List Pk) : Int := match ps.findIdx? f with | some i => i | none => -1

theorem at1_some (f : Pk → Bool) (ps : List Pk) (k : Nat) (p : Pk) (h : ∀ q ∈ ps.take k, f q = false) (hp : ps[k]? = some p) (hf : f p = true) : at1 f ps = k := by
  obtain ⟨hk, rfl⟩ := List.getElem?_eq_some_iff.1 hp
  have e : ps.findIdx? f = some k := List.findIdx?_eq_some_iff_getElem.2 ⟨hk, hf, fun j hj => by
    have := h (ps[j]'(by omega)) (List.mem_take_iff_getElem.2 ⟨j, by omega, rfl⟩)
    rw [this]; simp⟩
  unfold at1
  rw [e]
theorem at1_none (f : Pk → Bool) (ps : List Pk) (h : ∀ q ∈ ps, f q = false) : at1 f ps = -1 := by
  have e : ps.findIdx? f = none := List.findIdx?_eq_none_iff.2 h
  unfold at1
  rw [e]

set_option maxHeartbeats 2000000 in
theorem index_any (A B : Nat) (a b : Int) (ps : List Pk) (vs : Value) (m : Nat) (w : World) (hm : ps.length = m) (hn : m ≤ 1000000) (ho : w.ownsRow 0 TP 4 vs ps.length (flat ps)) (hA : w.cell? ⟨A, 0, none⟩ = some (.int .i64 a)) (hB : w.cell? ⟨B, 0, none⟩ = some (.int .i64 b)) (hAl : A < w.heap.size) (hBl : B < w.heap.size) :
    Calls Try.prog 30 #[vs, .func (.func 25) #[] #[.pointer (some ⟨A, 0, none⟩), .pointer (some ⟨B, 0, none⟩)]] w fun e w' => e = .returned (.int .i64 (at1 (same a b) ps)) ∧ Below w.heap.size w w' := by
  obtain ⟨ao, cap, hv⟩ := owns_slice ho
  subst hv
  rw [hm] at ho ⊢
  have HO := Lib.hid ho
  have HA := Lib.hid hA
  have HB := Lib.hid hB
  have HM := Lib.hid hm
  clear ho hA hB hm
  go_enter Try.func30, Try.ntmps30
  go_wp2_with fail
  go_loopw [8] (fun xi wr => ∃ k : Nat, k ≤ m ∧ xi = .int .i64 k ∧ Hid (∀ p ∈ ps.take k, same a b p = false) ∧ Below w.heap.size w wr) (fun xi wr => m - (intOf xi).toNat)
  case atStart => exact ⟨0, by omega, rfl, Lib.hid (by simp), Below.refl _ _⟩
  case round =>
    obtain ⟨k, hk, rfl, hno, hb⟩ := hrel
    by_cases hlt : k < m
    · have hne : ps ≠ [] := by intro e; have := HM.out; rw [e] at this; simp at this; omega
      have ho := HO.out
      rw [← HM.out] at ho
      obtain ⟨g, cap', hv, hg, -, hcell⟩ := row_cells (g := 0) ho hne
      simp only [Value.slice.injEq] at hv
      obtain ⟨rfl, -, rfl⟩ := hv
      obtain ⟨p, hp⟩ : ∃ p, ps[k]? = some p := ⟨ps[k]'(by have := HM.out; omega), List.getElem?_eq_getElem _⟩
      have ld := load_pk wr g (k * 4) p (fun j hj => (hb.cell (p := ⟨g, _, none⟩) hg).trans (hcell k p hp j hj))
      have hcl := closure_any A B a b p wr ((hb.cell (p := ⟨A, 0, none⟩) hAl).trans HA.out) ((hb.cell (p := ⟨B, 0, none⟩) hBl).trans HB.out) (Nat.lt_of_lt_of_le hAl hb.size) (Nat.lt_of_lt_of_le hBl hb.size)
      have HC := Lib.hid hcl
      have Hp := Lib.hid hp
      have Hb := Lib.hid hb
      clear hcl hne ho hcell hg hp hb
      cases hs : same a b p
      · have Hs := Lib.hid hs
        rw [hs] at HC
        clear hs
        go_wp2_with (go_at_call 25; refine HC.out.mono ?_; rintro e w1 ⟨rfl, b1⟩)
        go_roundw
        case rel => exact ⟨k + 1, by omega, by go_num, Lib.hid (by intro q hq; rw [take_snoc' ps k p Hp.out] at hq; rcases List.mem_append.1 hq with e | e; exact hno.out q e; rw [List.mem_singleton.1 e]; exact Hs.out), Hb.out.trans (b1.mono Hb.out.size)⟩
        case measure => simp [intOf]; omega
      · have hat := at1_some (same a b) ps k p hno.out Hp.out hs
        have Hat := Lib.hid hat
        rw [hs] at HC
        clear hs hat
        go_wp2_with (go_at_call 25; refine HC.out.mono ?_; rintro e w1 ⟨rfl, b1⟩)
        go_ret
        exact ⟨by rw [Hat.out]; rfl, Hb.out.trans (b1.mono Hb.out.size)⟩
    · obtain rfl : k = m := by omega
      have hat := at1_none (same a b) ps (fun q hq => hno.out q (by rw [← HM.out, List.take_length]; exact hq))
      have Hat := Lib.hid hat
      clear hat
      go_wp2_with fail
      go_ret
      exact ⟨by rw [Hat.out]; rfl, hb⟩

end Go.Proofs.Ytdmdegjomikmlaa.NetJ
