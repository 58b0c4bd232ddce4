/-
  Layer 17 (quorum): QuorumOne: who the four are; the proposers as they are made.
-/
import Derived.Test.YtppnjkiegiokeaaQuoH
import Derived.Test.YtppnjkiegiokeaaMask
namespace Go.Proofs.Ytppnjkiegiokeaa.QuoI
set_option linter.unusedVariables false
set_option linter.unusedSimpArgs false
set_option maxRecDepth 100000
open Go.RowKit Go.Proofs.Ytppnjkiegiokeaa.Mask Go.Proofs.Ytppnjkiegiokeaa.Mem Go.Proofs.Ytppnjkiegiokeaa.QuoW Go.Proofs.Ytppnjkiegiokeaa.QuoV Go.Proofs.Ytppnjkiegiokeaa.QuoU Go.Proofs.Ytppnjkiegiokeaa.QuoR Go.Proofs.Ytppnjkiegiokeaa.QuoS Go.Proofs.Ytppnjkiegiokeaa.QuoX Go.Proofs.Ytppnjkiegiokeaa.QuoC Go.Proofs.Ytppnjkiegiokeaa.QuoF Go.Proofs.Ytppnjkiegiokeaa.QuoH

def meI (q : Nat) : Int := ((q % 2 : Nat) : Int)
def lv (la lb : Int) (m : Nat) : Int := if m = 0 then la else lb
def lfI (la lb : Int) (q : Nat) : Int := 1 + bits .and .u64 (lv la lb (q % 2)) 7 + ((q / 2 : Nat) : Int) * 8
theorem seven (x : Int) : ∃ k : Nat, bits .and .u64 x 7 = (k : Int) ∧ k < 8 := by
  obtain ⟨k, h1, h2, -⟩ := u64_and_mask x 3 (by omega)
  exact ⟨k, h1, h2⟩
theorem who (la lb : Int) : Who meI (lfI la lb) := by
  refine ⟨fun q _ => ?_, fun q hq => ?_, fun q q' hq hq' e1 e2 => ?_⟩
  · unfold meI; omega
  · unfold lfI
    obtain ⟨k, h1, h2⟩ := seven (lv la lb (q % 2))
    rw [h1]
    omega
  · unfold meI at e1
    unfold lfI at e2
    have e3 : q % 2 = q' % 2 := by omega
    rw [e3] at e2
    omega
theorem one_bit (i : Nat) (hi : i < 4) : bits .and .i64 (i : Int) 1 = ((i % 2 : Nat) : Int) := by
  obtain ⟨m, h1, h2, h3⟩ := i64_and (i : Int) 1 (by omega)
  have h1' : bits .and .i64 (i : Int) 1 = (m : Int) := h1
  rw [h1', h3]
  simp only [BitVec.ofInt_natCast, BitVec.toNat_ofNat]
  rw [Nat.mod_eq_of_lt (show i < 2 ^ 64 by omega)]

/-- The proposers that are made so far. -/
structure Ps (w wr : World) (XA i : Nat) (pb : Nat → Nat) (la lb : Int) : Prop where
  xa : ∃ cur, wr.heap[XA]? = some (.cells cur 50 (0, 0)) ∧ ARow cur i pb
  pa : ∀ q, q < i → PAt wr (pb q) (fresh firstV (wantV (meI q) (lfI la lb q)) (meI q) (lfI la lb q)) ∧ XA < pb q ∧ pb q < wr.heap.size
  n : ∀ q q', q < i → q' < i → pb q = pb q' → q = q'
theorem Ps.keep0 {w wr w2 : World} {XA i : Nat} {pb : Nat → Nat} {la lb : Int} (h : Ps w wr XA i pb la lb) (k : Keep (fun _ => False) wr w2) : Ps w w2 XA i pb la lb := by
  obtain ⟨cur, h1, h2⟩ := h.xa
  exact ⟨⟨cur, (k.block _ (lt_of_block h1) (fun e => e)).trans h1, h2⟩, fun q hq => ⟨(k.block _ (h.pa q hq).2.2 (fun e => e)).trans (h.pa q hq).1, (h.pa q hq).2.1, Nat.lt_of_lt_of_le (h.pa q hq).2.2 k.size⟩, h.n⟩
theorem Ps.put {w wr w2 : World} {XA i b : Nat} {pb : Nat → Nat} {la lb : Int} (h : Ps w wr XA i pb la lb) (hi : i < 4) (k : Keep (fun _ => False) wr w2) (hb : wr.heap.size ≤ b) (hp : PAt w2 b (fresh firstV (wantV (meI i) (lfI la lb i)) (meI i) (lfI la lb i))) : Ps w (w2.setCell ⟨XA, i * 21, none⟩ (ptr b)) XA (i + 1) (upd pb i b) la lb := by
  obtain ⟨cur, h1, h2⟩ := h.xa
  have kx : Keep (fun j => j = XA) w2 (w2.setCell ⟨XA, i * 21, none⟩ (ptr b)) := (Keep.refl _ _).set1 _ _
  have hx := lt_of_block h1
  refine ⟨⟨_, block_set ((k.block _ hx (fun e => e)).trans h1) (i * 21) (ptr b), h2.put hi⟩, fun q hq => ?_, fun q q' hq hq' e => ?_⟩
  · by_cases e : q = i
    · subst e
      rw [upd_same]
      exact ⟨(kx.block _ (lt_of_block hp) (by show ¬ b = XA; omega)).trans hp, by omega, Nat.lt_of_lt_of_le (lt_of_block hp) kx.size⟩
    · rw [upd_ne _ _ e]
      obtain ⟨a1, a2, a3⟩ := h.pa q (by omega)
      exact ⟨(kx.block _ (Nat.lt_of_lt_of_le a3 k.size) (by show ¬ pb q = XA; omega)).trans ((k.block _ a3 (fun e => e)).trans a1), a2, Nat.lt_of_lt_of_le (Nat.lt_of_lt_of_le a3 k.size) kx.size⟩
  · by_cases e1 : q = i <;> by_cases e2 : q' = i
    · omega
    · subst e1
      rw [upd_same, upd_ne _ _ e2] at e
      have := (h.pa q' (by omega)).2.2
      omega
    · subst e2
      rw [upd_same, upd_ne _ _ e1] at e
      have := (h.pa q (by omega)).2.2
      omega
    · rw [upd_ne _ _ e1, upd_ne _ _ e2] at e
      exact h.n q q' (by omega) (by omega) e

/-- All that stands when the acts begin. -/
theorem St.begin {w wr w2 : World} {XC XA : Nat} {cb pb : Nat → Nat} {la lb : Int} (h : Cs w wr XC 3 cb) (h2 : Ps w wr XA 4 pb la lb) (hx : ∀ a, a < 3 → cb a < XA) (hxc : XC < XA) (k : Keep (fun _ => False) wr w2) (hv : w2.heap[wr.heap.size]? = some (.cells (Vw.cells zeroV).toArray TVw (0, 0))) :
    St w w2 XC XA wr.heap.size cb pb (fun q => fresh firstV (wantV (meI q) (lfI la lb q)) (meI q) (lfI la lb q)) (fun _ => ⟨0, 0, zeroV⟩) (fun _ => zeroO) zeroV := by
  have h' := h.keep0 k
  have h2' := h2.keep0 k
  obtain ⟨cur, hc, ha⟩ := h2'.xa
  obtain ⟨cur0, hc0, -⟩ := h2.xa
  have hxa := lt_of_block hc0
  have hh := h.h
  refine ⟨h'.xc, by rw [← ha.all]; exact hc, hv, fun a ha => (h'.ca a ha).1, fun q hq => (h2'.pa q hq).1, ⟨by omega, by omega, by omega, by omega, by omega, by omega⟩, fun a ha => ?_, fun q hq => ?_, fun a q ha hq => ?_, fun a a' => h.n a a', fun q q' => h2.n q q', h'.k⟩
  · have h1 := h.ca a ha
    have h3 := hx a ha
    omega
  · have h1 := h2.pa q hq
    omega
  · have h1 := h2.pa q hq
    have h3 := hx a ha
    omega

end Go.Proofs.Ytppnjkiegiokeaa.QuoI
