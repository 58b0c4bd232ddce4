/-
  ArcOnce: keys that are asked for once: the oldest go first.
-/
import Derived.Test.YtebjbkpgicbgeaaArcK
import Derived.Test.YtebjbkpgicbgeaaMask
namespace Go.Proofs.Ytebjbkpgicbgeaa.ArcR
set_option linter.unusedVariables false
set_option linter.unusedSimpArgs false
set_option maxRecDepth 100000
open Go.RowKit Go.Proofs.Ytebjbkpgicbgeaa.Mem Go.Proofs.Ytebjbkpgicbgeaa.RinM Go.Proofs.Ytebjbkpgicbgeaa.RinP Go.Proofs.Ytebjbkpgicbgeaa.RinW Go.Proofs.Ytebjbkpgicbgeaa.RinL Go.Proofs.Ytebjbkpgicbgeaa.RinF Go.Proofs.Ytebjbkpgicbgeaa.RinG Go.Proofs.Ytebjbkpgicbgeaa.RinH Go.Proofs.Ytebjbkpgicbgeaa.RinD Go.Proofs.Ytebjbkpgicbgeaa.RinN Go.Proofs.Ytebjbkpgicbgeaa.ArcP Go.Proofs.Ytebjbkpgicbgeaa.ArcQ Go.Proofs.Ytebjbkpgicbgeaa.ArcW Go.Proofs.Ytebjbkpgicbgeaa.ArcV Go.Proofs.Ytebjbkpgicbgeaa.ArcU Go.Proofs.Ytebjbkpgicbgeaa.ArcI Go.Proofs.Ytebjbkpgicbgeaa.ArcJ Go.Proofs.Ytebjbkpgicbgeaa.ArcK Go.Proofs.Ytebjbkpgicbgeaa.Mask

def kk (i : Nat) : ByteArray := ⟨#[UInt8.ofNat i, 107]⟩
theorem kk_inj {i j : Nat} (hi : i < 256) (hj : j < 256) (h : kk i = kk j) : i = j := by
  unfold kk at h
  injection h with h
  have h2 := congrArg (fun a : Array UInt8 => a[0]?) h
  simp at h2
  have h3 := congrArg UInt8.toNat h2
  simp at h3
  omega
theorem kk_size (i : Nat) : (kk i).size = 2 := rfl
def lst (c i : Nat) : List ByteArray := (List.range (min i c)).map fun j => kk (i - 1 - j)
def stO (c i : Nat) : Ac := ⟨0, lst c i, [], [], []⟩
def outO (c i : Nat) : Option ByteArray := if i < c then none else some (kk (i - c))
theorem lst_len (c i : Nat) : (lst c i).length = min i c := by unfold lst; simp
theorem lst_mem {c i j : Nat} (hi : i ≤ 128) (hj : j < 128) : kk j ∈ lst c i ↔ i - c ≤ j ∧ j < i := by
  unfold lst
  rw [List.mem_map]
  constructor
  · rintro ⟨a, ha, e⟩
    rw [List.mem_range] at ha
    have := kk_inj (by omega) (by omega) e
    omega
  · rintro ⟨h1, h2⟩
    exact ⟨i - 1 - j, by rw [List.mem_range]; omega, by congr 1; omega⟩
theorem lst_less {c i : Nat} (h : i < c) : lst c (i + 1) = kk i :: lst c i := by
  unfold lst
  rw [show min (i + 1) c = i + 1 from by omega, show min i c = i from by omega, List.range_succ_eq_map, List.map_cons, List.map_map]
  congr 1
  apply List.map_congr_left
  intro a _
  show kk (i + 1 - 1 - (a + 1)) = kk (i - 1 - a)
  congr 1; omega
theorem lst_more {c' i : Nat} (h : c' + 1 ≤ i) : ∃ L, lst (c' + 1) i = L ++ [kk (i - (c' + 1))] ∧ lst (c' + 1) (i + 1) = kk i :: L := by
  refine ⟨(List.range c').map fun j => kk (i - 1 - j), ?_, ?_⟩
  · unfold lst
    rw [show min i (c' + 1) = c' + 1 from by omega, List.range_succ, List.map_append, List.map_singleton]
    congr 3; omega
  · unfold lst
    rw [show min (i + 1) (c' + 1) = c' + 1 from by omega, List.range_succ_eq_map, List.map_cons, List.map_map]
    congr 1
    apply List.map_congr_left
    intro a _
    show kk (i + 1 - 1 - (a + 1)) = kk (i - 1 - a)
    congr 1; omega
theorem once_ins {c i : Nat} (h : AInv c (stO c i)) (hi : i < 128) : ins c (kk i) (stO c i) = (stO c (i + 1), outO c i) := by
  have hx : kk i ∉ lst c i := fun e => by have := (lst_mem (by omega) hi).1 e; omega
  have hall : all (stO c i) = lst c i := by unfold all stO; simp
  have hx2 : kk i ∉ all (stO c i) := by rw [hall]; exact hx
  have hl : (stO c i).A.length = min i c := lst_len c i
  have hn := h.nd
  rw [hall] at hn
  unfold ins
  rw [if_neg (by rw [kk_size]; omega), if_neg (by rw [isIn_iff, isIn_iff]; intro e; exact e.elim hx (fun e => by cases e)), if_neg (by rw [isIn_iff]; intro e; cases e), if_neg (by rw [isIn_iff]; intro e; cases e)]
  unfold fresh outO
  by_cases hlt : i < c
  · rw [if_neg (by show ¬ c ≤ (stO c i).A.length + 0; omega), if_neg (by rw [hall, lst_len]; omega), if_pos hlt]
    show (frA 0 (kk i) (stO c i), none) = _
    unfold frA
    rw [rmA_self hx2]
    show ((⟨0, kk i :: lst c i, [], [], []⟩ : Ac), none) = _
    rw [← lst_less hlt]; rfl
  · rw [if_pos (by show c ≤ (stO c i).A.length + 0; omega), if_neg (by omega), if_neg hlt]
    obtain ⟨c', rfl⟩ : ∃ c', c = c' + 1 := ⟨c - 1, by have := h.c1; omega⟩
    obtain ⟨L, e1, e2⟩ := lst_more (show c' + 1 ≤ i by omega)
    have e3 : (stO (c' + 1) i).A.getLast? = some (kk (i - (c' + 1))) := by show (lst (c' + 1) i).getLast? = _; rw [e1]; simp
    rw [e3]
    have e4 : rmA (kk (i - (c' + 1))) (stO (c' + 1) i) = ⟨0, L, [], [], []⟩ := by
      show (⟨0, rm _ (lst (c' + 1) i), [], [], []⟩ : Ac) = _
      rw [e1] at hn ⊢
      rw [rm_last hn]
    show (frA 0 (kk i) (rmA (kk (i - (c' + 1))) (stO (c' + 1) i)), some (kk (i - (c' + 1)))) = _
    rw [e4]
    unfold frA
    have hxL : kk i ∉ L := fun e => hx (by rw [e1]; exact List.mem_append_left _ e)
    rw [rmA_self (by unfold all; simpa using hxL)]
    show ((⟨0, kk i :: L, [], [], []⟩ : Ac), _) = _
    rw [← e2]; rfl

theorem cvk (i : Nat) (hi : i < 256) (W : World) : (convert 33 9 (.slice (some ⟨W.heap.size, 0, none⟩) 2 2)).run Try.prog (W.alloc (.cells #[.int .u8 (i : Int), .int .u8 107] 5)) = .ok (.string (kk i)) (W.alloc (.cells #[.int .u8 (i : Int), .int .u8 107] 5)) :=
  run_convert_bytes_back (W.alloc (.cells #[.int .u8 (i : Int), .int .u8 107] 5)) 33 9 5 ⟨W.heap.size, 0, none⟩ 2 [UInt8.ofNat i, 107] Try.underlying33 Try.underlying5 Try.underlying9 (fun j hj => by
    have hj2 : j = 0 ∨ j = 1 := by simp at hj; omega
    rcases hj2 with rfl | rfl
    · show (W.alloc _).cell? ⟨W.heap.size, 0, none⟩ = _
      rw [cell_at (block_new W _) 0]
      have : ((UInt8.ofNat i).toNat : Int) = (i : Int) := by rw [UInt8.toNat_ofNat']; omega
      simp
      omega
    · show (W.alloc _).cell? ⟨W.heap.size, 1, none⟩ = _
      rw [cell_at (block_new W _) 1]
      rfl)

end Go.Proofs.Ytebjbkpgicbgeaa.ArcR
