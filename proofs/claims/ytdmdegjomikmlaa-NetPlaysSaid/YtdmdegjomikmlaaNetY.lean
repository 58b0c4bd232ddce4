/-
  Layer 22 (net): the law's own model: rows that are read, off.
-/
import Derived.Test.YtdmdegjomikmlaaNetG
import Derived.Test.YtdmdegjomikmlaaNetU
import Derived.Deep.AppendLies
import Derived.DeepKeys
namespace Go.Proofs.Ytdmdegjomikmlaa.NetY
set_option linter.unusedVariables false
set_option linter.unusedSimpArgs false
set_option maxRecDepth 100000
open Go.RowKit Go.Proofs.Ytdmdegjomikmlaa.Mem Go.Proofs.Ytdmdegjomikmlaa.NetM Go.Proofs.Ytdmdegjomikmlaa.NetW Go.Proofs.Ytdmdegjomikmlaa.NetS Go.Proofs.Ytdmdegjomikmlaa.NetD Go.Proofs.Ytdmdegjomikmlaa.NetT Go.Proofs.Ytdmdegjomikmlaa.NetA

/-- A row of n elements that is read, in a block apart from F. -/
def GRow (W : World) (F : Nat → Prop) (B : Nat) (v : Value) (n : Nat) (xs : List Value) : Prop :=
  ∃ ao cap, v = .slice ao n cap ∧ n ≤ cap ∧ cap ≤ 9223372036854775807 ∧ (n = 0 ∨ ∃ g off, ao = some ⟨g, off, none⟩ ∧ B ≤ g ∧ g < W.heap.size ∧ ¬ F g ∧ ∀ j u, xs[j]? = some u → W.cell? ⟨g, off + j, none⟩ = some u)
theorem GRow.keep {W W' : World} {F S : Nat → Prop} {B n : Nat} {v : Value} {xs : List Value} (h : GRow W F B v n xs) (k : Keep S W W') (hS : ∀ i, i < W.heap.size → S i → F i) : GRow W' F B v n xs := by
  obtain ⟨ao, cap, h1, h2, h9, h3⟩ := h
  refine ⟨ao, cap, h1, h2, h9, ?_⟩
  rcases h3 with h3 | ⟨g, off, h4, h5, h6, h7, h8⟩
  · exact .inl h3
  · exact .inr ⟨g, off, h4, h5, Nat.lt_of_lt_of_le h6 k.size, h7, fun j u e => (k.cell (p := ⟨g, _, none⟩) h6 (fun f => h7 (hS g h6 f))).trans (h8 j u e)⟩
theorem GRow.turn {W : World} {F F' : Nat → Prop} {B n : Nat} {v : Value} {xs : List Value} (h : GRow W F B v n xs) (hF : ∀ i, i < W.heap.size → F' i → F i) : GRow W F' B v n xs := by
  obtain ⟨ao, cap, h1, h2, h9, h3⟩ := h
  refine ⟨ao, cap, h1, h2, h9, ?_⟩
  rcases h3 with h3 | ⟨g, off, h4, h5, h6, h7, h8⟩
  · exact .inl h3
  · exact .inr ⟨g, off, h4, h5, h6, fun f => h7 (hF g h6 f), h8⟩
theorem GRow.move {W W' : World} {F F2 : Nat → Prop} {B n : Nat} {v : Value} {xs : List Value} (h : GRow W F B v n xs) (k : Keep F W W') (hF : ∀ i, F2 i → F i ∨ W.heap.size ≤ i) : GRow W' F2 B v n xs := by
  obtain ⟨ao, cap, h1, h2, h9, h3⟩ := h
  refine ⟨ao, cap, h1, h2, h9, ?_⟩
  rcases h3 with h3 | ⟨g, off, h4, h5, h6, h7, h8⟩
  · exact .inl h3
  · exact .inr ⟨g, off, h4, h5, Nat.lt_of_lt_of_le h6 k.size, fun f => (hF g f).elim h7 (fun e => by omega), fun j u e => (k.cell (p := ⟨g, _, none⟩) h6 h7).trans (h8 j u e)⟩
theorem grow_form {W : World} {F : Nat → Prop} {B n : Nat} {v : Value} {xs : List Value} (h : GRow W F B v n xs) : ∃ ao cap, v = .slice ao n cap := by
  obtain ⟨ao, cap, h1, -⟩ := h
  exact ⟨ao, cap, h1⟩
/-- Ways that are cut, as the model has them. -/
def ways (cs : List (Int × Int)) : List Value := cs.flatMap fun c => [.int .i64 c.1, .int .i64 c.2]
theorem ways_at : ∀ (cs : List (Int × Int)) (j : Nat) (c : Int × Int), cs[j]? = some c → (ways cs)[j * 2]? = some (.int .i64 c.1) ∧ (ways cs)[j * 2 + 1]? = some (.int .i64 c.2)
  | c' :: cs, 0, c, h => by
    have : c' = c := by simpa using h
    subst this
    exact ⟨rfl, rfl⟩
  | c' :: cs, j + 1, c, h => by
    have h2 := ways_at cs j c (by simpa using h)
    have e : ways (c' :: cs) = .int .i64 c'.1 :: .int .i64 c'.2 :: ways cs := rfl
    rw [e, show (j + 1) * 2 = j * 2 + 1 + 1 from by omega]
    simpa using h2
  | [], j, c, h => by simp at h
def offL (cs : List (Int × Int)) (a b : Int) : Bool := cs.any fun c => (c.1 == a && c.2 == b) || (c.1 == b && c.2 == a)
theorem offL_take (cs : List (Int × Int)) (a b : Int) (j : Nat) (c : Int × Int) (h : cs[j]? = some c) : offL (cs.take (j + 1)) a b = (offL (cs.take j) a b || ((c.1 == a && c.2 == b) || (c.1 == b && c.2 == a))) := by
  unfold offL
  rw [List.take_add_one, h, List.any_append]
  simp
theorem offL_more (cs : List (Int × Int)) (a b : Int) (j : Nat) (h : offL (cs.take j) a b = true) : offL cs a b = true := by
  unfold offL at *
  rw [List.any_eq_true] at *
  obtain ⟨c, hc, h2⟩ := h
  exact ⟨c, List.mem_of_mem_take hc, h2⟩

theorem eq_way (x y a b : Int) (w : World) : (Op.equalIn 10000 61 (.agg #[.int .i64 x, .int .i64 y]) (.agg #[.int .i64 a, .int .i64 b])).run Try.prog w = .ok (x == a && y == b) w := by
  obtain ⟨i, hi⟩ : ∃ i, Try.prog.info? 3 = some i := Option.isSome_iff_exists.1 (by kernel_rfl)
  rw [show (10000 : Nat) = 9999 + 1 from rfl, run_equalIn_array w 9999 _ _ Try.underlying61 hi]
  rw [show Try.prog.cellsOf 3 = 1 from by kernel_rfl, show List.range 2 = [0, 1] from rfl]
  have hx := fun p q => run_equalIn_int (P := Try.prog) w 9998 3 .i64 .i64 p q Try.underlying3
  simp [Op.eqItems, go_sem, hx, hi]
  by_cases h1 : x = a
  · by_cases h2 : y = b
    · simp [h1, h2]
    · have : (y == b) = false := beq_eq_false_iff_ne.2 h2
      simp [h1, h2, this]
  · have : (x == a) = false := beq_eq_false_iff_ne.2 h1
    simp [h1, this]
set_option maxHeartbeats 4000000 in
theorem off_m (al : Option Addr) (nl cl : Nat) (ac : Option Addr) (m cc : Nat) (cs : List (Int × Int)) (a b : Int) (w : World) (F : Nat → Prop) (B : Nat) (hm : m = cs.length) (hm9 : m ≤ 1000) (hr : GRow w F B (.slice ac m cc) m (ways cs)) :
    Calls Try.prog 28 #[.agg #[.slice al nl cl, .slice ac m cc], .int .i64 a, .int .i64 b] w fun e w' => e = .returned (.bool (offL cs a b)) ∧ Keep (fun _ => False) w w' := by
  have HR := Lib.hid hr
  have HM := Lib.hid hm
  clear hr hm
  go_enter Try.func28, Try.ntmps28
  go_wp2_with fail
  go_loopw [7] (fun xj wr => ∃ j, j ≤ m ∧ xj = .int .i64 (j : Int) ∧ Hid (offL (cs.take j) a b = false) ∧ wr.cell? ⟨w.heap.size, 1, none⟩ = some (.slice ac m cc) ∧ Hid (Keep (fun _ => False) w wr)) (fun xj wr => m - (intOf xj).toNat)
  case atStart => exact ⟨0, by omega, rfl, Lib.hid (by simp [offL]), (cell_at (block_new w _) 1), Lib.hid ((Keep.refl _ _).alloc _)⟩
  case round =>
    obtain ⟨j, hj, rfl, ho, hc, hk⟩ := hrel
    by_cases hlt : j < m
    · obtain ⟨c, hcj⟩ : ∃ c, cs[j]? = some c := ⟨cs[j]'(by have := HM.out; omega), List.getElem?_eq_getElem _⟩
      obtain ⟨c1, c2⟩ := c
      obtain ⟨a1, cap1, hv, -, -, hm1⟩ := HR.out
      simp only [Value.slice.injEq, true_and] at hv
      obtain ⟨rfl, rfl⟩ := hv
      rcases hm1 with h0 | ⟨g, off, rfl, -, hg, -, hcell⟩
      · omega
      obtain ⟨h1, h2⟩ := ways_at cs j (c1, c2) hcj
      have y0 : wr.cell? ⟨g, off + j * 2, none⟩ = some (.int .i64 c1) := (hk.out.cell (p := ⟨g, _, none⟩) hg (fun e => e)).trans (hcell _ _ h1)
      have y1 : wr.cell? ⟨g, off + j * 2 + 1, none⟩ = some (.int .i64 c2) := (hk.out.cell (p := ⟨g, _, none⟩) hg (fun e => e)).trans (by have := hcell _ _ h2; simpa [Nat.add_assoc] using this)
      have hst := offL_take cs a b j (c1, c2) hcj
      rw [ho.out, Bool.false_or] at hst
      have HST := Lib.hid hst
      clear hst h1 h2 hcell hcj
      have e1 := eq_way c1 c2 a b
      have e2 := eq_way c1 c2 b a
      cases hq1 : (c1 == a && c2 == b) with
      | true =>
        rw [hq1] at e1
        have hall : offL cs a b = true := by
          refine offL_more cs a b (j + 1) ?_
          rw [HST.out]
          show ((c1 == a && c2 == b) || (c1 == b && c2 == a)) = true
          rw [hq1]; rfl
        have HALL := Lib.hid hall
        clear hall hq1 e2
        go_wp2_with fail
        go_ret
        exact ⟨by rw [HALL.out]; rfl, hk.out⟩
      | false =>
        cases hq2 : (c1 == b && c2 == a) with
        | true =>
          rw [hq1] at e1
          rw [hq2] at e2
          have hall : offL cs a b = true := by
            refine offL_more cs a b (j + 1) ?_
            rw [HST.out]
            show ((c1 == a && c2 == b) || (c1 == b && c2 == a)) = true
            rw [hq2, Bool.or_true]
          have HALL := Lib.hid hall
          clear hall hq1 hq2
          go_wp2_with fail
          go_ret
          exact ⟨by rw [HALL.out]; rfl, hk.out⟩
        | false =>
          rw [hq1] at e1
          rw [hq2] at e2
          have hnx : offL (cs.take (j + 1)) a b = false := by
            rw [HST.out]
            show ((c1 == a && c2 == b) || (c1 == b && c2 == a)) = false
            rw [hq1, hq2]; rfl
          have HNX := Lib.hid hnx
          clear hnx hq1 hq2
          go_wp2_with fail
          go_roundw
          case rel => exact ⟨j + 1, by omega, by go_num, HNX, hc, hk⟩
          case measure => simp [intOf]; omega
    · obtain rfl : j = m := by omega
      have hfin : offL cs a b = false := by have := ho.out; rwa [show j = cs.length from HM.out, List.take_length] at this
      have HFIN := Lib.hid hfin
      clear hfin
      go_wp2_with fail
      go_ret
      exact ⟨by rw [HFIN.out]; rfl, hk.out⟩

end Go.Proofs.Ytdmdegjomikmlaa.NetY
