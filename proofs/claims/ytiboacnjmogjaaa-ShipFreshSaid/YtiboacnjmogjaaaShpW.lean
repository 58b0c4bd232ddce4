/-
  Layer 19 (ship): a link in memory, and what its functions do.
-/
import Derived.Test.YtiboacnjmogjaaaShpL
import Derived.Test.YtiboacnjmogjaaaMem2
namespace Go.Proofs.Ytiboacnjmogjaaa.ShpW
set_option linter.unusedVariables false
set_option linter.unusedSimpArgs false
open Go.RowKit Go.Proofs.Ytiboacnjmogjaaa.Mem Go.Proofs.Ytiboacnjmogjaaa.LogW Go.Proofs.Ytiboacnjmogjaaa.LogV Go.Proofs.Ytiboacnjmogjaaa.LogU Go.Proofs.Ytiboacnjmogjaaa.LogL

abbrev TK : Nat := 53
/-- A link. -/
def KAt (w : World) (b : Nat) (acked sent since : Nat) : Prop := w.heap[b]? = some (.cells #[.int .u64 acked, .int .u64 sent, .int .i64 since] TK (0, 0))
theorem KAt.lt {w : World} {b a s t : Nat} (h : KAt w b a s t) : b < w.heap.size := lt_of_block h
theorem KAt.keep {w w' : World} {S : Nat → Prop} {b a s t : Nat} (h : KAt w b a s t) (k : Keep S w w') (hb : ¬ S b) : KAt w' b a s t := (k.block b h.lt hb).trans h
/-- Records that are numbered from 1 on. -/
def Num (rs : List Rec) : Prop := ∀ (i : Nat) (r : Rec), rs[i]? = some r → r.seq = (i : Int) + 1

theorem RowAt.mono {w : World} {F F' : Nat → Prop} {v : Value} {rs : List Rec} (h : RowAt w F v rs) (h1 : ∀ k, F k → F' k) (h2 : ∀ k, F' k → k < w.heap.size) : RowAt w F' v rs :=
  ⟨h.1, fun k e => h1 k (h.2.1 k e), h2⟩
theorem size_set (w : World) (p : Addr) (u : Value) : (w.setCell p u).heap.size = w.heap.size := by simp [World.setCell]

theorem new_any (a : Nat) (w : World) :
    Calls Try.prog 9 #[.int .u64 a] w fun e w' => e = .returned (.pointer (some ⟨w.heap.size, 0, none⟩)) ∧ KAt w' w.heap.size a a 0 ∧ Keep (fun _ => False) w w' := by
  go_enter Try.func9, Try.ntmps9
  go_wp2_with fail
  go_ret
  exact ⟨rfl, block_new w _, (Keep.refl _ _).alloc _⟩

theorem acked_at (b a s t : Nat) (w : World) (h : KAt w b a s t) :
    Calls Try.prog 14 #[.pointer (some ⟨b, 0, none⟩)] w fun e w' => e = .returned (.int .u64 a) ∧ w = w' := by
  have c0 : w.cell? ⟨b, 0, none⟩ = some (.int .u64 a) := cell_at h 0
  clear h
  go_enter Try.func14, Try.ntmps14
  go_wp2_with fail
  go_ret
  exact ⟨rfl, rfl⟩

theorem nil_acked (w : World) : Calls Try.prog 14 #[.pointer none] w fun e w' => e = .returned (.int .u64 0) ∧ w = w' := by
  go_enter Try.func14, Try.ntmps14
  go_wp2_with fail
  go_ret
  exact ⟨rfl, rfl⟩
theorem nil_more (l : Value) (w : World) : Calls Try.prog 11 #[.pointer none, l] w fun e w' => e = .returned (.tuple #[.slice none 0 0, .bool false]) ∧ w = w' := by
  go_enter Try.func11, Try.ntmps11
  go_wp2_with fail
  go_ret2
  exact ⟨rfl, rfl⟩
theorem nil_tick (l : Value) (w : World) : Calls Try.prog 12 #[.pointer none, l] w fun e w' => e = .returned (.tuple #[.slice none 0 0, .bool false]) ∧ w = w' := by
  go_enter Try.func12, Try.ntmps12
  go_wp2_with fail
  go_ret2
  exact ⟨rfl, rfl⟩
theorem nil_ack (s : Int) (l : Value) (w : World) : Calls Try.prog 13 #[.pointer none, .int .u64 s, l] w fun e w' => e = .returned (.bool false) ∧ w = w' := by
  go_enter Try.func13, Try.ntmps13
  go_wp2_with fail
  go_ret
  exact ⟨rfl, rfl⟩

section
variable {w : World} {F : Nat → Prop} {b lb most a s t : Nat} {rs : List Rec}

theorem ack_low (hk : KAt w b a s t) (l : Value) (q : Nat) (hq : q ≤ a) :
    Calls Try.prog 13 #[.pointer (some ⟨b, 0, none⟩), .int .u64 q, l] w fun e w' => e = .returned (.bool false) ∧ w = w' := by
  have c0 : w.cell? ⟨b, 0, none⟩ = some (.int .u64 a) := cell_at hk 0
  clear hk
  have d1 : decide ((q : Int) ≤ (a : Int)) = true := decide_eq_true (by omega)
  go_enter Try.func13, Try.ntmps13
  go_wp2_with fail
  go_ret
  exact ⟨rfl, rfl⟩

theorem ack_high (hk : KAt w b a s t) (hl : LogAt w F lb most 0 rs) (q : Nat) (h1 : a < q) (h2 : rs.length < q) (hn : rs.length ≤ 4611686018427387904) :
    Calls Try.prog 13 #[.pointer (some ⟨b, 0, none⟩), .int .u64 q, .pointer (some ⟨lb, 0, none⟩)] w fun e w' => e = .returned (.bool false) ∧ ∃ m, w' = w.drewN m := by
  have c0 : w.cell? ⟨b, 0, none⟩ = some (.int .u64 a) := cell_at hk 0
  have C := last_of hl (by omega) hn
  rw [show ((0 : Nat) : Int) + (rs.length : Int) = (rs.length : Int) from by omega] at C
  replace C := Lib.hid C
  clear hk hl
  generalize rs.length = n at *
  have d1 : decide ((q : Int) ≤ (a : Int)) = false := decide_eq_false (by omega)
  have d2 : decide ((n : Int) < (q : Int)) = true := decide_eq_true (by omega)
  have d2' : decide ((q : Int) > (n : Int)) = true := d2
  go_enter Try.func13, Try.ntmps13
  go_wp2_with fail
  refine C.out.mono ?_
  rintro e w1 ⟨rfl, m, rfl⟩
  go_wp2_with fail
  go_ret
  exact ⟨rfl, m, rfl⟩

theorem ack_yes (hk : KAt w b a s t) (hl : LogAt w F lb most 0 rs) (q : Nat) (h1 : a < q) (h2 : q ≤ rs.length) (hn : rs.length ≤ 4611686018427387904) :
    Calls Try.prog 13 #[.pointer (some ⟨b, 0, none⟩), .int .u64 q, .pointer (some ⟨lb, 0, none⟩)] w fun e w' => e = .returned (.bool true) ∧ KAt w' b q (max s q) 0 ∧ Keep (· = b) w w' := by
  have c0 : w.cell? ⟨b, 0, none⟩ = some (.int .u64 a) := cell_at hk 0
  have c1 : w.cell? ⟨b, 1, none⟩ = some (.int .u64 s) := cell_at hk 1
  have c2 : w.cell? ⟨b, 2, none⟩ = some (.int .i64 t) := cell_at hk 2
  have f : ∀ i, w.frozen? ⟨b, i, none⟩ = false := fun i => free_at hk i
  have C := last_of hl (by omega) hn
  rw [show ((0 : Nat) : Int) + (rs.length : Int) = (rs.length : Int) from by omega] at C
  replace C := Lib.hid C
  have H := Lib.hid hk
  clear hk hl
  generalize rs.length = n at *
  have d1 : decide ((q : Int) ≤ (a : Int)) = false := decide_eq_false (by omega)
  have d2 : decide ((n : Int) < (q : Int)) = false := decide_eq_false (by omega)
  have d2' : decide ((q : Int) > (n : Int)) = false := d2
  go_enter Try.func13, Try.ntmps13
  go_wp2_with fail
  refine C.out.mono ?_
  rintro e w1 ⟨rfl, m, rfl⟩
  by_cases hc : s < q
  · have hm : max s q = q := by omega
    have hh : (s : Int) < (q : Int) := by omega
    have h2 : ¬ (q : Int) ≤ (s : Int) := by omega
    replace hm := Lib.hid hm
    clear hc
    go_wp2_with fail
    go_ret
    exact ⟨rfl, by rw [hm.out]; exact (block_set (block_set (block_set (block_drewN H.out m) 0 _) 2 _) 1 _).trans rfl, ((((Keep.refl _ w).drewN m).set1 _ _).set1 _ _).set1 _ _⟩
  · have hm : max s q = s := by omega
    have hh : ¬ (s : Int) < (q : Int) := by omega
    have h2 : (q : Int) ≤ (s : Int) := by omega
    replace hm := Lib.hid hm
    clear hc
    go_wp2_with fail
    go_ret
    exact ⟨rfl, by rw [hm.out]; exact (block_set (block_set (block_set (block_drewN H.out m) 0 _) 2 _) 1 _).trans rfl, ((((Keep.refl _ w).drewN m).set1 _ _).set1 _ _).set1 _ _⟩

/-- The records that are sent, behind d of them. -/
def batch (rs : List Rec) (d : Nat) : List Rec := (rs.drop d).take (min (rs.length - d) 16)

theorem more_any (hk : KAt w b a s t) (hl : LogAt w F lb most 0 rs) (hd : s ≤ rs.length) (hn : rs.length ≤ 256) (hseq : Num rs) (hF : ¬ F b) :
    Calls Try.prog 11 #[.pointer (some ⟨b, 0, none⟩), .pointer (some ⟨lb, 0, none⟩)] w fun e w' => ∃ v', e = .returned (.tuple #[v', .bool (decide (s < rs.length))]) ∧
      RowAt w' (fun k => w.heap.size ≤ k ∧ k < w'.heap.size) v' (batch rs s) ∧ KAt w' b a (s + min (rs.length - s) 16) t ∧ Keep (· = b) w w' := by
  have hlt := hk.lt
  have c1 : w.cell? ⟨b, 1, none⟩ = some (.int .u64 s) := cell_at hk 1
  obtain ⟨m, hm⟩ : ∃ m, m = min (rs.length - s) 16 := ⟨_, rfl⟩
  have C := from_yes hl s m 16 (by omega) hn hd (by omega)
  rw [show ((0 : Nat) : Int) + (s : Int) = (s : Int) from by omega] at C
  have hlen : ((rs.drop s).take m).length = m := by rw [List.length_take, List.length_drop]; omega
  have hlast : 0 < m → ((rs.drop s).take m)[m - 1]? = rs[s + (m - 1)]? := fun h => by
    rw [List.getElem?_take, if_pos (by omega), List.getElem?_drop]
  have hb : batch rs s = (rs.drop s).take m := by unfold batch; rw [hm]
  rw [hb, ← hm]
  have Hl := Lib.hid hlen
  have HL := Lib.hid hlast
  replace C := Lib.hid C
  have H := Lib.hid hk
  replace hm := Lib.hid hm
  clear hb hk hl hlen hlast
  go_enter Try.func11, Try.ntmps11
  go_wp2_with fail
  refine C.out.mono ?_
  rintro e w1 ⟨v', rfl, r, k⟩
  have H1 : KAt w1 b a s t := H.out.keep k (fun e => e)
  have K1 := Lib.hid k
  clear k
  by_cases hz : s < rs.length
  · have hm1 : 1 ≤ m := by have := hm.out; omega
    have hm16 : m ≤ 16 := by have := hm.out; omega
    have hm1' : (1 : Int) ≤ (m : Int) := by omega
    obtain ⟨ao, cap, rfl, h | ⟨g, cur, rfl, hFg, hg, ht⟩⟩ := RowAt.form r
    · have := congrArg List.length h; rw [Hl.out] at this; simp at this; omega
    have R := Lib.hid r
    clear r
    rw [Hl.out] at R ht ⊢
    have hr : ∃ r, rs[s + (m - 1)]? = some r := ⟨rs[s + (m - 1)]'(by have := hm.out; omega), List.getElem?_eq_getElem _⟩
    obtain ⟨r, hr⟩ := hr
    have hs := hseq _ _ hr
    have x0 := rec_cell hg ht (i := m - 1) (r := r) ((HL.out (by omega)).trans hr) 0 (by omega)
    have x0' : w1.cell? ⟨g, (m - 1) * 9, none⟩ = some (.int .u64 ((s : Int) + m)) := by
      have e : (r.seq : Int) = (s : Int) + m := by rw [hs]; omega
      rw [← e]; exact x0
    have hcast : ((m : Int) - 1).toNat = m - 1 := by omega
    have hmz : ((m : Int) == 0) = false := by rw [beq_eq_false_iff_ne]; omega
    have dz : decide (s < rs.length) = true := decide_eq_true hz
    have f : w1.frozen? ⟨b, 1, none⟩ = false := free_at H1 1
    have c1' : w1.cell? ⟨b, 1, none⟩ = some (.int .u64 s) := cell_at H1 1
    have hp : ((s + m : Nat) : Int) = (s : Int) + m := by omega
    have fin : KAt (w1.setCell ⟨b, 1, none⟩ (.int .u64 ((s : Int) + m))) b a (s + m) t := by
      unfold KAt; rw [hp]; exact (block_set H1 1 _).trans rfl
    have hgb : ¬ b = g := by omega
    have finR : RowAt (w1.setCell ⟨b, 1, none⟩ (.int .u64 ((s : Int) + m))) (fun k => w.heap.size ≤ k ∧ k < (w1.setCell ⟨b, 1, none⟩ (.int .u64 ((s : Int) + m))).heap.size) (.slice (some ⟨g, 0, none⟩) m cap) ((rs.drop s).take m) :=
      RowAt.mono (RowAt.keep (F := fun k => w.heap.size ≤ k ∧ k < w1.heap.size) R.out ((Keep.refl (fun k => k = b) w1).set1 _ _) (fun k hk e => by omega)) (fun k hk => ⟨hk.1, by rw [size_set]; exact hk.2⟩) (fun k hk => hk.2)
    have finK : Keep (· = b) w (w1.setCell ⟨b, 1, none⟩ (.int .u64 ((s : Int) + m))) := K1.out.to1.set1 _ _
    replace dz := Lib.hid dz
    replace fin := Lib.hid fin
    replace finR := Lib.hid finR
    replace finK := Lib.hid finK
    clear hg ht x0 hs hr hp c1 hseq R K1 H1
    go_wp2_with fail
    go_ret2
    exact ⟨_, by rw [dz.out]; rfl, finR.out, fin.out, finK.out⟩
  · have hm0 : m = 0 := by have := hm.out; omega
    have dz : decide (s < rs.length) = false := decide_eq_false hz
    obtain ⟨ao, cap, rfl, -⟩ := RowAt.form r
    have hnil : (rs.drop s).take m = [] := by rw [hm0]; simp
    rw [Hl.out]
    replace dz := Lib.hid dz
    replace hnil := Lib.hid hnil
    subst hm0
    clear c1
    go_wp2_with fail
    go_ret2
    exact ⟨_, by rw [dz.out]; rfl, by rw [hnil.out]; exact ⟨World.ownsRow_nil _ _ _ _, fun k hk => by simp [Value.ownBlock] at hk, fun k hk => hk.2⟩, H1, K1.out.to1⟩

theorem tick_no (hk : KAt w b a s t) (l : Value) (ht : t < 2) :
    Calls Try.prog 12 #[.pointer (some ⟨b, 0, none⟩), l] w fun e w' => e = .returned (.tuple #[.slice none 0 0, .bool false]) ∧ KAt w' b a s (t + 1) ∧ Keep (· = b) w w' := by
  have c2 : w.cell? ⟨b, 2, none⟩ = some (.int .i64 t) := cell_at hk 2
  have f : ∀ i, w.frozen? ⟨b, i, none⟩ = false := fun i => free_at hk i
  have hlt := hk.lt
  have H := Lib.hid hk
  clear hk
  have h1 : (t : Int) + 1 < 3 := by omega
  have hp : ((t + 1 : Nat) : Int) = (t : Int) + 1 := by omega
  go_enter Try.func12, Try.ntmps12
  go_wp2_with fail
  go_ret2
  exact ⟨rfl, by unfold KAt; rw [hp]; exact (block_set H.out 2 _).trans rfl, (Keep.refl _ w).set1 _ _⟩

theorem tick_yes (hk : KAt w b a s t) (hl : LogAt w F lb most 0 rs) (ht : t = 2) (ha : a ≤ rs.length) (hn : rs.length ≤ 256) (hseq : Num rs) (hF : ¬ F b) :
    Calls Try.prog 12 #[.pointer (some ⟨b, 0, none⟩), .pointer (some ⟨lb, 0, none⟩)] w fun e w' => ∃ v', e = .returned (.tuple #[v', .bool true]) ∧
      RowAt w' (fun k => w.heap.size ≤ k ∧ k < w'.heap.size) v' (batch rs a) ∧ KAt w' b a (a + min (rs.length - a) 16) 0 ∧ Keep (· = b) w w' := by
  subst ht
  have c0 : w.cell? ⟨b, 0, none⟩ = some (.int .u64 a) := cell_at hk 0
  have c1 : w.cell? ⟨b, 1, none⟩ = some (.int .u64 s) := cell_at hk 1
  have c2 : w.cell? ⟨b, 2, none⟩ = some (.int .i64 2) := cell_at hk 2
  have f : ∀ i, w.frozen? ⟨b, i, none⟩ = false := fun i => free_at hk i
  have hlt := hk.lt
  have H := Lib.hid hk
  have HL := Lib.hid hl
  clear hk hl
  go_enter Try.func12, Try.ntmps12
  go_wp2_with fail
  have fin : KAt ((((w.setCell ⟨b, 2, none⟩ (.int .i64 3)).setCell ⟨b, 2, none⟩ (.int .i64 0)).setCell ⟨b, 1, none⟩ (.int .u64 a))) b a a 0 := (block_set (block_set (block_set H.out 2 _) 2 _) 1 _).trans rfl
  have kk : Keep (fun k => k = b) w ((((w.setCell ⟨b, 2, none⟩ (.int .i64 3)).setCell ⟨b, 2, none⟩ (.int .i64 0)).setCell ⟨b, 1, none⟩ (.int .u64 a))) := (((Keep.refl _ w).set1 _ _).set1 _ _).set1 _ _
  have hsz : ((((w.setCell ⟨b, 2, none⟩ (.int .i64 3)).setCell ⟨b, 2, none⟩ (.int .i64 0)).setCell ⟨b, 1, none⟩ (.int .u64 a))).heap.size = w.heap.size := by rw [size_set, size_set, size_set]
  have hl' := HL.out.keep kk (fun k hk e => hF (e ▸ hk))
  refine (more_any fin hl' ha hn hseq hF).mono ?_
  rintro e w1 ⟨v', rfl, r, k1, k2⟩
  rw [hsz] at r
  have R := Lib.hid r
  have K2 := Lib.hid (kk.trans k2)
  have F1 := Lib.hid k1
  clear fin kk hsz hl' r k1 k2 c0 c1 c2 f
  go_wp2_with fail
  go_ret2
  exact ⟨v', rfl, R.out, F1.out, K2.out⟩

end
end Go.Proofs.Ytiboacnjmogjaaa.ShpW
