/-
  Layer 22 (net): packets in memory, a network, its small functions.
-/
import Derived.Test.YtdmdegjomikmlaaNetM
import Derived.Deep.MidRow
import Derived.Deep.AppendLies
import Derived.Deep.RegionLaw
import Derived.Deep.RegionHeld3
import Derived.Deep.QuietTactic
import Derived.BigQuiet
import Derived.WalkSpells
import Derived.WalkLawsBesides
import Derived.IntWalk
namespace Go.Proofs.Ytdmdegjomikmlaa.NetW
set_option linter.unusedVariables false
set_option linter.unusedSimpArgs false
open Go.RowKit Go.Proofs.Ytdmdegjomikmlaa.Mem Go.Proofs.Ytdmdegjomikmlaa.NetM

abbrev TN : TypeId := 50
abbrev TP : TypeId := 27
/-- A packet. -/
structure Pk where
  fr : Int
  to_ : Int
  s : ByteArray
  sp : Bool
def Pk.cells (x : Pk) : List Value := [.int .i64 x.fr, .int .i64 x.to_, .string x.s, .bool x.sp]
def Pk.agg (x : Pk) : Value := .agg x.cells.toArray
def Pk.Ok (x : Pk) : Prop := (Lit.int .i64 x.fr).wf = true ∧ (Lit.int .i64 x.to_).wf = true ∧ x.s.size ≤ 9223372036854775807
def flat (ps : List Pk) : List Value := ps.flatMap Pk.cells
theorem flat_length (ps : List Pk) : (flat ps).length = ps.length * 4 := by
  induction ps with
  | nil => rfl
  | cons r rs ih => unfold flat at *; rw [List.flatMap_cons, List.length_append, ih]; simp [Pk.cells]; omega
theorem flat_append (a b : List Pk) : flat (a ++ b) = flat a ++ flat b := by unfold flat; simp
theorem flat_one (r : Pk) : flat [r] = r.cells := by simp [flat]
theorem flat_at (ps : List Pk) : ∀ (i j : Nat) (r : Pk), ps[i]? = some r → j < 4 → (flat ps)[i * 4 + j]? = r.cells[j]? := by
  induction ps with
  | nil => intro i j r h; simp at h
  | cons a rs ih =>
    intro i j r h hj
    show (a.cells ++ flat rs)[i * 4 + j]? = _
    cases i with
    | zero =>
      simp at h
      subst h
      rw [Nat.zero_mul, Nat.zero_add, List.getElem?_append_left (by simp [Pk.cells]; omega)]
    | succ i =>
      simp at h
      rw [List.getElem?_append_right (by simp [Pk.cells]; omega), show (i + 1) * 4 + j - a.cells.length = i * 4 + j by simp [Pk.cells]; omega]
      exact ih i j r h hj
theorem flat_one_cell (ps : List Pk) : ∀ u ∈ flat ps, u.oneCell' = true := by
  intro u hu
  simp only [flat, List.mem_flatMap] at hu
  obtain ⟨r, _, hr⟩ := hu
  simp [Pk.cells] at hr
  rcases hr with rfl | rfl | rfl | rfl <;> rfl

theorem infoPk : (Try.prog.info? 27).map (fun i => (i.zero, i.size, i.bytes)) = some (some (.agg #[.int .i64 0, .int .i64 0, .string ⟨#[]⟩, .bool false]), 4, 40) := by kernel_rfl
theorem infoPk4 : (Try.prog.info? 27).map (·.size) = some 4 := by kernel_rfl

theorem loadAt_ptr (ty : TypeId) (p : Addr) (w : World) : (Instr.loadAt ty (.pointer (some p))).run Try.prog w = (loadVar ty p).run Try.prog w := by
  simp only [Instr.loadAt, Instr.sureAddr, Sem.run_bind, Sem.run_pure, Result.andThen_ok]
theorem lv_int (p : Addr) (w : World) : (loadVar 3 p).run Try.prog w = (load p).run Try.prog w := by simp [loadVar, go_sem]
theorem lv_bool (p : Addr) (w : World) : (loadVar 4 p).run Try.prog w = (load p).run Try.prog w := by simp [loadVar, go_sem]
theorem lv_string (p : Addr) (w : World) : (loadVar 9 p).run Try.prog w = (load p).run Try.prog w := by simp [loadVar, go_sem]
theorem lv_u8 (p : Addr) (w : World) : (loadVar 5 p).run Try.prog w = (load p).run Try.prog w := by simp [loadVar, go_sem]
theorem lv_ps (p : Addr) (w : World) : (loadVar 32 p).run Try.prog w = (load p).run Try.prog w := by simp [loadVar, go_sem]
theorem lv_map (p : Addr) (w : World) : (loadVar 48 p).run Try.prog w = (load p).run Try.prog w := by simp [loadVar, go_sem]
theorem load_pk (w : World) (g o : Nat) (r : Pk) (h : ∀ j, j < 4 → w.cell? ⟨g, o + j, none⟩ = r.cells[j]?) : (loadVar 27 ⟨g, o, none⟩).run Try.prog w = .ok (.agg #[.int .i64 r.fr, .int .i64 r.to_, .string r.s, .bool r.sp]) w :=
  run_loadVar_mid w g o 27 r.cells _ (fun j v hj => by
    have hl : j < 4 := by have := (List.getElem?_eq_some_iff.1 hj).1; simpa [Pk.cells] using this
    rw [h j hl]; exact hj) Try.underlying27 rfl infoPk4
theorem load_new (w : World) (r : Pk) : (loadVar 27 ⟨w.heap.size, 0, none⟩).run Try.prog (w.alloc (.cells #[.int .i64 r.fr, .int .i64 r.to_, .string r.s, .bool r.sp] 27)) = .ok (.agg #[.int .i64 r.fr, .int .i64 r.to_, .string r.s, .bool r.sp]) (w.alloc (.cells #[.int .i64 r.fr, .int .i64 r.to_, .string r.s, .bool r.sp] 27)) :=
  load_pk _ _ 0 r (fun j hj => by rw [Nat.zero_add, cell_at (block_new w _) j]; simp [Pk.cells])

/-- A network: its packets, the ways that are cut. -/
structure NetAt (w : World) (F : Nat → Prop) (b : Nat) (ps : List Pk) (n : Nat) (S : Int → Int → Bool) (v : Value) (mb : Nat) : Prop where
  h : w.heap[b]? = some (.cells #[v, .map (some mb)] TN (0, 0))
  o : w.ownsRow 0 TP 4 v ps.length (flat ps)
  c : Cuts w mb n S
  nb : v.ownBlock ≠ some b
  fb : F b
  fm : F mb
  fo : ∀ k, v.ownBlock = some k → F k
  ok : ∀ p ∈ ps, p.Ok

theorem NetAt.keep {w w' : World} {F K : Nat → Prop} {b n mb : Nat} {ps : List Pk} {S : Int → Int → Bool} {v : Value} (h : NetAt w F b ps n S v mb) (k : Keep K w w') (hd : ∀ i, F i → ¬ K i) : NetAt w' F b ps n S v mb :=
  ⟨(k.block b (lt_of_block h.h) (hd b h.fb)).trans h.h, owns_keep h.o k (fun i e => hd i (h.fo i e)), h.c.keep k (hd mb h.fm), h.nb, h.fb, h.fm, h.fo, h.ok⟩
theorem NetAt.keep0 {w w' : World} {F : Nat → Prop} {b n mb : Nat} {ps : List Pk} {S : Int → Int → Bool} {v : Value} (h : NetAt w F b ps n S v mb) (k : Keep (fun _ => False) w w') : NetAt w' F b ps n S v mb := h.keep k (fun _ _ e => e)

theorem new_any (w : World) :
    Calls Try.prog 9 #[] w fun e w' => ∃ b mb, e = .returned (.pointer (some ⟨b, 0, none⟩)) ∧ NetAt w' (fun k => w.heap.size ≤ k) b [] 0 (fun _ _ => false) (.slice none 0 0) mb ∧ Keep (fun _ => False) w w' := by
  have hmm := @run_makeMap Try.prog
  have hc := Cuts.made w
  have hk := (Keep.refl (fun _ => False) w).alloc (.map #[] 0)
  replace hc := Lib.hid hc
  replace hk := Lib.hid hk
  go_enter Try.func9, Try.ntmps9
  go_wp2_with fail
  go_ret
  refine ⟨_, _, rfl, ⟨block_new_at (by simp), World.ownsRow_nil _ _ _ _, hc.out.keep ((Keep.refl (fun _ => False) _).alloc _) (fun e => e), by simp [Value.ownBlock], by simp, Nat.le_refl _, fun k hk => by simp [Value.ownBlock] at hk, by simp⟩, hk.out.alloc _⟩

theorem both_any (a b : Int) (w : World) :
    Calls Try.prog 20 #[.int .i64 a, .int .i64 b] w fun e w' => e = .returned (.agg #[.int .i64 (min a b), .int .i64 (max a b)]) ∧ Below w.heap.size w w' := by
  have bw : ∀ o, Below w.heap.size w (w.alloc o) := fun o => (Below.refl _ w).alloc (Nat.le_refl _) o
  rcases Int.lt_trichotomy a b with h | h | h
  · have h1 : min a b = a := by omega
    have h2 : max a b = b := by omega
    rw [h1, h2]
    clear h1 h2
    have h3 : ¬ b < a := by omega
    have h4 : ¬ b ≤ a := by omega
    have h5 : a ≤ b := by omega
    go_enter Try.func20, Try.ntmps20
    go_wp2_with fail
    all_goals exact bodyPost_ret (v := .agg #[.int .i64 a, .int .i64 b]) (by simp [results, Try.results20, go_sem]) rfl ⟨rfl, bw _⟩
  · subst h
    have h1 : min a a = a := by omega
    have h2 : max a a = a := by omega
    rw [h1, h2]
    clear h1 h2
    go_enter Try.func20, Try.ntmps20
    go_wp2_with fail
    all_goals exact bodyPost_ret (v := .agg #[.int .i64 a, .int .i64 a]) (by simp [results, Try.results20, go_sem]) rfl ⟨rfl, bw _⟩
  · have h1 : min a b = b := by omega
    have h2 : max a b = a := by omega
    rw [h1, h2]
    clear h1 h2
    have h3 : ¬ a < b := by omega
    have h4 : ¬ a ≤ b := by omega
    have h5 : b ≤ a := by omega
    go_enter Try.func20, Try.ntmps20
    go_wp2_with fail
    all_goals exact bodyPost_ret (v := .agg #[.int .i64 b, .int .i64 a]) (by simp [results, Try.results20, go_sem]) rfl ⟨rfl, bw _⟩

attribute [-go_sem] Instr.loadAt loadVar
attribute [local go_sem] loadAt_ptr lv_int lv_bool lv_string lv_u8 lv_ps lv_map

/-- How many packets are under way from a to b. -/
def cnt (a b : Int) (ps : List Pk) : Nat := (ps.filter fun p => p.fr == a && p.to_ == b).length
theorem cnt_le (a b : Int) (ps : List Pk) : cnt a b ps ≤ ps.length := List.length_filter_le _ _
theorem cnt_snoc (a b : Int) (ps : List Pk) (p : Pk) : cnt a b (ps ++ [p]) = cnt a b ps + if p.fr == a && p.to_ == b then 1 else 0 := by
  unfold cnt
  rw [List.filter_append]
  cases h : (p.fr == a && p.to_ == b) <;> simp [List.filter_cons, h]
theorem take_snoc' {α : Type} (l : List α) (k : Nat) (x : α) (h : l[k]? = some x) : l.take (k + 1) = l.take k ++ [x] := by
  rw [List.take_add_one, h]; rfl
/-- The cells of a row of packets. -/
theorem row_cells {w : World} {base g : Nat} {v : Value} {ps : List Pk} (h : w.ownsRow base TP 4 v ps.length (flat ps)) (hne : ps ≠ []) : ∃ g cap, v = .slice (some ⟨g, 0, none⟩) ps.length cap ∧ g < w.heap.size ∧ base ≤ g ∧ ∀ i p, ps[i]? = some p → ∀ j, j < 4 → w.cell? ⟨g, i * 4 + j, none⟩ = p.cells[j]? := by
  rcases h.2 with ⟨-, h0⟩ | ⟨g, cap, cur, hv, hb, hg, -, -, -, ht⟩
  · exact absurd (List.length_eq_zero_iff.1 h0) hne
  · refine ⟨g, cap, hv, lt_of_block hg, hb, fun i p hp j hj => ?_⟩
    have h1 := flat_at ps i j p hp hj
    rw [← ht, List.getElem?_take] at h1
    rw [cell_at hg]
    split at h1
    · rw [← h1]; simp
    · have : j < p.cells.length := by simp [Pk.cells]; omega
      rw [List.getElem?_eq_getElem this] at h1; cases h1

set_option maxHeartbeats 1000000 in
theorem count_at {w : World} {F : Nat → Prop} {b n mb : Nat} {ps : List Pk} {S : Int → Int → Bool} {v : Value} (h : NetAt w F b ps n S v mb) (x y : Int) (hn : ps.length ≤ 1000000) :
    Calls Try.prog 21 #[.pointer (some ⟨b, 0, none⟩), .int .i64 x, .int .i64 y] w fun e w' => e = .returned (.int .i64 (cnt x y ps)) ∧ Below w.heap.size w w' := by
  obtain ⟨ao, cap, hv⟩ := owns_slice h.o
  subst hv
  have c0 : w.cell? ⟨b, 0, none⟩ = some (.slice ao ps.length cap) := cell_at h.h 0
  have H := Lib.hid h
  clear h
  obtain ⟨m, hm⟩ : ∃ m, m = ps.length := ⟨_, rfl⟩
  rw [← hm] at c0 hn
  replace hm := Lib.hid hm
  go_enter Try.func21, Try.ntmps21
  go_wp2_with fail
  go_loopw [7, 15] (fun xk xi wr => ∃ k c : Nat, k ≤ m ∧ c ≤ k ∧ Hid (c = cnt x y (ps.take k)) ∧ xi = .int .i64 k ∧ xk = .int .i64 c ∧ Below w.heap.size w wr) (fun xk xi wr => m - (intOf xi).toNat)
  case atStart => exact ⟨0, 0, by omega, by omega, Lib.hid rfl, rfl, rfl, Below.refl _ _⟩
  case round =>
    obtain ⟨k, c, hk, hck, hc, rfl, rfl, hb⟩ := hrel
    by_cases hlt : k < m
    · have hne : ps ≠ [] := by intro e; have := hm.out; rw [e] at this; simp at this; omega
      obtain ⟨g, cap', hv, hg, -, hcell⟩ := row_cells (g := 0) H.out.o hne
      simp only [Value.slice.injEq] at hv
      obtain ⟨rfl, -, rfl⟩ := hv
      obtain ⟨p, hp⟩ : ∃ p, ps[k]? = some p := ⟨ps[k]'(by have := hm.out; omega), List.getElem?_eq_getElem _⟩
      have ld := load_pk wr g (k * 4) p (fun j hj => (hb.cell (p := ⟨g, _, none⟩) hg).trans (hcell k p hp j hj))
      have hcs := cnt_snoc x y (ps.take k) p
      rw [← take_snoc' ps k p hp, ← hc.out] at hcs
      obtain ⟨fr, to_, s, sp⟩ := p
      simp only at ld hcs
      have Hcs := Lib.hid hcs
      have Hb := Lib.hid (hb.alloc hb.size (.cells #[.int .i64 fr, .int .i64 to_, .string s, .bool sp] TP))
      clear hne hg hcell hp hcs hb c0
      cases h1 : (fr == x)
      · go_wp2_with fail
        go_roundw
        case rel => exact ⟨k + 1, c, by omega, by omega, Lib.hid (by rw [Hcs.out, h1]; rfl), by go_num, rfl, Hb.out⟩
        case measure => simp [intOf]; omega
      · cases h2 : (to_ == y)
        · go_wp2_with fail
          go_roundw
          case rel => exact ⟨k + 1, c, by omega, by omega, Lib.hid (by rw [Hcs.out, h1, h2]; rfl), by go_num, rfl, Hb.out⟩
          case measure => simp [intOf]; omega
        · go_wp2_with fail
          go_roundw
          case rel => exact ⟨k + 1, c + 1, by omega, by omega, Lib.hid (by rw [Hcs.out, h1, h2]; rfl), by go_num, by go_num, Hb.out⟩
          case measure => simp [intOf]; omega
    · obtain rfl : k = m := by omega
      have hfin : c = cnt x y ps := by rw [hc.out, List.take_of_length_le (by have := hm.out; omega)]
      have Hf := Lib.hid hfin
      clear hfin
      go_wp2_with fail
      go_ret
      exact ⟨by rw [← Hf.out]; rfl, hb⟩

theorem len_at {w : World} {F : Nat → Prop} {b n mb : Nat} {ps : List Pk} {S : Int → Int → Bool} {v : Value} (h : NetAt w F b ps n S v mb) :
    Calls Try.prog 11 #[.pointer (some ⟨b, 0, none⟩)] w fun e w' => e = .returned (.int .i64 ps.length) ∧ w = w' := by
  obtain ⟨ao, cap, hv⟩ := owns_slice h.o
  subst hv
  have c0 : w.cell? ⟨b, 0, none⟩ = some (.slice ao ps.length cap) := cell_at h.h 0
  clear h
  generalize ps.length = m at *
  go_enter Try.func11, Try.ntmps11
  go_wp2_with fail
  go_ret
  exact ⟨rfl, rfl⟩

theorem is_at {w : World} {F : Nat → Prop} {b n mb : Nat} {ps : List Pk} {S : Int → Int → Bool} {v : Value} (h : NetAt w F b ps n S v mb) (i : Int) :
    Calls Try.prog 22 #[.pointer (some ⟨b, 0, none⟩), .int .i64 i] w fun e w' => e = .returned (.bool (decide (0 ≤ i) && decide (i < ps.length))) ∧ w = w' := by
  obtain ⟨ao, cap, hv⟩ := owns_slice h.o
  subst hv
  have c0 : w.cell? ⟨b, 0, none⟩ = some (.slice ao ps.length cap) := cell_at h.h 0
  clear h
  generalize ps.length = m at *
  by_cases h1 : 0 ≤ i
  · have d1 : decide (0 ≤ i) = true := decide_eq_true h1
    rw [d1, Bool.true_and]
    go_enter Try.func22, Try.ntmps22
    go_wp2_with fail
    go_ret
    exact ⟨rfl, rfl⟩
  · have d1 : decide (0 ≤ i) = false := decide_eq_false h1
    rw [d1, Bool.false_and]
    go_enter Try.func22, Try.ntmps22
    go_wp2_with fail
    go_ret
    exact ⟨rfl, rfl⟩

end Go.Proofs.Ytdmdegjomikmlaa.NetW
