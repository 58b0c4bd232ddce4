/-
  Layer 6 (ring): rings in memory; what their small functions do.
-/
import Derived.Test.YtebjbkpgicbgeaaRinM
import Derived.Test.YtebjbkpgicbgeaaRinP
import Derived.Deep.MidRow
import Derived.Deep.AppendLies
import Derived.Deep.RegionLaw
import Derived.Deep.RegionHeld3
import Derived.Deep.QuietTactic
import Derived.BigQuiet
import Derived.BigRegion
import Derived.WalkSpells
import Derived.WalkLawsBesides
import Derived.IntWalk
namespace Go.Proofs.Ytebjbkpgicbgeaa.RinW
set_option linter.unusedVariables false
set_option linter.unusedSimpArgs false
open Go.RowKit Go.Proofs.Ytebjbkpgicbgeaa.Mem Go.Proofs.Ytebjbkpgicbgeaa.RinM Go.Proofs.Ytebjbkpgicbgeaa.RinP

abbrev TR : TypeId := 84
abbrev TS : TypeId := 86
def cells (s : Sl) : List Value := [.string s.key, .int .i64 (s.ls : Int), .int .i64 (s.pv : Int), .int .i64 (s.nx : Int)]
def flat (sl : List Sl) : List Value := sl.flatMap cells
def ints (l : List Nat) : List Value := l.map fun x : Nat => Value.int .i64 (x : Int)
theorem flat_length (ps : List Sl) : (flat ps).length = ps.length * 4 := by
  induction ps with
  | nil => rfl
  | cons r rs ih => unfold flat at *; rw [List.flatMap_cons, List.length_append, ih]; simp [cells]; omega
theorem flat_at (ps : List Sl) : ∀ (i j : Nat) (r : Sl), ps[i]? = some r → j < 4 → (flat ps)[i * 4 + j]? = (cells r)[j]? := by
  induction ps with
  | nil => intro i j r h; simp at h
  | cons a rs ih =>
    intro i j r h hj
    show (cells a ++ flat rs)[i * 4 + j]? = _
    cases i with
    | zero =>
      simp at h
      subst h
      rw [Nat.zero_mul, Nat.zero_add, List.getElem?_append_left (by simp [cells]; omega)]
    | succ i =>
      simp at h
      rw [List.getElem?_append_right (by simp [cells]; omega), show (i + 1) * 4 + j - (cells a).length = i * 4 + j by simp [cells]; omega]
      exact ih i j r h hj
theorem flat_get (ps : List Sl) (t : Nat) : (flat ps)[t]? = if t / 4 < ps.length then (cells (gt ps (t / 4)))[t % 4]? else none := by
  split
  · rename_i h
    have := flat_at ps (t / 4) (t % 4) _ (gt_some ps (t / 4) h) (Nat.mod_lt _ (by omega))
    rw [← this]; congr 1; omega
  · rename_i h
    exact List.getElem?_eq_none (by rw [flat_length]; omega)
theorem flat_ext {ps : List Sl} {L : List Value} (hl : L.length = ps.length * 4) (h : ∀ i j, i < ps.length → j < 4 → L[i * 4 + j]? = (cells (gt ps i))[j]?) : L = flat ps := by
  apply List.ext_getElem?
  intro t
  rw [flat_get]
  split
  · rename_i ht
    rw [← h (t / 4) (t % 4) ht (Nat.mod_lt _ (by omega))]; congr 1; omega
  · exact List.getElem?_eq_none (by omega)
theorem cells_nx (s : Sl) (v : Nat) (j : Nat) : (cells { s with nx := v })[j]? = if j = 3 then some (.int .i64 (v : Int)) else (cells s)[j]? := by
  by_cases h : j = 3
  · subst h; rfl
  · rw [if_neg h]
    rcases Nat.lt_or_ge j 3 with h3 | h3
    · have : j = 0 ∨ j = 1 ∨ j = 2 := by omega
      rcases this with rfl | rfl | rfl <;> rfl
    · rw [List.getElem?_eq_none (by simp [cells]; omega), List.getElem?_eq_none (by simp [cells]; omega)]
theorem cells_pv (s : Sl) (v : Nat) (j : Nat) : (cells { s with pv := v })[j]? = if j = 2 then some (.int .i64 (v : Int)) else (cells s)[j]? := by
  by_cases h : j = 2
  · subst h; rfl
  · rw [if_neg h]
    rcases Nat.lt_or_ge j 4 with h3 | h3
    · have : j = 0 ∨ j = 1 ∨ j = 3 := by omega
      rcases this with rfl | rfl | rfl <;> rfl
    · rw [List.getElem?_eq_none (by simp [cells]; omega), List.getElem?_eq_none (by simp [cells]; omega)]
theorem flat_setNx (sl : List Sl) (i v : Nat) (hi : i < sl.length) : (flat sl).set (i * 4 + 3) (.int .i64 (v : Int)) = flat (setNx sl i v) := by
  refine flat_ext (by rw [List.length_set, flat_length, len_setNx]) (fun a j ha hj => ?_)
  rw [len_setNx] at ha
  rw [gt_setNx _ _ _ hi, List.getElem?_set, flat_length]
  by_cases e : a = i
  · subst e
    rw [if_pos rfl, cells_nx]
    by_cases e2 : j = 3
    · subst e2; rw [if_pos rfl, if_pos (by omega), if_pos rfl]
    · rw [if_neg (by omega), if_neg e2, flat_at sl a j _ (gt_some sl a ha) hj]
  · rw [if_neg e, if_neg (by omega), flat_at sl a j _ (gt_some sl a ha) hj]
theorem flat_setPv (sl : List Sl) (i v : Nat) (hi : i < sl.length) : (flat sl).set (i * 4 + 2) (.int .i64 (v : Int)) = flat (setPv sl i v) := by
  refine flat_ext (by rw [List.length_set, flat_length, len_setPv]) (fun a j ha hj => ?_)
  rw [len_setPv] at ha
  rw [gt_setPv _ _ _ hi, List.getElem?_set, flat_length]
  by_cases e : a = i
  · subst e
    rw [if_pos rfl, cells_pv]
    by_cases e2 : j = 2
    · subst e2; rw [if_pos rfl, if_pos (by omega), if_pos rfl]
    · rw [if_neg (by omega), if_neg e2, flat_at sl a j _ (gt_some sl a ha) hj]
  · rw [if_neg e, if_neg (by omega), flat_at sl a j _ (gt_some sl a ha) hj]
theorem set_comm' {α : Type} (l : List α) {i j : Nat} (h : i ≠ j) (x y : α) : (l.set i x).set j y = (l.set j y).set i x := List.set_comm x y h
theorem cutS_flat (sl : List Sl) (a : Nat) (h1 : pv sl a < sl.length) (h2 : nx sl a < sl.length) : ((flat sl).set (pv sl a * 4 + 3) (.int .i64 (nx sl a : Int))).set (nx sl a * 4 + 2) (.int .i64 (pv sl a : Int)) = flat (cutS sl a) := by
  rw [flat_setNx _ _ _ h1, flat_setPv _ _ _ (by rw [len_setNx]; exact h2)]; rfl

/-- Rings: their places, what is free, how many each list has, where the keys are. -/
structure RAt (w : World) (F : Nat → Prop) (b n N T : Nat) (sl : List Sl) (fr mn : List Nat) (M : ByteArray → Option Nat) (gs gm mb : Nat) (v : Value) : Prop where
  h : w.heap[b]? = some (.cells #[.int .i64 (n : Int), .slice (some ⟨gs, 0, none⟩) N N, v, .map (some mb), .slice (some ⟨gm, 0, none⟩) n n] TR (0, 0))
  s : w.heap[gs]? = some (.cells (flat sl).toArray TS (0, 0))
  m : w.heap[gm]? = some (.cells (ints mn).toArray TInt (0, 0))
  o : w.ownsRow 0 TInt 1 v fr.length (ints fr)
  c : Mp w mb T M
  lsl : sl.length = N
  lmn : mn.length = n
  hN : N ≤ 100000
  e1 : gs ≠ b
  e2 : gm ≠ b
  e3 : gs ≠ gm
  o1 : v.ownBlock ≠ some b
  o2 : v.ownBlock ≠ some gs
  o3 : v.ownBlock ≠ some gm
  fb : F b
  fs : F gs
  fm : F gm
  fc : F mb
  fo : ∀ k, v.ownBlock = some k → F k

theorem own_lt {w : World} {v : Value} {n k : Nat} {ns : List Value} (h : w.ownsRow 0 TInt 1 v n ns) (e : v.ownBlock = some k) : ∃ cs t, w.heap[k]? = some (.cells cs t (0, 0)) := by
  rcases h.2 with ⟨rfl, _⟩ | ⟨g, cap, cur, rfl, _, hg, _⟩
  · simp [Value.ownBlock] at e
  · simp [Value.ownBlock] at e
    subst e
    exact ⟨_, _, hg⟩
section
variable {w w' : World} {F : Nat → Prop} {b n N T gs gm mb : Nat} {sl : List Sl} {fr mn : List Nat} {M : ByteArray → Option Nat} {v : Value}
theorem RAt.mb_ne (h : RAt w F b n N T sl fr mn M gs gm mb v) : mb ≠ b ∧ mb ≠ gs ∧ mb ≠ gm ∧ v.ownBlock ≠ some mb := by
  obtain ⟨es, clock, hm⟩ := h.c.isMap
  refine ⟨?_, ?_, ?_, ?_⟩
  · rintro rfl; rw [h.h] at hm; cases hm
  · rintro rfl; rw [h.s] at hm; cases hm
  · rintro rfl; rw [h.m] at hm; cases hm
  · intro e
    obtain ⟨cs, t, hc⟩ := own_lt h.o e
    rw [hc] at hm; cases hm
theorem RAt.keep {K : Nat → Prop} (h : RAt w F b n N T sl fr mn M gs gm mb v) (k : Keep K w w') (hd : ∀ i, F i → ¬ K i) : RAt w' F b n N T sl fr mn M gs gm mb v :=
  ⟨(k.block b (lt_of_block h.h) (hd b h.fb)).trans h.h, (k.block gs (lt_of_block h.s) (hd gs h.fs)).trans h.s, (k.block gm (lt_of_block h.m) (hd gm h.fm)).trans h.m, owns_keep h.o k (fun i e => hd i (h.fo i e)), h.c.keep k (hd mb h.fc), h.lsl, h.lmn, h.hN, h.e1, h.e2, h.e3, h.o1, h.o2, h.o3, h.fb, h.fs, h.fm, h.fc, h.fo⟩
theorem RAt.keep0 (h : RAt w F b n N T sl fr mn M gs gm mb v) (k : Keep (fun _ => False) w w') : RAt w' F b n N T sl fr mn M gs gm mb v := h.keep k (fun _ _ e => e)
theorem RAt.mono {F' : Nat → Prop} {T' : Nat} (h : RAt w F b n N T sl fr mn M gs gm mb v) (hF : ∀ k, F k → F' k) (hT : T ≤ T') : RAt w F' b n N T' sl fr mn M gs gm mb v :=
  ⟨h.h, h.s, h.m, h.o, h.c.mono hT, h.lsl, h.lmn, h.hN, h.e1, h.e2, h.e3, h.o1, h.o2, h.o3, hF _ h.fb, hF _ h.fs, hF _ h.fm, hF _ h.fc, fun k e => hF k (h.fo k e)⟩
/-- The places alone changed. -/
theorem RAt.slots {sl' : List Sl} (h : RAt w F b n N T sl fr mn M gs gm mb v) (k : Keep (fun i => i = gs) w w') (hs : w'.heap[gs]? = some (.cells (flat sl').toArray TS (0, 0))) (hl : sl'.length = sl.length) : RAt w' F b n N T sl' fr mn M gs gm mb v :=
  ⟨(k.block b (lt_of_block h.h) (fun e => h.e1 e.symm)).trans h.h, hs, (k.block gm (lt_of_block h.m) (fun e => h.e3 e.symm)).trans h.m, owns_keep h.o k (fun i e e' => h.o2 (by rw [e, e'])), h.c.keep k (fun e => h.mb_ne.2.1 e), hl.trans h.lsl, h.lmn, h.hN, h.e1, h.e2, h.e3, h.o1, h.o2, h.o3, h.fb, h.fs, h.fm, h.fc, h.fo⟩
theorem RAt.many {mn' : List Nat} (h : RAt w F b n N T sl fr mn M gs gm mb v) (k : Keep (fun i => i = gm) w w') (hs : w'.heap[gm]? = some (.cells (ints mn').toArray TInt (0, 0))) (hl : mn'.length = mn.length) : RAt w' F b n N T sl fr mn' M gs gm mb v :=
  ⟨(k.block b (lt_of_block h.h) (fun e => h.e2 e.symm)).trans h.h, (k.block gs (lt_of_block h.s) (fun e => h.e3 e)).trans h.s, hs, owns_keep h.o k (fun i e e' => h.o3 (by rw [e, e'])), h.c.keep k (fun e => h.mb_ne.2.2.1 e), h.lsl, hl.trans h.lmn, h.hN, h.e1, h.e2, h.e3, h.o1, h.o2, h.o3, h.fb, h.fs, h.fm, h.fc, h.fo⟩
theorem RAt.map {M' : ByteArray → Option Nat} {T' : Nat} (h : RAt w F b n N T sl fr mn M gs gm mb v) (k : Keep (fun i => i = mb) w w') (hc : Mp w' mb T' M') : RAt w' F b n N T' sl fr mn M' gs gm mb v :=
  ⟨(k.block b (lt_of_block h.h) (fun e => h.mb_ne.1 e.symm)).trans h.h, (k.block gs (lt_of_block h.s) (fun e => h.mb_ne.2.1 e.symm)).trans h.s, (k.block gm (lt_of_block h.m) (fun e => h.mb_ne.2.2.1 e.symm)).trans h.m, owns_keep h.o k (fun i e e' => h.mb_ne.2.2.2 (by rw [e, e'])), hc, h.lsl, h.lmn, h.hN, h.e1, h.e2, h.e3, h.o1, h.o2, h.o3, h.fb, h.fs, h.fm, h.fc, h.fo⟩
/-- A cell of a place. -/
theorem RAt.cell (h : RAt w F b n N T sl fr mn M gs gm mb v) (a j : Nat) (ha : a < N) (hj : j < 4) : w.cell? ⟨gs, a * 4 + j, none⟩ = (cells (gt sl a))[j]? := by
  rw [cell_at h.s, List.getElem?_toArray]
  exact flat_at sl a j _ (gt_some sl a (by rw [h.lsl]; exact ha)) hj
theorem RAt.cell0 (h : RAt w F b n N T sl fr mn M gs gm mb v) (a : Nat) (ha : a < N) : w.cell? ⟨gs, a * 4, none⟩ = some (.string (ky sl a)) := h.cell a 0 ha (by omega)
theorem RAt.cell1 (h : RAt w F b n N T sl fr mn M gs gm mb v) (a : Nat) (ha : a < N) : w.cell? ⟨gs, a * 4 + 1, none⟩ = some (.int .i64 ((gt sl a).ls : Int)) := h.cell a 1 ha (by omega)
theorem RAt.cell2 (h : RAt w F b n N T sl fr mn M gs gm mb v) (a : Nat) (ha : a < N) : w.cell? ⟨gs, a * 4 + 2, none⟩ = some (.int .i64 (pv sl a : Int)) := h.cell a 2 ha (by omega)
theorem RAt.cell3 (h : RAt w F b n N T sl fr mn M gs gm mb v) (a : Nat) (ha : a < N) : w.cell? ⟨gs, a * 4 + 3, none⟩ = some (.int .i64 (nx sl a : Int)) := h.cell a 3 ha (by omega)
theorem RAt.cellm (h : RAt w F b n N T sl fr mn M gs gm mb v) (i m : Nat) (hm : mn[i]? = some m) : w.cell? ⟨gm, i, none⟩ = some (.int .i64 (m : Int)) := by
  rw [cell_at h.m, List.getElem?_toArray]
  unfold ints
  rw [List.getElem?_map, hm]; rfl
theorem RAt.free (h : RAt w F b n N T sl fr mn M gs gm mb v) (o : Nat) : w.frozen? ⟨gs, o, none⟩ = false := free_at h.s o
theorem RAt.freem (h : RAt w F b n N T sl fr mn M gs gm mb v) (o : Nat) : w.frozen? ⟨gm, o, none⟩ = false := free_at h.m o
end

theorem loadAt_ptr (ty : TypeId) (p : Addr) (w : World) : (Instr.loadAt ty (.pointer (some p))).run Try.prog w = (loadVar ty p).run Try.prog w := by
  simp only [Instr.loadAt, Instr.sureAddr, Sem.run_bind, Sem.run_pure, Result.andThen_ok]

theorem ints_set (l : List Nat) (i x : Nat) : (ints l).set i (.int .i64 (x : Int)) = ints (l.set i x) := by unfold ints; rw [List.map_set]

set_option maxRecDepth 100000 in
set_option maxHeartbeats 4000000 in
theorem cut_any {w : World} {F : Nat → Prop} {b n N T gs gm mb : Nat} {sl : List Sl} {fr mn : List Nat} {M : ByteArray → Option Nat} {v : Value} (h : RAt w F b n N T sl fr mn M gs gm mb v) (a m : Nat) (ha : a < N) (hp : pv sl a < N) (hq : nx sl a < N) (hl : (gt sl a).ls < n) (hm : mn[(gt sl a).ls]? = some m) (hm1 : 1 ≤ m) (hm2 : m ≤ 100000) :
    Calls Try.prog 48 #[.pointer (some ⟨b, 0, none⟩), .int .i64 (a : Int)] w fun e w' => e = .returned (.tuple #[]) ∧ RAt w' F b n N T (cutS sl a) fr (mn.set (gt sl a).ls (m - 1)) M gs gm mb v ∧ Keep F w w' := by
  have hN := h.hN
  obtain ⟨p, hpe⟩ : ∃ p, p = pv sl a := ⟨_, rfl⟩
  obtain ⟨q, hqe⟩ : ∃ q, q = nx sl a := ⟨_, rfl⟩
  obtain ⟨l, hle⟩ : ∃ l, l = (gt sl a).ls := ⟨_, rfl⟩
  rw [← hpe] at hp
  rw [← hqe] at hq
  rw [← hle] at hl hm
  have cb1 : w.cell? ⟨b, 1, none⟩ = some (.slice (some ⟨gs, 0, none⟩) N N) := cell_at h.h 1
  have cb1' : w.drew.cell? ⟨b, 1, none⟩ = some (.slice (some ⟨gs, 0, none⟩) N N) := cb1
  have ca2 := h.cell2 a ha
  have ca3 := h.cell3 a ha
  rw [← hpe] at ca2
  rw [← hqe] at ca3
  have ca2' : w.drew.cell? ⟨gs, a * 4 + 2, none⟩ = some (.int .i64 (p : Int)) := ca2
  have ca3' : w.drew.cell? ⟨gs, a * 4 + 3, none⟩ = some (.int .i64 (q : Int)) := ca3
  have cp3 := h.cell3 p hp
  have cq2 := h.cell2 q hq
  have cp3' : w.drew.cell? ⟨gs, p * 4 + 3, none⟩ = some (.int .i64 (nx sl p : Int)) := cp3
  have cq2' : w.drew.cell? ⟨gs, q * 4 + 2, none⟩ = some (.int .i64 (pv sl q : Int)) := cq2
  have f1 := h.free (p * 4 + 3)
  have f2 := h.free (q * 4 + 2)
  have f1' : w.drew.frozen? ⟨gs, p * 4 + 3, none⟩ = false := f1
  have f2' : w.drew.frozen? ⟨gs, q * 4 + 2, none⟩ = false := f2
  have g1 : (w.setCell ⟨gs, p * 4 + 3, none⟩ (.int .i64 (q : Int))).cell? ⟨gs, q * 4 + 2, none⟩ = some (.int .i64 (pv sl q : Int)) := by
    rw [World.cell?_setCell_other _ _ _ _ (by intro e; injection e; omega)]; exact cq2
  have g2 : (w.setCell ⟨gs, q * 4 + 2, none⟩ (.int .i64 (p : Int))).cell? ⟨gs, p * 4 + 3, none⟩ = some (.int .i64 (nx sl p : Int)) := by
    rw [World.cell?_setCell_other _ _ _ _ (by intro e; injection e; omega)]; exact cp3
  have H := Lib.hid h
  have Hp := Lib.hid hpe
  have Hq := Lib.hid hqe
  have Hl := Lib.hid hle
  have Hm := Lib.hid hm
  clear h hpe hqe hle hm
  go_enter Try.func48, Try.ntmps48
  go_wp2_with fail
  go_region
  obtain ⟨W1, hW1⟩ : ∃ W1, W1 = ((w.setCell ⟨gs, p * 4 + 3, none⟩ (.int .i64 (q : Int))).setCell ⟨gs, q * 4 + 2, none⟩ (.int .i64 (p : Int))).drew := ⟨_, rfl⟩
  have hN0 := H.out
  have k1 : Keep (fun i => i = gs) w W1 := by rw [hW1]; exact (((Keep.refl _ w).set1 _ _).set1 _ _).drew
  have b1 : W1.heap[gs]? = some (.cells (flat (cutS sl a)).toArray TS (0, 0)) := by
    rw [hW1]
    refine (block_drew (block_set (block_set hN0.s _ _) _ _)).trans ?_
    rw [← cutS_flat sl a (by rw [hN0.lsl, ← Hp.out]; exact hp) (by rw [hN0.lsl, ← Hq.out]; exact hq), ← Hp.out, ← Hq.out]
    simp
  have h1 := hN0.slots k1 b1 (len_cutS sl a)
  have cg := cut_gt sl a (by rw [hN0.lsl, ← Hp.out]; exact hp) (by rw [hN0.lsl, ← Hq.out]; exact hq) a
  rw [← hW1]
  have d4 : W1.cell? ⟨b, 4, none⟩ = some (.slice (some ⟨gm, 0, none⟩) n n) := cell_at h1.h 4
  have d1 := h1.cell1 a ha
  rw [cg.2.2.2, ← Hl.out] at d1
  have dm := h1.cellm l m Hm.out
  have fm := h1.freem l
  have d4' : W1.drew.cell? ⟨b, 4, none⟩ = some (.slice (some ⟨gm, 0, none⟩) n n) := d4
  have d1' : W1.drew.cell? ⟨gs, a * 4 + 1, none⟩ = some (.int .i64 (l : Int)) := d1
  have dm' : W1.drew.cell? ⟨gm, l, none⟩ = some (.int .i64 (m : Int)) := dm
  have fm' : W1.drew.frozen? ⟨gm, l, none⟩ = false := fm
  have hl' : (l : Int) < (n : Int) := by omega
  have K1 := Lib.hid k1
  have H1 := Lib.hid h1
  clear hW1 k1 b1 h1 cg hN0 cb1 cb1' ca2 ca3 ca2' ca3' cp3 cq2 cp3' cq2' f1 f2 f1' f2' g1 g2
  go_wp2_with fail
  go_region
  have k2 : Keep (fun i => i = gm) W1 (W1.setCell ⟨gm, l, none⟩ (.int .i64 ((m : Int) - 1))).drew := ((Keep.refl _ W1).set1 _ _).drew
  have hm' : ((m - 1 : Nat) : Int) = (m : Int) - 1 := by omega
  have b2 : (W1.setCell ⟨gm, l, none⟩ (.int .i64 ((m : Int) - 1))).drew.heap[gm]? = some (.cells (ints (mn.set l (m - 1))).toArray TInt (0, 0)) := by
    refine (block_drew (block_set H1.out.m _ _)).trans ?_
    rw [← ints_set, hm']
    simp
  have h2 := H1.out.many k2 b2 (by simp)
  have kk : Keep F w (W1.setCell ⟨gm, l, none⟩ (.int .i64 ((m : Int) - 1))).drew := (K1.out.mono (fun k _ e => by rw [e]; exact H.out.fs)).trans (k2.mono (fun k _ e => by rw [e]; exact H.out.fm))
  exact bodyPost_end (v := .tuple #[]) (by simp [results, Try.results48, go_sem]) rfl ⟨rfl, by rw [← Hl.out]; exact h2, kk⟩

end Go.Proofs.Ytebjbkpgicbgeaa.RinW
