/-
  Layer 19 (ship): Fresh.
-/
import Derived.Test.YtiboacnjmogjaaaShpA
import Derived.Deep.MidRow
import Derived.Deep.AppendLies
namespace Go.Proofs.Ytiboacnjmogjaaa.ShpF
set_option linter.unusedVariables false
set_option linter.unusedSimpArgs false
open Go.RowKit Go.Proofs.Ytiboacnjmogjaaa.Mem Go.Proofs.Ytiboacnjmogjaaa.LogW Go.Proofs.Ytiboacnjmogjaaa.LogV Go.Proofs.Ytiboacnjmogjaaa.LogU Go.Proofs.Ytiboacnjmogjaaa.LogL Go.Proofs.Ytiboacnjmogjaaa.ShpW Go.Proofs.Ytiboacnjmogjaaa.ShpA

/-- Behind a place q: which records go on, one by one. -/
def stp (p : Int × List Rec) (r : Rec) : Int × List Rec := if 0 < r.seq ∧ r.seq - 1 = p.1 then (p.1 + 1, p.2 ++ [r]) else p
def frs (q : Int) (rs : List Rec) : Int × List Rec := rs.foldl stp (q, [])
theorem frs_snoc (q : Int) (rs : List Rec) (r : Rec) : frs q (rs ++ [r]) = stp (frs q rs) r := by unfold frs; rw [List.foldl_append]; rfl
theorem frs_len (q : Int) (rs : List Rec) : (frs q rs).2.length ≤ rs.length := by
  have key : ∀ (rs : List Rec) (p : Int × List Rec), (rs.foldl stp p).2.length ≤ p.2.length + rs.length := by
    intro rs
    induction rs with
    | nil => intro p; simp
    | cons r rs ih =>
      intro p
      have := ih (stp p r)
      have h2 : (stp p r).2.length ≤ p.2.length + 1 := by unfold stp; split <;> simp
      simp only [List.foldl_cons, List.length_cons]
      omega
  simpa [frs] using key rs (q, [])
theorem frs_bd (q : Int) (rs : List Rec) (h0 : 0 ≤ q) (h1 : q ≤ 18446744073709551615) (hr : ∀ r ∈ rs, r.seq ≤ 18446744073709551615) : 0 ≤ (frs q rs).1 ∧ (frs q rs).1 ≤ 18446744073709551615 := by
  have key : ∀ (rs : List Rec) (p : Int × List Rec), (∀ r ∈ rs, r.seq ≤ 18446744073709551615) → 0 ≤ p.1 ∧ p.1 ≤ 18446744073709551615 → 0 ≤ (rs.foldl stp p).1 ∧ (rs.foldl stp p).1 ≤ 18446744073709551615 := by
    intro rs
    induction rs with
    | nil => intro p _ h; exact h
    | cons r rs ih =>
      intro p hr h
      refine ih (stp p r) (fun x hx => hr x (List.mem_cons_of_mem _ hx)) ?_
      have := hr r (by simp)
      unfold stp
      split
      · rename_i hc; simp only; omega
      · exact h
  exact key rs (q, []) hr ⟨h0, h1⟩
theorem take_snoc' {α : Type} (l : List α) (k : Nat) (x : α) (h : l[k]? = some x) : l.take (k + 1) = l.take k ++ [x] := by
  rw [List.take_add_one, h]; rfl

theorem clip_nil (w : World) : Calls Try.prog 19 #[.slice none 0 0] w fun e w' => e = .returned (.slice none 0 0) ∧ w = w' := by
  go_enter Try.func19, Try.ntmps19
  go_wp2_with fail
  go_ret
  exact ⟨rfl, rfl⟩
theorem clip_some (a : Addr) (n cap : Nat) (w : World) (h : n ≤ cap) (h9 : cap ≤ 9223372036854775807) : Calls Try.prog 19 #[.slice (some a) n cap] w fun e w' => e = .returned (.slice (some a) n n) ∧ w = w' := by
  have h' : (n : Int) ≤ (cap : Int) := by omega
  go_enter Try.func19, Try.ntmps19
  go_wp2_with fail
  go_ret
  exact ⟨rfl, rfl⟩

theorem loadAt_ptr (ty : TypeId) (p : Addr) (w : World) : (Instr.loadAt ty (.pointer (some p))).run Try.prog w = (loadVar ty p).run Try.prog w := by
  simp only [Instr.loadAt, Instr.sureAddr, Sem.run_bind, Sem.run_pure, Result.andThen_ok]
theorem lv_u64 (p : Addr) (w : World) : (loadVar 26 p).run Try.prog w = (load p).run Try.prog w := by simp [loadVar, go_sem]
theorem infoR : (Try.prog.info? 37).map (·.size) = some 9 := by kernel_rfl
theorem load_rec (w : World) (g o : Nat) (r : Rec) (h : ∀ j, j < 9 → w.cell? ⟨g, o + j, none⟩ = r.cells[j]?) : (loadVar 37 ⟨g, o, none⟩).run Try.prog w = .ok (.agg r.cells.toArray) w :=
  run_loadVar_mid w g o 37 r.cells _ (fun j v hj => by
    have hl : j < 9 := by have := (List.getElem?_eq_some_iff.1 hj).1; simpa [Rec.cells] using this
    rw [h j hl]; exact hj) Try.underlying37 rfl infoR
theorem keep_grown {w0 w1 w2 : World} {row : Option Nat} (h : Keep (fun _ => False) w0 w1) (hg : w1.grownBy w2 row) (hr : ∀ k, row = some k → w0.heap.size ≤ k) : Keep (fun _ => False) w0 w2 := h.grown hg (fun k e => .inr (hr k e))

attribute [-go_sem] Instr.loadAt loadVar
attribute [local go_sem] loadAt_ptr lv_u64

/-- What is told: a slice of just these records. -/
def Told (w : World) (v : Value) (rs : List Rec) : Prop :=
  ∃ ao cap, v = .slice ao rs.length cap ∧ (rs = [] ∨ ∃ g, ao = some ⟨g, 0, none⟩ ∧ g < w.heap.size ∧ ∀ i r, rs[i]? = some r → ∀ j, j < 9 → w.cell? ⟨g, i * 9 + j, none⟩ = r.cells[j]?)

set_option maxHeartbeats 4000000 in
theorem fresh_any (q : Int) (rs : List Rec) (v : Value) (w : World) (F : Nat → Prop) (hr : RowAt w F v rs) (hn : rs.length ≤ 256) (q0 : 0 ≤ q) (q1 : q ≤ 18446744073709551615) (hs : ∀ r ∈ rs, 0 ≤ r.seq ∧ r.seq ≤ 18446744073709551615) :
    Calls Try.prog 15 #[.int .u64 q, v] w fun e w' => (∃ v', e = .returned v' ∧ Told w' v' (frs q rs).2) ∧ Keep (fun _ => False) w w' := by
  obtain ⟨ao, cap, rfl, hc⟩ := RowAt.form hr
  clear hr
  obtain ⟨i0, hi, hz0, hz1, hz2⟩ := info_parts Try.info_rec
  obtain ⟨n, hnn⟩ : ∃ n, n = rs.length := ⟨_, rfl⟩
  rw [← hnn] at hn ⊢
  have HC := Lib.hid hc
  have HS := Lib.hid hs
  have HN := Lib.hid hnn
  clear hc hs hnn
  go_enter Try.func15, Try.ntmps15
  go_wp2_with fail
  go_loopw [0, 5, 10] (fun xq xo xi wr => ∃ (k m : Nat) (q' : Int) (L : List Rec), k ≤ n ∧ xi = .int .i64 k ∧ Hid (frs q (rs.take k) = (q', L)) ∧ 0 ≤ q' ∧ q' ≤ 18446744073709551615 ∧ m ≤ k ∧ Hid (m = L.length) ∧ xq = .int .u64 q' ∧ wr.ownsRow w.heap.size TR 9 xo m (flat L) ∧ Keep (fun _ => False) w wr) (fun xq xo xi wr => n - (intOf xi).toNat)
  case atStart => exact ⟨0, 0, q, [], by omega, rfl, Lib.hid rfl, q0, q1, by omega, Lib.hid rfl, rfl, World.ownsRow_nil _ _ _ _, Keep.refl _ _⟩
  case round =>
    obtain ⟨k, m, q', L, hk, rfl, hL, l0, l1, hmk, hmL, rfl, hown, hkeep⟩ := hrel
    have hsz := hkeep.size
    by_cases hlt : k < n
    · have hne : rs ≠ [] := by intro h; have := HN.out; rw [h] at this; simp at this; omega
      obtain ⟨g, cur, rfl, hFg, hg, ht⟩ := HC.out.resolve_left hne
      obtain ⟨r, hrk⟩ : ∃ r, rs[k]? = some r := ⟨rs[k]'(by have := HN.out; omega), List.getElem?_eq_getElem _⟩
      have hrs := HS.out r (List.mem_of_getElem? hrk)
      have hsn : frs q (rs.take (k + 1)) = stp (q', L) r := by rw [take_snoc' rs k r hrk, frs_snoc, hL.out]
      have hgl := lt_of_block hg
      have ld := load_rec wr g (k * 9) r (fun j hj => (hkeep.cell (p := ⟨g, _, none⟩) hgl (fun e => e)).trans (rec_cell hg ht hrk j hj))
      clear hne hg ht hrk
      obtain ⟨seq, now, ses, num, kind, key, val, ttl, ver⟩ := r
      simp only [Rec.cells] at ld hrs
      have ld2 : (loadVar 37 ⟨wr.heap.size, 0, none⟩).run Try.prog (wr.alloc (.cells #[.int .u64 seq, .int .u64 now, .int .u64 ses, .int .u64 num, .int .i64 kind, .string key, .string val, .int .u64 ttl, .int .u64 ver] 37)) = .ok (.agg #[.int .u64 seq, .int .u64 now, .int .u64 ses, .int .u64 num, .int .i64 kind, .string key, .string val, .int .u64 ttl, .int .u64 ver]) (wr.alloc (.cells #[.int .u64 seq, .int .u64 now, .int .u64 ses, .int .u64 num, .int .i64 kind, .string key, .string val, .int .u64 ttl, .int .u64 ver] 37)) :=
        load_rec _ _ 0 ⟨seq, now, ses, num, kind, key, val, ttl, ver⟩ (fun j hj => by rw [Nat.zero_add, cell_at (block_new wr _) j]; simp [Rec.cells])
      have Hsn := Lib.hid hsn
      have Hown := Lib.hid hown
      have Hk := Lib.hid hkeep
      clear hsn hown hkeep hL
      by_cases hz : seq = 0
      · have d0 : decide (0 < seq) = false := decide_eq_false (by omega)
        have d0' : decide (seq > 0) = false := d0
        have Hz := Lib.hid hz
        clear hz ld2
        go_wp2_with fail
        go_roundw
        case rel => exact ⟨k + 1, m, q', L, by omega, by go_num, Lib.hid (by rw [Hsn.out]; unfold stp; rw [if_neg (by intro h; have := h.1; have := Hz.out; simp only at *; omega)]), l0, l1, by omega, hmL, rfl, Hown.out.alloc _, Hk.out.alloc _⟩
        case measure => simp [intOf]; omega
      by_cases he : seq - 1 = q'
      · have h1 : 1 ≤ seq := by omega
        have lq : q' ≤ 18446744073709551614 := by omega
        have e1 : (seq - 1 == q') = true := by rw [beq_iff_eq]; exact he
        have He := Lib.hid he
        clear he hz
        go_wp2_with (at_builtin; refine wpList_append_lies _ rfl _ _ _ rfl w.heap.size 37 i0 _ 9 88 Try.underlying38 hi hz0 hz1 hz2 rfl (by decide) u5 m (flat L) rfl ((Hown.out.alloc _).alloc _) ⟨wr.heap.size + 1, 0, none⟩ 1 1 [.int .u64 seq, .int .u64 now, .int .u64 ses, .int .u64 num, .int .i64 kind, .string key, .string val, .int .u64 ttl, .int .u64 ver] rfl rfl (World.news_of_block (block_new_at (by simp))) (by simp [Value.oneCell']) (by decide) (by unfold maxLen; omega) (by omega) (by simp; omega) _ rfl ?_; intro g2 cp w2 hown2 hgrow hat hlt2)
        have K2 := Lib.hid (keep_grown ((Hk.out.alloc _).alloc _) hgrow (fun k e => (Hown.out.lt k e).1))
        have O2 := Lib.hid hown2
        clear hown2 hgrow hat hlt2 ld ld2
        go_wp2_with fail
        go_roundw
        case rel => exact ⟨k + 1, m + 1, q' + 1, L ++ [⟨seq, now, ses, num, kind, key, val, ttl, ver⟩], by omega, by go_num, Lib.hid (by rw [Hsn.out]; unfold stp; rw [if_pos (by simp only; have := He.out; omega)]), by omega, by have := He.out; omega, by omega, Lib.hid (by rw [List.length_append, ← hmL.out]; rfl), by first | rfl | go_num, by rw [flat_append, flat_one]; exact O2.out, K2.out⟩
        case measure => simp [intOf]; omega
      · have h1 : 1 ≤ seq := by omega
        have e1 : (seq - 1 == q') = false := by rw [beq_eq_false_iff_ne]; exact he
        have He := Lib.hid he
        clear he hz ld2
        go_wp2_with fail
        go_roundw
        case rel => exact ⟨k + 1, m, q', L, by omega, by go_num, Lib.hid (by rw [Hsn.out]; unfold stp; rw [if_neg (by intro h; exact He.out h.2)]), l0, l1, by omega, hmL, rfl, Hown.out.alloc _, Hk.out.alloc _⟩
        case measure => simp [intOf]; omega
    · obtain rfl : k = n := by omega
      have hfin : frs q rs = (q', L) := by have := hL.out; rw [List.take_of_length_le (by have := HN.out; omega)] at this; exact this
      have Hf := Lib.hid hfin
      clear hfin hL
      rcases hown.2 with ⟨rfl, h0⟩ | ⟨g, cp, cur, rfl, hb, hg, hcp, hmx, hs2, ht⟩
      · have hL0 : L = [] := by have := hmL.out; rw [h0] at this; exact List.length_eq_zero_iff.1 this.symm
        have H0 := Lib.hid hL0
        clear hL0 h0 hown
        go_wp2_with fail
        refine (clip_nil _).mono ?_
        rintro e _ ⟨rfl, rfl⟩
        go_wp2_with fail
        go_ret
        exact ⟨⟨_, rfl, by rw [Hf.out]; exact ⟨none, 0, by show _ = Value.slice none L.length 0; rw [H0.out]; rfl, .inl H0.out⟩⟩, hkeep⟩
      · have Hg := Lib.hid hg
        have Ht := Lib.hid ht
        have Hk := Lib.hid hkeep
        have hmx' : cp ≤ 9223372036854775807 := by unfold maxLen at hmx; omega
        clear hg ht hkeep hown hs2 hmx
        go_wp2_with fail
        refine (clip_some _ m cp _ hcp hmx').mono ?_
        rintro e _ ⟨rfl, rfl⟩
        go_wp2_with fail
        go_ret
        refine ⟨⟨_, rfl, ?_⟩, Hk.out⟩
        rw [Hf.out]
        refine ⟨some ⟨g, 0, none⟩, m, by show _ = Value.slice (some ⟨g, 0, none⟩) L.length m; rw [← hmL.out]; rfl, .inr ⟨g, rfl, lt_of_block Hg.out, fun i r hi j hj => ?_⟩⟩
        exact rec_cell Hg.out Ht.out hi j hj

end Go.Proofs.Ytiboacnjmogjaaa.ShpF
