/-
  Layer 7 (arc): the law ArcBounds.
-/
import Derived.Test.YtebjbkpgicbgeaaArcL
namespace Go.Proofs.Ytebjbkpgicbgeaa.ArcB
set_option linter.unusedVariables false
set_option linter.unusedSimpArgs false
set_option maxRecDepth 100000
open Go.RowKit Go.Proofs.Ytebjbkpgicbgeaa.Mem Go.Proofs.Ytebjbkpgicbgeaa.RinM Go.Proofs.Ytebjbkpgicbgeaa.RinP Go.Proofs.Ytebjbkpgicbgeaa.RinG Go.Proofs.Ytebjbkpgicbgeaa.ArcP Go.Proofs.Ytebjbkpgicbgeaa.ArcQ Go.Proofs.Ytebjbkpgicbgeaa.ArcW Go.Proofs.Ytebjbkpgicbgeaa.ArcV Go.Proofs.Ytebjbkpgicbgeaa.ArcU Go.Proofs.Ytebjbkpgicbgeaa.ArcK Go.Proofs.Ytebjbkpgicbgeaa.ArcO Go.Proofs.Ytebjbkpgicbgeaa.ArcF Go.Proofs.Ytebjbkpgicbgeaa.ArcE Go.Proofs.Ytebjbkpgicbgeaa.ArcL Go.Proofs.Ytebjbkpgicbgeaa.Mask Go.Proofs.Ytebjbkpgicbgeaa.Open

/-- Something that is done. -/
structure Do where
  kind : Int
  key : ByteArray
def Do.cells (x : Do) : List Value := [.int .i64 x.kind, .string x.key]
def Dos (W : World) (v : Value) (l : List Do) : Prop := Reads W 2 v (l.map Do.cells) ∧ ∀ x ∈ l, (Lit.int .i64 x.kind).wf = true ∧ x.key.size ≤ 9223372036854775807
theorem c_int : Try.prog.cellsOf 3 = 1 := by kernel_rfl
theorem c_str : Try.prog.cellsOf 9 = 1 := by kernel_rfl
theorem c_act : Try.prog.cellsOf 37 = 2 := by kernel_rfl
theorem dos_open {H : Type} {enc : TypeId × Value → H} {W : World} {base b0 : Nat} {spare : Nat → Bool} {held : Bool} {r : Reach} {v : Value} {d : DataW H} {p : List MemPlace}
    (hv : Value.okWide Try.prog W r b0 35 v) (h : DataW.Trod enc Try.prog W base spare held 35 v d p) : ∃ l : List Do, Dos W v l := by
  obtain ⟨els, h1, h2⟩ := slice_open Try.underlying35 (by rw [c_act]; omega) hv h
  rw [c_act] at h1
  obtain ⟨l, rfl, hl⟩ := els_map_of (f := Do.cells) (q := fun x => (Lit.int .i64 x.kind).wf = true ∧ x.key.size ≤ 9223372036854775807) (els := els) (fun cs hcs => by
    obtain ⟨hlen, n, x, hx⟩ := h2 cs hcs
    rw [c_act] at hlen
    obtain ⟨xs, m, _, _, _, hxl, hg⟩ := DataW.trod_struct Try.underlying37 hx
    have hxl' : xs.length = 2 := hxl
    match cs, hlen with
    | [c0, c1], _ =>
      have g0 := hg 0
      have g1 := hg 1
      simp [c_int, c_str] at g0 g1
      rw [List.getElem?_eq_getElem (by omega)] at g0 g1
      obtain ⟨a, e0, _, w0⟩ := DataW.trod_int Try.underlying3 g0
      obtain ⟨b, e1, _, w1⟩ := DataW.trod_string Try.underlying9 g1
      simp only [List.cons.injEq, and_true] at e0 e1
      subst e0 e1
      exact ⟨⟨a, b⟩, rfl, w0, by unfold maxLen at w1; omega⟩)
  exact ⟨l, h1, hl⟩
theorem dos_form {W : World} {v : Value} {l : List Do} (h : Dos W v l) :
    ∃ ao cap, v = .slice ao l.length cap ∧ l.length ≤ 9223372036854775807 ∧ (l = [] ∨ ∃ g off, ao = some ⟨g, off, none⟩ ∧ g < W.heap.size ∧ ∀ (i : Nat) (x : Do), l[i]? = some x → W.cell? ⟨g, off + i * 2, none⟩ = some (.int .i64 x.kind) ∧ W.cell? ⟨g, off + i * 2 + 1, none⟩ = some (.string x.key)) := by
  obtain ⟨⟨ao, cap, h1, h2, h3, h4⟩, h5⟩ := h
  rw [List.length_map] at h1 h2
  refine ⟨ao, cap, h1, h2, ?_⟩
  rcases h4 with h4 | ⟨g, off, h6, h7, h8⟩
  · exact .inl (by simpa using h4)
  · refine .inr ⟨g, off, h6, h7, fun i x hx => ?_⟩
    have e : (l.map Do.cells)[i]? = some x.cells := by rw [List.getElem?_map, hx]; rfl
    exact ⟨h8 i _ e 0 _ rfl, h8 i _ e 1 _ rfl⟩

section
variable {w w' : World} {ab b c T : Nat} {s : Ac}
theorem own_remove (h : ArcO.Own w w' ab b c T s) (x : ByteArray) (hx : x.size ≤ 9223372036854775807) :
    Calls Try.prog 17 #[.pointer (some ⟨ab, 0, none⟩), .string x] w' fun e w2 => e = .returned (.bool (isIn x s.A || isIn x s.B)) ∧ ArcO.Own w w2 ab b c T (rmA x s) := by
  obtain ⟨F, h1, h2, h3, h4⟩ := h
  refine (remove_at h1 x hx).mono ?_
  rintro e w2 ⟨he, hu⟩
  exact ⟨he, ArcO.Own.up h2 h3 h4 hu⟩
theorem own_evict (h : ArcO.Own w w' ab b c T s) (hT : T ≤ 100000) :
    Calls Try.prog 18 #[.pointer (some ⟨ab, 0, none⟩)] w' fun e w2 => e = .returned (.tuple #[.string ((evi s).2.getD ⟨#[]⟩), .bool (evi s).2.isSome]) ∧ ArcO.Own w w2 ab b c (T + 1) (evi s).1 := by
  obtain ⟨F, h1, h2, h3, h4⟩ := h
  refine (evict_at h1 (by omega)).mono ?_
  rintro e w2 ⟨he, hu⟩
  exact ⟨he, ArcO.Own.up h2 h3 h4 hu⟩
theorem own_lists (h : ArcO.Own w w' ab b c T s) :
    Calls Try.prog 19 #[.pointer (some ⟨ab, 0, none⟩)] w' fun e w2 => ∃ V : Nat → Value, e = .returned (.agg (arr V)) ∧ ArcO.Own w w2 ab b c T s ∧ Keep (fun _ => False) w' w2 ∧ (∀ j, j < 4 → w2.ownsRow 0 TStr 1 (V j) (lst s j).length (strs (lst s j)) ∧ ∀ g, (V j).ownBlock = some g → w'.heap.size ≤ g) := by
  obtain ⟨F, h1, h2, h3, h4⟩ := h
  refine (lists_at h1).mono ?_
  rintro e w2 ⟨V, he, k, hr⟩
  exact ⟨V, he, ⟨F, h1.keep0 k, h2, h3, h4.trans k⟩, k, hr⟩
theorem own_lens (h : ArcO.Own w w' ab b c T s) (n : Nat) :
    (Calls Try.prog 13 #[.pointer (some ⟨ab, 0, none⟩)] (w'.drewN n) fun e w2 => e = .returned (.int .i64 ((s.A.length : Int) + (s.B.length : Int))) ∧ ∃ m, w2 = w'.drewN m) ∧
    (Calls Try.prog 16 #[.pointer (some ⟨ab, 0, none⟩)] (w'.drewN n) fun e w2 => e = .returned (.int .i64 (s.t : Int)) ∧ ∃ m, w2 = w'.drewN m) := by
  obtain ⟨F, h1, h2, h3, h4⟩ := h
  exact ⟨arc_len h1 n, quiet_left (target_at (h1.keep0 ((Keep.refl _ w').drewN n)))⟩
end

set_option maxHeartbeats 16000000 in
theorem arcBounds_walk (most : Int) (v : Value) (w : World) (wp : (Lit.int .i64 most).wf = true) (hv : ∃ l, Dos w v l) :
    Calls Try.prog 6 #[.int .i64 most, v] w fun e w' => e = .returned (.bool true) ∧ Below w.heap.size w w' := by
  obtain ⟨zs, hz⟩ := hv
  obtain ⟨ao, cap, rfl, hlen, hcs⟩ := dos_form hz
  have HZ := Lib.hid hz.2
  have HCS := Lib.hid hcs
  clear hz hcs
  generalize hlz : zs.length = len at *
  have HLZ := Lib.hid hlz
  clear hlz
  obtain ⟨c0, hc, hc2, -⟩ := i64_and most 4 (by omega)
  have hc' : bits .and .i64 most 15 = (c0 : Int) := hc
  have hc16 : c0 < 16 := hc2
  obtain ⟨c, hcc⟩ : ∃ c, c = 1 + c0 := ⟨_, rfl⟩
  have N := Lib.hid (own_new c (by omega) (by omega) w)
  have hcc' : IntKind.i64.wrap ((1 : Int) + (c0 : Int)) = (c : Int) := (IntWalk.i64_in _ (by omega)).trans (by omega)
  have hc2c : 1 ≤ c := by omega
  have hcm : c ≤ 16 := by omega
  clear hcc hc16 hc hc2
  go_enter Try.func6, Try.ntmps6
  go_upto_region 5 with (first
    | (go_at_call 9; refine N.out.mono ?_; rintro e w1 ⟨ab, b, rfl, O1⟩; replace O1 := Lib.hid O1)
    | (go_at_call 10; refine (awake_any _).mono ?_; rintro e w2 ⟨rfl, k2⟩
       have O2 := Lib.hid (O1.out.keep0 k2)))
  go_wp2_with fail
  go_loopw [8] (fun xi wr => ∃ (i T : Nat) (s : Ac), i ≤ len ∧ i ≤ 120 ∧ T ≤ 2 * i ∧ xi = .int .i64 (i : Int) ∧ Hid (ArcO.Own w wr ab b c T s)) (fun xi wr => 120 - (intOf xi).toNat)
  case atStart => exact ⟨0, 0, _, by omega, by omega, by omega, rfl, O2⟩
  case round =>
    obtain ⟨i, T, s, hi1, hi120, hT, rfl, hK⟩ := hrel
    by_cases hlt : i < len ∧ i < 120
    · obtain ⟨hlt, hlt2⟩ := hlt
      obtain ⟨z, hz⟩ : ∃ z, zs[i]? = some z := ⟨zs[i]'(by have := HLZ.out; omega), List.getElem?_eq_getElem _⟩
      obtain ⟨hz8, hz9⟩ := HZ.out z (List.mem_of_getElem? hz)
      have hkk := hK.out.kept
      rcases HCS.out with h0 | ⟨g, off, rfl, hg, hcell⟩
      · rw [h0] at hz; simp at hz
      have cz0 : wr.cell? ⟨g, off + i * 2, none⟩ = some (.int .i64 z.kind) := (hkk.cell (p := ⟨g, _, none⟩) hg (fun e => e)).trans (hcell i z hz).1
      have cz1 : wr.cell? ⟨g, off + i * 2 + 1, none⟩ = some (.string z.key) := (hkk.cell (p := ⟨g, _, none⟩) hg (fun e => e)).trans (hcell i z hz).2
      obtain ⟨x, hx⟩ : ∃ x, x = fewS z.key := ⟨_, rfl⟩
      have hx80 := fewS_le z.key
      rw [← hx] at hx80
      have HX := Lib.hid hx
      clear hz hcell hg hkk hx
      generalize z.kind = kd at *
      generalize z.key = ky at *
      go_upto_region 9 with (go_at_call 11; refine (few_any ky hz9 _).mono ?_; rintro e w4 ⟨rfl, rfl⟩; rw [← HX.out])
      by_cases h6 : kd = 6
      · subst h6
        go_upto_region 15 with (go_at_call 17; refine (own_remove hK.out x (by omega)).mono ?_; rintro e w5 ⟨rfl, O5⟩; replace O5 := Lib.hid O5)
        generalize rmA x s = s5 at *
        have HI := Lib.hid O5.out.inv
        go_upto_region 16 with (go_at_call 19; refine (own_lists O5.out).mono ?_; rintro e w6 ⟨V, rfl, O6, k6, hr6⟩
                                obtain ⟨a0, n0, h0⟩ := owns_slice (show w6.ownsRow 0 TStr 1 (V 0) s5.A.length _ from (hr6 0 (by omega)).1)
                                obtain ⟨a1, n1, h1⟩ := owns_slice (show w6.ownsRow 0 TStr 1 (V 1) s5.B.length _ from (hr6 1 (by omega)).1)
                                obtain ⟨a2, n2, h2⟩ := owns_slice (show w6.ownsRow 0 TStr 1 (V 2) s5.C.length _ from (hr6 2 (by omega)).1)
                                obtain ⟨a3, n3, h3⟩ := owns_slice (show w6.ownsRow 0 TStr 1 (V 3) s5.D.length _ from (hr6 3 (by omega)).1)
                                simp only [arr, h0, h1, h2, h3]
                                replace O6 := Lib.hid O6
                                clear hr6 h0 h1 h2 h3)
        obtain ⟨w7, hw7⟩ : ∃ W, W = w6.alloc (.cells #[.slice a0 s5.A.length n0, .slice a1 s5.B.length n1, .slice a2 s5.C.length n2, .slice a3 s5.D.length n3] 40) := ⟨_, rfl⟩
        rw [← hw7]
        have b7 : w7.heap[w6.heap.size]? = some (.cells #[.slice a0 s5.A.length n0, .slice a1 s5.B.length n1, .slice a2 s5.C.length n2, .slice a3 s5.D.length n3] 40 (0, 0)) := by rw [hw7]; exact block_new w6 _
        have k7 : Keep (fun _ => False) w6 w7 := by rw [hw7]; exact (Keep.refl _ _).alloc _
        have O7 := Lib.hid (O6.out.keep0 k7)
        have HR := Lib.hid (fun n => own_lens O7.out n)
        have f0 : w7.cell? ⟨w6.heap.size, 0, none⟩ = some (.slice a0 s5.A.length n0) := cell_at b7 0
        have f1 : w7.cell? ⟨w6.heap.size, 1, none⟩ = some (.slice a1 s5.B.length n1) := cell_at b7 1
        have f2 : w7.cell? ⟨w6.heap.size, 2, none⟩ = some (.slice a2 s5.C.length n2) := cell_at b7 2
        have f3 : w7.cell? ⟨w6.heap.size, 3, none⟩ = some (.slice a3 s5.D.length n3) := cell_at b7 3
        have i1 := HI.out.ab
        have i2 := HI.out.ac
        have i3 := HI.out.tot
        rw [all_len] at i3
        have i4 := HI.out.tl
        clear b7 hw7
        generalize s5.A.length = p at *
        generalize s5.B.length = q at *
        generalize s5.C.length = r at *
        generalize s5.D.length = u at *
        generalize s5.t = t at *
        have e1 : IntKind.i64.wrap ((p : Int) + (q : Int)) = (p : Int) + (q : Int) := IntWalk.i64_in _ (by omega)
        have e2 : IntKind.i64.wrap ((p : Int) + (r : Int)) = (p : Int) + (r : Int) := IntWalk.i64_in _ (by omega)
        have e3 : IntKind.i64.wrap ((p : Int) + (q : Int) + (r : Int)) = (p : Int) + (q : Int) + (r : Int) := IntWalk.i64_in _ (by omega)
        have e4 : IntKind.i64.wrap ((p : Int) + (q : Int) + (r : Int) + (u : Int)) = (p : Int) + (q : Int) + (r : Int) + (u : Int) := IntWalk.i64_in _ (by omega)
        have e5 : IntKind.i64.wrap ((2 : Int) * (c : Int)) = (2 : Int) * (c : Int) := IntWalk.i64_in _ (by omega)
        have d1 : decide ((c : Int) < (p : Int) + (q : Int)) = false := decide_eq_false (by omega)
        have d2 : decide ((c : Int) < (p : Int) + (r : Int)) = false := decide_eq_false (by omega)
        have d3 : decide ((2 : Int) * (c : Int) < (p : Int) + (q : Int) + (r : Int) + (u : Int)) = false := decide_eq_false (by omega)
        have d4 : decide ((t : Int) < 0) = false := decide_eq_false (by omega)
        have d5 : decide ((c : Int) < (t : Int)) = false := decide_eq_false (by omega)
        have N5 := Lib.hid (show ¬ (c : Int) < (t : Int) by omega)
        clear i1 i2 i3 i4
        go_quiet ((first | (go_at_call 13; with_reducible exact (HR.out _).1) | (go_at_call 16; with_reducible exact (HR.out _).2)))
        have n5 := N5.out
        clear d1 d2 d3 d4 d5 N5
        go_wp2_with fail
        refine ⟨⟨i + 1, _, s5, by omega, by omega, (show T ≤ 2 * (i + 1) by omega), by go_num, Lib.hid (O7.out.keep0 ((Keep.refl _ w7).drewN _))⟩, ?_⟩
        simp [intOf]
        omega
      · by_cases h7 : kd = 7
        · subst h7
          go_upto_region 15 with (go_at_call 18; refine (own_evict hK.out (by omega)).mono ?_; rintro e w5 ⟨rfl, O5⟩; replace O5 := Lib.hid O5)
          generalize (evi s).2.getD ⟨#[]⟩ = ek at *
          generalize (evi s).2.isSome = eb at *
          generalize (evi s).1 = s5 at *
          have HI := Lib.hid O5.out.inv
          go_upto_region 16 with (go_at_call 19; refine (own_lists O5.out).mono ?_; rintro e w6 ⟨V, rfl, O6, k6, hr6⟩
                                  obtain ⟨a0, n0, h0⟩ := owns_slice (show w6.ownsRow 0 TStr 1 (V 0) s5.A.length _ from (hr6 0 (by omega)).1)
                                  obtain ⟨a1, n1, h1⟩ := owns_slice (show w6.ownsRow 0 TStr 1 (V 1) s5.B.length _ from (hr6 1 (by omega)).1)
                                  obtain ⟨a2, n2, h2⟩ := owns_slice (show w6.ownsRow 0 TStr 1 (V 2) s5.C.length _ from (hr6 2 (by omega)).1)
                                  obtain ⟨a3, n3, h3⟩ := owns_slice (show w6.ownsRow 0 TStr 1 (V 3) s5.D.length _ from (hr6 3 (by omega)).1)
                                  simp only [arr, h0, h1, h2, h3]
                                  replace O6 := Lib.hid O6
                                  clear hr6 h0 h1 h2 h3)
          obtain ⟨w7, hw7⟩ : ∃ W, W = w6.alloc (.cells #[.slice a0 s5.A.length n0, .slice a1 s5.B.length n1, .slice a2 s5.C.length n2, .slice a3 s5.D.length n3] 40) := ⟨_, rfl⟩
          rw [← hw7]
          have b7 : w7.heap[w6.heap.size]? = some (.cells #[.slice a0 s5.A.length n0, .slice a1 s5.B.length n1, .slice a2 s5.C.length n2, .slice a3 s5.D.length n3] 40 (0, 0)) := by rw [hw7]; exact block_new w6 _
          have k7 : Keep (fun _ => False) w6 w7 := by rw [hw7]; exact (Keep.refl _ _).alloc _
          have O7 := Lib.hid (O6.out.keep0 k7)
          have HR := Lib.hid (fun n => own_lens O7.out n)
          have f0 : w7.cell? ⟨w6.heap.size, 0, none⟩ = some (.slice a0 s5.A.length n0) := cell_at b7 0
          have f1 : w7.cell? ⟨w6.heap.size, 1, none⟩ = some (.slice a1 s5.B.length n1) := cell_at b7 1
          have f2 : w7.cell? ⟨w6.heap.size, 2, none⟩ = some (.slice a2 s5.C.length n2) := cell_at b7 2
          have f3 : w7.cell? ⟨w6.heap.size, 3, none⟩ = some (.slice a3 s5.D.length n3) := cell_at b7 3
          have i1 := HI.out.ab
          have i2 := HI.out.ac
          have i3 := HI.out.tot
          rw [all_len] at i3
          have i4 := HI.out.tl
          clear b7 hw7
          generalize s5.A.length = p at *
          generalize s5.B.length = q at *
          generalize s5.C.length = r at *
          generalize s5.D.length = u at *
          generalize s5.t = t at *
          have e1 : IntKind.i64.wrap ((p : Int) + (q : Int)) = (p : Int) + (q : Int) := IntWalk.i64_in _ (by omega)
          have e2 : IntKind.i64.wrap ((p : Int) + (r : Int)) = (p : Int) + (r : Int) := IntWalk.i64_in _ (by omega)
          have e3 : IntKind.i64.wrap ((p : Int) + (q : Int) + (r : Int)) = (p : Int) + (q : Int) + (r : Int) := IntWalk.i64_in _ (by omega)
          have e4 : IntKind.i64.wrap ((p : Int) + (q : Int) + (r : Int) + (u : Int)) = (p : Int) + (q : Int) + (r : Int) + (u : Int) := IntWalk.i64_in _ (by omega)
          have e5 : IntKind.i64.wrap ((2 : Int) * (c : Int)) = (2 : Int) * (c : Int) := IntWalk.i64_in _ (by omega)
          have d1 : decide ((c : Int) < (p : Int) + (q : Int)) = false := decide_eq_false (by omega)
          have d2 : decide ((c : Int) < (p : Int) + (r : Int)) = false := decide_eq_false (by omega)
          have d3 : decide ((2 : Int) * (c : Int) < (p : Int) + (q : Int) + (r : Int) + (u : Int)) = false := decide_eq_false (by omega)
          have d4 : decide ((t : Int) < 0) = false := decide_eq_false (by omega)
          have d5 : decide ((c : Int) < (t : Int)) = false := decide_eq_false (by omega)
          have N5 := Lib.hid (show ¬ (c : Int) < (t : Int) by omega)
          clear i1 i2 i3 i4
          go_quiet ((first | (go_at_call 13; with_reducible exact (HR.out _).1) | (go_at_call 16; with_reducible exact (HR.out _).2)))
          have n5 := N5.out
          clear d1 d2 d3 d4 d5 N5
          go_wp2_with fail
          refine ⟨⟨i + 1, _, s5, by omega, by omega, (show T + 1 ≤ 2 * (i + 1) by omega), by go_num, Lib.hid (O7.out.keep0 ((Keep.refl _ w7).drewN _))⟩, ?_⟩
          simp [intOf]
          omega
        · go_upto_region 15 with (go_at_call 12; refine (own_insert hK.out (by omega) x (by omega)).mono ?_; rintro e w5 ⟨vo, rfl, o5, O5⟩
                                  obtain ⟨ag, gn, hvo⟩ := o5.form
                                  subst hvo
                                  clear o5
                                  replace O5 := Lib.hid O5)
          generalize (ins c x s).1 = s5 at *
          have HI := Lib.hid O5.out.inv
          go_upto_region 16 with (go_at_call 19; refine (own_lists O5.out).mono ?_; rintro e w6 ⟨V, rfl, O6, k6, hr6⟩
                                  obtain ⟨a0, n0, h0⟩ := owns_slice (show w6.ownsRow 0 TStr 1 (V 0) s5.A.length _ from (hr6 0 (by omega)).1)
                                  obtain ⟨a1, n1, h1⟩ := owns_slice (show w6.ownsRow 0 TStr 1 (V 1) s5.B.length _ from (hr6 1 (by omega)).1)
                                  obtain ⟨a2, n2, h2⟩ := owns_slice (show w6.ownsRow 0 TStr 1 (V 2) s5.C.length _ from (hr6 2 (by omega)).1)
                                  obtain ⟨a3, n3, h3⟩ := owns_slice (show w6.ownsRow 0 TStr 1 (V 3) s5.D.length _ from (hr6 3 (by omega)).1)
                                  simp only [arr, h0, h1, h2, h3]
                                  replace O6 := Lib.hid O6
                                  clear hr6 h0 h1 h2 h3)
          obtain ⟨w7, hw7⟩ : ∃ W, W = w6.alloc (.cells #[.slice a0 s5.A.length n0, .slice a1 s5.B.length n1, .slice a2 s5.C.length n2, .slice a3 s5.D.length n3] 40) := ⟨_, rfl⟩
          rw [← hw7]
          have b7 : w7.heap[w6.heap.size]? = some (.cells #[.slice a0 s5.A.length n0, .slice a1 s5.B.length n1, .slice a2 s5.C.length n2, .slice a3 s5.D.length n3] 40 (0, 0)) := by rw [hw7]; exact block_new w6 _
          have k7 : Keep (fun _ => False) w6 w7 := by rw [hw7]; exact (Keep.refl _ _).alloc _
          have O7 := Lib.hid (O6.out.keep0 k7)
          have HR := Lib.hid (fun n => own_lens O7.out n)
          have f0 : w7.cell? ⟨w6.heap.size, 0, none⟩ = some (.slice a0 s5.A.length n0) := cell_at b7 0
          have f1 : w7.cell? ⟨w6.heap.size, 1, none⟩ = some (.slice a1 s5.B.length n1) := cell_at b7 1
          have f2 : w7.cell? ⟨w6.heap.size, 2, none⟩ = some (.slice a2 s5.C.length n2) := cell_at b7 2
          have f3 : w7.cell? ⟨w6.heap.size, 3, none⟩ = some (.slice a3 s5.D.length n3) := cell_at b7 3
          have i1 := HI.out.ab
          have i2 := HI.out.ac
          have i3 := HI.out.tot
          rw [all_len] at i3
          have i4 := HI.out.tl
          clear b7 hw7
          generalize s5.A.length = p at *
          generalize s5.B.length = q at *
          generalize s5.C.length = r at *
          generalize s5.D.length = u at *
          generalize s5.t = t at *
          have e1 : IntKind.i64.wrap ((p : Int) + (q : Int)) = (p : Int) + (q : Int) := IntWalk.i64_in _ (by omega)
          have e2 : IntKind.i64.wrap ((p : Int) + (r : Int)) = (p : Int) + (r : Int) := IntWalk.i64_in _ (by omega)
          have e3 : IntKind.i64.wrap ((p : Int) + (q : Int) + (r : Int)) = (p : Int) + (q : Int) + (r : Int) := IntWalk.i64_in _ (by omega)
          have e4 : IntKind.i64.wrap ((p : Int) + (q : Int) + (r : Int) + (u : Int)) = (p : Int) + (q : Int) + (r : Int) + (u : Int) := IntWalk.i64_in _ (by omega)
          have e5 : IntKind.i64.wrap ((2 : Int) * (c : Int)) = (2 : Int) * (c : Int) := IntWalk.i64_in _ (by omega)
          have d1 : decide ((c : Int) < (p : Int) + (q : Int)) = false := decide_eq_false (by omega)
          have d2 : decide ((c : Int) < (p : Int) + (r : Int)) = false := decide_eq_false (by omega)
          have d3 : decide ((2 : Int) * (c : Int) < (p : Int) + (q : Int) + (r : Int) + (u : Int)) = false := decide_eq_false (by omega)
          have d4 : decide ((t : Int) < 0) = false := decide_eq_false (by omega)
          have d5 : decide ((c : Int) < (t : Int)) = false := decide_eq_false (by omega)
          have N5 := Lib.hid (show ¬ (c : Int) < (t : Int) by omega)
          clear i1 i2 i3 i4
          go_quiet ((first | (go_at_call 13; with_reducible exact (HR.out _).1) | (go_at_call 16; with_reducible exact (HR.out _).2)))
          have n5 := N5.out
          clear d1 d2 d3 d4 d5 N5
          go_wp2_with fail
          refine ⟨⟨i + 1, _, s5, by omega, by omega, (show T + 2 ≤ 2 * (i + 1) by omega), by go_num, Lib.hid (O7.out.keep0 ((Keep.refl _ w7).drewN _))⟩, ?_⟩
          simp [intOf]
          omega
    · have hge : ¬ i < len ∨ (i < len ∧ ¬ i < 120) := by omega
      rcases hge with h1 | ⟨h1, h2⟩
      · go_wp2_with fail
        go_ret
        exact ⟨rfl, hK.out.kept.below0⟩
      · obtain rfl : i = 120 := by omega
        go_wp2_with fail
        go_ret
        exact ⟨rfl, hK.out.kept.below0⟩

end Go.Proofs.Ytebjbkpgicbgeaa.ArcB
