/-
  Layer 13 (log): the law's own model: last, cut.
-/
import Derived.Test.YtiokngcfenfieaaLogL
import Derived.Test.YtiokngcfenfieaaMem2
namespace Go.Proofs.Ytiokngcfenfieaa.LogA
set_option linter.unusedVariables false
set_option linter.unusedSimpArgs false
set_option maxRecDepth 100000
open Go.RowKit Go.Proofs.Ytiokngcfenfieaa.Mem Go.Proofs.Ytiokngcfenfieaa.LogW Go.Proofs.Ytiokngcfenfieaa.LogV Go.Proofs.Ytiokngcfenfieaa.LogU Go.Proofs.Ytiokngcfenfieaa.LogT Go.Proofs.Ytiokngcfenfieaa.LogS Go.Proofs.Ytiokngcfenfieaa.LogL

/-- Records that are read, in a block apart from F. -/
def MRow (W : World) (F : Nat → Prop) (B : Nat) (v : Value) (rs : List Rec) : Prop :=
  ∃ ao cap, v = .slice ao rs.length cap ∧ rs.length ≤ cap ∧ cap ≤ 9223372036854775807 ∧ (rs = [] ∨ ∃ g off, ao = some ⟨g, off, none⟩ ∧ B ≤ g ∧ g < W.heap.size ∧ ¬ F g ∧ ∀ j u, (flat rs)[j]? = some u → W.cell? ⟨g, off + j, none⟩ = some u)
theorem MRow.keep {W W' : World} {F S : Nat → Prop} {B : Nat} {v : Value} {rs : List Rec} (h : MRow W F B v rs) (k : Keep S W W') (hS : ∀ i, i < W.heap.size → S i → F i) : MRow W' F B v rs := by
  obtain ⟨ao, cap, h1, h2, h9, h3⟩ := h
  refine ⟨ao, cap, h1, h2, h9, ?_⟩
  rcases h3 with h3 | ⟨g, off, h4, h5, h6, h7, h8⟩
  · exact .inl h3
  · exact .inr ⟨g, off, h4, h5, Nat.lt_of_lt_of_le h6 k.size, h7, fun j u e => (k.cell (p := ⟨g, _, none⟩) h6 (fun f => h7 (hS g h6 f))).trans (h8 j u e)⟩
theorem MRow.turn {W : World} {F F' : Nat → Prop} {B : Nat} {v : Value} {rs : List Rec} (h : MRow W F B v rs) (hF : ∀ i, i < W.heap.size → F' i → F i) : MRow W F' B v rs := by
  obtain ⟨ao, cap, h1, h2, h9, h3⟩ := h
  refine ⟨ao, cap, h1, h2, h9, ?_⟩
  rcases h3 with h3 | ⟨g, off, h4, h5, h6, h7, h8⟩
  · exact .inl h3
  · exact .inr ⟨g, off, h4, h5, h6, fun f => h7 (hF g h6 f), h8⟩

def mod (base : Nat) (v : Value) (most : Nat) : Value := .agg #[.int .u64 (base : Int), v, .int .i64 (most : Int)]
abbrev TM : TypeId := 43
theorem last_m (base n cap most : Nat) (ao : Option Addr) (hb : base ≤ 4611686018427387904) (hn : n ≤ 4611686018427387904) (w : World) :
    Calls Try.prog 16 #[mod base (.slice ao n cap) most] w fun e w' => e = .returned (.int .u64 ((base : Int) + (n : Int))) ∧ Keep (fun _ => False) w w' := by
  have e1 : IntKind.u64.wrap (n : Int) = (n : Int) := IntWalk.u64_in _ (by omega)
  have e2 : IntKind.u64.wrap ((base : Int) + (n : Int)) = (base : Int) + (n : Int) := IntWalk.u64_in _ (by omega)
  unfold mod
  go_enter Try.func16, Try.ntmps16
  go_wp2_with fail
  go_ret
  exact ⟨rfl, (Keep.refl _ _).alloc _⟩

/-- In the midst of the model's cut: so many have gone. -/
structure CutAt (W0 w wr : World) (F : Nat → Prop) (B base most : Nat) (rs : List Rec) (d : Nat) (v : Value) : Prop where
  h : wr.heap[w.heap.size]? = some (.cells #[.int .u64 ((base + d : Nat) : Int), v, .int .i64 (most : Int)] TM (0, 0))
  z : wr.heap[w.heap.size + 1]? = some (.cells #[.int .u64 0, .slice none 0 0, .int .i64 0] TM (0, 0))
  r : MRow W0 F B v (rs.drop d)
  k : Keep (fun _ => False) w wr
def gone (base : Nat) (at_ : Int) (n : Nat) : Nat := min n (at_.toNat - base)
set_option maxHeartbeats 4000000 in
theorem cut_m (base most : Nat) (rs : List Rec) (at_ : Int) (F : Nat → Prop) (B : Nat) (v : Value) (W0 w : World) (hr : MRow W0 F B v rs) (hb : base ≤ 4611686018427387904) (hn : rs.length ≤ 256) (h0 : 0 ≤ at_) (h9 : at_ ≤ 18446744073709551615) :
    Calls Try.prog 20 #[mod base v most, .int .u64 at_] w fun e w' => ∃ v', e = .returned (mod (base + gone base at_ rs.length) v' most) ∧ MRow W0 F B v' (rs.drop (gone base at_ rs.length)) ∧ Keep (fun _ => False) w w' := by
  have hr0 := hr
  obtain ⟨ao, cap, hv, hcl, hcm, -⟩ := hr0
  unfold mod
  rw [hv] at hr ⊢
  have HR := Lib.hid hr
  clear hr hv
  go_enter Try.func20, Try.ntmps20
  go_wp2_with fail
  go_loopw [5] (fun x5 wr => ∃ (d : Nat) (v' : Value), d ≤ rs.length ∧ d ≤ at_.toNat - base ∧ Hid (CutAt W0 w wr F B base most rs d v')) (fun x5 wr => base + rs.length - (intOf ((wr.cell? ⟨w.heap.size, 0, none⟩).getD undef)).toNat)
  case atStart =>
    refine ⟨0, _, by omega, by omega, Lib.hid ⟨block_alloc (block_new w _) _, block_new_at (by simp), HR.out, ((Keep.refl _ w).alloc _).alloc _⟩⟩
  case round =>
    obtain ⟨d, v', hd, hda, hC⟩ := hrel
    obtain ⟨a1, c1, hv1, hc1, hc9, hm1⟩ := hC.out.r
    rw [List.length_drop] at hv1 hc1
    subst hv1
    have b0 := hC.out.h
    have q0 : wr.cell? ⟨w.heap.size, 0, none⟩ = some (.int .u64 ((base : Int) + (d : Int))) := (cell_at b0 0).trans (by simp)
    have q1 : wr.cell? ⟨w.heap.size, 1, none⟩ = some (.slice a1 (rs.length - d) c1) := cell_at b0 1
    by_cases hmore : d < rs.length ∧ base + d < at_.toNat
    · obtain ⟨hm2, hm3⟩ := hmore
      have hne : rs.drop d ≠ [] := by intro e; have := congrArg List.length e; rw [List.length_drop] at this; simp at this; omega
      rcases hm1 with hm1 | ⟨g, off, rfl, hg1, hg2, hg3, hg4⟩
      · exact absurd hm1 hne
      obtain ⟨n1, hn1⟩ : ∃ n1, n1 = rs.length - d := ⟨_, rfl⟩
      rw [← hn1] at q1 hc1 b0
      have hn1p : 1 ≤ n1 := by omega
      have t1 : (0 : Int) < (n1 : Int) := by omega
      have t2 : (base : Int) + (d : Int) < at_ := by omega
      have t3 : IntKind.u64.wrap ((base : Int) + (d : Int) + 1) = (base : Int) + (d : Int) + 1 := IntWalk.u64_in _ (by omega)
      have f0 := free_at b0 0
      have f1 := free_at b0 1
      have b1 := block_set (w := wr.drew) b0 0 (.int .u64 ((base : Int) + (d : Int) + 1))
      have q2 := cell_at b1 1
      have f2 := free_at b1 1
      simp at q2
      have hbl := lt_of_block b0
      have HC := Lib.hid hC.out
      have HG4 := Lib.hid hg4
      have HN1 := Lib.hid hn1
      clear hC hg4 hn1 hne b0
      go_wp2_with fail
      go_region
      go_wp2_with fail
      obtain ⟨nv, hnv⟩ : ∃ nv, nv = Value.slice (if c1 = 1 then some ⟨g, off, none⟩ else some ⟨g, off + 9, none⟩) (n1 - 1) (c1 - 1) := ⟨_, rfl⟩
      rw [← hnv]
      obtain ⟨W2, hW2⟩ : ∃ W2, W2 = ((wr.setCell ⟨w.heap.size, 0, none⟩ (.int .u64 ((base : Int) + (d : Int) + 1))).setCell ⟨w.heap.size, 1, none⟩ nv).drew := ⟨_, rfl⟩
      rw [← hW2]
      have hCA : CutAt W0 w W2 F B base most rs (d + 1) nv := by
        have hz := HN1.out
        have k1 : Keep (fun j => j = w.heap.size) wr W2 := by rw [hW2]; exact (((Keep.refl (fun j => j = w.heap.size) wr).set1 _ _).set1 _ _).drew
        refine ⟨?_, (k1.block _ (lt_of_block HC.out.z) (by show ¬ w.heap.size + 1 = w.heap.size; omega)).trans HC.out.z, ?_, HC.out.k.then k1 (fun q e => by omega)⟩
        · rw [hW2]
          refine (block_set b1 1 nv).trans ?_
          simp
          omega
        · refine ⟨_, c1 - 1, by rw [hnv, List.length_drop, show rs.length - (d + 1) = n1 - 1 from by omega], by rw [List.length_drop]; omega, by omega, ?_⟩
          by_cases h1 : n1 = 1
          · left
            exact List.eq_nil_of_length_eq_zero (by rw [List.length_drop]; omega)
          · right
            rw [if_neg (by omega)]
            refine ⟨g, off + 9, rfl, hg1, hg2, hg3, fun j u hj => ?_⟩
            have e1 : (flat (rs.drop d))[9 + j]? = some u := by
              rw [flat_drop] at hj ⊢
              rw [List.getElem?_drop] at hj ⊢
              rw [← hj]
              congr 1
              omega
            have e2 := HG4.out (9 + j) u e1
            rw [show off + (9 + j) = off + 9 + j from by omega] at e2
            exact e2
      have q3 : W2.cell? ⟨w.heap.size, 0, none⟩ = some (.int .u64 ((base : Int) + (d : Int) + 1)) := (cell_at hCA.h 0).trans (by simp; omega)
      clear hW2 hnv
      have HCA := Lib.hid hCA
      clear hCA
      go_roundw
      case rel => exact ⟨d + 1, nv, by omega, by omega, HCA⟩
      case measure =>
        simp [intOf, q3, q0]
        omega
    · have hcase : rs.length - d = 0 ∨ (1 ≤ rs.length - d ∧ ¬ (base : Int) + (d : Int) < at_) := by omega
      have hgo : d = gone base at_ rs.length := by unfold gone; omega
      have HC := Lib.hid hC.out
      have f4 := hC.out.z
      have g0 : wr.cell? ⟨w.heap.size + 1, 0, none⟩ = some (.int .u64 0) := cell_at f4 0
      have g1 : wr.cell? ⟨w.heap.size + 1, 1, none⟩ = some (.slice none 0 0) := cell_at f4 1
      have g2 : wr.cell? ⟨w.heap.size + 1, 2, none⟩ = some (.int .i64 0) := cell_at f4 2
      have q2 : wr.cell? ⟨w.heap.size, 2, none⟩ = some (.int .i64 (most : Int)) := cell_at b0 2
      have y0 := free_at f4 0
      have z1 := block_set f4 0 (.int .u64 ((base : Int) + (d : Int)))
      have z2 := block_set z1 1 (.slice a1 (rs.length - d) c1)
      have x1 := cell_at z1 1
      have y1 := free_at z1 1
      have x2 := cell_at z2 2
      have y2 := free_at z2 2
      simp at x1 x2
      have z3 := block_set z2 2 (.int .i64 (most : Int))
      have Z3 := Lib.hid z3
      have HGO := Lib.hid hgo
      clear f4 z1 z2 z3 hgo hm1 hC b0
      have hlen1 : ∃ N, N = rs.length - d := ⟨_, rfl⟩
      obtain ⟨N, hN⟩ := hlen1
      simp only [← hN] at hcase q1 x2 y2 Z3 hc1
      have HN := Lib.hid hN
      clear hN
      have hfin : ∀ W3, W3 = ((wr.setCell ⟨w.heap.size + 1, 0, none⟩ (.int .u64 ((base : Int) + (d : Int)))).setCell ⟨w.heap.size + 1, 1, none⟩ (.slice a1 N c1)).setCell ⟨w.heap.size + 1, 2, none⟩ (.int .i64 (most : Int)) →
          (W3.cell? ⟨w.heap.size + 1, 0, none⟩ = some (.int .u64 ((base : Int) + (d : Int))) ∧ W3.cell? ⟨w.heap.size + 1, 1, none⟩ = some (.slice a1 N c1) ∧ W3.cell? ⟨w.heap.size + 1, 2, none⟩ = some (.int .i64 (most : Int))) ∧
          ∃ v', Ending.returned (.agg #[.int .u64 ((base : Int) + (d : Int)), .slice a1 N c1, .int .i64 (most : Int)]) = Ending.returned (mod (base + gone base at_ rs.length) v' most) ∧ MRow W0 F B v' (rs.drop (gone base at_ rs.length)) ∧ Keep (fun _ => False) w W3 := by
        rintro W3 rfl
        have k3 : Keep (fun j => j = w.heap.size + 1) wr (((wr.setCell ⟨w.heap.size + 1, 0, none⟩ (.int .u64 ((base : Int) + (d : Int)))).setCell ⟨w.heap.size + 1, 1, none⟩ (.slice a1 N c1)).setCell ⟨w.heap.size + 1, 2, none⟩ (.int .i64 (most : Int))) := (((Keep.refl (fun j => j = w.heap.size + 1) wr).set1 _ _).set1 _ _).set1 _ _
        have z := Z3.out
        have kk := HC.out.k.then k3 (fun q e => by omega)
        refine ⟨⟨(cell_at z 0).trans (by simp), (cell_at z 1).trans (by simp), (cell_at z 2).trans (by simp)⟩, .slice a1 N c1, ?_, ?_, kk⟩
        · rw [← HGO.out]
          unfold mod
          simp
        · rw [← HGO.out]
          rw [show N = rs.length - d from HN.out]; exact HC.out.r
      have HFIN := Lib.hid hfin
      clear hfin Z3
      rcases hcase with h1 | ⟨h1, h2⟩
      · subst h1
        go_wp2_with fail
        all_goals
          (obtain ⟨⟨r0, r1, r2⟩, rr⟩ := HFIN.out _ rfl
           refine bodyPost_ret (v := .agg #[.int .u64 ((base : Int) + (d : Int)), .slice a1 0 c1, .int .i64 (most : Int)]) ?_ rfl rr
           simp [results, Try.results20, go_sem, r0, r1, r2])
      · have t1 : (0 : Int) < (N : Int) := by omega
        go_wp2_with fail
        all_goals
          (obtain ⟨⟨r0, r1, r2⟩, rr⟩ := HFIN.out _ rfl
           refine bodyPost_ret (v := .agg #[.int .u64 ((base : Int) + (d : Int)), .slice a1 N c1, .int .i64 (most : Int)]) ?_ rfl rr
           simp [results, Try.results20, go_sem, r0, r1, r2])

end Go.Proofs.Ytiokngcfenfieaa.LogA
