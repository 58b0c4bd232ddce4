/-
  Layer 13 (log): the law LogPlays, its walk.
-/
import Derived.Test.YtiokngcfenfieaaLogB
import Derived.Test.YtiokngcfenfieaaOpen
import Derived.Deep.DeepCutAuto
namespace Go.Proofs.Ytiokngcfenfieaa.LogP
set_option linter.unusedVariables false
set_option linter.unusedSimpArgs false
set_option maxRecDepth 100000
open Go.Sort (grow)
open Go.RowKit Go.Proofs.Ytiokngcfenfieaa.Mask Go.Proofs.Ytiokngcfenfieaa.Mem Go.Proofs.Ytiokngcfenfieaa.LogW Go.Proofs.Ytiokngcfenfieaa.LogV Go.Proofs.Ytiokngcfenfieaa.LogU Go.Proofs.Ytiokngcfenfieaa.LogT Go.Proofs.Ytiokngcfenfieaa.LogS Go.Proofs.Ytiokngcfenfieaa.LogL Go.Proofs.Ytiokngcfenfieaa.LogA Go.Proofs.Ytiokngcfenfieaa.LogC Go.Proofs.Ytiokngcfenfieaa.LogB Go.Proofs.Ytiokngcfenfieaa.Open
attribute [-go_sem] Instr.storeAt
attribute [local go_sem] sa_u64 sa_sl

structure Do where
  kind : Int
  at_ : Int
  num : Int
def Do.cells (x : Do) : List Value := [.int .i64 x.kind, .int .u64 x.at_, .int .u64 x.num]
def Dos (W : World) (v : Value) (l : List Do) : Prop := Reads W 3 v (l.map Do.cells) ∧ ∀ x ∈ l, (Lit.int .u64 x.at_).wf = true
theorem c_int : Try.prog.cellsOf 3 = 1 := by kernel_rfl
theorem c_u64 : Try.prog.cellsOf 22 = 1 := by kernel_rfl
theorem c_act : Try.prog.cellsOf 47 = 3 := by kernel_rfl
theorem dos_open {H : Type} {enc : TypeId × Value → H} {W : World} {base b0 : Nat} {spare : Nat → Bool} {held : Bool} {r : Reach} {v : Value} {d : DataW H} {p : List MemPlace}
    (hv : Value.okWide Try.prog W r b0 41 v) (h : DataW.Trod enc Try.prog W base spare held 41 v d p) : ∃ l : List Do, Dos W v l := by
  obtain ⟨els, h1, h2⟩ := slice_open Try.underlying41 (by rw [c_act]; omega) hv h
  rw [c_act] at h1
  obtain ⟨l, rfl, hl⟩ := els_map_of (f := Do.cells) (q := fun x => (Lit.int .u64 x.at_).wf = true) (els := els) (fun cs hcs => by
    obtain ⟨hlen, n, x, hx⟩ := h2 cs hcs
    rw [c_act] at hlen
    obtain ⟨xs, m, _, _, _, hxl, hg⟩ := DataW.trod_struct Try.underlying47 hx
    have hxl' : xs.length = 3 := hxl
    match cs, hlen with
    | [c0, c1, c2], _ =>
      have g0 := hg 0
      have g1 := hg 1
      have g2 := hg 2
      simp [c_int, c_u64] at g0 g1 g2
      rw [List.getElem?_eq_getElem (by omega)] at g0 g1 g2
      obtain ⟨a, e0, _, w0⟩ := DataW.trod_int Try.underlying3 g0
      obtain ⟨b, e1, _, w1⟩ := DataW.trod_int Try.underlying22 g1
      obtain ⟨c, e2, _, w2⟩ := DataW.trod_int Try.underlying22 g2
      simp only [List.cons.injEq, and_true] at e0 e1 e2
      subst e0 e1 e2
      exact ⟨⟨a, b, c⟩, rfl, w1⟩)
  exact ⟨l, h1, hl⟩
theorem dos_form {W : World} {v : Value} {l : List Do} (h : Dos W v l) :
    ∃ ao cap, v = .slice ao l.length cap ∧ l.length ≤ 9223372036854775807 ∧ (l = [] ∨ ∃ g off, ao = some ⟨g, off, none⟩ ∧ g < W.heap.size ∧ ∀ (i : Nat) (x : Do), l[i]? = some x → W.cell? ⟨g, off + i * 3, none⟩ = some (.int .i64 x.kind) ∧ W.cell? ⟨g, off + i * 3 + 1, none⟩ = some (.int .u64 x.at_) ∧ W.cell? ⟨g, off + i * 3 + 2, none⟩ = some (.int .u64 x.num)) := by
  obtain ⟨⟨ao, cap, h1, h2, h3, h4⟩, h5⟩ := h
  rw [List.length_map] at h1 h2
  refine ⟨ao, cap, h1, h2, ?_⟩
  rcases h4 with h4 | ⟨g, off, h6, h7, h8⟩
  · exact .inl (by simpa using h4)
  · refine .inr ⟨g, off, h6, h7, fun i x hx => ?_⟩
    have e : (l.map Do.cells)[i]? = some x.cells := by rw [List.getElem?_map, hx]; rfl
    exact ⟨h8 i _ e 0 _ rfl, h8 i _ e 1 _ rfl, h8 i _ e 2 _ rfl⟩

/-- The log and the model, at play. -/
structure Pl (w wr : World) (F : Nat → Prop) (b M most base : Nat) (v : Value) (rs : List Rec) : Prop where
  l : LogAt wr F b most base rs
  r : MRow wr F w.heap.size v rs
  m : wr.heap[M]? = some (.cells #[.int .u64 (base : Int), v, .int .i64 (most : Int)] TM (0, 0))
  n : ¬ F M
  f : ∀ i, F i → w.heap.size ≤ i
  hM : w.heap.size ≤ M
  k : Keep (fun _ => False) w wr
  h : rs.length ≤ most

theorem Pl.keep0 {w wr w2 : World} {F : Nat → Prop} {b M most base : Nat} {v : Value} {rs : List Rec} (h : Pl w wr F b M most base v rs) (k : Keep (fun _ => False) wr w2) : Pl w w2 F b M most base v rs :=
  ⟨h.l.keep k (fun _ _ e => e), h.r.keep k (fun _ _ e => e.elim), (k.block _ (lt_of_block h.m) (fun e => e)).trans h.m, h.n, h.f, h.hM, h.k.trans k, h.h⟩

theorem MRow.apart {W : World} {F : Nat → Prop} {B K : Nat} {v : Value} {rs : List Rec} {cs : Array Value} {T : TypeId} {fr : Nat × Nat} (h : MRow W F B v rs) (hK : W.heap[K]? = some (.cells cs T fr)) (hs : cs.size ≤ 8) : MRow W (fun i => F i ∨ i = K) B v rs := by
  obtain ⟨ao, cap, h1, h2, h9, h3⟩ := h
  refine ⟨ao, cap, h1, h2, h9, ?_⟩
  cases rs with
  | nil => exact .inl rfl
  | cons r rs =>
    rcases h3 with h3 | ⟨g, off, h4, h5, h6, h7, h8⟩
    · exact .inl h3
    · refine .inr ⟨g, off, h4, h5, h6, fun f => f.elim h7 (fun e => ?_), h8⟩
      subst e
      have h10 := h8 8 (.int .u64 r.ver) (by simp [flat, Rec.cells])
      rw [cell_at hK, Array.getElem?_eq_none (by omega)] at h10
      cases h10
/-- Behind a round's 'do': the log, the model in its new box and in its old one. -/
def Nx (w W : World) (b M K most base : Nat) (rs : List Rec) (b4 : Nat) (v4 : Value) : Prop :=
  ∃ F' rs', LogAt W F' b most b4 rs' ∧ MRow W F' w.heap.size v4 rs' ∧ (∃ a0 v0 c0, W.heap[M]? = some (.cells #[.int .u64 a0, v0, .int .i64 c0] TM (0, 0))) ∧ W.heap[K]? = some (.cells #[.int .u64 (b4 : Int), v4, .int .i64 (most : Int)] TM (0, 0)) ∧ ¬ F' M ∧ K ≠ M ∧ (∀ i, F' i → w.heap.size ≤ i) ∧ w.heap.size ≤ M ∧ Keep (fun _ => False) w W ∧ rs'.length ≤ most ∧ b4 + rs'.length ≤ base + rs.length + 1
theorem Nx.mk {w wr wc w4 wk : World} {F : Nat → Prop} {b M K most base b4 : Nat} {v v4 : Value} {rs : List Rec} {cs : Array Value} (hP : Pl w wr F b M most base v rs) (k0 : Keep (fun _ => False) wr wc) (hD : Did wc w4 F b most base rs w.heap.size b4 v4) (kk : Keep (fun _ => False) w4 wk)
    (hz : wk.heap[K]? = some (.cells cs TM (0, 0))) (hcs : cs.size = 3) (hK : K = w4.heap.size ∨ (wr.heap.size ≤ K ∧ K < wc.heap.size)) : Nx w (wk.setCells K 0 [.int .u64 (b4 : Int), v4, .int .i64 (most : Int)]) b M K most base rs b4 v4 := by
  obtain ⟨F', rs', l, r, f, k, h1, h2, h3⟩ := hD
  have s0 := k0.size
  have s1 := k.size
  have s2 := kk.size
  have sw := hP.k.size
  have hMw := lt_of_block hP.m
  have hKF : ¬ F' K := fun e => by
    have h5 := l.foot K e
    rcases hK with h6 | ⟨h6, h7⟩
    · omega
    · rcases f K e with h8 | h8
      · have := hP.l.foot K h8; omega
      · omega
  have hKM : K ≠ M := by rcases hK with h6 | ⟨h6, h7⟩ <;> omega
  have hMF : ¬ F' M := fun e => by
    rcases f M e with h8 | h8
    · exact hP.n h8
    · omega
  have kK : Keep (fun j => j = K) wk (wk.setCells K 0 [.int .u64 (b4 : Int), v4, .int .i64 (most : Int)]) := Keep.setCells (S := fun j => j = K) (.inl rfl) _ _ _ (Keep.refl _ _)
  have hF9 : ∀ i, F' i → w.heap.size ≤ i := fun i e => (f i e).elim (hP.f i) (fun h => by omega)
  refine ⟨F', rs', (l.keep kk (fun _ _ e => e)).keep kK (fun i e h => hKF (by rw [← h]; exact e)), ((MRow.apart (r.keep kk (fun _ _ e => e.elim)) hz (by omega)).keep kK (fun i _ e => .inr e)).turn (fun i _ e => .inl e), ?_, ?_, hMF, hKM, hF9, hP.hM, ?_, h1, h3⟩
  · exact ⟨_, _, _, (kK.block _ (by omega) (fun e => hKM e.symm)).trans ((kk.block _ (by omega) (fun e => e)).trans ((k.block _ (by omega) hP.n).trans ((k0.block _ hMw (fun e => e)).trans hP.m)))⟩
  · rw [block_setCells _ wk cs 0 hz]
    have := put_row cs #[.int .u64 (b4 : Int), v4, .int .i64 (most : Int)] (by rw [hcs]; rfl)
    rw [← this]
  · refine (((hP.k.trans k0).then k (fun i e => hP.f i e)).trans kk).then kK (fun i e => ?_)
    rcases hK with h6 | ⟨h6, h7⟩ <;> omega

set_option maxHeartbeats 64000000 in
theorem logPlays_walk (base most : Int) (v : Value) (w : World) (wb : (Lit.int .u64 base).wf = true) (wm : (Lit.int .i64 most).wf = true) (hv : ∃ l, Dos w v l) :
    Calls Try.prog 6 #[.int .u64 base, .int .i64 most, v] w fun e w' => e = .returned (.bool true) ∧ Below w.heap.size w w' := by
  obtain ⟨zs, hz⟩ := hv
  obtain ⟨ao, cap, rfl, hlen, hcs⟩ := dos_form hz
  have HZ := Lib.hid hz.2
  have HCS := Lib.hid hcs
  clear hz hcs
  generalize hlz : zs.length = len at *
  have HLZ := Lib.hid hlz
  clear hlz
  obtain ⟨c0, hc, hc2, -⟩ := i64_and most 4 (by omega)
  have hc' : bits .and .i64 most 15 = (c0 : Int) := hc
  have hc16 : c0 < 16 := hc2
  obtain ⟨c, hcc⟩ : ∃ c, c = 1 + c0 := ⟨_, rfl⟩
  have hcc' : IntKind.i64.wrap ((1 : Int) + (c0 : Int)) = (c : Int) := (IntWalk.i64_in _ (by omega)).trans (by omega)
  have hc1 : 1 ≤ c := by omega
  have hcm : c ≤ 16 := by omega
  obtain ⟨b0, hb, hb2, -⟩ := u64_and_mask base 16 (by omega)
  have hb' : bits .and .u64 base 65535 = (b0 : Int) := hb
  have hb16 : b0 < 65536 := hb2
  clear hcc hc16 hc hc2 hb hb2
  have N := Lib.hid (new_at b0 c hc1 (by omega) w)
  go_enter Try.func6, Try.ntmps6
  go_upto_region 3 with (go_at_call 8; refine N.out.mono ?_; rintro e w1 ⟨rfl, l1, k1⟩; replace l1 := Lib.hid l1; replace k1 := Lib.hid k1)
  have st := store_mod (block_new w1 (.cells #[.int .u64 0, .slice none 0 0, .int .i64 0] TM)) rfl (b0 : Int) (c : Int) none 0 0
  have bM := mod_block (block_new w1 (.cells #[.int .u64 0, .slice none 0 0, .int .i64 0] TM)) rfl (b0 : Int) (c : Int) (.slice none 0 0)
  go_upto_region 4 with fail
  obtain ⟨w2, hw2⟩ : ∃ w2, w2 = (w1.alloc (.cells #[.int .u64 0, .slice none 0 0, .int .i64 0] TM)).setCells w1.heap.size 0 [.int .u64 (b0 : Int), .slice none 0 0, .int .i64 (c : Int)] := ⟨_, rfl⟩
  rw [← hw2]
  rw [← hw2] at bM
  have k12 : Keep (fun _ => False) w1 w2 := by rw [hw2]; exact Keep.setCells (S := fun _ => False) (.inr (Nat.le_refl _)) _ _ _ ((Keep.refl _ w1).alloc _)
  obtain ⟨M, hM⟩ : ∃ M, M = w1.heap.size := ⟨_, rfl⟩
  rw [← hM] at bM ⊢
  have P2 : Pl w w2 (fun k => k = w.heap.size) w.heap.size M c b0 (.slice none 0 0) [] := by
    have := k1.out.size
    have := lt_of_block l1.out.choose_spec.1
    refine ⟨l1.out.keep k12 (fun _ _ e => e), ⟨none, 0, rfl, Nat.le_refl _, by omega, .inl rfl⟩, bM, by omega, fun i e => by omega, by omega, k1.out.trans k12, Nat.zero_le _⟩
  have HP2 := Lib.hid P2
  clear st bM hw2 k12 hM P2
  go_wp2_with (go_at_call 9; refine (awake_any _).mono ?_; rintro e w3 ⟨rfl, k3⟩; replace k3 := Lib.hid k3)
  have HP3 := Lib.hid (HP2.out.keep0 k3.out)
  go_loopw [12] (fun xi wr => ∃ (i bs : Nat) (F : Nat → Prop) (v : Value) (rs : List Rec), i ≤ len ∧ i ≤ 60 ∧ bs + rs.length ≤ 65536 + i ∧ xi = .int .i64 (i : Int) ∧ Hid (Pl w wr F w.heap.size M c bs v rs)) (fun xi wr => 60 - (intOf xi).toNat)
  case atStart => exact ⟨0, b0, _, _, [], by omega, by omega, by simp; omega, rfl, HP3⟩
  case round =>
    obtain ⟨i, bs, F, v, rs, hi1, hi60, hbs, rfl, hP⟩ := hrel
    by_cases hlt : i < len ∧ i < 60
    · obtain ⟨hlt, hlt2⟩ := hlt
      obtain ⟨z, hz⟩ : ∃ z, zs[i]? = some z := ⟨zs[i]'(by have := HLZ.out; omega), List.getElem?_eq_getElem _⟩
      obtain ⟨za0, za9⟩ := bounds_u64 (HZ.out z (List.mem_of_getElem? hz))
      have hkk := hP.out.k
      rcases HCS.out with h0 | ⟨g, off, rfl, hg, hcell⟩
      · rw [h0] at hz; simp at hz
      have hz3 : ∀ W, Keep (fun _ => False) wr W → W.cell? ⟨g, off + i * 3, none⟩ = some (.int .i64 z.kind) ∧ W.cell? ⟨g, off + i * 3 + 1, none⟩ = some (.int .u64 z.at_) ∧ W.cell? ⟨g, off + i * 3 + 2, none⟩ = some (.int .u64 z.num) := fun W kW => by
        have k := hkk.trans kW
        obtain ⟨a, b, c⟩ := hcell i z hz
        exact ⟨(k.cell (p := ⟨g, _, none⟩) hg (fun e => e)).trans a, (k.cell (p := ⟨g, _, none⟩) hg (fun e => e)).trans b, (k.cell (p := ⟨g, _, none⟩) hg (fun e => e)).trans c⟩
      have HZ3 := Lib.hid hz3
      have HGW := Lib.hid hg
      clear hz3 hz hcell hg hkk
      generalize z.kind = kd at *
      generalize z.at_ = za at *
      generalize z.num = zn at *
      obtain ⟨av, n, cv, hv, hn⟩ := mrow_form hP.out.r
      subst hv
      have HN := Lib.hid hn
      clear hn
      go_upto_region 9 with fail
      have hS : ∀ w', Keep F wr w' → w'.cell? ⟨M, 0, none⟩ = some (.int .u64 (bs : Int)) ∧ w'.cell? ⟨M, 1, none⟩ = some (.slice av n cv) ∧ w'.cell? ⟨M, 2, none⟩ = some (.int .i64 (c : Int)) ∧ w'.cell? ⟨g, off + i * 3, none⟩ = some (.int .i64 kd) ∧ w'.cell? ⟨g, off + i * 3 + 1, none⟩ = some (.int .u64 za) ∧ w'.cell? ⟨g, off + i * 3 + 2, none⟩ = some (.int .u64 zn) := fun w' k => by
        have b := (k.block _ (lt_of_block hP.out.m) hP.out.n).trans hP.out.m
        obtain ⟨a1, a2, a3⟩ := HZ3.out wr (Keep.refl _ _)
        have hgw := HGW.out
        have hgF : ¬ F g := fun f => by have := hP.out.f _ f; omega
        have hgs : g < wr.heap.size := Nat.lt_of_lt_of_le hgw hP.out.k.size
        exact ⟨cell_at b 0, cell_at b 1, cell_at b 2, (k.cell (p := ⟨g, _, none⟩) hgs hgF).trans a1, (k.cell (p := ⟨g, _, none⟩) hgs hgF).trans a2, (k.cell (p := ⟨g, _, none⟩) hgs hgF).trans a3⟩
      have HS := Lib.hid hS
      clear hS
      go_cut [13, 14] (fun x13 x14 W => ∃ (K b4 : Nat) (v4 : Value), x13 = .pointer (some ⟨K, 0, none⟩) ∧ x14 = .bool true ∧ Hid (Nx w W w.heap.size M K c bs rs b4 v4))
      case first =>
        refine wp_region_held_drew (S := (fun w' => Keep F wr w')) (by kernel_rfl) ?_ (fun hHeld => ?_)
        · exact (Keep.refl F wr).drew
        refine wpAnyH_take (i := 0) (oi := { dst := some 49, op := Op.load TM (Operand.tmp 11), type := TM, pos := "law.go:79", after := #[], guard := none }) (v := .agg #[.int .u64 (bs : Int), .slice av n cv, .int .i64 (c : Int)]) rfl (by kernel_rfl) (by kernel_rfl) (by kernel_rfl) (fun _ _ _ h => h) (Or.inl ⟨by rfl, ?_⟩) (by assumption) ?_
        · (intro w' hSw; (try dsimp only at hSw); obtain ⟨x0, x1, x2, x3, x4, x5⟩ := HS.out w' hSw; go_simp)
        try simp only [Act.put, List.setIfInBounds_toArray, List.set_cons_zero, List.set_cons_succ]
        refine wpAnyH_take (i := 1) (oi := { dst := some 50, op := Op.move (Operand.tmp 9), type := 24, pos := "law.go:79", after := #[], guard := none }) (v := .pointer (some ⟨w.heap.size, 0, none⟩)) rfl (by kernel_rfl) (by kernel_rfl) (by kernel_rfl) (fun _ _ _ h => h) (Or.inl ⟨by rfl, ?_⟩) (by assumption) ?_
        · (intro w' hSw; (try dsimp only at hSw); go_simp)
        try simp only [Act.put, List.setIfInBounds_toArray, List.set_cons_zero, List.set_cons_succ]
        refine wpAnyH_take (i := 2) (oi := { dst := some 51, op := Op.move (Operand.tmp 2), type := 41, pos := "law.go:79", after := #[], guard := none }) (v := .slice (some ⟨g, off, none⟩) len cap) rfl (by kernel_rfl) (by kernel_rfl) (by kernel_rfl) (fun _ _ _ h => h) (Or.inl ⟨by rfl, ?_⟩) (by assumption) ?_
        · (intro w' hSw; (try dsimp only at hSw); go_simp)
        try simp only [Act.put, List.setIfInBounds_toArray, List.set_cons_zero, List.set_cons_succ]
        refine wpAnyH_take (i := 3) (oi := { dst := some 52, op := Op.move (Operand.tmp 12), type := 3, pos := "law.go:79", after := #[], guard := none }) (v := .int .i64 (i : Int)) rfl (by kernel_rfl) (by kernel_rfl) (by kernel_rfl) (fun _ _ _ h => h) (Or.inl ⟨by rfl, ?_⟩) (by assumption) ?_
        · (intro w' hSw; (try dsimp only at hSw); go_simp)
        try simp only [Act.put, List.setIfInBounds_toArray, List.set_cons_zero, List.set_cons_succ]
        refine wpAnyH_take (i := 4) (oi := { dst := some 53, op := Op.indexAddr 41 (Operand.tmp 51) (Operand.tmp 52), type := 0, pos := "law.go:79", after := #[{ on := 2, ground := Ground.data }, { on := 3, ground := Ground.data }], guard := none }) (v := .pointer (some ⟨g, off + i * 3, none⟩)) rfl (by kernel_rfl) (by kernel_rfl) (by kernel_rfl) (fun _ _ _ h => h) (Or.inl ⟨by rfl, ?_⟩) (by assumption) ?_
        · (intro w' hSw; (try dsimp only at hSw); go_simp)
        try simp only [Act.put, List.setIfInBounds_toArray, List.set_cons_zero, List.set_cons_succ]
        refine wpAnyH_take (i := 5) (oi := { dst := some 54, op := Op.load 47 (Operand.tmp 53), type := 47, pos := "law.go:79", after := #[{ on := 4, ground := Ground.data }], guard := none }) (v := .agg #[.int .i64 kd, .int .u64 za, .int .u64 zn]) rfl (by kernel_rfl) (by kernel_rfl) (by kernel_rfl) (fun _ _ _ h => h) (Or.inl ⟨by rfl, ?_⟩) (by assumption) ?_
        · (intro w' hSw; (try dsimp only at hSw); obtain ⟨x0, x1, x2, x3, x4, x5⟩ := HS.out w' hSw; go_simp)
        try simp only [Act.put, List.setIfInBounds_toArray, List.set_cons_zero, List.set_cons_succ]
        refine wpAnyH_ready (rs := [6, 10]) (by kernel_rfl) (by simp) ?_
        refine AllReadyH.cons (o := { dst := some 55, op := Op.call { callee := Callee.value (Operand.func 15), args := #[Operand.tmp 49, Operand.tmp 50, Operand.tmp 54], argTypes := #[TM, 24, 47] }, type := 44, pos := "law.go:79", after := #[{ on := 0, ground := Ground.data }, { on := 1, ground := Ground.data }, { on := 5, ground := Ground.data }], guard := none }) rfl (fun K hK => ?_) ?_
        · skip
          have k0 : Keep (fun _ => False) wr (wr.drew) := (Keep.refl _ _).drew
          have hD0 := do_any bs c n cv av w.heap.size kd za zn (wr.drew) F w.heap.size rs HN.out (hP.out.l.keep k0 (fun _ _ e => e)) (hP.out.r.keep k0 (fun _ _ e => e.elim)) (by have := hP.out.k.size; have := k0.size; omega) (by omega) hc1 (by omega) (by have := hP.out.h; have := HN.out; omega) za0 za9 (fun i f => Nat.lt_of_lt_of_le (hP.out.l.foot i f) k0.size)
          unfold mod actv at hD0
          replace hD0 := Lib.hid hD0
          go_simp
          go_at_call 15
          refine hD0.out.mono ?_
          clear hD0
          rintro e w4 ⟨b4, v4, rfl, hD⟩
          have hD5 := hD
          obtain ⟨F4, rs4, l4, r4, f4, k4, -⟩ := hD5
          obtain ⟨a5, n5, c5, hv5, hn5⟩ := mrow_form r4
          subst hv5
          clear hn5 l4 r4 f4
          go_simp
          refine hK.out _ _ ((k0.toAny.trans k4)) (fun hHeld => ?_)
          clear hK K
          try simp only [Act.put, List.setIfInBounds_toArray, List.set_cons_zero, List.set_cons_succ]
          refine wpAnyH_take (i := 7) (oi := { dst := some 48, op := Op.move (Operand.tmp 55), type := 44, pos := "law.go:79", after := #[{ on := 6, ground := Ground.data }], guard := none }) (v := .tuple #[.agg #[.int .u64 (b4 : Int), .slice a5 n5 c5, .int .i64 (c : Int)], .bool true]) rfl (by kernel_rfl) (by kernel_rfl) (by kernel_rfl) (fun _ _ _ h => h) (Or.inl ⟨by rfl, ?_⟩) (by assumption) ?_
          · (intro w' hSw; (try dsimp only at hSw); go_simp)
          try simp only [Act.put, List.setIfInBounds_toArray, List.set_cons_zero, List.set_cons_succ]
          refine wpAnyH_take (i := 8) (oi := { dst := some 56, op := Op.extract (Operand.tmp 48) 0, type := TM, pos := "law.go:79", after := #[{ on := 7, ground := Ground.data }], guard := none }) (v := .agg #[.int .u64 (b4 : Int), .slice a5 n5 c5, .int .i64 (c : Int)]) rfl (by kernel_rfl) (by kernel_rfl) (by kernel_rfl) (fun _ _ _ h => h) (Or.inl ⟨by rfl, ?_⟩) (by assumption) ?_
          · (intro w' hSw; (try dsimp only at hSw); go_simp)
          try simp only [Act.put, List.setIfInBounds_toArray, List.set_cons_zero, List.set_cons_succ]
          refine wpAnyH_take (i := 9) (oi := { dst := some 57, op := Op.extract (Operand.tmp 48) 1, type := 4, pos := "law.go:79", after := #[{ on := 7, ground := Ground.data }, { on := 11, ground := Ground.gcOnly Departure.lateStores }], guard := none }) (v := .bool true) rfl (by kernel_rfl) (by kernel_rfl) (by kernel_rfl) (fun _ _ _ h => h) (Or.inl ⟨by rfl, ?_⟩) (by assumption) ?_
          · (intro w' hSw; (try dsimp only at hSw); go_simp)
          try simp only [Act.put, List.setIfInBounds_toArray, List.set_cons_zero, List.set_cons_succ]
          refine wpAnyH_ready (rs := [10]) (by kernel_rfl) (by simp) ?_
          refine AllReadyH.cons (o := { dst := some 13, op := Op.alloc TM, type := 0, pos := "law.go:79", after := #[], guard := none }) rfl (fun K hK => ?_) AllReadyH.nil
          go_simp
          refine hK.out _ _ (((k0.toAny.trans k4).alloc _)) (fun hHeld => ?_)
          clear hK K
          try simp only [Act.put, List.setIfInBounds_toArray, List.set_cons_zero, List.set_cons_succ]
          have st := store_mod (block_new w4 (.cells #[.int .u64 0, .slice none 0 0, .int .i64 0] TM)) rfl (b4 : Int) (c : Int) a5 n5 c5
          refine wpAnyH_ready (rs := [11]) (by kernel_rfl) (by simp) ?_
          refine AllReadyH.cons (o := { dst := none, op := Op.store TM (Operand.tmp 13) (Operand.tmp 56), type := 0, pos := "law.go:79", after := #[{ on := 10, ground := Ground.data }, { on := 8, ground := Ground.data }, { on := 6, ground := Ground.chain }, { on := 0, ground := Ground.phase }, { on := 1, ground := Ground.phase }, { on := 2, ground := Ground.phase }, { on := 3, ground := Ground.phase }, { on := 4, ground := Ground.phase }, { on := 5, ground := Ground.phase }, { on := 6, ground := Ground.phase }, { on := 7, ground := Ground.phase }, { on := 8, ground := Ground.phase }, { on := 9, ground := Ground.textOnly Departure.lateStores }, { on := 10, ground := Ground.phase }], guard := none }) rfl (fun K hK => ?_) AllReadyH.nil
          go_simp
          refine hK.out _ _ (Keep.setCells (.inr (by have := k0.size; have := k4.size; omega)) _ _ _ ((k0.toAny.trans k4).alloc _)) (fun hHeld => ?_)
          clear hK K
          try simp only [Act.put, List.setIfInBounds_toArray, List.set_cons_zero, List.set_cons_succ]
          refine wpAnyH_take (i := 12) (oi := { dst := some 14, op := Op.assign (Operand.tmp 57), type := 4, pos := "law.go:79", after := #[{ on := 9, ground := Ground.data }, { on := 11, ground := Ground.chain }, { on := 0, ground := Ground.phase }, { on := 1, ground := Ground.phase }, { on := 2, ground := Ground.phase }, { on := 3, ground := Ground.phase }, { on := 4, ground := Ground.phase }, { on := 5, ground := Ground.phase }, { on := 6, ground := Ground.phase }, { on := 7, ground := Ground.phase }, { on := 8, ground := Ground.phase }, { on := 9, ground := Ground.phase }, { on := 10, ground := Ground.phase }, { on := 11, ground := Ground.phase }], guard := none }) (v := .bool true) rfl (by kernel_rfl) (by kernel_rfl) (by kernel_rfl) (fun _ _ _ h => h) (Or.inl ⟨by rfl, ?_⟩) (by assumption) ?_
          · (intro w' hSw; (try dsimp only at hSw); go_simp)
          try simp only [Act.put, List.setIfInBounds_toArray, List.set_cons_zero, List.set_cons_succ]
          refine wpAnyH_done (by kernel_rfl) ?_ _
          go_wp2_with fail
          go_meet
          exact ⟨_, b4, _, rfl, rfl, Lib.hid (Nx.mk hP.out k0 hD ((Keep.refl _ w4).alloc _) (block_new w4 (.cells #[.int .u64 0, .slice none 0 0, .int .i64 0] TM)) rfl (.inl rfl))⟩
        refine AllReadyH.cons (o := { dst := some 13, op := Op.alloc TM, type := 0, pos := "law.go:79", after := #[], guard := none }) rfl (fun K hK => ?_) AllReadyH.nil
        go_simp
        refine hK.out _ _ (((Keep.refl F wr).alloc _).drew) (fun hHeld => ?_)
        clear hK K
        try simp only [Act.put, List.setIfInBounds_toArray, List.set_cons_zero, List.set_cons_succ]
        refine wpAnyH_ready (rs := [6]) (by kernel_rfl) (by simp) ?_
        refine AllReadyH.cons (o := { dst := some 55, op := Op.call { callee := Callee.value (Operand.func 15), args := #[Operand.tmp 49, Operand.tmp 50, Operand.tmp 54], argTypes := #[TM, 24, 47] }, type := 44, pos := "law.go:79", after := #[{ on := 0, ground := Ground.data }, { on := 1, ground := Ground.data }, { on := 5, ground := Ground.data }], guard := none }) rfl (fun K hK => ?_) AllReadyH.nil
        have k0 : Keep (fun _ => False) wr ((wr.alloc (.cells #[.int .u64 0, .slice none 0 0, .int .i64 0] TM)).drew) := ((Keep.refl _ _).alloc _).drew
        have hD0 := do_any bs c n cv av w.heap.size kd za zn ((wr.alloc (.cells #[.int .u64 0, .slice none 0 0, .int .i64 0] TM)).drew) F w.heap.size rs HN.out (hP.out.l.keep k0 (fun _ _ e => e)) (hP.out.r.keep k0 (fun _ _ e => e.elim)) (by have := hP.out.k.size; have := k0.size; omega) (by omega) hc1 (by omega) (by have := hP.out.h; have := HN.out; omega) za0 za9 (fun i f => Nat.lt_of_lt_of_le (hP.out.l.foot i f) k0.size)
        unfold mod actv at hD0
        replace hD0 := Lib.hid hD0
        go_simp
        go_at_call 15
        refine hD0.out.mono ?_
        clear hD0
        rintro e w4 ⟨b4, v4, rfl, hD⟩
        have hD5 := hD
        obtain ⟨F4, rs4, l4, r4, f4, k4, -⟩ := hD5
        obtain ⟨a5, n5, c5, hv5, hn5⟩ := mrow_form r4
        subst hv5
        clear hn5 l4 r4 f4
        go_simp
        refine hK.out _ _ ((k0.toAny.trans k4)) (fun hHeld => ?_)
        clear hK K
        try simp only [Act.put, List.setIfInBounds_toArray, List.set_cons_zero, List.set_cons_succ]
        have bz : w4.heap[wr.heap.size]? = some (.cells #[.int .u64 0, .slice none 0 0, .int .i64 0] TM (0, 0)) := (k4.block _ (by simp) (fun f => by have := hP.out.l.foot _ f; omega)).trans (block_drew (block_new wr _))
        refine wpAnyH_take (i := 7) (oi := { dst := some 48, op := Op.move (Operand.tmp 55), type := 44, pos := "law.go:79", after := #[{ on := 6, ground := Ground.data }], guard := none }) (v := .tuple #[.agg #[.int .u64 (b4 : Int), .slice a5 n5 c5, .int .i64 (c : Int)], .bool true]) rfl (by kernel_rfl) (by kernel_rfl) (by kernel_rfl) (fun _ _ _ h => h) (Or.inl ⟨by rfl, ?_⟩) (by assumption) ?_
        · (intro w' hSw; (try dsimp only at hSw); go_simp)
        try simp only [Act.put, List.setIfInBounds_toArray, List.set_cons_zero, List.set_cons_succ]
        refine wpAnyH_take (i := 8) (oi := { dst := some 56, op := Op.extract (Operand.tmp 48) 0, type := TM, pos := "law.go:79", after := #[{ on := 7, ground := Ground.data }], guard := none }) (v := .agg #[.int .u64 (b4 : Int), .slice a5 n5 c5, .int .i64 (c : Int)]) rfl (by kernel_rfl) (by kernel_rfl) (by kernel_rfl) (fun _ _ _ h => h) (Or.inl ⟨by rfl, ?_⟩) (by assumption) ?_
        · (intro w' hSw; (try dsimp only at hSw); go_simp)
        try simp only [Act.put, List.setIfInBounds_toArray, List.set_cons_zero, List.set_cons_succ]
        refine wpAnyH_take (i := 9) (oi := { dst := some 57, op := Op.extract (Operand.tmp 48) 1, type := 4, pos := "law.go:79", after := #[{ on := 7, ground := Ground.data }, { on := 11, ground := Ground.gcOnly Departure.lateStores }], guard := none }) (v := .bool true) rfl (by kernel_rfl) (by kernel_rfl) (by kernel_rfl) (fun _ _ _ h => h) (Or.inl ⟨by rfl, ?_⟩) (by assumption) ?_
        · (intro w' hSw; (try dsimp only at hSw); go_simp)
        try simp only [Act.put, List.setIfInBounds_toArray, List.set_cons_zero, List.set_cons_succ]
        have st := store_mod (bz) rfl (b4 : Int) (c : Int) a5 n5 c5
        refine wpAnyH_ready (rs := [11]) (by kernel_rfl) (by simp) ?_
        refine AllReadyH.cons (o := { dst := none, op := Op.store TM (Operand.tmp 13) (Operand.tmp 56), type := 0, pos := "law.go:79", after := #[{ on := 10, ground := Ground.data }, { on := 8, ground := Ground.data }, { on := 6, ground := Ground.chain }, { on := 0, ground := Ground.phase }, { on := 1, ground := Ground.phase }, { on := 2, ground := Ground.phase }, { on := 3, ground := Ground.phase }, { on := 4, ground := Ground.phase }, { on := 5, ground := Ground.phase }, { on := 6, ground := Ground.phase }, { on := 7, ground := Ground.phase }, { on := 8, ground := Ground.phase }, { on := 9, ground := Ground.textOnly Departure.lateStores }, { on := 10, ground := Ground.phase }], guard := none }) rfl (fun K hK => ?_) AllReadyH.nil
        go_simp
        refine hK.out _ _ (Keep.setCells (.inr (Nat.le_refl _)) _ _ _ (k0.toAny.trans k4)) (fun hHeld => ?_)
        clear hK K
        try simp only [Act.put, List.setIfInBounds_toArray, List.set_cons_zero, List.set_cons_succ]
        refine wpAnyH_take (i := 12) (oi := { dst := some 14, op := Op.assign (Operand.tmp 57), type := 4, pos := "law.go:79", after := #[{ on := 9, ground := Ground.data }, { on := 11, ground := Ground.chain }, { on := 0, ground := Ground.phase }, { on := 1, ground := Ground.phase }, { on := 2, ground := Ground.phase }, { on := 3, ground := Ground.phase }, { on := 4, ground := Ground.phase }, { on := 5, ground := Ground.phase }, { on := 6, ground := Ground.phase }, { on := 7, ground := Ground.phase }, { on := 8, ground := Ground.phase }, { on := 9, ground := Ground.phase }, { on := 10, ground := Ground.phase }, { on := 11, ground := Ground.phase }], guard := none }) (v := .bool true) rfl (by kernel_rfl) (by kernel_rfl) (by kernel_rfl) (fun _ _ _ h => h) (Or.inl ⟨by rfl, ?_⟩) (by assumption) ?_
        · (intro w' hSw; (try dsimp only at hSw); go_simp)
        try simp only [Act.put, List.setIfInBounds_toArray, List.set_cons_zero, List.set_cons_succ]
        refine wpAnyH_done (by kernel_rfl) ?_ _
        go_wp2_with fail
        go_meet
        exact ⟨_, b4, _, rfl, rfl, Lib.hid (Nx.mk hP.out k0 hD (Keep.refl _ w4) bz rfl (.inr ⟨Nat.le_refl _, by simp⟩))⟩
      case rest =>
        obtain ⟨K, b4, v4, rfl, rfl, hN⟩ := hcut
        have hN9 := hN.out
        obtain ⟨F', rs', lN, rN, ⟨a0, v0, d0, hMo⟩, hKb, nM, nKM, fN, hMw, kN, hl4, hs4⟩ := hN9
        obtain ⟨a4, n4, c4, hv4, hn4⟩ := mrow_form rN
        subst hv4
        have HN4 := Lib.hid hn4
        have hn4c : n4 ≤ 16 := by omega
        have q0 := cell_at hKb 0
        have q1 := cell_at hKb 1
        have q2 := cell_at hKb 2
        simp at q0 q1 q2
        have st := store_mod hMo rfl (b4 : Int) (c : Int) a4 n4 c4
        have kM : Keep (fun j => j = M) wc (wc.setCells M 0 [.int .u64 (b4 : Int), .slice a4 n4 c4, .int .i64 (c : Int)]) := Keep.setCells (S := fun j => j = M) (.inl rfl) _ _ _ (Keep.refl _ _)
        have hP5 : Pl w (wc.setCells M 0 [.int .u64 (b4 : Int), .slice a4 n4 c4, .int .i64 (c : Int)]) F' w.heap.size M c b4 (.slice a4 n4 c4) rs' :=
          ⟨lN.keep kM (fun i e h => nM (by rw [← h]; exact e)), ((MRow.apart rN hMo (by simp)).keep kM (fun i _ e => .inr e)).turn (fun i _ e => .inl e), mod_block hMo rfl _ _ _, nM, fN, hMw, kN.then kM (fun q e => by omega), hl4⟩
        have HP5 := Lib.hid hP5
        have hsum : b4 + n4 ≤ 65536 + (i + 1) := by omega
        clear lN rN hMo hKb kM hP5 hN hs4 hn4
        go_upto_region 11 with fail
        obtain ⟨w5, hw5⟩ : ∃ w5, w5 = wc.setCells M 0 [.int .u64 (b4 : Int), .slice a4 n4 c4, .int .i64 (c : Int)] := ⟨_, rfl⟩
        rw [← hw5]
        have hP5 := HP5.out
        rw [← hw5] at hP5
        have HP5 := Lib.hid hP5
        have p0 := cell_at hP5.m 0
        have p1 := cell_at hP5.m 1
        have p2 := cell_at hP5.m 2
        simp at p0 p1 p2
        have C5 : Calls Try.prog 11 #[.pointer (some ⟨w.heap.size, 0, none⟩), .int .u64 (b4 : Int), .int .i64 100] w5 fun e w' => ∃ v', e = .returned (.tuple #[v', .bool true]) ∧ RowAt w' (fun k => w5.heap.size ≤ k ∧ k < w'.heap.size) v' rs' ∧ Keep (fun _ => False) w5 w' := by
          have h := from_yes hP5.l 0 n4 100 (by omega) (by omega) (Nat.zero_le _) (by have := HN4.out; omega)
          have e1 : (rs'.drop 0).take n4 = rs' := by rw [List.drop_zero, show n4 = rs'.length from HN4.out, List.take_length]
          rw [e1] at h
          simpa using h
        have HC5 := Lib.hid C5
        clear hw5 hP5 C5 q0 q1 q2 st
        go_upto_region 12 with (go_at_call 11; refine HC5.out.mono ?_; clear HC5; rintro e w6 ⟨v6, rfl, r6, k6⟩
                                obtain ⟨a6, c6, hv6, hr6⟩ := RowAt.form r6
                                rw [← show n4 = rs'.length from HN4.out] at hv6
                                subst hv6
                                replace hr6 := Lib.hid hr6
                                replace k6 := Lib.hid k6
                                clear r6)
        have HP6 := Lib.hid (HP5.out.keep0 k6.out)
        have hq : ∀ d os, (grow (redrawn w6 d) os).cell? ⟨M, 0, none⟩ = some (.int .u64 (b4 : Int)) ∧ (grow (redrawn w6 d) os).cell? ⟨M, 1, none⟩ = some (.slice a4 n4 c4) ∧ (grow (redrawn w6 d) os).cell? ⟨M, 2, none⟩ = some (.int .i64 (c : Int)) := fun d os => ⟨cell_regrown (cell_at HP6.out.m 0) d os, cell_regrown (cell_at HP6.out.m 1) d os, cell_regrown (cell_at HP6.out.m 2) d os⟩
        have hq1 := fun d os => (hq d os).1
        have hq2 := fun d os => (hq d os).2.1
        have hq3 := fun d os => (hq d os).2.2
        have hlg : ∀ d os, LogAt (grow (redrawn w6 d) os) F' w.heap.size c b4 rs' := fun d os => HP6.out.l.keep (Keep.of0 (below_regrown w6 d os)) (fun _ _ e => e)
        have CQ : ∀ d os,
            (Calls Try.prog 13 #[.pointer (some ⟨w.heap.size, 0, none⟩)] (grow (redrawn w6 d) os) fun e w'' => e = .returned (.int .u64 (b4 : Int)) ∧ ∃ p : Regrown, w'' = grow (redrawn w6 p.d) p.os) ∧
            (Calls Try.prog 14 #[.pointer (some ⟨w.heap.size, 0, none⟩)] (grow (redrawn w6 d) os) fun e w'' => e = .returned (.int .u64 ((b4 : Int) + (n4 : Int))) ∧ ∃ p : Regrown, w'' = grow (redrawn w6 p.d) p.os) ∧
            (Calls Try.prog 16 #[.agg #[.int .u64 (b4 : Int), .slice a4 n4 c4, .int .i64 (c : Int)]] (grow (redrawn w6 d) os) fun e w'' => e = .returned (.int .u64 ((b4 : Int) + (n4 : Int))) ∧ ∃ p : Regrown, w'' = grow (redrawn w6 p.d) p.os) ∧
            (Calls Try.prog 17 #[.pointer (some ⟨w.heap.size, 0, none⟩)] (grow (redrawn w6 d) os) fun e w'' => e = .returned (.int .i64 ((c : Int) - (n4 : Int))) ∧ ∃ p : Regrown, w'' = grow (redrawn w6 p.d) p.os) := fun d os => by
          have hl4' : rs'.length ≤ 16 := by omega
          rw [show n4 = rs'.length from HN4.out]
          refine ⟨Calls.regrown_of ((base_at (hlg d os)).mono fun _ _ ⟨he, hw⟩ => ⟨he, hw ▸ Below.refl _ _⟩), Calls.regrown_of ((last_of (hlg d os) (by omega) (by omega)).mono fun _ _ ⟨he, k, hw⟩ => ⟨he, hw ▸ ((Keep.refl (fun _ => False) _).drewN k).below0⟩), Calls.regrown_of ((last_m b4 rs'.length c4 c a4 (by omega) (by omega) _).mono fun _ _ ⟨he, k⟩ => ⟨he, k.below0⟩), Calls.regrown_of ((room_at (hlg d os) (by omega) (by omega)).mono fun _ _ ⟨he, k, hw⟩ => ⟨he, hw ▸ ((Keep.refl (fun _ => False) _).drewN k).below0⟩)⟩
        have HCQ := Lib.hid CQ
        have e7 : IntKind.i64.wrap ((c : Int) - (n4 : Int)) = (c : Int) - (n4 : Int) := IntWalk.i64_in _ (by omega)
        clear hq hlg CQ p0 p1 p2
        refine wp_region_quiet_below (by kernel_rfl) (by kernel_rfl) ?_
        repeat (quiet_step (first | (with_reducible exact (HCQ.out _ _).1) | (with_reducible exact (HCQ.out _ _).2.1) | (with_reducible exact (HCQ.out _ _).2.2.1) | (with_reducible exact (HCQ.out _ _).2.2.2)))
        refine wpQuiet_nil ?_
        intro _ hw'
        obtain ⟨⟨dq, osq⟩, hw''⟩ := hw'
        subst hw''
        clear hq1 hq2 hq3 HCQ
        obtain ⟨w7, hw7⟩ : ∃ w7, w7 = grow (redrawn w6 dq) osq := ⟨_, rfl⟩
        rw [← hw7]
        have k67 : Keep (fun _ => False) w6 w7 := by rw [hw7]; exact Keep.of0 (below_regrown w6 dq osq)
        have K67 := Lib.hid k67
        have HP7 := Lib.hid (HP6.out.keep0 k67)
        clear hw7 k67 e7
        go_wp2_with fail
        go_loopw [17] (fun xj wq => ∃ (j : Nat), j ≤ n4 ∧ xj = .int .i64 (j : Int) ∧ Hid (Keep (fun _ => False) w7 wq)) (fun xj wq => n4 - (intOf xj).toNat)
        case atStart => exact ⟨0, by omega, rfl, Lib.hid (Keep.refl _ _)⟩
        case round =>
          obtain ⟨j, hj, rfl, hkq⟩ := hrel
          have pm := (HP7.out.keep0 hkq.out).m
          have p1 : wr.cell? ⟨M, 1, none⟩ = some (.slice a4 n4 c4) := cell_at pm 1
          clear pm
          by_cases hjn : j < n4
          · obtain ⟨rr, hr⟩ : ∃ rr, rs'[j]? = some rr := ⟨rs'[j]'(by have := HN4.out; omega), List.getElem?_eq_getElem _⟩
            rcases hr6.out with h0 | ⟨g6, cur6, rfl, -, hg6, ht6⟩
            · rw [h0] at hr; simp at hr
            obtain ⟨am, cm, hvm, -, -, hmm⟩ := HP6.out.r
            simp only [Value.slice.injEq] at hvm
            obtain ⟨rfl, -, -⟩ := hvm
            rcases hmm with h0 | ⟨gm, om, rfl, -, hgm, -, hcm⟩
            · rw [h0] at hr; simp at hr
            have kc := K67.out.trans hkq.out
            have y0 : wr.cell? ⟨g6, j * 9, none⟩ = some (.int .u64 rr.seq) := (kc.cell (p := ⟨g6, _, none⟩) (lt_of_block hg6) (fun e => e)).trans ((rec_cell hg6 ht6 hr 0 (by omega)).trans rfl)
            have y1 : wr.cell? ⟨g6, j * 9 + 1, none⟩ = some (.int .u64 rr.now) := (kc.cell (p := ⟨g6, _, none⟩) (lt_of_block hg6) (fun e => e)).trans ((rec_cell hg6 ht6 hr 1 (by omega)).trans rfl)
            have y2 : wr.cell? ⟨g6, j * 9 + 2, none⟩ = some (.int .u64 rr.ses) := (kc.cell (p := ⟨g6, _, none⟩) (lt_of_block hg6) (fun e => e)).trans ((rec_cell hg6 ht6 hr 2 (by omega)).trans rfl)
            have y3 : wr.cell? ⟨g6, j * 9 + 3, none⟩ = some (.int .u64 rr.num) := (kc.cell (p := ⟨g6, _, none⟩) (lt_of_block hg6) (fun e => e)).trans ((rec_cell hg6 ht6 hr 3 (by omega)).trans rfl)
            have y4 : wr.cell? ⟨g6, j * 9 + 4, none⟩ = some (.int .i64 rr.kind) := (kc.cell (p := ⟨g6, _, none⟩) (lt_of_block hg6) (fun e => e)).trans ((rec_cell hg6 ht6 hr 4 (by omega)).trans rfl)
            have y5 : wr.cell? ⟨g6, j * 9 + 5, none⟩ = some (.string rr.key) := (kc.cell (p := ⟨g6, _, none⟩) (lt_of_block hg6) (fun e => e)).trans ((rec_cell hg6 ht6 hr 5 (by omega)).trans rfl)
            have y6 : wr.cell? ⟨g6, j * 9 + 6, none⟩ = some (.string rr.val) := (kc.cell (p := ⟨g6, _, none⟩) (lt_of_block hg6) (fun e => e)).trans ((rec_cell hg6 ht6 hr 6 (by omega)).trans rfl)
            have y7 : wr.cell? ⟨g6, j * 9 + 7, none⟩ = some (.int .u64 rr.ttl) := (kc.cell (p := ⟨g6, _, none⟩) (lt_of_block hg6) (fun e => e)).trans ((rec_cell hg6 ht6 hr 7 (by omega)).trans rfl)
            have y8 : wr.cell? ⟨g6, j * 9 + 8, none⟩ = some (.int .u64 rr.ver) := (kc.cell (p := ⟨g6, _, none⟩) (lt_of_block hg6) (fun e => e)).trans ((rec_cell hg6 ht6 hr 8 (by omega)).trans rfl)
            have z0 : wr.cell? ⟨gm, om + j * 9, none⟩ = some (.int .u64 rr.seq) := (kc.cell (p := ⟨gm, _, none⟩) hgm (fun e => e)).trans (by have := hcm (j * 9 + 0) (.int .u64 rr.seq) (by rw [flat_at rs' j 0 rr hr (by omega)]; rfl); simpa [Nat.add_assoc] using this)
            have z1 : wr.cell? ⟨gm, om + j * 9 + 1, none⟩ = some (.int .u64 rr.now) := (kc.cell (p := ⟨gm, _, none⟩) hgm (fun e => e)).trans (by have := hcm (j * 9 + 1) (.int .u64 rr.now) (by rw [flat_at rs' j 1 rr hr (by omega)]; rfl); simpa [Nat.add_assoc] using this)
            have z2 : wr.cell? ⟨gm, om + j * 9 + 2, none⟩ = some (.int .u64 rr.ses) := (kc.cell (p := ⟨gm, _, none⟩) hgm (fun e => e)).trans (by have := hcm (j * 9 + 2) (.int .u64 rr.ses) (by rw [flat_at rs' j 2 rr hr (by omega)]; rfl); simpa [Nat.add_assoc] using this)
            have z3 : wr.cell? ⟨gm, om + j * 9 + 3, none⟩ = some (.int .u64 rr.num) := (kc.cell (p := ⟨gm, _, none⟩) hgm (fun e => e)).trans (by have := hcm (j * 9 + 3) (.int .u64 rr.num) (by rw [flat_at rs' j 3 rr hr (by omega)]; rfl); simpa [Nat.add_assoc] using this)
            have z4 : wr.cell? ⟨gm, om + j * 9 + 4, none⟩ = some (.int .i64 rr.kind) := (kc.cell (p := ⟨gm, _, none⟩) hgm (fun e => e)).trans (by have := hcm (j * 9 + 4) (.int .i64 rr.kind) (by rw [flat_at rs' j 4 rr hr (by omega)]; rfl); simpa [Nat.add_assoc] using this)
            have z5 : wr.cell? ⟨gm, om + j * 9 + 5, none⟩ = some (.string rr.key) := (kc.cell (p := ⟨gm, _, none⟩) hgm (fun e => e)).trans (by have := hcm (j * 9 + 5) (.string rr.key) (by rw [flat_at rs' j 5 rr hr (by omega)]; rfl); simpa [Nat.add_assoc] using this)
            have z6 : wr.cell? ⟨gm, om + j * 9 + 6, none⟩ = some (.string rr.val) := (kc.cell (p := ⟨gm, _, none⟩) hgm (fun e => e)).trans (by have := hcm (j * 9 + 6) (.string rr.val) (by rw [flat_at rs' j 6 rr hr (by omega)]; rfl); simpa [Nat.add_assoc] using this)
            have z7 : wr.cell? ⟨gm, om + j * 9 + 7, none⟩ = some (.int .u64 rr.ttl) := (kc.cell (p := ⟨gm, _, none⟩) hgm (fun e => e)).trans (by have := hcm (j * 9 + 7) (.int .u64 rr.ttl) (by rw [flat_at rs' j 7 rr hr (by omega)]; rfl); simpa [Nat.add_assoc] using this)
            have z8 : wr.cell? ⟨gm, om + j * 9 + 8, none⟩ = some (.int .u64 rr.ver) := (kc.cell (p := ⟨gm, _, none⟩) hgm (fun e => e)).trans (by have := hcm (j * 9 + 8) (.int .u64 rr.ver) (by rw [flat_at rs' j 8 rr hr (by omega)]; rfl); simpa [Nat.add_assoc] using this)
            clear hr hg6 ht6 hcm kc
            go_wp2_with fail
            go_quiet (fail)
            go_wp2_with fail
            refine ⟨⟨j + 1, by omega, by go_num, Lib.hid (hkq.out.trans ((Keep.refl _ _).drewN _))⟩, ?_⟩
            simp [intOf]
            omega
          · obtain rfl : j = n4 := by omega
            go_wp2_with fail
            go_roundw
            case rel => exact ⟨i + 1, b4, F', _, rs', by omega, by omega, by have := HN4.out; omega, by go_num, Lib.hid (HP7.out.keep0 hkq.out)⟩
            case measure => simp [intOf]; omega
    · have hge : ¬ i < len ∨ (i < len ∧ ¬ i < 60) := by omega
      rcases hge with h1 | ⟨h1, h2⟩
      · go_wp2_with fail
        go_ret
        exact ⟨rfl, hP.out.k.below0⟩
      · obtain rfl : i = 60 := by omega
        go_wp2_with fail
        go_ret
        exact ⟨rfl, hP.out.k.below0⟩

end Go.Proofs.Ytiokngcfenfieaa.LogP
