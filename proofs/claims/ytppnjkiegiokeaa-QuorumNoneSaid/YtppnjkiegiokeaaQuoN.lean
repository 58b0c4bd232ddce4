/-
  Layer 17 (quorum): views that may be, New, a proposer that is none.
-/
import Derived.Test.YtppnjkiegiokeaaQuoT
import Derived.Deep.DeepCutAuto
namespace Go.Proofs.Ytppnjkiegiokeaa.QuoN
set_option linter.unusedVariables false
set_option linter.unusedSimpArgs false
open Go.RowKit Go.Proofs.Ytppnjkiegiokeaa.Mem Go.Proofs.Ytppnjkiegiokeaa.QuoW Go.Proofs.Ytppnjkiegiokeaa.QuoV Go.Proofs.Ytppnjkiegiokeaa.QuoU Go.Proofs.Ytppnjkiegiokeaa.QuoR Go.Proofs.Ytppnjkiegiokeaa.QuoS Go.Proofs.Ytppnjkiegiokeaa.QuoA Go.Proofs.Ytppnjkiegiokeaa.QuoT
attribute [-go_sem] Instr.loadAt loadVar
attribute [local go_sem] QuoT.loadAt_ptr QuoT.lv_bool QuoT.lv_int QuoT.lv_u64

def Vw.row (x : Vw) : Array Value := #[.int .u64 x.v, .int .i64 x.p, .int .u64 x.pl, .int .i64 x.b, .int .u64 x.bl, .int .u64 x.e]
abbrev TV : TypeId := 29
def VAt (w : World) (X : Nat) (x : Vw) : Prop := w.heap[X]? = some (.cells (Vw.row x) TV (0, 0))
theorem load_v {w : World} {X : Nat} {x : Vw} (h : VAt w X x) : (loadVar 29 ⟨X, 0, none⟩).run Try.prog w = .ok (.agg #[.int .u64 x.v, .int .i64 x.p, .int .u64 x.pl, .int .i64 x.b, .int .u64 x.bl, .int .u64 x.e]) w :=
  run_loadVar_mid w X 0 29 (Vw.row x).toList _ (World.rangeAt_of_block h 0 6) Try.underlying29 rfl infoV
def one (x : Vw) : Bool := decide (0 ≤ x.p) && decide (x.p < 1048576) && decide (1 ≤ x.pl)
def two (x : Vw) : Bool := decide (x.b = -1) && decide (x.bl = 0) || decide (0 ≤ x.b) && decide (x.b < 1048576) && decide (1 ≤ x.bl) && decide (x.b ≠ x.p)
def chk (x : Vw) : Bool := decide (1 ≤ x.v) && decide (1 ≤ x.e) && one x && two x

set_option maxHeartbeats 4000000 in
theorem check_any (x : Vw) (w : World) :
    Calls Try.prog 18 #[.agg #[.int .u64 x.v, .int .i64 x.p, .int .u64 x.pl, .int .i64 x.b, .int .u64 x.bl, .int .u64 x.e]] w fun e w' => e = .returned (.bool (chk x)) ∧ Below w.heap.size w w' := by
  obtain ⟨v, p, pl, b, bl, e⟩ := x
  have bw := (Below.refl w.heap.size w).alloc (Nat.le_refl _) (.cells #[.int .u64 v, .int .i64 p, .int .u64 pl, .int .i64 b, .int .u64 bl, .int .u64 e] TV)
  have hx := block_new w (.cells #[.int .u64 v, .int .i64 p, .int .u64 pl, .int .i64 b, .int .u64 bl, .int .u64 e] TV)
  have hc : ∀ c, chk ⟨v, p, pl, b, bl, e⟩ = c ↔ (decide (1 ≤ v) && decide (1 ≤ e) && one ⟨v, p, pl, b, bl, e⟩ && two ⟨v, p, pl, b, bl, e⟩) = c := fun c => Iff.rfl
  replace hc := Lib.hid hc
  obtain ⟨o1, ho1⟩ : ∃ o1, one ⟨v, p, pl, b, bl, e⟩ = o1 := ⟨_, rfl⟩
  obtain ⟨o2, ho2⟩ : ∃ o2, two ⟨v, p, pl, b, bl, e⟩ = o2 := ⟨_, rfl⟩
  have Ho1 := Lib.hid ho1
  have Ho2 := Lib.hid ho2
  clear ho1 ho2
  simp only
  go_enter Try.func18, Try.ntmps18
  go_upto_region 1 with fail
  generalize (w.alloc (.cells #[.int .u64 v, .int .i64 p, .int .u64 pl, .int .i64 b, .int .u64 bl, .int .u64 e] 29)) = u at *
  generalize hXe : w.heap.size = X at hx ⊢
  replace hXe := Lib.hid hXe
  have c0 : u.cell? ⟨X, 0, none⟩ = some (.int .u64 v) := cell_at hx 0
  have c1 : u.cell? ⟨X, 1, none⟩ = some (.int .i64 p) := cell_at hx 1
  have c2 : u.cell? ⟨X, 2, none⟩ = some (.int .u64 pl) := cell_at hx 2
  have c3 : u.cell? ⟨X, 3, none⟩ = some (.int .i64 b) := cell_at hx 3
  have c4 : u.cell? ⟨X, 4, none⟩ = some (.int .u64 bl) := cell_at hx 4
  have c5 : u.cell? ⟨X, 5, none⟩ = some (.int .u64 e) := cell_at hx 5
  clear hx
  go_cut [3] (fun s3 wx => s3 = .bool o1 ∧ wx = u)
  case first =>
    have hcl : o1 = (decide (0 ≤ p) && decide (p < 1048576) && decide (1 ≤ pl)) := Ho1.out.symm
    replace hcl := Lib.hid hcl
    by_cases h1 : 0 ≤ p
    · by_cases h2 : p < 1048576
      · by_cases h3 : 1 ≤ pl
        · go_wp2_with fail
          go_meet
          exact ⟨by rw [hcl.out, decide_eq_true (p := 0 ≤ p) (by omega), decide_eq_true (p := p < 1048576) (by omega), decide_eq_true (p := 1 ≤ pl) (by omega)]; rfl, rfl⟩
        · go_wp2_with fail
          go_meet
          exact ⟨by rw [hcl.out, decide_eq_true (p := 0 ≤ p) (by omega), decide_eq_true (p := p < 1048576) (by omega), decide_eq_false (p := 1 ≤ pl) (by omega)]; rfl, rfl⟩
      · go_wp2_with fail
        go_meet
        exact ⟨by rw [hcl.out, decide_eq_true (p := 0 ≤ p) (by omega), decide_eq_false (p := p < 1048576) (by omega)]; rfl, rfl⟩
    · go_wp2_with fail
      go_meet
      exact ⟨by rw [hcl.out, decide_eq_false (p := 0 ≤ p) (by omega)]; rfl, rfl⟩
  case rest =>
    obtain ⟨rfl, rfl⟩ := hcut
    go_upto_region 2 with fail
    go_cut [4] (fun s4 wy => s4 = .bool o2 ∧ wy = wc)
    case first =>
      have hcl : o2 = (decide (b = -1) && decide (bl = 0) || decide (0 ≤ b) && decide (b < 1048576) && decide (1 ≤ bl) && decide (b ≠ p)) := Ho2.out.symm
      replace hcl := Lib.hid hcl
      by_cases h0 : b = -1
      · subst h0
        by_cases h1 : bl = 0
        · subst h1
          go_wp2_with fail
          go_meet
          exact ⟨by rw [hcl.out]; simp, rfl⟩
        · have d1 : (bl == 0) = false := by simp [h1]
          go_wp2_with fail
          go_meet
          exact ⟨by rw [hcl.out, decide_eq_false (p := bl = 0) (by omega)]; rfl, rfl⟩
      · have d0 : (b == -1) = false := by simp [h0]
        by_cases h1 : 0 ≤ b
        · by_cases h2 : b < 1048576
          · by_cases h3 : 1 ≤ bl
            · by_cases h4 : b = p
              · have d4 : (b != p) = false := by simp [h4]
                have hcl2 : o2 = false := by rw [hcl.out, decide_eq_false (p := b = -1) h0, decide_eq_false (p := b ≠ p) (fun h => h h4), Bool.and_false]; rfl
                replace hcl2 := Lib.hid hcl2
                clear h4
                go_wp2_with fail
                go_meet
                exact ⟨by rw [hcl2.out], rfl⟩
              · have d4 : (b != p) = true := by simp [h4]
                go_wp2_with fail
                go_meet
                exact ⟨by rw [hcl.out, decide_eq_false (p := b = -1) (by omega), decide_eq_true (p := 0 ≤ b) (by omega), decide_eq_true (p := b < 1048576) (by omega), decide_eq_true (p := 1 ≤ bl) (by omega), decide_eq_true (p := b ≠ p) (by omega)]; rfl, rfl⟩
            · go_wp2_with fail
              go_meet
              exact ⟨by rw [hcl.out, decide_eq_false (p := b = -1) (by omega), decide_eq_true (p := 0 ≤ b) (by omega), decide_eq_true (p := b < 1048576) (by omega), decide_eq_false (p := 1 ≤ bl) (by omega)]; rfl, rfl⟩
          · go_wp2_with fail
            go_meet
            exact ⟨by rw [hcl.out, decide_eq_false (p := b = -1) (by omega), decide_eq_true (p := 0 ≤ b) (by omega), decide_eq_false (p := b < 1048576) (by omega)]; rfl, rfl⟩
        · go_wp2_with fail
          go_meet
          exact ⟨by rw [hcl.out, decide_eq_false (p := b = -1) (by omega), decide_eq_false (p := 0 ≤ b) (by omega)]; rfl, rfl⟩
    case rest =>
      obtain ⟨rfl, rfl⟩ := hcut
      have hfin : ∀ c, (decide (1 ≤ v) && decide (1 ≤ e) && o1 && o2) = c → chk ⟨v, p, pl, b, bl, e⟩ = c := by
        intro c hcc; rw [hc.out, Ho1.out, Ho2.out]; exact hcc
      replace hfin := Lib.hid hfin
      clear hc Ho1 Ho2
      by_cases h1 : 1 ≤ v
      · by_cases h2 : 1 ≤ e
        · cases o1
          · go_wp2_with fail
            go_ret
            exact ⟨by rw [hfin.out false (by simp)]; rfl, bw⟩
          · cases o2
            · go_wp2_with fail
              go_ret
              exact ⟨by rw [hfin.out false (by simp)]; rfl, bw⟩
            · go_wp2_with fail
              go_ret
              exact ⟨by rw [hfin.out true (by rw [decide_eq_true (p := 1 ≤ v) (by omega), decide_eq_true (p := 1 ≤ e) (by omega)]; rfl)]; rfl, bw⟩
        · go_wp2_with fail
          go_ret
          exact ⟨by rw [hfin.out false (by rw [decide_eq_false (p := 1 ≤ e) (by omega), Bool.and_false]; rfl)]; rfl, bw⟩
      · go_wp2_with fail
        go_ret
        exact ⟨by rw [hfin.out false (by rw [decide_eq_false (p := 1 ≤ v) (by omega)]; rfl)]; rfl, bw⟩

set_option maxHeartbeats 2000000 in
theorem new1 (a b : Vw) (me life : Int) (w : World) (hck1 : chk a = false) :
    Calls Try.prog 8 #[.agg #[.int .u64 a.v, .int .i64 a.p, .int .u64 a.pl, .int .i64 a.b, .int .u64 a.bl, .int .u64 a.e], .agg #[.int .u64 b.v, .int .i64 b.p, .int .u64 b.pl, .int .i64 b.b, .int .u64 b.bl, .int .u64 b.e], .int .i64 me, .int .u64 life] w fun x w' => x = .returned (.tuple #[.pointer none, .int .i64 1]) ∧ Below w.heap.size w w' := by
  have B0 := ((Below.refl w.heap.size w).alloc (Nat.le_refl _) (.cells #[.int .u64 a.v, .int .i64 a.p, .int .u64 a.pl, .int .i64 a.b, .int .u64 a.bl, .int .u64 a.e] 29)).alloc (by simp) (.cells #[.int .u64 b.v, .int .i64 b.p, .int .u64 b.pl, .int .i64 b.b, .int .u64 b.bl, .int .u64 b.e] 29)
  have ha : VAt ((w.alloc (.cells #[.int .u64 a.v, .int .i64 a.p, .int .u64 a.pl, .int .i64 a.b, .int .u64 a.bl, .int .u64 a.e] 29)).alloc (.cells #[.int .u64 b.v, .int .i64 b.p, .int .u64 b.pl, .int .i64 b.b, .int .u64 b.bl, .int .u64 b.e] 29)) w.heap.size a := block_alloc (block_new w _) _
  have hb : VAt ((w.alloc (.cells #[.int .u64 a.v, .int .i64 a.p, .int .u64 a.pl, .int .i64 a.b, .int .u64 a.bl, .int .u64 a.e] 29)).alloc (.cells #[.int .u64 b.v, .int .i64 b.p, .int .u64 b.pl, .int .i64 b.b, .int .u64 b.bl, .int .u64 b.e] 29)) (w.heap.size + 1) b := block_new_at (by simp)
  go_enter Try.func8, Try.ntmps8
  go_upto_region 1 with fail
  generalize ((w.alloc (.cells #[.int .u64 a.v, .int .i64 a.p, .int .u64 a.pl, .int .i64 a.b, .int .u64 a.bl, .int .u64 a.e] 29)).alloc (.cells #[.int .u64 b.v, .int .i64 b.p, .int .u64 b.pl, .int .i64 b.b, .int .u64 b.bl, .int .u64 b.e] 29)) = u0 at *
  have ld1 : (loadVar 29 ⟨w.heap.size, 0, none⟩).run Try.prog u0 = _ := load_v ha
  have ld2 : (loadVar 29 ⟨w.heap.size + 1, 0, none⟩).run Try.prog u0 = _ := load_v hb
  have ca : u0.cell? ⟨w.heap.size, 0, none⟩ = some (.int .u64 a.v) := cell_at ha 0
  have cb : u0.cell? ⟨w.heap.size + 1, 0, none⟩ = some (.int .u64 b.v) := cell_at hb 0
  have C1 := check_any a u0
  rw [hck1] at C1
  go_wp2_with fail
  refine C1.mono ?_
  rintro e u1 ⟨rfl, k⟩
  replace ha : VAt u1 w.heap.size a := below_block k ha
  replace hb : VAt u1 (w.heap.size + 1) b := below_block k hb
  have B1 := bb B0 k
  clear ld1 ld2 ca cb C1 k B0
  have ld1 : (loadVar 29 ⟨w.heap.size, 0, none⟩).run Try.prog u1 = _ := load_v ha
  have ld2 : (loadVar 29 ⟨w.heap.size + 1, 0, none⟩).run Try.prog u1 = _ := load_v hb
  have ca : u1.cell? ⟨w.heap.size, 0, none⟩ = some (.int .u64 a.v) := cell_at ha 0
  have cb : u1.cell? ⟨w.heap.size + 1, 0, none⟩ = some (.int .u64 b.v) := cell_at hb 0
  go_wp2_with fail
  go_ret2
  exact ⟨rfl, B1⟩

set_option maxHeartbeats 2000000 in
theorem new2 (a b : Vw) (me life : Int) (w : World) (hck1 : chk a = true) (hck2 : chk b = false) :
    Calls Try.prog 8 #[.agg #[.int .u64 a.v, .int .i64 a.p, .int .u64 a.pl, .int .i64 a.b, .int .u64 a.bl, .int .u64 a.e], .agg #[.int .u64 b.v, .int .i64 b.p, .int .u64 b.pl, .int .i64 b.b, .int .u64 b.bl, .int .u64 b.e], .int .i64 me, .int .u64 life] w fun x w' => x = .returned (.tuple #[.pointer none, .int .i64 1]) ∧ Below w.heap.size w w' := by
  have B0 := ((Below.refl w.heap.size w).alloc (Nat.le_refl _) (.cells #[.int .u64 a.v, .int .i64 a.p, .int .u64 a.pl, .int .i64 a.b, .int .u64 a.bl, .int .u64 a.e] 29)).alloc (by simp) (.cells #[.int .u64 b.v, .int .i64 b.p, .int .u64 b.pl, .int .i64 b.b, .int .u64 b.bl, .int .u64 b.e] 29)
  have ha : VAt ((w.alloc (.cells #[.int .u64 a.v, .int .i64 a.p, .int .u64 a.pl, .int .i64 a.b, .int .u64 a.bl, .int .u64 a.e] 29)).alloc (.cells #[.int .u64 b.v, .int .i64 b.p, .int .u64 b.pl, .int .i64 b.b, .int .u64 b.bl, .int .u64 b.e] 29)) w.heap.size a := block_alloc (block_new w _) _
  have hb : VAt ((w.alloc (.cells #[.int .u64 a.v, .int .i64 a.p, .int .u64 a.pl, .int .i64 a.b, .int .u64 a.bl, .int .u64 a.e] 29)).alloc (.cells #[.int .u64 b.v, .int .i64 b.p, .int .u64 b.pl, .int .i64 b.b, .int .u64 b.bl, .int .u64 b.e] 29)) (w.heap.size + 1) b := block_new_at (by simp)
  go_enter Try.func8, Try.ntmps8
  go_upto_region 1 with fail
  generalize ((w.alloc (.cells #[.int .u64 a.v, .int .i64 a.p, .int .u64 a.pl, .int .i64 a.b, .int .u64 a.bl, .int .u64 a.e] 29)).alloc (.cells #[.int .u64 b.v, .int .i64 b.p, .int .u64 b.pl, .int .i64 b.b, .int .u64 b.bl, .int .u64 b.e] 29)) = u0 at *
  have ld1 : (loadVar 29 ⟨w.heap.size, 0, none⟩).run Try.prog u0 = _ := load_v ha
  have ld2 : (loadVar 29 ⟨w.heap.size + 1, 0, none⟩).run Try.prog u0 = _ := load_v hb
  have ca : u0.cell? ⟨w.heap.size, 0, none⟩ = some (.int .u64 a.v) := cell_at ha 0
  have cb : u0.cell? ⟨w.heap.size + 1, 0, none⟩ = some (.int .u64 b.v) := cell_at hb 0
  have C1 := check_any a u0
  rw [hck1] at C1
  go_wp2_with fail
  refine C1.mono ?_
  rintro e u1 ⟨rfl, k⟩
  replace ha : VAt u1 w.heap.size a := below_block k ha
  replace hb : VAt u1 (w.heap.size + 1) b := below_block k hb
  have B1 := bb B0 k
  clear ld1 ld2 ca cb C1 k B0
  have ld1 : (loadVar 29 ⟨w.heap.size, 0, none⟩).run Try.prog u1 = _ := load_v ha
  have ld2 : (loadVar 29 ⟨w.heap.size + 1, 0, none⟩).run Try.prog u1 = _ := load_v hb
  have ca : u1.cell? ⟨w.heap.size, 0, none⟩ = some (.int .u64 a.v) := cell_at ha 0
  have cb : u1.cell? ⟨w.heap.size + 1, 0, none⟩ = some (.int .u64 b.v) := cell_at hb 0
  have C2 := check_any b u1
  rw [hck2] at C2
  go_wp2_with fail
  refine C2.mono ?_
  rintro e u2 ⟨rfl, k⟩
  replace ha : VAt u2 w.heap.size a := below_block k ha
  replace hb : VAt u2 (w.heap.size + 1) b := below_block k hb
  have B2 := bb B1 k
  clear ld1 ld2 ca cb C2 k B1
  have ld1 : (loadVar 29 ⟨w.heap.size, 0, none⟩).run Try.prog u2 = _ := load_v ha
  have ld2 : (loadVar 29 ⟨w.heap.size + 1, 0, none⟩).run Try.prog u2 = _ := load_v hb
  have ca : u2.cell? ⟨w.heap.size, 0, none⟩ = some (.int .u64 a.v) := cell_at ha 0
  have cb : u2.cell? ⟨w.heap.size + 1, 0, none⟩ = some (.int .u64 b.v) := cell_at hb 0
  go_wp2_with fail
  go_ret2
  exact ⟨rfl, B2⟩

set_option maxHeartbeats 2000000 in
theorem new3 (a b : Vw) (me life : Int) (w : World) (hck1 : chk a = true) (hck2 : chk b = true) (hv : (b.v != IntKind.u64.wrap (a.v + 1)) = true) :
    Calls Try.prog 8 #[.agg #[.int .u64 a.v, .int .i64 a.p, .int .u64 a.pl, .int .i64 a.b, .int .u64 a.bl, .int .u64 a.e], .agg #[.int .u64 b.v, .int .i64 b.p, .int .u64 b.pl, .int .i64 b.b, .int .u64 b.bl, .int .u64 b.e], .int .i64 me, .int .u64 life] w fun x w' => x = .returned (.tuple #[.pointer none, .int .i64 1]) ∧ Below w.heap.size w w' := by
  have B0 := ((Below.refl w.heap.size w).alloc (Nat.le_refl _) (.cells #[.int .u64 a.v, .int .i64 a.p, .int .u64 a.pl, .int .i64 a.b, .int .u64 a.bl, .int .u64 a.e] 29)).alloc (by simp) (.cells #[.int .u64 b.v, .int .i64 b.p, .int .u64 b.pl, .int .i64 b.b, .int .u64 b.bl, .int .u64 b.e] 29)
  have ha : VAt ((w.alloc (.cells #[.int .u64 a.v, .int .i64 a.p, .int .u64 a.pl, .int .i64 a.b, .int .u64 a.bl, .int .u64 a.e] 29)).alloc (.cells #[.int .u64 b.v, .int .i64 b.p, .int .u64 b.pl, .int .i64 b.b, .int .u64 b.bl, .int .u64 b.e] 29)) w.heap.size a := block_alloc (block_new w _) _
  have hb : VAt ((w.alloc (.cells #[.int .u64 a.v, .int .i64 a.p, .int .u64 a.pl, .int .i64 a.b, .int .u64 a.bl, .int .u64 a.e] 29)).alloc (.cells #[.int .u64 b.v, .int .i64 b.p, .int .u64 b.pl, .int .i64 b.b, .int .u64 b.bl, .int .u64 b.e] 29)) (w.heap.size + 1) b := block_new_at (by simp)
  go_enter Try.func8, Try.ntmps8
  go_upto_region 1 with fail
  generalize ((w.alloc (.cells #[.int .u64 a.v, .int .i64 a.p, .int .u64 a.pl, .int .i64 a.b, .int .u64 a.bl, .int .u64 a.e] 29)).alloc (.cells #[.int .u64 b.v, .int .i64 b.p, .int .u64 b.pl, .int .i64 b.b, .int .u64 b.bl, .int .u64 b.e] 29)) = u0 at *
  have ld1 : (loadVar 29 ⟨w.heap.size, 0, none⟩).run Try.prog u0 = _ := load_v ha
  have ld2 : (loadVar 29 ⟨w.heap.size + 1, 0, none⟩).run Try.prog u0 = _ := load_v hb
  have ca : u0.cell? ⟨w.heap.size, 0, none⟩ = some (.int .u64 a.v) := cell_at ha 0
  have cb : u0.cell? ⟨w.heap.size + 1, 0, none⟩ = some (.int .u64 b.v) := cell_at hb 0
  have C1 := check_any a u0
  rw [hck1] at C1
  go_wp2_with fail
  refine C1.mono ?_
  rintro e u1 ⟨rfl, k⟩
  replace ha : VAt u1 w.heap.size a := below_block k ha
  replace hb : VAt u1 (w.heap.size + 1) b := below_block k hb
  have B1 := bb B0 k
  clear ld1 ld2 ca cb C1 k B0
  have ld1 : (loadVar 29 ⟨w.heap.size, 0, none⟩).run Try.prog u1 = _ := load_v ha
  have ld2 : (loadVar 29 ⟨w.heap.size + 1, 0, none⟩).run Try.prog u1 = _ := load_v hb
  have ca : u1.cell? ⟨w.heap.size, 0, none⟩ = some (.int .u64 a.v) := cell_at ha 0
  have cb : u1.cell? ⟨w.heap.size + 1, 0, none⟩ = some (.int .u64 b.v) := cell_at hb 0
  have C2 := check_any b u1
  rw [hck2] at C2
  go_wp2_with fail
  refine C2.mono ?_
  rintro e u2 ⟨rfl, k⟩
  replace ha : VAt u2 w.heap.size a := below_block k ha
  replace hb : VAt u2 (w.heap.size + 1) b := below_block k hb
  have B2 := bb B1 k
  clear ld1 ld2 ca cb C2 k B1
  have ld1 : (loadVar 29 ⟨w.heap.size, 0, none⟩).run Try.prog u2 = _ := load_v ha
  have ld2 : (loadVar 29 ⟨w.heap.size + 1, 0, none⟩).run Try.prog u2 = _ := load_v hb
  have ca : u2.cell? ⟨w.heap.size, 0, none⟩ = some (.int .u64 a.v) := cell_at ha 0
  have cb : u2.cell? ⟨w.heap.size + 1, 0, none⟩ = some (.int .u64 b.v) := cell_at hb 0
  go_wp2_with fail
  go_ret2
  exact ⟨rfl, B2⟩

set_option maxHeartbeats 2000000 in
theorem new4 (a b : Vw) (me life : Int) (w : World) (hck1 : chk a = true) (hck2 : chk b = true) (hv : (b.v != IntKind.u64.wrap (a.v + 1)) = false) (hm : me < 0) :
    Calls Try.prog 8 #[.agg #[.int .u64 a.v, .int .i64 a.p, .int .u64 a.pl, .int .i64 a.b, .int .u64 a.bl, .int .u64 a.e], .agg #[.int .u64 b.v, .int .i64 b.p, .int .u64 b.pl, .int .i64 b.b, .int .u64 b.bl, .int .u64 b.e], .int .i64 me, .int .u64 life] w fun x w' => x = .returned (.tuple #[.pointer none, .int .i64 1]) ∧ Below w.heap.size w w' := by
  have d1 : decide (me < 0) = true := decide_eq_true hm
  have B0 := ((Below.refl w.heap.size w).alloc (Nat.le_refl _) (.cells #[.int .u64 a.v, .int .i64 a.p, .int .u64 a.pl, .int .i64 a.b, .int .u64 a.bl, .int .u64 a.e] 29)).alloc (by simp) (.cells #[.int .u64 b.v, .int .i64 b.p, .int .u64 b.pl, .int .i64 b.b, .int .u64 b.bl, .int .u64 b.e] 29)
  have ha : VAt ((w.alloc (.cells #[.int .u64 a.v, .int .i64 a.p, .int .u64 a.pl, .int .i64 a.b, .int .u64 a.bl, .int .u64 a.e] 29)).alloc (.cells #[.int .u64 b.v, .int .i64 b.p, .int .u64 b.pl, .int .i64 b.b, .int .u64 b.bl, .int .u64 b.e] 29)) w.heap.size a := block_alloc (block_new w _) _
  have hb : VAt ((w.alloc (.cells #[.int .u64 a.v, .int .i64 a.p, .int .u64 a.pl, .int .i64 a.b, .int .u64 a.bl, .int .u64 a.e] 29)).alloc (.cells #[.int .u64 b.v, .int .i64 b.p, .int .u64 b.pl, .int .i64 b.b, .int .u64 b.bl, .int .u64 b.e] 29)) (w.heap.size + 1) b := block_new_at (by simp)
  go_enter Try.func8, Try.ntmps8
  go_upto_region 1 with fail
  generalize ((w.alloc (.cells #[.int .u64 a.v, .int .i64 a.p, .int .u64 a.pl, .int .i64 a.b, .int .u64 a.bl, .int .u64 a.e] 29)).alloc (.cells #[.int .u64 b.v, .int .i64 b.p, .int .u64 b.pl, .int .i64 b.b, .int .u64 b.bl, .int .u64 b.e] 29)) = u0 at *
  have ld1 : (loadVar 29 ⟨w.heap.size, 0, none⟩).run Try.prog u0 = _ := load_v ha
  have ld2 : (loadVar 29 ⟨w.heap.size + 1, 0, none⟩).run Try.prog u0 = _ := load_v hb
  have ca : u0.cell? ⟨w.heap.size, 0, none⟩ = some (.int .u64 a.v) := cell_at ha 0
  have cb : u0.cell? ⟨w.heap.size + 1, 0, none⟩ = some (.int .u64 b.v) := cell_at hb 0
  have C1 := check_any a u0
  rw [hck1] at C1
  go_wp2_with fail
  refine C1.mono ?_
  rintro e u1 ⟨rfl, k⟩
  replace ha : VAt u1 w.heap.size a := below_block k ha
  replace hb : VAt u1 (w.heap.size + 1) b := below_block k hb
  have B1 := bb B0 k
  clear ld1 ld2 ca cb C1 k B0
  have ld1 : (loadVar 29 ⟨w.heap.size, 0, none⟩).run Try.prog u1 = _ := load_v ha
  have ld2 : (loadVar 29 ⟨w.heap.size + 1, 0, none⟩).run Try.prog u1 = _ := load_v hb
  have ca : u1.cell? ⟨w.heap.size, 0, none⟩ = some (.int .u64 a.v) := cell_at ha 0
  have cb : u1.cell? ⟨w.heap.size + 1, 0, none⟩ = some (.int .u64 b.v) := cell_at hb 0
  have C2 := check_any b u1
  rw [hck2] at C2
  go_wp2_with fail
  refine C2.mono ?_
  rintro e u2 ⟨rfl, k⟩
  replace ha : VAt u2 w.heap.size a := below_block k ha
  replace hb : VAt u2 (w.heap.size + 1) b := below_block k hb
  have B2 := bb B1 k
  clear ld1 ld2 ca cb C2 k B1
  have ld1 : (loadVar 29 ⟨w.heap.size, 0, none⟩).run Try.prog u2 = _ := load_v ha
  have ld2 : (loadVar 29 ⟨w.heap.size + 1, 0, none⟩).run Try.prog u2 = _ := load_v hb
  have ca : u2.cell? ⟨w.heap.size, 0, none⟩ = some (.int .u64 a.v) := cell_at ha 0
  have cb : u2.cell? ⟨w.heap.size + 1, 0, none⟩ = some (.int .u64 b.v) := cell_at hb 0
  go_wp2_with fail
  go_ret2
  exact ⟨rfl, B2⟩

set_option maxHeartbeats 2000000 in
theorem new5 (a b : Vw) (me life : Int) (w : World) (hck1 : chk a = true) (hck2 : chk b = true) (hv : (b.v != IntKind.u64.wrap (a.v + 1)) = false) (hm : 1 < me) :
    Calls Try.prog 8 #[.agg #[.int .u64 a.v, .int .i64 a.p, .int .u64 a.pl, .int .i64 a.b, .int .u64 a.bl, .int .u64 a.e], .agg #[.int .u64 b.v, .int .i64 b.p, .int .u64 b.pl, .int .i64 b.b, .int .u64 b.bl, .int .u64 b.e], .int .i64 me, .int .u64 life] w fun x w' => x = .returned (.tuple #[.pointer none, .int .i64 1]) ∧ Below w.heap.size w w' := by
  have d1 : decide (me < 0) = false := decide_eq_false (by omega)
  have d2 : decide (1 < me) = true := decide_eq_true hm
  have B0 := ((Below.refl w.heap.size w).alloc (Nat.le_refl _) (.cells #[.int .u64 a.v, .int .i64 a.p, .int .u64 a.pl, .int .i64 a.b, .int .u64 a.bl, .int .u64 a.e] 29)).alloc (by simp) (.cells #[.int .u64 b.v, .int .i64 b.p, .int .u64 b.pl, .int .i64 b.b, .int .u64 b.bl, .int .u64 b.e] 29)
  have ha : VAt ((w.alloc (.cells #[.int .u64 a.v, .int .i64 a.p, .int .u64 a.pl, .int .i64 a.b, .int .u64 a.bl, .int .u64 a.e] 29)).alloc (.cells #[.int .u64 b.v, .int .i64 b.p, .int .u64 b.pl, .int .i64 b.b, .int .u64 b.bl, .int .u64 b.e] 29)) w.heap.size a := block_alloc (block_new w _) _
  have hb : VAt ((w.alloc (.cells #[.int .u64 a.v, .int .i64 a.p, .int .u64 a.pl, .int .i64 a.b, .int .u64 a.bl, .int .u64 a.e] 29)).alloc (.cells #[.int .u64 b.v, .int .i64 b.p, .int .u64 b.pl, .int .i64 b.b, .int .u64 b.bl, .int .u64 b.e] 29)) (w.heap.size + 1) b := block_new_at (by simp)
  go_enter Try.func8, Try.ntmps8
  go_upto_region 1 with fail
  generalize ((w.alloc (.cells #[.int .u64 a.v, .int .i64 a.p, .int .u64 a.pl, .int .i64 a.b, .int .u64 a.bl, .int .u64 a.e] 29)).alloc (.cells #[.int .u64 b.v, .int .i64 b.p, .int .u64 b.pl, .int .i64 b.b, .int .u64 b.bl, .int .u64 b.e] 29)) = u0 at *
  have ld1 : (loadVar 29 ⟨w.heap.size, 0, none⟩).run Try.prog u0 = _ := load_v ha
  have ld2 : (loadVar 29 ⟨w.heap.size + 1, 0, none⟩).run Try.prog u0 = _ := load_v hb
  have ca : u0.cell? ⟨w.heap.size, 0, none⟩ = some (.int .u64 a.v) := cell_at ha 0
  have cb : u0.cell? ⟨w.heap.size + 1, 0, none⟩ = some (.int .u64 b.v) := cell_at hb 0
  have C1 := check_any a u0
  rw [hck1] at C1
  go_wp2_with fail
  refine C1.mono ?_
  rintro e u1 ⟨rfl, k⟩
  replace ha : VAt u1 w.heap.size a := below_block k ha
  replace hb : VAt u1 (w.heap.size + 1) b := below_block k hb
  have B1 := bb B0 k
  clear ld1 ld2 ca cb C1 k B0
  have ld1 : (loadVar 29 ⟨w.heap.size, 0, none⟩).run Try.prog u1 = _ := load_v ha
  have ld2 : (loadVar 29 ⟨w.heap.size + 1, 0, none⟩).run Try.prog u1 = _ := load_v hb
  have ca : u1.cell? ⟨w.heap.size, 0, none⟩ = some (.int .u64 a.v) := cell_at ha 0
  have cb : u1.cell? ⟨w.heap.size + 1, 0, none⟩ = some (.int .u64 b.v) := cell_at hb 0
  have C2 := check_any b u1
  rw [hck2] at C2
  go_wp2_with fail
  refine C2.mono ?_
  rintro e u2 ⟨rfl, k⟩
  replace ha : VAt u2 w.heap.size a := below_block k ha
  replace hb : VAt u2 (w.heap.size + 1) b := below_block k hb
  have B2 := bb B1 k
  clear ld1 ld2 ca cb C2 k B1
  have ld1 : (loadVar 29 ⟨w.heap.size, 0, none⟩).run Try.prog u2 = _ := load_v ha
  have ld2 : (loadVar 29 ⟨w.heap.size + 1, 0, none⟩).run Try.prog u2 = _ := load_v hb
  have ca : u2.cell? ⟨w.heap.size, 0, none⟩ = some (.int .u64 a.v) := cell_at ha 0
  have cb : u2.cell? ⟨w.heap.size + 1, 0, none⟩ = some (.int .u64 b.v) := cell_at hb 0
  go_wp2_with fail
  go_ret2
  exact ⟨rfl, B2⟩

set_option maxHeartbeats 2000000 in
theorem new6 (a b : Vw) (me life : Int) (w : World) (hck1 : chk a = true) (hck2 : chk b = true) (hv : (b.v != IntKind.u64.wrap (a.v + 1)) = false) (m0 : 0 ≤ me) (m1 : me ≤ 1) (hl : 16777216 ≤ life) :
    Calls Try.prog 8 #[.agg #[.int .u64 a.v, .int .i64 a.p, .int .u64 a.pl, .int .i64 a.b, .int .u64 a.bl, .int .u64 a.e], .agg #[.int .u64 b.v, .int .i64 b.p, .int .u64 b.pl, .int .i64 b.b, .int .u64 b.bl, .int .u64 b.e], .int .i64 me, .int .u64 life] w fun x w' => x = .returned (.tuple #[.pointer none, .int .i64 1]) ∧ Below w.heap.size w w' := by
  have B0 := ((Below.refl w.heap.size w).alloc (Nat.le_refl _) (.cells #[.int .u64 a.v, .int .i64 a.p, .int .u64 a.pl, .int .i64 a.b, .int .u64 a.bl, .int .u64 a.e] 29)).alloc (by simp) (.cells #[.int .u64 b.v, .int .i64 b.p, .int .u64 b.pl, .int .i64 b.b, .int .u64 b.bl, .int .u64 b.e] 29)
  have ha : VAt ((w.alloc (.cells #[.int .u64 a.v, .int .i64 a.p, .int .u64 a.pl, .int .i64 a.b, .int .u64 a.bl, .int .u64 a.e] 29)).alloc (.cells #[.int .u64 b.v, .int .i64 b.p, .int .u64 b.pl, .int .i64 b.b, .int .u64 b.bl, .int .u64 b.e] 29)) w.heap.size a := block_alloc (block_new w _) _
  have hb : VAt ((w.alloc (.cells #[.int .u64 a.v, .int .i64 a.p, .int .u64 a.pl, .int .i64 a.b, .int .u64 a.bl, .int .u64 a.e] 29)).alloc (.cells #[.int .u64 b.v, .int .i64 b.p, .int .u64 b.pl, .int .i64 b.b, .int .u64 b.bl, .int .u64 b.e] 29)) (w.heap.size + 1) b := block_new_at (by simp)
  go_enter Try.func8, Try.ntmps8
  go_upto_region 1 with fail
  generalize ((w.alloc (.cells #[.int .u64 a.v, .int .i64 a.p, .int .u64 a.pl, .int .i64 a.b, .int .u64 a.bl, .int .u64 a.e] 29)).alloc (.cells #[.int .u64 b.v, .int .i64 b.p, .int .u64 b.pl, .int .i64 b.b, .int .u64 b.bl, .int .u64 b.e] 29)) = u0 at *
  have ld1 : (loadVar 29 ⟨w.heap.size, 0, none⟩).run Try.prog u0 = _ := load_v ha
  have ld2 : (loadVar 29 ⟨w.heap.size + 1, 0, none⟩).run Try.prog u0 = _ := load_v hb
  have ca : u0.cell? ⟨w.heap.size, 0, none⟩ = some (.int .u64 a.v) := cell_at ha 0
  have cb : u0.cell? ⟨w.heap.size + 1, 0, none⟩ = some (.int .u64 b.v) := cell_at hb 0
  have C1 := check_any a u0
  rw [hck1] at C1
  go_wp2_with fail
  refine C1.mono ?_
  rintro e u1 ⟨rfl, k⟩
  replace ha : VAt u1 w.heap.size a := below_block k ha
  replace hb : VAt u1 (w.heap.size + 1) b := below_block k hb
  have B1 := bb B0 k
  clear ld1 ld2 ca cb C1 k B0
  have ld1 : (loadVar 29 ⟨w.heap.size, 0, none⟩).run Try.prog u1 = _ := load_v ha
  have ld2 : (loadVar 29 ⟨w.heap.size + 1, 0, none⟩).run Try.prog u1 = _ := load_v hb
  have ca : u1.cell? ⟨w.heap.size, 0, none⟩ = some (.int .u64 a.v) := cell_at ha 0
  have cb : u1.cell? ⟨w.heap.size + 1, 0, none⟩ = some (.int .u64 b.v) := cell_at hb 0
  have C2 := check_any b u1
  rw [hck2] at C2
  go_wp2_with fail
  refine C2.mono ?_
  rintro e u2 ⟨rfl, k⟩
  replace ha : VAt u2 w.heap.size a := below_block k ha
  replace hb : VAt u2 (w.heap.size + 1) b := below_block k hb
  have B2 := bb B1 k
  clear ld1 ld2 ca cb C2 k B1
  have ld1 : (loadVar 29 ⟨w.heap.size, 0, none⟩).run Try.prog u2 = _ := load_v ha
  have ld2 : (loadVar 29 ⟨w.heap.size + 1, 0, none⟩).run Try.prog u2 = _ := load_v hb
  have ca : u2.cell? ⟨w.heap.size, 0, none⟩ = some (.int .u64 a.v) := cell_at ha 0
  have cb : u2.cell? ⟨w.heap.size + 1, 0, none⟩ = some (.int .u64 b.v) := cell_at hb 0
  go_wp2_with fail
  go_ret2
  exact ⟨rfl, B2⟩

set_option maxHeartbeats 2000000 in
theorem new7 (a b : Vw) (me life : Int) (w : World) (hck1 : chk a = true) (hck2 : chk b = true) (hv : (b.v != IntKind.u64.wrap (a.v + 1)) = false) (m0 : 0 ≤ me) (m1 : me ≤ 1) (l0 : 1 ≤ life) (hl : life < 16777216) :
    Calls Try.prog 8 #[.agg #[.int .u64 a.v, .int .i64 a.p, .int .u64 a.pl, .int .i64 a.b, .int .u64 a.bl, .int .u64 a.e], .agg #[.int .u64 b.v, .int .i64 b.p, .int .u64 b.pl, .int .i64 b.b, .int .u64 b.bl, .int .u64 b.e], .int .i64 me, .int .u64 life] w fun x w' => (∃ k, x = .returned (.tuple #[.pointer (some k), .int .i64 0])) ∧ Below w.heap.size w w' := by
  have B0 := ((Below.refl w.heap.size w).alloc (Nat.le_refl _) (.cells #[.int .u64 a.v, .int .i64 a.p, .int .u64 a.pl, .int .i64 a.b, .int .u64 a.bl, .int .u64 a.e] 29)).alloc (by simp) (.cells #[.int .u64 b.v, .int .i64 b.p, .int .u64 b.pl, .int .i64 b.b, .int .u64 b.bl, .int .u64 b.e] 29)
  have ha : VAt ((w.alloc (.cells #[.int .u64 a.v, .int .i64 a.p, .int .u64 a.pl, .int .i64 a.b, .int .u64 a.bl, .int .u64 a.e] 29)).alloc (.cells #[.int .u64 b.v, .int .i64 b.p, .int .u64 b.pl, .int .i64 b.b, .int .u64 b.bl, .int .u64 b.e] 29)) w.heap.size a := block_alloc (block_new w _) _
  have hb : VAt ((w.alloc (.cells #[.int .u64 a.v, .int .i64 a.p, .int .u64 a.pl, .int .i64 a.b, .int .u64 a.bl, .int .u64 a.e] 29)).alloc (.cells #[.int .u64 b.v, .int .i64 b.p, .int .u64 b.pl, .int .i64 b.b, .int .u64 b.bl, .int .u64 b.e] 29)) (w.heap.size + 1) b := block_new_at (by simp)
  go_enter Try.func8, Try.ntmps8
  go_upto_region 1 with fail
  generalize ((w.alloc (.cells #[.int .u64 a.v, .int .i64 a.p, .int .u64 a.pl, .int .i64 a.b, .int .u64 a.bl, .int .u64 a.e] 29)).alloc (.cells #[.int .u64 b.v, .int .i64 b.p, .int .u64 b.pl, .int .i64 b.b, .int .u64 b.bl, .int .u64 b.e] 29)) = u0 at *
  have ld1 : (loadVar 29 ⟨w.heap.size, 0, none⟩).run Try.prog u0 = _ := load_v ha
  have ld2 : (loadVar 29 ⟨w.heap.size + 1, 0, none⟩).run Try.prog u0 = _ := load_v hb
  have ca : u0.cell? ⟨w.heap.size, 0, none⟩ = some (.int .u64 a.v) := cell_at ha 0
  have cb : u0.cell? ⟨w.heap.size + 1, 0, none⟩ = some (.int .u64 b.v) := cell_at hb 0
  have C1 := check_any a u0
  rw [hck1] at C1
  go_wp2_with fail
  refine C1.mono ?_
  rintro e u1 ⟨rfl, k⟩
  replace ha : VAt u1 w.heap.size a := below_block k ha
  replace hb : VAt u1 (w.heap.size + 1) b := below_block k hb
  have B1 := bb B0 k
  clear ld1 ld2 ca cb C1 k B0
  have ld1 : (loadVar 29 ⟨w.heap.size, 0, none⟩).run Try.prog u1 = _ := load_v ha
  have ld2 : (loadVar 29 ⟨w.heap.size + 1, 0, none⟩).run Try.prog u1 = _ := load_v hb
  have ca : u1.cell? ⟨w.heap.size, 0, none⟩ = some (.int .u64 a.v) := cell_at ha 0
  have cb : u1.cell? ⟨w.heap.size + 1, 0, none⟩ = some (.int .u64 b.v) := cell_at hb 0
  have C2 := check_any b u1
  rw [hck2] at C2
  go_wp2_with fail
  refine C2.mono ?_
  rintro e u2 ⟨rfl, k⟩
  replace ha : VAt u2 w.heap.size a := below_block k ha
  replace hb : VAt u2 (w.heap.size + 1) b := below_block k hb
  have B2 := bb B1 k
  clear ld1 ld2 ca cb C2 k B1
  have ld1 : (loadVar 29 ⟨w.heap.size, 0, none⟩).run Try.prog u2 = _ := load_v ha
  have ld2 : (loadVar 29 ⟨w.heap.size + 1, 0, none⟩).run Try.prog u2 = _ := load_v hb
  have ca : u2.cell? ⟨w.heap.size, 0, none⟩ = some (.int .u64 a.v) := cell_at ha 0
  have cb : u2.cell? ⟨w.heap.size + 1, 0, none⟩ = some (.int .u64 b.v) := cell_at hb 0
  go_wp2_with fail
  go_ret2
  exact ⟨⟨_, rfl⟩, B2.alloc B2.size _⟩

theorem nil_begin (w : World)  : Calls Try.prog 13 #[.pointer none, .int .u64 0] w fun e w' => e = .returned (.bool false) ∧ Below w.heap.size w w' := by
  have bw : ∀ o, Below w.heap.size w (w.alloc o) := fun o => (Below.refl _ w).alloc (Nat.le_refl _) o
  go_enter Try.func13, Try.ntmps13
  go_wp2_with fail
  go_ret
  exact ⟨rfl, Below.refl _ _⟩

theorem nil_ballot (w : World)  : Calls Try.prog 12 #[.pointer none] w fun e w' => e = .returned (.int .u64 0) ∧ Below w.heap.size w w' := by
  have bw : ∀ o, Below w.heap.size w (w.alloc o) := fun o => (Below.refl _ w).alloc (Nat.le_refl _) o
  go_enter Try.func12, Try.ntmps12
  go_wp2_with fail
  go_ret
  exact ⟨rfl, Below.refl _ _⟩

theorem nil_promised (w : World)  : Calls Try.prog 15 #[.pointer none, .int .i64 0, .int .u64 1, .agg #[.bool true, .int .u64 0, .int .u64 0, .int .u64 0, .int .u64 0, .int .i64 0, .int .u64 0, .int .i64 0, .int .u64 0, .int .u64 0, .int .u64 0, .int .i64 0, .int .u64 0, .int .i64 0, .int .u64 0, .int .u64 0]] w fun e w' => e = .returned (.bool false) ∧ Below w.heap.size w w' := by
  have bw : ∀ o, Below w.heap.size w (w.alloc o) := fun o => (Below.refl _ w).alloc (Nat.le_refl _) o
  go_enter Try.func15, Try.ntmps15
  go_wp2_with fail
  go_quiet (fail)
  go_wp2_with fail
  go_ret
  exact ⟨rfl, (bw _).trans ⟨rfl, rfl, rfl, Nat.le_refl _, fun _ _ => rfl⟩⟩

theorem nil_took (w : World)  : Calls Try.prog 16 #[.pointer none, .int .i64 0, .int .u64 1, .agg #[.bool true, .int .u64 0, .int .u64 0, .int .u64 0, .int .u64 0, .int .i64 0, .int .u64 0, .int .i64 0, .int .u64 0, .int .u64 0, .int .u64 0, .int .i64 0, .int .u64 0, .int .i64 0, .int .u64 0, .int .u64 0]] w fun e w' => e = .returned (.bool false) ∧ Below w.heap.size w w' := by
  have bw : ∀ o, Below w.heap.size w (w.alloc o) := fun o => (Below.refl _ w).alloc (Nat.le_refl _) o
  go_enter Try.func16, Try.ntmps16
  go_wp2_with fail
  go_quiet (fail)
  go_wp2_with fail
  go_ret
  exact ⟨rfl, (bw _).trans ⟨rfl, rfl, rfl, Nat.le_refl _, fun _ _ => rfl⟩⟩

theorem nil_second (w : World)  : Calls Try.prog 14 #[.pointer none] w fun e w' => e = .returned (.bool false) ∧ Below w.heap.size w w' := by
  have bw : ∀ o, Below w.heap.size w (w.alloc o) := fun o => (Below.refl _ w).alloc (Nat.le_refl _) o
  go_enter Try.func14, Try.ntmps14
  go_wp2_with fail
  go_ret
  exact ⟨rfl, Below.refl _ _⟩

theorem nil_value (w : World)  : Calls Try.prog 17 #[.pointer none] w fun e w' => e = .returned (.agg #[.int .u64 0, .int .i64 0, .int .u64 0, .int .i64 0, .int .u64 0, .int .u64 0]) ∧ Below w.heap.size w w' := by
  have bw : ∀ o, Below w.heap.size w (w.alloc o) := fun o => (Below.refl _ w).alloc (Nat.le_refl _) o
  go_enter Try.func17, Try.ntmps17
  go_wp2_with fail
  exact bodyPost_ret (v := .agg #[.int .u64 0, .int .i64 0, .int .u64 0, .int .i64 0, .int .u64 0, .int .u64 0]) (by simp [results, Try.results17, go_sem, loadVar]) rfl ⟨rfl, bw _⟩

theorem nil_known (w : World)  : Calls Try.prog 19 #[.pointer none] w fun e w' => e = .returned (.agg #[.int .u64 0, .int .i64 0, .int .u64 0, .int .i64 0, .int .u64 0, .int .u64 0]) ∧ Below w.heap.size w w' := by
  have bw : ∀ o, Below w.heap.size w (w.alloc o) := fun o => (Below.refl _ w).alloc (Nat.le_refl _) o
  go_enter Try.func19, Try.ntmps19
  go_wp2_with fail
  exact bodyPost_ret (v := .agg #[.int .u64 0, .int .i64 0, .int .u64 0, .int .i64 0, .int .u64 0, .int .u64 0]) (by simp [results, Try.results19, go_sem, loadVar]) rfl ⟨rfl, bw _⟩

end Go.Proofs.Ytppnjkiegiokeaa.QuoN
