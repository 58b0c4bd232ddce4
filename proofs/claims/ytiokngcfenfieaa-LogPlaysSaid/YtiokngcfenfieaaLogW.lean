/-
  The walks of layer 13 (log): each function once.
-/
import Derived.Test.YtiokngcfenfieaaProg
import Derived.Test.YtiokngcfenfieaaMem
import Derived.WalkKit
import Derived.Deep.QuietTactic
import Derived.BigQuiet
import Derived.Deep.AppendLies
import Derived.Deep.RegionLaw
import Derived.WalkSpells
import Derived.WalkLawsBesides
namespace Go.Proofs.Ytiokngcfenfieaa.LogW
set_option linter.unusedVariables false
set_option linter.unusedSimpArgs false
open Go.RowKit Go.Proofs.Ytiokngcfenfieaa.Mem

abbrev TL : Nat := 53
abbrev TR : Nat := 33

theorem new_bad (base most : Int) (h : most < 1 ∨ 256 < most) (w : World) :
    Calls Try.prog 8 #[.int .u64 base, .int .i64 most] w fun e w' => e = .returned (.tuple #[.pointer none, .int .i64 1]) ∧ w = w' := by
  rcases h with h | h
  · have h1 : decide (most < 1) = true := decide_eq_true h
    go_enter Try.func8, Try.ntmps8
    go_wp2
    go_ret2
    exact ⟨rfl, rfl⟩
  · have h1 : decide (most < 1) = false := decide_eq_false (by omega)
    have h2 : decide (256 < most) = true := decide_eq_true h
    go_enter Try.func8, Try.ntmps8
    go_wp2
    go_ret2
    exact ⟨rfl, rfl⟩

theorem new_ok (base most : Int) (h1 : 1 ≤ most) (h2 : most ≤ 256) (w : World) :
    Calls Try.prog 8 #[.int .u64 base, .int .i64 most] w fun e w' => e = .returned (.tuple #[.pointer (some ⟨w.heap.size, 0, none⟩), .int .i64 0]) ∧ w.alloc (.cells #[.int .i64 most, .int .u64 base, .slice none 0 0] 53) = w' := by
  have h3 : decide (most < 1) = false := decide_eq_false (by omega)
  have h4 : decide (256 < most) = false := decide_eq_false (by omega)
  go_enter Try.func8, Try.ntmps8
  go_wp2
  go_ret2
  exact ⟨rfl, rfl⟩

theorem last_nil (w : World) :
    Calls Try.prog 14 #[.pointer none] w fun e w' => e = .returned (.int .u64 0) ∧ w = w' := by
  go_enter Try.func14, Try.ntmps14
  go_wp2
  go_ret
  exact ⟨rfl, rfl⟩

theorem ret_u64 {a b : Int} (h : a = b) : Ending.returned (.int .u64 a) = .returned (.int .u64 b) := by rw [h]

theorem last_at (b base : Nat) (ao : Option Addr) (n cap : Nat) (w : World) (hb : base ≤ 4611686018427387904) (hn : n ≤ 4611686018427387904) (h1 : w.cell? ⟨b, 1, none⟩ = some (.int .u64 base)) (h2 : w.cell? ⟨b, 2, none⟩ = some (.slice ao n cap)) :
    Calls Try.prog 14 #[.pointer (some ⟨b, 0, none⟩)] w fun e w' => e = .returned (.int .u64 ((base : Int) + n)) ∧ ∃ k, w' = w.drewN k := by
  go_enter Try.func14, Try.ntmps14
  go_wp2
  go_quiet (fail)
  go_wp2
  go_ret
  exact ⟨rfl, _, rfl⟩

/-- A log's record as it lies: nine cells -/
structure Rec where
  seq : Int
  now : Int
  ses : Int
  num : Int
  kind : Int
  key : ByteArray
  val : ByteArray
  ttl : Int
  ver : Int
def Rec.cells (r : Rec) : List Value := [.int .u64 r.seq, .int .u64 r.now, .int .u64 r.ses, .int .u64 r.num, .int .i64 r.kind, .string r.key, .string r.val, .int .u64 r.ttl, .int .u64 r.ver]
def Rec.agg (r : Rec) : Value := .agg r.cells.toArray

theorem Try.info_rec : (Try.prog.info? 33).map (fun i => (i.zero, i.size, i.bytes)) = some (some (.agg #[.int .u64 0, .int .u64 0, .int .u64 0, .int .u64 0, .int .i64 0, .string ⟨#[]⟩, .string ⟨#[]⟩, .int .u64 0, .int .u64 0]), 9, 88) := by kernel_rfl

theorem add_full (b base most : Nat) (ao : Option Addr) (n cap : Nat) (r : Rec) (w : World) (hbw : b < w.heap.size) (hb : base ≤ 4611686018427387904) (hn : n ≤ 4611686018427387904) (h0 : w.cell? ⟨b, 0, none⟩ = some (.int .i64 most)) (h1 : w.cell? ⟨b, 1, none⟩ = some (.int .u64 base)) (h2 : w.cell? ⟨b, 2, none⟩ = some (.slice ao n cap))
    (hs : r.seq = base + n + 1) (hf : most ≤ n) :
    Calls Try.prog 10 #[.pointer (some ⟨b, 0, none⟩), r.agg] w fun e w' => e = .returned (.int .i64 130) ∧ Keep (fun _ => False) w w' := by
  obtain ⟨seq, now, ses, num, kind, key, val, ttl, ver⟩ := r
  simp only at hs
  subst hs
  simp only [Rec.agg, Rec.cells]
  have hz : (((base : Int) + n + 1) == 0) = false := by simp; omega
  have ha := fun o i => World.cell?_alloc_past (w := w) o b i hbw
  have hd : decide ((most : Int) ≤ n) = true := by simpa using hf
  go_enter Try.func10, Try.ntmps10
  go_wp2
  go_quiet ((go_at_call 14; exact Calls.quiet_of (last_at b base ao n cap _ hb hn (by go_simp) (by go_simp))))
  go_wp2
  go_quiet (fail)
  go_wp2
  go_outline
  go_ret
  exact ⟨rfl, by repeat (first | exact Keep.refl _ _ | apply Keep.drewN | apply Keep.alloc)⟩


theorem add_close {w w' : World} {R R' : Obj} {k b most base : Nat} {v : Value} {n g cp : Nat} {xs cs : List Value}
    (hh : w.heap[b]? = some (.cells #[.int .i64 most, .int .u64 base, v] TL (0, 0))) (hne : v.ownBlock ≠ some b)
    (hown' : w'.ownsRow 0 TR 9 (.slice (some ⟨g, 0, none⟩) (n + 1) cp) (n + 1) (xs ++ cs)) (hgrow : (((w.alloc R).drewN k).alloc R').grownBy w' v.ownBlock) (hat : v.ownBlock = some g ∨ g = (((w.alloc R).drewN k).alloc R').heap.size) :
    ∃ v', (w'.setCell ⟨b, 2, none⟩ (.slice (some ⟨g, 0, none⟩) (n + 1) cp)).heap[b]? = some (.cells #[.int .i64 most, .int .u64 base, v'] TL (0, 0)) ∧ (w'.setCell ⟨b, 2, none⟩ (.slice (some ⟨g, 0, none⟩) (n + 1) cp)).ownsRow 0 TR 9 v' (n + 1) (xs ++ cs) ∧
      (v'.ownBlock = v.ownBlock ∨ ∃ g, v'.ownBlock = some g ∧ w.heap.size ≤ g) ∧ Keep (fun k => k = b ∨ v.ownBlock = some k) w (w'.setCell ⟨b, 2, none⟩ (.slice (some ⟨g, 0, none⟩) (n + 1) cp)) := by
  have hb' := block_grown hgrow (block_alloc (block_drewN (block_alloc hh _) _) _) (Ne.symm hne)
  have hsz : w.heap.size ≤ (((w.alloc R).drewN k).alloc R').heap.size := by simp; omega
  have hgb : g ≠ b := by
    rintro rfl
    rcases hat with h | h
    · exact hne h
    · have := lt_of_block hh; omega
  have hk : Keep (fun k => k = b ∨ v.ownBlock = some k) w (w'.setCell ⟨b, 2, none⟩ (.slice (some ⟨g, 0, none⟩) (n + 1) cp)) :=
    Keep.setCell (Keep.grown (((Keep.refl _ w).alloc _).drewN _ |>.alloc _) hgrow (fun k hk => .inl (.inr hk))) (.inl (.inl rfl)) _
  refine ⟨.slice (some ⟨g, 0, none⟩) (n + 1) cp, ?_, ?_, ?_, hk⟩
  · rw [block_set hb']; rfl
  · exact owns_keep hown' (Keep.setCell (Keep.refl (fun k => k = b) _) (.inl rfl) _) (fun k hk => by
      have : g = k := by simpa [Value.ownBlock] using hk
      omega)
  · rcases hat with h | h
    · exact .inl h.symm
    · exact .inr ⟨g, rfl, by omega⟩

theorem add_ok (b base most : Nat) (v : Value) (n : Nat) (xs : List Value) (r : Rec) (w : World) (hb : base ≤ 4611686018427387904) (hm : n < most) (hm' : most ≤ 256)
    (hh : w.heap[b]? = some (.cells #[.int .i64 most, .int .u64 base, v] TL (0, 0))) (hown : w.ownsRow 0 TR 9 v n xs) (hne : v.ownBlock ≠ some b)
    (hs : r.seq = base + n + 1) :
    Calls Try.prog 10 #[.pointer (some ⟨b, 0, none⟩), r.agg] w fun e w' => e = .returned (.int .i64 0) ∧
      ∃ v', w'.heap[b]? = some (.cells #[.int .i64 most, .int .u64 base, v'] TL (0, 0)) ∧ w'.ownsRow 0 TR 9 v' (n + 1) (xs ++ r.cells) ∧ (v'.ownBlock = v.ownBlock ∨ ∃ g, v'.ownBlock = some g ∧ w.heap.size ≤ g) ∧ Keep (fun k => k = b ∨ v.ownBlock = some k) w w' := by
  obtain ⟨ao, cap, rfl⟩ : ∃ ao cap, v = .slice ao n cap := by
    rcases hown.2 with ⟨rfl, rfl⟩ | ⟨g, cap, _, rfl, _⟩
    · exact ⟨_, _, rfl⟩
    · exact ⟨_, _, rfl⟩
  have hbw := lt_of_block hh
  have hn : n ≤ 4611686018427387904 := by omega
  have h0 : w.cell? ⟨b, 0, none⟩ = some (.int .i64 most) := by rw [cell_at hh]; rfl
  have h1 : w.cell? ⟨b, 1, none⟩ = some (.int .u64 base) := by rw [cell_at hh]; rfl
  have h2 : w.cell? ⟨b, 2, none⟩ = some (.slice ao n cap) := by rw [cell_at hh]; rfl
  obtain ⟨i0, hi, hz0, hz1, hz2⟩ := info_parts Try.info_rec
  have Hh := Lib.hid hh
  clear hh
  have Hown := Lib.hid hown
  clear hown
  have Hne := Lib.hid hne
  clear hne
  obtain ⟨seq, now, ses, num, kind, key, val, ttl, ver⟩ := r
  simp only at hs
  subst hs
  simp only [Rec.agg, Rec.cells]
  have hz : (((base : Int) + n + 1) == 0) = false := by simp; omega
  have ha := fun o i => World.cell?_alloc_past (w := w) o b i hbw
  have hd : decide ((most : Int) ≤ n) = false := by simpa using hm
  go_enter Try.func10, Try.ntmps10
  go_wp2
  go_quiet ((go_at_call 14; exact Calls.quiet_of (last_at b base ao n cap _ hb hn (by go_simp) (by go_simp))))
  go_wp2
  go_quiet (fail)
  go_wp2
  go_region_law ((refine step_append_lies _ rfl (.tmp 35) (.tmp 37) 34 rfl 0 33 i0 _ 9 88 Try.underlying34 hi hz0 hz1 hz2 rfl (by decide) (.slice ao n cap) n xs rfl ((owns_drewN (Hown.out.alloc _) _).alloc _) ⟨w.heap.size + 1, 0, none⟩ 1 1 [.int .u64 ((base : Int) + n + 1), .int .u64 now, .int .u64 ses, .int .u64 num, .int .i64 kind, .string key, .string val, .int .u64 ttl, .int .u64 ver] rfl rfl (World.news_of_block (block_new_at (by simp))) (by simp [Value.oneCell']) (by decide) (by unfold maxLen; omega) (by omega) (Nat.zero_le _) _ rfl ?_); intro g cp w' hown' hgrow hat hlt; have hb' := block_grown hgrow (block_alloc (block_drewN (block_alloc Hh.out _) _) _) (Ne.symm Hne.out); have c2 : w'.cell? ⟨b, 2, none⟩ = some (.slice ao n cap) := by { rw [cell_at hb']; rfl }; have f2 := free_at hb' 2)
  all_goals
    go_wp2
    go_ret
    exact ⟨rfl, add_close Hh.out Hne.out hown' hgrow hat⟩


/-! ### slices.Clone at records -/
theorem clone_nil (n cap : Nat) (w : World) (h : n = 0 ∧ cap = 0) :
    Calls Try.prog 19 #[.slice none n cap] w fun e w' => e = .returned (.slice none 0 0) ∧ w = w' := by
  obtain ⟨rfl, rfl⟩ := h
  have hn := fun w => Lib.run_eql_slice_nil (P := Try.prog) w 34 33 none 0 0 0 0 Try.underlying34
  go_enter Try.func19, Try.ntmps19
  go_wp2
  go_ret
  exact ⟨rfl, rfl⟩

theorem clone_some (g off n cap : Nat) (xs : List Value) (w : World) (hg : g < w.heap.size) (hx : xs.length = n * 9) (hone : ∀ u ∈ xs, u.oneCell' = true) (hc : ∀ j u, xs[j]? = some u → w.cell? ⟨g, off + j, none⟩ = some u) (hn : n ≤ 1000000) :
    Calls Try.prog 19 #[.slice (some ⟨g, off, none⟩) n cap] w fun e w' => ∃ v', e = .returned v' ∧ w'.ownsRow w.heap.size TR 9 v' n xs ∧ Keep (fun _ => False) w w' := by
  have hn' := fun w => Lib.run_eql_slice_nil (P := Try.prog) w 34 33 (some ⟨g, off, none⟩) n cap 0 0 Try.underlying34
  obtain ⟨i0, hi, hz0, hz1, hz2⟩ := info_parts Try.info_rec
  have Hx := Lib.hid hx
  clear hx
  have Hc := Lib.hid hc
  clear hc
  have Ho := Lib.hid hone
  clear hone
  go_enter Try.func19, Try.ntmps19
  go_wp2_with (at_builtin; refine wpList_append_own _ rfl (.tmp 5) (.tmp 6) 34 rfl w.heap.size 33 i0 _ 9 88 Try.underlying34 hi hz0 hz1 hz2 rfl (by decide) _ 0 [] rfl ?c1 ⟨g, off, none⟩ n cap xs rfl Hx.out ?c2 Ho.out (by unfold maxLen; omega) (by omega) ?c3 ?c4)
  case c1 => exact World.ownsRow_made w #[] 0 (Nat.le_refl _) (by unfold maxLen; omega) rfl
  case c2 =>
    intro j u hj
    rw [show (⟨g, off, none⟩ : Addr).add j = ⟨g, off + j, none⟩ from by simp [Addr.add], World.cell?_alloc_past _ _ _ hg]
    exact Hc.out j u hj
  case c3 => simp
  case c4 =>
    intro v' w' hown hgrow _
    go_wp2
    go_ret
    exact ⟨_, rfl, hown, Keep.grown ((Keep.refl _ _).alloc _) hgrow (fun k hk => .inr (by
      have : w.heap.size = k := by simpa [Value.ownBlock] using hk
      omega))⟩

end Go.Proofs.Ytiokngcfenfieaa.LogW
