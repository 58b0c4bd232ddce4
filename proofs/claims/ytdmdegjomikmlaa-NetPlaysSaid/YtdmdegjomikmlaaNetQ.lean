/-
  Layer 22 (net): Spoil, where a packet is spoilt.
-/
import Derived.Test.YtdmdegjomikmlaaNetP
namespace Go.Proofs.Ytdmdegjomikmlaa.NetQ
set_option linter.unusedVariables false
set_option linter.unusedSimpArgs false
open Go.RowKit Go.Proofs.Ytdmdegjomikmlaa.Mem Go.Proofs.Ytdmdegjomikmlaa.NetM Go.Proofs.Ytdmdegjomikmlaa.NetW Go.Proofs.Ytdmdegjomikmlaa.NetS Go.Proofs.Ytdmdegjomikmlaa.NetD Go.Proofs.Ytdmdegjomikmlaa.NetT Go.Proofs.Ytdmdegjomikmlaa.NetA Go.Proofs.Ytdmdegjomikmlaa.NetP
attribute [-go_sem] Instr.loadAt loadVar
attribute [local go_sem] loadAt_ptr lv_int lv_bool lv_string lv_u8 lv_ps lv_map
theorem lv_bs (p : Addr) (w : World) : (loadVar 55 p).run Try.prog w = (load p).run Try.prog w := by simp [loadVar, go_sem]
attribute [local go_sem] lv_bs

theorem flat_set2 (fr to_ : Int) (s s' : ByteArray) (sp sp' : Bool) : ∀ (ps : List Pk) (i : Nat), ps[i]? = some ⟨fr, to_, s, sp⟩ → flat (ps.set i ⟨fr, to_, s', sp'⟩) = ((flat ps).set (i * 4 + 2) (.string s')).set (i * 4 + 3) (.bool sp')
  | [], i, h => by simp at h
  | a :: rs, 0, h => by
    simp at h
    subst h
    simp [flat, Pk.cells]
  | a :: rs, i + 1, h => by
    simp at h
    have ih := flat_set2 fr to_ s s' sp sp' rs i h
    show a.cells ++ flat (rs.set i _) = ((a.cells ++ flat rs).set _ _).set _ _
    rw [ih, show (i + 1) * 4 + 2 = (i * 4 + 2) + 1 + 1 + 1 + 1 from by omega, show (i + 1) * 4 + 3 = (i * 4 + 3) + 1 + 1 + 1 + 1 from by omega]
    rfl

set_option maxHeartbeats 4000000 in
theorem spoil_yes {w : World} {F : Nat → Prop} {b n mb : Nat} {ps : List Pk} {S : Int → Int → Bool} {v : Value} (h : NetAt w F b ps n S v mb) (i : Nat) (p : Pk) (hp : ps[i]? = some p) (hn : ps.length ≤ 1000000) (at_ : Nat) (c : Int) (hsp : p.sp = false) (hc0 : (c == 0) = false) (ha : at_ < p.s.size) (hcl : 0 ≤ c) (hch : c < 256) :
    Calls Try.prog 12 #[.pointer (some ⟨b, 0, none⟩), .int .i64 i, .int .i64 at_, .int .u8 c] w fun e w' => e = .returned (.bool true) ∧ ∃ v', NetAt w' F b (ps.set i (spoilt p at_ c)) n S v' mb ∧ Keep F w w' := by
  have hi : i < ps.length := (List.getElem?_eq_some_iff.1 hp).1
  have ho := h.o
  rcases ho.2 with ⟨-, h0⟩ | ⟨g, cap, cur, rfl, -, hg, h1, h2, h3, ht⟩
  · omega
  have his := is_at h i
  have hd : (decide ((0 : Int) ≤ i) && decide ((i : Int) < (ps.length : Int))) = true := by
    rw [Bool.and_eq_true, decide_eq_true_eq, decide_eq_true_eq]; omega
  rw [hd] at his
  have His := Lib.hid his
  have hpo := h.ok p (List.mem_of_getElem? hp)
  have hcell : ∀ j, j < 4 → w.cell? ⟨g, i * 4 + j, none⟩ = p.cells[j]? := by
    intro j hj
    have q := flat_at ps i j p hp hj
    rw [← ht, List.getElem?_take, if_pos (by omega)] at q
    rw [cell_at hg, ← q]; simp
  have c2 := hcell 2 (by omega)
  have c3 := hcell 3 (by omega)
  obtain ⟨fr, to_, s, sp⟩ := p
  simp only [Pk.cells, List.getElem?_cons_succ, List.getElem?_cons_zero] at c2 c3 ha hsp
  subst hsp
  obtain ⟨m, hm⟩ : ∃ m, m = ps.length := ⟨_, rfl⟩
  rw [← hm] at h hi hn h1
  have c0 : w.cell? ⟨b, 0, none⟩ = some (.slice (some ⟨g, 0, none⟩) m cap) := cell_at h.h 0
  have kc := run_bytes_of_string (P := Try.prog) w 9 55 5 s Try.underlying9 Try.underlying55 Try.underlying5
  obtain ⟨gc, hgc⟩ : ∃ gc, gc = grownCap w s.size 0 5 := ⟨_, rfl⟩
  rw [← hgc] at kc
  obtain ⟨u1, hu1⟩ : ∃ u1, u1 = w.drew.alloc (.cells (bytesRow s gc) 5 ((bytesRow s gc).size, (bytesRow s gc).size + 1)) := ⟨_, rfl⟩
  rw [← hu1] at kc
  have k1 : Keep (fun _ => False) w u1 := by rw [hu1]; exact ((Keep.refl _ w).drew).alloc _
  have bx : u1.heap[w.heap.size]? = some (.cells (bytesRow s gc) 5 ((bytesRow s gc).size, (bytesRow s gc).size + 1)) := by rw [hu1]; exact block_new w.drew _
  have hrow : ∀ j, j < s.size → (bytesRow s gc)[j]? = some (.int .u8 ((s.data.toList[j]?.getD 0).toNat : Int)) := by
    intro j hj
    have hj' : j < s.data.size := hj
    unfold bytesRow
    rw [Array.getElem?_append_left (by simp; exact hj'), Array.getElem?_map, Array.getElem?_eq_getElem hj']
    rw [Array.getElem?_toList, Array.getElem?_eq_getElem hj']
    rfl
  have bc : u1.cell? ⟨w.heap.size, at_, none⟩ = some (.int .u8 ((s.data.toList[at_]?.getD 0).toNat : Int)) := by rw [cell_at bx]; exact hrow at_ ha
  have hrs : s.size ≤ (bytesRow s gc).size := by unfold bytesRow; simp
  have bf : u1.frozen? ⟨w.heap.size, at_, none⟩ = false := by
    simp [World.frozen?, bx]
    omega
  have hai : (0 : Int) ≤ (at_ : Int) := by omega
  have hai2 : (at_ : Int) < (s.size : Int) := by omega
  have hai3 : ¬ (at_ : Int) < 0 := by omega
  have hai4 : ¬ (s.size : Int) ≤ (at_ : Int) := by omega
  have hi' : (i : Int) < (m : Int) := by omega
  have hxb := xb_bits (s.data.toList[at_]?.getD 0) c hcl hch
  obtain ⟨x, hx⟩ : ∃ x, x = s.data.toList[at_]?.getD 0 := ⟨_, rfl⟩
  rw [← hx] at bc hxb
  have hs9 := hpo.2.2
  simp only at hs9
  have H := Lib.hid h
  have hml := h.c.lt
  have hmg : mb ≠ g := fun e => net_nm h (by simp [Value.ownBlock, e])
  have Hp := Lib.hid hp
  have H3 := Lib.hid h3
  have H2 := Lib.hid h2
  have Hg := Lib.hid hg
  have Ht := Lib.hid ht
  have Hm := Lib.hid hm
  have Hx := Lib.hid hx
  have Hbx := Lib.hid bx
  have Hrow := Lib.hid hrow
  have K1 := Lib.hid k1
  have Hu1 := Lib.hid hu1
  have Hrs := Lib.hid hrs
  clear h hg ht hm hx bx hrow k1 hu1 hrs his hd ho hcell hpo hgc hp h2 h3
  -- the world behind the byte's store
  obtain ⟨u2, hu2⟩ : ∃ u2, u2 = u1.setCell ⟨w.heap.size, at_, none⟩ (.int .u8 ((xb x c).toNat : Int)) := ⟨_, rfl⟩
  have k2 : Keep (fun _ => False) w u2 := by rw [hu2]; exact Keep.then K1.out ((Keep.refl (fun k => k = w.heap.size) u1).set1 _ _) (fun i e => by omega)
  have hbx2 : u2.heap[w.heap.size]? = some (.cells ((bytesRow s gc).setIfInBounds at_ (.int .u8 ((xb x c).toNat : Int))) 5 ((bytesRow s gc).size, (bytesRow s gc).size + 1)) := by rw [hu2]; exact block_set Hbx.out _ _
  obtain ⟨ls, hls⟩ : ∃ ls, ls = s.data.toList.set at_ (xb x c) := ⟨_, rfl⟩
  have hll : ls.length = s.size := by rw [hls]; simp
  have hcb : ∀ j (hj : j < ls.length), u2.cell? ⟨w.heap.size, j, none⟩ = some (.int .u8 (ls[j].toNat : Int)) := by
    intro j hj
    have hj' : j < s.data.toList.length := by rw [hll] at hj; simpa using hj
    rw [cell_at hbx2, Array.getElem?_setIfInBounds]
    by_cases e : at_ = j
    · subst e
      rw [if_pos rfl, if_pos (by have := Hrs.out; omega)]
      simp [hls]
    · rw [if_neg e, Hrow.out j (by rw [← hll]; exact hj)]
      simp only [hls, List.getElem_set_ne e, List.getElem?_eq_getElem hj', Option.getD_some]
  have hgw := lt_of_block Hg.out
  have hbw := lt_of_block H.out.h
  have hgb : g ≠ b := fun e => H.out.nb (by simp [Value.ownBlock, e])
  have hbk : ∀ W', Keep (fun k => k = g) u2 W' → W'.cell? ⟨b, 0, none⟩ = some (.slice (some ⟨g, 0, none⟩) m cap) ∧ (convert 55 9 (.slice (some ⟨w.heap.size, 0, none⟩) s.size gc)).run Try.prog W' = .ok (.string ⟨ls.toArray⟩) W' := by
    intro W' kk
    have h2 := lt_of_block hbx2
    refine ⟨(kk.cell (p := ⟨b, 0, none⟩) (Nat.lt_of_lt_of_le hbw k2.size) (fun e => hgb e.symm)).trans ((k2.cell (p := ⟨b, 0, none⟩) hbw (fun e => e)).trans c0), ?_⟩
    rw [← hll]
    exact run_convert_bytes_back W' 55 9 5 ⟨w.heap.size, 0, none⟩ gc ls Try.underlying55 Try.underlying5 Try.underlying9 (fun j hj => by
      have e : (⟨w.heap.size, 0, none⟩ : Addr).add j = ⟨w.heap.size, j, none⟩ := by rw [Addr.add_lit, Nat.zero_add]
      rw [e]
      exact (kk.cell (p := ⟨w.heap.size, j, none⟩) h2 (by show ¬ w.heap.size = g; omega)).trans (hcb j hj))
  have hg2 : u2.heap[g]? = some (.cells cur TP (0, 0)) := (k2.block g hgw (fun e => e)).trans Hg.out
  have q1 := hbk _ ((Keep.refl _ u2).drew)
  have cb := q1.1
  have cv := q1.2
  have e2 : u2.drew.cell? ⟨g, i * 4 + 2, none⟩ = some (.string s) := (k2.cell (p := ⟨g, _, none⟩) hgw (fun e => e)).trans c2
  have e3 : u2.drew.cell? ⟨g, i * 4 + 3, none⟩ = some (.bool false) := (k2.cell (p := ⟨g, _, none⟩) hgw (fun e => e)).trans c3
  have f2 : u2.drew.frozen? ⟨g, i * 4 + 2, none⟩ = false := free_at (block_drew hg2) _
  have f3 : u2.drew.frozen? ⟨g, i * 4 + 3, none⟩ = false := free_at (block_drew hg2) _
  have e2' : u2.cell? ⟨g, i * 4 + 2, none⟩ = some (.string s) := e2
  have e3' : u2.cell? ⟨g, i * 4 + 3, none⟩ = some (.bool false) := e3
  have f2' : u2.frozen? ⟨g, i * 4 + 2, none⟩ = false := f2
  have f3' : u2.frozen? ⟨g, i * 4 + 3, none⟩ = false := f3
  have Hu2 := Lib.hid hu2
  have K2 := Lib.hid k2
  have Hg2 := Lib.hid hg2
  have Hls := Lib.hid hls
  have Hbk := Lib.hid hbk
  clear hu2 k2 hg2 hls hbk hcb hbx2 q1
  go_enter Try.func12, Try.ntmps12
  go_wp2_with (go_at_call 22; refine His.out.mono ?_; rintro e w1 ⟨rfl, rfl⟩)
  rw [← Hu2.out]
  clear c0 c2 c3 kc bc bf
  go_region
  go_wp2_with fail
  go_ret
  have kS : Keep (fun k => k = g) u2 ((u2.setCell ⟨g, i * 4 + 2, none⟩ (.string ⟨ls.toArray⟩)).setCell ⟨g, i * 4 + 3, none⟩ (.bool true)).drew := (((Keep.refl _ u2).set1 _ _).set1 _ _).drew
  have gS := block_drew (block_set (block_set Hg2.out (i * 4 + 2) (.string ⟨ls.toArray⟩)) (i * 4 + 3) (.bool true))
  generalize ((u2.setCell ⟨g, i * 4 + 2, none⟩ (.string ⟨ls.toArray⟩)).setCell ⟨g, i * 4 + 3, none⟩ (.bool true)).drew = R at kS gS ⊢
  have hN := H.out
  have kR : Keep (fun k => k = g) w R := K2.out.toAny.trans kS
  have hsl : (ps.set i (spoilt ⟨fr, to_, s, false⟩ at_ c)).length = m := by rw [List.length_set, Hm.out]
  have hsp : spoilt ⟨fr, to_, s, false⟩ at_ c = ⟨fr, to_, ⟨ls.toArray⟩, true⟩ := by unfold spoilt; rw [Hls.out, Hx.out]
  refine ⟨rfl, .slice (some ⟨g, 0, none⟩) m cap, ⟨(kR.block b hbw (fun e => hgb e.symm)).trans hN.h, ?_, hN.c.keep kR hmg, hN.nb, hN.fb, hN.fm, hN.fo, ?_⟩, kR.mono (fun k _ e => by subst e; exact hN.fo k rfl)⟩
  · rw [hsl]
    refine ⟨by rw [flat_length, hsl], .inr ⟨g, cap, _, rfl, Nat.zero_le _, gS, h1, H2.out, by simpa using H3.out, ?_⟩⟩
    rw [hsp, flat_set2 fr to_ s _ false _ ps i Hp.out, ← Ht.out, ← Hm.out]
    simp [List.take_set]
  · intro q hq
    rcases List.mem_or_eq_of_mem_set hq with e | e
    · exact hN.ok q e
    · rw [e, hsp]
      have := hN.ok _ (List.mem_of_getElem? Hp.out)
      exact ⟨this.1, this.2.1, by show ls.toArray.size ≤ _; simp only [List.size_toArray]; rw [hll]; exact this.2.2⟩

end Go.Proofs.Ytdmdegjomikmlaa.NetQ
