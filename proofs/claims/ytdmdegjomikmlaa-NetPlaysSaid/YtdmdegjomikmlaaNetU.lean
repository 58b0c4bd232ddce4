/-
  Layer 22 (net): Cut.
-/
import Derived.Test.YtdmdegjomikmlaaNetF
namespace Go.Proofs.Ytdmdegjomikmlaa.NetU
set_option linter.unusedVariables false
set_option linter.unusedSimpArgs false
open Go.RowKit Go.Proofs.Ytdmdegjomikmlaa.Mem Go.Proofs.Ytdmdegjomikmlaa.NetM Go.Proofs.Ytdmdegjomikmlaa.NetW Go.Proofs.Ytdmdegjomikmlaa.NetS Go.Proofs.Ytdmdegjomikmlaa.NetD Go.Proofs.Ytdmdegjomikmlaa.NetT Go.Proofs.Ytdmdegjomikmlaa.NetA Go.Proofs.Ytdmdegjomikmlaa.NetH Go.Proofs.Ytdmdegjomikmlaa.NetI Go.Proofs.Ytdmdegjomikmlaa.NetJ Go.Proofs.Ytdmdegjomikmlaa.NetE Go.Proofs.Ytdmdegjomikmlaa.NetF
attribute [-go_sem] Instr.loadAt loadVar
attribute [local go_sem] loadAt_ptr lv_int lv_bool lv_string lv_u8 lv_ps lv_map

/-- The ways that are cut, with one more. -/
def more (S : Int → Int → Bool) (a c : Int) : Int → Int → Bool := fun x y => S x y || (x == min a c && y == max a c)

set_option maxHeartbeats 4000000 in
theorem cut_at {w : World} {F : Nat → Prop} {b n mb : Nat} {ps : List Pk} {S : Int → Int → Bool} {v : Value} (h : NetAt w F b ps n S v mb) (hF : ∀ k, F k → k < w.heap.size) (a c : Int) (wa : (Lit.int .i64 a).wf = true) (wc : (Lit.int .i64 c).wf = true) (hn : ps.length ≤ 1000000) (hnn : n ≤ 1000000) :
    Calls Try.prog 15 #[.pointer (some ⟨b, 0, none⟩), .int .i64 a, .int .i64 c] w fun e w' => e = .returned (.tuple #[]) ∧ ∃ v', NetAt w' F b (left (same a c) ps) (n + 1) (more S a c) v' mb ∧ Keep F w w' := by
  have hmm := wf_minmax wa wc
  have hbl := lt_of_block h.h
  have hmb := net_mb_ne h
  have hml := h.c.lt
  obtain ⟨u, hu⟩ : ∃ u, u = (w.alloc (.cells #[.int .i64 a] 3)).alloc (.cells #[.int .i64 c] 3) := ⟨_, rfl⟩
  have ku : Keep (fun _ => False) w u := by rw [hu]; exact ((Keep.refl _ _).alloc _).alloc _
  have hA : u.heap[w.heap.size]? = some (.cells #[.int .i64 a] 3 (0, 0)) := by rw [hu]; exact block_alloc (block_new w _) _
  have hB : u.heap[w.heap.size + 1]? = some (.cells #[.int .i64 c] 3 (0, 0)) := by rw [hu]; exact block_new_at (by simp)
  have hus : u.heap.size = w.heap.size + 2 := by rw [hu]; simp
  have hU := h.keep0 ku
  have hS : ∀ w', Keep (fun k => k = mb) u w' → w'.cell? ⟨b, 1, none⟩ = some (.map (some mb)) ∧ w'.cell? ⟨w.heap.size, 0, none⟩ = some (.int .i64 a) ∧ w'.cell? ⟨w.heap.size + 1, 0, none⟩ = some (.int .i64 c) := fun w' kk => by
    have h1 := (kk.block b (lt_of_block hU.h) (fun e => hmb e.symm)).trans hU.h
    have h2 := (kk.block _ (lt_of_block hA) (by omega)).trans hA
    have h3 := (kk.block _ (lt_of_block hB) (by omega)).trans hB
    exact ⟨cell_at h1 1, cell_at h2 0, cell_at h3 0⟩
  have hO : ∀ k, v.ownBlock = some k → k < w.heap.size := fun k e => hF k (h.fo k e)
  have HF := Lib.hid hF
  have HS := Lib.hid hS
  have HU := Lib.hid hU
  have Hu := Lib.hid hu
  have Ku := Lib.hid ku
  have HA := Lib.hid hA
  have HB := Lib.hid hB
  have HO := Lib.hid hO
  have Hus := Lib.hid hus
  have Hnm := Lib.hid (net_nm hU)
  clear hF hS hU hu ku hA hB hO h hus
  go_enter Try.func15, Try.ntmps15
  go_wp2_with fail
  rw [← Hu.out]
  go_region_held3 (fun w' => w'.cell? ⟨b, 1, none⟩ = some (.map (some mb)) ∧ w'.cell? ⟨w.heap.size, 0, none⟩ = some (.int .i64 a) ∧ w'.cell? ⟨w.heap.size + 1, 0, none⟩ = some (.int .i64 c))
    (first
      | exact HS.out _ ((Keep.refl _ u).drew)
      | exact HS.out _ K1.out
      | exact HS.out _ K2.out)
    (first
      | (go_at_call 20; refine (both_any a c _).mono ?_; rintro e w1 ⟨rfl, k1⟩
         have kk : Keep (fun _ => False) u w1 := ((Keep.refl (fun _ => False) u).drew).trans (Keep.of0 k1)
         have K1 := Lib.hid (Keep.to1 (b := mb) kk)
         have n1 := HU.out.keep0 kk
         obtain ⟨w2, hrun, hc2, hg2⟩ := n1.c.put hnn (min a c) (max a c) hmm.1 hmm.2
         have k2 : Keep (fun k => k = mb) w1 w2 := (Keep.refl _ w1).grown hg2 (fun k e => .inl (by cases e; rfl))
         have K2 := Lib.hid (K1.out.trans k2)
         have n2 : NetAt w2 F b ps (n + 1) (more S a c) v mb := ⟨(k2.block b (lt_of_block n1.h) (fun e => hmb e.symm)).trans n1.h, owns_keep n1.o k2 (fun i e e2 => Hnm.out (by rw [e, e2])), hc2, n1.nb, n1.fb, n1.fm, n1.fo, n1.ok⟩
         replace n1 := Lib.hid n1
         have N2 := Lib.hid n2
         clear kk hc2 hg2 k2 n2 k1))
  obtain ⟨ao, cp, hv⟩ := owns_slice N2.out.o
  have HV := Lib.hid hv
  have ca := (HS.out _ K2.out).2.1
  have cb := (HS.out _ K2.out).2.2
  have c0 : w2.cell? ⟨b, 0, none⟩ = some (.slice ao ps.length cp) := by rw [cell_at N2.out.h 0, ← hv]; rfl
  have hsz := K2.out.size
  have HD := Lib.hid (delfunc_any w.heap.size (w.heap.size + 1) a c ps v w2 hn N2.out.o ca cb (by have := Hus.out; omega) (by have := Hus.out; omega) (fun e => by have := HO.out _ e; omega) (fun e => by have := HO.out _ e; omega))
  rw [hv] at HD
  clear hv ca cb hrun
  generalize hl : ps.length = m at *
  replace hl := Lib.hid hl
  go_wp2_with (go_at_call 24; refine HD.out.mono ?_; rintro e w3 ⟨v3, rfl, o3, f3, k3⟩
               have hb3 := (k3.block b (lt_of_block N2.out.h) (fun e => N2.out.nb (by rw [HV.out]; exact e))).trans N2.out.h
               have c3 := cell_at hb3 0
               have fr3 := free_at hb3 0
               obtain ⟨ao3, cp3, hv3⟩ := owns_slice o3
               subst hv3
               have Hb3 := Lib.hid hb3
               have O3 := Lib.hid o3
               have F3 := Lib.hid f3
               have K3 := Lib.hid k3
               clear hb3 o3 f3 k3)
  rw [← HV.out] at F3 K3
  refine bodyPost_end (v := .tuple #[]) (by simp [results, Try.results15, go_sem]) rfl ⟨rfl, .slice ao3 (left (same a c) ps).length cp3, ?_, ?_⟩
  · have hN := N2.out
    have kb : Keep (fun k => k = b) w3 (w3.setCell ⟨b, 0, none⟩ (.slice ao3 (left (same a c) ps).length cp3)) := (Keep.refl _ w3).set1 0 _
    have hnm2 : v.ownBlock ≠ some mb := net_nm hN
    refine ⟨(block_set Hb3.out 0 _).trans rfl, owns_keep O3.out kb (fun k e e2 => hN.nb (by rw [F3.out k e, e2])), (hN.c.keep K3.out (fun e => hnm2 e)).keep kb hmb, fun e => hN.nb (F3.out b e), hN.fb, hN.fm, fun k e => hN.fo k (F3.out k e), fun p hp => hN.ok p ((List.mem_filter.1 hp).1)⟩
  · have hN := N2.out
    have k23 : Keep (fun k => k = mb ∨ v.ownBlock = some k) u w3 := (K2.out.mono (fun k _ e => .inl e)).trans (K3.out.mono (fun k _ e => .inr e))
    have kw : Keep F w w3 := Ku.out.toAny.trans (k23.mono (fun k _ e => by rcases e with e | e; rw [e]; exact hN.fm; exact hN.fo k e))
    exact kw.setCell (.inl hN.fb) _

end Go.Proofs.Ytdmdegjomikmlaa.NetU
