/-
  Layer 17 (quorum): QuorumOne: an act of kind 3.
-/
import Derived.Test.YtppnjkiegiokeaaQuoQ
import Derived.Test.YtppnjkiegiokeaaQuoI
import Derived.Test.YtppnjkiegiokeaaQuoP0
import Derived.Test.YtppnjkiegiokeaaQuoP1
import Derived.Test.YtppnjkiegiokeaaQuoP2
import Derived.Test.YtppnjkiegiokeaaQuoK0
import Derived.Test.YtppnjkiegiokeaaQuoK1
import Derived.Test.YtppnjkiegiokeaaQuoK2
import Derived.Test.YtppnjkiegiokeaaQuoK
import Derived.Test.YtppnjkiegiokeaaQuoL
import Derived.Deep.DeepCutAuto
namespace Go.Proofs.Ytppnjkiegiokeaa.QuoQ3
set_option linter.unusedVariables false
set_option linter.unusedSimpArgs false
set_option maxRecDepth 100000
open Go.RowKit Go.Proofs.Ytppnjkiegiokeaa.Mem Go.Proofs.Ytppnjkiegiokeaa.Mask Go.Proofs.Ytppnjkiegiokeaa.QuoW Go.Proofs.Ytppnjkiegiokeaa.QuoV Go.Proofs.Ytppnjkiegiokeaa.QuoU Go.Proofs.Ytppnjkiegiokeaa.QuoR Go.Proofs.Ytppnjkiegiokeaa.QuoS Go.Proofs.Ytppnjkiegiokeaa.QuoX Go.Proofs.Ytppnjkiegiokeaa.QuoC Go.Proofs.Ytppnjkiegiokeaa.QuoD Go.Proofs.Ytppnjkiegiokeaa.QuoE Go.Proofs.Ytppnjkiegiokeaa.QuoF Go.Proofs.Ytppnjkiegiokeaa.QuoG Go.Proofs.Ytppnjkiegiokeaa.QuoH Go.Proofs.Ytppnjkiegiokeaa.QuoI Go.Proofs.Ytppnjkiegiokeaa.QuoK Go.Proofs.Ytppnjkiegiokeaa.QuoL Go.Proofs.Ytppnjkiegiokeaa.QuoM Go.Proofs.Ytppnjkiegiokeaa.QuoY Go.Proofs.Ytppnjkiegiokeaa.QuoQ
set_option maxHeartbeats 64000000 in
theorem act3 (w w2 : World) (g off len cap i q a X XC XA XV : Nat) (cb pb : Nat → Nat) (la lb kd : Int) (P : Nat → PS) (C : Nat → Ce) (T : Nat → One) (ch : Vw) (V : Votes) (x1 x2 x3 x4 x6 x7 x8 x10 x11 x12 x13 x19 x20 x21 x22 x23 x24 x25 x26 x27 x28 x29 x30 x31 x32 x33 x34 x35 x36 x37 x38 x39 x40 x41 x42 x43 x44 x45 x46 x47 x48 x49 x50 x51 x52 x53 x54 x55 x56 x57 x58 x59 x60 x61 x62 x63 x64 x65 x66 x67 x68 x69 x70 x71 x72 x73 x74 x75 x76 x77 x78 x79 x80 x81 x82 x83 x84 x85 x86 x87 x88 x89 x90 x91 x92 x93 x94 x95 x96 x97 x98 x99 x100 x101 x102 x103 x104 x105 x106 x107 x108 x109 x110 x111 x112 x113 x114 x115 x116 x117 x118 x119 x120 x121 x122 x123 x124 x125 x126 x127 x128 x129 x130 x131 x132 x133 x134 x135 x136 x137 x138 x139 x140 x141 x142 x143 x144 x145 x146 x147 x148 x149 x150 x151 x152 x153 x154 x155 x156 x157 x158 x159 x160 x161 x162 x163 x164 x165 x166 x167 x168 x169 x170 x171 x172 x173 x174 x175 x176 x177 x178 x179 x180 x181 x182 x183 x184 x185 x186 x187 x188 x189 x190 x191 x192 x193 x194 x195 x196 x197 x198 x199 x200 x201 x202 x203 x204 x205 x206 x207 x208 x209 x210 x211 x212 x213 x214 x215 x216 x217 x218 x219 x220 x221 x222 x223 x224 x225 x226 x227 x228 : Value)
    (e0 : w2.cell? ⟨g, off + i * 3, none⟩ = some (.int .i64 kd)) (hk0 : kd = 3) (hlt : i < len) (hlt2 : i < 200) (hR2 : Hid (Rd w w2 XC XA XV cb pb la lb i P C T ch V)) (HX2 : Hid (OAt w2 X (pb q) (T q)))
    (HXN : Hid (X ≠ XC ∧ X ≠ XA ∧ X ≠ XV ∧ (∀ j, j < 3 → X ≠ cb j) ∧ (∀ j, j < 4 → X ≠ pb j) ∧ w.heap.size ≤ X)) (HQ4 : Hid (q < 4)) (HA3 : Hid (a < 3)) (Q : Exit → Act → World → Prop)
    (hQ : ∀ (e : List PanicEntry) (A' : Act) (d : Nat) (v : Value) (W' : World), Q (.panic e) (A'.put (some d) v) W' → Q (.panic e) A' W')
    (hN : (∀ (y19 y20 y98 y99 y100 y101 y102 y103 y104 y105 y106 y107 y108 y109 y110 y111 y112 y113 y114 y115 y116 y117 y118 y119 y120 y121 y122 y123 y124 y125 y126 y127 y128 y129 y130 y131 y132 y133 y134 y135 y136 y137 y138 y139 y140 y141 y142 y143 y144 y145 y146 y147 y148 y149 y150 y151 y152 y153 y154 y155 y156 y157 y158 y159 y160 y161 y162 y163 y164 y165 y166 y167 y168 y169 y170 y171 y172 y173 y174 y175 y176 y177 y178 y179 y180 y181 y182 y183 y184 y185 y186 y187 y188 y189 y190 y191 y192 y193 y194 y195 y196 y197 y198 y199 y200 y201 y202 y203 y204 y205 y206 y207 y208 y209 y210 y211 y212 y213 y214 y215 y216 y217 y218 y219 y220 y221 y222 y223 y224 y225 y226 y227 : Value) (W' : World), ActEnd w W' XC XA XV cb pb la lb i → Q .normal ⟨#[.slice (some ⟨g, off, none⟩) len cap, x1, x2, x3, x4, .pointer (some ⟨XC, 0, none⟩), x6, x7, x8, .pointer (some ⟨XA, 0, none⟩), x10, x11, x12, x13, .pointer (some ⟨XV, 0, none⟩), .int .i64 (i : Int), .int .i64 (q : Int), .int .i64 (a : Int), .pointer (some ⟨X, 0, none⟩), y19, y20, x21, x22, x23, x24, x25, x26, x27, x28, x29, x30, x31, x32, x33, x34, x35, x36, x37, x38, x39, x40, x41, x42, x43, x44, x45, x46, x47, x48, x49, x50, x51, x52, x53, x54, x55, x56, x57, x58, x59, x60, x61, x62, x63, x64, x65, x66, x67, x68, x69, x70, x71, x72, x73, x74, x75, x76, x77, x78, x79, x80, x81, x82, x83, x84, x85, x86, x87, x88, x89, x90, x91, x92, x93, x94, x95, x96, x97, y98, y99, y100, y101, y102, y103, y104, y105, y106, y107, y108, y109, y110, y111, y112, y113, y114, y115, y116, y117, y118, y119, y120, y121, y122, y123, y124, y125, y126, y127, y128, y129, y130, y131, y132, y133, y134, y135, y136, y137, y138, y139, y140, y141, y142, y143, y144, y145, y146, y147, y148, y149, y150, y151, y152, y153, y154, y155, y156, y157, y158, y159, y160, y161, y162, y163, y164, y165, y166, y167, y168, y169, y170, y171, y172, y173, y174, y175, y176, y177, y178, y179, y180, y181, y182, y183, y184, y185, y186, y187, y188, y189, y190, y191, y192, y193, y194, y195, y196, y197, y198, y199, y200, y201, y202, y203, y204, y205, y206, y207, y208, y209, y210, y211, y212, y213, y214, y215, y216, y217, y218, y219, y220, y221, y222, y223, y224, y225, y226, y227, x228], []⟩ W'))
    (hC : (∀ (y19 y20 y98 y99 y100 y101 y102 y103 y104 y105 y106 y107 y108 y109 y110 y111 y112 y113 y114 y115 y116 y117 y118 y119 y120 y121 y122 y123 y124 y125 y126 y127 y128 y129 y130 y131 y132 y133 y134 y135 y136 y137 y138 y139 y140 y141 y142 y143 y144 y145 y146 y147 y148 y149 y150 y151 y152 y153 y154 y155 y156 y157 y158 y159 y160 y161 y162 y163 y164 y165 y166 y167 y168 y169 y170 y171 y172 y173 y174 y175 y176 y177 y178 y179 y180 y181 y182 y183 y184 y185 y186 y187 y188 y189 y190 y191 y192 y193 y194 y195 y196 y197 y198 y199 y200 y201 y202 y203 y204 y205 y206 y207 y208 y209 y210 y211 y212 y213 y214 y215 y216 y217 y218 y219 y220 y221 y222 y223 y224 y225 y226 y227 : Value) (W' : World), ActEnd w W' XC XA XV cb pb la lb i → Q (.exit 5) ⟨#[.slice (some ⟨g, off, none⟩) len cap, x1, x2, x3, x4, .pointer (some ⟨XC, 0, none⟩), x6, x7, x8, .pointer (some ⟨XA, 0, none⟩), x10, x11, x12, x13, .pointer (some ⟨XV, 0, none⟩), .int .i64 (i : Int), .int .i64 (q : Int), .int .i64 (a : Int), .pointer (some ⟨X, 0, none⟩), y19, y20, x21, x22, x23, x24, x25, x26, x27, x28, x29, x30, x31, x32, x33, x34, x35, x36, x37, x38, x39, x40, x41, x42, x43, x44, x45, x46, x47, x48, x49, x50, x51, x52, x53, x54, x55, x56, x57, x58, x59, x60, x61, x62, x63, x64, x65, x66, x67, x68, x69, x70, x71, x72, x73, x74, x75, x76, x77, x78, x79, x80, x81, x82, x83, x84, x85, x86, x87, x88, x89, x90, x91, x92, x93, x94, x95, x96, x97, y98, y99, y100, y101, y102, y103, y104, y105, y106, y107, y108, y109, y110, y111, y112, y113, y114, y115, y116, y117, y118, y119, y120, y121, y122, y123, y124, y125, y126, y127, y128, y129, y130, y131, y132, y133, y134, y135, y136, y137, y138, y139, y140, y141, y142, y143, y144, y145, y146, y147, y148, y149, y150, y151, y152, y153, y154, y155, y156, y157, y158, y159, y160, y161, y162, y163, y164, y165, y166, y167, y168, y169, y170, y171, y172, y173, y174, y175, y176, y177, y178, y179, y180, y181, y182, y183, y184, y185, y186, y187, y188, y189, y190, y191, y192, y193, y194, y195, y196, y197, y198, y199, y200, y201, y202, y203, y204, y205, y206, y207, y208, y209, y210, y211, y212, y213, y214, y215, y216, y217, y218, y219, y220, y221, y222, y223, y224, y225, y226, y227, x228], []⟩ W')) :
    Code.wp Try.prog actC Q ⟨#[.slice (some ⟨g, off, none⟩) len cap, x1, x2, x3, x4, .pointer (some ⟨XC, 0, none⟩), x6, x7, x8, .pointer (some ⟨XA, 0, none⟩), x10, x11, x12, x13, .pointer (some ⟨XV, 0, none⟩), .int .i64 (i : Int), .int .i64 (q : Int), .int .i64 (a : Int), .pointer (some ⟨X, 0, none⟩), x19, x20, x21, x22, x23, x24, x25, x26, x27, x28, x29, x30, x31, x32, x33, x34, x35, x36, x37, x38, x39, x40, x41, x42, x43, x44, x45, x46, x47, x48, x49, x50, x51, x52, x53, x54, x55, x56, x57, x58, x59, x60, x61, x62, x63, x64, x65, x66, x67, x68, x69, x70, x71, x72, x73, x74, x75, x76, x77, x78, x79, x80, x81, x82, x83, x84, x85, x86, x87, x88, x89, x90, x91, x92, x93, x94, x95, x96, x97, x98, x99, x100, x101, x102, x103, x104, x105, x106, x107, x108, x109, x110, x111, x112, x113, x114, x115, x116, x117, x118, x119, x120, x121, x122, x123, x124, x125, x126, x127, x128, x129, x130, x131, x132, x133, x134, x135, x136, x137, x138, x139, x140, x141, x142, x143, x144, x145, x146, x147, x148, x149, x150, x151, x152, x153, x154, x155, x156, x157, x158, x159, x160, x161, x162, x163, x164, x165, x166, x167, x168, x169, x170, x171, x172, x173, x174, x175, x176, x177, x178, x179, x180, x181, x182, x183, x184, x185, x186, x187, x188, x189, x190, x191, x192, x193, x194, x195, x196, x197, x198, x199, x200, x201, x202, x203, x204, x205, x206, x207, x208, x209, x210, x211, x212, x213, x214, x215, x216, x217, x218, x219, x220, x221, x222, x223, x224, x225, x226, x227, x228], []⟩ w2 := by
  subst hk0
  have HN := Lib.hid hN
  have HC := Lib.hid hC
  have HQ := Lib.hid hQ
  clear hN hC hQ
  unfold actC roundC
  conv => arg 2; whnf
  have hii : (i : Int) < (len : Int) := by omega
  go_upto_region 30 with fail
  clear e0 hii
  obtain ⟨x, hx⟩ : ∃ x, x = T q := ⟨_, rfl⟩
  rw [← hx] at HX2
  have HXQ := Lib.hid hx
  clear hx
  have s0 := cell_at HX2.out 0
  have s5 := cell_at HX2.out 5
  have s20 := cell_at HX2.out 20
  have s19 := cell_at HX2.out 19
  simp [One.row] at s0 s5 s20 s19
  have hrd := hR2.out.inv.rd q HQ4.out
  obtain ⟨hk1, hk2, hk3, hk4⟩ := hR2.out.inv.pk q HQ4.out
  have hwm := (who la lb).m q HQ4.out
  have hwl := (who la lb).l q HQ4.out
  have hbq := fun (W : World) (kw : Keep (fun _ => False) w2 W) => ballot_any (P q) (pb q) W ((kw.block _ (lt_of_block (hR2.out.st.pa q HQ4.out)) (fun e => e)).trans (hR2.out.st.pa q HQ4.out)) hrd.1 (by omega) (by omega) (by omega) (by omega) (by omega)
  obtain ⟨b, hb⟩ : ∃ b, b = ballotI (P q) := ⟨_, rfl⟩
  simp only [← hb] at hbq
  have HB := Lib.hid hb
  have BQ := Lib.hid hbq
  clear hb hbq
  have hsq := fun (W : World) (kw : Keep (fun _ => False) w2 W) => second_any (P q) (pb q) W ((kw.block _ (lt_of_block (hR2.out.st.pa q HQ4.out)) (fun e => e)).trans (hR2.out.st.pa q HQ4.out))
  obtain ⟨sb, hsb⟩ : ∃ b, b = (P q).sec := ⟨_, rfl⟩
  simp only [← hsb] at hsq
  have SQ := Lib.hid hsq
  have HSB := Lib.hid hsb
  clear hsq hsb
  cases sb with
  | false =>
    clear hrd hk1 hk2 hk3 hk4 hwm hwl s5 s19 s20
    go_upto_if 186 with (go_at_call 14; refine (SQ.out _ (Keep.refl _ _)).mono ?_; rintro e w3 ⟨rfl, hw⟩; subst hw)
    clear s0
    have HF := Lib.hid (⟨hR2.out.st, Inv.mono hR2.out.inv (by omega), fun j hj => Told.mono (hR2.out.told j hj) (by omega), hR2.out.ch⟩ : Rd w w2 XC XA XV cb pb la lb (i + 1) P C T ch V)
    go_wp2_with fail
    refine HC.out _ _ _ _ _ _ _ _ _ _ _ _ _ _ _ _ _ _ _ _ _ _ _ _ _ _ _ _ _ _ _ _ _ _ _ _ _ _ _ _ _ _ _ _ _ _ _ _ _ _ _ _ _ _ _ _ _ _ _ _ _ _ _ _ _ _ _ _ _ _ _ _ _ _ _ _ _ _ _ _ _ _ _ _ _ _ _ _ _ _ _ _ _ _ _ _ _ _ _ _ _ _ _ _ _ _ _ _ _ _ _ _ _ _ _ _ _ _ _ _ _ _ _ _ _ _ _ _ _ _ _ _ _ ⟨_, _, _, _, _, HF.out⟩
  | true =>
    have hr0 := (hR2.out.inv.p4 q HQ4.out HSB.out.symm).1
    have hlv := live_of hR2.out.inv (by omega) HQ4.out hr0
    have hbp := ballot_pos (P q) hlv
    rw [← HB.out] at hbp
    have hb1 : (b == 0) = false := beq_eq_false_iff_ne.2 (by omega)
    have hb2 : decide (b = 0) = false := decide_eq_false (by omega)
    have HLV := Lib.hid hlv
    have HBP := Lib.hid hbp
    have HR0 := Lib.hid hr0
    clear hlv hbp hr0 hrd hk1 hk2 hk3 hk4 hwm hwl s5
    have s1 := cell_at HX2.out 1
    have s2 := cell_at HX2.out 2
    have f1 := free_at HX2.out 1
    have f2 := free_at HX2.out 2
    have f19 := free_at HX2.out 19
    have f20 := free_at HX2.out 20
    simp [One.row] at s1 s2
    go_upto_region 45 with (first | (go_at_call 14; refine (SQ.out _ (Keep.refl _ _)).mono ?_; rintro e w3 ⟨rfl, hw⟩; subst hw) | (go_at_call 12; refine (BQ.out _ (by first | exact Keep.refl _ _ | exact (Keep.refl _ _).drewN _)).mono ?_; rintro e w3 ⟨rfl, mm, rfl⟩))
    generalize hwd : w2.drewN _ = w3
    have K3 := Lib.hid (show Keep (fun _ => False) w2 w3 by rw [← hwd]; exact (Keep.refl _ _).drewN _)
    clear hwd s0 s1 s2 s19 s20 f1 f2 f19 f20 hb1 hb2
    have HX3 := Lib.hid (HX2.out.keep K3.out (fun e => e))
    obtain ⟨w4, hw4⟩ : ∃ V, V = ((((w3.setCell ⟨X, 1, none⟩ (.int .i64 (a : Int))).setCell ⟨X, 2, none⟩ (.int .u64 b)).setCell ⟨X, 19, none⟩ (.bool true)).setCell ⟨X, 20, none⟩ (.bool true)) := ⟨_, rfl⟩
    rw [← hw4]
    have HX4 := Lib.hid (show OAt w4 X (pb q) ⟨(a : Int), b, x.told, true, true⟩ by rw [hw4]; exact (block_set (block_set (block_set (block_set HX3.out 1 _) 2 _) 19 _) 20 _).trans (by simp [One.row]))
    have K4 := Lib.hid (show Keep (fun j => j = X) w3 w4 by rw [hw4]; exact ((((Keep.refl _ _).set1 _ _).set1 _ _).set1 _ _).set1 _ _)
    clear hw4
    have hR4 := Lib.hid (⟨St.aside (hR2.out.st.keep0 K3.out) K4.out HXN.out, hR2.out.inv, hR2.out.told, hR2.out.ch⟩ : Rd w w4 XC XA XV cb pb la lb i P C T ch V)
    refine reg45 _ rfl XC X (cb a) (pb q) a rfl rfl rfl HA3.out _ _ w4 (C a) ⟨(a : Int), b, x.told, true, true⟩ (P q) _ (Lib.hid ⟨hR4.out.st.xc, ?_⟩) HX4 (Lib.hid (hR4.out.st.ca a HA3.out)) ⟨(hR4.out.st.n2 a HA3.out).2.1.symm, HXN.out.1.symm, HXN.out.2.2.2.1 a HA3.out⟩ (Lib.hid (hR4.out.st.pa q HQ4.out)) rfl ⟨(hR4.out.st.n4 a q HA3.out HQ4.out).symm, (HXN.out.2.2.2.2.1 q HQ4.out).symm⟩ (hR4.out.inv.p1 q HQ4.out HR0.out) (show 0 < b by have := HBP.out; omega) (fun e A' d v W' h => HQ.out e A' d v W' h) ?_
    · rcases (show a = 0 ∨ a = 1 ∨ a = 2 from by have := HA3.out; omega) with rfl | rfl | rfl <;> rfl
    · skip
      intro v195 v196 v197 v198 v199 v200 v201 v202 v203 v204 w5 tl hpost hx5 k5
      simp only [Act.put, List.setIfInBounds_toArray, List.set_cons_zero, List.set_cons_succ]
      rename_i KX hk
      refine hk _ _ ?_
      clear hk KX
      dsimp only at hpost
      rw [HB.out] at hpost
      have HPO := Lib.hid hpost
      have K5 := Lib.hid k5
      have HX5a := Lib.hid hx5
      have hp5 : PAt w5 (pb q) (P q) := (k5.block _ (lt_of_block (hR4.out.st.pa q HQ4.out)) (fun e => e.elim (fun e => hR4.out.st.n4 a q HA3.out HQ4.out e.symm) (fun e => HXN.out.2.2.2.2.1 q HQ4.out e.symm))).trans (hR4.out.st.pa q HQ4.out)
      have PC0 := took_call hp5 HLV.out HA3.out (by rw [(hR4.out.inv.pk q HQ4.out).2.1]; rfl) HSB.out.symm (fun e => by rw [(HPO.out.1 e).1]) (fun e => (HPO.out.2 e).1)
      rw [← HB.out] at PC0
      unfold Pr.agg at PC0
      have PC := Lib.hid PC0
      have HP5 := Lib.hid hp5
      clear PC0 hp5 hpost k5
      have t0 := cell_at hx5 0
      have t2 := cell_at hx5 2
      have t3 := cell_at hx5 3
      have t4 := cell_at hx5 4
      have t5 := cell_at hx5 5
      have t6 := cell_at hx5 6
      have t7 := cell_at hx5 7
      have t8 := cell_at hx5 8
      have t9 := cell_at hx5 9
      have t10 := cell_at hx5 10
      have t11 := cell_at hx5 11
      have t12 := cell_at hx5 12
      have t13 := cell_at hx5 13
      have t14 := cell_at hx5 14
      have t15 := cell_at hx5 15
      have t16 := cell_at hx5 16
      have t17 := cell_at hx5 17
      have t18 := cell_at hx5 18
      simp [One.row] at t0 t2 t3 t4 t5 t6 t7 t8 t9 t10 t11 t12 t13 t14 t15 t16 t17 t18
      clear hx5
      go_upto_if 212 with (go_at_call 16; refine PC.out.mono ?_; clear PC; rintro e wa ⟨bv, s6, rfl, hp6, ka, hcase⟩)
      clear t0 t2 t3 t4 t5 t6 t7 t8 t9 t10 t11 t12 t13 t14 t15 t16 t17 t18
      rw [HB.out] at hcase
      obtain ⟨C5, V5, st6, inv6, to6, ch6, hv6, hbv⟩ := Rd.taken hR4.out HQ4.out HA3.out HSB.out.symm HXN.out HPO.out K5.out hp6 ka hcase
      have ST5 := Lib.hid st6
      have INV5 := Lib.hid inv6
      have CH5 := Lib.hid ch6
      have TO5 := Lib.hid (show ∀ j, j < 4 → QuoF.Told (upd P q s6 j) ((i + 1 : Nat) : Int) (upd T q ⟨(a : Int), b, tl, true, true⟩ j) by rw [HB.out]; exact to6)
      have HX5 := Lib.hid (show OAt wa X (pb q) ⟨(a : Int), b, tl, true, true⟩ from HX5a.out.keep ka (HXN.out.2.2.2.2.1 q HQ4.out))
      have HV6 := Lib.hid hv6
      have HBV := Lib.hid hbv
      clear hcase hp6 ka st6 inv6 to6 ch6 hv6 hbv
      cases bv with
      | false =>
        go_upto_region 51 with fail
        refine reg51 _ rfl XA X q pb T ⟨(a : Int), b, tl, true, true⟩ rfl rfl rfl HQ4.out _ wa ST5.out.xa HX5.out ?_
        intro v225 v226 v227 w6 k6 hx6
        simp only [Act.put, List.setIfInBounds_toArray, List.set_cons_zero, List.set_cons_succ]
        refine HN.out _ _ _ _ _ _ _ _ _ _ _ _ _ _ _ _ _ _ _ _ _ _ _ _ _ _ _ _ _ _ _ _ _ _ _ _ _ _ _ _ _ _ _ _ _ _ _ _ _ _ _ _ _ _ _ _ _ _ _ _ _ _ _ _ _ _ _ _ _ _ _ _ _ _ _ _ _ _ _ _ _ _ _ _ _ _ _ _ _ _ _ _ _ _ _ _ _ _ _ _ _ _ _ _ _ _ _ _ _ _ _ _ _ _ _ _ _ _ _ _ _ _ _ _ _ _ _ _ _ _ _ _ _ ⟨_, _, _, _, _, (⟨St.lay ST5.out hx6 k6, INV5.out, TO5.out, CH5.out⟩ : Rd w w6 XC XA XV cb pb la lb (i + 1) (upd P q s6) C5 (upd T q ⟨(a : Int), b, tl, true, true⟩) ch V5)⟩
      | true =>
        obtain ⟨hcv, hcc⟩ := HBV.out rfl
        obtain ⟨vv, hvv⟩ : ∃ v, v = (P q).val := ⟨_, rfl⟩
        rw [← hvv] at hcv hcc
        have hv6 := HV6.out
        rw [← hvv] at hv6
        have hp6 : PAt wa (pb q) s6 := by have := ST5.out.pa q HQ4.out; rwa [upd_same] at this
        have VC0 := value_any s6 (pb q) wa hp6
        rw [hv6] at VC0
        have HCV := Lib.hid hcv
        clear hcv hv6 hp6 hvv
        obtain ⟨z0, z1, z2, z3, z4, z5⟩ := vv
        unfold Vw.agg at VC0
        have VC := Lib.hid VC0
        have HCC := Lib.hid hcc
        clear VC0 hcc
        have u0 := cell_at HX5.out 0
        simp [One.row] at u0
        go_upto_region 48 with (go_at_call 17; refine VC.out.mono ?_; clear VC; rintro e we ⟨rfl, ke⟩)
        clear u0
        obtain ⟨W7, hW7⟩ : ∃ V, V = we.alloc (.cells #[.int .u64 z0, .int .i64 z1, .int .u64 z2, .int .i64 z3, .int .u64 z4, .int .u64 z5] TVw) := ⟨_, rfl⟩
        rw [← hW7]
        have K7 := Lib.hid (show Keep (fun _ => False) wa W7 by rw [hW7]; exact (Keep.of0 ke).alloc _)
        have HZ7 := Lib.hid (show W7.heap[we.heap.size]? = some (.cells #[.int .u64 z0, .int .i64 z1, .int .u64 z2, .int .i64 z3, .int .u64 z4, .int .u64 z5] TVw (0, 0)) by rw [hW7]; exact block_new we _)
        have HZV := Lib.hid (show we.heap.size ≠ XV by have := lt_of_block ST5.out.xv; have := ke.size; omega)
        have ST7 := Lib.hid (ST5.out.keep0 K7.out)
        have HX7 := Lib.hid (HX5.out.keep K7.out (fun e => e))
        obtain ⟨Z, hZ⟩ : ∃ z, z = we.heap.size := ⟨_, rfl⟩
        rw [← hZ] at HZ7 HZV ⊢
        clear hW7 hZ ke
        obtain ⟨d0, d1, d2, d3, d4, d5⟩ := ch
        have HV7 := Lib.hid ST7.out.xv
        have y0 := cell_at HV7.out 0
        have y1 := cell_at HV7.out 1
        have y2 := cell_at HV7.out 2
        have y3 := cell_at HV7.out 3
        have y4 := cell_at HV7.out 4
        have y5 := cell_at HV7.out 5
        have g0 := free_at HV7.out 0
        have g1 := free_at HV7.out 1
        have g2 := free_at HV7.out 2
        have g3 := free_at HV7.out 3
        have g4 := free_at HV7.out 4
        have g5 := free_at HV7.out 5
        have p0 := cell_at HZ7.out 0
        have p1 := cell_at HZ7.out 1
        have p2 := cell_at HZ7.out 2
        have p3 := cell_at HZ7.out 3
        have p4 := cell_at HZ7.out 4
        have p5 := cell_at HZ7.out 5
        simp [Vw.cells] at y0 y1 y2 y3 y4 y5 p0 p1 p2 p3 p4 p5
        by_cases hd : d0 = 0
        · subst hd
          go_upto_region 51 with fail
          clear y0 y1 y2 y3 y4 y5 g0 g1 g2 g3 g4 g5 p0 p1 p2 p3 p4 p5
          obtain ⟨W8, hW8⟩ : ∃ V, V = ((((((W7.setCell ⟨XV, 0, none⟩ (.int .u64 z0)).setCell ⟨XV, 1, none⟩ (.int .i64 z1)).setCell ⟨XV, 2, none⟩ (.int .u64 z2)).setCell ⟨XV, 3, none⟩ (.int .i64 z3)).setCell ⟨XV, 4, none⟩ (.int .u64 z4)).setCell ⟨XV, 5, none⟩ (.int .u64 z5)) := ⟨_, rfl⟩
          rw [← hW8]
          have K8 := Lib.hid (show Keep (fun j => j = XV) W7 W8 by rw [hW8]; exact (((((((Keep.refl _ _).set1 _ _).set1 _ _).set1 _ _).set1 _ _).set1 _ _).set1 _ _))
          have HV8 := Lib.hid (show W8.heap[XV]? = some (.cells (Vw.cells ⟨z0, z1, z2, z3, z4, z5⟩).toArray TVw (0, 0)) by rw [hW8]; exact (block_set (block_set (block_set (block_set (block_set (block_set HV7.out 0 (.int .u64 z0)) 1 (.int .i64 z1)) 2 (.int .u64 z2)) 3 (.int .i64 z3)) 4 (.int .u64 z4)) 5 (.int .u64 z5)).trans (by simp [Vw.cells]))
          clear hW8
          have ST8 := Lib.hid (St.chose ST7.out HV8.out K8.out)
          have HX8 := Lib.hid (HX7.out.keep K8.out HXN.out.2.2.1)
          clear ST5 HX5 CH5
          have ST5 := ST8
          have HX5 := HX8
          have CH5 : Hid (z0 = 0 ∨ Chosen V5 ⟨z0, z1, z2, z3, z4, z5⟩) := Lib.hid (.inr HCV.out)
          refine reg51 _ rfl XA X q pb T ⟨(a : Int), b, tl, true, true⟩ rfl rfl rfl HQ4.out _ W8 ST5.out.xa HX5.out ?_
          intro v225 v226 v227 w6 k6 hx6
          simp only [Act.put, List.setIfInBounds_toArray, List.set_cons_zero, List.set_cons_succ]
          refine HN.out _ _ _ _ _ _ _ _ _ _ _ _ _ _ _ _ _ _ _ _ _ _ _ _ _ _ _ _ _ _ _ _ _ _ _ _ _ _ _ _ _ _ _ _ _ _ _ _ _ _ _ _ _ _ _ _ _ _ _ _ _ _ _ _ _ _ _ _ _ _ _ _ _ _ _ _ _ _ _ _ _ _ _ _ _ _ _ _ _ _ _ _ _ _ _ _ _ _ _ _ _ _ _ _ _ _ _ _ _ _ _ _ _ _ _ _ _ _ _ _ _ _ _ _ _ _ _ _ _ _ _ _ _ ⟨_, _, _, _, _, (⟨St.lay ST5.out hx6 k6, INV5.out, TO5.out, CH5.out⟩ : Rd w w6 XC XA XV cb pb la lb (i + 1) (upd P q s6) C5 (upd T q ⟨(a : Int), b, tl, true, true⟩) ⟨z0, z1, z2, z3, z4, z5⟩ V5)⟩
        · have e9 := HCC.out.resolve_left hd
          simp only [Vw.mk.injEq] at e9
          obtain ⟨rfl, rfl, rfl, rfl, rfl, rfl⟩ := e9
          have hb1 : (d0 == 0) = false := beq_eq_false_iff_ne.2 hd
          have hb2 : decide (d0 = 0) = false := decide_eq_false hd
          go_upto_region 51 with fail
          clear y0 y1 y2 y3 y4 y5 g0 g1 g2 g3 g4 g5 p0 p1 p2 p3 p4 p5
          obtain ⟨W8, hW8⟩ : ∃ V, V = ((((((W7.setCell ⟨XV, 0, none⟩ (.int .u64 d0)).setCell ⟨XV, 1, none⟩ (.int .i64 d1)).setCell ⟨XV, 2, none⟩ (.int .u64 d2)).setCell ⟨XV, 3, none⟩ (.int .i64 d3)).setCell ⟨XV, 4, none⟩ (.int .u64 d4)).setCell ⟨XV, 5, none⟩ (.int .u64 d5)) := ⟨_, rfl⟩
          rw [← hW8]
          have K8 := Lib.hid (show Keep (fun j => j = XV) W7 W8 by rw [hW8]; exact (((((((Keep.refl _ _).set1 _ _).set1 _ _).set1 _ _).set1 _ _).set1 _ _).set1 _ _))
          have HV8 := Lib.hid (show W8.heap[XV]? = some (.cells (Vw.cells ⟨d0, d1, d2, d3, d4, d5⟩).toArray TVw (0, 0)) by rw [hW8]; exact (block_set (block_set (block_set (block_set (block_set (block_set HV7.out 0 (.int .u64 d0)) 1 (.int .i64 d1)) 2 (.int .u64 d2)) 3 (.int .i64 d3)) 4 (.int .u64 d4)) 5 (.int .u64 d5)).trans (by simp [Vw.cells]))
          clear hW8
          have ST8 := Lib.hid (St.chose ST7.out HV8.out K8.out)
          have HX8 := Lib.hid (HX7.out.keep K8.out HXN.out.2.2.1)
          clear ST5 HX5 CH5
          have ST5 := ST8
          have HX5 := HX8
          have CH5 : Hid (d0 = 0 ∨ Chosen V5 ⟨d0, d1, d2, d3, d4, d5⟩) := Lib.hid (.inr HCV.out)
          refine reg51 _ rfl XA X q pb T ⟨(a : Int), b, tl, true, true⟩ rfl rfl rfl HQ4.out _ W8 ST5.out.xa HX5.out ?_
          intro v225 v226 v227 w6 k6 hx6
          simp only [Act.put, List.setIfInBounds_toArray, List.set_cons_zero, List.set_cons_succ]
          refine HN.out _ _ _ _ _ _ _ _ _ _ _ _ _ _ _ _ _ _ _ _ _ _ _ _ _ _ _ _ _ _ _ _ _ _ _ _ _ _ _ _ _ _ _ _ _ _ _ _ _ _ _ _ _ _ _ _ _ _ _ _ _ _ _ _ _ _ _ _ _ _ _ _ _ _ _ _ _ _ _ _ _ _ _ _ _ _ _ _ _ _ _ _ _ _ _ _ _ _ _ _ _ _ _ _ _ _ _ _ _ _ _ _ _ _ _ _ _ _ _ _ _ _ _ _ _ _ _ _ _ _ _ _ _ ⟨_, _, _, _, _, (⟨St.lay ST5.out hx6 k6, INV5.out, TO5.out, CH5.out⟩ : Rd w w6 XC XA XV cb pb la lb (i + 1) (upd P q s6) C5 (upd T q ⟨(a : Int), b, tl, true, true⟩) ⟨d0, d1, d2, d3, d4, d5⟩ V5)⟩

end Go.Proofs.Ytppnjkiegiokeaa.QuoQ3
