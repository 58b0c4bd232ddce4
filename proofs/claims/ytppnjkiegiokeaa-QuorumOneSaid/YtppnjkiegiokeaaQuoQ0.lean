/-
  Layer 17 (quorum): QuorumOne: an act of kind 0 (a proposer begins).
-/
import Derived.Test.YtppnjkiegiokeaaQuoQ
import Derived.Test.YtppnjkiegiokeaaQuoI
import Derived.Test.YtppnjkiegiokeaaQuoP0
import Derived.Test.YtppnjkiegiokeaaQuoP1
import Derived.Test.YtppnjkiegiokeaaQuoP2
import Derived.Test.YtppnjkiegiokeaaQuoK0
import Derived.Test.YtppnjkiegiokeaaQuoK1
import Derived.Test.YtppnjkiegiokeaaQuoK2
import Derived.Test.YtppnjkiegiokeaaQuoK
import Derived.Test.YtppnjkiegiokeaaQuoL
import Derived.Deep.DeepCutAuto
namespace Go.Proofs.Ytppnjkiegiokeaa.QuoQ0
set_option linter.unusedVariables false
set_option linter.unusedSimpArgs false
set_option maxRecDepth 100000
open Go.RowKit Go.Proofs.Ytppnjkiegiokeaa.Mem Go.Proofs.Ytppnjkiegiokeaa.Mask Go.Proofs.Ytppnjkiegiokeaa.QuoW Go.Proofs.Ytppnjkiegiokeaa.QuoV Go.Proofs.Ytppnjkiegiokeaa.QuoU Go.Proofs.Ytppnjkiegiokeaa.QuoR Go.Proofs.Ytppnjkiegiokeaa.QuoS Go.Proofs.Ytppnjkiegiokeaa.QuoX Go.Proofs.Ytppnjkiegiokeaa.QuoC Go.Proofs.Ytppnjkiegiokeaa.QuoD Go.Proofs.Ytppnjkiegiokeaa.QuoE Go.Proofs.Ytppnjkiegiokeaa.QuoF Go.Proofs.Ytppnjkiegiokeaa.QuoG Go.Proofs.Ytppnjkiegiokeaa.QuoH Go.Proofs.Ytppnjkiegiokeaa.QuoI Go.Proofs.Ytppnjkiegiokeaa.QuoK Go.Proofs.Ytppnjkiegiokeaa.QuoL Go.Proofs.Ytppnjkiegiokeaa.QuoM Go.Proofs.Ytppnjkiegiokeaa.QuoY Go.Proofs.Ytppnjkiegiokeaa.QuoQ
set_option maxHeartbeats 64000000 in
theorem act0 (w w2 : World) (g off len cap i q a X XC XA XV : Nat) (cb pb : Nat → Nat) (la lb kd : Int) (P : Nat → PS) (C : Nat → Ce) (T : Nat → One) (ch : Vw) (V : Votes) (x1 x2 x3 x4 x6 x7 x8 x10 x11 x12 x13 x19 x20 x21 x22 x23 x24 x25 x26 x27 x28 x29 x30 x31 x32 x33 x34 x35 x36 x37 x38 x39 x40 x41 x42 x43 x44 x45 x46 x47 x48 x49 x50 x51 x52 x53 x54 x55 x56 x57 x58 x59 x60 x61 x62 x63 x64 x65 x66 x67 x68 x69 x70 x71 x72 x73 x74 x75 x76 x77 x78 x79 x80 x81 x82 x83 x84 x85 x86 x87 x88 x89 x90 x91 x92 x93 x94 x95 x96 x97 x98 x99 x100 x101 x102 x103 x104 x105 x106 x107 x108 x109 x110 x111 x112 x113 x114 x115 x116 x117 x118 x119 x120 x121 x122 x123 x124 x125 x126 x127 x128 x129 x130 x131 x132 x133 x134 x135 x136 x137 x138 x139 x140 x141 x142 x143 x144 x145 x146 x147 x148 x149 x150 x151 x152 x153 x154 x155 x156 x157 x158 x159 x160 x161 x162 x163 x164 x165 x166 x167 x168 x169 x170 x171 x172 x173 x174 x175 x176 x177 x178 x179 x180 x181 x182 x183 x184 x185 x186 x187 x188 x189 x190 x191 x192 x193 x194 x195 x196 x197 x198 x199 x200 x201 x202 x203 x204 x205 x206 x207 x208 x209 x210 x211 x212 x213 x214 x215 x216 x217 x218 x219 x220 x221 x222 x223 x224 x225 x226 x227 x228 : Value)
    (e0 : w2.cell? ⟨g, off + i * 3, none⟩ = some (.int .i64 kd)) (hk0 : kd = 0) (hlt : i < len) (hlt2 : i < 200) (hR2 : Hid (Rd w w2 XC XA XV cb pb la lb i P C T ch V)) (HX2 : Hid (OAt w2 X (pb q) (T q)))
    (HXN : Hid (X ≠ XC ∧ X ≠ XA ∧ X ≠ XV ∧ (∀ j, j < 3 → X ≠ cb j) ∧ (∀ j, j < 4 → X ≠ pb j) ∧ w.heap.size ≤ X)) (HQ4 : Hid (q < 4)) (HA3 : Hid (a < 3)) (Q : Exit → Act → World → Prop)
    (hQ : ∀ (e : List PanicEntry) (A' : Act) (d : Nat) (v : Value) (W' : World), Q (.panic e) (A'.put (some d) v) W' → Q (.panic e) A' W')
    (hN : (∀ (y19 y20 y98 y99 y100 y101 y102 y103 y104 y105 y106 y107 y108 y109 y110 y111 y112 y113 y114 y115 y116 y117 y118 y119 y120 y121 y122 y123 y124 y125 y126 y127 y128 y129 y130 y131 y132 y133 y134 y135 y136 y137 y138 y139 y140 y141 y142 y143 y144 y145 y146 y147 y148 y149 y150 y151 y152 y153 y154 y155 y156 y157 y158 y159 y160 y161 y162 y163 y164 y165 y166 y167 y168 y169 y170 y171 y172 y173 y174 y175 y176 y177 y178 y179 y180 y181 y182 y183 y184 y185 y186 y187 y188 y189 y190 y191 y192 y193 y194 y195 y196 y197 y198 y199 y200 y201 y202 y203 y204 y205 y206 y207 y208 y209 y210 y211 y212 y213 y214 y215 y216 y217 y218 y219 y220 y221 y222 y223 y224 y225 y226 y227 : Value) (W' : World), ActEnd w W' XC XA XV cb pb la lb i → Q .normal ⟨#[.slice (some ⟨g, off, none⟩) len cap, x1, x2, x3, x4, .pointer (some ⟨XC, 0, none⟩), x6, x7, x8, .pointer (some ⟨XA, 0, none⟩), x10, x11, x12, x13, .pointer (some ⟨XV, 0, none⟩), .int .i64 (i : Int), .int .i64 (q : Int), .int .i64 (a : Int), .pointer (some ⟨X, 0, none⟩), y19, y20, x21, x22, x23, x24, x25, x26, x27, x28, x29, x30, x31, x32, x33, x34, x35, x36, x37, x38, x39, x40, x41, x42, x43, x44, x45, x46, x47, x48, x49, x50, x51, x52, x53, x54, x55, x56, x57, x58, x59, x60, x61, x62, x63, x64, x65, x66, x67, x68, x69, x70, x71, x72, x73, x74, x75, x76, x77, x78, x79, x80, x81, x82, x83, x84, x85, x86, x87, x88, x89, x90, x91, x92, x93, x94, x95, x96, x97, y98, y99, y100, y101, y102, y103, y104, y105, y106, y107, y108, y109, y110, y111, y112, y113, y114, y115, y116, y117, y118, y119, y120, y121, y122, y123, y124, y125, y126, y127, y128, y129, y130, y131, y132, y133, y134, y135, y136, y137, y138, y139, y140, y141, y142, y143, y144, y145, y146, y147, y148, y149, y150, y151, y152, y153, y154, y155, y156, y157, y158, y159, y160, y161, y162, y163, y164, y165, y166, y167, y168, y169, y170, y171, y172, y173, y174, y175, y176, y177, y178, y179, y180, y181, y182, y183, y184, y185, y186, y187, y188, y189, y190, y191, y192, y193, y194, y195, y196, y197, y198, y199, y200, y201, y202, y203, y204, y205, y206, y207, y208, y209, y210, y211, y212, y213, y214, y215, y216, y217, y218, y219, y220, y221, y222, y223, y224, y225, y226, y227, x228], []⟩ W'))
    (hC : (∀ (y19 y20 y98 y99 y100 y101 y102 y103 y104 y105 y106 y107 y108 y109 y110 y111 y112 y113 y114 y115 y116 y117 y118 y119 y120 y121 y122 y123 y124 y125 y126 y127 y128 y129 y130 y131 y132 y133 y134 y135 y136 y137 y138 y139 y140 y141 y142 y143 y144 y145 y146 y147 y148 y149 y150 y151 y152 y153 y154 y155 y156 y157 y158 y159 y160 y161 y162 y163 y164 y165 y166 y167 y168 y169 y170 y171 y172 y173 y174 y175 y176 y177 y178 y179 y180 y181 y182 y183 y184 y185 y186 y187 y188 y189 y190 y191 y192 y193 y194 y195 y196 y197 y198 y199 y200 y201 y202 y203 y204 y205 y206 y207 y208 y209 y210 y211 y212 y213 y214 y215 y216 y217 y218 y219 y220 y221 y222 y223 y224 y225 y226 y227 : Value) (W' : World), ActEnd w W' XC XA XV cb pb la lb i → Q (.exit 5) ⟨#[.slice (some ⟨g, off, none⟩) len cap, x1, x2, x3, x4, .pointer (some ⟨XC, 0, none⟩), x6, x7, x8, .pointer (some ⟨XA, 0, none⟩), x10, x11, x12, x13, .pointer (some ⟨XV, 0, none⟩), .int .i64 (i : Int), .int .i64 (q : Int), .int .i64 (a : Int), .pointer (some ⟨X, 0, none⟩), y19, y20, x21, x22, x23, x24, x25, x26, x27, x28, x29, x30, x31, x32, x33, x34, x35, x36, x37, x38, x39, x40, x41, x42, x43, x44, x45, x46, x47, x48, x49, x50, x51, x52, x53, x54, x55, x56, x57, x58, x59, x60, x61, x62, x63, x64, x65, x66, x67, x68, x69, x70, x71, x72, x73, x74, x75, x76, x77, x78, x79, x80, x81, x82, x83, x84, x85, x86, x87, x88, x89, x90, x91, x92, x93, x94, x95, x96, x97, y98, y99, y100, y101, y102, y103, y104, y105, y106, y107, y108, y109, y110, y111, y112, y113, y114, y115, y116, y117, y118, y119, y120, y121, y122, y123, y124, y125, y126, y127, y128, y129, y130, y131, y132, y133, y134, y135, y136, y137, y138, y139, y140, y141, y142, y143, y144, y145, y146, y147, y148, y149, y150, y151, y152, y153, y154, y155, y156, y157, y158, y159, y160, y161, y162, y163, y164, y165, y166, y167, y168, y169, y170, y171, y172, y173, y174, y175, y176, y177, y178, y179, y180, y181, y182, y183, y184, y185, y186, y187, y188, y189, y190, y191, y192, y193, y194, y195, y196, y197, y198, y199, y200, y201, y202, y203, y204, y205, y206, y207, y208, y209, y210, y211, y212, y213, y214, y215, y216, y217, y218, y219, y220, y221, y222, y223, y224, y225, y226, y227, x228], []⟩ W')) :
    Code.wp Try.prog actC Q ⟨#[.slice (some ⟨g, off, none⟩) len cap, x1, x2, x3, x4, .pointer (some ⟨XC, 0, none⟩), x6, x7, x8, .pointer (some ⟨XA, 0, none⟩), x10, x11, x12, x13, .pointer (some ⟨XV, 0, none⟩), .int .i64 (i : Int), .int .i64 (q : Int), .int .i64 (a : Int), .pointer (some ⟨X, 0, none⟩), x19, x20, x21, x22, x23, x24, x25, x26, x27, x28, x29, x30, x31, x32, x33, x34, x35, x36, x37, x38, x39, x40, x41, x42, x43, x44, x45, x46, x47, x48, x49, x50, x51, x52, x53, x54, x55, x56, x57, x58, x59, x60, x61, x62, x63, x64, x65, x66, x67, x68, x69, x70, x71, x72, x73, x74, x75, x76, x77, x78, x79, x80, x81, x82, x83, x84, x85, x86, x87, x88, x89, x90, x91, x92, x93, x94, x95, x96, x97, x98, x99, x100, x101, x102, x103, x104, x105, x106, x107, x108, x109, x110, x111, x112, x113, x114, x115, x116, x117, x118, x119, x120, x121, x122, x123, x124, x125, x126, x127, x128, x129, x130, x131, x132, x133, x134, x135, x136, x137, x138, x139, x140, x141, x142, x143, x144, x145, x146, x147, x148, x149, x150, x151, x152, x153, x154, x155, x156, x157, x158, x159, x160, x161, x162, x163, x164, x165, x166, x167, x168, x169, x170, x171, x172, x173, x174, x175, x176, x177, x178, x179, x180, x181, x182, x183, x184, x185, x186, x187, x188, x189, x190, x191, x192, x193, x194, x195, x196, x197, x198, x199, x200, x201, x202, x203, x204, x205, x206, x207, x208, x209, x210, x211, x212, x213, x214, x215, x216, x217, x218, x219, x220, x221, x222, x223, x224, x225, x226, x227, x228], []⟩ w2 := by
  subst hk0
  have HN := Lib.hid hN
  have HC := Lib.hid hC
  have HQ := Lib.hid hQ
  clear hN hC hQ
  unfold actC roundC
  conv => arg 2; whnf
  have hii : (i : Int) < (len : Int) := by omega
  go_upto_region 30 with fail
  clear e0 hii
  obtain ⟨x, hx⟩ : ∃ x, x = T q := ⟨_, rfl⟩
  rw [← hx] at HX2
  have HXQ := Lib.hid hx
  clear hx
  have s0 := cell_at HX2.out 0
  have s5 := cell_at HX2.out 5
  have s20 := cell_at HX2.out 20
  have s19 := cell_at HX2.out 19
  simp [One.row] at s0 s5 s20 s19
  skip
  obtain ⟨sm, hsm⟩ : ∃ b, b = x.some_ := ⟨_, rfl⟩
  rw [← hsm] at s20
  have HSM := Lib.hid hsm
  clear hsm
  go_upto_if 141 with fail
  go_cut [19] from 139 to 148 (fun x19 W' => (∃ ab : Int, x19 = .int .u64 ab ∧ 0 ≤ ab ∧ ab < ((i : Int) + 1) * 4294967296) ∧ W' = w2)
  case first =>
    cases sm with
    | true =>
      obtain ⟨b0, b1, -⟩ := hR2.out.told q HQ4.out (by rw [← HXQ.out]; exact HSM.out.symm)
      rw [← HXQ.out] at b0 b1
      go_wp2_with fail
      go_meet
      exact ⟨⟨_, rfl, b0, b1⟩, rfl⟩
    | false =>
      go_wp2_with fail
      go_meet
      exact ⟨⟨_, rfl, by omega, by omega⟩, rfl⟩
  case rest =>
    obtain ⟨⟨ab, rfl, a0, a1⟩, rfl⟩ := hcut
    have hrd := hR2.out.inv.rd q HQ4.out
    have BC := Lib.hid (begin_any (P q) (pb q) ab wc (hR2.out.st.pa q HQ4.out) hrd.1 a0 (by omega) (by omega))
    clear hrd s5 s19 s20
    go_upto_region 51 with (go_at_call 13; refine BC.out.mono ?_; clear BC; rintro e w5 ⟨rfl, hp5, k5⟩; replace hp5 := Lib.hid hp5; replace k5 := Lib.hid k5)
    clear s0
    have HX5 := Lib.hid (HX2.out.keep k5.out (HXN.out.2.2.2.2.1 q HQ4.out))
    have hR5 := Rd.start hR2.out HQ4.out ab a0 a1 hp5.out k5.out
    have ST5 := Lib.hid hR5.st
    have INV5 := Lib.hid hR5.inv
    have CH5 := Lib.hid hR5.ch
    have TO5 := Lib.hid (show ∀ j, j < 4 → QuoF.Told (upd P q ((P q).begun ab) j) ((i + 1 : Nat) : Int) (upd T q x j) by rw [HXQ.out, upd_self]; exact hR5.told)
    clear hR5
    refine reg51 _ rfl XA X q pb T x rfl rfl rfl HQ4.out _ w5 ST5.out.xa HX5.out ?_
    intro v225 v226 v227 w6 k6 hx6
    simp only [Act.put, List.setIfInBounds_toArray, List.set_cons_zero, List.set_cons_succ]
    refine HN.out _ _ _ _ _ _ _ _ _ _ _ _ _ _ _ _ _ _ _ _ _ _ _ _ _ _ _ _ _ _ _ _ _ _ _ _ _ _ _ _ _ _ _ _ _ _ _ _ _ _ _ _ _ _ _ _ _ _ _ _ _ _ _ _ _ _ _ _ _ _ _ _ _ _ _ _ _ _ _ _ _ _ _ _ _ _ _ _ _ _ _ _ _ _ _ _ _ _ _ _ _ _ _ _ _ _ _ _ _ _ _ _ _ _ _ _ _ _ _ _ _ _ _ _ _ _ _ _ _ _ _ _ _ ⟨_, _, _, _, _, (⟨St.lay ST5.out hx6 k6, INV5.out, TO5.out, CH5.out⟩ : Rd w w6 XC XA XV cb pb la lb (i + 1) (upd P q ((P q).begun ab)) C (upd T q x) ch V)⟩

end Go.Proofs.Ytppnjkiegiokeaa.QuoQ0
