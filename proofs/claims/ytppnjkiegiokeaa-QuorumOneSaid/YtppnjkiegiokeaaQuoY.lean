/-
  Layer 17 (quorum): QuorumOne: what an act does to what stands, in one piece.
-/
import Derived.Test.YtppnjkiegiokeaaQuoL
import Derived.Test.YtppnjkiegiokeaaQuoM
import Derived.Test.YtppnjkiegiokeaaQuoP0
import Derived.Test.YtppnjkiegiokeaaQuoP1
import Derived.Test.YtppnjkiegiokeaaQuoP2
import Derived.Test.YtppnjkiegiokeaaQuoK0
import Derived.Test.YtppnjkiegiokeaaQuoK1
import Derived.Test.YtppnjkiegiokeaaQuoK2
namespace Go.Proofs.Ytppnjkiegiokeaa.QuoY
set_option linter.unusedVariables false
set_option linter.unusedSimpArgs false
set_option maxRecDepth 100000
open Go.RowKit Go.Proofs.Ytppnjkiegiokeaa.Mask Go.Proofs.Ytppnjkiegiokeaa.Mem Go.Proofs.Ytppnjkiegiokeaa.QuoW Go.Proofs.Ytppnjkiegiokeaa.QuoV Go.Proofs.Ytppnjkiegiokeaa.QuoU Go.Proofs.Ytppnjkiegiokeaa.QuoR Go.Proofs.Ytppnjkiegiokeaa.QuoS Go.Proofs.Ytppnjkiegiokeaa.QuoX Go.Proofs.Ytppnjkiegiokeaa.QuoC Go.Proofs.Ytppnjkiegiokeaa.QuoF Go.Proofs.Ytppnjkiegiokeaa.QuoH Go.Proofs.Ytppnjkiegiokeaa.QuoI Go.Proofs.Ytppnjkiegiokeaa.QuoK Go.Proofs.Ytppnjkiegiokeaa.QuoL Go.Proofs.Ytppnjkiegiokeaa.QuoM

theorem Inv.mono {me life : Nat → Int} {P : Nat → PS} {C : Nat → Ce} {V : Votes} {N N' : Int} (h : Inv me life P C V N) (hn : N ≤ N') : Inv me life P C V N' :=
  ⟨h.pk, fun q hq => ⟨(h.rd q hq).1, Int.le_trans (h.rd q hq).2 hn⟩, h.v1, fun a ha => by obtain ⟨y1, y2, y3, y4, y5, y6⟩ := h.v2 a ha; exact ⟨y1, by omega, y3, y4, y5, y6⟩, h.v3, h.v4, h.v5, h.v6, h.v7, h.p0, h.p1, h.p2, h.p3, h.p4, h.p5⟩
/-- A record is laid back. -/
theorem St.lay {w wr w2 : World} {XC XA XV : Nat} {cb pb : Nat → Nat} {P : Nat → PS} {C : Nat → Ce} {T T' : Nat → One} {ch : Vw} (h : St w wr XC XA XV cb pb P C T ch) (hx : w2.heap[XA]? = some (.cells (allRow pb T') T50 (0, 0))) (k : Keep (fun j => j = XA) wr w2) : St w w2 XC XA XV cb pb P C T' ch :=
  ⟨(k.block _ (lt_of_block h.xc) h.n1.2.2.2.1).trans h.xc, hx, (k.block _ (lt_of_block h.xv) (fun e => h.n1.2.2.2.2.2 e.symm)).trans h.xv, fun a ha => (h.ca a ha).keep k (h.n2 a ha).2.2.1, fun q hq => (k.block _ (lt_of_block (h.pa q hq)) (h.n3 q hq).2.2.1).trans (h.pa q hq), h.n1, h.n2, h.n3, h.n4, h.n5, h.n6, h.k.then k (fun j e => by have := h.n1.2.1; omega)⟩
/-- The chosen view is another one. -/
theorem St.chose {w wr w2 : World} {XC XA XV : Nat} {cb pb : Nat → Nat} {P : Nat → PS} {C : Nat → Ce} {T : Nat → One} {ch v : Vw} (h : St w wr XC XA XV cb pb P C T ch) (hx : w2.heap[XV]? = some (.cells (Vw.cells v).toArray TVw (0, 0))) (k : Keep (fun j => j = XV) wr w2) : St w w2 XC XA XV cb pb P C T v :=
  ⟨(k.block _ (lt_of_block h.xc) h.n1.2.2.2.2.1).trans h.xc, (k.block _ (lt_of_block h.xa) h.n1.2.2.2.2.2).trans h.xa, hx, fun a ha => (h.ca a ha).keep k (h.n2 a ha).2.2.2, fun q hq => (k.block _ (lt_of_block (h.pa q hq)) (h.n3 q hq).2.2.2).trans (h.pa q hq), h.n1, h.n2, h.n3, h.n4, h.n5, h.n6, h.k.then k (fun j e => by have := h.n1.2.2.1; omega)⟩

theorem live_of {la lb : Int} {P : Nat → PS} {C : Nat → Ce} {V : Votes} {N : Int} (h : Inv meI (lfI la lb) P C V N) (hN : N ≤ 1000) {q : Nat} (hq : q < 4) (hr : (P q).round ≠ 0) : Live (P q) := by
  obtain ⟨r0, r1⟩ := h.rd q hq
  obtain ⟨k1, k2, k3, k4⟩ := h.pk q hq
  obtain ⟨m0, m1⟩ := (who la lb).m q hq
  obtain ⟨l0, l1⟩ := (who la lb).l q hq
  exact ⟨by omega, by omega, by omega, by omega, by omega, by omega⟩
/-- An arbiter's promise is told to a proposer. -/
theorem prom_call {s : PS} {pb a : Nat} {W : World} {tl : Pr} {c : Ce} (hp : PAt W pb s) (hl : Live s) (ha : a < 3) (hwa : s.wa.v = 2) (h1 : ballotI s ≤ c.most → tl.ok = false) (h2 : c.most < ballotI s → tl = ⟨true, 2, ballotI s, c.bal, c.val, firstV⟩) :
    Calls Try.prog 15 #[.pointer (some ⟨pb, 0, none⟩), .int .i64 (a : Int), .int .u64 (ballotI s), tl.agg] W fun e w' => ∃ bv s', e = .returned (.bool bv) ∧ PAt w' pb s' ∧ Keep (fun j => j = pb) W w' ∧
      ((s' = s ∧ (okP s false (a : Int) (ballotI s) tl = false ∨ ((a : Int) = 0 ∧ s.y0 = true) ∨ ((a : Int) = 1 ∧ s.y1 = true) ∨ ((a : Int) = 2 ∧ s.y2 = true))) ∨ (c.most < ballotI s ∧ s.sec = false ∧ s' = PS.prom s a c.bal c.val)) := by
  have no : (okP s false (a : Int) (ballotI s) tl = false ∨ ((a : Int) = 0 ∧ s.y0 = true) ∨ ((a : Int) = 1 ∧ s.y1 = true) ∨ ((a : Int) = 2 ∧ s.y2 = true)) → Calls Try.prog 15 #[.pointer (some ⟨pb, 0, none⟩), .int .i64 (a : Int), .int .u64 (ballotI s), tl.agg] W fun e w' => ∃ bv s', e = .returned (.bool bv) ∧ PAt w' pb s' ∧ Keep (fun j => j = pb) W w' ∧
      ((s' = s ∧ (okP s false (a : Int) (ballotI s) tl = false ∨ ((a : Int) = 0 ∧ s.y0 = true) ∨ ((a : Int) = 1 ∧ s.y1 = true) ∨ ((a : Int) = 2 ∧ s.y2 = true))) ∨ (c.most < ballotI s ∧ s.sec = false ∧ s' = PS.prom s a c.bal c.val)) := by
    intro hno
    refine (promised_no s pb (a : Int) (ballotI s) tl W hp hl hno).mono ?_
    rintro e w' ⟨rfl, k⟩
    exact ⟨false, s, rfl, (k.block _ (lt_of_block hp)).trans hp, (Keep.of0 k).toAny, .inl ⟨rfl, hno⟩⟩
  rcases Int.lt_or_le c.most (ballotI s) with hb | hb
  · have ht := h2 hb
    rcases Bool.eq_false_or_eq_true s.sec with hs | hs
    · exact no (.inl (by unfold okP; rw [hs]; simp))
    · subst ht
      have hk : ∀ (K : Nat), Calls Try.prog 15 #[.pointer (some ⟨pb, 0, none⟩), .int .i64 (K : Int), .int .u64 (ballotI s), (Pr.mk true s.wa.v (ballotI s) c.bal c.val firstV).agg] W (fun e w' => e = .returned (.bool (PS.prom s K c.bal c.val).sec) ∧ PAt w' pb (PS.prom s K c.bal c.val) ∧ Keep (· = pb) W w') → K = a → Calls Try.prog 15 #[.pointer (some ⟨pb, 0, none⟩), .int .i64 (a : Int), .int .u64 (ballotI s), (Pr.mk true 2 (ballotI s) c.bal c.val firstV).agg] W fun e w' => ∃ bv s', e = .returned (.bool bv) ∧ PAt w' pb s' ∧ Keep (fun j => j = pb) W w' ∧
          ((s' = s ∧ (okP s false (a : Int) (ballotI s) ⟨true, 2, ballotI s, c.bal, c.val, firstV⟩ = false ∨ ((a : Int) = 0 ∧ s.y0 = true) ∨ ((a : Int) = 1 ∧ s.y1 = true) ∨ ((a : Int) = 2 ∧ s.y2 = true))) ∨ (c.most < ballotI s ∧ s.sec = false ∧ s' = PS.prom s a c.bal c.val)) := by
        rintro K hc rfl
        rw [hwa] at hc
        refine hc.mono ?_
        rintro e w' ⟨rfl, hp', k⟩
        exact ⟨_, _, rfl, hp', k, .inr ⟨hb, hs, rfl⟩⟩
      rcases (show a = 0 ∨ a = 1 ∨ a = 2 from by omega) with rfl | rfl | rfl
      · rcases Bool.eq_false_or_eq_true s.y0 with hy | hy
        · exact no (.inr (.inl ⟨rfl, hy⟩))
        · exact hk 0 (QuoP0.promised0 s pb (ballotI s) c.bal c.val firstV W hp hl hs hy) rfl
      · rcases Bool.eq_false_or_eq_true s.y1 with hy | hy
        · exact no (.inr (.inr (.inl ⟨rfl, hy⟩)))
        · exact hk 1 (QuoP1.promised1 s pb (ballotI s) c.bal c.val firstV W hp hl hs hy) rfl
      · rcases Bool.eq_false_or_eq_true s.y2 with hy | hy
        · exact no (.inr (.inr (.inr ⟨rfl, hy⟩)))
        · exact hk 2 (QuoP2.promised2 s pb (ballotI s) c.bal c.val firstV W hp hl hs hy) rfl
  · exact no (.inl (by unfold okP; rw [h1 hb]; simp))

/-- What an arbiter took is told to a proposer. -/
theorem took_call {s : PS} {pb a : Nat} {W : World} {tl : Pr} {c : Ce} (hp : PAt W pb s) (hl : Live s) (ha : a < 3) (hwa : s.wa.v = 2) (hsec : s.sec = true) (h1 : ballotI s < c.most → tl.ok = false) (h2 : c.most ≤ ballotI s → tl = ⟨true, 2, ballotI s, ballotI s, s.val, firstV⟩) :
    Calls Try.prog 16 #[.pointer (some ⟨pb, 0, none⟩), .int .i64 (a : Int), .int .u64 (ballotI s), tl.agg] W fun e w' => ∃ bv s', e = .returned (.bool bv) ∧ PAt w' pb s' ∧ Keep (fun j => j = pb) W w' ∧
      ((s' = s ∧ bv = false ∧ (okP s true (a : Int) (ballotI s) tl = false ∨ ((a : Int) = 0 ∧ s.t0 = true) ∨ ((a : Int) = 1 ∧ s.t1 = true) ∨ ((a : Int) = 2 ∧ s.t2 = true))) ∨ (c.most ≤ ballotI s ∧ s' = PS.take s a ∧ bv = PS.takes s a)) := by
  have no : (okP s true (a : Int) (ballotI s) tl = false ∨ ((a : Int) = 0 ∧ s.t0 = true) ∨ ((a : Int) = 1 ∧ s.t1 = true) ∨ ((a : Int) = 2 ∧ s.t2 = true)) → Calls Try.prog 16 #[.pointer (some ⟨pb, 0, none⟩), .int .i64 (a : Int), .int .u64 (ballotI s), tl.agg] W fun e w' => ∃ bv s', e = .returned (.bool bv) ∧ PAt w' pb s' ∧ Keep (fun j => j = pb) W w' ∧
      ((s' = s ∧ bv = false ∧ (okP s true (a : Int) (ballotI s) tl = false ∨ ((a : Int) = 0 ∧ s.t0 = true) ∨ ((a : Int) = 1 ∧ s.t1 = true) ∨ ((a : Int) = 2 ∧ s.t2 = true))) ∨ (c.most ≤ ballotI s ∧ s' = PS.take s a ∧ bv = PS.takes s a)) := by
    intro hno
    refine (took_no s pb (a : Int) (ballotI s) tl W hp hl hno).mono ?_
    rintro e w' ⟨rfl, k⟩
    exact ⟨false, s, rfl, (k.block _ (lt_of_block hp)).trans hp, (Keep.of0 k).toAny, .inl ⟨rfl, rfl, hno⟩⟩
  rcases Int.lt_or_le (ballotI s) c.most with hb | hb
  · exact no (.inl (by unfold okP; rw [h1 hb]; simp))
  · have ht := h2 hb
    subst ht
    have hk : ∀ (K : Nat), Calls Try.prog 16 #[.pointer (some ⟨pb, 0, none⟩), .int .i64 (K : Int), .int .u64 (ballotI s), (Pr.mk true s.wa.v (ballotI s) (ballotI s) s.val firstV).agg] W (fun e w' => e = .returned (.bool (PS.takes s K)) ∧ PAt w' pb (PS.take s K) ∧ Keep (· = pb) W w') → K = a → Calls Try.prog 16 #[.pointer (some ⟨pb, 0, none⟩), .int .i64 (a : Int), .int .u64 (ballotI s), (Pr.mk true 2 (ballotI s) (ballotI s) s.val firstV).agg] W fun e w' => ∃ bv s', e = .returned (.bool bv) ∧ PAt w' pb s' ∧ Keep (fun j => j = pb) W w' ∧
        ((s' = s ∧ bv = false ∧ (okP s true (a : Int) (ballotI s) ⟨true, 2, ballotI s, ballotI s, s.val, firstV⟩ = false ∨ ((a : Int) = 0 ∧ s.t0 = true) ∨ ((a : Int) = 1 ∧ s.t1 = true) ∨ ((a : Int) = 2 ∧ s.t2 = true))) ∨ (c.most ≤ ballotI s ∧ s' = PS.take s a ∧ bv = PS.takes s a)) := by
      rintro K hc rfl
      rw [hwa] at hc
      refine hc.mono ?_
      rintro e w' ⟨rfl, hp', k⟩
      exact ⟨_, _, rfl, hp', k, .inr ⟨hb, rfl, rfl⟩⟩
    rcases (show a = 0 ∨ a = 1 ∨ a = 2 from by omega) with rfl | rfl | rfl
    · rcases Bool.eq_false_or_eq_true s.t0 with hy | hy
      · exact no (.inr (.inl ⟨rfl, hy⟩))
      · exact hk 0 (QuoK0.took0 s pb (ballotI s) (ballotI s) s.val firstV W hp hl hsec hy) rfl
    · rcases Bool.eq_false_or_eq_true s.t1 with hy | hy
      · exact no (.inr (.inr (.inl ⟨rfl, hy⟩)))
      · exact hk 1 (QuoK1.took1 s pb (ballotI s) (ballotI s) s.val firstV W hp hl hsec hy) rfl
    · rcases Bool.eq_false_or_eq_true s.t2 with hy | hy
      · exact no (.inr (.inr (.inr ⟨rfl, hy⟩)))
      · exact hk 2 (QuoK2.took2 s pb (ballotI s) (ballotI s) s.val firstV W hp hl hsec hy) rfl

theorem told_upd {P : Nat → PS} {T : Nat → One} {N N' : Int} (h : ∀ q, q < 4 → QuoF.Told (P q) N (T q)) (hn : N ≤ N') (q : Nat) (s : PS) (x : One) (hx : QuoF.Told s N' x) : ∀ j, j < 4 → QuoF.Told (upd P q s j) N' (upd T q x j) := by
  intro j hj
  by_cases e : j = q
  · subst e; rw [upd_same, upd_same]; exact hx
  · rw [upd_ne _ _ e, upd_ne _ _ e]; exact Told.mono (h j hj) hn
theorem upd_self {α : Type} (f : Nat → α) (q : Nat) : upd f q (f q) = f := by
  funext j
  by_cases e : j = q
  · subst e; rw [upd_same]
  · rw [upd_ne _ _ e]
theorem cast1 (i : Nat) : ((i + 1 : Nat) : Int) = (i : Int) + 1 := by omega
/-- Behind a proposer's beginning. -/
theorem Rd.start {w wr w2 : World} {XC XA XV : Nat} {cb pb : Nat → Nat} {la lb : Int} {N q : Nat} {P : Nat → PS} {C : Nat → Ce} {T : Nat → One} {ch : Vw} {V : Votes} (h : Rd w wr XC XA XV cb pb la lb N P C T ch V) (hq : q < 4) (ab : Int) (h0 : 0 ≤ ab) (h1 : ab < ((N : Int) + 1) * 4294967296) (hp : PAt w2 (pb q) ((P q).begun ab)) (k : Keep (fun j => j = pb q) wr w2) :
    Rd w w2 XC XA XV cb pb la lb (N + 1) (upd P q ((P q).begun ab)) C T ch V := by
  obtain ⟨r0, r1⟩ := h.inv.rd q hq
  have hr' : (P q).round < max (P q).round (ab / 4294967296) + 1 := by omega
  refine ⟨h.st.prop hq hp k, ?_, ?_, h.ch⟩
  · rw [cast1]
    exact h.inv.start (who la lb) hq _ (max (P q).round (ab / 4294967296) + 1) rfl hr' (by omega)
  · have := told_upd h.told (N' := ((N + 1 : Nat) : Int)) (by omega) q ((P q).begun ab) (T q) (by rw [cast1]; exact Told.start (h.told q hq) rfl rfl hr' r0)
    rwa [upd_self T q] at this

/-- A block aside from all that stands is another one. -/
theorem St.aside {w wr w2 : World} {XC XA XV X : Nat} {cb pb : Nat → Nat} {P : Nat → PS} {C : Nat → Ce} {T : Nat → One} {ch : Vw} (h : St w wr XC XA XV cb pb P C T ch) (k : Keep (fun j => j = X) wr w2) (hX : X ≠ XC ∧ X ≠ XA ∧ X ≠ XV ∧ (∀ j, j < 3 → X ≠ cb j) ∧ (∀ j, j < 4 → X ≠ pb j) ∧ w.heap.size ≤ X) : St w w2 XC XA XV cb pb P C T ch :=
  ⟨(k.block _ (lt_of_block h.xc) hX.1.symm).trans h.xc, (k.block _ (lt_of_block h.xa) hX.2.1.symm).trans h.xa, (k.block _ (lt_of_block h.xv) hX.2.2.1.symm).trans h.xv, fun a ha => (h.ca a ha).keep k (hX.2.2.2.1 a ha).symm, fun q hq => (k.block _ (lt_of_block (h.pa q hq)) (hX.2.2.2.2.1 q hq).symm).trans (h.pa q hq), h.n1, h.n2, h.n3, h.n4, h.n5, h.n6, h.k.then k (fun j e => by have := hX.2.2.2.2.2; omega)⟩
/-- An arbiter's cell is another one, and a block aside. -/
theorem St.two {w wr w2 : World} {XC XA XV X a : Nat} {cb pb : Nat → Nat} {P : Nat → PS} {C : Nat → Ce} {T : Nat → One} {ch : Vw} (h : St w wr XC XA XV cb pb P C T ch) (ha : a < 3) {c : Ce} (hc : CAt w2 (cb a) c) (k : Keep (fun j => j = cb a ∨ j = X) wr w2) (hX : X ≠ XC ∧ X ≠ XA ∧ X ≠ XV ∧ (∀ j, j < 3 → X ≠ cb j) ∧ (∀ j, j < 4 → X ≠ pb j) ∧ w.heap.size ≤ X) : St w w2 XC XA XV cb pb P (upd C a c) T ch := by
  obtain ⟨a1, a2, a3, a4⟩ := h.n2 a ha
  refine ⟨(k.block _ (lt_of_block h.xc) (fun e => e.elim (fun e => a2 e.symm) hX.1.symm)).trans h.xc, (k.block _ (lt_of_block h.xa) (fun e => e.elim (fun e => a3 e.symm) hX.2.1.symm)).trans h.xa, (k.block _ (lt_of_block h.xv) (fun e => e.elim (fun e => a4 e.symm) hX.2.2.1.symm)).trans h.xv, fun j hj => ?_, fun q hq => (k.block _ (lt_of_block (h.pa q hq)) (fun e => e.elim (fun e => h.n4 a q ha hq e.symm) (hX.2.2.2.2.1 q hq).symm)).trans (h.pa q hq), h.n1, h.n2, h.n3, h.n4, h.n5, h.n6, h.k.then k (fun j e => by have := hX.2.2.2.2.2; omega)⟩
  by_cases e : j = a
  · subst e; rw [upd_same]; exact hc
  · rw [upd_ne _ _ e]
    exact (h.ca j hj).keep k (fun e2 => e2.elim (fun e2 => e (h.n5 j a hj ha e2)) (hX.2.2.2.1 j hj).symm)
theorem told_asked {s s6 : PS} {N : Int} {a : Nat} {tl : Pr} (h0 : 0 ≤ tl.most) (h1 : tl.most < (N + 1) * 4294967296) (hr : 0 < s.round) (e1 : s6.round = s.round) (e2 : s6.life = s.life) (e3 : s6.me = s.me) (hn : okP s6 false (a : Int) (ballotI s) tl = false ∨ ((a : Int) = 0 ∧ s6.y0 = true) ∨ ((a : Int) = 1 ∧ s6.y1 = true) ∨ ((a : Int) = 2 ∧ s6.y2 = true)) : QuoF.Told s6 N ⟨(a : Int), ballotI s, tl, false, true⟩ := by
  intro _
  refine ⟨h0, h1, ⟨s.round, hr, by rw [e1]; omega, ?_⟩, fun _ => hn, fun e => by cases e⟩
  show ballotI s = _
  unfold ballotI enc
  rw [if_neg (by omega), e2, e3]
/-- Behind an arbiter's promise. -/
theorem Rd.asked {w w4 w5 w6 : World} {XC XA XV X a q i : Nat} {cb pb : Nat → Nat} {la lb : Int} {P : Nat → PS} {C : Nat → Ce} {T : Nat → One} {ch : Vw} {V : Votes} {tl : Pr} {s6 : PS} (h : Rd w w4 XC XA XV cb pb la lb i P C T ch V) (hq : q < 4) (ha : a < 3) (hr : (P q).round ≠ 0) (hX : X ≠ XC ∧ X ≠ XA ∧ X ≠ XV ∧ (∀ j, j < 3 → X ≠ cb j) ∧ (∀ j, j < 4 → X ≠ pb j) ∧ w.heap.size ≤ X)
    (hpost : (ballotI (P q) ≤ (C a).most → tl = ⟨false, 2, (C a).most, (C a).bal, (C a).val, firstV⟩ ∧ CAt w5 (cb a) (C a)) ∧ ((C a).most < ballotI (P q) → tl = ⟨true, 2, ballotI (P q), (C a).bal, (C a).val, firstV⟩ ∧ CAt w5 (cb a) ⟨ballotI (P q), (C a).bal, (C a).val⟩))
    (k5 : Keep (fun j => j = cb a ∨ j = X) w4 w5) (hp6 : PAt w6 (pb q) s6) (k6 : Keep (fun j => j = pb q) w5 w6)
    (hcase : (s6 = P q ∧ (okP (P q) false (a : Int) (ballotI (P q)) tl = false ∨ ((a : Int) = 0 ∧ (P q).y0 = true) ∨ ((a : Int) = 1 ∧ (P q).y1 = true) ∨ ((a : Int) = 2 ∧ (P q).y2 = true))) ∨ ((C a).most < ballotI (P q) ∧ (P q).sec = false ∧ s6 = PS.prom (P q) a (C a).bal (C a).val)) :
    ∃ C5, St w w6 XC XA XV cb pb (upd P q s6) C5 T ch ∧ Inv meI (lfI la lb) (upd P q s6) C5 V ((i + 1 : Nat) : Int) ∧ ∀ j, j < 4 → QuoF.Told (upd P q s6 j) ((i + 1 : Nat) : Int) (upd T q ⟨(a : Int), ballotI (P q), tl, false, true⟩ j) := by
  have hrd := h.inv.rd q hq
  have hbp := bal_pos (who la lb) h.inv hq hr
  obtain ⟨y1, y2, y3, y4, y5, y6⟩ := h.inv.v2 a ha
  have hN : ((i : Nat) : Int) ≤ ((i + 1 : Nat) : Int) := by omega
  rcases Int.lt_or_le (C a).most (ballotI (P q)) with hb | hb
  · obtain ⟨ht, hc⟩ := hpost.2 hb
    have hinv := h.inv.prepare (who la lb) hq ha hr hb
    have hst := (St.two h.st ha hc k5 hX).prop hq hp6 k6
    have hm0 : 0 ≤ tl.most ∧ tl.most < (((i + 1 : Nat) : Int) + 1) * 4294967296 := by
      rw [ht]
      show 0 ≤ ballotI (P q) ∧ ballotI (P q) < _
      omega
    refine ⟨_, hst, ?_, ?_⟩
    · rcases hcase with ⟨rfl, -⟩ | ⟨-, hs, rfl⟩
      · rw [upd_self]; exact Inv.mono hinv hN
      · have h9 := hinv.promise (who la lb) hq ha hr hs (by rw [upd_same]; exact Int.le_refl _) (by rw [upd_same]; show (C a).bal < _; omega)
        rw [upd_same] at h9
        exact Inv.mono h9 hN
    · refine told_upd h.told hN q s6 _ ?_
      rcases hcase with ⟨rfl, hn⟩ | ⟨-, hs, rfl⟩
      · exact told_asked hm0.1 hm0.2 (by omega) rfl rfl rfl hn
      · refine told_asked hm0.1 hm0.2 (by omega) rfl rfl rfl (.inr ?_)
        rcases (show a = 0 ∨ a = 1 ∨ a = 2 from by omega) with rfl | rfl | rfl
        · exact .inl ⟨rfl, by simp [PS.prom]⟩
        · exact .inr (.inl ⟨rfl, by simp [PS.prom]⟩)
        · exact .inr (.inr ⟨rfl, by simp [PS.prom]⟩)
  · obtain ⟨ht, hc⟩ := hpost.1 hb
    have hst := (St.two h.st ha hc k5 hX).prop hq hp6 k6
    rw [upd_self C a] at hst
    have hm0 : 0 ≤ tl.most ∧ tl.most < (((i + 1 : Nat) : Int) + 1) * 4294967296 := by
      rw [ht]
      show 0 ≤ (C a).most ∧ (C a).most < _
      omega
    rcases hcase with ⟨rfl, hn⟩ | ⟨hb2, -, -⟩
    · refine ⟨_, hst, by rw [upd_self]; exact Inv.mono h.inv hN, told_upd h.told hN q _ _ (told_asked hm0.1 hm0.2 (by omega) rfl rfl rfl hn)⟩
    · omega

theorem told_took {s s6 : PS} {N : Int} {a : Nat} {tl : Pr} (h0 : 0 ≤ tl.most) (h1 : tl.most < (N + 1) * 4294967296) (hr : 0 < s.round) (e1 : s6.round = s.round) (e2 : s6.life = s.life) (e3 : s6.me = s.me) (hs : s6.sec = true) (hn : okP s6 true (a : Int) (ballotI s) tl = false ∨ ((a : Int) = 0 ∧ s6.t0 = true) ∨ ((a : Int) = 1 ∧ s6.t1 = true) ∨ ((a : Int) = 2 ∧ s6.t2 = true)) : QuoF.Told s6 N ⟨(a : Int), ballotI s, tl, true, true⟩ := by
  intro _
  refine ⟨h0, h1, ⟨s.round, hr, by rw [e1]; omega, ?_⟩, fun e => (by cases e), fun _ => ⟨fun _ => hs, hn⟩⟩
  show ballotI s = _
  unfold ballotI enc
  rw [if_neg (by omega), e2, e3]
/-- Behind an arbiter's taking: what stands, and, if it takes, that the view is chosen. -/
theorem Rd.taken {w w4 w5 w6 : World} {XC XA XV X a q i : Nat} {cb pb : Nat → Nat} {la lb : Int} {P : Nat → PS} {C : Nat → Ce} {T : Nat → One} {ch : Vw} {V : Votes} {tl : Pr} {s6 : PS} {bv : Bool} (h : Rd w w4 XC XA XV cb pb la lb i P C T ch V) (hq : q < 4) (ha : a < 3) (hs : (P q).sec = true) (hX : X ≠ XC ∧ X ≠ XA ∧ X ≠ XV ∧ (∀ j, j < 3 → X ≠ cb j) ∧ (∀ j, j < 4 → X ≠ pb j) ∧ w.heap.size ≤ X)
    (hpost : (ballotI (P q) < (C a).most → tl = ⟨false, 2, (C a).most, (C a).bal, (C a).val, firstV⟩ ∧ CAt w5 (cb a) (C a)) ∧ ((C a).most ≤ ballotI (P q) → tl = ⟨true, 2, ballotI (P q), ballotI (P q), (P q).val, firstV⟩ ∧ CAt w5 (cb a) ⟨ballotI (P q), ballotI (P q), (P q).val⟩))
    (k5 : Keep (fun j => j = cb a ∨ j = X) w4 w5) (hp6 : PAt w6 (pb q) s6) (k6 : Keep (fun j => j = pb q) w5 w6)
    (hcase : (s6 = P q ∧ bv = false ∧ (okP (P q) true (a : Int) (ballotI (P q)) tl = false ∨ ((a : Int) = 0 ∧ (P q).t0 = true) ∨ ((a : Int) = 1 ∧ (P q).t1 = true) ∨ ((a : Int) = 2 ∧ (P q).t2 = true))) ∨ ((C a).most ≤ ballotI (P q) ∧ s6 = PS.take (P q) a ∧ bv = PS.takes (P q) a)) :
    ∃ C5 V5, St w w6 XC XA XV cb pb (upd P q s6) C5 T ch ∧ Inv meI (lfI la lb) (upd P q s6) C5 V5 ((i + 1 : Nat) : Int) ∧ (∀ j, j < 4 → QuoF.Told (upd P q s6 j) ((i + 1 : Nat) : Int) (upd T q ⟨(a : Int), ballotI (P q), tl, true, true⟩ j)) ∧ (ch.v = 0 ∨ Chosen V5 ch) ∧ s6.val = (P q).val ∧ (bv = true → Chosen V5 (P q).val ∧ (ch.v = 0 ∨ ch = (P q).val)) := by
  have hr := (h.inv.p4 q hq hs).1
  have hrd := h.inv.rd q hq
  have hbp := bal_pos (who la lb) h.inv hq hr
  obtain ⟨y1, y2, y3, y4, y5, y6⟩ := h.inv.v2 a ha
  have hN : ((i : Nat) : Int) ≤ ((i + 1 : Nat) : Int) := by omega
  rcases Int.lt_or_le (ballotI (P q)) (C a).most with hb | hb
  · obtain ⟨ht, hc⟩ := hpost.1 hb
    have hst := (St.two h.st ha hc k5 hX).prop hq hp6 k6
    rw [upd_self C a] at hst
    have hm0 : 0 ≤ tl.most ∧ tl.most < (((i + 1 : Nat) : Int) + 1) * 4294967296 := by
      rw [ht]
      show 0 ≤ (C a).most ∧ (C a).most < _
      omega
    rcases hcase with ⟨rfl, rfl, hn⟩ | ⟨hb2, -, -⟩
    · exact ⟨_, V, hst, by rw [upd_self]; exact Inv.mono h.inv hN, told_upd h.told hN q _ _ (told_took hm0.1 hm0.2 (by omega) rfl rfl rfl hs hn), h.ch, rfl, fun e => (by cases e)⟩
    · omega
  · obtain ⟨ht, hc⟩ := hpost.2 hb
    have hinv := h.inv.accept (who la lb) hq ha hs hb
    have hst := (St.two h.st ha hc k5 hX).prop hq hp6 k6
    have hm0 : 0 ≤ tl.most ∧ tl.most < (((i + 1 : Nat) : Int) + 1) * 4294967296 := by
      rw [ht]
      show 0 ≤ ballotI (P q) ∧ ballotI (P q) < _
      omega
    have hch : ch.v = 0 ∨ Chosen (fun j c v => V j c v ∨ (j = a ∧ c = ballotI (P q) ∧ v = (P q).val)) ch := h.ch.imp id (fun h => h.mono (fun _ _ _ e => .inl e))
    refine ⟨_, _, hst, ?_, ?_, hch, ?_, ?_⟩
    · rcases hcase with ⟨rfl, -, -⟩ | ⟨-, rfl, -⟩
      · rw [upd_self]; exact Inv.mono hinv hN
      · exact Inv.mono (hinv.noted hq ha hs (.inr ⟨rfl, rfl, rfl⟩)) hN
    · refine told_upd h.told hN q s6 _ ?_
      rcases hcase with ⟨rfl, -, hn⟩ | ⟨-, rfl, -⟩
      · exact told_took hm0.1 hm0.2 (by omega) rfl rfl rfl hs hn
      · refine told_took hm0.1 hm0.2 (by omega) rfl rfl rfl hs (.inr ?_)
        rcases (show a = 0 ∨ a = 1 ∨ a = 2 from by omega) with rfl | rfl | rfl
        · exact .inl ⟨rfl, by simp [PS.take]⟩
        · exact .inr (.inl ⟨rfl, by simp [PS.take]⟩)
        · exact .inr (.inr ⟨rfl, by simp [PS.take]⟩)
    · rcases hcase with ⟨rfl, -, -⟩ | ⟨-, rfl, -⟩ <;> rfl
    · intro e
      rcases hcase with ⟨-, rfl, -⟩ | ⟨-, -, rfl⟩
      · cases e
      · have hcv := takes_chosen hinv hq ha (.inr ⟨rfl, rfl, rfl⟩) e
        exact ⟨hcv, hch.imp id (fun h2 => one_only hinv h2 hcv)⟩

end Go.Proofs.Ytppnjkiegiokeaa.QuoY
