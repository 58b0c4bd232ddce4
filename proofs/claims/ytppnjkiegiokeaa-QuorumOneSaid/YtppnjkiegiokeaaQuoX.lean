/-
  Layer 17 (quorum): the plain law of QuorumOne: no two views are chosen.
-/
import Derived.Test.YtppnjkiegiokeaaQuoR
import Derived.Test.YtppnjkiegiokeaaQuoS
namespace Go.Proofs.Ytppnjkiegiokeaa.QuoX
set_option linter.unusedVariables false
set_option linter.unusedSimpArgs false
open Go.RowKit Go.Proofs.Ytppnjkiegiokeaa.Mem Go.Proofs.Ytppnjkiegiokeaa.QuoW Go.Proofs.Ytppnjkiegiokeaa.QuoV Go.Proofs.Ytppnjkiegiokeaa.QuoU Go.Proofs.Ytppnjkiegiokeaa.QuoR Go.Proofs.Ytppnjkiegiokeaa.QuoS

/-- What an arbiter keeps beside the view that is chosen. -/
structure Ce where
  most : Int
  bal : Int
  val : Vw
abbrev Votes := Nat → Int → Vw → Prop
def yes (s : PS) (a : Nat) : Bool := if a = 0 then s.y0 else if a = 1 then s.y1 else s.y2
def tk (s : PS) (a : Nat) : Bool := if a = 0 then s.t0 else if a = 1 then s.t1 else s.t2
def enc (r l m : Int) : Int := r * 4294967296 + l * 2 + m
def upd {α : Type} (f : Nat → α) (q : Nat) (x : α) : Nat → α := fun j => if j = q then x else f j
theorem upd_same {α : Type} (f : Nat → α) (q : Nat) (x : α) : upd f q x q = x := by simp [upd]
theorem upd_ne {α : Type} (f : Nat → α) {q j : Nat} (x : α) (h : j ≠ q) : upd f q x j = f j := by simp [upd, h]
/-- A view that is wanted. -/
def Good (v : Vw) : Prop := ∃ m l, v = wantV m l ∧ 0 ≤ m ∧ m ≤ 1 ∧ 1 ≤ l ∧ l < 16777216
/-- An arbiter gives no more to another view in a ballot. -/
def Ok1 (C : Nat → Ce) (V : Votes) (a : Nat) (c : Int) (v : Vw) : Prop := a < 3 ∧ c < (C a).most ∧ ∀ v', V a c v' → v' = v
/-- No other view than this can be chosen below a ballot. -/
def Safe (C : Nat → Ce) (V : Votes) (v : Vw) (b : Int) : Prop := ∀ c, 0 < c → c < b → ∃ a1 a2, a1 ≠ a2 ∧ Ok1 C V a1 c v ∧ Ok1 C V a2 c v
def Chosen (V : Votes) (v : Vw) : Prop := ∃ b a1 a2, a1 < 3 ∧ a2 < 3 ∧ a1 ≠ a2 ∧ V a1 b v ∧ V a2 b v

/-- Who the four are. -/
structure Who (me life : Nat → Int) : Prop where
  m : ∀ q, q < 4 → 0 ≤ me q ∧ me q ≤ 1
  l : ∀ q, q < 4 → 1 ≤ life q ∧ life q < 16777216
  d : ∀ q q', q < 4 → q' < 4 → me q = me q' → life q = life q' → q = q'
theorem enc_inj {me life : Nat → Int} (hw : Who me life) {q q' : Nat} (h : q < 4) (h' : q' < 4) {r r' : Int} (e : enc r (life q) (me q) = enc r' (life q') (me q')) : q = q' ∧ r = r' := by
  obtain ⟨m0, m1⟩ := hw.m q h
  obtain ⟨m0', m1'⟩ := hw.m q' h'
  obtain ⟨l0, l1⟩ := hw.l q h
  obtain ⟨l0', l1'⟩ := hw.l q' h'
  unfold enc at e
  have e1 : me q = me q' := by omega
  have e2 : life q = life q' := by omega
  exact ⟨hw.d q q' h h' e1 e2, by omega⟩

structure Inv (me life : Nat → Int) (P : Nat → PS) (C : Nat → Ce) (V : Votes) (N : Int) : Prop where
  pk : ∀ q, q < 4 → (P q).kn = firstV ∧ (P q).wa = wantV (me q) (life q) ∧ (P q).me = me q ∧ (P q).life = life q
  rd : ∀ q, q < 4 → 0 ≤ (P q).round ∧ (P q).round ≤ N
  v1 : ∀ a b v, V a b v → a < 3 ∧ 0 < b ∧ b ≤ (C a).most
  v2 : ∀ a, a < 3 → 0 ≤ (C a).most ∧ (C a).most < (N + 1) * 4294967296 ∧ 0 ≤ (C a).bal ∧ (C a).bal ≤ (C a).most ∧ (∀ b v, V a b v → b ≤ (C a).bal) ∧ ((C a).bal = 0 ∧ (C a).val = zeroV ∨ V a (C a).bal (C a).val)
  v3 : ∀ a b v, V a b v → Safe C V v b
  v4 : ∀ a b v a' v', V a b v → V a' b v' → v = v'
  v5 : ∀ a b v, V a b v → ∃ q r, q < 4 ∧ 0 < r ∧ r ≤ (P q).round ∧ b = enc r (life q) (me q)
  v6 : ∀ a b v q, q < 4 → V a b v → b = ballotI (P q) → (P q).sec = true ∧ v = (P q).val
  v7 : ∀ a b v, V a b v → Good v
  p0 : ∀ q, q < 4 → (P q).round = 0 → P q = fresh firstV (wantV (me q) (life q)) (me q) (life q)
  p1 : ∀ q, q < 4 → (P q).round ≠ 0 → Good (P q).val
  p2 : ∀ q a, q < 4 → a < 3 → yes (P q) a = true → ballotI (P q) ≤ (C a).most ∧ ∀ c v, V a c v → c < ballotI (P q) → c ≤ (P q).best
  p3 : ∀ q, q < 4 → 0 ≤ (P q).best ∧ ((P q).best = 0 ∨ ∃ a, V a (P q).best (P q).val ∧ (P q).best < ballotI (P q))
  p4 : ∀ q, q < 4 → (P q).sec = true → (P q).round ≠ 0 ∧ ∃ a1 a2, a1 < 3 ∧ a2 < 3 ∧ a1 ≠ a2 ∧ yes (P q) a1 = true ∧ yes (P q) a2 = true
  p5 : ∀ q a, q < 4 → a < 3 → tk (P q) a = true → V a (ballotI (P q)) (P q).val

theorem bal_enc {me life : Nat → Int} {P : Nat → PS} {C : Nat → Ce} {V : Votes} {N : Int} (h : Inv me life P C V N) {q : Nat} (hq : q < 4) (hr : (P q).round ≠ 0) : ballotI (P q) = enc (P q).round (life q) (me q) := by
  unfold ballotI enc
  rw [if_neg hr, (h.pk q hq).2.2.1, (h.pk q hq).2.2.2]
theorem bal_pos {me life : Nat → Int} {P : Nat → PS} {C : Nat → Ce} {V : Votes} {N : Int} (hw : Who me life) (h : Inv me life P C V N) {q : Nat} (hq : q < 4) (hr : (P q).round ≠ 0) : 4294967296 ≤ ballotI (P q) ∧ ballotI (P q) < (N + 1) * 4294967296 := by
  rw [bal_enc h hq hr]
  obtain ⟨r0, r1⟩ := h.rd q hq
  obtain ⟨m0, m1⟩ := hw.m q hq
  obtain ⟨l0, l1⟩ := hw.l q hq
  unfold enc
  omega

/-- No two views are chosen. -/
theorem one_only {me life : Nat → Int} {P : Nat → PS} {C : Nat → Ce} {V : Votes} {N : Int} (h : Inv me life P C V N) {v v' : Vw} (h1 : Chosen V v) (h2 : Chosen V v') : v = v' := by
  have key : ∀ (b b' : Int) (v v' : Vw) (a1 a2 x1 x2 : Nat), a1 < 3 → a2 < 3 → a1 ≠ a2 → V a1 b v → V a2 b v → V x1 b' v' → b < b' → v = v' := by
    intro b b' v v' a1 a2 x1 x2 l1 l2 hne e1 e2 e3 hlt
    obtain ⟨c1, c2, hc, o1, o2⟩ := h.v3 x1 b' v' e3 b (h.v1 a1 b v e1).2.1 hlt
    have hsh : c1 = a1 ∨ c1 = a2 ∨ c2 = a1 ∨ c2 = a2 := by
      have := o1.1; have := o2.1; omega
    rcases hsh with rfl | rfl | rfl | rfl
    · exact o1.2.2 v e1
    · exact o1.2.2 v e2
    · exact o2.2.2 v e1
    · exact o2.2.2 v e2
  obtain ⟨b, a1, a2, l1, l2, hne, e1, e2⟩ := h1
  obtain ⟨b', x1, x2, m1, m2, hne', f1, f2⟩ := h2
  rcases Int.lt_trichotomy b b' with hb | hb | hb
  · exact key b b' v v' a1 a2 x1 x2 l1 l2 hne e1 e2 f1 hb
  · subst hb; exact h.v4 a1 b v x1 v' e1 f1
  · exact (key b' b v' v x1 x2 a1 a2 m1 m2 hne' f1 f2 e1 hb).symm

theorem Safe.mono {C C' : Nat → Ce} {V V' : Votes} {v : Vw} {b : Int} (h : Safe C V v b) (hm : ∀ a, a < 3 → (C a).most ≤ (C' a).most) (hV : ∀ a c v', a < 3 → c < (C a).most → V' a c v' → V a c v') : Safe C' V' v b := by
  intro c h0 hc
  obtain ⟨a1, a2, hne, ⟨l1, m1, o1⟩, ⟨l2, m2, o2⟩⟩ := h c h0 hc
  refine ⟨a1, a2, hne, ⟨l1, ?_, fun v' e => o1 v' (hV a1 c v' l1 m1 e)⟩, ⟨l2, ?_, fun v' e => o2 v' (hV a2 c v' l2 m2 e)⟩⟩
  · have := hm a1 l1; omega
  · have := hm a2 l2; omega

/-- A promise that an arbiter gives. -/
theorem Inv.prepare {me life : Nat → Int} {P : Nat → PS} {C : Nat → Ce} {V : Votes} {N : Int} (hw : Who me life) (h : Inv me life P C V N) {q a : Nat} (hq : q < 4) (ha : a < 3) (hr : (P q).round ≠ 0) (hb : (C a).most < ballotI (P q)) :
    Inv me life P (upd C a ⟨ballotI (P q), (C a).bal, (C a).val⟩) V N := by
  have hm : ∀ j, j < 3 → (C j).most ≤ (upd C a ⟨ballotI (P q), (C a).bal, (C a).val⟩ j).most := by
    intro j hj
    by_cases e : j = a
    · subst e; rw [upd_same]; show _ ≤ ballotI (P q); omega
    · rw [upd_ne _ _ e]; omega
  have hbp := bal_pos hw h hq hr
  refine ⟨h.pk, h.rd, fun j b v e => ?_, fun j hj => ?_, fun j b v e => (h.v3 j b v e).mono hm (fun _ _ _ _ _ e => e), h.v4, h.v5, h.v6, h.v7, h.p0, h.p1, fun q' j h1 h2 h3 => ?_, h.p3, h.p4, h.p5⟩
  · obtain ⟨x1, x2, x3⟩ := h.v1 j b v e
    exact ⟨x1, x2, Int.le_trans x3 (hm j x1)⟩
  · have h2 := h.v2 j hj
    by_cases e : j = a
    · subst e
      rw [upd_same]
      obtain ⟨y1, y2, y3, y4, y5, y6⟩ := h2
      exact ⟨by show (0 : Int) ≤ ballotI (P q); omega, hbp.2, y3, by show (C j).bal ≤ ballotI (P q); omega, y5, y6⟩
    · rw [upd_ne _ _ e]; exact h2
  · obtain ⟨x1, x2⟩ := h.p2 q' j h1 h2 h3
    exact ⟨Int.le_trans x1 (hm j h2), x2⟩

theorem yes_prom (s : PS) (a j : Nat) (ha : a < 3) (hj : j < 3) (bal : Int) (val : Vw) : yes (PS.prom s a bal val) j = (yes s j || j == a) := by
  unfold yes PS.prom
  rcases (show a = 0 ∨ a = 1 ∨ a = 2 from by omega) with rfl | rfl | rfl <;> rcases (show j = 0 ∨ j = 1 ∨ j = 2 from by omega) with rfl | rfl | rfl <;> simp
theorem tk_take (s : PS) (a j : Nat) (ha : a < 3) (hj : j < 3) : tk (PS.take s a) j = (tk s j || j == a) := by
  unfold tk PS.take
  rcases (show a = 0 ∨ a = 1 ∨ a = 2 from by omega) with rfl | rfl | rfl <;> rcases (show j = 0 ∨ j = 1 ∨ j = 2 from by omega) with rfl | rfl | rfl <;> simp
theorem two_of (x y z : Bool) (h : 1 < cnt x y z) : (x = true ∧ y = true) ∨ (x = true ∧ z = true) ∨ (y = true ∧ z = true) := by
  cases x <;> cases y <;> cases z <;> simp [cnt, b2] at h ⊢
theorem sec_prom (s : PS) (a : Nat) (bal : Int) (val : Vw) (h : (PS.prom s a bal val).sec = true) : ∃ a1 a2, a1 < 3 ∧ a2 < 3 ∧ a1 ≠ a2 ∧ yes (PS.prom s a bal val) a1 = true ∧ yes (PS.prom s a bal val) a2 = true := by
  have h1 : 1 < cnt (s.y0 || a == 0) (s.y1 || a == 1) (s.y2 || a == 2) := of_decide_eq_true h
  rcases two_of _ _ _ h1 with ⟨e1, e2⟩ | ⟨e1, e2⟩ | ⟨e1, e2⟩
  · exact ⟨0, 1, by omega, by omega, by omega, e1, e2⟩
  · exact ⟨0, 2, by omega, by omega, by omega, e1, e2⟩
  · exact ⟨1, 2, by omega, by omega, by omega, e1, e2⟩

/-- A proposer notes a promise. -/
theorem Inv.promise {me life : Nat → Int} {P : Nat → PS} {C : Nat → Ce} {V : Votes} {N : Int} (hw : Who me life) (h : Inv me life P C V N) {q a : Nat} (hq : q < 4) (ha : a < 3) (hr : (P q).round ≠ 0) (hs : (P q).sec = false) (hb : ballotI (P q) ≤ (C a).most) (hlt : (C a).bal < ballotI (P q)) :
    Inv me life (upd P q (PS.prom (P q) a (C a).bal (C a).val)) C V N := by
  obtain ⟨s, hs'⟩ : ∃ s, s = PS.prom (P q) a (C a).bal (C a).val := ⟨_, rfl⟩
  rw [← hs']
  have e1 : s.kn = (P q).kn ∧ s.wa = (P q).wa ∧ s.me = (P q).me ∧ s.life = (P q).life ∧ s.round = (P q).round := by rw [hs']; exact ⟨rfl, rfl, rfl, rfl, rfl⟩
  have eb : ballotI s = ballotI (P q) := by unfold ballotI; rw [e1.2.2.1, e1.2.2.2.1, e1.2.2.2.2]
  have hno : ∀ j v, ¬ V j (ballotI (P q)) v := fun j v e => by have := (h.v6 j _ v q hq e rfl).1; rw [hs] at this; cases this
  obtain ⟨y1, y2, y3, y4, y5, y6⟩ := h.v2 a ha
  have hbest : s.best = if (P q).best < (C a).bal then (C a).bal else (P q).best := by rw [hs']; rfl
  have hval : s.val = if (P q).best < (C a).bal then (C a).val else (P q).val := by rw [hs']; rfl
  have hp3 := h.p3 q hq
  have hb1 : (C a).bal ≤ s.best ∧ (P q).best ≤ s.best := by rw [hbest]; split <;> omega
  have key : ∀ (X : Nat → PS → Prop), (∀ j, j < 4 → j ≠ q → X j (P j)) → X q s → ∀ j, j < 4 → X j (upd P q s j) := by
    intro X h1 h2 j hj
    by_cases e : j = q
    · subst e; rw [upd_same]; exact h2
    · rw [upd_ne _ _ e]; exact h1 j hj e
  refine ⟨key (fun j s => s.kn = firstV ∧ s.wa = wantV (me j) (life j) ∧ s.me = me j ∧ s.life = life j) (fun j hj _ => h.pk j hj) (by rw [e1.1, e1.2.1, e1.2.2.1, e1.2.2.2.1]; exact h.pk q hq), key (fun j s => 0 ≤ s.round ∧ s.round ≤ N) (fun j hj _ => h.rd j hj) (by rw [e1.2.2.2.2]; exact h.rd q hq), h.v1, h.v2, h.v3, h.v4, fun x b v e => ?_, ?_, h.v7, ?_, ?_, ?_, ?_, ?_, ?_⟩
  · obtain ⟨q', r, x1, x2, x3, x4⟩ := h.v5 x b v e
    refine ⟨q', r, x1, x2, ?_, x4⟩
    by_cases e : q' = q
    · subst e; rw [upd_same, e1.2.2.2.2]; exact x3
    · rw [upd_ne _ _ e]; exact x3
  · exact fun x b v j hj e => key (fun j s => b = ballotI s → s.sec = true ∧ v = s.val) (fun j hj _ => h.v6 x b v j hj e) (fun e2 => absurd (by rw [e2, eb] at e; exact e) (hno x v)) j hj
  · exact key (fun j s => s.round = 0 → s = fresh firstV (wantV (me j) (life j)) (me j) (life j)) (fun j hj _ => h.p0 j hj) (fun e => absurd (e1.2.2.2.2 ▸ e) hr)
  · refine key (fun j s => s.round ≠ 0 → Good s.val) (fun j hj _ => h.p1 j hj) (fun _ => ?_)
    rw [hval]
    split
    · rcases y6 with ⟨z1, z2⟩ | z1
      · omega
      · exact h.v7 _ _ _ z1
    · exact h.p1 q hq hr
  · refine fun j x hj hx => key (fun j s => yes s x = true → ballotI s ≤ (C x).most ∧ ∀ c v, V x c v → c < ballotI s → c ≤ s.best) (fun j hj _ => h.p2 j x hj hx) (fun e => ?_) j hj
    rw [eb]
    rw [hs', yes_prom _ _ _ ha hx, Bool.or_eq_true, beq_iff_eq] at e
    rcases e with e | e
    · obtain ⟨z1, z2⟩ := h.p2 q x hq hx e
      exact ⟨z1, fun c v e1 e2 => by have := z2 c v e1 e2; omega⟩
    · subst e
      exact ⟨hb, fun c v e1 e2 => by have := y5 c v e1; omega⟩
  · refine key (fun j s => 0 ≤ s.best ∧ (s.best = 0 ∨ ∃ a, V a s.best s.val ∧ s.best < ballotI s)) (fun j hj _ => h.p3 j hj) ⟨by omega, ?_⟩
    rw [eb, hbest, hval]
    split
    · rcases y6 with ⟨z1, z2⟩ | z1
      · omega
      · exact .inr ⟨a, z1, hlt⟩
    · exact hp3.2
  · exact key (fun j s => s.sec = true → s.round ≠ 0 ∧ ∃ a1 a2, a1 < 3 ∧ a2 < 3 ∧ a1 ≠ a2 ∧ yes s a1 = true ∧ yes s a2 = true) (fun j hj _ => h.p4 j hj) (fun e => ⟨by rw [e1.2.2.2.2]; exact hr, by rw [hs'] at e ⊢; exact sec_prom _ _ _ _ e⟩)
  · refine fun j x hj hx => key (fun j s => tk s x = true → V x (ballotI s) s.val) (fun j hj _ => h.p5 j x hj hx) (fun e => ?_) j hj
    have e2 : tk (P q) x = true := by rw [hs'] at e; exact e
    exact absurd (h.p5 q x hq hx e2) (hno x _)

/-- A proposer begins a ballot. -/
theorem Inv.start {me life : Nat → Int} {P : Nat → PS} {C : Nat → Ce} {V : Votes} {N : Int} (hw : Who me life) (h : Inv me life P C V N) {q : Nat} (hq : q < 4) (s : PS) (r' : Int) (hs : s = ⟨(P q).kn, (P q).wa, (P q).me, (P q).life, r', false, false, false, false, false, false, 0, (P q).wa, false⟩) (h1 : (P q).round < r') (h2 : r' ≤ N + 1) :
    Inv me life (upd P q s) C V (N + 1) := by
  obtain ⟨r0, r1⟩ := h.rd q hq
  obtain ⟨k1, k2, k3, k4⟩ := h.pk q hq
  have eb : ballotI s = enc r' (life q) (me q) := by
    unfold ballotI enc
    rw [hs]
    show (if r' = 0 then 0 else r' * 4294967296 + (P q).life * 2 + (P q).me) = _
    rw [if_neg (by omega), k3, k4]
  have hno : ∀ j v, ¬ V j (ballotI s) v := fun j v e => by
    obtain ⟨q', r, x1, x2, x3, x4⟩ := h.v5 j _ v e
    rw [eb] at x4
    obtain ⟨rfl, rfl⟩ := enc_inj hw hq x1 x4
    omega
  have key : ∀ (X : Nat → PS → Prop), (∀ j, j < 4 → j ≠ q → X j (P j)) → X q s → ∀ j, j < 4 → X j (upd P q s j) := by
    intro X h1 h2 j hj
    by_cases e : j = q
    · subst e; rw [upd_same]; exact h2
    · rw [upd_ne _ _ e]; exact h1 j hj e
  have f1 : s.sec = false := by rw [hs]
  have f2 : ∀ x, yes s x = false := fun x => by rw [hs]; unfold yes; simp
  have f3 : ∀ x, tk s x = false := fun x => by rw [hs]; unfold tk; simp
  refine ⟨key (fun j s => s.kn = firstV ∧ s.wa = wantV (me j) (life j) ∧ s.me = me j ∧ s.life = life j) (fun j hj _ => h.pk j hj) (by rw [hs]; exact h.pk q hq), key (fun j s => 0 ≤ s.round ∧ s.round ≤ N + 1) (fun j hj _ => by have := h.rd j hj; omega) (by rw [hs]; exact ⟨by show 0 ≤ r'; omega, h2⟩), h.v1, fun a ha => ?_, h.v3, h.v4, fun x b v e => ?_, ?_, h.v7, ?_, ?_, ?_, ?_, ?_, ?_⟩
  · obtain ⟨y1, y2, y3, y4, y5, y6⟩ := h.v2 a ha
    exact ⟨y1, by omega, y3, y4, y5, y6⟩
  · obtain ⟨q', r, x1, x2, x3, x4⟩ := h.v5 x b v e
    refine ⟨q', r, x1, x2, ?_, x4⟩
    by_cases e : q' = q
    · subst e; rw [upd_same, hs]; show r ≤ r'; omega
    · rw [upd_ne _ _ e]; exact x3
  · exact fun x b v j hj e => key (fun j s => b = ballotI s → s.sec = true ∧ v = s.val) (fun j hj _ => h.v6 x b v j hj e) (fun e2 => absurd (by rw [e2] at e; exact e) (hno x v)) j hj
  · exact key (fun j s => s.round = 0 → s = fresh firstV (wantV (me j) (life j)) (me j) (life j)) (fun j hj _ => h.p0 j hj) (fun e => by rw [hs] at e; have e2 : r' = 0 := e; omega)
  · refine key (fun j s => s.round ≠ 0 → Good s.val) (fun j hj _ => h.p1 j hj) (fun _ => ?_)
    rw [hs]
    obtain ⟨m0, m1⟩ := hw.m q hq
    obtain ⟨l0, l1⟩ := hw.l q hq
    exact ⟨me q, life q, k2, m0, m1, l0, l1⟩
  · exact fun j x hj hx => key (fun j s => yes s x = true → ballotI s ≤ (C x).most ∧ ∀ c v, V x c v → c < ballotI s → c ≤ s.best) (fun j hj _ => h.p2 j x hj hx) (fun e => by rw [f2] at e; cases e) j hj
  · exact key (fun j s => 0 ≤ s.best ∧ (s.best = 0 ∨ ∃ a, V a s.best s.val ∧ s.best < ballotI s)) (fun j hj _ => h.p3 j hj) (by rw [hs]; exact ⟨Int.le_refl _, .inl rfl⟩)
  · exact key (fun j s => s.sec = true → s.round ≠ 0 ∧ ∃ a1 a2, a1 < 3 ∧ a2 < 3 ∧ a1 ≠ a2 ∧ yes s a1 = true ∧ yes s a2 = true) (fun j hj _ => h.p4 j hj) (fun e => by rw [f1] at e; cases e)
  · exact fun j x hj hx => key (fun j s => tk s x = true → V x (ballotI s) s.val) (fun j hj _ => h.p5 j x hj hx) (fun e => by rw [f3] at e; cases e) j hj

/-- What a proposer lets be taken is safe. -/
theorem Inv.safe {me life : Nat → Int} {P : Nat → PS} {C : Nat → Ce} {V : Votes} {N : Int} (hw : Who me life) (h : Inv me life P C V N) {q : Nat} (hq : q < 4) (hs : (P q).sec = true) : Safe C V (P q).val (ballotI (P q)) := by
  obtain ⟨hr, a1, a2, l1, l2, hne, e1, e2⟩ := h.p4 q hq hs
  obtain ⟨m1, n1⟩ := h.p2 q a1 hq l1 e1
  obtain ⟨m2, n2⟩ := h.p2 q a2 hq l2 e2
  obtain ⟨b0, hbest⟩ := h.p3 q hq
  intro c c0 hc
  by_cases hcb : c < (P q).best
  · rcases hbest with z | ⟨a, z1, z2⟩
    · omega
    · exact h.v3 a _ _ z1 c c0 hcb
  · have same : ∀ (a : Nat) v', a < 3 → (∀ c v, V a c v → c < ballotI (P q) → c ≤ (P q).best) → V a c v' → v' = (P q).val := by
      intro a v' ha hn e
      have := hn c v' e hc
      have hce : c = (P q).best := by omega
      rcases hbest with z | ⟨a', z1, z2⟩
      · omega
      · rw [← hce] at z1
        exact h.v4 a c v' a' _ e z1
    exact ⟨a1, a2, hne, ⟨l1, by omega, fun v' e => same a1 v' l1 n1 e⟩, ⟨l2, by omega, fun v' e => same a2 v' l2 n2 e⟩⟩

/-- An arbiter takes a view. -/
theorem Inv.accept {me life : Nat → Int} {P : Nat → PS} {C : Nat → Ce} {V : Votes} {N : Int} (hw : Who me life) (h : Inv me life P C V N) {q a : Nat} (hq : q < 4) (ha : a < 3) (hs : (P q).sec = true) (hb : (C a).most ≤ ballotI (P q)) :
    Inv me life P (upd C a ⟨ballotI (P q), ballotI (P q), (P q).val⟩) (fun j c v => V j c v ∨ (j = a ∧ c = ballotI (P q) ∧ v = (P q).val)) N := by
  have hr := (h.p4 q hq hs).1
  have hbp := bal_pos hw h hq hr
  have hm : ∀ j, j < 3 → (C j).most ≤ (upd C a ⟨ballotI (P q), ballotI (P q), (P q).val⟩ j).most := by
    intro j hj
    by_cases e : j = a
    · subst e; rw [upd_same]; exact hb
    · rw [upd_ne _ _ e]; omega
  have hV : ∀ (j : Nat) (c : Int) (v' : Vw), j < 3 → c < (C j).most → (V j c v' ∨ (j = a ∧ c = ballotI (P q) ∧ v' = (P q).val)) → V j c v' := by
    intro j c v' hj hc e
    rcases e with e | ⟨rfl, rfl, rfl⟩
    · exact e
    · omega
  refine ⟨h.pk, h.rd, ?_, ?_, ?_, ?_, ?_, ?_, ?_, h.p0, h.p1, ?_, ?_, h.p4, fun j x hj hx e => .inl (h.p5 j x hj hx e)⟩
  · rintro j b v (e | ⟨rfl, rfl, rfl⟩)
    · obtain ⟨x1, x2, x3⟩ := h.v1 j b v e
      exact ⟨x1, x2, Int.le_trans x3 (hm j x1)⟩
    · rw [upd_same]; exact ⟨ha, by omega, Int.le_refl _⟩
  · intro j hj
    obtain ⟨y1, y2, y3, y4, y5, y6⟩ := h.v2 j hj
    by_cases e : j = a
    · subst e
      rw [upd_same]
      refine ⟨by show (0 : Int) ≤ ballotI (P q); omega, hbp.2, by show (0 : Int) ≤ ballotI (P q); omega, Int.le_refl _, ?_, .inr (.inr ⟨rfl, rfl, rfl⟩)⟩
      rintro b v (e | ⟨-, rfl, -⟩)
      · have := y5 b v e; show b ≤ ballotI (P q); omega
      · exact Int.le_refl _
    · rw [upd_ne _ _ e]
      refine ⟨y1, y2, y3, y4, ?_, y6.imp id .inl⟩
      rintro b v (e2 | ⟨e2, -, -⟩)
      · exact y5 b v e2
      · exact absurd e2 e
  · rintro j b v (e | ⟨rfl, rfl, rfl⟩)
    · exact (h.v3 j b v e).mono hm hV
    · exact (h.safe hw hq hs).mono hm hV
  · rintro j b v j' v' (e | ⟨rfl, rfl, rfl⟩) (e' | ⟨rfl, e2, rfl⟩)
    · exact h.v4 j b v j' v' e e'
    · exact (h.v6 j b v q hq e e2).2
    · exact (h.v6 j' _ v' q hq e' rfl).2.symm
    · rfl
  · rintro j b v (e | ⟨rfl, rfl, rfl⟩)
    · exact h.v5 j b v e
    · exact ⟨q, (P q).round, hq, by have := h.rd q hq; omega, Int.le_refl _, bal_enc h hq hr⟩
  · rintro j b v q' hq' (e | ⟨rfl, rfl, rfl⟩) e2
    · exact h.v6 j b v q' hq' e e2
    · by_cases hr' : (P q').round = 0
      · have : ballotI (P q') = 0 := by unfold ballotI; rw [if_pos hr']
        omega
      · rw [bal_enc h hq hr, bal_enc h hq' hr'] at e2
        obtain ⟨rfl, -⟩ := enc_inj hw hq hq' e2
        exact ⟨hs, rfl⟩
  · rintro j b v (e | ⟨rfl, rfl, rfl⟩)
    · exact h.v7 j b v e
    · exact h.p1 q hq hr
  · intro q' j h1 h2 h3
    obtain ⟨x1, x2⟩ := h.p2 q' j h1 h2 h3
    refine ⟨Int.le_trans x1 (hm j h2), ?_⟩
    rintro c v (e | ⟨rfl, rfl, rfl⟩) hc
    · exact x2 c v e hc
    · omega
  · intro q' hq'
    obtain ⟨x1, x2⟩ := h.p3 q' hq'
    exact ⟨x1, x2.imp id (fun ⟨x, e1, e2⟩ => ⟨x, .inl e1, e2⟩)⟩

/-- A proposer notes that its view was taken. -/
theorem Inv.noted {me life : Nat → Int} {P : Nat → PS} {C : Nat → Ce} {V : Votes} {N : Int} (h : Inv me life P C V N) {q a : Nat} (hq : q < 4) (ha : a < 3) (hs : (P q).sec = true) (hv : V a (ballotI (P q)) (P q).val) :
    Inv me life (upd P q (PS.take (P q) a)) C V N := by
  have hr := (h.p4 q hq hs).1
  obtain ⟨s, hs'⟩ : ∃ s, s = PS.take (P q) a := ⟨_, rfl⟩
  rw [← hs']
  have e1 : s.kn = (P q).kn ∧ s.wa = (P q).wa ∧ s.me = (P q).me ∧ s.life = (P q).life ∧ s.round = (P q).round := by rw [hs']; exact ⟨rfl, rfl, rfl, rfl, rfl⟩
  have e2 : s.best = (P q).best ∧ s.val = (P q).val ∧ s.sec = (P q).sec ∧ ∀ x, yes s x = yes (P q) x := by rw [hs']; exact ⟨rfl, rfl, rfl, fun _ => rfl⟩
  have eb : ballotI s = ballotI (P q) := by unfold ballotI; rw [e1.2.2.1, e1.2.2.2.1, e1.2.2.2.2]
  have key : ∀ (X : Nat → PS → Prop), (∀ j, j < 4 → j ≠ q → X j (P j)) → X q s → ∀ j, j < 4 → X j (upd P q s j) := by
    intro X h1 h2 j hj
    by_cases e : j = q
    · subst e; rw [upd_same]; exact h2
    · rw [upd_ne _ _ e]; exact h1 j hj e
  refine ⟨key (fun j s => s.kn = firstV ∧ s.wa = wantV (me j) (life j) ∧ s.me = me j ∧ s.life = life j) (fun j hj _ => h.pk j hj) (by rw [e1.1, e1.2.1, e1.2.2.1, e1.2.2.2.1]; exact h.pk q hq), key (fun j s => 0 ≤ s.round ∧ s.round ≤ N) (fun j hj _ => h.rd j hj) (by rw [e1.2.2.2.2]; exact h.rd q hq), h.v1, h.v2, h.v3, h.v4, fun x b v e => ?_, ?_, h.v7, ?_, ?_, ?_, ?_, ?_, ?_⟩
  · obtain ⟨q', r, x1, x2, x3, x4⟩ := h.v5 x b v e
    refine ⟨q', r, x1, x2, ?_, x4⟩
    by_cases e : q' = q
    · subst e; rw [upd_same, e1.2.2.2.2]; exact x3
    · rw [upd_ne _ _ e]; exact x3
  · exact fun x b v j hj e => key (fun j s => b = ballotI s → s.sec = true ∧ v = s.val) (fun j hj _ => h.v6 x b v j hj e) (by rw [eb, e2.2.1, e2.2.2.1]; exact h.v6 x b v q hq e) j hj
  · exact key (fun j s => s.round = 0 → s = fresh firstV (wantV (me j) (life j)) (me j) (life j)) (fun j hj _ => h.p0 j hj) (fun e => absurd (e1.2.2.2.2 ▸ e) hr)
  · exact key (fun j s => s.round ≠ 0 → Good s.val) (fun j hj _ => h.p1 j hj) (by rw [e2.2.1]; exact fun _ => h.p1 q hq hr)
  · exact fun j x hj hx => key (fun j s => yes s x = true → ballotI s ≤ (C x).most ∧ ∀ c v, V x c v → c < ballotI s → c ≤ s.best) (fun j hj _ => h.p2 j x hj hx) (by rw [eb, e2.1, e2.2.2.2]; exact h.p2 q x hq hx) j hj
  · exact key (fun j s => 0 ≤ s.best ∧ (s.best = 0 ∨ ∃ a, V a s.best s.val ∧ s.best < ballotI s)) (fun j hj _ => h.p3 j hj) (by rw [eb, e2.1, e2.2.1]; exact h.p3 q hq)
  · exact key (fun j s => s.sec = true → s.round ≠ 0 ∧ ∃ a1 a2, a1 < 3 ∧ a2 < 3 ∧ a1 ≠ a2 ∧ yes s a1 = true ∧ yes s a2 = true) (fun j hj _ => h.p4 j hj) (by rw [e1.2.2.2.2, e2.2.2.1]; simp only [e2.2.2.2]; exact h.p4 q hq)
  · refine fun j x hj hx => key (fun j s => tk s x = true → V x (ballotI s) s.val) (fun j hj _ => h.p5 j x hj hx) (fun e => ?_) j hj
    rw [eb, e2.2.1]
    rw [hs', tk_take _ _ _ ha hx, Bool.or_eq_true, beq_iff_eq] at e
    rcases e with e | e
    · exact h.p5 q x hq hx e
    · subst e; exact hv
theorem takes_chosen {me life : Nat → Int} {P : Nat → PS} {C : Nat → Ce} {V : Votes} {N : Int} (h : Inv me life P C V N) {q a : Nat} (hq : q < 4) (ha : a < 3) (hv : V a (ballotI (P q)) (P q).val) (ht : PS.takes (P q) a = true) : Chosen V (P q).val := by
  have h1 : cnt ((P q).t0 || a == 0) ((P q).t1 || a == 1) ((P q).t2 || a == 2) = 2 := of_decide_eq_true ht
  have hx : ∀ x, x < 3 → (tk (P q) x || x == a) = true → V x (ballotI (P q)) (P q).val := by
    intro x hx e
    rw [Bool.or_eq_true, beq_iff_eq] at e
    rcases e with e | e
    · exact h.p5 q x hq hx e
    · subst e; exact hv
  have hc : ∀ x, (a == x) = (x == a) := fun x => by rw [Bool.eq_iff_iff, beq_iff_eq, beq_iff_eq]; exact ⟨Eq.symm, Eq.symm⟩
  rcases two_of _ _ _ (by omega : 1 < cnt ((P q).t0 || a == 0) ((P q).t1 || a == 1) ((P q).t2 || a == 2)) with ⟨e1, e2⟩ | ⟨e1, e2⟩ | ⟨e1, e2⟩ <;> rw [hc] at e1 e2
  · exact ⟨_, 0, 1, by omega, by omega, by omega, hx 0 (by omega) e1, hx 1 (by omega) e2⟩
  · exact ⟨_, 0, 2, by omega, by omega, by omega, hx 0 (by omega) e1, hx 2 (by omega) e2⟩
  · exact ⟨_, 1, 2, by omega, by omega, by omega, hx 1 (by omega) e1, hx 2 (by omega) e2⟩
theorem Chosen.mono {V V' : Votes} {v : Vw} (h : Chosen V v) (hv : ∀ a b v, V a b v → V' a b v) : Chosen V' v := by
  obtain ⟨b, a1, a2, l1, l2, hne, e1, e2⟩ := h
  exact ⟨b, a1, a2, l1, l2, hne, hv _ _ _ e1, hv _ _ _ e2⟩
/-- At first. -/
theorem Inv.none {me life : Nat → Int} (hw : Who me life) : Inv me life (fun q => fresh firstV (wantV (me q) (life q)) (me q) (life q)) (fun _ => ⟨0, 0, zeroV⟩) (fun _ _ _ => False) 0 := by
  refine ⟨fun q _ => ⟨rfl, rfl, rfl, rfl⟩, fun q _ => ⟨Int.le_refl _, Int.le_refl _⟩, fun _ _ _ e => e.elim, fun a _ => ⟨Int.le_refl _, by show (0 : Int) < _; omega, Int.le_refl _, Int.le_refl _, fun _ _ e => e.elim, .inl ⟨rfl, rfl⟩⟩, fun _ _ _ e => e.elim, fun _ _ _ _ _ e => e.elim, fun _ _ _ e => e.elim, fun _ _ _ _ _ e => e.elim, fun _ _ _ e => e.elim, fun _ _ _ => rfl, fun _ _ e => absurd rfl e, fun q a _ _ e => ?_, fun _ _ => ⟨Int.le_refl _, .inl rfl⟩, fun _ _ e => (by cases e), fun q a _ _ e => ?_⟩
  · unfold yes fresh at e; simp at e
  · unfold tk fresh at e; simp at e

end Go.Proofs.Ytppnjkiegiokeaa.QuoX
