/-
  Layer 6 (ring): Front.
-/
import Derived.Test.YtebjbkpgicbgeaaRinF
namespace Go.Proofs.Ytebjbkpgicbgeaa.RinG
set_option linter.unusedVariables false
set_option linter.unusedSimpArgs false
set_option maxRecDepth 100000
open Go.RowKit Go.Proofs.Ytebjbkpgicbgeaa.Mem Go.Proofs.Ytebjbkpgicbgeaa.RinM Go.Proofs.Ytebjbkpgicbgeaa.RinP Go.Proofs.Ytebjbkpgicbgeaa.RinW Go.Proofs.Ytebjbkpgicbgeaa.RinL Go.Proofs.Ytebjbkpgicbgeaa.RinF

/-- Is a key in a list? -/
def hasK (x : ByteArray) (K : Keys) : Bool := K.flatten.any fun y => decide (y = x)
theorem hasK_iff (x : ByteArray) (K : Keys) : hasK x K = true ↔ x ∈ K.flatten := by
  unfold hasK
  rw [List.any_eq_true]
  constructor
  · rintro ⟨y, hy, e⟩
    rw [← of_decide_eq_true e]; exact hy
  · intro h
    exact ⟨x, h, decide_eq_true rfl⟩
/-- A key goes to the front of a list. -/
def frontK (n k : Nat) (i : Int) (x : ByteArray) (K : Keys) : Keys × Bool :=
  if ¬ (0 ≤ i ∧ i < (n : Int)) ∨ 64 < x.size then (K, false)
  else if hasK x K = true then (pushK i.toNat x (remK x K), true)
  else if k ≤ K.flatten.length then (K, false)
  else (pushK i.toNat x K, true)

theorem front_no {w : World} {F : Nat → Prop} {b n k T : Nat} {K : Keys} (h : Ring w F b n k T K) (i : Int) (x : ByteArray) (hi : ¬ (0 ≤ i ∧ i < (n : Int)) ∨ 64 < x.size) :
    Calls Try.prog 33 #[.pointer (some ⟨b, 0, none⟩), .int .i64 i, .string x] w fun e w' => e = .returned (.bool false) ∧ w = w' := by
  by_cases h1 : 0 ≤ i ∧ i < (n : Int)
  · have hx : 64 < x.size := hi.resolve_left (fun e => e h1)
    obtain ⟨i, rfl⟩ : ∃ j : Nat, i = (j : Int) := ⟨i.toNat, by omega⟩
    have HI := Lib.hid (is_yes h i (by omega))
    have hx' : (64 : Int) < (x.size : Int) := by omega
    clear h hi h1
    go_enter Try.func33, Try.ntmps33
    go_wp2_with (go_at_call 47; refine HI.out.mono ?_; rintro e w1 ⟨rfl, rfl⟩)
    go_ret
    exact ⟨rfl, rfl⟩
  · have HI := Lib.hid (is_no h i h1)
    clear h hi h1
    go_enter Try.func33, Try.ntmps33
    go_wp2_with (go_at_call 47; refine HI.out.mono ?_; rintro e w1 ⟨rfl, rfl⟩)
    go_ret
    exact ⟨rfl, rfl⟩

theorem lens_rem_set {n k a m : Nat} {sl : List Sl} {fr : List Nat} {L : List (List Nat)} {M : ByteArray → Option Nat} (h : Inv n k sl fr L M) (ha : a ∈ L.flatten) (hm : (lens L)[(gt sl a).ls]? = some m) : (lens L).set (gt sl a).ls (m - 1) = lens (rem a L) := by
  rw [lens_rem h ha, modify_set _ _ m _ hm]
theorem lens_push_set {i a m : Nat} {L : List (List Nat)} (hm : (lens L)[i]? = some m) : (lens L).set i (m + 1) = lens (push i a L) := by
  rw [lens_push, modify_set _ _ m _ hm]

set_option maxRecDepth 100000 in
set_option maxHeartbeats 4000000 in
theorem front_in {w : World} {F : Nat → Prop} {b n k T : Nat} {K : Keys} (h : Ring w F b n k T K) (i : Nat) (hi : i < n) (x : ByteArray) (hx : x.size ≤ 64) (hxK : x ∈ K.flatten) :
    Calls Try.prog 33 #[.pointer (some ⟨b, 0, none⟩), .int .i64 (i : Int), .string x] w fun e w' => e = .returned (.bool true) ∧ Ring w' F b n k T (pushK i x (remK x K)) ∧ Keep F w w' := by
  have HI := Lib.hid (is_yes h i hi)
  obtain ⟨sl, fr, M, gs, gm, mb, v, L, h1, h2, h3⟩ := h
  rw [← h3, h2.mem x] at hxK
  obtain ⟨a, hM⟩ := Option.isSome_iff_exists.1 hxK
  obtain ⟨haf, hka⟩ := h2.m2 x a hM
  obtain ⟨j, l1, l2, hj, hjn, hls, hr1, hr2, hnd, -, -, hpl, hql⟩ := h2.place haf
  have hm := lens_at hj
  rw [← hls] at hm
  have hlen : (l1 ++ a :: l2).length ≤ k := by
    have e1 := h2.cnt
    have e2 : (l1 ++ a :: l2).length ≤ L.flatten.length := (List.sublist_flatten_of_mem (List.mem_of_getElem? hj)).length_le
    rw [List.length_append] at e1
    omega
  have hN := h1.hN
  have hc := cut_any h1 a _ hr2 hpl hql (by rw [hls]; exact hjn) hm (by simp; omega) (by omega)
  rw [lens_rem_set h2 haf hm] at hc
  have i2 := h2.cut hM
  obtain ⟨lr, hlr⟩ : ∃ lr, (rem a L)[i]? = some lr := ⟨(rem a L)[i]'(by rw [i2.lL]; exact hi), List.getElem?_eq_getElem _⟩
  have hq2 := (inv_head i2 hlr).2.2
  have hm2 := lens_at hlr
  have hkc : ky (cutS sl a) a = x := by
    rw [(cut_gt sl a (by rw [h2.lsl]; exact hpl) (by rw [h2.lsl]; exact hql) a).2.2.1]; exact hka
  have i3 : Inv n k (linkS (cutS sl a) a i) fr (push i a (rem a L)) M := (i2.link hi hkc (by simp)).ext (fun y => by
    by_cases e : y = x
    · rw [if_pos e, e, hM]
    · rw [if_neg e, if_neg e])
  have hlr2 : lr.length ≤ 100000 := by
    have e1 := i2.cnt
    have e2 : lr.length ≤ (rem a L).flatten.length := (List.sublist_flatten_of_mem (List.mem_of_getElem? hlr)).length_le
    rw [List.length_append] at e1
    omega
  have hkey : keysOf (linkS (cutS sl a) a i) (push i a (rem a L)) = pushK i x (remK x K) := by
    rw [keysOf_congr (sl := cutS sl a), keysOf_push, hkc, keysOf_congr (sl := sl), keysOf_rem h2 hM, h3]
    · intro y hy
      exact (cut_gt sl a (by rw [h2.lsl]; exact hpl) (by rw [h2.lsl]; exact hql) y).2.2.1
    · intro y hy
      have hnf : a ∉ (rem a L).flatten := fun e => (List.nodup_append.1 i2.nd).2.2 a (by simp) a e rfl
      refine (link_gt (cutS sl a) a i (by rw [i2.lsl]; exact hq2) (by rw [i2.lsl]; omega) (by rw [i2.lsl]; exact hr2) (by omega) ?_ y).2.2.1
      intro e
      cases lr with
      | nil => rw [(inv_head i2 hlr).2.1 rfl] at e; omega
      | cons c r => rw [(inv_head i2 hlr).1 c r rfl] at e; exact hnf (mem_flat.2 ⟨i, _, hlr, by rw [e]; simp⟩)
  have lk := h1.c.look x (by unfold maxLen; omega)
  rw [hM] at lk
  simp only [Option.getD_some, Option.isSome_some] at lk
  have c3 : w.cell? ⟨b, 3, none⟩ = some (.map (some mb)) := cell_at h1.h 3
  have hx' : (x.size : Int) ≤ 64 := by omega
  have HC := Lib.hid hc
  have I3 := Lib.hid i3
  have HK := Lib.hid hkey
  have HM2 := Lib.hid hm2
  have hinN : i < n + k := by omega
  clear h1 h2 h3 hM haf hka hj hjn hls hr1 hnd hpl hql hm hlen hc i2 hlr hkc i3 hkey hm2 hxK
  go_enter Try.func33, Try.ntmps33
  go_wp2_with (first
    | (go_at_call 47; refine HI.out.mono ?_; rintro e w1 ⟨rfl, rfl⟩)
    | (go_at_call 48; refine HC.out.mono ?_; rintro e w1 ⟨rfl, r1, k1⟩
       replace r1 := Lib.hid r1
       have HL := Lib.hid (link_any r1.out a i _ hr2 hi (by omega) hq2 HM2.out hlr2)
       rw [lens_push_set (a := a) HM2.out] at HL)
    | (go_at_call 49; refine HL.out.mono ?_; rintro e w2 ⟨rfl, r2, k2⟩; replace r2 := Lib.hid r2))
  go_ret
  exact ⟨rfl, ⟨_, _, _, _, _, _, _, _, r2.out, I3.out, HK.out⟩, k1.trans k2⟩

end Go.Proofs.Ytebjbkpgicbgeaa.RinG
