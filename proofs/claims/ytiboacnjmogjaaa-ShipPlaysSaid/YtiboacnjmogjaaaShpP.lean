/-
  Layer 19 (ship): whatever happens, just those records are sent that the document says.
-/
import Derived.Test.YtiboacnjmogjaaaShpA
import Derived.Test.YtiboacnjmogjaaaOpen
import Derived.Test.YtiboacnjmogjaaaMask
namespace Go.Proofs.Ytiboacnjmogjaaa.ShpP
set_option linter.unusedVariables false
set_option linter.unusedSimpArgs false
open Go.RowKit Go.Proofs.Ytiboacnjmogjaaa.Mem Go.Proofs.Ytiboacnjmogjaaa.Open Go.Proofs.Ytiboacnjmogjaaa.Mask Go.Proofs.Ytiboacnjmogjaaa.LogW Go.Proofs.Ytiboacnjmogjaaa.LogV Go.Proofs.Ytiboacnjmogjaaa.LogU Go.Proofs.Ytiboacnjmogjaaa.LogL Go.Proofs.Ytiboacnjmogjaaa.ShpW Go.Proofs.Ytiboacnjmogjaaa.ShpA

/-- What happens: of which kind, at which place. -/
structure Ac where
  kind : Int
  at_ : Int
def Ac.cells (x : Ac) : List Value := [.int .i64 x.kind, .int .u64 x.at_]
def Acs (W : World) (v : Value) (l : List Ac) : Prop := Reads W 2 v (l.map Ac.cells) ∧ ∀ x ∈ l, (Lit.int .u64 x.at_).wf = true
theorem Acs.form {W : World} {v : Value} {l : List Ac} (h : Acs W v l) :
    ∃ ao cap, v = .slice ao l.length cap ∧ l.length ≤ 9223372036854775807 ∧ (l = [] ∨ ∃ g off, ao = some ⟨g, off, none⟩ ∧ g < W.heap.size ∧ ∀ (i : Nat) (x : Ac), l[i]? = some x → W.cell? ⟨g, off + i * 2, none⟩ = some (.int .i64 x.kind) ∧ W.cell? ⟨g, off + i * 2 + 1, none⟩ = some (.int .u64 x.at_)) := by
  obtain ⟨⟨ao, cap, h1, h2, h3, h4⟩, h5⟩ := h
  rw [List.length_map] at h1 h2
  refine ⟨ao, cap, h1, h2, ?_⟩
  rcases h4 with h4 | ⟨g, off, h6, h7, h8⟩
  · exact .inl (by simpa using h4)
  · refine .inr ⟨g, off, h6, h7, fun i x hx => ?_⟩
    have e : (l.map Ac.cells)[i]? = some (Ac.cells x) := by rw [List.getElem?_map, hx]; rfl
    exact ⟨h8 i _ e 0 _ rfl, h8 i _ e 1 _ rfl⟩

theorem c_int : Try.prog.cellsOf 3 = 1 := by kernel_rfl
theorem c_u64 : Try.prog.cellsOf 26 = 1 := by kernel_rfl
theorem c_act : Try.prog.cellsOf 31 = 2 := by kernel_rfl
theorem acs_open {H : Type} {enc : TypeId × Value → H} {W : World} {base b0 : Nat} {spare : Nat → Bool} {held : Bool} {r : Reach} {v : Value} {d : DataW H} {p : List MemPlace}
    (hv : Value.okWide Try.prog W r b0 22 v) (h : DataW.Trod enc Try.prog W base spare held 22 v d p) : ∃ l : List Ac, Acs W v l := by
  obtain ⟨els, h1, h2⟩ := slice_open Try.underlying22 (by rw [c_act]; omega) hv h
  rw [c_act] at h1
  obtain ⟨l, rfl, hl⟩ := els_map_of (f := Ac.cells) (q := fun x => (Lit.int .u64 x.at_).wf = true) (els := els) (fun cs hcs => by
    obtain ⟨hlen, n, x, hx⟩ := h2 cs hcs
    rw [c_act] at hlen
    obtain ⟨xs, m, _, _, _, hxl, hg⟩ := DataW.trod_struct Try.underlying31 hx
    have hxl' : xs.length = 2 := hxl
    match cs, hlen with
    | [c0, c1], _ =>
      have g0 := hg 0
      have g1 := hg 1
      simp [c_int, c_u64] at g0 g1
      rw [List.getElem?_eq_getElem (by omega)] at g0 g1
      obtain ⟨a, e0, _, w0⟩ := DataW.trod_int Try.underlying3 g0
      obtain ⟨b, e1, _, w1⟩ := DataW.trod_int Try.underlying26 g1
      simp only [List.cons.injEq, and_true] at e0 e1
      subst e0 e1
      exact ⟨⟨a, b⟩, rfl, w1⟩)
  exact ⟨l, h1, hl⟩

theorem cast_add (s m : Nat) : Value.int .u64 ((s : Int) + m) = .int .u64 ((s + m : Nat) : Int) := by congr 1

set_option maxRecDepth 100000 in
set_option maxHeartbeats 8000000 in
theorem shipPlays_walk (v : Value) (w : World) (hv : ∃ l, Acs w v l) :
    Calls Try.prog 3 #[v] w fun e w' => e = .returned (.bool true) ∧ Below w.heap.size w w' := by
  obtain ⟨l, hl⟩ := hv
  obtain ⟨ao, cap, rfl, hlen, hc⟩ := hl.form
  have hwf := hl.2
  clear hl
  have HC := Lib.hid hc
  have HW := Lib.hid hwf
  clear hc hwf
  obtain ⟨len, hl⟩ : ∃ len, len = l.length := ⟨_, rfl⟩
  rw [← hl] at hlen
  simp only [← hl]
  replace hl := Lib.hid hl
  go_enter Try.func3, Try.ntmps3
  go_wp2_with fail
  refine (filled_any 0 (by omega) w).mono ?_
  rintro e w1 ⟨lb, F, rfl, l1, f1, k1⟩
  go_wp2_with fail
  refine (awake_any _).mono ?_
  rintro e w2 ⟨rfl, k2⟩
  have l2 := l1.keep (Keep.of0 k2) (fun _ _ e => e)
  have q2 := k1.trans (Keep.of0 k2)
  clear k1 k2 l1
  go_wp2_with fail
  refine (new_any 0 _).mono ?_
  rintro e w3 ⟨rfl, h3, k3⟩
  have S3 := SL.start l2 f1 q2 h3 k3
  clear l2 f1 q2 h3 k3
  generalize w2.heap.size = b at *
  go_wp2_with fail
  go_loopw [6, 7, 8, 9, 10] (fun xa xs xt xn xi wr => ∃ (k a s t n : Nat) (F : Nat → Prop), k ≤ len ∧ k ≤ 100 ∧ a ≤ n ∧ s ≤ n ∧ t ≤ 2 ∧ n ≤ k ∧ xa = .int .u64 a ∧ xs = .int .u64 s ∧ xt = .int .i64 t ∧ xn = .int .u64 n ∧ xi = .int .i64 k ∧ SL w wr F b lb a s t n) (fun xa xs xt xn xi wr => 100 - (intOf xi).toNat)
  case atStart => exact ⟨0, 0, 0, 0, 0, F, by omega, by omega, by omega, by omega, by omega, by omega, rfl, rfl, rfl, rfl, rfl, S3⟩
  case round =>
    obtain ⟨k, a, s, t, n, F, hk, hk2, ha, hs, ht, hn, rfl, rfl, rfl, rfl, rfl, S⟩ := hrel
    clear S3
    by_cases hlt : k < len ∧ k < 100
    · obtain ⟨hlt1, hlt2⟩ := hlt
      have hne : l ≠ [] := by intro h; have := hl.out; rw [h] at this; simp at this; omega
      obtain ⟨g, off, rfl, hg, hcell⟩ := HC.out.resolve_left hne
      obtain ⟨x, hxk⟩ : ∃ x, l[k]? = some x := ⟨l[k]'(by have := hl.out; omega), List.getElem?_eq_getElem _⟩
      have hxw := bounds_u64 (HW.out x (List.mem_of_getElem? hxk))
      have hx0 : wr.cell? ⟨g, off + k * 2, none⟩ = some (.int .i64 x.kind) := (S.w.cell (p := ⟨g, _, none⟩) hg (fun e => e)).trans (hcell k x hxk).1
      have hx1 : ∀ w', Keep (fun _ => False) w w' → w'.cell? ⟨g, off + k * 2 + 1, none⟩ = some (.int .u64 x.at_) := fun w' kk => (kk.cell (p := ⟨g, _, none⟩) hg (fun e => e)).trans (hcell k x hxk).2
      replace hx1 := Lib.hid hx1
      clear hcell hxk hne
      obtain ⟨kind, at_⟩ := x
      simp only at hx0 hx1 hxw
      have HS := Lib.hid S
      clear S
      by_cases h0 : kind = 0 ∨ kind = 1
      · have CA := Lib.hid (HS.out.add (by omega))
        rcases h0 with rfl | rfl
        all_goals
          go_wp2_with fail
          refine CA.out.mono ?_
          rintro e w4 ⟨rfl, F4, S4⟩
          go_wp2_with fail
          refine S4.acked.mono ?_
          rintro e w9 ⟨rfl, rfl⟩
          go_wp2_with fail
          go_roundw
          case rel => exact ⟨k + 1, _, _, _, _, _, by omega, by omega, by omega, by omega, by omega, by omega, by first | rfl | go_num | (congr 1; omega), by first | rfl | go_num | (congr 1; omega), by first | rfl | go_num | (congr 1; omega), by first | rfl | go_num | (congr 1; omega), by go_num, S4⟩
          case measure => simp [intOf]; omega

      by_cases h2 : kind = 2
      · subst h2
        clear h0
        have CM := Lib.hid (HS.out.more hs (by omega))
        go_wp2_with fail
        refine CM.out.mono ?_
        rintro e w4 ⟨v4, rfl, r4, S4⟩
        obtain ⟨ao4, cap4, rfl, hb4⟩ := bat_form r4
        clear r4 CM
        by_cases hz : s < n
        · rw [decide_eq_true hz]
          by_cases hm : n - s ≤ 16
          · have hbat : bat n s = n - s := by clear hb4; unfold bat; omega
            obtain ⟨m, hmm⟩ : ∃ m, m = n - s := ⟨_, rfl⟩
            have hm0 : 0 < m := by clear hb4; omega
            have hm1 : m ≠ 0 := by clear hb4; omega
            rw [hbat, ← hmm] at hb4 S4 ⊢
            replace hb4 := hb4.resolve_left hm1
            obtain ⟨g4, rfl, -, hc4⟩ := hb4
            have x4 := hc4 0 hm0
            rw [Nat.zero_mul, show (s : Int) + ((0 : Nat) : Int) + 1 = (s : Int) + 1 from by simp] at x4
            have e1 : ((n : Int) - s) ≤ 16 := by omega
            have e2 : (0 : Int) < (n : Int) - s := by omega
            have e3 : ((m : Int) != (n : Int) - s) = false := by simp; omega
            have e4 : ((n : Int) - s) = (m : Int) := by omega
            have HS4 := Lib.hid S4
            have E4 := Lib.hid e4
            clear hc4 hbat hm hz S4 e4
            go_wp2_with fail
            refine HS4.out.acked.mono ?_
            rintro e w9 ⟨rfl, rfl⟩
            go_wp2_with fail
            go_roundw
            case rel => exact ⟨k + 1, _, _, _, _, _, by omega, by omega, by omega, by omega, by omega, by omega, by first | rfl | go_num | (congr 1; omega), by first | rfl | go_num | (congr 1; omega), by first | rfl | go_num | (congr 1; omega), by first | rfl | go_num | (congr 1; omega), by go_num, HS4.out⟩
            case measure => simp [intOf]; omega

          · have hbat : bat n s = 16 := by clear hb4; unfold bat; omega
            rw [hbat] at hb4 S4 ⊢
            replace hb4 := hb4.resolve_left (by decide)
            obtain ⟨g4, rfl, -, hc4⟩ := hb4
            have x4 := hc4 0 (by decide)
            rw [Nat.zero_mul, show (s : Int) + ((0 : Nat) : Int) + 1 = (s : Int) + 1 from by simp] at x4
            have e1 : ¬ ((n : Int) - s) ≤ 16 := by omega
            have e1' : 16 < ((n : Int) - s) := by omega
            have HS4 := Lib.hid S4
            clear hc4 hbat hm hz S4
            go_wp2_with fail
            refine HS4.out.acked.mono ?_
            rintro e w9 ⟨rfl, rfl⟩
            go_wp2_with fail
            go_roundw
            case rel => exact ⟨k + 1, _, _, _, _, _, by omega, by omega, by omega, by omega, by omega, by omega, by first | rfl | go_num | (congr 1; omega), by first | rfl | go_num | (congr 1; omega), by first | rfl | go_num | (congr 1; omega), by first | rfl | go_num | (congr 1; omega), by go_num, HS4.out⟩
            case measure => simp [intOf]; omega

        · have hbat : bat n s = 0 := by clear hb4; unfold bat; omega
          rw [hbat] at S4 ⊢
          rw [decide_eq_false hz]
          clear hb4
          obtain rfl : s = n := by omega
          clear hbat hz
          have HS4 := Lib.hid S4
          clear S4
          go_wp2_with fail
          refine HS4.out.acked.mono ?_
          rintro e w9 ⟨rfl, rfl⟩
          go_wp2_with fail
          go_roundw
          case rel => exact ⟨k + 1, _, _, _, _, _, by omega, by omega, by omega, by omega, by omega, by omega, by first | rfl | go_num | (congr 1; omega), by first | rfl | go_num | (congr 1; omega), by first | rfl | go_num | (congr 1; omega), by first | rfl | go_num | (congr 1; omega), by go_num, HS4.out⟩
          case measure => simp [intOf]; omega

      by_cases h3 : kind = 3 ∨ kind = 4
      · clear h0 h2
        by_cases ht2 : t < 2
        · have CT := Lib.hid (HS.out.tick_no ht2)
          rcases h3 with rfl | rfl
          all_goals
            go_wp2_with fail
            refine CT.out.mono ?_
            rintro e w4 ⟨rfl, S4⟩
            have HS4 := Lib.hid S4
            have e1 : (t : Int) + 1 < 3 := by omega
            clear S4
            go_wp2_with fail
            refine HS4.out.acked.mono ?_
            rintro e w9 ⟨rfl, rfl⟩
            go_wp2_with fail
            go_roundw
            case rel => exact ⟨k + 1, _, _, _, _, _, by omega, by omega, by omega, by omega, by omega, by omega, by first | rfl | go_num | (congr 1; omega), by first | rfl | go_num | (congr 1; omega), by first | rfl | go_num | (congr 1; omega), by first | rfl | go_num | (congr 1; omega), by go_num, HS4.out⟩
            case measure => simp [intOf]; omega

        · obtain rfl : t = 2 := by omega
          have CT := Lib.hid (HS.out.tick_yes ha (by omega))
          clear ht2
          by_cases hz : a < n
          · by_cases hm : n - a ≤ 16
            · rcases h3 with rfl | rfl
              all_goals
                go_wp2_with fail
                refine CT.out.mono ?_
                rintro e w4 ⟨v4, rfl, r4, S4⟩
                obtain ⟨ao4, cap4, rfl, hb4⟩ := bat_form r4
                clear r4 CT
                have hbat : bat n a = n - a := by clear hb4; unfold bat; omega
                obtain ⟨m, hmm⟩ : ∃ m, m = n - a := ⟨_, rfl⟩
                have hm1 : m ≠ 0 := by clear hb4; omega
                have hm0 : 0 < m := by clear hb4; omega
                rw [hbat, ← hmm] at hb4 S4 ⊢
                replace hb4 := hb4.resolve_left hm1
                obtain ⟨g4, rfl, -, hc4⟩ := hb4
                have x4 := hc4 0 hm0
                rw [Nat.zero_mul, show (a : Int) + ((0 : Nat) : Int) + 1 = (a : Int) + 1 from by simp] at x4
                have e1 : ((n : Int) - a) ≤ 16 := by omega
                have e2 : (0 : Int) < (n : Int) - a := by omega
                have e3 : ((m : Int) != (n : Int) - a) = false := by simp; omega
                have HS4 := Lib.hid S4
                clear hc4 hbat hm hz S4
                go_wp2_with fail
                refine HS4.out.acked.mono ?_
                rintro e w9 ⟨rfl, rfl⟩
                go_wp2_with fail
                go_roundw
                case rel => exact ⟨k + 1, _, _, _, _, _, by omega, by omega, by omega, by omega, by omega, by omega, by first | rfl | go_num | (congr 1; omega), by first | rfl | go_num | (congr 1; omega), by first | rfl | go_num | (congr 1; omega), by first | rfl | go_num | (congr 1; omega), by go_num, HS4.out⟩
                case measure => simp [intOf]; omega

            · rcases h3 with rfl | rfl
              all_goals
                go_wp2_with fail
                refine CT.out.mono ?_
                rintro e w4 ⟨v4, rfl, r4, S4⟩
                obtain ⟨ao4, cap4, rfl, hb4⟩ := bat_form r4
                clear r4 CT
                have hbat : bat n a = 16 := by clear hb4; unfold bat; omega
                rw [hbat] at hb4 S4 ⊢
                replace hb4 := hb4.resolve_left (by decide)
                obtain ⟨g4, rfl, -, hc4⟩ := hb4
                have x4 := hc4 0 (by decide)
                rw [Nat.zero_mul, show (a : Int) + ((0 : Nat) : Int) + 1 = (a : Int) + 1 from by simp] at x4
                have e1 : ¬ ((n : Int) - a) ≤ 16 := by omega
                have e1' : 16 < ((n : Int) - a) := by omega
                have HS4 := Lib.hid S4
                clear hc4 hbat hm hz S4
                go_wp2_with fail
                refine HS4.out.acked.mono ?_
                rintro e w9 ⟨rfl, rfl⟩
                go_wp2_with fail
                go_roundw
                case rel => exact ⟨k + 1, _, _, _, _, _, by omega, by omega, by omega, by omega, by omega, by omega, by first | rfl | go_num | (congr 1; omega), by first | rfl | go_num | (congr 1; omega), by first | rfl | go_num | (congr 1; omega), by first | rfl | go_num | (congr 1; omega), by go_num, HS4.out⟩
                case measure => simp [intOf]; omega

          · obtain rfl : a = n := by omega
            rcases h3 with rfl | rfl
            all_goals
              go_wp2_with fail
              refine CT.out.mono ?_
              rintro e w4 ⟨v4, rfl, r4, S4⟩
              obtain ⟨ao4, cap4, rfl, hb4⟩ := bat_form r4
              clear r4 CT
              have hbat : bat a a = 0 := by clear hb4; unfold bat; omega
              rw [hbat] at S4 ⊢
              have HS4 := Lib.hid S4
              clear hb4 hbat hz S4
              go_wp2_with fail
              refine HS4.out.acked.mono ?_
              rintro e w9 ⟨rfl, rfl⟩
              go_wp2_with fail
              go_roundw
              case rel => exact ⟨k + 1, _, _, _, _, _, by omega, by omega, by omega, by omega, by omega, by omega, by first | rfl | go_num | (congr 1; omega), by first | rfl | go_num | (congr 1; omega), by first | rfl | go_num | (congr 1; omega), by first | rfl | go_num | (congr 1; omega), by go_num, HS4.out⟩
              case measure => simp [intOf]; omega

      have n0 : (kind == 0) = false := by rw [beq_eq_false_iff_ne]; omega
      have n1 : (kind == 1) = false := by rw [beq_eq_false_iff_ne]; omega
      have n2 : (kind == 2) = false := by rw [beq_eq_false_iff_ne]; omega
      have n3 : (kind == 3) = false := by rw [beq_eq_false_iff_ne]; omega
      have n4 : (kind == 4) = false := by rw [beq_eq_false_iff_ne]; omega
      clear h0 h2 h3
      obtain ⟨q, hq, hq2, -⟩ := u64_and_mask at_ 7 (by omega)
      rw [show ((2 ^ 7 - 1 : Nat) : Int) = 127 from rfl] at hq
      rw [show 2 ^ 7 = 128 from rfl] at hq2
      have hx1' := hx1.out _ HS.out.w
      by_cases hno : q ≤ a ∨ n < q
      · have CK := Lib.hid (HS.out.ack_no q hno (by omega))
        by_cases hqa : q ≤ a
        · go_wp2_with fail
          refine CK.out.mono ?_
          rintro e w4 ⟨rfl, S4⟩
          have HS4 := Lib.hid S4
          clear S4 hno
          go_wp2_with fail
          refine HS4.out.acked.mono ?_
          rintro e w9 ⟨rfl, rfl⟩
          go_wp2_with fail
          go_roundw
          case rel => exact ⟨k + 1, _, _, _, _, _, by omega, by omega, by omega, by omega, by omega, by omega, by first | rfl | go_num | (congr 1; omega), by first | rfl | go_num | (congr 1; omega), by first | rfl | go_num | (congr 1; omega), by first | rfl | go_num | (congr 1; omega), by go_num, HS4.out⟩
          case measure => simp [intOf]; omega

        · have hqn : n < q := by omega
          go_wp2_with fail
          refine CK.out.mono ?_
          rintro e w4 ⟨rfl, S4⟩
          have HS4 := Lib.hid S4
          clear S4 hno
          go_wp2_with fail
          refine HS4.out.acked.mono ?_
          rintro e w9 ⟨rfl, rfl⟩
          go_wp2_with fail
          go_roundw
          case rel => exact ⟨k + 1, _, _, _, _, _, by omega, by omega, by omega, by omega, by omega, by omega, by first | rfl | go_num | (congr 1; omega), by first | rfl | go_num | (congr 1; omega), by first | rfl | go_num | (congr 1; omega), by first | rfl | go_num | (congr 1; omega), by go_num, HS4.out⟩
          case measure => simp [intOf]; omega

      · have hqa : a < q := by omega
        have hqn : q ≤ n := by omega
        clear hno
        have CK := Lib.hid (HS.out.ack_yes q hqa hqn (by omega))
        by_cases hqs : s < q
        · have hmx : max s q = q := by omega
          go_wp2_with fail
          refine CK.out.mono ?_
          rintro e w4 ⟨rfl, S4⟩
          rw [hmx] at S4
          have HS4 := Lib.hid S4
          clear S4 hmx
          go_wp2_with fail
          refine HS4.out.acked.mono ?_
          rintro e w9 ⟨rfl, rfl⟩
          go_wp2_with fail
          go_roundw
          case rel => exact ⟨k + 1, _, _, _, _, _, by omega, by omega, by omega, by omega, by omega, by omega, by first | rfl | go_num | (congr 1; omega), by first | rfl | go_num | (congr 1; omega), by first | rfl | go_num | (congr 1; omega), by first | rfl | go_num | (congr 1; omega), by go_num, HS4.out⟩
          case measure => simp [intOf]; omega

        · have hmx : max s q = s := by omega
          go_wp2_with fail
          refine CK.out.mono ?_
          rintro e w4 ⟨rfl, S4⟩
          rw [hmx] at S4
          have HS4 := Lib.hid S4
          clear S4 hmx
          go_wp2_with fail
          refine HS4.out.acked.mono ?_
          rintro e w9 ⟨rfl, rfl⟩
          go_wp2_with fail
          go_roundw
          case rel => exact ⟨k + 1, _, _, _, _, _, by omega, by omega, by omega, by omega, by omega, by omega, by first | rfl | go_num | (congr 1; omega), by first | rfl | go_num | (congr 1; omega), by first | rfl | go_num | (congr 1; omega), by first | rfl | go_num | (congr 1; omega), by go_num, HS4.out⟩
          case measure => simp [intOf]; omega

    · by_cases h1 : k < len
      · have h2 : k = 100 := by omega
        subst h2
        go_wp2_with fail
        go_ret
        exact ⟨rfl, S.w.below0⟩
      · have h2 : ¬ ((k : Int) < len) := by omega
        go_wp2_with fail
        go_ret
        exact ⟨rfl, S.w.below0⟩

end Go.Proofs.Ytiboacnjmogjaaa.ShpP
