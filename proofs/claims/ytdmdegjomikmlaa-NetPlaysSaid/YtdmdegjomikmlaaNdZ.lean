/-
  Layer 22 (net): the law's own model: do, whatever happens.
-/
import Derived.Test.YtdmdegjomikmlaaNdC
import Derived.Test.YtdmdegjomikmlaaNdD
import Derived.Test.YtdmdegjomikmlaaNdE
import Derived.Test.YtdmdegjomikmlaaNdF
import Derived.Test.YtdmdegjomikmlaaNdG
import Derived.Test.YtdmdegjomikmlaaNdH
import Derived.Test.YtdmdegjomikmlaaNdI
import Derived.Test.YtdmdegjomikmlaaNdJ
import Derived.Test.YtdmdegjomikmlaaNdL
import Derived.Test.YtdmdegjomikmlaaNdM
import Derived.Test.YtdmdegjomikmlaaNdN
namespace Go.Proofs.Ytdmdegjomikmlaa.NdZ
set_option linter.unusedVariables false
set_option linter.unusedSimpArgs false
set_option maxRecDepth 100000
open Go.RowKit Go.Proofs.Ytdmdegjomikmlaa.Mem Go.Proofs.Ytdmdegjomikmlaa.NetM Go.Proofs.Ytdmdegjomikmlaa.NetW Go.Proofs.Ytdmdegjomikmlaa.NetS Go.Proofs.Ytdmdegjomikmlaa.NetD Go.Proofs.Ytdmdegjomikmlaa.NetT Go.Proofs.Ytdmdegjomikmlaa.NetA Go.Proofs.Ytdmdegjomikmlaa.NetY Go.Proofs.Ytdmdegjomikmlaa.NetZ Go.Proofs.Ytdmdegjomikmlaa.NetO Go.Proofs.Ytdmdegjomikmlaa.NetB Go.Proofs.Ytdmdegjomikmlaa.NetP Go.Proofs.Ytdmdegjomikmlaa.Mask Go.Proofs.Ytdmdegjomikmlaa.NdA Go.Proofs.Ytdmdegjomikmlaa.NdB

theorem do_any (b mb n k m cl cc : Nat) (al ac : Option Addr) (ps : List Pk) (cs : List (Int × Int)) (S : Int → Int → Bool) (v : Value) (x : Do) (w : World) (F : Nat → Prop) (B : Nat) (hI : In w F B b mb n k m cl cc al ac ps cs S v) (hx : x.Ok) :
    Calls Try.prog 17 #[.agg #[.slice al k cl, .slice ac m cc], .pointer (some ⟨b, 0, none⟩), .agg x.cells.toArray] w fun e w' => ∃ vl vc, e = .returned (.tuple #[.agg #[vl, vc], .bool true]) ∧ Did w w' F b mb ps cs n B vl vc := by
  by_cases h4 : x.kind = 4
  · exact NdC.do_4 b mb n k m cl cc al ac ps cs S v x w F B hI hx h4
  by_cases h5 : x.kind = 5
  · exact NdD.do_5 b mb n k m cl cc al ac ps cs S v x w F B hI hx h5
  by_cases h6 : x.kind = 6
  · exact NdE.do_6 b mb n k m cl cc al ac ps cs S v x w F B hI hx h6
  by_cases h7 : x.kind = 7
  · by_cases his : 0 ≤ x.at_ ∧ x.at_ < (k : Int)
    · obtain ⟨i, hi⟩ : ∃ i : Nat, x.at_ = (i : Int) := ⟨x.at_.toNat, by omega⟩
      have hik : i < k := by omega
      obtain ⟨p, hp⟩ : ∃ p, ps[i]? = some p := ⟨ps[i]'(by have := hI.hk; omega), List.getElem?_eq_getElem _⟩
      have huni : ∀ q, ps[i]? = some q → q = p := fun q hq => by rw [hp] at hq; exact (Option.some.inj hq).symm
      cases hc : canSpoil p (Go.bits .and .i64 x.b 15) (x.bits % 256) with
      | true => exact NdJ.do_7y b mb n k m cl cc al ac ps cs S v x w F B hI hx h7 i hi hik (fun q hq => by rw [huni q hq]; exact hc)
      | false =>
        have hcs : ∀ q, ps[i]? = some q → canSpoil q (Go.bits .and .i64 x.b 15) (x.bits % 256) = false := fun q hq => by rw [huni q hq]; exact hc
        cases hsp : p.sp with
        | true => exact NdL.do_7n1 b mb n k m cl cc al ac ps cs S v x w F B hI hx h7 i hi hik hcs (fun q hq => by rw [huni q hq]; exact hsp)
        | false =>
          by_cases hc0 : x.bits % 256 = 0
          · exact NdM.do_7n2 b mb n k m cl cc al ac ps cs S v x w F B hI hx h7 i hi hik hcs (fun q hq => by rw [huni q hq]; exact ⟨hsp, hc0⟩)
          · have hlong : (p.s.size : Int) ≤ Go.bits .and .i64 x.b 15 := by
              obtain ⟨A, hA, -, -⟩ := i64_and x.b 4 (by omega)
              have hA' : Go.bits .and .i64 x.b 15 = (A : Int) := hA
              rw [hA'] at hc ⊢
              unfold canSpoil at hc
              have hc9 : (x.bits % 256 == 0) = false := beq_eq_false_iff_ne.2 hc0
              rw [hsp, hc9] at hc
              simp at hc
              omega
            exact NdN.do_7n3 b mb n k m cl cc al ac ps cs S v x w F B hI hx h7 i hi hik hcs (fun q hq => by rw [huni q hq]; exact ⟨hsp, hc0, hlong⟩)
    · exact NdF.do_7o b mb n k m cl cc al ac ps cs S v x w F B hI hx h7 his
  by_cases h8 : x.kind = 8
  · exact NdG.do_8 b mb n k m cl cc al ac ps cs S v x w F B hI hx h8
  by_cases h9 : x.kind = 9
  · exact NdH.do_9 b mb n k m cl cc al ac ps cs S v x w F B hI hx h9
  exact NdI.do_0 b mb n k m cl cc al ac ps cs S v x w F B hI hx ⟨h4, h5, h6, h7, h8, h9⟩

end Go.Proofs.Ytdmdegjomikmlaa.NdZ
