/- Contracts: a row with a cost that is less than zero or no number is not solved. -/
import Derived.Test.YthkfbmboiabolaaSolveT
import Derived.Test.YthkfbmboiabolaaDigit
import Derived.Test.YthkfbmboiabolaaCell
import Derived.Test.YthkfbmboiabolaaInts
import Derived.Test.YthkfbmboiabolaaFunc
namespace Go.Proofs.Ythkfbmboiabolaa
open Go.RowKit
set_option linter.unusedVariables false

/-- The costs of a row. -/
def rowC (wn dn : Nat) (bs : List Nat) (y : Nat) (x d : Nat) : Nat := nrm (bs.getD (cellN (wn : Int) (x : Int) (y : Int) * dn + d) 0)
theorem geF_nrm (a : Nat) : geF (nrm a) 0 = geF a 0 := by
  have h : nrm 0 = 0 := by decide
  have := fcmp_nrm a 0
  rw [h] at this
  unfold geF
  rw [this]
set_option maxHeartbeats 2000000 in
set_option maxRecDepth 8000 in
theorem l04Row_no (g gp wn hn dn gb off n c y : Nat) (bs : List Nat) (U : World) (hB : Box4 U g (.int .i64 wn) (.int .i64 hn) (.int .i64 dn) (.slice (some ⟨gb, off, none⟩) n c)) (hl : Lies U gb off bs) (hlen : bs.length = n) (hv : VVol wn hn dn n) (hy : y < hn) (hno : ¬ SolOk (rowC wn dn bs y) wn dn) :
    Calls Try.prog 54 #[.pointer (some ⟨g, 0, none⟩), .pointer (some ⟨gp, 0, none⟩), .int .i64 y] U fun e U' => e = .returned (.tuple #[.slice none 0 0, .float .f32 0, .bool false]) ∧ Ext U U' := by
  have HC := Lib.hid (fun (W : World) (hW : Ext U W) (x d : Nat) (hx : x < wn) (hd : d < dn) => l04Cost_any g wn hn dn gb off n c bs (x : Int) (y : Int) d W (hB.ext hW) (hl.ext hW) hlen hv ⟨by omega, by omega⟩ ⟨by omega, by omega⟩ hd)
  have HB4 := Lib.hid (fun (W : World) (hW : Ext U W) => hB.ext hW)
  have HSZ := Lib.hid (⟨by have := hv.1.2.1; omega, by have := hv.2.2.1; omega⟩ : wn ≤ 24 ∧ dn ≤ 8)
  have HNO := Lib.hid hno
  clear hl hlen hv hy hno hB
  go_enter Try.func54, Try.ntmps54
  go_wp2_with fail
  go_loopw [9] (fun xv wr => ∃ k : Nat, k ≤ wn ∧ xv = .int .i64 k ∧ Hid (∀ x d, x < k → d < dn → geF (rowC wn dn bs y x d) 0 = true) ∧ Ext U wr) (fun xv _ => wn - (intOf xv).toNat)
  case atStart => exact ⟨0, Nat.zero_le _, rfl, Lib.hid (fun x d hx => by omega), Ext.refl _⟩
  case round =>
    obtain ⟨k, hk, rfl, hok, hE⟩ := hrel
    have ⟨s24, s8⟩ := HSZ.out
    have ⟨p0, p1, p2, p3⟩ := HB4.out _ hE
    by_cases hlt : k < wn
    · go_wp2_with fail
      clear p0 p1 p2 p3
      go_loopw [10] (fun dv wr => ∃ j : Nat, j ≤ dn ∧ dv = .int .i64 j ∧ Hid (∀ d, d < j → geF (rowC wn dn bs y k d) 0 = true) ∧ Ext U wr) (fun dv _ => dn - (intOf dv).toNat)
      case atStart => exact ⟨0, Nat.zero_le _, rfl, Lib.hid (fun d hd => by omega), hE⟩
      case round =>
        clear hE
        obtain ⟨j, hj, rfl, hok2, hE⟩ := hrel
        have ⟨p0, p1, p2, p3⟩ := HB4.out _ hE
        by_cases hltj : j < dn
        · have HCC := Lib.hid (HC.out _ hE k j hlt hltj)
          have hge : geF (rowC wn dn bs y k j) 0 = geF (bs.getD (cellN (wn : Int) (k : Int) (y : Int) * dn + j) 0) 0 := geF_nrm _
          generalize bs.getD (cellN (wn : Int) (k : Int) (y : Int) * dn + j) 0 = v at HCC hge
          have HGE := Lib.hid hge
          have hord : (FloatKind.f32.format.order v 0 == some .gt || FloatKind.f32.format.order v 0 == some .eq) = geF v 0 := rfl
          cases hb : geF v 0 with
          | true =>
            rw [hb] at hord
            have hok3 : Hid (∀ d, d < j + 1 → geF (rowC wn dn bs y k d) 0 = true) := Lib.hid (fun d hd => by
              by_cases h : d < j
              · exact hok2.out d h
              · obtain rfl : d = j := by omega
                rw [HGE.out, hb])
            clear hge hb
            go_wp2_with fail
            refine HCC.out.mono ?_
            rintro e w' ⟨rfl, hx⟩
            have hE2 := hE.trans hx
            clear hE hx p0 p1 p2 p3
            go_wp2
            go_roundw
            case rel => exact ⟨j + 1, by omega, by go_num, hok3, hE2⟩
            case measure => simp [intOf]; omega
          | false =>
            rw [hb] at hord
            clear hge hb
            go_wp2_with fail
            refine HCC.out.mono ?_
            rintro e w' ⟨rfl, hx⟩
            have hE2 := hE.trans hx
            clear hE hx p0 p1 p2 p3
            go_wp2
            go_ret3
            exact ⟨rfl, hE2⟩
        · obtain rfl : j = dn := by omega
          have hok3 : Hid (∀ x d, x < k + 1 → d < j → geF (rowC wn j bs y x d) 0 = true) := Lib.hid (fun x d hx hd => by
            by_cases h : x < k
            · exact hok.out x d h hd
            · obtain rfl : x = k := by omega
              exact hok2.out d hd)
          go_wp2
          go_roundw
          case rel => exact ⟨k + 1, by omega, by go_num, hok3, hE⟩
          case measure => simp [intOf]; omega
    · obtain rfl : k = wn := by omega
      exact absurd (fun x d hx hd => hok.out x d hx hd) HNO.out
end Go.Proofs.Ythkfbmboiabolaa
