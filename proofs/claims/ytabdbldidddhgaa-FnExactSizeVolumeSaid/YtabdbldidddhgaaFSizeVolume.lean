/- The law on SizeVolume holds. -/
import Derived.Test.YtabdbldidddhgaaCompare
import Derived.Test.YtabdbldidddhgaaCSizeVolume
namespace Go.Proofs.Ytabdbldidddhgaa
open Go.RowKit
set_option linter.unusedVariables false

set_option maxRecDepth 8000 in
theorem lawSizeVolume_any (W : World) (z0 z1 : Int) (_ : -9223372036854775808 ≤ z0 ∧ z0 ≤ 9223372036854775807) (_ : -9223372036854775808 ≤ z1 ∧ z1 ≤ 9223372036854775807) (A : Option Addr) (n m : Nat) (bs : List Nat) (hc : n ≤ m) (hm : m ≤ maxLen) (hr : Reads W A n bs) (hw : Words bs) (y0 y1 : Int) (_ : -9223372036854775808 ≤ y0 ∧ y0 ≤ 9223372036854775807) (_ : -9223372036854775808 ≤ y1 ∧ y1 ≤ 9223372036854775807) (A' : Option Addr) (n' m' : Nat) (bs2 : List Nat) (hc' : n' ≤ m') (hm' : m' ≤ maxLen) (hr' : Reads W A' n' bs2) (hw' : Words bs2) (d : Int) (_ : IntKind.i64.min ≤ d ∧ d ≤ IntKind.i64.max) :
    Calls Try.prog 4 #[.agg #[.int .i64 z0, .int .i64 z1, .slice A n m], .agg #[.int .i64 y0, .int .i64 y1, .slice A' n' m'], .int .i64 d] W fun e W' => e = .returned (.bool true) ∧ Ext W W' := by
  have hn : n ≤ maxLen := Nat.le_trans hc hm
  have hn' : n' ≤ maxLen := Nat.le_trans hc' hm'
  by_cases hv : (VMap z0 z1 n ∧ VMap y0 y1 n' ∧ z0 = y0 ∧ z1 = y1) ∧ 1 ≤ d ∧ d ≤ 8
  · obtain ⟨⟨hv, hv', rfl, rfl⟩, hd⟩ := hv
    obtain ⟨wn, rfl⟩ := Int.eq_ofNat_of_zero_le (show 0 ≤ z0 by have := hv.1.1; omega)
    obtain ⟨hh, rfl⟩ := Int.eq_ofNat_of_zero_le (show 0 ≤ z1 by have := hv.1.2.2.1; omega)
    obtain ⟨dn, rfl⟩ := Int.eq_ofNat_of_zero_le (show 0 ≤ d by omega)
    have hmb := mul_bounds hv.1.1 hv.1.2.1 hv.1.2.2.1 hv.1.2.2.2.1
    have hn1 := hv.2
    have hn2 := hv'.2
    have hle := hv.1.2.2.2.2
    obtain rfl : n' = n := by omega
    have hwh : wn * hh ≤ 256 := by
      have h2 : ((wn * hh : Nat) : Int) = (wn : Int) * (hh : Int) := by simp
      omega
    have h2048 : wn * hh * dn ≤ 256 * 8 := Nat.mul_le_mul hwh (by omega)
    refine lawSizeVolume_core W wn hh A n' m bs hn hr wn hh A' n' m' bs2 hn' hr' dn wn hh dn (cells3 (fun (x y e : Nat) => absN (difF wn hh bs bs2 x y e)) wn dn (wn * hh * dn)) (by rw [cells3_length]; omega) true ?_ ?_
    · intro w D D' hd1 hd2
      obtain ⟨gb, off, rfl, hl⟩ := hd1.2 (by omega)
      obtain ⟨gb2, off2, rfl, hl2⟩ := hd2.2 (by omega)
      exact specSizeVolume_yes wn hh dn gb off n' n' gb2 off2 n' bs bs2 w hl hd1.1 hw hl2 hd2.1 hw' hv hn (by omega)
    · intro w D D' hd1 hd2
      obtain ⟨gb, off, rfl, hl⟩ := hd1.2 (by omega)
      obtain ⟨gb2, off2, rfl, hl2⟩ := hd2.2 (by omega)
      refine implSizeVolume_of wn hh _ n' n' wn hh _ n' n' dn wn hh dn true _ w (fun w0 hx0 hb0 hb1 => ?_)
      exact pairVolume_yes wn hh dn _ _ n' n' n' n' hn hn hv hv (by omega) 69 #[.pointer (some ⟨w.heap.size, 0, none⟩), .pointer (some ⟨w.heap.size + 1, 0, none⟩)] (fun (x y e : Nat) => absN (difF wn hh bs bs2 x y e)) w0 (by kernel_rfl) (fun x y e U' h1 h2 h3 h4 => sz1_any wn hh dn gb off n' n' gb2 off2 n' bs bs2 _ _ x y e U' (hb0.ext h1) (hb1.ext h1) ((hl.ext hx0).ext h1) hd1.1 hw ((hl2.ext hx0).ext h1) hd2.1 hw' hv h2 h3 (by omega))
  · exact lawSizeVolume_core W z0 z1 A n m bs hn hr y0 y1 A' n' m' bs2 hn' hr' d 0 0 0 [] (by simp) false (fun w D D' hd hd' => specSizeVolume_no z0 z1 D n n y0 y1 D' n' n' d hn hn' hv w) (fun w D D' hd hd' => implSizeVolume_of z0 z1 D n n y0 y1 D' n' n' d 0 0 0 false [] w (fun w0 hx0 hb0 hb1 => pairVolume_no z0 z1 D n n y0 y1 D' n' n' d hn hn' hv _ _ w0))
end Go.Proofs.Ytabdbldidddhgaa
