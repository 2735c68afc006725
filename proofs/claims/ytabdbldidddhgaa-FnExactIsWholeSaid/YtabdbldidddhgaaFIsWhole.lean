/- The law on IsWhole holds. -/
import Derived.Test.YtabdbldidddhgaaWholeS
import Derived.Test.YtabdbldidddhgaaCIsWhole
namespace Go.Proofs.Ytabdbldidddhgaa
open Go.RowKit
set_option linter.unusedVariables false

theorem specIsWhole_of (z0 z1 z2 : Int) (A0 : Option Addr) (n0 m0 : Nat) (y0 y1 : Int) (A1 : Option Addr) (n1 m1 : Nat) (r : Bool) (U : World)
    (hcall : ∀ w0, Ext U w0 → Box4 w0 U.heap.size (.int .i64 z0) (.int .i64 z1) (.int .i64 z2) (.slice A0 n0 m0) → Box3 w0 (U.heap.size + 1) (.int .i64 y0) (.int .i64 y1) (.slice A1 n1 m1) → Calls Try.prog 99 #[.pointer (some ⟨U.heap.size, 0, none⟩), .pointer (some ⟨U.heap.size + 1, 0, none⟩)] w0 fun e U' => e = .returned (.bool r) ∧ Ext w0 U') :
    Calls Try.prog 43 #[.agg #[.int .i64 z0, .int .i64 z1, .int .i64 z2, .slice A0 n0 m0], .agg #[.int .i64 y0, .int .i64 y1, .slice A1 n1 m1]] U fun e U' => e = .returned (.bool r) ∧ Ext U U' := by
  have HK := Lib.hid hcall
  clear hcall
  go_enter Try.func43, Try.ntmps43
  go_wp2_with fail
  refine calls_at (X := fun w' => Ext U w' ∧ Box4 w' U.heap.size (.int .i64 z0) (.int .i64 z1) (.int .i64 z2) (.slice A0 n0 m0) ∧ Box3 w' (U.heap.size + 1) (.int .i64 y0) (.int .i64 y1) (.slice A1 n1 m1)) ⟨((Ext.refl _).alloc _).alloc _, ⟨by simp [go_sem], by simp [go_sem], by simp [go_sem], by simp [go_sem]⟩, ⟨by simp [go_sem], by simp [go_sem], by simp [go_sem]⟩⟩ ?_
  rintro w0 ⟨hx0, hb0, hq0⟩
  refine (HK.out w0 hx0 hb0 hq0).mono ?_
  rintro e w1 ⟨rfl, hx⟩
  go_wp2
  go_ret
  exact ⟨rfl, hx0.trans hx⟩
set_option maxRecDepth 8000 in
theorem lawIsWhole_any (W : World) (z0 z1 z2 : Int) (_ : -9223372036854775808 ≤ z0 ∧ z0 ≤ 9223372036854775807) (_ : -9223372036854775808 ≤ z1 ∧ z1 ≤ 9223372036854775807) (_ : -9223372036854775808 ≤ z2 ∧ z2 ≤ 9223372036854775807) (A : Option Addr) (n m : Nat) (bs : List Nat) (hc : n ≤ m) (hm : m ≤ maxLen) (hr : Reads W A n bs) (hw : Words bs) (y0 y1 : Int) (_ : -9223372036854775808 ≤ y0 ∧ y0 ≤ 9223372036854775807) (_ : -9223372036854775808 ≤ y1 ∧ y1 ≤ 9223372036854775807) (A2 : Option Addr) (n2 m2 : Nat) (bs2 : List Nat) (hc2 : n2 ≤ m2) (hm2 : m2 ≤ maxLen) (hr2 : Reads W A2 n2 bs2) (hw2 : Words bs2) :
    Calls Try.prog 9 #[.agg #[.int .i64 z0, .int .i64 z1, .int .i64 z2, .slice A n m], .agg #[.int .i64 y0, .int .i64 y1, .slice A2 n2 m2]] W fun e W' => e = .returned (.bool true) ∧ Ext W W' := by
  have hn : n ≤ maxLen := Nat.le_trans hc hm
  have hn2 : n2 ≤ maxLen := Nat.le_trans hc2 hm2
  by_cases hok : Wok z0 z1 z2 n y0 y1 n2
  · obtain ⟨hv, hv2, rfl, rfl⟩ := hok
    obtain ⟨wn, rfl⟩ := Int.eq_ofNat_of_zero_le (show 0 ≤ z0 by have := hv.1.1; omega)
    obtain ⟨hn', rfl⟩ := Int.eq_ofNat_of_zero_le (show 0 ≤ z1 by have := hv.1.2.2.1; omega)
    obtain ⟨dn, rfl⟩ := Int.eq_ofNat_of_zero_le (show 0 ≤ z2 by have := hv.2.1; omega)
    have hn2p : 0 < n2 := by
      have h1 := hv2.2
      have h2 : (0 : Int) < (wn : Int) * (hn' : Int) := Int.mul_pos (by have := hv.1.1; omega) (by have := hv.1.2.2.1; omega)
      omega
    refine lawIsWhole_core W wn hn' dn A n m bs hn hr wn hn' A2 n2 m2 bs2 hn2 hr2 (bs2.all (whole dn)) ?_ ?_
    · intro w D D2 hd hd2
      obtain ⟨gb, off, rfl, hl⟩ := hd2.2 hn2p
      exact specIsWhole_of wn hn' dn D n n wn hn' _ n2 n2 _ w (fun w0 hx0 hb0 hq0 => l04Whole_yes _ _ wn hn' dn D n n gb off n2 n2 bs2 hn hn2 hv hv2 w0 hb0 hq0 (hl.ext hx0) hd2.1 hw2)
    · intro w D D2 hd hd2
      exact implIsWhole_yes wn hn' dn D n n D2 n2 n2 bs2 hn hn2 hv hv2 w hd2 hw2
  · exact lawIsWhole_core W z0 z1 z2 A n m bs hn hr y0 y1 A2 n2 m2 bs2 hn2 hr2 false
      (fun w D D2 hd hd2 => specIsWhole_of z0 z1 z2 D n n y0 y1 D2 n2 n2 false w (fun w0 hx0 hb0 hq0 => l04Whole_no _ _ z0 z1 z2 D n n y0 y1 D2 n2 n2 hn w0 hb0 hq0 hok))
      (fun w D D2 hd hd2 => implIsWhole_no z0 z1 z2 D n n y0 y1 D2 n2 n2 hn hn2 hok w)
end Go.Proofs.Ytabdbldidddhgaa
