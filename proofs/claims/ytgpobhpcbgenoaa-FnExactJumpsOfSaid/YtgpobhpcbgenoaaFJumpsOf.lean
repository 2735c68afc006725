/- The law on JumpsOf holds. -/
import Derived.Test.YtgpobhpcbgenoaaJumps
import Derived.Test.YtgpobhpcbgenoaaCJumpsOf
namespace Go.Proofs.Ytgpobhpcbgenoaa
open Go.RowKit
set_option linter.unusedVariables false

set_option maxHeartbeats 2000000 in
set_option maxRecDepth 8000 in
theorem implJumpsOf_no (z0 z1 z2 : Int) (A0 : Option Addr) (n0 m0 : Nat) (y0 y1 : Int) (A1 : Option Addr) (n1 m1 : Nat) (U : World) (hwh : ∀ W, Ext U W → Calls Try.prog 51 #[.agg #[.int .i64 z0, .int .i64 z1, .int .i64 z2, .slice A0 n0 m0], .agg #[.int .i64 y0, .int .i64 y1, .slice A1 n1 m1]] W fun e W' => e = .returned (.bool false) ∧ Ext W W') :
    Calls Try.prog 21 #[.agg #[.int .i64 z0, .int .i64 z1, .int .i64 z2, .slice A0 n0 m0], .agg #[.int .i64 y0, .int .i64 y1, .slice A1 n1 m1]] U fun e U' => ∃ A' c' b', e = .returned (.tuple #[.slice A' b'.length c', .bool false]) ∧ OwnI U' U.heap.size 2 (.slice A' b'.length c') b' ∧ Eqi b' [] ∧ Ext U U' := by
  have HW := Lib.hid hwh
  clear hwh
  go_enter Try.func21, Try.ntmps21
  go_wp2_with fail
  refine calls_at (X := fun w' => Ext U w' ∧ Box4 w' U.heap.size (.int .i64 z0) (.int .i64 z1) (.int .i64 z2) (.slice A0 n0 m0) ∧ Box3 w' (U.heap.size + 1) (.int .i64 y0) (.int .i64 y1) (.slice A1 n1 m1)) ⟨((Ext.refl _).alloc _).alloc _, ⟨by simp [go_sem], by simp [go_sem], by simp [go_sem], by simp [go_sem]⟩, ⟨by simp [go_sem], by simp [go_sem], by simp [go_sem]⟩⟩ ?_
  rintro w0 ⟨hE, hb, hm⟩
  refine (HW.out w0 hE).mono ?_
  rintro e w1 ⟨rfl, hx⟩
  replace hE := hE.trans hx
  replace hb := hb.ext hx
  replace hm := hm.ext hx
  clear hx
  have ⟨p0', p1', p2', p3'⟩ := hb
  have ⟨r0', r1', r2'⟩ := hm
  go_wp2
  go_ret2
  exact ⟨none, 0, [], rfl, OwnI.nil _ _ _, rfl, hE⟩
set_option maxHeartbeats 2000000 in
set_option maxRecDepth 8000 in
theorem specJumpsOf_no (z0 z1 z2 : Int) (A0 : Option Addr) (n0 m0 : Nat) (y0 y1 : Int) (A1 : Option Addr) (n1 m1 : Nat) (U : World) (hwh : ∀ W, Ext U W → Box4 W U.heap.size (.int .i64 z0) (.int .i64 z1) (.int .i64 z2) (.slice A0 n0 m0) → Box3 W (U.heap.size + 1) (.int .i64 y0) (.int .i64 y1) (.slice A1 n1 m1) → Calls Try.prog 47 #[.pointer (some ⟨U.heap.size, 0, none⟩), .pointer (some ⟨(U.heap.size + 1), 0, none⟩)] W fun e W' => e = .returned (.bool false) ∧ Ext W W') :
    Calls Try.prog 20 #[.agg #[.int .i64 z0, .int .i64 z1, .int .i64 z2, .slice A0 n0 m0], .agg #[.int .i64 y0, .int .i64 y1, .slice A1 n1 m1]] U fun e U' => ∃ A' c' b', e = .returned (.tuple #[.slice A' b'.length c', .bool false]) ∧ OwnI U' U.heap.size 2 (.slice A' b'.length c') b' ∧ Eqi b' [] ∧ Ext U U' := by
  have HW := Lib.hid hwh
  clear hwh
  go_enter Try.func20, Try.ntmps20
  go_wp2_with fail
  refine calls_at (X := fun w' => Ext U w' ∧ Box4 w' U.heap.size (.int .i64 z0) (.int .i64 z1) (.int .i64 z2) (.slice A0 n0 m0) ∧ Box3 w' (U.heap.size + 1) (.int .i64 y0) (.int .i64 y1) (.slice A1 n1 m1)) ⟨((Ext.refl _).alloc _).alloc _, ⟨by simp [go_sem], by simp [go_sem], by simp [go_sem], by simp [go_sem]⟩, ⟨by simp [go_sem], by simp [go_sem], by simp [go_sem]⟩⟩ ?_
  rintro w0 ⟨hE, hb, hm⟩
  refine (HW.out w0 hE hb hm).mono ?_
  rintro e w1 ⟨rfl, hx⟩
  replace hE := hE.trans hx
  replace hb := hb.ext hx
  replace hm := hm.ext hx
  clear hx
  have ⟨p0', p1', p2', p3'⟩ := hb
  have ⟨r0', r1', r2'⟩ := hm
  go_wp2
  go_ret2
  exact ⟨none, 0, [], rfl, OwnI.nil _ _ _, rfl, hE⟩
theorem lw_any (g g' wn hn dn : Nat) (A0 : Option Addr) (n0 m0 : Nat) (D2 : Option Addr) (n1 m1 : Nat) (bs : List Nat) (b : Bool) (hn0 : n0 ≤ maxLen) (hn1 : n1 ≤ maxLen) (hv : VVol wn hn dn n0) (hm : VMap wn hn n1) (h1p : 0 < n1) (w U : World) (hE : Ext w U) (hB : Box4 U g (.int .i64 wn) (.int .i64 hn) (.int .i64 dn) (.slice A0 n0 m0)) (hB' : Box3 U g' (.int .i64 wn) (.int .i64 hn) (.slice D2 n1 m1)) (hr : Reads w D2 n1 bs) (hw : Words bs) (hall : bs.all (whole dn) = b) :
    Calls Try.prog 47 #[.pointer (some ⟨g, 0, none⟩), .pointer (some ⟨g', 0, none⟩)] U fun e U' => e = .returned (.bool b) ∧ Ext U U' := by
  subst hall
  obtain ⟨gb, off, rfl, hl⟩ := hr.2 h1p
  exact l04Whole_yes g g' wn hn dn A0 n0 m0 gb off n1 m1 bs hn0 hn1 hv hm U hB hB' (hl.ext hE) hr.1 hw
set_option maxRecDepth 8000 in
theorem lawJumpsOf_any (W : World) (z0 z1 z2 : Int) (_ : -9223372036854775808 ≤ z0 ∧ z0 ≤ 9223372036854775807) (_ : -9223372036854775808 ≤ z1 ∧ z1 ≤ 9223372036854775807) (_ : -9223372036854775808 ≤ z2 ∧ z2 ≤ 9223372036854775807) (A : Option Addr) (n m : Nat) (bs : List Nat) (hc : n ≤ m) (hm : m ≤ maxLen) (hr : Reads W A n bs) (hw : Words bs) (y0 y1 : Int) (_ : -9223372036854775808 ≤ y0 ∧ y0 ≤ 9223372036854775807) (_ : -9223372036854775808 ≤ y1 ∧ y1 ≤ 9223372036854775807) (A2 : Option Addr) (n2 m2 : Nat) (bs2 : List Nat) (hc2 : n2 ≤ m2) (hm2 : m2 ≤ maxLen) (hr2 : Reads W A2 n2 bs2) (hw2 : Words bs2) :
    Calls Try.prog 4 #[.agg #[.int .i64 z0, .int .i64 z1, .int .i64 z2, .slice A n m], .agg #[.int .i64 y0, .int .i64 y1, .slice A2 n2 m2]] W fun e W' => e = .returned (.bool true) ∧ Ext W W' := by
  have hn : n ≤ maxLen := Nat.le_trans hc hm
  have hn2 : n2 ≤ maxLen := Nat.le_trans hc2 hm2
  by_cases hok : Wok z0 z1 z2 n y0 y1 n2
  · obtain ⟨hv, hv2, rfl, rfl⟩ := hok
    obtain ⟨wn, rfl⟩ := Int.eq_ofNat_of_zero_le (show 0 ≤ z0 by have := hv.1.1; omega)
    obtain ⟨hn', rfl⟩ := Int.eq_ofNat_of_zero_le (show 0 ≤ z1 by have := hv.1.2.2.1; omega)
    obtain ⟨dn, rfl⟩ := Int.eq_ofNat_of_zero_le (show 0 ≤ z2 by have := hv.2.1; omega)
    have hn2p : 0 < n2 := by
      have h1 := hv2.2
      have h2 : (0 : Int) < (wn : Int) * (hn' : Int) := Int.mul_pos (by have := hv.1.1; omega) (by have := hv.1.2.2.1; omega)
      omega
    have hsz := hv.1
    have hd1 := hv.2.1
    have hd8 := hv.2.2.1
    have SW := fun (b : Bool) (hall : bs2.all (whole dn) = b) (w : World) (D D2 : Option Addr) (hd2 : Reads w D2 n2 bs2) (W1 : World) (hE : Ext w W1) hb hm => lw_any w.heap.size (w.heap.size + 1) wn hn' dn D n n D2 n2 n2 bs2 b hn hn2 hv hv2 hn2p w W1 hE hb hm hd2 hw2 hall
    have IW := fun (b : Bool) (hall : bs2.all (whole dn) = b) (w : World) (D D2 : Option Addr) (hd2 : Reads w D2 n2 bs2) (W1 : World) (hE : Ext w W1) => (by have t := implIsWhole_yes wn hn' dn D n n D2 n2 n2 bs2 hn hn2 hv hv2 W1 (hd2.ext hE) hw2; rw [hall] at t; exact t : Calls Try.prog 51 #[.agg #[.int .i64 wn, .int .i64 hn', .int .i64 dn, .slice D n n], .agg #[.int .i64 wn, .int .i64 hn', .slice D2 n2 n2]] W1 fun e W' => e = .returned (.bool b) ∧ Ext W1 W')
    cases hall : bs2.all (whole dn) with
    | false => exact lawJumpsOf_core W wn hn' dn A n m bs hn hr wn hn' A2 n2 m2 bs2 hn2 hr2 [] (by simp) false (fun w D D2 hd hd2 => specJumpsOf_no wn hn' dn D n n wn hn' D2 n2 n2 w (SW false hall w D D2 hd2)) (fun w D D2 hd hd2 => implJumpsOf_no wn hn' dn D n n wn hn' D2 n2 n2 w (IW false hall w D D2 hd2))
    | true =>
      obtain ⟨hnn, hnp, hnx⟩ := vol_n hv
      refine lawJumpsOf_core W wn hn' dn A n m bs hn hr wn hn' A2 n2 m2 bs2 hn2 hr2 (jmpTo wn hn' bs2 (hn' * wn)) (by rw [jmpTo_len]; omega) true (fun w D D2 hd hd2 => ?_) (fun w D D2 hd hd2 => ?_)
      · obtain ⟨gb, off, rfl, hl⟩ := hd.2 hnp
        obtain ⟨gb2, off2, rfl, hl2⟩ := hd2.2 hn2p
        exact specJumpsOf_yes wn hn' dn gb off n n gb2 off2 n2 n2 bs2 hn hn2 w hl2 hd2.1 hw2 hv hv2 hall
      · obtain ⟨gb, off, rfl, hl⟩ := hd.2 hnp
        obtain ⟨gb2, off2, rfl, hl2⟩ := hd2.2 hn2p
        exact implJumpsOf_yes wn hn' dn gb off n n gb2 off2 n2 n2 bs2 hn hn2 w hl2 hd2.1 hw2 hv hv2 hall
  · exact lawJumpsOf_core W z0 z1 z2 A n m bs hn hr y0 y1 A2 n2 m2 bs2 hn2 hr2 [] (by simp) false
      (fun w D D2 hd hd2 => specJumpsOf_no z0 z1 z2 D n n y0 y1 D2 n2 n2 w (fun W1 hE hb hm => l04Whole_no _ _ z0 z1 z2 D n n y0 y1 D2 n2 n2 hn W1 hb hm hok))
      (fun w D D2 hd hd2 => implJumpsOf_no z0 z1 z2 D n n y0 y1 D2 n2 n2 w (fun W1 hE => implIsWhole_no z0 z1 z2 D n n y0 y1 D2 n2 n2 hn hn2 hok W1))
end Go.Proofs.Ytgpobhpcbgenoaa
