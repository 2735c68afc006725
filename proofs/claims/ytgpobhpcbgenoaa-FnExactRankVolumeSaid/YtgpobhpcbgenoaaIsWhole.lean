/- Contracts: whether a map is whole for a volume. -/
import Derived.Test.YtgpobhpcbgenoaaWhole
import Derived.Test.YtgpobhpcbgenoaaFunc
import Derived.Test.YtgpobhpcbgenoaaVols
import Derived.Test.YtgpobhpcbgenoaaCube
namespace Go.Proofs.Ytgpobhpcbgenoaa
open Go.RowKit
set_option linter.unusedVariables false

theorem isWhole1_any (x wn hn dn gv : Nat) (s : Value) (U : World) (hd : dn ≤ 8) (h0 : 0 < dn) (hB : Box4 U gv (.int .i64 wn) (.int .i64 hn) (.int .i64 dn) s) :
    Calls Try.prog 100 #[.float .f32 x, .pointer (some ⟨gv, 0, none⟩)] U fun e U' => e = .returned (.bool (badP dn x)) ∧ Ext U U' := by
  unfold badP
  have hpl := fun (U : World) => place_any x U
  obtain ⟨P, hP⟩ : ∃ P, (if pok x = true then min (rnd (vmag x) : Int) 1048576 else -1) = P := ⟨_, rfl⟩
  rw [hP] at hpl ⊢
  obtain ⟨d1, hd1⟩ : ∃ d1 : Nat, dn - 1 = d1 := ⟨_, rfl⟩
  have hw1 : IntKind.i64.wrap ((dn : Int) - 1) = (d1 : Int) := by rw [show (dn : Int) - 1 = (d1 : Int) by omega]; exact wrap_small _ (by omega) (by omega)
  rw [show (dn : Int) - 1 = (d1 : Int) by omega]
  have HPL := Lib.hid hpl
  obtain ⟨p0, p1, p2, p3⟩ := hB
  clear hP hpl
  by_cases hin : 0 ≤ P ∧ P ≤ (d1 : Int)
  · rw [if_pos hin]
    obtain ⟨k, rfl⟩ := Int.eq_ofNat_of_zero_le hin.1
    have hk8 : k < 8 := by omega
    rw [Int.toNat_natCast]
    have HIN := Lib.hid hin
    have hcv := kW_conv hk8
    obtain ⟨q, hq⟩ : ∃ q, kW k = q := ⟨_, rfl⟩
    rw [hq] at hcv ⊢
    clear hin hq
    go_enter Try.func100, Try.ntmps100
    go_wp2_with fail
    refine region_wx 14 [] (by kernel_rfl) (by kernel_rfl) ?_
    simp only [List.take_succ_cons, List.take_zero, List.drop_succ_cons, List.drop_zero]
    repeat ((first | refine wx_skip rfl ?_ | refine wx_nilCheck rfl rfl _ rfl _ rfl ?_ | (refine wx_float rfl rfl _ _ _ _ _ _ _ rfl rfl rfl rfl ?_; intro r hr) | (refine wx_k rfl rfl rfl (fun K hK => ?_); go_big_quiet_op; refine hK _ ?_; clear hK K) | (refine wx_call rfl rfl 101 _ _ rfl (by kernel_rfl) (by kernel_rfl) (.int .i64 k) (fun W hW hF => ?_) ?_; go_simp; (with_reducible refine (HPL.out W).mono ?_); rintro e w' h; exact h) | (refine wx_call rfl rfl 67 _ _ rfl (by kernel_rfl) (by kernel_rfl) (.bool true) (fun W hW hF => ?_) ?_; go_simp; (with_reducible refine (callsExt (implIn_yes (k : Int) 0 (d1 : Int) W HIN.out.1 HIN.out.2)).mono ?_); rintro e w' h; exact h)); (try simp only [Act.put, List.setIfInBounds_toArray, List.set_cons_zero, List.set_cons_succ]); (try simp only [List.tail_nil]))
    refine wx_nil (fun W hW hF => ?_)
    go_wp2
    go_ret
    exact ⟨rfl, hW⟩
  · rw [if_neg hin]
    have HIN := Lib.hid (by omega : P < 0 ∨ (d1 : Int) < P)
    clear hin
    go_enter Try.func100, Try.ntmps100
    go_wp2_with fail
    refine region_wx 14 [] (by kernel_rfl) (by kernel_rfl) ?_
    simp only [List.take_succ_cons, List.take_zero, List.drop_succ_cons, List.drop_zero]
    repeat ((first | refine wx_skip rfl ?_ | refine wx_nilCheck rfl rfl _ rfl _ rfl ?_ | (refine wx_float rfl rfl _ _ _ _ _ _ _ rfl rfl rfl rfl ?_; intro r hr) | (refine wx_k rfl rfl rfl (fun K hK => ?_); go_big_quiet_op; refine hK _ ?_; clear hK K) | (refine wx_call rfl rfl 101 _ _ rfl (by kernel_rfl) (by kernel_rfl) (.int .i64 P) (fun W hW hF => ?_) ?_; go_simp; (with_reducible refine (HPL.out W).mono ?_); rintro e w' h; exact h) | (refine wx_call rfl rfl 67 _ _ rfl (by kernel_rfl) (by kernel_rfl) (.bool false) (fun W hW hF => ?_) ?_; go_simp; (with_reducible refine (callsExt (implIn_no P 0 (d1 : Int) W HIN.out)).mono ?_); rintro e w' h; exact h)); (try simp only [Act.put, List.setIfInBounds_toArray, List.set_cons_zero, List.set_cons_succ]); (try simp only [List.tail_nil]))
    refine wx_nil (fun W hW hF => ?_)
    go_wp2
    go_ret
    exact ⟨rfl, hW⟩
theorem implIsWhole_no1 (z0 z1 z2 : Int) (A0 : Option Addr) (n0 m0 : Nat) (y0 y1 : Int) (A1 : Option Addr) (n1 m1 : Nat) (hn0 : n0 ≤ maxLen) (hn1 : n1 ≤ maxLen) (hv : ¬ VVol z0 z1 z2 n0) (U : World) :
    Calls Try.prog 51 #[.agg #[.int .i64 z0, .int .i64 z1, .int .i64 z2, .slice A0 n0 m0], .agg #[.int .i64 y0, .int .i64 y1, .slice A1 n1 m1]] U fun e U' => e = .returned (.bool false) ∧ Ext U U' := by
  have HVX := Lib.hid hv
  clear hv
  go_enter Try.func51, Try.ntmps51
  go_wp2_with fail
  refine calls_at (X := fun w' => Ext U w' ∧ Box4 w' U.heap.size (.int .i64 z0) (.int .i64 z1) (.int .i64 z2) (.slice A0 n0 m0) ∧ Box3 w' (U.heap.size + 1) (.int .i64 y0) (.int .i64 y1) (.slice A1 n1 m1)) ⟨((Ext.refl _).alloc _).alloc _, ⟨by simp [go_sem], by simp [go_sem], by simp [go_sem], by simp [go_sem]⟩, ⟨by simp [go_sem], by simp [go_sem], by simp [go_sem]⟩⟩ ?_
  rintro w0 ⟨hx0, hb0, hq0⟩
  refine (ValidVolume_not _ _ _ A0 n0 m0 _ hn0 HVX.out).mono ?_
  rintro e w1 ⟨rfl, hx⟩
  replace hx0 := hx0.trans hx
  replace hb0 := hb0.ext hx
  replace hq0 := hq0.ext hx
  clear hx
  have ⟨p0, p1, p2, p3⟩ := hb0
  have ⟨q0, q1, q2⟩ := hq0
  go_wp2
  go_ret
  exact ⟨rfl, hx0⟩
theorem implIsWhole_no2 (z0 z1 z2 : Int) (A0 : Option Addr) (n0 m0 : Nat) (y0 y1 : Int) (A1 : Option Addr) (n1 m1 : Nat) (hn0 : n0 ≤ maxLen) (hn1 : n1 ≤ maxLen) (hv : VVol z0 z1 z2 n0) (hm : ¬ VMap y0 y1 n1) (U : World) :
    Calls Try.prog 51 #[.agg #[.int .i64 z0, .int .i64 z1, .int .i64 z2, .slice A0 n0 m0], .agg #[.int .i64 y0, .int .i64 y1, .slice A1 n1 m1]] U fun e U' => e = .returned (.bool false) ∧ Ext U U' := by
  have HVX := Lib.hid hv
  have HMX := Lib.hid hm
  clear hv hm
  go_enter Try.func51, Try.ntmps51
  go_wp2_with fail
  refine calls_at (X := fun w' => Ext U w' ∧ Box4 w' U.heap.size (.int .i64 z0) (.int .i64 z1) (.int .i64 z2) (.slice A0 n0 m0) ∧ Box3 w' (U.heap.size + 1) (.int .i64 y0) (.int .i64 y1) (.slice A1 n1 m1)) ⟨((Ext.refl _).alloc _).alloc _, ⟨by simp [go_sem], by simp [go_sem], by simp [go_sem], by simp [go_sem]⟩, ⟨by simp [go_sem], by simp [go_sem], by simp [go_sem]⟩⟩ ?_
  rintro w0 ⟨hx0, hb0, hq0⟩
  refine (ValidVolume_yes _ _ _ A0 n0 m0 _ hn0 HVX.out).mono ?_
  rintro e w1 ⟨rfl, hx⟩
  replace hx0 := hx0.trans hx
  replace hb0 := hb0.ext hx
  replace hq0 := hq0.ext hx
  clear hx
  have ⟨p0, p1, p2, p3⟩ := hb0
  have ⟨q0, q1, q2⟩ := hq0
  go_wp2_with fail
  clear p0 p1 p2 p3 q0 q1 q2
  refine (ValidMap_not _ _ A1 n1 m1 _ hn1 HMX.out).mono ?_
  rintro e w2 ⟨rfl, hx⟩
  replace hx0 := hx0.trans hx
  replace hb0 := hb0.ext hx
  replace hq0 := hq0.ext hx
  clear hx
  have ⟨p0, p1, p2, p3⟩ := hb0
  have ⟨q0, q1, q2⟩ := hq0
  go_wp2
  go_ret
  exact ⟨rfl, hx0⟩
theorem implIsWhole_no3 (z0 z1 z2 : Int) (A0 : Option Addr) (n0 m0 : Nat) (y0 y1 : Int) (A1 : Option Addr) (n1 m1 : Nat) (hn0 : n0 ≤ maxLen) (hn1 : n1 ≤ maxLen) (hv : VVol z0 z1 z2 n0) (hm : VMap y0 y1 n1) (hne : ¬ z0 = y0) (U : World) :
    Calls Try.prog 51 #[.agg #[.int .i64 z0, .int .i64 z1, .int .i64 z2, .slice A0 n0 m0], .agg #[.int .i64 y0, .int .i64 y1, .slice A1 n1 m1]] U fun e U' => e = .returned (.bool false) ∧ Ext U U' := by
  have HVX := Lib.hid hv
  have HMX := Lib.hid hm
  clear hv hm
  have hnb : (z0 != y0) = true := by simpa using hne
  go_enter Try.func51, Try.ntmps51
  go_wp2_with fail
  refine calls_at (X := fun w' => Ext U w' ∧ Box4 w' U.heap.size (.int .i64 z0) (.int .i64 z1) (.int .i64 z2) (.slice A0 n0 m0) ∧ Box3 w' (U.heap.size + 1) (.int .i64 y0) (.int .i64 y1) (.slice A1 n1 m1)) ⟨((Ext.refl _).alloc _).alloc _, ⟨by simp [go_sem], by simp [go_sem], by simp [go_sem], by simp [go_sem]⟩, ⟨by simp [go_sem], by simp [go_sem], by simp [go_sem]⟩⟩ ?_
  rintro w0 ⟨hx0, hb0, hq0⟩
  refine (ValidVolume_yes _ _ _ A0 n0 m0 _ hn0 HVX.out).mono ?_
  rintro e w1 ⟨rfl, hx⟩
  replace hx0 := hx0.trans hx
  replace hb0 := hb0.ext hx
  replace hq0 := hq0.ext hx
  clear hx
  have ⟨p0, p1, p2, p3⟩ := hb0
  have ⟨q0, q1, q2⟩ := hq0
  go_wp2_with fail
  clear p0 p1 p2 p3 q0 q1 q2
  refine (ValidMap_yes _ _ A1 n1 m1 _ hn1 HMX.out).mono ?_
  rintro e w2 ⟨rfl, hx⟩
  replace hx0 := hx0.trans hx
  replace hb0 := hb0.ext hx
  replace hq0 := hq0.ext hx
  clear hx
  have ⟨p0, p1, p2, p3⟩ := hb0
  have ⟨q0, q1, q2⟩ := hq0
  go_wp2
  go_ret
  exact ⟨rfl, hx0⟩
theorem implIsWhole_no4 (z0 z1 z2 : Int) (A0 : Option Addr) (n0 m0 : Nat) (y0 y1 : Int) (A1 : Option Addr) (n1 m1 : Nat) (hn0 : n0 ≤ maxLen) (hn1 : n1 ≤ maxLen) (hv : VVol z0 z1 z2 n0) (hm : VMap y0 y1 n1) (he : z0 = y0) (hne : ¬ z1 = y1) (U : World) :
    Calls Try.prog 51 #[.agg #[.int .i64 z0, .int .i64 z1, .int .i64 z2, .slice A0 n0 m0], .agg #[.int .i64 y0, .int .i64 y1, .slice A1 n1 m1]] U fun e U' => e = .returned (.bool false) ∧ Ext U U' := by
  have HVX := Lib.hid hv
  have HMX := Lib.hid hm
  clear hv hm
  have heb : (z0 != y0) = false := by simpa using he
  have hnb : (z1 != y1) = true := by simpa using hne
  clear he
  go_enter Try.func51, Try.ntmps51
  go_wp2_with fail
  refine calls_at (X := fun w' => Ext U w' ∧ Box4 w' U.heap.size (.int .i64 z0) (.int .i64 z1) (.int .i64 z2) (.slice A0 n0 m0) ∧ Box3 w' (U.heap.size + 1) (.int .i64 y0) (.int .i64 y1) (.slice A1 n1 m1)) ⟨((Ext.refl _).alloc _).alloc _, ⟨by simp [go_sem], by simp [go_sem], by simp [go_sem], by simp [go_sem]⟩, ⟨by simp [go_sem], by simp [go_sem], by simp [go_sem]⟩⟩ ?_
  rintro w0 ⟨hx0, hb0, hq0⟩
  refine (ValidVolume_yes _ _ _ A0 n0 m0 _ hn0 HVX.out).mono ?_
  rintro e w1 ⟨rfl, hx⟩
  replace hx0 := hx0.trans hx
  replace hb0 := hb0.ext hx
  replace hq0 := hq0.ext hx
  clear hx
  have ⟨p0, p1, p2, p3⟩ := hb0
  have ⟨q0, q1, q2⟩ := hq0
  go_wp2_with fail
  clear p0 p1 p2 p3 q0 q1 q2
  refine (ValidMap_yes _ _ A1 n1 m1 _ hn1 HMX.out).mono ?_
  rintro e w2 ⟨rfl, hx⟩
  replace hx0 := hx0.trans hx
  replace hb0 := hb0.ext hx
  replace hq0 := hq0.ext hx
  clear hx
  have ⟨p0, p1, p2, p3⟩ := hb0
  have ⟨q0, q1, q2⟩ := hq0
  go_wp2
  go_ret
  exact ⟨rfl, hx0⟩
/-- A volume, and a map of its sizes. -/
def Wok (z0 z1 z2 : Int) (n0 : Nat) (y0 y1 : Int) (n1 : Nat) : Prop := VVol z0 z1 z2 n0 ∧ VMap y0 y1 n1 ∧ z0 = y0 ∧ z1 = y1
theorem implIsWhole_no (z0 z1 z2 : Int) (A0 : Option Addr) (n0 m0 : Nat) (y0 y1 : Int) (A1 : Option Addr) (n1 m1 : Nat) (hn0 : n0 ≤ maxLen) (hn1 : n1 ≤ maxLen) (hno : ¬ Wok z0 z1 z2 n0 y0 y1 n1) (U : World) :
    Calls Try.prog 51 #[.agg #[.int .i64 z0, .int .i64 z1, .int .i64 z2, .slice A0 n0 m0], .agg #[.int .i64 y0, .int .i64 y1, .slice A1 n1 m1]] U fun e U' => e = .returned (.bool false) ∧ Ext U U' := by
  by_cases hv : VVol z0 z1 z2 n0
  · by_cases hm : VMap y0 y1 n1
    · by_cases h0 : z0 = y0
      · exact implIsWhole_no4 z0 z1 z2 A0 n0 m0 y0 y1 A1 n1 m1 hn0 hn1 hv hm h0 (fun h1 => hno ⟨hv, hm, h0, h1⟩) U
      · exact implIsWhole_no3 z0 z1 z2 A0 n0 m0 y0 y1 A1 n1 m1 hn0 hn1 hv hm h0 U
    · exact implIsWhole_no2 z0 z1 z2 A0 n0 m0 y0 y1 A1 n1 m1 hn0 hn1 hv hm U
  · exact implIsWhole_no1 z0 z1 z2 A0 n0 m0 y0 y1 A1 n1 m1 hn0 hn1 hv U
theorem any_bad {dn : Nat} (hd : dn ≤ 8) : ∀ {bs : List Nat}, Words bs → (!bs.any (badP dn)) = bs.all (whole dn)
  | [], _ => rfl
  | b :: l, hw => by
    rw [List.any_cons, List.all_cons, Bool.not_or, bad_whole (hw b (List.mem_cons_self ..)) hd, Bool.not_not, any_bad hd (fun x hx => hw x (List.mem_cons_of_mem _ hx))]
theorem implIsWhole_yes (wn hn dn : Nat) (A0 : Option Addr) (n0 m0 : Nat) (A1 : Option Addr) (n1 m1 : Nat) (bs : List Nat) (hn0 : n0 ≤ maxLen) (hn1 : n1 ≤ maxLen) (hv : VVol wn hn dn n0) (hm : VMap wn hn n1) (U : World) (hr : Reads U A1 n1 bs) (hw : Words bs) :
    Calls Try.prog 51 #[.agg #[.int .i64 wn, .int .i64 hn, .int .i64 dn, .slice A0 n0 m0], .agg #[.int .i64 wn, .int .i64 hn, .slice A1 n1 m1]] U fun e U' => e = .returned (.bool (bs.all (whole dn))) ∧ Ext U U' := by
  have hd8 : dn ≤ 8 := by have := hv.2.2.1; omega
  have hd0 : 0 < dn := by have := hv.2.1; omega
  rw [← any_bad hd8 hw]
  have HK := Lib.hid (fun (W : World) (hx : Ext U W) (hb : Box4 W U.heap.size (.int .i64 wn) (.int .i64 hn) (.int .i64 dn) (.slice A0 n0 m0)) => ContainsFunc_any A1 n1 m1 bs (badP dn) 100 #[.pointer (some ⟨U.heap.size, 0, none⟩)] W hn1 (hr.ext hx) (by kernel_rfl) (fun b W' hW => isWhole1_any b wn hn dn U.heap.size _ W' hd8 hd0 (hb.ext hW)))
  generalize bs.any (badP dn) = r at HK ⊢
  have HVX := Lib.hid hv
  have HMX := Lib.hid hm
  clear hv hm
  clear hr hw
  go_enter Try.func51, Try.ntmps51
  go_wp2_with fail
  refine calls_at (X := fun w' => Ext U w' ∧ Box4 w' U.heap.size (.int .i64 wn) (.int .i64 hn) (.int .i64 dn) (.slice A0 n0 m0) ∧ Box3 w' (U.heap.size + 1) (.int .i64 wn) (.int .i64 hn) (.slice A1 n1 m1)) ⟨((Ext.refl _).alloc _).alloc _, ⟨by simp [go_sem], by simp [go_sem], by simp [go_sem], by simp [go_sem]⟩, ⟨by simp [go_sem], by simp [go_sem], by simp [go_sem]⟩⟩ ?_
  rintro w0 ⟨hx0, hb0, hq0⟩
  refine (ValidVolume_yes _ _ _ A0 n0 m0 _ hn0 HVX.out).mono ?_
  rintro e w1 ⟨rfl, hx⟩
  replace hx0 := hx0.trans hx
  replace hb0 := hb0.ext hx
  replace hq0 := hq0.ext hx
  clear hx
  have ⟨p0, p1, p2, p3⟩ := hb0
  have ⟨q0, q1, q2⟩ := hq0
  go_wp2_with fail
  clear p0 p1 p2 p3 q0 q1 q2
  refine (ValidMap_yes _ _ A1 n1 m1 _ hn1 HMX.out).mono ?_
  rintro e w2 ⟨rfl, hx⟩
  replace hx0 := hx0.trans hx
  replace hb0 := hb0.ext hx
  replace hq0 := hq0.ext hx
  clear hx
  have ⟨p0, p1, p2, p3⟩ := hb0
  have ⟨q0, q1, q2⟩ := hq0
  go_wp2_with fail
  clear p0 p1 p2 p3 q0 q1 q2
  refine (HK.out w2 hx0 hb0).mono ?_
  rintro e w3 ⟨rfl, hx⟩
  go_wp2
  go_ret
  exact ⟨rfl, hx0.trans hx⟩
end Go.Proofs.Ytgpobhpcbgenoaa
