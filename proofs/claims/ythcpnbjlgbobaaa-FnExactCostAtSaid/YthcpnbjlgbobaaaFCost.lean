/- The law on CostAt holds. -/
import Derived.Test.YthcpnbjlgbobaaaVols
import Derived.Test.YthcpnbjlgbobaaaSame
import Derived.Test.YthcpnbjlgbobaaaCCostAt
namespace Go.Proofs.Ythcpnbjlgbobaaa
open Go.RowKit
set_option linter.unusedVariables false

/-- The number of a cell, of a right volume. -/
theorem vcell {w h x y : Int} {dn n : Nat} (hv : VVol w h dn n) (hx : 0 ≤ x ∧ x ≤ w - 1) (hy : 0 ≤ y ∧ y ≤ h - 1) :
    ∃ q : Nat, x + w * y = q ∧ q * dn + dn ≤ n ∧ IntKind.i64.wrap (w * y) = w * y ∧ IntKind.i64.wrap (x + w * y) = q ∧ q ≤ 256 ∧ q * dn ≤ 2048 ∧ cellN w x y = q := by
  have hb := idx_bound hx.1 hx.2 hy.1 hy.2 hv.1.1
  have h5 := hv.1.2.2.2.2
  have h6 := hv.2.2.2
  have h7 := hv.2.2.1
  refine ⟨(x + w * y).toNat, by omega, ?_, wrap_small _ (by omega) (by omega), ?_, by omega, ?_, rfl⟩
  · have h8 : (((x + w * y).toNat : Nat) : Int) = x + w * y := by omega
    have h9 : ((x + w * y) + 1) * (dn : Int) ≤ w * h * (dn : Int) := Int.mul_le_mul_of_nonneg_right (by omega) (by omega)
    rw [← h6, Int.add_mul, Int.one_mul, ← h8] at h9
    have h10 : (((x + w * y).toNat * dn : Nat) : Int) = ((x + w * y).toNat : Int) * (dn : Int) := by simp
    omega
  · rw [show (((x + w * y).toNat : Nat) : Int) = x + w * y by omega]; exact wrap_small _ (by omega) (by omega)
  · exact Nat.le_trans (Nat.mul_le_mul (show (x + w * y).toNat ≤ 256 by omega) (show dn ≤ 8 by omega)) (by omega)
theorem sub_getD (bs : List Nat) (k d e : Nat) (he : e < d) : ((bs.drop k).take d).getD e 0 = bs.getD (k + e) 0 := by
  simp [List.getD_eq_getElem?_getD, he, List.getElem?_drop]

set_option maxHeartbeats 1000000 in
theorem specCostAt_yes (w h : Int) (dn : Nat) (A : Option Addr) (n c : Nat) (bs : List Nat) (x y e : Int) (U : World) (hnc : n ≤ c) (hcm : c ≤ maxLen) (hr : Reads U A n bs) (hw : Words bs) (hv : VVol w h dn n) (hx : 0 ≤ x ∧ x ≤ w - 1) (hy : 0 ≤ y ∧ y ≤ h - 1) (he : 0 ≤ e ∧ e ≤ (dn : Int) - 1) :
    Calls Try.prog 35 #[.agg #[.int .i64 w, .int .i64 h, .int .i64 dn, .slice A n c], .int .i64 x, .int .i64 y, .int .i64 e] U fun e' U' => ∃ r, e' = .returned (.tuple #[.float .f32 r, .bool true]) ∧ Is r (nrm (bs.getD (cellN w x y * dn + e.toNat) 0)) ∧ Ext U U' := by
  have HV := Lib.hid hv
  obtain ⟨q, hq, hqn, hmul, hadd, hq2, hq3, hcn⟩ := vcell hv hx hy
  rw [hcn]
  obtain ⟨en, rfl⟩ := Int.eq_ofNat_of_zero_le he.1
  have hen : en < dn := by omega
  rw [show ((en : Int)).toNat = en from rfl]
  obtain ⟨k, hk⟩ : ∃ k, q * dn = k := ⟨_, rfl⟩
  rw [hk] at hqn hq3 ⊢
  have hwd := word_at hw (k + en)
  obtain ⟨v, hvv⟩ : ∃ v, bs.getD (k + en) 0 = v := ⟨_, rfl⟩
  rw [hvv] at hwd ⊢
  have HVV := Lib.hid hvv
  have HQ := Lib.hid hq
  have HK := Lib.hid hk
  have hmul2 : IntKind.i64.wrap ((q : Int) * (dn : Int)) = k := by
    have : (q : Int) * (dn : Int) = (k : Int) := by rw [← hk]; simp
    rw [this]; exact wrap_small _ (by omega) (by omega)
  have hadd2 : IntKind.i64.wrap ((k : Int) + (en : Int)) = ((k + en : Nat) : Int) := by
    rw [show ((k : Int) + (en : Int)) = ((k + en : Nat) : Int) by simp]; exact wrap_small _ (by omega) (by have := hv.2.2.1; omega)
  have HX := Lib.hid hx
  have HY := Lib.hid hy
  have HE := Lib.hid he
  have hw1 : IntKind.i64.wrap (w - 1) = w - 1 := wrap_small _ (by have := hv.1.1; omega) (by have := hv.1.2.1; omega)
  have hh1 : IntKind.i64.wrap (h - 1) = h - 1 := wrap_small _ (by have := hv.1.2.2.1; omega) (by have := hv.1.2.2.2.1; omega)
  have hd1 : IntKind.i64.wrap ((dn : Int) - 1) = (dn : Int) - 1 := wrap_small _ (by have := hv.2.1; omega) (by have := hv.2.2.1; omega)
  have HSz := Lib.hid hv.1
  have hdn : 0 < dn := by omega
  have hmax : c ≤ maxLen := hcm
  clear hv hx hy he hw hvv hq hk hcn
  go_enter Try.func35, Try.ntmps35
  go_wp2_with fail
  refine calls_at (X := fun w' => Ext U w' ∧ Box4 w' U.heap.size (.int .i64 w) (.int .i64 h) (.int .i64 dn) (.slice A n c)) ⟨(Ext.refl _).alloc _, by simp [go_sem], by simp [go_sem], by simp [go_sem], by simp [go_sem]⟩ ?_
  rintro w0 ⟨hx0, hb0⟩
  refine (l03Is_yes U.heap.size w h dn A n c _ (Nat.le_trans hnc hcm) hb0.1 hb0.2.1 hb0.2.2.1 hb0.2.2.2 HV.out).mono ?_
  rintro e' w1 ⟨rfl, hx⟩
  have hb := hb0.ext hx
  have hE := hx0.trans hx
  have hr1 := hr.ext hE
  have ⟨c0, c1, c2, c3⟩ := hb
  clear hx hx0 hb0 hr
  unfold maxLen at hmax
  obtain ⟨gb, off, rfl, hl⟩ := hr1.2 (by omega)
  have hc := hl (k + en) (by rw [hr1.1]; omega)
  rw [HVV.out] at hc
  have hk1 : ((k + en : Nat) : Int) < (n : Int) := by omega
  have hk0 : (0 : Int) ≤ ((k + en : Nat) : Int) := by omega
  generalize k + en = j at *
  clear hl hr1
  go_wp2_with (go_at_call 67; (first | with_reducible refine (l00In_yes x 0 (w - 1) _ HX.out.1 HX.out.2).mono ?_ | with_reducible refine (l00In_yes y 0 (h - 1) _ HY.out.1 HY.out.2).mono ?_ | with_reducible refine (l00In_yes (en : Int) 0 ((dn : Int) - 1) _ HE.out.1 HE.out.2).mono ?_); rintro e' w' ⟨rfl, rfl⟩)
  go_ret2
  exact ⟨_, rfl, ⟨hwd, rfl⟩, hE⟩
theorem specCostAt_no1 (w h : Int) (dn : Nat) (A : Option Addr) (n c : Nat) (bs : List Nat) (x y e : Int) (U : World) (hnc : n ≤ c) (hcm : c ≤ maxLen) (hr : Reads U A n bs) (hv : ¬ VVol w h dn n) :
    Calls Try.prog 35 #[.agg #[.int .i64 w, .int .i64 h, .int .i64 dn, .slice A n c], .int .i64 x, .int .i64 y, .int .i64 e] U fun e' U' => ∃ r, e' = .returned (.tuple #[.float .f32 r, .bool false]) ∧ Is r 0 ∧ Ext U U' := by
  have HV := Lib.hid hv
  clear hv
  go_enter Try.func35, Try.ntmps35
  go_wp2_with fail
  refine calls_at (X := fun w' => Ext U w' ∧ Box4 w' U.heap.size (.int .i64 w) (.int .i64 h) (.int .i64 dn) (.slice A n c)) ⟨(Ext.refl _).alloc _, by simp [go_sem], by simp [go_sem], by simp [go_sem], by simp [go_sem]⟩ ?_
  rintro w0 ⟨hx0, hb0⟩
  refine (l03Is_not U.heap.size w h dn A n c _ (Nat.le_trans hnc hcm) hb0.1 hb0.2.1 hb0.2.2.1 hb0.2.2.2 HV.out).mono ?_
  rintro e' w1 ⟨rfl, hx⟩
  have hb := hb0.ext hx
  have hE := hx0.trans hx
  have hr1 := hr.ext hE
  have ⟨c0, c1, c2, c3⟩ := hb
  clear hx hx0 hb0 hr
  go_wp2
  go_ret2
  exact ⟨_, rfl, ⟨by omega, by decide +kernel⟩, hE⟩
theorem specCostAt_no2 (w h : Int) (dn : Nat) (A : Option Addr) (n c : Nat) (bs : List Nat) (x y e : Int) (U : World) (hnc : n ≤ c) (hcm : c ≤ maxLen) (hr : Reads U A n bs) (hv : VVol w h dn n) (hx : x < 0 ∨ w - 1 < x) :
    Calls Try.prog 35 #[.agg #[.int .i64 w, .int .i64 h, .int .i64 dn, .slice A n c], .int .i64 x, .int .i64 y, .int .i64 e] U fun e' U' => ∃ r, e' = .returned (.tuple #[.float .f32 r, .bool false]) ∧ Is r 0 ∧ Ext U U' := by
  have HV := Lib.hid hv
  have HX := Lib.hid hx
  have hw1 : IntKind.i64.wrap (w - 1) = w - 1 := wrap_small _ (by have := hv.1.1; omega) (by have := hv.1.2.1; omega)
  have hh1 : IntKind.i64.wrap (h - 1) = h - 1 := wrap_small _ (by have := hv.1.2.2.1; omega) (by have := hv.1.2.2.2.1; omega)
  have hd1 : IntKind.i64.wrap ((dn : Int) - 1) = (dn : Int) - 1 := wrap_small _ (by have := hv.2.1; omega) (by have := hv.2.2.1; omega)
  have HSz := Lib.hid hv.1
  clear hv hx
  go_enter Try.func35, Try.ntmps35
  go_wp2_with fail
  refine calls_at (X := fun w' => Ext U w' ∧ Box4 w' U.heap.size (.int .i64 w) (.int .i64 h) (.int .i64 dn) (.slice A n c)) ⟨(Ext.refl _).alloc _, by simp [go_sem], by simp [go_sem], by simp [go_sem], by simp [go_sem]⟩ ?_
  rintro w0 ⟨hx0, hb0⟩
  refine (l03Is_yes U.heap.size w h dn A n c _ (Nat.le_trans hnc hcm) hb0.1 hb0.2.1 hb0.2.2.1 hb0.2.2.2 HV.out).mono ?_
  rintro e' w1 ⟨rfl, hx⟩
  have hb := hb0.ext hx
  have hE := hx0.trans hx
  have hr1 := hr.ext hE
  have ⟨c0, c1, c2, c3⟩ := hb
  clear hx hx0 hb0 hr
  go_wp2_with (go_at_call 67; (first | with_reducible refine (l00In_no x 0 (w - 1) _ HX.out).mono ?_); rintro e' w' ⟨rfl, rfl⟩)
  go_ret2
  exact ⟨_, rfl, ⟨by omega, by decide +kernel⟩, hE⟩
theorem specCostAt_no3 (w h : Int) (dn : Nat) (A : Option Addr) (n c : Nat) (bs : List Nat) (x y e : Int) (U : World) (hnc : n ≤ c) (hcm : c ≤ maxLen) (hr : Reads U A n bs) (hv : VVol w h dn n) (hx : 0 ≤ x ∧ x ≤ w - 1) (hy : y < 0 ∨ h - 1 < y) :
    Calls Try.prog 35 #[.agg #[.int .i64 w, .int .i64 h, .int .i64 dn, .slice A n c], .int .i64 x, .int .i64 y, .int .i64 e] U fun e' U' => ∃ r, e' = .returned (.tuple #[.float .f32 r, .bool false]) ∧ Is r 0 ∧ Ext U U' := by
  have HV := Lib.hid hv
  have HX := Lib.hid hx
  have HY := Lib.hid hy
  have hw1 : IntKind.i64.wrap (w - 1) = w - 1 := wrap_small _ (by have := hv.1.1; omega) (by have := hv.1.2.1; omega)
  have hh1 : IntKind.i64.wrap (h - 1) = h - 1 := wrap_small _ (by have := hv.1.2.2.1; omega) (by have := hv.1.2.2.2.1; omega)
  have hd1 : IntKind.i64.wrap ((dn : Int) - 1) = (dn : Int) - 1 := wrap_small _ (by have := hv.2.1; omega) (by have := hv.2.2.1; omega)
  have HSz := Lib.hid hv.1
  clear hv hx hy
  go_enter Try.func35, Try.ntmps35
  go_wp2_with fail
  refine calls_at (X := fun w' => Ext U w' ∧ Box4 w' U.heap.size (.int .i64 w) (.int .i64 h) (.int .i64 dn) (.slice A n c)) ⟨(Ext.refl _).alloc _, by simp [go_sem], by simp [go_sem], by simp [go_sem], by simp [go_sem]⟩ ?_
  rintro w0 ⟨hx0, hb0⟩
  refine (l03Is_yes U.heap.size w h dn A n c _ (Nat.le_trans hnc hcm) hb0.1 hb0.2.1 hb0.2.2.1 hb0.2.2.2 HV.out).mono ?_
  rintro e' w1 ⟨rfl, hx⟩
  have hb := hb0.ext hx
  have hE := hx0.trans hx
  have hr1 := hr.ext hE
  have ⟨c0, c1, c2, c3⟩ := hb
  clear hx hx0 hb0 hr
  go_wp2_with (go_at_call 67; (first | with_reducible refine (l00In_yes x 0 (w - 1) _ HX.out.1 HX.out.2).mono ?_ | with_reducible refine (l00In_no y 0 (h - 1) _ HY.out).mono ?_); rintro e' w' ⟨rfl, rfl⟩)
  go_ret2
  exact ⟨_, rfl, ⟨by omega, by decide +kernel⟩, hE⟩
theorem specCostAt_no4 (w h : Int) (dn : Nat) (A : Option Addr) (n c : Nat) (bs : List Nat) (x y e : Int) (U : World) (hnc : n ≤ c) (hcm : c ≤ maxLen) (hr : Reads U A n bs) (hv : VVol w h dn n) (hx : 0 ≤ x ∧ x ≤ w - 1) (hy : 0 ≤ y ∧ y ≤ h - 1) (he : e < 0 ∨ (dn : Int) - 1 < e) :
    Calls Try.prog 35 #[.agg #[.int .i64 w, .int .i64 h, .int .i64 dn, .slice A n c], .int .i64 x, .int .i64 y, .int .i64 e] U fun e' U' => ∃ r, e' = .returned (.tuple #[.float .f32 r, .bool false]) ∧ Is r 0 ∧ Ext U U' := by
  have HV := Lib.hid hv
  have HX := Lib.hid hx
  have HY := Lib.hid hy
  have HE := Lib.hid he
  have hw1 : IntKind.i64.wrap (w - 1) = w - 1 := wrap_small _ (by have := hv.1.1; omega) (by have := hv.1.2.1; omega)
  have hh1 : IntKind.i64.wrap (h - 1) = h - 1 := wrap_small _ (by have := hv.1.2.2.1; omega) (by have := hv.1.2.2.2.1; omega)
  have hd1 : IntKind.i64.wrap ((dn : Int) - 1) = (dn : Int) - 1 := wrap_small _ (by have := hv.2.1; omega) (by have := hv.2.2.1; omega)
  have HSz := Lib.hid hv.1
  clear hv hx hy he
  go_enter Try.func35, Try.ntmps35
  go_wp2_with fail
  refine calls_at (X := fun w' => Ext U w' ∧ Box4 w' U.heap.size (.int .i64 w) (.int .i64 h) (.int .i64 dn) (.slice A n c)) ⟨(Ext.refl _).alloc _, by simp [go_sem], by simp [go_sem], by simp [go_sem], by simp [go_sem]⟩ ?_
  rintro w0 ⟨hx0, hb0⟩
  refine (l03Is_yes U.heap.size w h dn A n c _ (Nat.le_trans hnc hcm) hb0.1 hb0.2.1 hb0.2.2.1 hb0.2.2.2 HV.out).mono ?_
  rintro e' w1 ⟨rfl, hx⟩
  have hb := hb0.ext hx
  have hE := hx0.trans hx
  have hr1 := hr.ext hE
  have ⟨c0, c1, c2, c3⟩ := hb
  clear hx hx0 hb0 hr
  go_wp2_with (go_at_call 67; (first | with_reducible refine (l00In_yes x 0 (w - 1) _ HX.out.1 HX.out.2).mono ?_ | with_reducible refine (l00In_yes y 0 (h - 1) _ HY.out.1 HY.out.2).mono ?_ | with_reducible refine (l00In_no e 0 ((dn : Int) - 1) _ HE.out).mono ?_); rintro e' w' ⟨rfl, rfl⟩)
  go_ret2
  exact ⟨_, rfl, ⟨by omega, by decide +kernel⟩, hE⟩
theorem specCostAt_no (w h : Int) (dn : Nat) (A : Option Addr) (n c : Nat) (bs : List Nat) (x y e : Int) (U : World) (hnc : n ≤ c) (hcm : c ≤ maxLen) (hr : Reads U A n bs) (hv : ¬ (VVol w h dn n ∧ (0 ≤ x ∧ x ≤ w - 1) ∧ (0 ≤ y ∧ y ≤ h - 1) ∧ 0 ≤ e ∧ e ≤ (dn : Int) - 1)) :
    Calls Try.prog 35 #[.agg #[.int .i64 w, .int .i64 h, .int .i64 dn, .slice A n c], .int .i64 x, .int .i64 y, .int .i64 e] U fun e' U' => ∃ r, e' = .returned (.tuple #[.float .f32 r, .bool false]) ∧ Is r 0 ∧ Ext U U' := by
  by_cases hv1 : VVol w h dn n
  · by_cases hx : 0 ≤ x ∧ x ≤ w - 1
    · by_cases hy : 0 ≤ y ∧ y ≤ h - 1
      · exact specCostAt_no4 w h dn A n c bs x y e U hnc hcm hr hv1 hx hy (Decidable.byContradiction fun he => hv ⟨hv1, hx, hy, by omega⟩)
      · exact specCostAt_no3 w h dn A n c bs x y e U hnc hcm hr hv1 hx (by omega)
    · exact specCostAt_no2 w h dn A n c bs x y e U hnc hcm hr hv1 (by omega)
  · exact specCostAt_no1 w h dn A n c bs x y e U hnc hcm hr hv1
set_option maxHeartbeats 1000000 in
theorem implCostAt_yes (w h : Int) (dn : Nat) (A : Option Addr) (n c : Nat) (bs : List Nat) (x y e : Int) (U : World) (hnc : n ≤ c) (hcm : c ≤ maxLen) (hr : Reads U A n bs) (hw : Words bs) (hv : VVol w h dn n) (hx : 0 ≤ x ∧ x ≤ w - 1) (hy : 0 ≤ y ∧ y ≤ h - 1) (he : 0 ≤ e ∧ e ≤ (dn : Int) - 1) :
    Calls Try.prog 36 #[.agg #[.int .i64 w, .int .i64 h, .int .i64 dn, .slice A n c], .int .i64 x, .int .i64 y, .int .i64 e] U fun e' U' => ∃ r, e' = .returned (.tuple #[.float .f32 r, .bool true]) ∧ Is r (nrm (bs.getD (cellN w x y * dn + e.toNat) 0)) ∧ Ext U U' := by
  have HV := Lib.hid hv
  obtain ⟨q, hq, hqn, hmul, hadd, hq2, hq3, hcn⟩ := vcell hv hx hy
  rw [hcn]
  obtain ⟨en, rfl⟩ := Int.eq_ofNat_of_zero_le he.1
  have hen : en < dn := by omega
  rw [show ((en : Int)).toNat = en from rfl]
  obtain ⟨k, hk⟩ : ∃ k, q * dn = k := ⟨_, rfl⟩
  rw [hk] at hqn hq3 ⊢
  have hwd := word_at hw (k + en)
  obtain ⟨v, hvv⟩ : ∃ v, bs.getD (k + en) 0 = v := ⟨_, rfl⟩
  rw [hvv] at hwd ⊢
  have HVV := Lib.hid hvv
  have HQ := Lib.hid hq
  have HK := Lib.hid hk
  have hmul2 : IntKind.i64.wrap ((q : Int) * (dn : Int)) = k := by
    have : (q : Int) * (dn : Int) = (k : Int) := by rw [← hk]; simp
    rw [this]; exact wrap_small _ (by omega) (by omega)
  have hadd2 : IntKind.i64.wrap ((k : Int) + (en : Int)) = ((k + en : Nat) : Int) := by
    rw [show ((k : Int) + (en : Int)) = ((k + en : Nat) : Int) by simp]; exact wrap_small _ (by omega) (by have := hv.2.2.1; omega)
  have HX := Lib.hid hx
  have HY := Lib.hid hy
  have HE := Lib.hid he
  have hw1 : IntKind.i64.wrap (w - 1) = w - 1 := wrap_small _ (by have := hv.1.1; omega) (by have := hv.1.2.1; omega)
  have hh1 : IntKind.i64.wrap (h - 1) = h - 1 := wrap_small _ (by have := hv.1.2.2.1; omega) (by have := hv.1.2.2.2.1; omega)
  have hd1 : IntKind.i64.wrap ((dn : Int) - 1) = (dn : Int) - 1 := wrap_small _ (by have := hv.2.1; omega) (by have := hv.2.2.1; omega)
  have HSz := Lib.hid hv.1
  have hdn : 0 < dn := by omega
  have hmax : c ≤ maxLen := hcm
  clear hv hx hy he hw hvv hq hk hcn
  go_enter Try.func36, Try.ntmps36
  go_wp2_with fail
  refine calls_at (X := fun w' => Ext U w' ∧ Box4 w' U.heap.size (.int .i64 w) (.int .i64 h) (.int .i64 dn) (.slice A n c)) ⟨(Ext.refl _).alloc _, by simp [go_sem], by simp [go_sem], by simp [go_sem], by simp [go_sem]⟩ ?_
  rintro w0 ⟨hx0, hb0⟩
  refine (ValidVolume_yes w h dn A n c _ (Nat.le_trans hnc hcm) HV.out).mono ?_
  rintro e' w1 ⟨rfl, hx⟩
  have hb := hb0.ext hx
  have hE := hx0.trans hx
  have hr1 := hr.ext hE
  have ⟨c0, c1, c2, c3⟩ := hb
  clear hx hx0 hb0 hr
  go_wp2_with (first | (go_at_call 70; with_reducible refine (volHas_yes _ w h x y _ c0 c1 HSz.out HX.out HY.out).mono ?_; rintro e' w' ⟨rfl, rfl⟩) | (go_at_call 56; (first | with_reducible refine (implIn_yes (en : Int) 0 ((dn : Int) - 1) _ HE.out.1 HE.out.2).mono ?_); rintro e' w' ⟨rfl, rfl⟩))
  refine (cell_any _ w h dn A n c bs x y q k _ hb hr1 hnc hcm HQ.out HK.out hqn hdn hmul).mono ?_
  rintro e' w2 ⟨a, rfl, hrd, hx2⟩
  obtain ⟨gb, off, rfl, hl⟩ : ∃ gb off, a = ⟨gb, off, none⟩ ∧ Lies w2 gb off ((bs.drop k).take dn) := by
    obtain ⟨gb, off, h1, h2⟩ := hrd.2 hdn
    exact ⟨gb, off, by simpa using h1, h2⟩
  have hc := hl en (by rw [hrd.1]; exact hen)
  rw [sub_getD bs k dn en hen, HVV.out] at hc
  have hk1 : (en : Int) < (dn : Int) := by omega
  have hk0 : (0 : Int) ≤ (en : Int) := by omega
  have hdm : dn ≤ 8 := by have := HV.out.2.2.1; omega
  clear hl hrd hb hr1
  go_wp2
  go_ret2
  exact ⟨_, rfl, ⟨hwd, rfl⟩, hE.trans hx2⟩
theorem implCostAt_no1 (w h : Int) (dn : Nat) (A : Option Addr) (n c : Nat) (bs : List Nat) (x y e : Int) (U : World) (hnc : n ≤ c) (hcm : c ≤ maxLen) (hr : Reads U A n bs) (hv : ¬ VVol w h dn n) :
    Calls Try.prog 36 #[.agg #[.int .i64 w, .int .i64 h, .int .i64 dn, .slice A n c], .int .i64 x, .int .i64 y, .int .i64 e] U fun e' U' => ∃ r, e' = .returned (.tuple #[.float .f32 r, .bool false]) ∧ Is r 0 ∧ Ext U U' := by
  have HV := Lib.hid hv
  clear hv
  go_enter Try.func36, Try.ntmps36
  go_wp2_with fail
  refine calls_at (X := fun w' => Ext U w' ∧ Box4 w' U.heap.size (.int .i64 w) (.int .i64 h) (.int .i64 dn) (.slice A n c)) ⟨(Ext.refl _).alloc _, by simp [go_sem], by simp [go_sem], by simp [go_sem], by simp [go_sem]⟩ ?_
  rintro w0 ⟨hx0, hb0⟩
  refine (ValidVolume_not w h dn A n c _ (Nat.le_trans hnc hcm) HV.out).mono ?_
  rintro e' w1 ⟨rfl, hx⟩
  have hb := hb0.ext hx
  have hE := hx0.trans hx
  have hr1 := hr.ext hE
  have ⟨c0, c1, c2, c3⟩ := hb
  clear hx hx0 hb0 hr
  go_wp2
  go_ret2
  exact ⟨_, rfl, ⟨by omega, by decide +kernel⟩, hE⟩
theorem implCostAt_no23 (w h : Int) (dn : Nat) (A : Option Addr) (n c : Nat) (bs : List Nat) (x y e : Int) (U : World) (hnc : n ≤ c) (hcm : c ≤ maxLen) (hr : Reads U A n bs) (hv : VVol w h dn n) (hx : ¬ ((0 ≤ x ∧ x ≤ w - 1) ∧ 0 ≤ y ∧ y ≤ h - 1)) :
    Calls Try.prog 36 #[.agg #[.int .i64 w, .int .i64 h, .int .i64 dn, .slice A n c], .int .i64 x, .int .i64 y, .int .i64 e] U fun e' U' => ∃ r, e' = .returned (.tuple #[.float .f32 r, .bool false]) ∧ Is r 0 ∧ Ext U U' := by
  have HV := Lib.hid hv
  have HX := Lib.hid hx
  have hw1 : IntKind.i64.wrap (w - 1) = w - 1 := wrap_small _ (by have := hv.1.1; omega) (by have := hv.1.2.1; omega)
  have hh1 : IntKind.i64.wrap (h - 1) = h - 1 := wrap_small _ (by have := hv.1.2.2.1; omega) (by have := hv.1.2.2.2.1; omega)
  have hd1 : IntKind.i64.wrap ((dn : Int) - 1) = (dn : Int) - 1 := wrap_small _ (by have := hv.2.1; omega) (by have := hv.2.2.1; omega)
  have HSz := Lib.hid hv.1
  clear hv hx
  go_enter Try.func36, Try.ntmps36
  go_wp2_with fail
  refine calls_at (X := fun w' => Ext U w' ∧ Box4 w' U.heap.size (.int .i64 w) (.int .i64 h) (.int .i64 dn) (.slice A n c)) ⟨(Ext.refl _).alloc _, by simp [go_sem], by simp [go_sem], by simp [go_sem], by simp [go_sem]⟩ ?_
  rintro w0 ⟨hx0, hb0⟩
  refine (ValidVolume_yes w h dn A n c _ (Nat.le_trans hnc hcm) HV.out).mono ?_
  rintro e' w1 ⟨rfl, hx⟩
  have hb := hb0.ext hx
  have hE := hx0.trans hx
  have hr1 := hr.ext hE
  have ⟨c0, c1, c2, c3⟩ := hb
  clear hx hx0 hb0 hr
  go_wp2_with (go_at_call 70; with_reducible refine (volHas_no _ w h x y _ c0 c1 HSz.out HX.out).mono ?_; rintro e' w' ⟨rfl, rfl⟩)
  go_ret2
  exact ⟨_, rfl, ⟨by omega, by decide +kernel⟩, hE⟩
theorem implCostAt_no4 (w h : Int) (dn : Nat) (A : Option Addr) (n c : Nat) (bs : List Nat) (x y e : Int) (U : World) (hnc : n ≤ c) (hcm : c ≤ maxLen) (hr : Reads U A n bs) (hv : VVol w h dn n) (hx : 0 ≤ x ∧ x ≤ w - 1) (hy : 0 ≤ y ∧ y ≤ h - 1) (he : e < 0 ∨ (dn : Int) - 1 < e) :
    Calls Try.prog 36 #[.agg #[.int .i64 w, .int .i64 h, .int .i64 dn, .slice A n c], .int .i64 x, .int .i64 y, .int .i64 e] U fun e' U' => ∃ r, e' = .returned (.tuple #[.float .f32 r, .bool false]) ∧ Is r 0 ∧ Ext U U' := by
  have HV := Lib.hid hv
  have HX := Lib.hid hx
  have HY := Lib.hid hy
  have HE := Lib.hid he
  have hw1 : IntKind.i64.wrap (w - 1) = w - 1 := wrap_small _ (by have := hv.1.1; omega) (by have := hv.1.2.1; omega)
  have hh1 : IntKind.i64.wrap (h - 1) = h - 1 := wrap_small _ (by have := hv.1.2.2.1; omega) (by have := hv.1.2.2.2.1; omega)
  have hd1 : IntKind.i64.wrap ((dn : Int) - 1) = (dn : Int) - 1 := wrap_small _ (by have := hv.2.1; omega) (by have := hv.2.2.1; omega)
  have HSz := Lib.hid hv.1
  clear hv hx hy he
  go_enter Try.func36, Try.ntmps36
  go_wp2_with fail
  refine calls_at (X := fun w' => Ext U w' ∧ Box4 w' U.heap.size (.int .i64 w) (.int .i64 h) (.int .i64 dn) (.slice A n c)) ⟨(Ext.refl _).alloc _, by simp [go_sem], by simp [go_sem], by simp [go_sem], by simp [go_sem]⟩ ?_
  rintro w0 ⟨hx0, hb0⟩
  refine (ValidVolume_yes w h dn A n c _ (Nat.le_trans hnc hcm) HV.out).mono ?_
  rintro e' w1 ⟨rfl, hx⟩
  have hb := hb0.ext hx
  have hE := hx0.trans hx
  have hr1 := hr.ext hE
  have ⟨c0, c1, c2, c3⟩ := hb
  clear hx hx0 hb0 hr
  go_wp2_with (first | (go_at_call 70; with_reducible refine (volHas_yes _ w h x y _ c0 c1 HSz.out HX.out HY.out).mono ?_; rintro e' w' ⟨rfl, rfl⟩) | (go_at_call 56; (first | with_reducible refine (implIn_no e 0 ((dn : Int) - 1) _ HE.out).mono ?_); rintro e' w' ⟨rfl, rfl⟩))
  go_ret2
  exact ⟨_, rfl, ⟨by omega, by decide +kernel⟩, hE⟩
theorem implCostAt_no (w h : Int) (dn : Nat) (A : Option Addr) (n c : Nat) (bs : List Nat) (x y e : Int) (U : World) (hnc : n ≤ c) (hcm : c ≤ maxLen) (hr : Reads U A n bs) (hv : ¬ (VVol w h dn n ∧ (0 ≤ x ∧ x ≤ w - 1) ∧ (0 ≤ y ∧ y ≤ h - 1) ∧ 0 ≤ e ∧ e ≤ (dn : Int) - 1)) :
    Calls Try.prog 36 #[.agg #[.int .i64 w, .int .i64 h, .int .i64 dn, .slice A n c], .int .i64 x, .int .i64 y, .int .i64 e] U fun e' U' => ∃ r, e' = .returned (.tuple #[.float .f32 r, .bool false]) ∧ Is r 0 ∧ Ext U U' := by
  by_cases hv1 : VVol w h dn n
  · by_cases hx : 0 ≤ x ∧ x ≤ w - 1
    · by_cases hy : 0 ≤ y ∧ y ≤ h - 1
      · exact implCostAt_no4 w h dn A n c bs x y e U hnc hcm hr hv1 hx hy (Decidable.byContradiction fun he => hv ⟨hv1, hx, hy, by omega⟩)
      · exact implCostAt_no23 w h dn A n c bs x y e U hnc hcm hr hv1 (fun h => hy h.2)
    · exact implCostAt_no23 w h dn A n c bs x y e U hnc hcm hr hv1 (fun h => hx h.1)
  · exact implCostAt_no1 w h dn A n c bs x y e U hnc hcm hr hv1
theorem specCostAt_bad (w h d : Int) (A : Option Addr) (n c : Nat) (bs : List Nat) (x y e : Int) (U : World) (hn : n ≤ maxLen) (hv : ¬ VVol w h d n) :
    Calls Try.prog 35 #[.agg #[.int .i64 w, .int .i64 h, .int .i64 d, .slice A n c], .int .i64 x, .int .i64 y, .int .i64 e] U fun e' U' => ∃ r, e' = .returned (.tuple #[.float .f32 r, .bool false]) ∧ Is r 0 ∧ Ext U U' := by
  have HV := Lib.hid hv
  clear hv
  go_enter Try.func35, Try.ntmps35
  go_wp2_with fail
  refine calls_at (X := fun w' => Ext U w' ∧ Box4 w' U.heap.size (.int .i64 w) (.int .i64 h) (.int .i64 d) (.slice A n c)) ⟨(Ext.refl _).alloc _, by simp [go_sem], by simp [go_sem], by simp [go_sem], by simp [go_sem]⟩ ?_
  rintro w0 ⟨hx0, hb0⟩
  refine (l03Is_not U.heap.size w h d A n c _ hn hb0.1 hb0.2.1 hb0.2.2.1 hb0.2.2.2 HV.out).mono ?_
  rintro e' w1 ⟨rfl, hx⟩
  have hE := hx0.trans hx
  clear hx hx0 hb0
  go_wp2
  go_ret2
  exact ⟨_, rfl, ⟨by omega, by decide +kernel⟩, hE⟩
theorem implCostAt_bad (w h d : Int) (A : Option Addr) (n c : Nat) (bs : List Nat) (x y e : Int) (U : World) (hn : n ≤ maxLen) (hv : ¬ VVol w h d n) :
    Calls Try.prog 36 #[.agg #[.int .i64 w, .int .i64 h, .int .i64 d, .slice A n c], .int .i64 x, .int .i64 y, .int .i64 e] U fun e' U' => ∃ r, e' = .returned (.tuple #[.float .f32 r, .bool false]) ∧ Is r 0 ∧ Ext U U' := by
  have HV := Lib.hid hv
  clear hv
  go_enter Try.func36, Try.ntmps36
  go_wp2_with fail
  refine calls_at (X := fun w' => Ext U w' ∧ Box4 w' U.heap.size (.int .i64 w) (.int .i64 h) (.int .i64 d) (.slice A n c)) ⟨(Ext.refl _).alloc _, by simp [go_sem], by simp [go_sem], by simp [go_sem], by simp [go_sem]⟩ ?_
  rintro w0 ⟨hx0, hb0⟩
  refine (ValidVolume_not w h d A n c _ hn HV.out).mono ?_
  rintro e' w1 ⟨rfl, hx⟩
  have hE := hx0.trans hx
  clear hx hx0 hb0
  go_wp2
  go_ret2
  exact ⟨_, rfl, ⟨by omega, by decide +kernel⟩, hE⟩
theorem specCostAt_neg (w h d : Int) (hd : ¬ 0 ≤ d) (n : Nat) : ¬ VVol w h d n := fun hv => hd (by have := hv.2.1; omega)
theorem lawCostAt_any (W : World) (w h d : Int) (_ : -9223372036854775808 ≤ w ∧ w ≤ 9223372036854775807) (_ : -9223372036854775808 ≤ h ∧ h ≤ 9223372036854775807) (_ : -9223372036854775808 ≤ d ∧ d ≤ 9223372036854775807) (A : Option Addr) (n c : Nat) (bs : List Nat) (hc : n ≤ c) (hm : c ≤ maxLen) (hr : Reads W A n bs) (hw : Words bs) (x : Int) (_ : IntKind.i64.min ≤ x ∧ x ≤ IntKind.i64.max) (y : Int) (_ : IntKind.i64.min ≤ y ∧ y ≤ IntKind.i64.max) (e : Int) (_ : IntKind.i64.min ≤ e ∧ e ≤ IntKind.i64.max) :
    Calls Try.prog 9 #[.agg #[.int .i64 w, .int .i64 h, .int .i64 d, .slice A n c], .int .i64 x, .int .i64 y, .int .i64 e] W fun e' W' => e' = .returned (.bool true) ∧ Ext W W' := by
  have hn : n ≤ maxLen := Nat.le_trans hc hm
  by_cases hd : 0 ≤ d
  · obtain ⟨dn, rfl⟩ := Int.eq_ofNat_of_zero_le hd
    by_cases hv : VVol w h dn n ∧ (0 ≤ x ∧ x ≤ w - 1) ∧ (0 ≤ y ∧ y ≤ h - 1) ∧ 0 ≤ e ∧ e ≤ (dn : Int) - 1
    · exact lawCostAt_core W w h dn A n c bs hn hr x y e (nrm (bs.getD (cellN w x y * dn + e.toNat) 0)) true (fun W' D hd => specCostAt_yes w h dn D n n bs x y e W' (Nat.le_refl _) hn hd hw hv.1 hv.2.1 hv.2.2.1 hv.2.2.2) (fun W' D hd => implCostAt_yes w h dn D n n bs x y e W' (Nat.le_refl _) hn hd hw hv.1 hv.2.1 hv.2.2.1 hv.2.2.2)
    · exact lawCostAt_core W w h dn A n c bs hn hr x y e 0 false (fun W' D hd => specCostAt_no w h dn D n n bs x y e W' (Nat.le_refl _) hn hd hv) (fun W' D hd => implCostAt_no w h dn D n n bs x y e W' (Nat.le_refl _) hn hd hv)
  · exact lawCostAt_core W w h d A n c bs hn hr x y e 0 false (fun W' D hd' => specCostAt_bad w h d D n n bs x y e W' hn (specCostAt_neg w h d hd n)) (fun W' D hd' => implCostAt_bad w h d D n n bs x y e W' hn (specCostAt_neg w h d hd n))
end Go.Proofs.Ythcpnbjlgbobaaa
