/- The law on RankAt holds. -/
import Derived.Test.YtcekofioiofjbaaRank
import Derived.Test.YtcekofioiofjbaaCRankAt
namespace Go.Proofs.Ytcekofioiofjbaa
open Go.RowKit
set_option linter.unusedVariables false


/-- The grey about a place. -/
def GP (w h : Int) (bs : List Nat) (u v : Int) : Nat := bs.getD (cellN w (clampI u w) (clampI v h)) 0
set_option maxHeartbeats 1000000 in
theorem implRankAt_yes (w h : Int) (A : Option Addr) (n c : Nat) (bs : List Nat) (x y : Int) (r : Nat) (U : World) (hn : n ≤ maxLen) (hr : Reads U A n bs) (hv : VMap w h n) (hx : 0 ≤ x ∧ x ≤ w - 1) (hy : 0 ≤ y ∧ y ≤ h - 1) (hr2 : 1 ≤ r ∧ r ≤ 2) :
    Calls Try.prog 43 #[.agg #[.int .i64 w, .int .i64 h, .slice A n c], .int .i64 x, .int .i64 y, .int .i64 r] U fun e U' => e = .returned (.tuple #[.int .i64 ((rkTo (rkB (GP w h bs) x y r) r (2 * r + 1) : Nat) : Int), .bool true]) ∧ Ext U U' := by
  have HV := Lib.hid hv
  have HSz := Lib.hid hv.1
  have hw1 : IntKind.i64.wrap (w - 1) = w - 1 := wrap_small _ (by have := hv.1.1; omega) (by have := hv.1.2.1; omega)
  have hh1 : IntKind.i64.wrap (h - 1) = h - 1 := wrap_small _ (by have := hv.1.2.2.1; omega) (by have := hv.1.2.2.2.1; omega)
  have HX := Lib.hid hx
  have HY := Lib.hid hy
  have HR : Hid ((1 : Int) ≤ (r : Int) ∧ (r : Int) ≤ 2) := Lib.hid (by omega)
  have HX2 : Hid (0 ≤ x ∧ x ≤ 24) := Lib.hid (by have := hv.1.2.1; omega)
  have HY2 : Hid (0 ≤ y ∧ y ≤ 24) := Lib.hid (by have := hv.1.2.2.2.1; omega)
  have HR2 : Hid (r ≤ 2) := Lib.hid hr2.2
  clear hv hx hy hr2
  go_enter Try.func43, Try.ntmps43
  go_wp2_with fail
  refine calls_at (X := fun w' => Ext U w' ∧ Box3 w' U.heap.size (.int .i64 w) (.int .i64 h) (.slice A n c)) ⟨(Ext.refl _).alloc _, by simp [go_sem], by simp [go_sem], by simp [go_sem]⟩ ?_
  rintro w0 ⟨hx0, hb0⟩
  refine (ValidPicture_yes w h A n c _ hn HV.out).mono ?_
  rintro e w1 ⟨rfl, hx⟩
  have hb := hb0.ext hx
  have hE := hx0.trans hx
  have hr1 := hr.ext hE
  have ⟨c0, c1, c2⟩ := hb
  clear hx hx0 hb0 hr
  go_wp2_with (first | (go_at_call 90; with_reducible refine (picHas_yes _ w h x y _ c0 c1 HSz.out HX.out HY.out).mono ?_; rintro e w' ⟨rfl, rfl⟩) | (go_at_call 71; with_reducible refine (implIn_yes _ _ _ _ HR.out.1 HR.out.2).mono ?_; rintro e w' ⟨rfl, rfl⟩) | (go_at_call 91; with_reducible refine (rank_any _ x y r (GP w h bs) _ HX2.out HY2.out HR2.out (fun W hW u v => about_any _ w h A n c bs u v W (hb.ext hW) (hr1.ext hW) HV.out)).mono ?_; rintro e w' ⟨rfl, hx⟩))
  go_ret2
  exact ⟨rfl, hE.trans hx⟩
theorem implRankAt_no1 (w h : Int) (A : Option Addr) (n c : Nat) (bs : List Nat) (x y : Int) (r : Int) (U : World) (hn : n ≤ maxLen) (hr : Reads U A n bs) (hv : ¬ VMap w h n) :
    Calls Try.prog 43 #[.agg #[.int .i64 w, .int .i64 h, .slice A n c], .int .i64 x, .int .i64 y, .int .i64 r] U fun e U' => e = .returned (.tuple #[.int .i64 0, .bool false]) ∧ Ext U U' := by
  have HV := Lib.hid hv
  clear hv
  go_enter Try.func43, Try.ntmps43
  go_wp2_with fail
  refine calls_at (X := fun w' => Ext U w' ∧ Box3 w' U.heap.size (.int .i64 w) (.int .i64 h) (.slice A n c)) ⟨(Ext.refl _).alloc _, by simp [go_sem], by simp [go_sem], by simp [go_sem]⟩ ?_
  rintro w0 ⟨hx0, hb0⟩
  refine (ValidPicture_not w h A n c _ hn HV.out).mono ?_
  rintro e w1 ⟨rfl, hx⟩
  have hb := hb0.ext hx
  have hE := hx0.trans hx
  have hr1 := hr.ext hE
  have ⟨c0, c1, c2⟩ := hb
  clear hx hx0 hb0 hr
  go_wp2
  go_ret2
  exact ⟨rfl, hE⟩
theorem implRankAt_no2 (w h : Int) (A : Option Addr) (n c : Nat) (bs : List Nat) (x y : Int) (r : Int) (U : World) (hn : n ≤ maxLen) (hr : Reads U A n bs) (hv : VMap w h n) (hx : ¬ ((0 ≤ x ∧ x ≤ w - 1) ∧ 0 ≤ y ∧ y ≤ h - 1)) :
    Calls Try.prog 43 #[.agg #[.int .i64 w, .int .i64 h, .slice A n c], .int .i64 x, .int .i64 y, .int .i64 r] U fun e U' => e = .returned (.tuple #[.int .i64 0, .bool false]) ∧ Ext U U' := by
  have HV := Lib.hid hv
  have HSz := Lib.hid hv.1
  have hw1 : IntKind.i64.wrap (w - 1) = w - 1 := wrap_small _ (by have := hv.1.1; omega) (by have := hv.1.2.1; omega)
  have hh1 : IntKind.i64.wrap (h - 1) = h - 1 := wrap_small _ (by have := hv.1.2.2.1; omega) (by have := hv.1.2.2.2.1; omega)
  have HX := Lib.hid hx
  clear hv hx
  go_enter Try.func43, Try.ntmps43
  go_wp2_with fail
  refine calls_at (X := fun w' => Ext U w' ∧ Box3 w' U.heap.size (.int .i64 w) (.int .i64 h) (.slice A n c)) ⟨(Ext.refl _).alloc _, by simp [go_sem], by simp [go_sem], by simp [go_sem]⟩ ?_
  rintro w0 ⟨hx0, hb0⟩
  refine (ValidPicture_yes w h A n c _ hn HV.out).mono ?_
  rintro e w1 ⟨rfl, hx⟩
  have hb := hb0.ext hx
  have hE := hx0.trans hx
  have hr1 := hr.ext hE
  have ⟨c0, c1, c2⟩ := hb
  clear hx hx0 hb0 hr
  go_wp2_with (go_at_call 90; with_reducible refine (picHas_no _ w h x y _ c0 c1 HSz.out HX.out).mono ?_; rintro e w' ⟨rfl, rfl⟩)
  go_ret2
  exact ⟨rfl, hE⟩
theorem implRankAt_no3 (w h : Int) (A : Option Addr) (n c : Nat) (bs : List Nat) (x y : Int) (r : Int) (U : World) (hn : n ≤ maxLen) (hr : Reads U A n bs) (hv : VMap w h n) (hx : 0 ≤ x ∧ x ≤ w - 1) (hy : 0 ≤ y ∧ y ≤ h - 1) (hr2 : r < 1 ∨ 2 < r) :
    Calls Try.prog 43 #[.agg #[.int .i64 w, .int .i64 h, .slice A n c], .int .i64 x, .int .i64 y, .int .i64 r] U fun e U' => e = .returned (.tuple #[.int .i64 0, .bool false]) ∧ Ext U U' := by
  have HV := Lib.hid hv
  have HSz := Lib.hid hv.1
  have hw1 : IntKind.i64.wrap (w - 1) = w - 1 := wrap_small _ (by have := hv.1.1; omega) (by have := hv.1.2.1; omega)
  have hh1 : IntKind.i64.wrap (h - 1) = h - 1 := wrap_small _ (by have := hv.1.2.2.1; omega) (by have := hv.1.2.2.2.1; omega)
  have HX := Lib.hid hx
  have HY := Lib.hid hy
  have HR := Lib.hid hr2
  clear hv hx hy hr2
  go_enter Try.func43, Try.ntmps43
  go_wp2_with fail
  refine calls_at (X := fun w' => Ext U w' ∧ Box3 w' U.heap.size (.int .i64 w) (.int .i64 h) (.slice A n c)) ⟨(Ext.refl _).alloc _, by simp [go_sem], by simp [go_sem], by simp [go_sem]⟩ ?_
  rintro w0 ⟨hx0, hb0⟩
  refine (ValidPicture_yes w h A n c _ hn HV.out).mono ?_
  rintro e w1 ⟨rfl, hx⟩
  have hb := hb0.ext hx
  have hE := hx0.trans hx
  have hr1 := hr.ext hE
  have ⟨c0, c1, c2⟩ := hb
  clear hx hx0 hb0 hr
  go_wp2_with (first | (go_at_call 90; with_reducible refine (picHas_yes _ w h x y _ c0 c1 HSz.out HX.out HY.out).mono ?_; rintro e w' ⟨rfl, rfl⟩) | (go_at_call 71; with_reducible refine (implIn_no _ _ _ _ HR.out).mono ?_; rintro e w' ⟨rfl, rfl⟩))
  go_ret2
  exact ⟨rfl, hE⟩
theorem implRankAt_no (w h : Int) (A : Option Addr) (n c : Nat) (bs : List Nat) (x y : Int) (r : Int) (U : World) (hn : n ≤ maxLen) (hr : Reads U A n bs) (hv : ¬ (VMap w h n ∧ ((0 ≤ x ∧ x ≤ w - 1) ∧ 0 ≤ y ∧ y ≤ h - 1) ∧ 1 ≤ r ∧ r ≤ 2)) :
    Calls Try.prog 43 #[.agg #[.int .i64 w, .int .i64 h, .slice A n c], .int .i64 x, .int .i64 y, .int .i64 r] U fun e U' => e = .returned (.tuple #[.int .i64 0, .bool false]) ∧ Ext U U' := by
  by_cases hv1 : VMap w h n
  · by_cases hx : (0 ≤ x ∧ x ≤ w - 1) ∧ 0 ≤ y ∧ y ≤ h - 1
    · exact implRankAt_no3 w h A n c bs x y r U hn hr hv1 hx.1 hx.2 (Decidable.byContradiction fun hy => hv ⟨hv1, hx, by omega⟩)
    · exact implRankAt_no2 w h A n c bs x y r U hn hr hv1 hx
  · exact implRankAt_no1 w h A n c bs x y r U hn hr hv1
set_option maxHeartbeats 1000000 in
theorem specRankAt_yes (w h : Int) (A : Option Addr) (n c : Nat) (bs : List Nat) (x y : Int) (r : Nat) (U : World) (hn : n ≤ maxLen) (hr : Reads U A n bs) (hv : VMap w h n) (hx : 0 ≤ x ∧ x ≤ w - 1) (hy : 0 ≤ y ∧ y ≤ h - 1) (hr2 : 1 ≤ r ∧ r ≤ 2) :
    Calls Try.prog 41 #[.agg #[.int .i64 w, .int .i64 h, .slice A n c], .int .i64 x, .int .i64 y, .int .i64 r] U fun e U' => e = .returned (.tuple #[.int .i64 ((rkTo (rkB (GP w h bs) x y r) r (2 * r + 1) : Nat) : Int), .bool true]) ∧ Ext U U' := by
  have HV := Lib.hid hv
  have HSz := Lib.hid hv.1
  have hw1 : IntKind.i64.wrap (w - 1) = w - 1 := wrap_small _ (by have := hv.1.1; omega) (by have := hv.1.2.1; omega)
  have hh1 : IntKind.i64.wrap (h - 1) = h - 1 := wrap_small _ (by have := hv.1.2.2.1; omega) (by have := hv.1.2.2.2.1; omega)
  have HX := Lib.hid hx
  have HY := Lib.hid hy
  have HR : Hid ((1 : Int) ≤ (r : Int) ∧ (r : Int) ≤ 2) := Lib.hid (by omega)
  have HX2 : Hid (0 ≤ x ∧ x ≤ 24) := Lib.hid (by have := hv.1.2.1; omega)
  have HY2 : Hid (0 ≤ y ∧ y ≤ 24) := Lib.hid (by have := hv.1.2.2.2.1; omega)
  have HR2 : Hid (r ≤ 2) := Lib.hid hr2.2
  clear hv hx hy hr2
  go_enter Try.func41, Try.ntmps41
  go_wp2_with fail
  refine calls_at (X := fun w' => Ext U w' ∧ Box3 w' U.heap.size (.int .i64 w) (.int .i64 h) (.slice A n c)) ⟨(Ext.refl _).alloc _, by simp [go_sem], by simp [go_sem], by simp [go_sem]⟩ ?_
  rintro w0 ⟨hx0, hb0⟩
  refine (l02Is_yes U.heap.size w h A n c _ hn hb0.1 hb0.2.1 hb0.2.2 HV.out).mono ?_
  rintro e w1 ⟨rfl, hx⟩
  have hb := hb0.ext hx
  have hE := hx0.trans hx
  have hr1 := hr.ext hE
  have ⟨c0, c1, c2⟩ := hb
  clear hx hx0 hb0 hr
  go_wp2_with (first | (go_at_call 87; with_reducible refine (l02Cell_yes _ w h x y _ c0 c1 HSz.out HX.out HY.out).mono ?_; rintro e w' ⟨rfl, rfl⟩) | (go_at_call 60; with_reducible refine (l00In_yes _ _ _ _ HR.out.1 HR.out.2).mono ?_; rintro e w' ⟨rfl, rfl⟩) | (go_at_call 88; with_reducible refine (l02Rank_any _ x y r (GP w h bs) _ HX2.out HY2.out HR2.out (fun W hW u v => l02At_any _ w h A n c bs u v W (hb.ext hW) (hr1.ext hW) HV.out)).mono ?_; rintro e w' ⟨rfl, hx⟩))
  go_ret2
  exact ⟨rfl, hE.trans hx⟩
theorem specRankAt_no1 (w h : Int) (A : Option Addr) (n c : Nat) (bs : List Nat) (x y : Int) (r : Int) (U : World) (hn : n ≤ maxLen) (hr : Reads U A n bs) (hv : ¬ VMap w h n) :
    Calls Try.prog 41 #[.agg #[.int .i64 w, .int .i64 h, .slice A n c], .int .i64 x, .int .i64 y, .int .i64 r] U fun e U' => e = .returned (.tuple #[.int .i64 0, .bool false]) ∧ Ext U U' := by
  have HV := Lib.hid hv
  clear hv
  go_enter Try.func41, Try.ntmps41
  go_wp2_with fail
  refine calls_at (X := fun w' => Ext U w' ∧ Box3 w' U.heap.size (.int .i64 w) (.int .i64 h) (.slice A n c)) ⟨(Ext.refl _).alloc _, by simp [go_sem], by simp [go_sem], by simp [go_sem]⟩ ?_
  rintro w0 ⟨hx0, hb0⟩
  refine (l02Is_not U.heap.size w h A n c _ hn hb0.1 hb0.2.1 hb0.2.2 HV.out).mono ?_
  rintro e w1 ⟨rfl, hx⟩
  have hb := hb0.ext hx
  have hE := hx0.trans hx
  have hr1 := hr.ext hE
  have ⟨c0, c1, c2⟩ := hb
  clear hx hx0 hb0 hr
  go_wp2
  go_ret2
  exact ⟨rfl, hE⟩
theorem specRankAt_no2 (w h : Int) (A : Option Addr) (n c : Nat) (bs : List Nat) (x y : Int) (r : Int) (U : World) (hn : n ≤ maxLen) (hr : Reads U A n bs) (hv : VMap w h n) (hx : ¬ ((0 ≤ x ∧ x ≤ w - 1) ∧ 0 ≤ y ∧ y ≤ h - 1)) :
    Calls Try.prog 41 #[.agg #[.int .i64 w, .int .i64 h, .slice A n c], .int .i64 x, .int .i64 y, .int .i64 r] U fun e U' => e = .returned (.tuple #[.int .i64 0, .bool false]) ∧ Ext U U' := by
  have HV := Lib.hid hv
  have HSz := Lib.hid hv.1
  have hw1 : IntKind.i64.wrap (w - 1) = w - 1 := wrap_small _ (by have := hv.1.1; omega) (by have := hv.1.2.1; omega)
  have hh1 : IntKind.i64.wrap (h - 1) = h - 1 := wrap_small _ (by have := hv.1.2.2.1; omega) (by have := hv.1.2.2.2.1; omega)
  have HX := Lib.hid hx
  clear hv hx
  go_enter Try.func41, Try.ntmps41
  go_wp2_with fail
  refine calls_at (X := fun w' => Ext U w' ∧ Box3 w' U.heap.size (.int .i64 w) (.int .i64 h) (.slice A n c)) ⟨(Ext.refl _).alloc _, by simp [go_sem], by simp [go_sem], by simp [go_sem]⟩ ?_
  rintro w0 ⟨hx0, hb0⟩
  refine (l02Is_yes U.heap.size w h A n c _ hn hb0.1 hb0.2.1 hb0.2.2 HV.out).mono ?_
  rintro e w1 ⟨rfl, hx⟩
  have hb := hb0.ext hx
  have hE := hx0.trans hx
  have hr1 := hr.ext hE
  have ⟨c0, c1, c2⟩ := hb
  clear hx hx0 hb0 hr
  go_wp2_with (go_at_call 87; with_reducible refine (l02Cell_no _ w h x y _ c0 c1 HSz.out HX.out).mono ?_; rintro e w' ⟨rfl, rfl⟩)
  go_ret2
  exact ⟨rfl, hE⟩
theorem specRankAt_no3 (w h : Int) (A : Option Addr) (n c : Nat) (bs : List Nat) (x y : Int) (r : Int) (U : World) (hn : n ≤ maxLen) (hr : Reads U A n bs) (hv : VMap w h n) (hx : 0 ≤ x ∧ x ≤ w - 1) (hy : 0 ≤ y ∧ y ≤ h - 1) (hr2 : r < 1 ∨ 2 < r) :
    Calls Try.prog 41 #[.agg #[.int .i64 w, .int .i64 h, .slice A n c], .int .i64 x, .int .i64 y, .int .i64 r] U fun e U' => e = .returned (.tuple #[.int .i64 0, .bool false]) ∧ Ext U U' := by
  have HV := Lib.hid hv
  have HSz := Lib.hid hv.1
  have hw1 : IntKind.i64.wrap (w - 1) = w - 1 := wrap_small _ (by have := hv.1.1; omega) (by have := hv.1.2.1; omega)
  have hh1 : IntKind.i64.wrap (h - 1) = h - 1 := wrap_small _ (by have := hv.1.2.2.1; omega) (by have := hv.1.2.2.2.1; omega)
  have HX := Lib.hid hx
  have HY := Lib.hid hy
  have HR := Lib.hid hr2
  clear hv hx hy hr2
  go_enter Try.func41, Try.ntmps41
  go_wp2_with fail
  refine calls_at (X := fun w' => Ext U w' ∧ Box3 w' U.heap.size (.int .i64 w) (.int .i64 h) (.slice A n c)) ⟨(Ext.refl _).alloc _, by simp [go_sem], by simp [go_sem], by simp [go_sem]⟩ ?_
  rintro w0 ⟨hx0, hb0⟩
  refine (l02Is_yes U.heap.size w h A n c _ hn hb0.1 hb0.2.1 hb0.2.2 HV.out).mono ?_
  rintro e w1 ⟨rfl, hx⟩
  have hb := hb0.ext hx
  have hE := hx0.trans hx
  have hr1 := hr.ext hE
  have ⟨c0, c1, c2⟩ := hb
  clear hx hx0 hb0 hr
  go_wp2_with (first | (go_at_call 87; with_reducible refine (l02Cell_yes _ w h x y _ c0 c1 HSz.out HX.out HY.out).mono ?_; rintro e w' ⟨rfl, rfl⟩) | (go_at_call 60; with_reducible refine (l00In_no _ _ _ _ HR.out).mono ?_; rintro e w' ⟨rfl, rfl⟩))
  go_ret2
  exact ⟨rfl, hE⟩
theorem specRankAt_no (w h : Int) (A : Option Addr) (n c : Nat) (bs : List Nat) (x y : Int) (r : Int) (U : World) (hn : n ≤ maxLen) (hr : Reads U A n bs) (hv : ¬ (VMap w h n ∧ ((0 ≤ x ∧ x ≤ w - 1) ∧ 0 ≤ y ∧ y ≤ h - 1) ∧ 1 ≤ r ∧ r ≤ 2)) :
    Calls Try.prog 41 #[.agg #[.int .i64 w, .int .i64 h, .slice A n c], .int .i64 x, .int .i64 y, .int .i64 r] U fun e U' => e = .returned (.tuple #[.int .i64 0, .bool false]) ∧ Ext U U' := by
  by_cases hv1 : VMap w h n
  · by_cases hx : (0 ≤ x ∧ x ≤ w - 1) ∧ 0 ≤ y ∧ y ≤ h - 1
    · exact specRankAt_no3 w h A n c bs x y r U hn hr hv1 hx.1 hx.2 (Decidable.byContradiction fun hy => hv ⟨hv1, hx, by omega⟩)
    · exact specRankAt_no2 w h A n c bs x y r U hn hr hv1 hx
  · exact specRankAt_no1 w h A n c bs x y r U hn hr hv1
theorem lawRankAt_any (W : World) (w h : Int) (_ : -9223372036854775808 ≤ w ∧ w ≤ 9223372036854775807) (_ : -9223372036854775808 ≤ h ∧ h ≤ 9223372036854775807) (A : Option Addr) (n c : Nat) (bs : List Nat) (hc : n ≤ c) (hm : c ≤ maxLen) (hr : Reads W A n bs) (hw : Words bs) (x : Int) (_ : IntKind.i64.min ≤ x ∧ x ≤ IntKind.i64.max) (y : Int) (_ : IntKind.i64.min ≤ y ∧ y ≤ IntKind.i64.max) (r : Int) (_ : IntKind.i64.min ≤ r ∧ r ≤ IntKind.i64.max) :
    Calls Try.prog 11 #[.agg #[.int .i64 w, .int .i64 h, .slice A n c], .int .i64 x, .int .i64 y, .int .i64 r] W fun e W' => e = .returned (.bool true) ∧ Ext W W' := by
  have hn : n ≤ maxLen := Nat.le_trans hc hm
  by_cases hv : VMap w h n ∧ ((0 ≤ x ∧ x ≤ w - 1) ∧ 0 ≤ y ∧ y ≤ h - 1) ∧ 1 ≤ r ∧ r ≤ 2
  · obtain ⟨hv, hxy, hr2⟩ := hv
    obtain ⟨q, rfl⟩ := Int.eq_ofNat_of_zero_le (show 0 ≤ r by omega)
    exact lawRankAt_core W w h A n c bs hn hr x y q _ true (fun W' D hd => specRankAt_yes w h D n n bs x y q W' hn hd hv hxy.1 hxy.2 (by omega)) (fun W' D hd => implRankAt_yes w h D n n bs x y q W' hn hd hv hxy.1 hxy.2 (by omega))
  · exact lawRankAt_core W w h A n c bs hn hr x y r 0 false (fun W' D hd => specRankAt_no w h D n n bs x y r W' hn hd hv) (fun W' D hd => implRankAt_no w h D n n bs x y r W' hn hd hv)
end Go.Proofs.Ytcekofioiofjbaa
