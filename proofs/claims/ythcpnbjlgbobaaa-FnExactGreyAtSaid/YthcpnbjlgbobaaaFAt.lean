/- The laws on ValueAt and GreyAt hold. -/
import Derived.Test.YthcpnbjlgbobaaaMaps
import Derived.Test.YthcpnbjlgbobaaaCValueAt
import Derived.Test.YthcpnbjlgbobaaaCGreyAt
namespace Go.Proofs.Ythcpnbjlgbobaaa
open Go.RowKit
set_option linter.unusedVariables false

theorem Words.getD {bs : List Nat} (h : Words bs) (k : Nat) : bs.getD k 0 < 4294967296 := by
  rw [List.getD_eq_getElem?_getD]
  cases hk : bs[k]? with
  | none => simp
  | some v => exact h v (List.mem_of_getElem? hk)

theorem Is.zero' : Is 0 0 := ⟨by omega, by decide +kernel⟩

set_option maxHeartbeats 1000000 in
theorem specValueAt_yes (w h : Int) (A : Option Addr) (n c : Nat) (bs : List Nat) (x y : Int) (U : World) (hn : n ≤ maxLen) (hr : Reads U A n bs) (hw : Words bs) (hv : VMap w h n) (hx : 0 ≤ x ∧ x ≤ w - 1) (hy : 0 ≤ y ∧ y ≤ h - 1) :
    Calls Try.prog 33 #[.agg #[.int .i64 w, .int .i64 h, .slice A n c], .int .i64 x, .int .i64 y] U fun e U' => ∃ r, e = .returned (.tuple #[.float .f32 r, .bool true]) ∧ Is r (nrm (bs.getD (cellN w x y) 0)) ∧ Ext U U' := by
  have HV := Lib.hid hv
  have HSz := Lib.hid hv.1
  have HX := Lib.hid hx
  have HY := Lib.hid hy
  have hWd := hw.getD (cellN w x y)
  obtain ⟨hk, hkn, hmul⟩ := cellN_eq hv hx.1 hx.2 hy.1 hy.2
  have hcx := clampI_in hx.1 hx.2
  have hcy := clampI_in hy.1 hy.2
  have hw1 : IntKind.i64.wrap (w - 1) = w - 1 := wrap_small _ (by have := hv.1.1; omega) (by have := hv.1.2.1; omega)
  have hh1 : IntKind.i64.wrap (h - 1) = h - 1 := wrap_small _ (by have := hv.1.2.2.1; omega) (by have := hv.1.2.2.2.1; omega)
  have HH := Lib.hid (show (x + w * y = (cellN w x y : Int)) ∧ cellN w x y < n ∧ IntKind.i64.wrap (w * y) = w * y ∧ clampI x w = x ∧ clampI y h = y from ⟨hk, hkn, hmul, hcx, hcy⟩)
  clear hv hx hy hk hkn hcx hcy hw
  obtain ⟨k, hkk⟩ : ∃ k, cellN w x y = k := ⟨_, rfl⟩
  rw [hkk] at HH hWd ⊢
  obtain ⟨v, hvv⟩ : ∃ v, bs.getD k 0 = v := ⟨_, rfl⟩
  rw [hvv] at hWd ⊢
  have HVV := Lib.hid hvv
  clear hkk hvv
  go_enter Try.func33, Try.ntmps33
  go_wp2_with fail
  refine calls_at (X := fun w' => Ext U w' ∧ Box3 w' U.heap.size (.int .i64 w) (.int .i64 h) (.slice A n c)) ⟨(Ext.refl _).alloc _, by simp [go_sem], by simp [go_sem], by simp [go_sem]⟩ ?_
  rintro w0 ⟨hx0, hb0⟩
  refine (l03IsMap_yes U.heap.size w h A n c _ hn hb0.1 hb0.2.1 hb0.2.2 HV.out).mono ?_
  rintro e w1 ⟨rfl, hx⟩
  have hb := hb0.ext hx
  have hE := hx0.trans hx
  have hr1 := hr.ext hE
  have ⟨c0, c1, c2⟩ := hb
  clear hx hx0 hb0 hr
  unfold maxLen at hn
  obtain ⟨gb, off, rfl, hl⟩ := hr1.2 (by have := HH.out.2.1; omega)
  have hc := hl k (by rw [hr1.1]; exact HH.out.2.1)
  rw [HVV.out] at hc
  have hw2 : IntKind.i64.wrap (x + w * y) = (k : Int) := by rw [HH.out.1]; exact IntWalk.i64_in _ (by have := HH.out.2.1; omega)
  have hk1 : (k : Int) < (n : Int) := by have := HH.out.2.1; omega
  have hk0 : (0 : Int) ≤ (k : Int) := by omega
  clear hl hr1 HH
  go_wp2_with (go_at_call 67; (first | with_reducible refine (l00In_yes x 0 (w - 1) _ HX.out.1 HX.out.2).mono ?_ | with_reducible refine (l00In_yes y 0 (h - 1) _ HY.out.1 HY.out.2).mono ?_); rintro e w' ⟨rfl, rfl⟩)
  go_ret2
  exact ⟨_, rfl, ⟨hWd, rfl⟩, hE⟩
theorem specValueAt_no1 (w h : Int) (A : Option Addr) (n c : Nat) (bs : List Nat) (x y : Int) (U : World) (hn : n ≤ maxLen) (hr : Reads U A n bs) (hv : ¬ VMap w h n) :
    Calls Try.prog 33 #[.agg #[.int .i64 w, .int .i64 h, .slice A n c], .int .i64 x, .int .i64 y] U fun e U' => ∃ r, e = .returned (.tuple #[.float .f32 r, .bool false]) ∧ Is r 0 ∧ Ext U U' := by
  have HV := Lib.hid hv
  clear hv
  go_enter Try.func33, Try.ntmps33
  go_wp2_with fail
  refine calls_at (X := fun w' => Ext U w' ∧ Box3 w' U.heap.size (.int .i64 w) (.int .i64 h) (.slice A n c)) ⟨(Ext.refl _).alloc _, by simp [go_sem], by simp [go_sem], by simp [go_sem]⟩ ?_
  rintro w0 ⟨hx0, hb0⟩
  refine (l03IsMap_not U.heap.size w h A n c _ hn hb0.1 hb0.2.1 hb0.2.2 HV.out).mono ?_
  rintro e w1 ⟨rfl, hx⟩
  have hb := hb0.ext hx
  have hE := hx0.trans hx
  have hr1 := hr.ext hE
  have ⟨c0, c1, c2⟩ := hb
  clear hx hx0 hb0 hr
  go_wp2
  go_ret2
  exact ⟨_, rfl, Is.zero', hE⟩
theorem specValueAt_no2 (w h : Int) (A : Option Addr) (n c : Nat) (bs : List Nat) (x y : Int) (U : World) (hn : n ≤ maxLen) (hr : Reads U A n bs) (hv : VMap w h n) (hx : x < 0 ∨ w - 1 < x) :
    Calls Try.prog 33 #[.agg #[.int .i64 w, .int .i64 h, .slice A n c], .int .i64 x, .int .i64 y] U fun e U' => ∃ r, e = .returned (.tuple #[.float .f32 r, .bool false]) ∧ Is r 0 ∧ Ext U U' := by
  have HV := Lib.hid hv
  have HSz := Lib.hid hv.1
  have hw1 : IntKind.i64.wrap (w - 1) = w - 1 := wrap_small _ (by have := hv.1.1; omega) (by have := hv.1.2.1; omega)
  have hh1 : IntKind.i64.wrap (h - 1) = h - 1 := wrap_small _ (by have := hv.1.2.2.1; omega) (by have := hv.1.2.2.2.1; omega)
  have HX := Lib.hid hx
  clear hv hx
  go_enter Try.func33, Try.ntmps33
  go_wp2_with fail
  refine calls_at (X := fun w' => Ext U w' ∧ Box3 w' U.heap.size (.int .i64 w) (.int .i64 h) (.slice A n c)) ⟨(Ext.refl _).alloc _, by simp [go_sem], by simp [go_sem], by simp [go_sem]⟩ ?_
  rintro w0 ⟨hx0, hb0⟩
  refine (l03IsMap_yes U.heap.size w h A n c _ hn hb0.1 hb0.2.1 hb0.2.2 HV.out).mono ?_
  rintro e w1 ⟨rfl, hx⟩
  have hb := hb0.ext hx
  have hE := hx0.trans hx
  have hr1 := hr.ext hE
  have ⟨c0, c1, c2⟩ := hb
  clear hx hx0 hb0 hr
  go_wp2_with (go_at_call 67; with_reducible refine (l00In_no x 0 (w - 1) _ HX.out).mono ?_; rintro e w' ⟨rfl, rfl⟩)
  go_ret2
  exact ⟨_, rfl, Is.zero', hE⟩
theorem specValueAt_no3 (w h : Int) (A : Option Addr) (n c : Nat) (bs : List Nat) (x y : Int) (U : World) (hn : n ≤ maxLen) (hr : Reads U A n bs) (hv : VMap w h n) (hx : 0 ≤ x ∧ x ≤ w - 1) (hy : y < 0 ∨ h - 1 < y) :
    Calls Try.prog 33 #[.agg #[.int .i64 w, .int .i64 h, .slice A n c], .int .i64 x, .int .i64 y] U fun e U' => ∃ r, e = .returned (.tuple #[.float .f32 r, .bool false]) ∧ Is r 0 ∧ Ext U U' := by
  have HV := Lib.hid hv
  have HSz := Lib.hid hv.1
  have hw1 : IntKind.i64.wrap (w - 1) = w - 1 := wrap_small _ (by have := hv.1.1; omega) (by have := hv.1.2.1; omega)
  have hh1 : IntKind.i64.wrap (h - 1) = h - 1 := wrap_small _ (by have := hv.1.2.2.1; omega) (by have := hv.1.2.2.2.1; omega)
  have HX := Lib.hid hx
  have HY := Lib.hid hy
  clear hv hx hy
  go_enter Try.func33, Try.ntmps33
  go_wp2_with fail
  refine calls_at (X := fun w' => Ext U w' ∧ Box3 w' U.heap.size (.int .i64 w) (.int .i64 h) (.slice A n c)) ⟨(Ext.refl _).alloc _, by simp [go_sem], by simp [go_sem], by simp [go_sem]⟩ ?_
  rintro w0 ⟨hx0, hb0⟩
  refine (l03IsMap_yes U.heap.size w h A n c _ hn hb0.1 hb0.2.1 hb0.2.2 HV.out).mono ?_
  rintro e w1 ⟨rfl, hx⟩
  have hb := hb0.ext hx
  have hE := hx0.trans hx
  have hr1 := hr.ext hE
  have ⟨c0, c1, c2⟩ := hb
  clear hx hx0 hb0 hr
  go_wp2_with (go_at_call 67; (first | with_reducible refine (l00In_yes x 0 (w - 1) _ HX.out.1 HX.out.2).mono ?_ | with_reducible refine (l00In_no y 0 (h - 1) _ HY.out).mono ?_); rintro e w' ⟨rfl, rfl⟩)
  go_ret2
  exact ⟨_, rfl, Is.zero', hE⟩
theorem specValueAt_no (w h : Int) (A : Option Addr) (n c : Nat) (bs : List Nat) (x y : Int) (U : World) (hn : n ≤ maxLen) (hr : Reads U A n bs) (hv : ¬ (VMap w h n ∧ (0 ≤ x ∧ x ≤ w - 1) ∧ 0 ≤ y ∧ y ≤ h - 1)) :
    Calls Try.prog 33 #[.agg #[.int .i64 w, .int .i64 h, .slice A n c], .int .i64 x, .int .i64 y] U fun e U' => ∃ r, e = .returned (.tuple #[.float .f32 r, .bool false]) ∧ Is r 0 ∧ Ext U U' := by
  by_cases hv1 : VMap w h n
  · by_cases hx : 0 ≤ x ∧ x ≤ w - 1
    · exact specValueAt_no3 w h A n c bs x y U hn hr hv1 hx (Decidable.byContradiction fun hy => hv ⟨hv1, hx, by omega⟩)
    · exact specValueAt_no2 w h A n c bs x y U hn hr hv1 (by omega)
  · exact specValueAt_no1 w h A n c bs x y U hn hr hv1
set_option maxHeartbeats 1000000 in
theorem implValueAt_yes (w h : Int) (A : Option Addr) (n c : Nat) (bs : List Nat) (x y : Int) (U : World) (hn : n ≤ maxLen) (hr : Reads U A n bs) (hw : Words bs) (hv : VMap w h n) (hx : 0 ≤ x ∧ x ≤ w - 1) (hy : 0 ≤ y ∧ y ≤ h - 1) :
    Calls Try.prog 34 #[.agg #[.int .i64 w, .int .i64 h, .slice A n c], .int .i64 x, .int .i64 y] U fun e U' => ∃ r, e = .returned (.tuple #[.float .f32 r, .bool true]) ∧ Is r (nrm (bs.getD (cellN w x y) 0)) ∧ Ext U U' := by
  have HV := Lib.hid hv
  have HSz := Lib.hid hv.1
  have HX := Lib.hid hx
  have HY := Lib.hid hy
  have hWd := hw.getD (cellN w x y)
  obtain ⟨hk, hkn, hmul⟩ := cellN_eq hv hx.1 hx.2 hy.1 hy.2
  have hcx := clampI_in hx.1 hx.2
  have hcy := clampI_in hy.1 hy.2
  have hw1 : IntKind.i64.wrap (w - 1) = w - 1 := wrap_small _ (by have := hv.1.1; omega) (by have := hv.1.2.1; omega)
  have hh1 : IntKind.i64.wrap (h - 1) = h - 1 := wrap_small _ (by have := hv.1.2.2.1; omega) (by have := hv.1.2.2.2.1; omega)
  have HH := Lib.hid (show (x + w * y = (cellN w x y : Int)) ∧ cellN w x y < n ∧ IntKind.i64.wrap (w * y) = w * y ∧ clampI x w = x ∧ clampI y h = y from ⟨hk, hkn, hmul, hcx, hcy⟩)
  clear hv hx hy hk hkn hcx hcy hw hmul
  go_enter Try.func34, Try.ntmps34
  go_wp2_with fail
  refine calls_at (X := fun w' => Ext U w' ∧ Box3 w' U.heap.size (.int .i64 w) (.int .i64 h) (.slice A n c)) ⟨(Ext.refl _).alloc _, by simp [go_sem], by simp [go_sem], by simp [go_sem]⟩ ?_
  rintro w0 ⟨hx0, hb0⟩
  refine (ValidMap_yes w h A n c _ hn HV.out).mono ?_
  rintro e w1 ⟨rfl, hx⟩
  have hb := hb0.ext hx
  have hE := hx0.trans hx
  have hr1 := hr.ext hE
  have ⟨c0, c1, c2⟩ := hb
  clear hx hx0 hb0 hr
  go_wp2_with (first | (go_at_call 68; with_reducible refine (mapHas_yes _ w h x y _ c0 c1 HSz.out HX.out HY.out).mono ?_; rintro e w' ⟨rfl, rfl⟩) | (go_at_call 69; with_reducible refine (at_any _ w h A n c bs x y (cellN w x y) _ hb hr1 hn HH.out.1 HH.out.2.1 HH.out.2.2.1).mono ?_; rintro e w' ⟨rfl, hx⟩))
  go_ret2
  exact ⟨_, rfl, ⟨hWd, rfl⟩, hE.trans hx⟩
theorem implValueAt_no1 (w h : Int) (A : Option Addr) (n c : Nat) (bs : List Nat) (x y : Int) (U : World) (hn : n ≤ maxLen) (hr : Reads U A n bs) (hv : ¬ VMap w h n) :
    Calls Try.prog 34 #[.agg #[.int .i64 w, .int .i64 h, .slice A n c], .int .i64 x, .int .i64 y] U fun e U' => ∃ r, e = .returned (.tuple #[.float .f32 r, .bool false]) ∧ Is r 0 ∧ Ext U U' := by
  have HV := Lib.hid hv
  clear hv
  go_enter Try.func34, Try.ntmps34
  go_wp2_with fail
  refine calls_at (X := fun w' => Ext U w' ∧ Box3 w' U.heap.size (.int .i64 w) (.int .i64 h) (.slice A n c)) ⟨(Ext.refl _).alloc _, by simp [go_sem], by simp [go_sem], by simp [go_sem]⟩ ?_
  rintro w0 ⟨hx0, hb0⟩
  refine (ValidMap_not w h A n c _ hn HV.out).mono ?_
  rintro e w1 ⟨rfl, hx⟩
  have hb := hb0.ext hx
  have hE := hx0.trans hx
  have hr1 := hr.ext hE
  have ⟨c0, c1, c2⟩ := hb
  clear hx hx0 hb0 hr
  go_wp2
  go_ret2
  exact ⟨_, rfl, Is.zero', hE⟩
theorem implValueAt_no2 (w h : Int) (A : Option Addr) (n c : Nat) (bs : List Nat) (x y : Int) (U : World) (hn : n ≤ maxLen) (hr : Reads U A n bs) (hv : VMap w h n) (hx : ¬ ((0 ≤ x ∧ x ≤ w - 1) ∧ 0 ≤ y ∧ y ≤ h - 1)) :
    Calls Try.prog 34 #[.agg #[.int .i64 w, .int .i64 h, .slice A n c], .int .i64 x, .int .i64 y] U fun e U' => ∃ r, e = .returned (.tuple #[.float .f32 r, .bool false]) ∧ Is r 0 ∧ Ext U U' := by
  have HV := Lib.hid hv
  have HSz := Lib.hid hv.1
  have hw1 : IntKind.i64.wrap (w - 1) = w - 1 := wrap_small _ (by have := hv.1.1; omega) (by have := hv.1.2.1; omega)
  have hh1 : IntKind.i64.wrap (h - 1) = h - 1 := wrap_small _ (by have := hv.1.2.2.1; omega) (by have := hv.1.2.2.2.1; omega)
  have HX := Lib.hid hx
  clear hv hx
  go_enter Try.func34, Try.ntmps34
  go_wp2_with fail
  refine calls_at (X := fun w' => Ext U w' ∧ Box3 w' U.heap.size (.int .i64 w) (.int .i64 h) (.slice A n c)) ⟨(Ext.refl _).alloc _, by simp [go_sem], by simp [go_sem], by simp [go_sem]⟩ ?_
  rintro w0 ⟨hx0, hb0⟩
  refine (ValidMap_yes w h A n c _ hn HV.out).mono ?_
  rintro e w1 ⟨rfl, hx⟩
  have hb := hb0.ext hx
  have hE := hx0.trans hx
  have hr1 := hr.ext hE
  have ⟨c0, c1, c2⟩ := hb
  clear hx hx0 hb0 hr
  go_wp2_with (go_at_call 68; with_reducible refine (mapHas_no _ w h x y _ c0 c1 HSz.out HX.out).mono ?_; rintro e w' ⟨rfl, rfl⟩)
  go_ret2
  exact ⟨_, rfl, Is.zero', hE⟩
theorem implValueAt_no (w h : Int) (A : Option Addr) (n c : Nat) (bs : List Nat) (x y : Int) (U : World) (hn : n ≤ maxLen) (hr : Reads U A n bs) (hv : ¬ (VMap w h n ∧ (0 ≤ x ∧ x ≤ w - 1) ∧ 0 ≤ y ∧ y ≤ h - 1)) :
    Calls Try.prog 34 #[.agg #[.int .i64 w, .int .i64 h, .slice A n c], .int .i64 x, .int .i64 y] U fun e U' => ∃ r, e = .returned (.tuple #[.float .f32 r, .bool false]) ∧ Is r 0 ∧ Ext U U' := by
  by_cases hv1 : VMap w h n
  · exact implValueAt_no2 w h A n c bs x y U hn hr hv1 (fun h => hv ⟨hv1, h⟩)
  · exact implValueAt_no1 w h A n c bs x y U hn hr hv1
set_option maxHeartbeats 1000000 in
theorem specGreyAt_yes (w h : Int) (A : Option Addr) (n c : Nat) (bs : List Nat) (x y : Int) (U : World) (hn : n ≤ maxLen) (hr : Reads U A n bs) (hw : Words bs) (hv : VMap w h n) (hx : 0 ≤ x ∧ x ≤ w - 1) (hy : 0 ≤ y ∧ y ≤ h - 1) :
    Calls Try.prog 46 #[.agg #[.int .i64 w, .int .i64 h, .slice A n c], .int .i64 x, .int .i64 y] U fun e U' => ∃ r, e = .returned (.tuple #[.float .f32 r, .bool true]) ∧ Is r (nrm (bs.getD (cellN w x y) 0)) ∧ Ext U U' := by
  have HV := Lib.hid hv
  have HSz := Lib.hid hv.1
  have HX := Lib.hid hx
  have HY := Lib.hid hy
  have hWd := hw.getD (cellN w x y)
  obtain ⟨hk, hkn, hmul⟩ := cellN_eq hv hx.1 hx.2 hy.1 hy.2
  have hcx := clampI_in hx.1 hx.2
  have hcy := clampI_in hy.1 hy.2
  have hw1 : IntKind.i64.wrap (w - 1) = w - 1 := wrap_small _ (by have := hv.1.1; omega) (by have := hv.1.2.1; omega)
  have hh1 : IntKind.i64.wrap (h - 1) = h - 1 := wrap_small _ (by have := hv.1.2.2.1; omega) (by have := hv.1.2.2.2.1; omega)
  have HH := Lib.hid (show (x + w * y = (cellN w x y : Int)) ∧ cellN w x y < n ∧ IntKind.i64.wrap (w * y) = w * y ∧ clampI x w = x ∧ clampI y h = y from ⟨hk, hkn, hmul, hcx, hcy⟩)
  clear hv hx hy hk hkn hcx hcy hw hmul
  go_enter Try.func46, Try.ntmps46
  go_wp2_with fail
  refine calls_at (X := fun w' => Ext U w' ∧ Box3 w' U.heap.size (.int .i64 w) (.int .i64 h) (.slice A n c)) ⟨(Ext.refl _).alloc _, by simp [go_sem], by simp [go_sem], by simp [go_sem]⟩ ?_
  rintro w0 ⟨hx0, hb0⟩
  refine (l02Is_yes U.heap.size w h A n c _ hn hb0.1 hb0.2.1 hb0.2.2 HV.out).mono ?_
  rintro e w1 ⟨rfl, hx⟩
  have hb := hb0.ext hx
  have hE := hx0.trans hx
  have hr1 := hr.ext hE
  have ⟨c0, c1, c2⟩ := hb
  clear hx hx0 hb0 hr
  go_wp2_with (first | (go_at_call 83; with_reducible refine (l02Cell_yes _ w h x y _ c0 c1 HSz.out HX.out HY.out).mono ?_; rintro e w' ⟨rfl, rfl⟩) | (go_at_call 84; with_reducible refine (l02At_any _ w h A n c bs x y _ hb hr1 HV.out).mono ?_; rintro e w' ⟨rfl, hx⟩))
  go_ret2
  have h1 := HH.out.2.2.2.1
  have h2 := HH.out.2.2.2.2
  rw [h1, h2]
  exact ⟨_, rfl, ⟨hWd, rfl⟩, hE.trans hx⟩
theorem specGreyAt_no1 (w h : Int) (A : Option Addr) (n c : Nat) (bs : List Nat) (x y : Int) (U : World) (hn : n ≤ maxLen) (hr : Reads U A n bs) (hv : ¬ VMap w h n) :
    Calls Try.prog 46 #[.agg #[.int .i64 w, .int .i64 h, .slice A n c], .int .i64 x, .int .i64 y] U fun e U' => ∃ r, e = .returned (.tuple #[.float .f32 r, .bool false]) ∧ Is r 0 ∧ Ext U U' := by
  have HV := Lib.hid hv
  clear hv
  go_enter Try.func46, Try.ntmps46
  go_wp2_with fail
  refine calls_at (X := fun w' => Ext U w' ∧ Box3 w' U.heap.size (.int .i64 w) (.int .i64 h) (.slice A n c)) ⟨(Ext.refl _).alloc _, by simp [go_sem], by simp [go_sem], by simp [go_sem]⟩ ?_
  rintro w0 ⟨hx0, hb0⟩
  refine (l02Is_not U.heap.size w h A n c _ hn hb0.1 hb0.2.1 hb0.2.2 HV.out).mono ?_
  rintro e w1 ⟨rfl, hx⟩
  have hb := hb0.ext hx
  have hE := hx0.trans hx
  have hr1 := hr.ext hE
  have ⟨c0, c1, c2⟩ := hb
  clear hx hx0 hb0 hr
  go_wp2
  go_ret2
  exact ⟨_, rfl, Is.zero', hE⟩
theorem specGreyAt_no2 (w h : Int) (A : Option Addr) (n c : Nat) (bs : List Nat) (x y : Int) (U : World) (hn : n ≤ maxLen) (hr : Reads U A n bs) (hv : VMap w h n) (hx : ¬ ((0 ≤ x ∧ x ≤ w - 1) ∧ 0 ≤ y ∧ y ≤ h - 1)) :
    Calls Try.prog 46 #[.agg #[.int .i64 w, .int .i64 h, .slice A n c], .int .i64 x, .int .i64 y] U fun e U' => ∃ r, e = .returned (.tuple #[.float .f32 r, .bool false]) ∧ Is r 0 ∧ Ext U U' := by
  have HV := Lib.hid hv
  have HSz := Lib.hid hv.1
  have hw1 : IntKind.i64.wrap (w - 1) = w - 1 := wrap_small _ (by have := hv.1.1; omega) (by have := hv.1.2.1; omega)
  have hh1 : IntKind.i64.wrap (h - 1) = h - 1 := wrap_small _ (by have := hv.1.2.2.1; omega) (by have := hv.1.2.2.2.1; omega)
  have HX := Lib.hid hx
  clear hv hx
  go_enter Try.func46, Try.ntmps46
  go_wp2_with fail
  refine calls_at (X := fun w' => Ext U w' ∧ Box3 w' U.heap.size (.int .i64 w) (.int .i64 h) (.slice A n c)) ⟨(Ext.refl _).alloc _, by simp [go_sem], by simp [go_sem], by simp [go_sem]⟩ ?_
  rintro w0 ⟨hx0, hb0⟩
  refine (l02Is_yes U.heap.size w h A n c _ hn hb0.1 hb0.2.1 hb0.2.2 HV.out).mono ?_
  rintro e w1 ⟨rfl, hx⟩
  have hb := hb0.ext hx
  have hE := hx0.trans hx
  have hr1 := hr.ext hE
  have ⟨c0, c1, c2⟩ := hb
  clear hx hx0 hb0 hr
  go_wp2_with (go_at_call 83; with_reducible refine (l02Cell_no _ w h x y _ c0 c1 HSz.out HX.out).mono ?_; rintro e w' ⟨rfl, rfl⟩)
  go_ret2
  exact ⟨_, rfl, Is.zero', hE⟩
theorem specGreyAt_no (w h : Int) (A : Option Addr) (n c : Nat) (bs : List Nat) (x y : Int) (U : World) (hn : n ≤ maxLen) (hr : Reads U A n bs) (hv : ¬ (VMap w h n ∧ (0 ≤ x ∧ x ≤ w - 1) ∧ 0 ≤ y ∧ y ≤ h - 1)) :
    Calls Try.prog 46 #[.agg #[.int .i64 w, .int .i64 h, .slice A n c], .int .i64 x, .int .i64 y] U fun e U' => ∃ r, e = .returned (.tuple #[.float .f32 r, .bool false]) ∧ Is r 0 ∧ Ext U U' := by
  by_cases hv1 : VMap w h n
  · exact specGreyAt_no2 w h A n c bs x y U hn hr hv1 (fun h => hv ⟨hv1, h⟩)
  · exact specGreyAt_no1 w h A n c bs x y U hn hr hv1
set_option maxHeartbeats 1000000 in
theorem implGreyAt_yes (w h : Int) (A : Option Addr) (n c : Nat) (bs : List Nat) (x y : Int) (U : World) (hn : n ≤ maxLen) (hr : Reads U A n bs) (hw : Words bs) (hv : VMap w h n) (hx : 0 ≤ x ∧ x ≤ w - 1) (hy : 0 ≤ y ∧ y ≤ h - 1) :
    Calls Try.prog 48 #[.agg #[.int .i64 w, .int .i64 h, .slice A n c], .int .i64 x, .int .i64 y] U fun e U' => ∃ r, e = .returned (.tuple #[.float .f32 r, .bool true]) ∧ Is r (nrm (bs.getD (cellN w x y) 0)) ∧ Ext U U' := by
  have HV := Lib.hid hv
  have HSz := Lib.hid hv.1
  have HX := Lib.hid hx
  have HY := Lib.hid hy
  have hWd := hw.getD (cellN w x y)
  obtain ⟨hk, hkn, hmul⟩ := cellN_eq hv hx.1 hx.2 hy.1 hy.2
  have hcx := clampI_in hx.1 hx.2
  have hcy := clampI_in hy.1 hy.2
  have hw1 : IntKind.i64.wrap (w - 1) = w - 1 := wrap_small _ (by have := hv.1.1; omega) (by have := hv.1.2.1; omega)
  have hh1 : IntKind.i64.wrap (h - 1) = h - 1 := wrap_small _ (by have := hv.1.2.2.1; omega) (by have := hv.1.2.2.2.1; omega)
  have HH := Lib.hid (show (x + w * y = (cellN w x y : Int)) ∧ cellN w x y < n ∧ IntKind.i64.wrap (w * y) = w * y ∧ clampI x w = x ∧ clampI y h = y from ⟨hk, hkn, hmul, hcx, hcy⟩)
  clear hv hx hy hk hkn hcx hcy hw hmul
  go_enter Try.func48, Try.ntmps48
  go_wp2_with fail
  refine calls_at (X := fun w' => Ext U w' ∧ Box3 w' U.heap.size (.int .i64 w) (.int .i64 h) (.slice A n c)) ⟨(Ext.refl _).alloc _, by simp [go_sem], by simp [go_sem], by simp [go_sem]⟩ ?_
  rintro w0 ⟨hx0, hb0⟩
  refine (ValidPicture_yes w h A n c _ hn HV.out).mono ?_
  rintro e w1 ⟨rfl, hx⟩
  have hb := hb0.ext hx
  have hE := hx0.trans hx
  have hr1 := hr.ext hE
  have ⟨c0, c1, c2⟩ := hb
  clear hx hx0 hb0 hr
  go_wp2_with (first | (go_at_call 86; with_reducible refine (picHas_yes _ w h x y _ c0 c1 HSz.out HX.out HY.out).mono ?_; rintro e w' ⟨rfl, rfl⟩) | (go_at_call 87; with_reducible refine (about_any _ w h A n c bs x y _ hb hr1 HV.out).mono ?_; rintro e w' ⟨rfl, hx⟩))
  go_ret2
  have h1 := HH.out.2.2.2.1
  have h2 := HH.out.2.2.2.2
  rw [h1, h2]
  exact ⟨_, rfl, ⟨hWd, rfl⟩, hE.trans hx⟩
theorem implGreyAt_no1 (w h : Int) (A : Option Addr) (n c : Nat) (bs : List Nat) (x y : Int) (U : World) (hn : n ≤ maxLen) (hr : Reads U A n bs) (hv : ¬ VMap w h n) :
    Calls Try.prog 48 #[.agg #[.int .i64 w, .int .i64 h, .slice A n c], .int .i64 x, .int .i64 y] U fun e U' => ∃ r, e = .returned (.tuple #[.float .f32 r, .bool false]) ∧ Is r 0 ∧ Ext U U' := by
  have HV := Lib.hid hv
  clear hv
  go_enter Try.func48, Try.ntmps48
  go_wp2_with fail
  refine calls_at (X := fun w' => Ext U w' ∧ Box3 w' U.heap.size (.int .i64 w) (.int .i64 h) (.slice A n c)) ⟨(Ext.refl _).alloc _, by simp [go_sem], by simp [go_sem], by simp [go_sem]⟩ ?_
  rintro w0 ⟨hx0, hb0⟩
  refine (ValidPicture_not w h A n c _ hn HV.out).mono ?_
  rintro e w1 ⟨rfl, hx⟩
  have hb := hb0.ext hx
  have hE := hx0.trans hx
  have hr1 := hr.ext hE
  have ⟨c0, c1, c2⟩ := hb
  clear hx hx0 hb0 hr
  go_wp2
  go_ret2
  exact ⟨_, rfl, Is.zero', hE⟩
theorem implGreyAt_no2 (w h : Int) (A : Option Addr) (n c : Nat) (bs : List Nat) (x y : Int) (U : World) (hn : n ≤ maxLen) (hr : Reads U A n bs) (hv : VMap w h n) (hx : ¬ ((0 ≤ x ∧ x ≤ w - 1) ∧ 0 ≤ y ∧ y ≤ h - 1)) :
    Calls Try.prog 48 #[.agg #[.int .i64 w, .int .i64 h, .slice A n c], .int .i64 x, .int .i64 y] U fun e U' => ∃ r, e = .returned (.tuple #[.float .f32 r, .bool false]) ∧ Is r 0 ∧ Ext U U' := by
  have HV := Lib.hid hv
  have HSz := Lib.hid hv.1
  have hw1 : IntKind.i64.wrap (w - 1) = w - 1 := wrap_small _ (by have := hv.1.1; omega) (by have := hv.1.2.1; omega)
  have hh1 : IntKind.i64.wrap (h - 1) = h - 1 := wrap_small _ (by have := hv.1.2.2.1; omega) (by have := hv.1.2.2.2.1; omega)
  have HX := Lib.hid hx
  clear hv hx
  go_enter Try.func48, Try.ntmps48
  go_wp2_with fail
  refine calls_at (X := fun w' => Ext U w' ∧ Box3 w' U.heap.size (.int .i64 w) (.int .i64 h) (.slice A n c)) ⟨(Ext.refl _).alloc _, by simp [go_sem], by simp [go_sem], by simp [go_sem]⟩ ?_
  rintro w0 ⟨hx0, hb0⟩
  refine (ValidPicture_yes w h A n c _ hn HV.out).mono ?_
  rintro e w1 ⟨rfl, hx⟩
  have hb := hb0.ext hx
  have hE := hx0.trans hx
  have hr1 := hr.ext hE
  have ⟨c0, c1, c2⟩ := hb
  clear hx hx0 hb0 hr
  go_wp2_with (go_at_call 86; with_reducible refine (picHas_no _ w h x y _ c0 c1 HSz.out HX.out).mono ?_; rintro e w' ⟨rfl, rfl⟩)
  go_ret2
  exact ⟨_, rfl, Is.zero', hE⟩
theorem implGreyAt_no (w h : Int) (A : Option Addr) (n c : Nat) (bs : List Nat) (x y : Int) (U : World) (hn : n ≤ maxLen) (hr : Reads U A n bs) (hv : ¬ (VMap w h n ∧ (0 ≤ x ∧ x ≤ w - 1) ∧ 0 ≤ y ∧ y ≤ h - 1)) :
    Calls Try.prog 48 #[.agg #[.int .i64 w, .int .i64 h, .slice A n c], .int .i64 x, .int .i64 y] U fun e U' => ∃ r, e = .returned (.tuple #[.float .f32 r, .bool false]) ∧ Is r 0 ∧ Ext U U' := by
  by_cases hv1 : VMap w h n
  · exact implGreyAt_no2 w h A n c bs x y U hn hr hv1 (fun h => hv ⟨hv1, h⟩)
  · exact implGreyAt_no1 w h A n c bs x y U hn hr hv1
theorem lawValueAt_any (W : World) (w h : Int) (_ : -9223372036854775808 ≤ w ∧ w ≤ 9223372036854775807) (_ : -9223372036854775808 ≤ h ∧ h ≤ 9223372036854775807) (A : Option Addr) (n c : Nat) (bs : List Nat) (hc : n ≤ c) (hm : c ≤ maxLen) (hr : Reads W A n bs) (hw : Words bs) (x : Int) (_ : IntKind.i64.min ≤ x ∧ x ≤ IntKind.i64.max) (y : Int) (_ : IntKind.i64.min ≤ y ∧ y ≤ IntKind.i64.max) :
    Calls Try.prog 8 #[.agg #[.int .i64 w, .int .i64 h, .slice A n c], .int .i64 x, .int .i64 y] W fun e W' => e = .returned (.bool true) ∧ Ext W W' := by
  have hn : n ≤ maxLen := Nat.le_trans hc hm
  by_cases hv : VMap w h n ∧ (0 ≤ x ∧ x ≤ w - 1) ∧ 0 ≤ y ∧ y ≤ h - 1
  · exact lawValueAt_core W w h A n c bs hn hr x y (nrm (bs.getD (cellN w x y) 0)) true (fun W' D hd => specValueAt_yes w h D n n bs x y W' hn hd hw hv.1 hv.2.1 hv.2.2) (fun W' D hd => implValueAt_yes w h D n n bs x y W' hn hd hw hv.1 hv.2.1 hv.2.2)
  · exact lawValueAt_core W w h A n c bs hn hr x y 0 false (fun W' D hd => specValueAt_no w h D n n bs x y W' hn hd hv) (fun W' D hd => implValueAt_no w h D n n bs x y W' hn hd hv)
theorem lawGreyAt_any (W : World) (w h : Int) (_ : -9223372036854775808 ≤ w ∧ w ≤ 9223372036854775807) (_ : -9223372036854775808 ≤ h ∧ h ≤ 9223372036854775807) (A : Option Addr) (n c : Nat) (bs : List Nat) (hc : n ≤ c) (hm : c ≤ maxLen) (hr : Reads W A n bs) (hw : Words bs) (x : Int) (_ : IntKind.i64.min ≤ x ∧ x ≤ IntKind.i64.max) (y : Int) (_ : IntKind.i64.min ≤ y ∧ y ≤ IntKind.i64.max) :
    Calls Try.prog 13 #[.agg #[.int .i64 w, .int .i64 h, .slice A n c], .int .i64 x, .int .i64 y] W fun e W' => e = .returned (.bool true) ∧ Ext W W' := by
  have hn : n ≤ maxLen := Nat.le_trans hc hm
  by_cases hv : VMap w h n ∧ (0 ≤ x ∧ x ≤ w - 1) ∧ 0 ≤ y ∧ y ≤ h - 1
  · exact lawGreyAt_core W w h A n c bs hn hr x y (nrm (bs.getD (cellN w x y) 0)) true (fun W' D hd => specGreyAt_yes w h D n n bs x y W' hn hd hw hv.1 hv.2.1 hv.2.2) (fun W' D hd => implGreyAt_yes w h D n n bs x y W' hn hd hw hv.1 hv.2.1 hv.2.2)
  · exact lawGreyAt_core W w h A n c bs hn hr x y 0 false (fun W' D hd => specGreyAt_no w h D n n bs x y W' hn hd hv) (fun W' D hd => implGreyAt_no w h D n n bs x y W' hn hd hv)
end Go.Proofs.Ythcpnbjlgbobaaa
