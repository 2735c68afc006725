/- The laws on ValidPrices and PriceOf hold. -/
import Derived.Test.YthcpnbjlgbobaaaPrice
import Derived.Test.YthcpnbjlgbobaaaCValidPrices
import Derived.Test.YthcpnbjlgbobaaaCPriceOf
namespace Go.Proofs.Ythcpnbjlgbobaaa
open Go.RowKit
set_option linter.unusedVariables false

theorem specValidPrices_of (p0 p1 : Nat) (v : Bool) (hv : decide (PV p0 p1) = v) (W : World) :
    Calls Try.prog 15 #[.agg #[.float .f32 p0, .float .f32 p1]] W fun e W' => e = .returned (.bool v) ∧ Ext W W' := by
  have key : ∀ W', Box2 W' W.heap.size (fl p0) (fl p1) → Calls Try.prog 52 #[.pointer (some ⟨W.heap.size, 0, none⟩)] W' fun e W'' => e = .returned (.bool v) ∧ Ext W' W'' := fun W' hb => by
    subst hv
    by_cases h : PV p0 p1
    · rw [decide_eq_true h]; exact l04Is_yes _ _ _ W' hb.1 hb.2 h
    · rw [decide_eq_false h]; exact l04Is_no _ _ _ W' hb.1 hb.2 h
  have HK := Lib.hid key
  clear key hv
  go_enter Try.func15, Try.ntmps15
  go_wp2_with fail
  refine (HK.out _ ⟨by simp [go_sem], by simp [go_sem]⟩).mono ?_
  rintro e w1 ⟨rfl, hx⟩
  go_wp2
  go_ret
  exact ⟨rfl, ((Ext.refl _).alloc _).trans hx⟩
theorem implValidPrices_of (p0 p1 : Nat) (v : Bool) (hv : decide (PV p0 p1) = v) (W : World) :
    Calls Try.prog 17 #[.agg #[.float .f32 p0, .float .f32 p1]] W fun e W' => e = .returned (.bool v) ∧ Ext W W' := by
  subst hv
  by_cases h : PV p0 p1
  · rw [decide_eq_true h]; exact implValidPrices_yes _ _ W h
  · rw [decide_eq_false h]; exact implValidPrices_no _ _ W h
theorem lawValidPrices_any (W : World) (p0 p1 : Nat) (_ : p0 < 4294967296) (_ : p1 < 4294967296) :
    Calls Try.prog 3 #[.agg #[.float .f32 p0, .float .f32 p1]] W fun e W' => e = .returned (.bool true) ∧ Ext W W' :=
  lawValidPrices_core W p0 p1 (decide (PV p0 p1)) (fun w => specValidPrices_of p0 p1 _ rfl w) (fun w => implValidPrices_of p0 p1 _ rfl w)

theorem specPriceOf_yes (p0 p1 : Nat) (h0 : p0 < 4294967296) (h1 : p1 < 4294967296) (a b : Int) (hv : PV p0 p1) (ha0 : 0 ≤ a) (ha1 : a ≤ 7) (hb0 : 0 ≤ b) (hb1 : b ≤ 7) (W : World) :
    Calls Try.prog 20 #[.agg #[.float .f32 p0, .float .f32 p1], .int .i64 a, .int .i64 b] W fun e W' => ∃ r, e = .returned (.tuple #[.float .f32 r, .bool true]) ∧ Is r (nrm (priceX p0 p1 a b)) ∧ Ext W W' := by
  have HV := Lib.hid hv
  clear hv
  go_enter Try.func20, Try.ntmps20
  go_wp2_with fail
  refine calls_at (X := fun w' => Ext W w' ∧ Box2 w' W.heap.size (fl p0) (fl p1)) ⟨(Ext.refl _).alloc _, by simp [go_sem], by simp [go_sem]⟩ ?_
  rintro w0 ⟨hx0, hbx⟩
  refine (l04Is_yes _ p0 p1 _ hbx.1 hbx.2 HV.out).mono ?_
  rintro e w1 ⟨rfl, hx⟩
  have hb := hbx.ext hx
  have hE := hx0.trans hx
  have ⟨c0, c1⟩ := hb
  clear hx
  go_wp2_with (first | (go_at_call 58; (first | with_reducible refine (l04Deep_yes a _ ha0 ha1).mono ?_ | with_reducible refine (l04Deep_yes b _ hb0 hb1).mono ?_); rintro e w' ⟨rfl, rfl⟩) | (go_at_call 59; refine (l04Price_any _ p0 p1 a b _ ha0 ha1 hb0 hb1 c0 c1).mono ?_; rintro e w' ⟨rfl, rfl⟩))
  go_ret2
  exact ⟨_, rfl, ⟨priceX_lt h0 h1 a b, rfl⟩, hE⟩
theorem implPriceOf_yes (p0 p1 : Nat) (h0 : p0 < 4294967296) (h1 : p1 < 4294967296) (a b : Int) (hv : PV p0 p1) (ha0 : 0 ≤ a) (ha1 : a ≤ 7) (hb0 : 0 ≤ b) (hb1 : b ≤ 7) (W : World) :
    Calls Try.prog 21 #[.agg #[.float .f32 p0, .float .f32 p1], .int .i64 a, .int .i64 b] W fun e W' => ∃ r, e = .returned (.tuple #[.float .f32 r, .bool true]) ∧ Is r (nrm (priceX p0 p1 a b)) ∧ Ext W W' := by
  have HV := Lib.hid hv
  clear hv
  go_enter Try.func21, Try.ntmps21
  go_wp2_with fail
  refine calls_at (X := fun w' => Ext W w' ∧ Box2 w' W.heap.size (fl p0) (fl p1)) ⟨(Ext.refl _).alloc _, by simp [go_sem], by simp [go_sem]⟩ ?_
  rintro w0 ⟨hx0, hbx⟩
  refine (implValidPrices_yes p0 p1 _ HV.out).mono ?_
  rintro e w1 ⟨rfl, hx⟩
  have hb := hbx.ext hx
  have hE := hx0.trans hx
  have ⟨c0, c1⟩ := hb
  clear hx
  go_wp2_with (first | (go_at_call 56; (first | with_reducible refine (implIn_yes a _ _ _ ha0 ha1).mono ?_ | with_reducible refine (implIn_yes b _ _ _ hb0 hb1).mono ?_); rintro e w' ⟨rfl, rfl⟩) | (go_at_call 60; refine (price_any p0 p1 a b _ ha0 ha1 hb0 hb1).mono ?_; rintro e w' ⟨rfl, hx⟩))
  go_ret2
  exact ⟨_, rfl, ⟨priceX_lt h0 h1 a b, rfl⟩, hE.trans hx⟩
theorem specPriceOf_no1 (p0 p1 : Nat) (a b : Int) (hv : ¬ PV p0 p1) (W : World) :
    Calls Try.prog 20 #[.agg #[.float .f32 p0, .float .f32 p1], .int .i64 a, .int .i64 b] W fun e W' => ∃ r, e = .returned (.tuple #[.float .f32 r, .bool false]) ∧ Is r 0 ∧ Ext W W' := by
  have HV := Lib.hid hv
  clear hv
  go_enter Try.func20, Try.ntmps20
  go_wp2_with fail
  refine calls_at (X := fun w' => Ext W w' ∧ Box2 w' W.heap.size (fl p0) (fl p1)) ⟨(Ext.refl _).alloc _, by simp [go_sem], by simp [go_sem]⟩ ?_
  rintro w0 ⟨hx0, hbx⟩
  refine (l04Is_no _ p0 p1 _ hbx.1 hbx.2 HV.out).mono ?_
  rintro e w1 ⟨rfl, hx⟩
  have hb := hbx.ext hx
  have hE := hx0.trans hx
  have ⟨c0, c1⟩ := hb
  clear hx
  go_wp2_with (fail)
  go_ret2
  exact ⟨_, rfl, Is.zero, hE⟩
theorem specPriceOf_no2 (p0 p1 : Nat) (a b : Int) (hv : PV p0 p1) (ha : a < 0 ∨ 7 < a) (W : World) :
    Calls Try.prog 20 #[.agg #[.float .f32 p0, .float .f32 p1], .int .i64 a, .int .i64 b] W fun e W' => ∃ r, e = .returned (.tuple #[.float .f32 r, .bool false]) ∧ Is r 0 ∧ Ext W W' := by
  have HV := Lib.hid hv
  have HN := Lib.hid ha
  clear hv ha
  go_enter Try.func20, Try.ntmps20
  go_wp2_with fail
  refine calls_at (X := fun w' => Ext W w' ∧ Box2 w' W.heap.size (fl p0) (fl p1)) ⟨(Ext.refl _).alloc _, by simp [go_sem], by simp [go_sem]⟩ ?_
  rintro w0 ⟨hx0, hbx⟩
  refine (l04Is_yes _ p0 p1 _ hbx.1 hbx.2 HV.out).mono ?_
  rintro e w1 ⟨rfl, hx⟩
  have hb := hbx.ext hx
  have hE := hx0.trans hx
  have ⟨c0, c1⟩ := hb
  clear hx
  go_wp2_with (go_at_call 58; refine (l04Deep_no a _ HN.out).mono ?_; rintro e w' ⟨rfl, rfl⟩)
  go_ret2
  exact ⟨_, rfl, Is.zero, hE⟩
theorem specPriceOf_no3 (p0 p1 : Nat) (a b : Int) (hv : PV p0 p1) (ha0 : 0 ≤ a) (ha1 : a ≤ 7) (hb : b < 0 ∨ 7 < b) (W : World) :
    Calls Try.prog 20 #[.agg #[.float .f32 p0, .float .f32 p1], .int .i64 a, .int .i64 b] W fun e W' => ∃ r, e = .returned (.tuple #[.float .f32 r, .bool false]) ∧ Is r 0 ∧ Ext W W' := by
  have HV := Lib.hid hv
  have HN := Lib.hid hb
  clear hv hb
  go_enter Try.func20, Try.ntmps20
  go_wp2_with fail
  refine calls_at (X := fun w' => Ext W w' ∧ Box2 w' W.heap.size (fl p0) (fl p1)) ⟨(Ext.refl _).alloc _, by simp [go_sem], by simp [go_sem]⟩ ?_
  rintro w0 ⟨hx0, hbx⟩
  refine (l04Is_yes _ p0 p1 _ hbx.1 hbx.2 HV.out).mono ?_
  rintro e w1 ⟨rfl, hx⟩
  have hb := hbx.ext hx
  have hE := hx0.trans hx
  have ⟨c0, c1⟩ := hb
  clear hx
  go_wp2_with (go_at_call 58; (first | with_reducible refine (l04Deep_yes a _ ha0 ha1).mono ?_ | with_reducible refine (l04Deep_no b _ HN.out).mono ?_); rintro e w' ⟨rfl, rfl⟩)
  go_ret2
  exact ⟨_, rfl, Is.zero, hE⟩
theorem specPriceOf_no (p0 p1 : Nat) (a b : Int) (h : ¬ (PV p0 p1 ∧ (0 ≤ a ∧ a ≤ 7) ∧ 0 ≤ b ∧ b ≤ 7)) (W : World) :
    Calls Try.prog 20 #[.agg #[.float .f32 p0, .float .f32 p1], .int .i64 a, .int .i64 b] W fun e W' => ∃ r, e = .returned (.tuple #[.float .f32 r, .bool false]) ∧ Is r 0 ∧ Ext W W' := by
  by_cases hv : PV p0 p1
  · by_cases ha : 0 ≤ a ∧ a ≤ 7
    · exact specPriceOf_no3 p0 p1 a b hv ha.1 ha.2 (Decidable.byContradiction fun hb => h ⟨hv, ha, by omega⟩) W
    · exact specPriceOf_no2 p0 p1 a b hv (by omega) W
  · exact specPriceOf_no1 p0 p1 a b hv W
theorem implPriceOf_no1 (p0 p1 : Nat) (a b : Int) (hv : ¬ PV p0 p1) (W : World) :
    Calls Try.prog 21 #[.agg #[.float .f32 p0, .float .f32 p1], .int .i64 a, .int .i64 b] W fun e W' => ∃ r, e = .returned (.tuple #[.float .f32 r, .bool false]) ∧ Is r 0 ∧ Ext W W' := by
  have HV := Lib.hid hv
  clear hv
  go_enter Try.func21, Try.ntmps21
  go_wp2_with fail
  refine calls_at (X := fun w' => Ext W w' ∧ Box2 w' W.heap.size (fl p0) (fl p1)) ⟨(Ext.refl _).alloc _, by simp [go_sem], by simp [go_sem]⟩ ?_
  rintro w0 ⟨hx0, hbx⟩
  refine (implValidPrices_no p0 p1 _ HV.out).mono ?_
  rintro e w1 ⟨rfl, hx⟩
  have hb := hbx.ext hx
  have hE := hx0.trans hx
  have ⟨c0, c1⟩ := hb
  clear hx
  go_wp2_with (fail)
  go_ret2
  exact ⟨_, rfl, Is.zero, hE⟩
theorem implPriceOf_no2 (p0 p1 : Nat) (a b : Int) (hv : PV p0 p1) (ha : a < 0 ∨ 7 < a) (W : World) :
    Calls Try.prog 21 #[.agg #[.float .f32 p0, .float .f32 p1], .int .i64 a, .int .i64 b] W fun e W' => ∃ r, e = .returned (.tuple #[.float .f32 r, .bool false]) ∧ Is r 0 ∧ Ext W W' := by
  have HV := Lib.hid hv
  have HN := Lib.hid ha
  clear hv ha
  go_enter Try.func21, Try.ntmps21
  go_wp2_with fail
  refine calls_at (X := fun w' => Ext W w' ∧ Box2 w' W.heap.size (fl p0) (fl p1)) ⟨(Ext.refl _).alloc _, by simp [go_sem], by simp [go_sem]⟩ ?_
  rintro w0 ⟨hx0, hbx⟩
  refine (implValidPrices_yes p0 p1 _ HV.out).mono ?_
  rintro e w1 ⟨rfl, hx⟩
  have hb := hbx.ext hx
  have hE := hx0.trans hx
  have ⟨c0, c1⟩ := hb
  clear hx
  go_wp2_with (go_at_call 56; refine (implIn_no a _ _ _ HN.out).mono ?_; rintro e w' ⟨rfl, rfl⟩)
  go_ret2
  exact ⟨_, rfl, Is.zero, hE⟩
theorem implPriceOf_no3 (p0 p1 : Nat) (a b : Int) (hv : PV p0 p1) (ha0 : 0 ≤ a) (ha1 : a ≤ 7) (hb : b < 0 ∨ 7 < b) (W : World) :
    Calls Try.prog 21 #[.agg #[.float .f32 p0, .float .f32 p1], .int .i64 a, .int .i64 b] W fun e W' => ∃ r, e = .returned (.tuple #[.float .f32 r, .bool false]) ∧ Is r 0 ∧ Ext W W' := by
  have HV := Lib.hid hv
  have HN := Lib.hid hb
  clear hv hb
  go_enter Try.func21, Try.ntmps21
  go_wp2_with fail
  refine calls_at (X := fun w' => Ext W w' ∧ Box2 w' W.heap.size (fl p0) (fl p1)) ⟨(Ext.refl _).alloc _, by simp [go_sem], by simp [go_sem]⟩ ?_
  rintro w0 ⟨hx0, hbx⟩
  refine (implValidPrices_yes p0 p1 _ HV.out).mono ?_
  rintro e w1 ⟨rfl, hx⟩
  have hb := hbx.ext hx
  have hE := hx0.trans hx
  have ⟨c0, c1⟩ := hb
  clear hx
  go_wp2_with (go_at_call 56; (first | with_reducible refine (implIn_yes a _ _ _ ha0 ha1).mono ?_ | with_reducible refine (implIn_no b _ _ _ HN.out).mono ?_); rintro e w' ⟨rfl, rfl⟩)
  go_ret2
  exact ⟨_, rfl, Is.zero, hE⟩
theorem implPriceOf_no (p0 p1 : Nat) (a b : Int) (h : ¬ (PV p0 p1 ∧ (0 ≤ a ∧ a ≤ 7) ∧ 0 ≤ b ∧ b ≤ 7)) (W : World) :
    Calls Try.prog 21 #[.agg #[.float .f32 p0, .float .f32 p1], .int .i64 a, .int .i64 b] W fun e W' => ∃ r, e = .returned (.tuple #[.float .f32 r, .bool false]) ∧ Is r 0 ∧ Ext W W' := by
  by_cases hv : PV p0 p1
  · by_cases ha : 0 ≤ a ∧ a ≤ 7
    · exact implPriceOf_no3 p0 p1 a b hv ha.1 ha.2 (Decidable.byContradiction fun hb => h ⟨hv, ha, by omega⟩) W
    · exact implPriceOf_no2 p0 p1 a b hv (by omega) W
  · exact implPriceOf_no1 p0 p1 a b hv W
theorem lawPriceOf_any (W : World) (p0 p1 : Nat) (h0 : p0 < 4294967296) (h1 : p1 < 4294967296) (a : Int) (_ : IntKind.i64.min ≤ a ∧ a ≤ IntKind.i64.max) (b : Int) (_ : IntKind.i64.min ≤ b ∧ b ≤ IntKind.i64.max) :
    Calls Try.prog 5 #[.agg #[.float .f32 p0, .float .f32 p1], .int .i64 a, .int .i64 b] W fun e W' => e = .returned (.bool true) ∧ Ext W W' := by
  by_cases h : PV p0 p1 ∧ (0 ≤ a ∧ a ≤ 7) ∧ 0 ≤ b ∧ b ≤ 7
  · obtain ⟨hv, ⟨ha0, ha1⟩, hb0, hb1⟩ := h
    exact lawPriceOf_core W p0 p1 a b (nrm (priceX p0 p1 a b)) true (fun w => specPriceOf_yes p0 p1 h0 h1 a b hv ha0 ha1 hb0 hb1 w) (fun w => implPriceOf_yes p0 p1 h0 h1 a b hv ha0 ha1 hb0 hb1 w)
  · exact lawPriceOf_core W p0 p1 a b 0 false (fun w => specPriceOf_no p0 p1 a b h w) (fun w => implPriceOf_no p0 p1 a b h w)
end Go.Proofs.Ythcpnbjlgbobaaa
