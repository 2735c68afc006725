/- The law on CostOfMap holds. -/
import Derived.Test.YtcekofioiofjbaaOwn3
import Derived.Test.YtcekofioiofjbaaPlace
import Derived.Test.YtcekofioiofjbaaCCostOfMap
namespace Go.Proofs.Ytcekofioiofjbaa
open Go.RowKit
set_option linter.unusedVariables false

/-- The number of a value's disparity, where it is one of a cell. -/
def inD (dn x : Nat) : Prop := pok x = true ∧ rnd (vmag x) < dn
noncomputable instance (dn x : Nat) : Decidable (inD dn x) := by unfold inD; infer_instance
/-- The sum of the costs of the first cells. -/
noncomputable def comTo (dn : Nat) (bs ms : List Nat) : Nat → Nat
  | 0 => 0
  | i + 1 => if inD dn (ms.getD i 0) then fop .add (comTo dn bs ms i) (bs.getD (i * dn + rnd (vmag (ms.getD i 0))) 0) else comTo dn bs ms i
theorem is_add {r X v q : Nat} (hr : Is r X) (hv : v < 4294967296) (h : Is q (fop .add r v)) : Is q (fop .add X v) := by
  have h1 := Is.op hr (nrm_word hv) h
  have h2 := fop_nrm .add X (nrm v)
  have h3 := fop_nrm .add X v
  rw [nrm_nrm] at h2
  rw [h2.symm.trans h3] at h1
  exact h1
theorem cell_lin (wn j k : Nat) : cellN (wn : Int) (j : Int) (k : Int) = k * wn + j := by rw [cellN_nat, Nat.mul_comm, Nat.add_comm]
theorem implCostOfMap_no1 (z0 z1 z2 : Int) (A : Option Addr) (n c : Nat) (y0 y1 : Int) (A' : Option Addr) (n' c' : Nat) (U : World) (hn : n ≤ maxLen) (hn' : n' ≤ maxLen) (hv : ¬ VVol z0 z1 z2 n) :
    Calls Try.prog 29 #[.agg #[.int .i64 z0, .int .i64 z1, .int .i64 z2, .slice A n c], .agg #[.int .i64 y0, .int .i64 y1, .slice A' n' c']] U fun e U' => ∃ r, e = .returned (.tuple #[.float .f32 r, .bool false]) ∧ Is r 0 ∧ Ext U U' := by
  have HV := Lib.hid hv
  clear hv
  go_enter Try.func29, Try.ntmps29
  go_wp2_with fail
  refine calls_at (X := fun w' => Ext U w' ∧ Box4 w' U.heap.size (.int .i64 z0) (.int .i64 z1) (.int .i64 z2) (.slice A n c) ∧ Box3 w' (U.heap.size + 1) (.int .i64 y0) (.int .i64 y1) (.slice A' n' c')) ⟨((Ext.refl _).alloc _).alloc _, ⟨by simp [go_sem], by simp [go_sem], by simp [go_sem], by simp [go_sem]⟩, ⟨by simp [go_sem], by simp [go_sem], by simp [go_sem]⟩⟩ ?_
  rintro w0 ⟨hx0, hb0, hm0⟩
  refine (ValidVolume_not _ _ _ _ _ _ _ hn HV.out).mono ?_
  rintro e w1 ⟨rfl, hx⟩
  have hE1 := hx0.trans hx
  clear hx hx0 hb0 hm0
  go_wp2
  go_ret2
  exact ⟨_, rfl, Is.zero, hE1⟩
theorem implCostOfMap_no2 (z0 z1 z2 : Int) (A : Option Addr) (n c : Nat) (y0 y1 : Int) (A' : Option Addr) (n' c' : Nat) (U : World) (hn : n ≤ maxLen) (hn' : n' ≤ maxLen) (hv : VVol z0 z1 z2 n) (hm : ¬ VMap y0 y1 n') :
    Calls Try.prog 29 #[.agg #[.int .i64 z0, .int .i64 z1, .int .i64 z2, .slice A n c], .agg #[.int .i64 y0, .int .i64 y1, .slice A' n' c']] U fun e U' => ∃ r, e = .returned (.tuple #[.float .f32 r, .bool false]) ∧ Is r 0 ∧ Ext U U' := by
  have HV := Lib.hid hv
  have HM := Lib.hid hm
  clear hv hm
  go_enter Try.func29, Try.ntmps29
  go_wp2_with fail
  refine calls_at (X := fun w' => Ext U w' ∧ Box4 w' U.heap.size (.int .i64 z0) (.int .i64 z1) (.int .i64 z2) (.slice A n c) ∧ Box3 w' (U.heap.size + 1) (.int .i64 y0) (.int .i64 y1) (.slice A' n' c')) ⟨((Ext.refl _).alloc _).alloc _, ⟨by simp [go_sem], by simp [go_sem], by simp [go_sem], by simp [go_sem]⟩, ⟨by simp [go_sem], by simp [go_sem], by simp [go_sem]⟩⟩ ?_
  rintro w0 ⟨hx0, hb0, hm0⟩
  refine (ValidVolume_yes _ _ _ _ _ _ _ hn HV.out).mono ?_
  rintro e w1 ⟨rfl, hx⟩
  have hb1 := hb0.ext hx
  have hm1 := hm0.ext hx
  have hE1 := hx0.trans hx
  clear hx hx0 hb0 hm0
  have ⟨p0, p1, p2, p3⟩ := hb1
  have ⟨q0, q1, q2⟩ := hm1
  go_wp2_with fail
  refine (ValidMap_not _ _ _ _ _ _ hn' HM.out).mono ?_
  rintro e w2 ⟨rfl, hx⟩
  have hE2 := hE1.trans hx
  clear p0 p1 p2 p3 q0 q1 q2 hx
  go_wp2
  go_ret2
  exact ⟨_, rfl, Is.zero, hE2⟩
theorem implCostOfMap_no3 (z0 z1 z2 : Int) (A : Option Addr) (n c : Nat) (y0 y1 : Int) (A' : Option Addr) (n' c' : Nat) (U : World) (hn : n ≤ maxLen) (hn' : n' ≤ maxLen) (hv : VVol z0 z1 z2 n) (hm : VMap y0 y1 n') (hq : z0 ≠ y0) :
    Calls Try.prog 29 #[.agg #[.int .i64 z0, .int .i64 z1, .int .i64 z2, .slice A n c], .agg #[.int .i64 y0, .int .i64 y1, .slice A' n' c']] U fun e U' => ∃ r, e = .returned (.tuple #[.float .f32 r, .bool false]) ∧ Is r 0 ∧ Ext U U' := by
  have HV := Lib.hid hv
  have HM := Lib.hid hm
  have hne : (z0 != y0) = true := by simp [hq]
  clear hv hm hq
  go_enter Try.func29, Try.ntmps29
  go_wp2_with fail
  refine calls_at (X := fun w' => Ext U w' ∧ Box4 w' U.heap.size (.int .i64 z0) (.int .i64 z1) (.int .i64 z2) (.slice A n c) ∧ Box3 w' (U.heap.size + 1) (.int .i64 y0) (.int .i64 y1) (.slice A' n' c')) ⟨((Ext.refl _).alloc _).alloc _, ⟨by simp [go_sem], by simp [go_sem], by simp [go_sem], by simp [go_sem]⟩, ⟨by simp [go_sem], by simp [go_sem], by simp [go_sem]⟩⟩ ?_
  rintro w0 ⟨hx0, hb0, hm0⟩
  refine (ValidVolume_yes _ _ _ _ _ _ _ hn HV.out).mono ?_
  rintro e w1 ⟨rfl, hx⟩
  have hb1 := hb0.ext hx
  have hm1 := hm0.ext hx
  have hE1 := hx0.trans hx
  clear hx hx0 hb0 hm0
  have ⟨p0, p1, p2, p3⟩ := hb1
  have ⟨q0, q1, q2⟩ := hm1
  go_wp2_with fail
  refine (ValidMap_yes _ _ _ _ _ _ hn' HM.out).mono ?_
  rintro e w2 ⟨rfl, hx⟩
  clear p0 p1 p2 p3 q0 q1 q2
  have hb2 := hb1.ext hx
  have hm2 := hm1.ext hx
  have hE2 := hE1.trans hx
  clear hx hE1 hb1 hm1
  have ⟨p0, p1, p2, p3⟩ := hb2
  have ⟨q0, q1, q2⟩ := hm2
  go_wp2
  go_ret2
  exact ⟨_, rfl, Is.zero, hE2⟩
theorem implCostOfMap_no4 (z0 z1 z2 : Int) (A : Option Addr) (n c : Nat) (y0 y1 : Int) (A' : Option Addr) (n' c' : Nat) (U : World) (hn : n ≤ maxLen) (hn' : n' ≤ maxLen) (hv : VVol z0 z1 z2 n) (hm : VMap y0 y1 n') (hq0 : z0 = y0) (hq : z1 ≠ y1) :
    Calls Try.prog 29 #[.agg #[.int .i64 z0, .int .i64 z1, .int .i64 z2, .slice A n c], .agg #[.int .i64 y0, .int .i64 y1, .slice A' n' c']] U fun e U' => ∃ r, e = .returned (.tuple #[.float .f32 r, .bool false]) ∧ Is r 0 ∧ Ext U U' := by
  have HV := Lib.hid hv
  have HM := Lib.hid hm
  have hne0 : (z0 != y0) = false := by simp [hq0]
  have hne : (z1 != y1) = true := by simp [hq]
  clear hv hm hq hq0
  go_enter Try.func29, Try.ntmps29
  go_wp2_with fail
  refine calls_at (X := fun w' => Ext U w' ∧ Box4 w' U.heap.size (.int .i64 z0) (.int .i64 z1) (.int .i64 z2) (.slice A n c) ∧ Box3 w' (U.heap.size + 1) (.int .i64 y0) (.int .i64 y1) (.slice A' n' c')) ⟨((Ext.refl _).alloc _).alloc _, ⟨by simp [go_sem], by simp [go_sem], by simp [go_sem], by simp [go_sem]⟩, ⟨by simp [go_sem], by simp [go_sem], by simp [go_sem]⟩⟩ ?_
  rintro w0 ⟨hx0, hb0, hm0⟩
  refine (ValidVolume_yes _ _ _ _ _ _ _ hn HV.out).mono ?_
  rintro e w1 ⟨rfl, hx⟩
  have hb1 := hb0.ext hx
  have hm1 := hm0.ext hx
  have hE1 := hx0.trans hx
  clear hx hx0 hb0 hm0
  have ⟨p0, p1, p2, p3⟩ := hb1
  have ⟨q0, q1, q2⟩ := hm1
  go_wp2_with fail
  refine (ValidMap_yes _ _ _ _ _ _ hn' HM.out).mono ?_
  rintro e w2 ⟨rfl, hx⟩
  clear p0 p1 p2 p3 q0 q1 q2
  have hb2 := hb1.ext hx
  have hm2 := hm1.ext hx
  have hE2 := hE1.trans hx
  clear hx hE1 hb1 hm1
  have ⟨p0, p1, p2, p3⟩ := hb2
  have ⟨q0, q1, q2⟩ := hm2
  go_wp2
  go_ret2
  exact ⟨_, rfl, Is.zero, hE2⟩
theorem implCostOfMap_no (z0 z1 z2 : Int) (A : Option Addr) (n c : Nat) (y0 y1 : Int) (A' : Option Addr) (n' c' : Nat) (U : World) (hn : n ≤ maxLen) (hn' : n' ≤ maxLen) (hv : ¬ (VVol z0 z1 z2 n ∧ VMap y0 y1 n' ∧ z0 = y0 ∧ z1 = y1)) :
    Calls Try.prog 29 #[.agg #[.int .i64 z0, .int .i64 z1, .int .i64 z2, .slice A n c], .agg #[.int .i64 y0, .int .i64 y1, .slice A' n' c']] U fun e U' => ∃ r, e = .returned (.tuple #[.float .f32 r, .bool false]) ∧ Is r 0 ∧ Ext U U' := by
  by_cases h1 : VVol z0 z1 z2 n
  · by_cases h2 : VMap y0 y1 n'
    · by_cases h3 : z0 = y0
      · exact implCostOfMap_no4 z0 z1 z2 A n c y0 y1 A' n' c' U hn hn' h1 h2 h3 (fun h4 => hv ⟨h1, h2, h3, h4⟩)
      · exact implCostOfMap_no3 z0 z1 z2 A n c y0 y1 A' n' c' U hn hn' h1 h2 h3
    · exact implCostOfMap_no2 z0 z1 z2 A n c y0 y1 A' n' c' U hn hn' h1 h2
  · exact implCostOfMap_no1 z0 z1 z2 A n c y0 y1 A' n' c' U hn hn' h1
theorem specCostOfMap_no1 (z0 z1 z2 : Int) (A : Option Addr) (n c : Nat) (y0 y1 : Int) (A' : Option Addr) (n' c' : Nat) (U : World) (hn : n ≤ maxLen) (hn' : n' ≤ maxLen) (hv : ¬ VVol z0 z1 z2 n) :
    Calls Try.prog 27 #[.agg #[.int .i64 z0, .int .i64 z1, .int .i64 z2, .slice A n c], .agg #[.int .i64 y0, .int .i64 y1, .slice A' n' c']] U fun e U' => ∃ r, e = .returned (.tuple #[.float .f32 r, .bool false]) ∧ Is r 0 ∧ Ext U U' := by
  have HV := Lib.hid hv
  clear hv
  go_enter Try.func27, Try.ntmps27
  go_wp2_with fail
  refine calls_at (X := fun w' => Ext U w' ∧ Box4 w' U.heap.size (.int .i64 z0) (.int .i64 z1) (.int .i64 z2) (.slice A n c) ∧ Box3 w' (U.heap.size + 1) (.int .i64 y0) (.int .i64 y1) (.slice A' n' c')) ⟨((Ext.refl _).alloc _).alloc _, ⟨by simp [go_sem], by simp [go_sem], by simp [go_sem], by simp [go_sem]⟩, ⟨by simp [go_sem], by simp [go_sem], by simp [go_sem]⟩⟩ ?_
  rintro w0 ⟨hx0, hb0, hm0⟩
  refine (l03Is_not _ _ _ _ _ _ _ _ hn hb0.1 hb0.2.1 hb0.2.2.1 hb0.2.2.2 HV.out).mono ?_
  rintro e w1 ⟨rfl, hx⟩
  have hE1 := hx0.trans hx
  clear hx hx0 hb0 hm0
  go_wp2
  go_ret2
  exact ⟨_, rfl, Is.zero, hE1⟩
theorem specCostOfMap_no2 (z0 z1 z2 : Int) (A : Option Addr) (n c : Nat) (y0 y1 : Int) (A' : Option Addr) (n' c' : Nat) (U : World) (hn : n ≤ maxLen) (hn' : n' ≤ maxLen) (hv : VVol z0 z1 z2 n) (hm : ¬ VMap y0 y1 n') :
    Calls Try.prog 27 #[.agg #[.int .i64 z0, .int .i64 z1, .int .i64 z2, .slice A n c], .agg #[.int .i64 y0, .int .i64 y1, .slice A' n' c']] U fun e U' => ∃ r, e = .returned (.tuple #[.float .f32 r, .bool false]) ∧ Is r 0 ∧ Ext U U' := by
  have HV := Lib.hid hv
  have HM := Lib.hid hm
  clear hv hm
  go_enter Try.func27, Try.ntmps27
  go_wp2_with fail
  refine calls_at (X := fun w' => Ext U w' ∧ Box4 w' U.heap.size (.int .i64 z0) (.int .i64 z1) (.int .i64 z2) (.slice A n c) ∧ Box3 w' (U.heap.size + 1) (.int .i64 y0) (.int .i64 y1) (.slice A' n' c')) ⟨((Ext.refl _).alloc _).alloc _, ⟨by simp [go_sem], by simp [go_sem], by simp [go_sem], by simp [go_sem]⟩, ⟨by simp [go_sem], by simp [go_sem], by simp [go_sem]⟩⟩ ?_
  rintro w0 ⟨hx0, hb0, hm0⟩
  refine (l03Is_yes _ _ _ _ _ _ _ _ hn hb0.1 hb0.2.1 hb0.2.2.1 hb0.2.2.2 HV.out).mono ?_
  rintro e w1 ⟨rfl, hx⟩
  have hb1 := hb0.ext hx
  have hm1 := hm0.ext hx
  have hE1 := hx0.trans hx
  clear hx hx0 hb0 hm0
  have ⟨p0, p1, p2, p3⟩ := hb1
  have ⟨q0, q1, q2⟩ := hm1
  go_wp2_with fail
  refine (l03IsMap_not _ _ _ _ _ _ _ hn' hm1.1 hm1.2.1 hm1.2.2 HM.out).mono ?_
  rintro e w2 ⟨rfl, hx⟩
  have hE2 := hE1.trans hx
  clear p0 p1 p2 p3 q0 q1 q2 hx
  go_wp2
  go_ret2
  exact ⟨_, rfl, Is.zero, hE2⟩
theorem specCostOfMap_no3 (z0 z1 z2 : Int) (A : Option Addr) (n c : Nat) (y0 y1 : Int) (A' : Option Addr) (n' c' : Nat) (U : World) (hn : n ≤ maxLen) (hn' : n' ≤ maxLen) (hv : VVol z0 z1 z2 n) (hm : VMap y0 y1 n') (hq : z0 ≠ y0) :
    Calls Try.prog 27 #[.agg #[.int .i64 z0, .int .i64 z1, .int .i64 z2, .slice A n c], .agg #[.int .i64 y0, .int .i64 y1, .slice A' n' c']] U fun e U' => ∃ r, e = .returned (.tuple #[.float .f32 r, .bool false]) ∧ Is r 0 ∧ Ext U U' := by
  have HV := Lib.hid hv
  have HM := Lib.hid hm
  have hne : (z0 != y0) = true := by simp [hq]
  clear hv hm hq
  go_enter Try.func27, Try.ntmps27
  go_wp2_with fail
  refine calls_at (X := fun w' => Ext U w' ∧ Box4 w' U.heap.size (.int .i64 z0) (.int .i64 z1) (.int .i64 z2) (.slice A n c) ∧ Box3 w' (U.heap.size + 1) (.int .i64 y0) (.int .i64 y1) (.slice A' n' c')) ⟨((Ext.refl _).alloc _).alloc _, ⟨by simp [go_sem], by simp [go_sem], by simp [go_sem], by simp [go_sem]⟩, ⟨by simp [go_sem], by simp [go_sem], by simp [go_sem]⟩⟩ ?_
  rintro w0 ⟨hx0, hb0, hm0⟩
  refine (l03Is_yes _ _ _ _ _ _ _ _ hn hb0.1 hb0.2.1 hb0.2.2.1 hb0.2.2.2 HV.out).mono ?_
  rintro e w1 ⟨rfl, hx⟩
  have hb1 := hb0.ext hx
  have hm1 := hm0.ext hx
  have hE1 := hx0.trans hx
  clear hx hx0 hb0 hm0
  have ⟨p0, p1, p2, p3⟩ := hb1
  have ⟨q0, q1, q2⟩ := hm1
  go_wp2_with fail
  refine (l03IsMap_yes _ _ _ _ _ _ _ hn' hm1.1 hm1.2.1 hm1.2.2 HM.out).mono ?_
  rintro e w2 ⟨rfl, hx⟩
  clear p0 p1 p2 p3 q0 q1 q2
  have hb2 := hb1.ext hx
  have hm2 := hm1.ext hx
  have hE2 := hE1.trans hx
  clear hx hE1 hb1 hm1
  have ⟨p0, p1, p2, p3⟩ := hb2
  have ⟨q0, q1, q2⟩ := hm2
  go_wp2
  go_ret2
  exact ⟨_, rfl, Is.zero, hE2⟩
theorem specCostOfMap_no4 (z0 z1 z2 : Int) (A : Option Addr) (n c : Nat) (y0 y1 : Int) (A' : Option Addr) (n' c' : Nat) (U : World) (hn : n ≤ maxLen) (hn' : n' ≤ maxLen) (hv : VVol z0 z1 z2 n) (hm : VMap y0 y1 n') (hq0 : z0 = y0) (hq : z1 ≠ y1) :
    Calls Try.prog 27 #[.agg #[.int .i64 z0, .int .i64 z1, .int .i64 z2, .slice A n c], .agg #[.int .i64 y0, .int .i64 y1, .slice A' n' c']] U fun e U' => ∃ r, e = .returned (.tuple #[.float .f32 r, .bool false]) ∧ Is r 0 ∧ Ext U U' := by
  have HV := Lib.hid hv
  have HM := Lib.hid hm
  have hne0 : (z0 != y0) = false := by simp [hq0]
  have hne : (z1 != y1) = true := by simp [hq]
  clear hv hm hq hq0
  go_enter Try.func27, Try.ntmps27
  go_wp2_with fail
  refine calls_at (X := fun w' => Ext U w' ∧ Box4 w' U.heap.size (.int .i64 z0) (.int .i64 z1) (.int .i64 z2) (.slice A n c) ∧ Box3 w' (U.heap.size + 1) (.int .i64 y0) (.int .i64 y1) (.slice A' n' c')) ⟨((Ext.refl _).alloc _).alloc _, ⟨by simp [go_sem], by simp [go_sem], by simp [go_sem], by simp [go_sem]⟩, ⟨by simp [go_sem], by simp [go_sem], by simp [go_sem]⟩⟩ ?_
  rintro w0 ⟨hx0, hb0, hm0⟩
  refine (l03Is_yes _ _ _ _ _ _ _ _ hn hb0.1 hb0.2.1 hb0.2.2.1 hb0.2.2.2 HV.out).mono ?_
  rintro e w1 ⟨rfl, hx⟩
  have hb1 := hb0.ext hx
  have hm1 := hm0.ext hx
  have hE1 := hx0.trans hx
  clear hx hx0 hb0 hm0
  have ⟨p0, p1, p2, p3⟩ := hb1
  have ⟨q0, q1, q2⟩ := hm1
  go_wp2_with fail
  refine (l03IsMap_yes _ _ _ _ _ _ _ hn' hm1.1 hm1.2.1 hm1.2.2 HM.out).mono ?_
  rintro e w2 ⟨rfl, hx⟩
  clear p0 p1 p2 p3 q0 q1 q2
  have hb2 := hb1.ext hx
  have hm2 := hm1.ext hx
  have hE2 := hE1.trans hx
  clear hx hE1 hb1 hm1
  have ⟨p0, p1, p2, p3⟩ := hb2
  have ⟨q0, q1, q2⟩ := hm2
  go_wp2
  go_ret2
  exact ⟨_, rfl, Is.zero, hE2⟩
theorem specCostOfMap_no (z0 z1 z2 : Int) (A : Option Addr) (n c : Nat) (y0 y1 : Int) (A' : Option Addr) (n' c' : Nat) (U : World) (hn : n ≤ maxLen) (hn' : n' ≤ maxLen) (hv : ¬ (VVol z0 z1 z2 n ∧ VMap y0 y1 n' ∧ z0 = y0 ∧ z1 = y1)) :
    Calls Try.prog 27 #[.agg #[.int .i64 z0, .int .i64 z1, .int .i64 z2, .slice A n c], .agg #[.int .i64 y0, .int .i64 y1, .slice A' n' c']] U fun e U' => ∃ r, e = .returned (.tuple #[.float .f32 r, .bool false]) ∧ Is r 0 ∧ Ext U U' := by
  by_cases h1 : VVol z0 z1 z2 n
  · by_cases h2 : VMap y0 y1 n'
    · by_cases h3 : z0 = y0
      · exact specCostOfMap_no4 z0 z1 z2 A n c y0 y1 A' n' c' U hn hn' h1 h2 h3 (fun h4 => hv ⟨h1, h2, h3, h4⟩)
      · exact specCostOfMap_no3 z0 z1 z2 A n c y0 y1 A' n' c' U hn hn' h1 h2 h3
    · exact specCostOfMap_no2 z0 z1 z2 A n c y0 y1 A' n' c' U hn hn' h1 h2
  · exact specCostOfMap_no1 z0 z1 z2 A n c y0 y1 A' n' c' U hn hn' h1
set_option maxHeartbeats 4000000 in
set_option maxRecDepth 8000 in
theorem implCostOfMap_yes (wn hn dn gb off n c mb moff m mc : Nat) (bs ms : List Nat) (U : World) (hl : Lies U gb off bs) (hlen : bs.length = n) (hwd : Words bs) (hnc : n ≤ c) (hcm : c ≤ maxLen) (hv : VVol wn hn dn n) (hlm : Lies U mb moff ms) (hlenm : ms.length = m) (hwdm : Words ms) (hmc : m ≤ mc) (hmm : mc ≤ maxLen) (hvm : VMap wn hn m) :
    Calls Try.prog 29 #[.agg #[.int .i64 wn, .int .i64 hn, .int .i64 dn, .slice (some ⟨gb, off, none⟩) n c], .agg #[.int .i64 wn, .int .i64 hn, .slice (some ⟨mb, moff, none⟩) m mc]] U fun e U' => ∃ r, e = .returned (.tuple #[.float .f32 r, .bool true]) ∧ Is r (comTo dn bs ms (wn * hn)) ∧ Ext U U' := by
  have hd8 := hv.2.2.1
  have hd0 := hv.2.1
  obtain ⟨hnn, h0, hn2⟩ := vol_n hv
  obtain ⟨hmn, hm0', hm2⟩ := map_n hvm
  have h1 : wn ≤ 24 := by have := hv.1.2.1; omega
  have h2 : hn ≤ 24 := by have := hv.1.2.2.2.1; omega
  have hnL := Nat.le_trans hnc hcm
  have hmL := Nat.le_trans hmc hmm
  have HV := Lib.hid hv
  have HM := Lib.hid hvm
  have hwd1 : IntKind.i64.wrap ((dn : Int) - 1) = (dn : Int) - 1 := wrap_small _ (by omega) (by omega)
  have HAT := Lib.hid (fun (g : Nat) (W : World) (hx' : Ext U W) (hB : Box3 W g (.int .i64 wn) (.int .i64 hn) (.slice (some ⟨mb, moff, none⟩) m mc)) (j k : Nat) (hj : j < wn) (hk : k < hn) => (by
    obtain ⟨e1, e2, e3⟩ := cellN_eq hvm (show 0 ≤ (j : Int) by omega) (show (j : Int) ≤ (wn : Int) - 1 by omega) (show 0 ≤ (k : Int) by omega) (show (k : Int) ≤ (hn : Int) - 1 by omega)
    have h3 := at_any g wn hn (some ⟨mb, moff, none⟩) m mc ms (j : Int) (k : Int) _ W hB ⟨hlenm, fun _ => ⟨mb, moff, rfl, hlm.ext hx'⟩⟩ hmL e1 e2 e3
    rw [cell_lin] at h3
    exact h3 : Calls Try.prog 70 #[.pointer (some ⟨g, 0, none⟩), .int .i64 j, .int .i64 k] W fun e W' => e = .returned (.float .f32 (ms.getD (k * wn + j) 0)) ∧ Ext W W'))
  have HC := Lib.hid (fun (g : Nat) (W : World) (hx' : Ext U W) (hB : Box4 W g (.int .i64 wn) (.int .i64 hn) (.int .i64 dn) (.slice (some ⟨gb, off, none⟩) n c)) (j k : Nat) (hj : j < wn) (hk : k < hn) => (by
    have h3 := cellC_any g wn hn dn gb off n c (j : Int) (k : Int) W hB hnc hcm hv ⟨by omega, by omega⟩ ⟨by omega, by omega⟩
    rw [cell_lin] at h3
    exact h3 : Calls Try.prog 65 #[.pointer (some ⟨g, 0, none⟩), .int .i64 j, .int .i64 k] W fun e W' => e = .returned (.slice (some ⟨gb, off + (k * wn + j) * dn, none⟩) dn dn) ∧ Ext W W'))
  have HK := Lib.hid (fun (j k : Nat) (hj : j < wn) (hk : k < hn) => (by
    have h3 := cell_k hv (⟨by omega, by omega⟩ : 0 ≤ (j : Int) ∧ (j : Int) ≤ (wn : Int) - 1) (⟨by omega, by omega⟩ : 0 ≤ (k : Int) ∧ (k : Int) ≤ (hn : Int) - 1)
    rw [cell_lin] at h3; exact h3 : (k * wn + j) * dn + dn ≤ n))
  have HL := Lib.hid hl
  have HLEN := Lib.hid hlen
  have HWD := Lib.hid hwd
  clear hv hvm hl hlen hwd hnc hcm hlm hlenm hwdm hmc hmm hnn hmn h0 hm0' hn2 hm2
  go_enter Try.func29, Try.ntmps29
  go_wp2_with fail
  refine calls_at (X := fun w' => Ext U w' ∧ Box4 w' U.heap.size (.int .i64 wn) (.int .i64 hn) (.int .i64 dn) (.slice (some ⟨gb, off, none⟩) n c) ∧ Box3 w' (U.heap.size + 1) (.int .i64 wn) (.int .i64 hn) (.slice (some ⟨mb, moff, none⟩) m mc)) ⟨((Ext.refl _).alloc _).alloc _, ⟨by simp [go_sem], by simp [go_sem], by simp [go_sem], by simp [go_sem]⟩, ⟨by simp [go_sem], by simp [go_sem], by simp [go_sem]⟩⟩ ?_
  rintro w0 ⟨hx0, hb0, hm0⟩
  refine (ValidVolume_yes _ _ _ _ _ _ _ hnL HV.out).mono ?_
  rintro e w1 ⟨rfl, hx⟩
  have hb1 := hb0.ext hx
  have hm1 := hm0.ext hx
  have hE1 := hx0.trans hx
  clear hx hx0 hb0 hm0
  have ⟨p0, p1, p2, p3⟩ := hb1
  have ⟨q0, q1, q2⟩ := hm1
  go_wp2_with fail
  refine (ValidMap_yes _ _ _ _ _ _ hmL HM.out).mono ?_
  rintro e w2 ⟨rfl, hx⟩
  clear p0 p1 p2 p3 q0 q1 q2
  have hb2 := hb1.ext hx
  have hm2 := hm1.ext hx
  have hE2 := hE1.trans hx
  clear hx hE1 hb1 hm1
  have ⟨p0, p1, p2, p3⟩ := hb2
  have ⟨q0, q1, q2⟩ := hm2
  go_wp2_with fail
  go_loopw [6, 34] (fun s yv wr => ∃ (k r : Nat), k ≤ hn ∧ yv = .int .i64 k ∧ s = .float .f32 r ∧ Is r (comTo dn bs ms (k * wn)) ∧ Ext w2 wr) (fun _ yv _ => hn - (intOf yv).toNat)
  case atStart => exact ⟨0, 0, Nat.zero_le _, rfl, rfl, by rw [Nat.zero_mul]; exact Is.zero, Ext.refl _⟩
  case round =>
    obtain ⟨k, r, hk, rfl, rfl, hr0, hxx⟩ := hrel
    clear p0 p1 p2 p3 q0 q1 q2
    have ⟨q0, q1, q2⟩ := hm2.ext hxx
    by_cases hlt : k < hn
    · go_wp2_with fail
      clear q0 q1 q2
      go_loopw [6, 39] (fun s xv wq => ∃ (j r : Nat), j ≤ wn ∧ xv = .int .i64 j ∧ s = .float .f32 r ∧ Is r (comTo dn bs ms (k * wn + j)) ∧ Ext w2 wq) (fun _ xv _ => wn - (intOf xv).toNat)
      case atStart => exact ⟨0, r, Nat.zero_le _, rfl, rfl, hr0, hxx⟩
      case round =>
        clear hr0 hxx
        obtain ⟨j, r, hj, rfl, rfl, hr0, hxx⟩ := hrel
        by_cases hltj : j < wn
        · obtain ⟨x, hxd⟩ : ∃ x, ms.getD (k * wn + j) 0 = x := ⟨_, rfl⟩
          have HXD := Lib.hid hxd
          have HATx := Lib.hid (hxd ▸ HAT.out _ _ (hE2.trans hxx) (hm2.ext hxx) j k hltj hlt)
          clear hxd
          go_wp2_with fail
          refine HATx.out.mono ?_
          rintro e w3 ⟨rfl, hx3⟩
          go_wp2_with fail
          refine (place_any _ _).mono ?_
          rintro e w4 ⟨rfl, hx4⟩
          have hx5 := hxx.trans (hx3.trans hx4)
          clear hx3 hx4 hxx
          have hb4 := hb2.ext hx5
          have ⟨p0, p1, p2, p3⟩ := hb4
          have hxd := HXD.out
          by_cases hin : inD dn x
          · have e1 : comTo dn bs ms (k * wn + j + 1) = fop .add (comTo dn bs ms (k * wn + j)) (bs.getD ((k * wn + j) * dn + rnd (vmag x)) 0) := by rw [comTo, hxd, if_pos hin]
            obtain ⟨hp, hlt2⟩ := hin
            rw [if_pos hp]
            generalize rnd (vmag x) = R at hlt2 e1 ⊢
            have e2 : min (R : Int) 1048576 = (R : Int) := by omega
            rw [e2]
            have hkn := HK.out j k hltj hlt
            have hcv := (HL.out.ext (hE2.trans hx5)) ((k * wn + j) * dn + R) (by have := HLEN.out; omega)
            have hwv := wd_at HWD.out ((k * wn + j) * dn + R)
            rw [← Nat.add_assoc] at hcv
            have HCC := Lib.hid (fun W (hW : Ext w4 W) => HC.out _ W ((hE2.trans hx5).trans hW) (hb4.ext hW) j k hltj hlt)
            generalize bs.getD ((k * wn + j) * dn + R) 0 = v at hcv hwv e1
            generalize comTo dn bs ms (k * wn + j) = X at e1 hr0
            generalize (k * wn + j) * dn = kk at hcv HCC hkn
            have HE1 := Lib.hid e1
            have HI : Hid ((0 : Int) ≤ (R : Int) ∧ (R : Int) ≤ (dn : Int) - 1) := Lib.hid (by omega)
            have b0 : (0 : Int) ≤ (R : Int) := by omega
            have b1 : (R : Int) < (dn : Int) := by omega
            clear e1 hp hxd e2
            go_wp2_with (go_at_call 71; refine (implIn_yes _ _ _ _ HI.out.1 HI.out.2).mono ?_; rintro e w' ⟨rfl, rfl⟩)
            refine (HCC.out _ (Ext.refl _)).mono ?_
            rintro e w5 ⟨rfl, hx6⟩
            replace hcv := cell_ext hcv hx6
            have hx7 := hx5.trans hx6
            clear hx5 hx6 p0 p1 p2 p3 hb4 HCC
            go_wp2
            go_roundw
            case rel => exact ⟨j + 1, _, by omega, by go_num, rfl, by rw [← Nat.add_assoc, HE1.out]; exact is_add hr0 hwv (flR_is _ _ _ _), by repeat (first | with_reducible exact hx7 | (with_reducible refine Ext.drewN ?_ _))⟩
            case measure => simp [intOf]; omega
          · have e1 : comTo dn bs ms (k * wn + j + 1) = comTo dn bs ms (k * wn + j) := by rw [comTo, hxd, if_neg hin]
            have hno : (if pok x = true then min (rnd (vmag x) : Int) 1048576 else -1) < 0 ∨ (dn : Int) - 1 < (if pok x = true then min (rnd (vmag x) : Int) 1048576 else -1) := by
              by_cases hp : pok x = true
              · rw [if_pos hp]
                have : ¬ rnd (vmag x) < dn := fun h => hin ⟨hp, h⟩
                omega
              · rw [if_neg hp]; omega
            generalize (if pok x = true then min (rnd (vmag x) : Int) 1048576 else -1) = P at hno ⊢
            have HN := Lib.hid hno
            have HE1 := Lib.hid e1
            clear hno e1 hin hxd
            go_wp2_with (go_at_call 71; refine (implIn_no _ _ _ _ HN.out).mono ?_; rintro e w' ⟨rfl, rfl⟩)
            go_roundw
            case rel => exact ⟨j + 1, r, by omega, by go_num, rfl, by rw [← Nat.add_assoc, HE1.out]; exact hr0, hx5⟩
            case measure => simp [intOf]; omega
        · have e1 : j = wn := by omega
          rw [e1, ← Nat.succ_mul] at hr0
          go_wp2
          go_roundw
          case rel => exact ⟨k + 1, r, by omega, by go_num, rfl, hr0, hxx⟩
          case measure => simp [intOf]; omega
    · have e1 : k = hn := by omega
      rw [e1, Nat.mul_comm] at hr0
      go_wp2
      go_ret2
      exact ⟨_, rfl, hr0, hE2.trans hxx⟩
set_option maxHeartbeats 4000000 in
set_option maxRecDepth 8000 in
theorem specCostOfMap_yes (wn hn dn gb off n c mb moff m mc : Nat) (bs ms : List Nat) (U : World) (hl : Lies U gb off bs) (hlen : bs.length = n) (hwd : Words bs) (hnc : n ≤ c) (hcm : c ≤ maxLen) (hv : VVol wn hn dn n) (hlm : Lies U mb moff ms) (hlenm : ms.length = m) (hwdm : Words ms) (hmc : m ≤ mc) (hmm : mc ≤ maxLen) (hvm : VMap wn hn m) :
    Calls Try.prog 27 #[.agg #[.int .i64 wn, .int .i64 hn, .int .i64 dn, .slice (some ⟨gb, off, none⟩) n c], .agg #[.int .i64 wn, .int .i64 hn, .slice (some ⟨mb, moff, none⟩) m mc]] U fun e U' => ∃ r, e = .returned (.tuple #[.float .f32 r, .bool true]) ∧ Is r (comTo dn bs ms (wn * hn)) ∧ Ext U U' := by
  have hd8 := hv.2.2.1
  have hd0 := hv.2.1
  obtain ⟨hnn, h0, hn2⟩ := vol_n hv
  obtain ⟨hmn, hm0', hm2⟩ := map_n hvm
  have h1 : wn ≤ 24 := by have := hv.1.2.1; omega
  have h2 : hn ≤ 24 := by have := hv.1.2.2.2.1; omega
  have hnL := Nat.le_trans hnc hcm
  have hmL := Nat.le_trans hmc hmm
  have HV := Lib.hid hv
  have HM := Lib.hid hvm
  have hwd1 : IntKind.i64.wrap ((dn : Int) - 1) = (dn : Int) - 1 := wrap_small _ (by omega) (by omega)
  have HK := Lib.hid (fun (i : Nat) (hi : i < m) => (by
    have h3 : (i + 1) * dn ≤ n := by rw [hnn]; exact Nat.mul_le_mul_right _ (by omega)
    rw [Nat.succ_mul] at h3; exact h3 : i * dn + dn ≤ n))
  have HMN := Lib.hid hmn
  have HM2 := Lib.hid hm2
  have HN2 := Lib.hid hn2
  have HL := Lib.hid hl
  have HLM := Lib.hid hlm
  have HLEN := Lib.hid hlen
  have HLENM := Lib.hid hlenm
  have HWD := Lib.hid hwd
  unfold maxLen at hcm
  clear hv hvm hl hlen hwd hlm hlenm hwdm hmc hmm hnn hmn h0 hm0' hn2 hm2
  go_enter Try.func27, Try.ntmps27
  go_wp2_with fail
  refine calls_at (X := fun w' => Ext U w' ∧ Box4 w' U.heap.size (.int .i64 wn) (.int .i64 hn) (.int .i64 dn) (.slice (some ⟨gb, off, none⟩) n c) ∧ Box3 w' (U.heap.size + 1) (.int .i64 wn) (.int .i64 hn) (.slice (some ⟨mb, moff, none⟩) m mc)) ⟨((Ext.refl _).alloc _).alloc _, ⟨by simp [go_sem], by simp [go_sem], by simp [go_sem], by simp [go_sem]⟩, ⟨by simp [go_sem], by simp [go_sem], by simp [go_sem]⟩⟩ ?_
  rintro w0 ⟨hx0, hb0, hm0⟩
  refine (l03Is_yes _ _ _ _ _ _ _ _ hnL hb0.1 hb0.2.1 hb0.2.2.1 hb0.2.2.2 HV.out).mono ?_
  rintro e w1 ⟨rfl, hx⟩
  have hb1 := hb0.ext hx
  have hm1 := hm0.ext hx
  have hE1 := hx0.trans hx
  clear hx hx0 hb0 hm0
  have ⟨p0, p1, p2, p3⟩ := hb1
  have ⟨q0, q1, q2⟩ := hm1
  go_wp2_with fail
  refine (l03IsMap_yes _ _ _ _ _ _ _ hmL hm1.1 hm1.2.1 hm1.2.2 HM.out).mono ?_
  rintro e w2 ⟨rfl, hx⟩
  clear p0 p1 p2 p3 q0 q1 q2
  have hb2 := hb1.ext hx
  have hm2 := hm1.ext hx
  have hE2 := hE1.trans hx
  clear hx hE1 hb1 hm1
  have ⟨p0, p1, p2, p3⟩ := hb2
  have ⟨q0, q1, q2⟩ := hm2
  go_wp2_with fail
  go_loopw [6, 32] (fun s iv wr => ∃ (i r : Nat), i ≤ m ∧ iv = .int .i64 i ∧ s = .float .f32 r ∧ Is r (comTo dn bs ms i) ∧ Ext w2 wr) (fun _ iv _ => m - (intOf iv).toNat)
  case atStart => exact ⟨0, 0, Nat.zero_le _, rfl, rfl, Is.zero, Ext.refl _⟩
  case round =>
    obtain ⟨i, r, hi', rfl, rfl, hr0, hxx⟩ := hrel
    have hm256 := HM2.out
    clear p0 p1 p2 p3 q0 q1 q2
    have ⟨q0, q1, q2⟩ := hm2.ext hxx
    by_cases hlt : i < m
    · obtain ⟨x, hxd⟩ : ∃ x, ms.getD i 0 = x := ⟨_, rfl⟩
      have HXD := Lib.hid hxd
      have hcx := (HLM.out.ext (hE2.trans hxx)) i (by have := HLENM.out; omega)
      rw [hxd] at hcx
      have hi0 : (0 : Int) ≤ (i : Int) := by omega
      have hi1 : (i : Int) < (m : Int) := by omega
      clear hxd
      go_wp2_with fail
      refine (l03Place_any _ _).mono ?_
      rintro e w4 ⟨rfl, hx4⟩
      clear q0 q1 q2 hcx
      have hx5 := hxx.trans hx4
      clear hx4 hxx
      have hb4 := hb2.ext hx5
      have ⟨p0, p1, p2, p3⟩ := hb4
      have hxd := HXD.out
      by_cases hin : inD dn x
      · have e1 : comTo dn bs ms (i + 1) = fop .add (comTo dn bs ms i) (bs.getD (i * dn + rnd (vmag x)) 0) := by rw [comTo, hxd, if_pos hin]
        obtain ⟨hp, hlt2⟩ := hin
        rw [if_pos hp]
        generalize rnd (vmag x) = R at hlt2 e1 ⊢
        have e2 : min (R : Int) 25 = (R : Int) := by omega
        rw [e2]
        have hkn := HK.out i hlt
        have hcv := (HL.out.ext (hE2.trans hx5)) (i * dn + R) (by have := HLEN.out; omega)
        have hwv := wd_at HWD.out (i * dn + R)
        generalize bs.getD (i * dn + R) 0 = v at hcv hwv e1
        generalize comTo dn bs ms i = X at e1 hr0
        obtain ⟨kk, hkk⟩ : ∃ kk, i * dn = kk := ⟨_, rfl⟩
        have hw2 : IntKind.i64.wrap ((i : Int) * (dn : Int)) = (kk : Int) := by
          have : (i : Int) * (dn : Int) = (kk : Int) := by rw [← hkk]; simp
          rw [this]; exact IntWalk.i64_in _ (by have := HN2.out; omega)
        rw [hkk] at hcv hkn
        obtain ⟨kr, hkr⟩ : ∃ kr, kk + R = kr := ⟨_, rfl⟩
        have hw3 : IntKind.i64.wrap ((kk : Int) + (R : Int)) = (kr : Int) := by
          rw [show (kk : Int) + (R : Int) = (kr : Int) by omega]; exact IntWalk.i64_in _ (by have := HN2.out; omega)
        rw [hkr] at hcv
        have HE1 := Lib.hid e1
        have HI : Hid ((0 : Int) ≤ (R : Int) ∧ (R : Int) ≤ (dn : Int) - 1) := Lib.hid (by omega)
        have b0 : (0 : Int) ≤ (kr : Int) := by omega
        have b1 : (kr : Int) < (n : Int) := by omega
        clear e1 hp hxd e2 hkk hkr hkn
        go_wp2_with (go_at_call 60; refine (l00In_yes _ _ _ _ HI.out.1 HI.out.2).mono ?_; rintro e w' ⟨rfl, rfl⟩)
        go_roundw
        case rel => exact ⟨i + 1, _, by omega, by go_num, rfl, by rw [HE1.out]; exact is_add hr0 hwv (flR_is _ _ _ _), by repeat (first | with_reducible exact hx5 | (with_reducible refine Ext.drewN ?_ _))⟩
        case measure => simp [intOf]; omega
      · have e1 : comTo dn bs ms (i + 1) = comTo dn bs ms i := by rw [comTo, hxd, if_neg hin]
        have hno : (if pok x = true then min (rnd (vmag x) : Int) 25 else -1) < 0 ∨ (dn : Int) - 1 < (if pok x = true then min (rnd (vmag x) : Int) 25 else -1) := by
          by_cases hp : pok x = true
          · rw [if_pos hp]
            have : ¬ rnd (vmag x) < dn := fun h => hin ⟨hp, h⟩
            omega
          · rw [if_neg hp]; omega
        generalize (if pok x = true then min (rnd (vmag x) : Int) 25 else -1) = P at hno ⊢
        have HN := Lib.hid hno
        have HE1 := Lib.hid e1
        clear hno e1 hin hxd
        go_wp2_with (go_at_call 60; refine (l00In_no _ _ _ _ HN.out).mono ?_; rintro e w' ⟨rfl, rfl⟩)
        go_roundw
        case rel => exact ⟨i + 1, r, by omega, by go_num, rfl, by rw [HE1.out]; exact hr0, hx5⟩
        case measure => simp [intOf]; omega
    · have e1 : i = wn * hn := by have := HMN.out; omega
      rw [e1] at hr0
      go_wp2
      go_ret2
      exact ⟨_, rfl, hr0, hE2.trans hxx⟩
set_option maxRecDepth 8000 in
theorem lawCostOfMap_any (W : World) (z0 z1 z2 : Int) (_ : -9223372036854775808 ≤ z0 ∧ z0 ≤ 9223372036854775807) (_ : -9223372036854775808 ≤ z1 ∧ z1 ≤ 9223372036854775807) (_ : -9223372036854775808 ≤ z2 ∧ z2 ≤ 9223372036854775807) (A : Option Addr) (n m : Nat) (bs : List Nat) (hc : n ≤ m) (hm : m ≤ maxLen) (hr : Reads W A n bs) (hw : Words bs) (y0 y1 : Int) (_ : -9223372036854775808 ≤ y0 ∧ y0 ≤ 9223372036854775807) (_ : -9223372036854775808 ≤ y1 ∧ y1 ≤ 9223372036854775807) (A' : Option Addr) (n' m' : Nat) (bs' : List Nat) (hc' : n' ≤ m') (hm' : m' ≤ maxLen) (hr' : Reads W A' n' bs') (hw' : Words bs') :
    Calls Try.prog 5 #[.agg #[.int .i64 z0, .int .i64 z1, .int .i64 z2, .slice A n m], .agg #[.int .i64 y0, .int .i64 y1, .slice A' n' m']] W fun e W' => e = .returned (.bool true) ∧ Ext W W' := by
  have hn : n ≤ maxLen := Nat.le_trans hc hm
  have hn' : n' ≤ maxLen := Nat.le_trans hc' hm'
  by_cases hv : VVol z0 z1 z2 n ∧ VMap y0 y1 n' ∧ z0 = y0 ∧ z1 = y1
  · obtain ⟨hv, hv', rfl, rfl⟩ := hv
    obtain ⟨wn, rfl⟩ := Int.eq_ofNat_of_zero_le (show 0 ≤ z0 by have := hv.1.1; omega)
    obtain ⟨hh, rfl⟩ := Int.eq_ofNat_of_zero_le (show 0 ≤ z1 by have := hv.1.2.2.1; omega)
    obtain ⟨dn, rfl⟩ := Int.eq_ofNat_of_zero_le (show 0 ≤ z2 by have := hv.2.1; omega)
    obtain ⟨hnn, h0, hn2⟩ := vol_n hv
    obtain ⟨hmn, hm0, hm2⟩ := map_n hv'
    refine lawCostOfMap_core W wn hh dn A n m bs hn hr wn hh A' n' m' bs' hn' hr' (comTo dn bs bs' (wn * hh)) true ?_ ?_
    · intro w D D' hd hd'
      obtain ⟨gb, off, rfl, hl⟩ := hd.2 h0
      obtain ⟨mb, moff, rfl, hl'⟩ := hd'.2 hm0
      exact specCostOfMap_yes wn hh dn gb off n n mb moff n' n' bs bs' w hl hd.1 hw (Nat.le_refl _) hn hv hl' hd'.1 hw' (Nat.le_refl _) hn' hv'
    · intro w D D' hd hd'
      obtain ⟨gb, off, rfl, hl⟩ := hd.2 h0
      obtain ⟨mb, moff, rfl, hl'⟩ := hd'.2 hm0
      exact implCostOfMap_yes wn hh dn gb off n n mb moff n' n' bs bs' w hl hd.1 hw (Nat.le_refl _) hn hv hl' hd'.1 hw' (Nat.le_refl _) hn' hv'
  · exact lawCostOfMap_core W z0 z1 z2 A n m bs hn hr y0 y1 A' n' m' bs' hn' hr' 0 false (fun w D D' hd hd' => specCostOfMap_no z0 z1 z2 D n n y0 y1 D' n' n' w hn hn' hv) (fun w D D' hd hd' => implCostOfMap_no z0 z1 z2 D n n y0 y1 D' n' n' w hn hn' hv)
end Go.Proofs.Ytcekofioiofjbaa
