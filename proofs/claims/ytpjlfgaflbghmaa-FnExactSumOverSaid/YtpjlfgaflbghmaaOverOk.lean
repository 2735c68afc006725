/- Contracts: whether a picture fits a volume. -/
import Derived.Test.YtpjlfgaflbghmaaPathOk
import Derived.Test.YtpjlfgaflbghmaaCube
import Derived.Test.YtpjlfgaflbghmaaSteps
namespace Go.Proofs.Ytpjlfgaflbghmaa
open Go.RowKit
set_option linter.unusedVariables false

/-- A picture of a volume's size. -/
def Fit (z0 z1 y0 y1 : Int) (n1 : Nat) : Prop := VMap y0 y1 n1 ∧ y0 = z0 ∧ y1 = z1
theorem overOk_yes (z0 z1 z2 : Int) (A0 : Option Addr) (n0 m0 : Nat) (y0 y1 : Int) (A1 : Option Addr) (n1 m1 : Nat) (hn1 : n1 ≤ maxLen) (hf : Fit z0 z1 y0 y1 n1) (U : World) :
    Calls Try.prog 71 #[.agg #[.int .i64 z0, .int .i64 z1, .int .i64 z2, .slice A0 n0 m0], .agg #[.int .i64 y0, .int .i64 y1, .slice A1 n1 m1]] U fun e U' => e = .returned (.bool true) ∧ Ext U U' := by
  obtain ⟨hv, h0', h1'⟩ := hf
  have he0 : (y0 == z0) = true := by simpa using h0'
  have he1 : (y1 == z1) = true := by simpa using h1'
  clear h0' h1'
  have HV := Lib.hid hv
  clear hv
  go_enter Try.func71, Try.ntmps71
  go_wp2_with fail
  refine calls_at (X := fun w' => Ext U w' ∧ Box4 w' U.heap.size (.int .i64 z0) (.int .i64 z1) (.int .i64 z2) (.slice A0 n0 m0) ∧ Box3 w' (U.heap.size + 1) (.int .i64 y0) (.int .i64 y1) (.slice A1 n1 m1)) ⟨((Ext.refl _).alloc _).alloc _, ⟨by simp [go_sem], by simp [go_sem], by simp [go_sem], by simp [go_sem]⟩, ⟨by simp [go_sem], by simp [go_sem], by simp [go_sem]⟩⟩ ?_
  rintro w0 ⟨hx0, hb0, hq0⟩
  refine (ValidPicture_yes _ _ A1 n1 m1 _ hn1 HV.out).mono ?_
  rintro e w1 ⟨rfl, hx⟩
  have ⟨p0', p1', p2', p3'⟩ := hb0.ext hx
  have ⟨q0', q1', q2'⟩ := hq0.ext hx
  have hE := hx0.trans hx
  clear hx hx0 hb0 hq0
  go_wp2
  go_ret
  exact ⟨rfl, hE⟩
theorem overOk_no1 (z0 z1 z2 : Int) (A0 : Option Addr) (n0 m0 : Nat) (y0 y1 : Int) (A1 : Option Addr) (n1 m1 : Nat) (hn1 : n1 ≤ maxLen) (hv : ¬ VMap y0 y1 n1) (U : World) :
    Calls Try.prog 71 #[.agg #[.int .i64 z0, .int .i64 z1, .int .i64 z2, .slice A0 n0 m0], .agg #[.int .i64 y0, .int .i64 y1, .slice A1 n1 m1]] U fun e U' => e = .returned (.bool false) ∧ Ext U U' := by
  have HV := Lib.hid hv
  clear hv
  go_enter Try.func71, Try.ntmps71
  go_wp2_with fail
  refine calls_at (X := fun w' => Ext U w' ∧ Box4 w' U.heap.size (.int .i64 z0) (.int .i64 z1) (.int .i64 z2) (.slice A0 n0 m0) ∧ Box3 w' (U.heap.size + 1) (.int .i64 y0) (.int .i64 y1) (.slice A1 n1 m1)) ⟨((Ext.refl _).alloc _).alloc _, ⟨by simp [go_sem], by simp [go_sem], by simp [go_sem], by simp [go_sem]⟩, ⟨by simp [go_sem], by simp [go_sem], by simp [go_sem]⟩⟩ ?_
  rintro w0 ⟨hx0, hb0, hq0⟩
  refine (ValidPicture_not _ _ A1 n1 m1 _ hn1 HV.out).mono ?_
  rintro e w1 ⟨rfl, hx⟩
  have ⟨p0', p1', p2', p3'⟩ := hb0.ext hx
  have ⟨q0', q1', q2'⟩ := hq0.ext hx
  have hE := hx0.trans hx
  clear hx hx0 hb0 hq0
  go_wp2
  go_ret
  exact ⟨rfl, hE⟩
theorem overOk_no2 (z0 z1 z2 : Int) (A0 : Option Addr) (n0 m0 : Nat) (y0 y1 : Int) (A1 : Option Addr) (n1 m1 : Nat) (hn1 : n1 ≤ maxLen) (hv : VMap y0 y1 n1) (hne : ¬ y0 = z0) (U : World) :
    Calls Try.prog 71 #[.agg #[.int .i64 z0, .int .i64 z1, .int .i64 z2, .slice A0 n0 m0], .agg #[.int .i64 y0, .int .i64 y1, .slice A1 n1 m1]] U fun e U' => e = .returned (.bool false) ∧ Ext U U' := by
  have HV := Lib.hid hv
  clear hv
  go_enter Try.func71, Try.ntmps71
  go_wp2_with fail
  refine calls_at (X := fun w' => Ext U w' ∧ Box4 w' U.heap.size (.int .i64 z0) (.int .i64 z1) (.int .i64 z2) (.slice A0 n0 m0) ∧ Box3 w' (U.heap.size + 1) (.int .i64 y0) (.int .i64 y1) (.slice A1 n1 m1)) ⟨((Ext.refl _).alloc _).alloc _, ⟨by simp [go_sem], by simp [go_sem], by simp [go_sem], by simp [go_sem]⟩, ⟨by simp [go_sem], by simp [go_sem], by simp [go_sem]⟩⟩ ?_
  rintro w0 ⟨hx0, hb0, hq0⟩
  refine (ValidPicture_yes _ _ A1 n1 m1 _ hn1 HV.out).mono ?_
  rintro e w1 ⟨rfl, hx⟩
  have ⟨p0', p1', p2', p3'⟩ := hb0.ext hx
  have ⟨q0', q1', q2'⟩ := hq0.ext hx
  have hE := hx0.trans hx
  clear hx hx0 hb0 hq0
  go_wp2
  go_ret
  exact ⟨rfl, hE⟩
theorem overOk_no3 (z0 z1 z2 : Int) (A0 : Option Addr) (n0 m0 : Nat) (y0 y1 : Int) (A1 : Option Addr) (n1 m1 : Nat) (hn1 : n1 ≤ maxLen) (hv : VMap y0 y1 n1) (he : y0 = z0) (hne : ¬ y1 = z1) (U : World) :
    Calls Try.prog 71 #[.agg #[.int .i64 z0, .int .i64 z1, .int .i64 z2, .slice A0 n0 m0], .agg #[.int .i64 y0, .int .i64 y1, .slice A1 n1 m1]] U fun e U' => e = .returned (.bool false) ∧ Ext U U' := by
  have he0 : (y0 == z0) = true := by simpa using he
  have hnb : (y1 == z1) = false := by simpa using hne
  clear he hne
  have HV := Lib.hid hv
  clear hv
  go_enter Try.func71, Try.ntmps71
  go_wp2_with fail
  refine calls_at (X := fun w' => Ext U w' ∧ Box4 w' U.heap.size (.int .i64 z0) (.int .i64 z1) (.int .i64 z2) (.slice A0 n0 m0) ∧ Box3 w' (U.heap.size + 1) (.int .i64 y0) (.int .i64 y1) (.slice A1 n1 m1)) ⟨((Ext.refl _).alloc _).alloc _, ⟨by simp [go_sem], by simp [go_sem], by simp [go_sem], by simp [go_sem]⟩, ⟨by simp [go_sem], by simp [go_sem], by simp [go_sem]⟩⟩ ?_
  rintro w0 ⟨hx0, hb0, hq0⟩
  refine (ValidPicture_yes _ _ A1 n1 m1 _ hn1 HV.out).mono ?_
  rintro e w1 ⟨rfl, hx⟩
  have ⟨p0', p1', p2', p3'⟩ := hb0.ext hx
  have ⟨q0', q1', q2'⟩ := hq0.ext hx
  have hE := hx0.trans hx
  clear hx hx0 hb0 hq0
  go_wp2
  go_ret
  exact ⟨rfl, hE⟩
theorem overOk_no (z0 z1 z2 : Int) (A0 : Option Addr) (n0 m0 : Nat) (y0 y1 : Int) (A1 : Option Addr) (n1 m1 : Nat) (hn1 : n1 ≤ maxLen) (hf : ¬ Fit z0 z1 y0 y1 n1) (U : World) :
    Calls Try.prog 71 #[.agg #[.int .i64 z0, .int .i64 z1, .int .i64 z2, .slice A0 n0 m0], .agg #[.int .i64 y0, .int .i64 y1, .slice A1 n1 m1]] U fun e U' => e = .returned (.bool false) ∧ Ext U U' := by
  by_cases hv : VMap y0 y1 n1
  · by_cases h0 : y0 = z0
    · exact overOk_no3 z0 z1 z2 A0 n0 m0 y0 y1 A1 n1 m1 hn1 hv h0 (fun h1 => hf ⟨hv, h0, h1⟩) U
    · exact overOk_no2 z0 z1 z2 A0 n0 m0 y0 y1 A1 n1 m1 hn1 hv h0 U
  · exact overOk_no1 z0 z1 z2 A0 n0 m0 y0 y1 A1 n1 m1 hn1 hv U
theorem l04Fits_yes (g g' : Nat) (z0 z1 z2 : Int) (A0 : Option Addr) (n0 m0 : Nat) (y0 y1 : Int) (A1 : Option Addr) (n1 m1 : Nat) (hn0 : n0 ≤ maxLen) (hn1 : n1 ≤ maxLen) (U : World) (hB : Box4 U g (.int .i64 z0) (.int .i64 z1) (.int .i64 z2) (.slice A0 n0 m0)) (hB' : Box3 U g' (.int .i64 y0) (.int .i64 y1) (.slice A1 n1 m1)) (hv : VVol z0 z1 z2 n0) (hf : Fit z0 z1 y0 y1 n1) :
    Calls Try.prog 67 #[.pointer (some ⟨g, 0, none⟩), .pointer (some ⟨g', 0, none⟩)] U fun e U' => e = .returned (.bool true) ∧ Ext U U' := by
  obtain ⟨hv2, h0', h1'⟩ := hf
  have he0 : (y0 == z0) = true := by simpa using h0'
  have he1 : (y1 == z1) = true := by simpa using h1'
  clear h0' h1'
  have H1 := Lib.hid (fun (W : World) (hx : Ext U W) => (let b := hB.ext hx; l03Is_yes g z0 z1 z2 A0 n0 m0 W hn0 b.1 b.2.1 b.2.2.1 b.2.2.2 hv))
  have H2 := Lib.hid (fun (W : World) (hx : Ext U W) => (let b := hB'.ext hx; l02Is_yes g' y0 y1 A1 n1 m1 W hn1 b.1 b.2.1 b.2.2 hv2))
  obtain ⟨p0', p1', p2', p3'⟩ := hB
  obtain ⟨q0', q1', q2'⟩ := hB'
  clear hv hv2
  go_enter Try.func67, Try.ntmps67
  go_wp2_with fail
  refine region_wx 28 [] (by kernel_rfl) (by kernel_rfl) ?_
  simp only [List.take_succ_cons, List.take_zero, List.drop_succ_cons, List.drop_zero]
  repeat ((first | refine wx_skip rfl ?_ | refine wx_nilCheck rfl rfl _ rfl _ rfl ?_ | (refine wx_float rfl rfl _ _ _ _ _ _ _ rfl rfl rfl rfl ?_; intro r hr) | (refine wx_k rfl rfl rfl (fun K hK => ?_); go_big_quiet_op; refine hK _ ?_; clear hK K) | (refine wx_call rfl rfl 59 _ _ rfl (by kernel_rfl) (by kernel_rfl) (.bool true) (fun W hW hF => ?_) ?_; go_simp; (with_reducible refine (H1.out W hW).mono ?_); rintro e w' h; exact h) | (refine wx_call rfl rfl 103 _ _ rfl (by kernel_rfl) (by kernel_rfl) (.bool true) (fun W hW hF => ?_) ?_; go_simp; (with_reducible refine (H2.out W hW).mono ?_); rintro e w' h; exact h)); (try simp only [Act.put, List.setIfInBounds_toArray, List.set_cons_zero, List.set_cons_succ]); (try simp only [List.tail_nil]))
  refine wx_nil (fun W hW hF => ?_)
  go_wp2
  go_ret
  exact ⟨rfl, hW⟩
theorem l04Fits_no1 (g g' : Nat) (z0 z1 z2 : Int) (A0 : Option Addr) (n0 m0 : Nat) (y0 y1 : Int) (A1 : Option Addr) (n1 m1 : Nat) (hn0 : n0 ≤ maxLen) (hn1 : n1 ≤ maxLen) (U : World) (hB : Box4 U g (.int .i64 z0) (.int .i64 z1) (.int .i64 z2) (.slice A0 n0 m0)) (hB' : Box3 U g' (.int .i64 y0) (.int .i64 y1) (.slice A1 n1 m1)) (hv : ¬ VVol z0 z1 z2 n0) :
    Calls Try.prog 67 #[.pointer (some ⟨g, 0, none⟩), .pointer (some ⟨g', 0, none⟩)] U fun e U' => e = .returned (.bool false) ∧ Ext U U' := by
  have H1 := Lib.hid (fun (W : World) (hx : Ext U W) => (let b := hB.ext hx; l03Is_not g z0 z1 z2 A0 n0 m0 W hn0 b.1 b.2.1 b.2.2.1 b.2.2.2 hv))
  have H2 := Lib.hid (fun (W : World) (hx : Ext U W) => (let b := hB'.ext hx; b.1))
  obtain ⟨p0', p1', p2', p3'⟩ := hB
  obtain ⟨q0', q1', q2'⟩ := hB'
  clear hv
  go_enter Try.func67, Try.ntmps67
  go_wp2_with fail
  refine region_wx 28 [] (by kernel_rfl) (by kernel_rfl) ?_
  simp only [List.take_succ_cons, List.take_zero, List.drop_succ_cons, List.drop_zero]
  repeat ((first | refine wx_skip rfl ?_ | refine wx_nilCheck rfl rfl _ rfl _ rfl ?_ | (refine wx_float rfl rfl _ _ _ _ _ _ _ rfl rfl rfl rfl ?_; intro r hr) | (refine wx_k rfl rfl rfl (fun K hK => ?_); go_big_quiet_op; refine hK _ ?_; clear hK K) | (refine wx_call rfl rfl 59 _ _ rfl (by kernel_rfl) (by kernel_rfl) (.bool false) (fun W hW hF => ?_) ?_; go_simp; (with_reducible refine (H1.out W hW).mono ?_); rintro e w' h; exact h)); (try simp only [Act.put, List.setIfInBounds_toArray, List.set_cons_zero, List.set_cons_succ]); (try simp only [List.tail_nil]))
  refine wx_nil (fun W hW hF => ?_)
  go_wp2
  go_ret
  exact ⟨rfl, hW⟩
theorem l04Fits_no2 (g g' : Nat) (z0 z1 z2 : Int) (A0 : Option Addr) (n0 m0 : Nat) (y0 y1 : Int) (A1 : Option Addr) (n1 m1 : Nat) (hn0 : n0 ≤ maxLen) (hn1 : n1 ≤ maxLen) (U : World) (hB : Box4 U g (.int .i64 z0) (.int .i64 z1) (.int .i64 z2) (.slice A0 n0 m0)) (hB' : Box3 U g' (.int .i64 y0) (.int .i64 y1) (.slice A1 n1 m1)) (hv : VVol z0 z1 z2 n0) (hv2 : ¬ VMap y0 y1 n1) :
    Calls Try.prog 67 #[.pointer (some ⟨g, 0, none⟩), .pointer (some ⟨g', 0, none⟩)] U fun e U' => e = .returned (.bool false) ∧ Ext U U' := by
  have H1 := Lib.hid (fun (W : World) (hx : Ext U W) => (let b := hB.ext hx; l03Is_yes g z0 z1 z2 A0 n0 m0 W hn0 b.1 b.2.1 b.2.2.1 b.2.2.2 hv))
  have H2 := Lib.hid (fun (W : World) (hx : Ext U W) => (let b := hB'.ext hx; l02Is_not g' y0 y1 A1 n1 m1 W hn1 b.1 b.2.1 b.2.2 hv2))
  obtain ⟨p0', p1', p2', p3'⟩ := hB
  obtain ⟨q0', q1', q2'⟩ := hB'
  clear hv hv2
  go_enter Try.func67, Try.ntmps67
  go_wp2_with fail
  refine region_wx 28 [] (by kernel_rfl) (by kernel_rfl) ?_
  simp only [List.take_succ_cons, List.take_zero, List.drop_succ_cons, List.drop_zero]
  repeat ((first | refine wx_skip rfl ?_ | refine wx_nilCheck rfl rfl _ rfl _ rfl ?_ | (refine wx_float rfl rfl _ _ _ _ _ _ _ rfl rfl rfl rfl ?_; intro r hr) | (refine wx_k rfl rfl rfl (fun K hK => ?_); go_big_quiet_op; refine hK _ ?_; clear hK K) | (refine wx_call rfl rfl 59 _ _ rfl (by kernel_rfl) (by kernel_rfl) (.bool true) (fun W hW hF => ?_) ?_; go_simp; (with_reducible refine (H1.out W hW).mono ?_); rintro e w' h; exact h) | (refine wx_call rfl rfl 103 _ _ rfl (by kernel_rfl) (by kernel_rfl) (.bool false) (fun W hW hF => ?_) ?_; go_simp; (with_reducible refine (H2.out W hW).mono ?_); rintro e w' h; exact h)); (try simp only [Act.put, List.setIfInBounds_toArray, List.set_cons_zero, List.set_cons_succ]); (try simp only [List.tail_nil]))
  refine wx_nil (fun W hW hF => ?_)
  go_wp2
  go_ret
  exact ⟨rfl, hW⟩
theorem l04Fits_no3 (g g' : Nat) (z0 z1 z2 : Int) (A0 : Option Addr) (n0 m0 : Nat) (y0 y1 : Int) (A1 : Option Addr) (n1 m1 : Nat) (hn0 : n0 ≤ maxLen) (hn1 : n1 ≤ maxLen) (U : World) (hB : Box4 U g (.int .i64 z0) (.int .i64 z1) (.int .i64 z2) (.slice A0 n0 m0)) (hB' : Box3 U g' (.int .i64 y0) (.int .i64 y1) (.slice A1 n1 m1)) (hv : VVol z0 z1 z2 n0) (hv2 : VMap y0 y1 n1) (hne : ¬ y0 = z0) :
    Calls Try.prog 67 #[.pointer (some ⟨g, 0, none⟩), .pointer (some ⟨g', 0, none⟩)] U fun e U' => e = .returned (.bool false) ∧ Ext U U' := by
  have hnb : (y0 == z0) = false := by simpa using hne
  have H1 := Lib.hid (fun (W : World) (hx : Ext U W) => (let b := hB.ext hx; l03Is_yes g z0 z1 z2 A0 n0 m0 W hn0 b.1 b.2.1 b.2.2.1 b.2.2.2 hv))
  have H2 := Lib.hid (fun (W : World) (hx : Ext U W) => (let b := hB'.ext hx; l02Is_yes g' y0 y1 A1 n1 m1 W hn1 b.1 b.2.1 b.2.2 hv2))
  obtain ⟨p0', p1', p2', p3'⟩ := hB
  obtain ⟨q0', q1', q2'⟩ := hB'
  clear hv hv2
  go_enter Try.func67, Try.ntmps67
  go_wp2_with fail
  refine region_wx 28 [] (by kernel_rfl) (by kernel_rfl) ?_
  simp only [List.take_succ_cons, List.take_zero, List.drop_succ_cons, List.drop_zero]
  repeat ((first | refine wx_skip rfl ?_ | refine wx_nilCheck rfl rfl _ rfl _ rfl ?_ | (refine wx_float rfl rfl _ _ _ _ _ _ _ rfl rfl rfl rfl ?_; intro r hr) | (refine wx_k rfl rfl rfl (fun K hK => ?_); go_big_quiet_op; refine hK _ ?_; clear hK K) | (refine wx_call rfl rfl 59 _ _ rfl (by kernel_rfl) (by kernel_rfl) (.bool true) (fun W hW hF => ?_) ?_; go_simp; (with_reducible refine (H1.out W hW).mono ?_); rintro e w' h; exact h) | (refine wx_call rfl rfl 103 _ _ rfl (by kernel_rfl) (by kernel_rfl) (.bool true) (fun W hW hF => ?_) ?_; go_simp; (with_reducible refine (H2.out W hW).mono ?_); rintro e w' h; exact h)); (try simp only [Act.put, List.setIfInBounds_toArray, List.set_cons_zero, List.set_cons_succ]); (try simp only [List.tail_nil]))
  refine wx_nil (fun W hW hF => ?_)
  go_wp2
  go_ret
  exact ⟨rfl, hW⟩
theorem l04Fits_no4 (g g' : Nat) (z0 z1 z2 : Int) (A0 : Option Addr) (n0 m0 : Nat) (y0 y1 : Int) (A1 : Option Addr) (n1 m1 : Nat) (hn0 : n0 ≤ maxLen) (hn1 : n1 ≤ maxLen) (U : World) (hB : Box4 U g (.int .i64 z0) (.int .i64 z1) (.int .i64 z2) (.slice A0 n0 m0)) (hB' : Box3 U g' (.int .i64 y0) (.int .i64 y1) (.slice A1 n1 m1)) (hv : VVol z0 z1 z2 n0) (hv2 : VMap y0 y1 n1) (he : y0 = z0) (hne : ¬ y1 = z1) :
    Calls Try.prog 67 #[.pointer (some ⟨g, 0, none⟩), .pointer (some ⟨g', 0, none⟩)] U fun e U' => e = .returned (.bool false) ∧ Ext U U' := by
  have he0 : (y0 == z0) = true := by simpa using he
  have hnb : (y1 == z1) = false := by simpa using hne
  clear he hne
  have H1 := Lib.hid (fun (W : World) (hx : Ext U W) => (let b := hB.ext hx; l03Is_yes g z0 z1 z2 A0 n0 m0 W hn0 b.1 b.2.1 b.2.2.1 b.2.2.2 hv))
  have H2 := Lib.hid (fun (W : World) (hx : Ext U W) => (let b := hB'.ext hx; l02Is_yes g' y0 y1 A1 n1 m1 W hn1 b.1 b.2.1 b.2.2 hv2))
  obtain ⟨p0', p1', p2', p3'⟩ := hB
  obtain ⟨q0', q1', q2'⟩ := hB'
  clear hv hv2
  go_enter Try.func67, Try.ntmps67
  go_wp2_with fail
  refine region_wx 28 [] (by kernel_rfl) (by kernel_rfl) ?_
  simp only [List.take_succ_cons, List.take_zero, List.drop_succ_cons, List.drop_zero]
  repeat ((first | refine wx_skip rfl ?_ | refine wx_nilCheck rfl rfl _ rfl _ rfl ?_ | (refine wx_float rfl rfl _ _ _ _ _ _ _ rfl rfl rfl rfl ?_; intro r hr) | (refine wx_k rfl rfl rfl (fun K hK => ?_); go_big_quiet_op; refine hK _ ?_; clear hK K) | (refine wx_call rfl rfl 59 _ _ rfl (by kernel_rfl) (by kernel_rfl) (.bool true) (fun W hW hF => ?_) ?_; go_simp; (with_reducible refine (H1.out W hW).mono ?_); rintro e w' h; exact h) | (refine wx_call rfl rfl 103 _ _ rfl (by kernel_rfl) (by kernel_rfl) (.bool true) (fun W hW hF => ?_) ?_; go_simp; (with_reducible refine (H2.out W hW).mono ?_); rintro e w' h; exact h)); (try simp only [Act.put, List.setIfInBounds_toArray, List.set_cons_zero, List.set_cons_succ]); (try simp only [List.tail_nil]))
  refine wx_nil (fun W hW hF => ?_)
  go_wp2
  go_ret
  exact ⟨rfl, hW⟩
theorem l04Fits_no (g g' : Nat) (z0 z1 z2 : Int) (A0 : Option Addr) (n0 m0 : Nat) (y0 y1 : Int) (A1 : Option Addr) (n1 m1 : Nat) (hn0 : n0 ≤ maxLen) (hn1 : n1 ≤ maxLen) (U : World) (hB : Box4 U g (.int .i64 z0) (.int .i64 z1) (.int .i64 z2) (.slice A0 n0 m0)) (hB' : Box3 U g' (.int .i64 y0) (.int .i64 y1) (.slice A1 n1 m1)) (hno : ¬ (VVol z0 z1 z2 n0 ∧ Fit z0 z1 y0 y1 n1)) :
    Calls Try.prog 67 #[.pointer (some ⟨g, 0, none⟩), .pointer (some ⟨g', 0, none⟩)] U fun e U' => e = .returned (.bool false) ∧ Ext U U' := by
  by_cases hv : VVol z0 z1 z2 n0
  · by_cases hv2 : VMap y0 y1 n1
    · by_cases h0 : y0 = z0
      · exact l04Fits_no4 g g' z0 z1 z2 A0 n0 m0 y0 y1 A1 n1 m1 hn0 hn1 U hB hB' hv hv2 h0 (fun h1 => hno ⟨hv, hv2, h0, h1⟩)
      · exact l04Fits_no3 g g' z0 z1 z2 A0 n0 m0 y0 y1 A1 n1 m1 hn0 hn1 U hB hB' hv hv2 h0
    · exact l04Fits_no2 g g' z0 z1 z2 A0 n0 m0 y0 y1 A1 n1 m1 hn0 hn1 U hB hB' hv hv2
  · exact l04Fits_no1 g g' z0 z1 z2 A0 n0 m0 y0 y1 A1 n1 m1 hn0 hn1 U hB hB' hv
theorem over_any (p0 p1 go : Nat) (U : World) : Calls Try.prog 73 #[.agg #[.float .f32 p0, .float .f32 p1], .pointer (some ⟨go, 0, none⟩)] U fun e U' => ∃ b1 b2, e = .returned (.func (.func 112) #[] #[.pointer (some ⟨b1, 0, none⟩), .pointer (some ⟨b2, 0, none⟩)]) ∧ Box2 U' b1 (fl p0) (fl p1) ∧ U'.cell? ⟨b2, 0, none⟩ = some (.pointer (some ⟨go, 0, none⟩)) ∧ Ext U U' := by
  go_enter Try.func73, Try.ntmps73
  go_wp2
  go_ret
  exact ⟨_, _, rfl, ⟨by simp [go_sem], by simp [go_sem]⟩, by simp [go_sem], ((Ext.refl _).alloc _).alloc _⟩
end Go.Proofs.Ytpjlfgaflbghmaa
