/- Contracts: two maps, two pictures of one size. -/
import Derived.Test.YtgpobhpcbgenoaaValid
import Derived.Test.YtgpobhpcbgenoaaCube
namespace Go.Proofs.Ytgpobhpcbgenoaa
open Go.RowKit
set_option linter.unusedVariables false

theorem two_ne {w h w' h' : Int} (hne : ¬ (w = w' ∧ h = h')) : (w == w') = false ∨ (w = w' ∧ (h == h') = false) := by
  by_cases h0 : w = w'
  · by_cases h1 : h = h'
    · exact absurd ⟨h0, h1⟩ hne
    · exact .inr ⟨h0, by simpa using h1⟩
  · exact .inl (by simpa using h0)
theorem pairOk_yes (w h : Int) (A A' : Option Addr) (n n' m m' : Nat) (U : World) (hn : n ≤ maxLen) (hn' : n' ≤ maxLen) (hv : VMap w h n) (hv' : VMap w h n') :
    Calls Try.prog 78 #[.agg #[.int .i64 w, .int .i64 h, .slice A n m], .agg #[.int .i64 w, .int .i64 h, .slice A' n' m']] U fun e U' => e = .returned (.bool true) ∧ Ext U U' := by
  have HV := Lib.hid hv
  have HV' := Lib.hid hv'
  clear hv hv'
  go_enter Try.func78, Try.ntmps78
  go_wp2_with fail
  refine calls_at (X := fun w' => Ext U w' ∧ Box3 w' U.heap.size (.int .i64 w) (.int .i64 h) (.slice A n m) ∧ Box3 w' (U.heap.size + 1) (.int .i64 w) (.int .i64 h) (.slice A' n' m')) ⟨((Ext.refl _).alloc _).alloc _, ⟨by simp [go_sem], by simp [go_sem], by simp [go_sem]⟩, ⟨by simp [go_sem], by simp [go_sem], by simp [go_sem]⟩⟩ ?_
  rintro w0 ⟨hx0, hb0, hd0⟩
  refine (ValidPicture_yes _ _ A n m _ hn HV.out).mono ?_
  rintro e w1 ⟨rfl, hx⟩
  have hb := hb0.ext hx
  have hd := hd0.ext hx
  have hE := hx0.trans hx
  clear hx hx0 hb0 hd0
  have ⟨p0, p1, p2⟩ := hb
  have ⟨q0, q1, q2⟩ := hd
  go_wp2_with fail
  clear p0 p1 p2 q0 q1 q2
  refine (ValidPicture_yes _ _ A' n' m' _ hn' HV'.out).mono ?_
  rintro e w2 ⟨rfl, hx⟩
  have ⟨p0, p1, p2⟩ := hb.ext hx
  have ⟨q0, q1, q2⟩ := hd.ext hx
  have hE2 := hE.trans hx
  clear hx hb hd hE
  go_wp2
  go_ret
  exact ⟨rfl, hE2⟩
theorem pairOk_no1 (w h w' h' : Int) (A A' : Option Addr) (n n' m m' : Nat) (U : World) (hn : n ≤ maxLen) (hv : ¬ VMap w h n) :
    Calls Try.prog 78 #[.agg #[.int .i64 w, .int .i64 h, .slice A n m], .agg #[.int .i64 w', .int .i64 h', .slice A' n' m']] U fun e U' => e = .returned (.bool false) ∧ Ext U U' := by
  have HV := Lib.hid hv
  clear hv
  go_enter Try.func78, Try.ntmps78
  go_wp2_with fail
  refine calls_at (X := fun u' => Ext U u') (((Ext.refl _).alloc _).alloc _) ?_
  rintro w0 hx0
  refine (ValidPicture_not _ _ A n m _ hn HV.out).mono ?_
  rintro e w1 ⟨rfl, hx⟩
  have hE := hx0.trans hx
  clear hx hx0
  go_wp2
  go_ret
  exact ⟨rfl, hE⟩
theorem pairOk_no2 (w h w' h' : Int) (A A' : Option Addr) (n n' m m' : Nat) (U : World) (hn : n ≤ maxLen) (hn' : n' ≤ maxLen) (hv : VMap w h n) (hv' : ¬ VMap w' h' n') :
    Calls Try.prog 78 #[.agg #[.int .i64 w, .int .i64 h, .slice A n m], .agg #[.int .i64 w', .int .i64 h', .slice A' n' m']] U fun e U' => e = .returned (.bool false) ∧ Ext U U' := by
  have HV := Lib.hid hv
  have HV' := Lib.hid hv'
  clear hv hv'
  go_enter Try.func78, Try.ntmps78
  go_wp2_with fail
  refine calls_at (X := fun u' => Ext U u' ∧ Box3 u' (U.heap.size + 1) (.int .i64 w') (.int .i64 h') (.slice A' n' m')) ⟨((Ext.refl _).alloc _).alloc _, ⟨by simp [go_sem], by simp [go_sem], by simp [go_sem]⟩⟩ ?_
  rintro w0 ⟨hx0, hd0⟩
  refine (ValidPicture_yes _ _ A n m _ hn HV.out).mono ?_
  rintro e w1 ⟨rfl, hx⟩
  have ⟨q0, q1, q2⟩ := hd0.ext hx
  have hE := hx0.trans hx
  clear hx hx0 hd0
  go_wp2_with fail
  clear q0 q1 q2
  refine (ValidPicture_not _ _ A' n' m' _ hn' HV'.out).mono ?_
  rintro e w2 ⟨rfl, hx⟩
  have hE2 := hE.trans hx
  clear hx hE
  go_wp2
  go_ret
  exact ⟨rfl, hE2⟩
theorem pairOk_no3 (w h w' h' : Int) (A A' : Option Addr) (n n' m m' : Nat) (U : World) (hn : n ≤ maxLen) (hn' : n' ≤ maxLen) (hv : VMap w h n) (hv' : VMap w' h' n') (hne : ¬ (w = w' ∧ h = h')) :
    Calls Try.prog 78 #[.agg #[.int .i64 w, .int .i64 h, .slice A n m], .agg #[.int .i64 w', .int .i64 h', .slice A' n' m']] U fun e U' => e = .returned (.bool false) ∧ Ext U U' := by
  have HV := Lib.hid hv
  have HV' := Lib.hid hv'
  clear hv hv'
  have h3 := two_ne hne
  clear hne
  rcases h3 with e0 | ⟨rfl, e1⟩
  all_goals
    go_enter Try.func78, Try.ntmps78
    go_wp2_with fail
    refine calls_at (X := fun u' => Ext U u' ∧ Box3 u' U.heap.size (.int .i64 _) (.int .i64 _) (.slice A n m) ∧ Box3 u' (U.heap.size + 1) (.int .i64 _) (.int .i64 _) (.slice A' n' m')) ⟨((Ext.refl _).alloc _).alloc _, ⟨by simp [go_sem]; rfl, by simp [go_sem]; rfl, by simp [go_sem]⟩, ⟨by simp [go_sem]; rfl, by simp [go_sem]; rfl, by simp [go_sem]⟩⟩ ?_
    rintro w0 ⟨hx0, hb0, hd0⟩
    refine (ValidPicture_yes _ _ A n m _ hn HV.out).mono ?_
    rintro e w1 ⟨rfl, hx⟩
    have hb := hb0.ext hx
    have hd := hd0.ext hx
    have hE := hx0.trans hx
    clear hx hx0 hb0 hd0
    have ⟨p0, p1, p2⟩ := hb
    have ⟨q0, q1, q2⟩ := hd
    go_wp2_with fail
    clear p0 p1 p2 q0 q1 q2
    refine (ValidPicture_yes _ _ A' n' m' _ hn' HV'.out).mono ?_
    rintro e w2 ⟨rfl, hx⟩
    have ⟨p0, p1, p2⟩ := hb.ext hx
    have ⟨q0, q1, q2⟩ := hd.ext hx
    have hE2 := hE.trans hx
    clear hx hb hd hE
    go_wp2
    go_ret
    exact ⟨rfl, hE2⟩
theorem pairOk_no (w h w' h' : Int) (A A' : Option Addr) (n n' m m' : Nat) (U : World) (hn : n ≤ maxLen) (hn' : n' ≤ maxLen) (hno : ¬ (VMap w h n ∧ VMap w' h' n' ∧ w = w' ∧ h = h')) :
    Calls Try.prog 78 #[.agg #[.int .i64 w, .int .i64 h, .slice A n m], .agg #[.int .i64 w', .int .i64 h', .slice A' n' m']] U fun e U' => e = .returned (.bool false) ∧ Ext U U' := by
  by_cases h1 : VMap w h n
  · by_cases h2 : VMap w' h' n'
    · exact pairOk_no3 w h w' h' A A' n n' m m' U hn hn' h1 h2 (fun h3 => hno ⟨h1, h2, h3⟩)
    · exact pairOk_no2 w h w' h' A A' n n' m m' U hn hn' h1 h2
  · exact pairOk_no1 w h w' h' A A' n n' m m' U hn h1
end Go.Proofs.Ytgpobhpcbgenoaa
