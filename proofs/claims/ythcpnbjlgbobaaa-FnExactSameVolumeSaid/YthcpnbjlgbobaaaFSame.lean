/- The laws on SameMap and SameVolume hold. -/
import Derived.Test.YthcpnbjlgbobaaaSame
import Derived.Test.YthcpnbjlgbobaaaCSameMap
import Derived.Test.YthcpnbjlgbobaaaCSameVolume
namespace Go.Proofs.Ythcpnbjlgbobaaa
open Go.RowKit
set_option linter.unusedVariables false

theorem specSameMap_no0 (x0 x1 y0 y1 : Int) (A A' : Option Addr) (n n' c c' : Nat) (U : World) (hne : x0 ≠ y0) :
    Calls Try.prog 43 #[.agg #[.int .i64 x0, .int .i64 x1, .slice A n c], .agg #[.int .i64 y0, .int .i64 y1, .slice A' n' c']] U fun e U' => e = .returned (.bool false) ∧ Ext U U' := by
  have hne' : (x0 == y0) = false := by simpa using hne
  go_enter Try.func43, Try.ntmps43
  go_wp2
  go_ret
  exact ⟨rfl, ((Ext.refl _).alloc _).alloc _⟩
theorem specSameMap_no1 (x0 x1 y1 : Int) (A A' : Option Addr) (n n' c c' : Nat) (U : World) (hne : x1 ≠ y1) :
    Calls Try.prog 43 #[.agg #[.int .i64 x0, .int .i64 x1, .slice A n c], .agg #[.int .i64 x0, .int .i64 y1, .slice A' n' c']] U fun e U' => e = .returned (.bool false) ∧ Ext U U' := by
  have hne' : (x1 == y1) = false := by simpa using hne
  go_enter Try.func43, Try.ntmps43
  go_wp2
  go_ret
  exact ⟨rfl, ((Ext.refl _).alloc _).alloc _⟩
theorem specSameMap_yes (x0 x1 : Int) (A A' : Option Addr) (n n' c c' : Nat) (bs bs' : List Nat) (U : World) (hn : n ≤ maxLen) (hn' : n' ≤ maxLen) (hr : Reads U A n bs) (hr' : Reads U A' n' bs') (hw : Words bs) (hw' : Words bs') :
    Calls Try.prog 43 #[.agg #[.int .i64 x0, .int .i64 x1, .slice A n c], .agg #[.int .i64 x0, .int .i64 x1, .slice A' n' c']] U fun e U' => e = .returned (.bool (sameL bs bs')) ∧ Ext U U' := by
  have HC := Lib.hid (fun (W : World) (hx : Ext U W) => l01SameAll_any A A' n n' c c' bs bs' W hn hn' (hr.ext hx) (hr'.ext hx) hw hw')
  generalize sameL bs bs' = v at HC ⊢
  clear hr hr' hw hw' hn hn'
  go_enter Try.func43, Try.ntmps43
  go_wp2_with fail
  refine (HC.out _ (((Ext.refl _).alloc _).alloc _)).mono ?_
  rintro e w1 ⟨rfl, hx⟩
  go_wp2
  go_ret
  exact ⟨rfl, (((Ext.refl _).alloc _).alloc _).trans hx⟩
theorem implSameMap_no0 (x0 x1 y0 y1 : Int) (A A' : Option Addr) (n n' c c' : Nat) (U : World) (hne : x0 ≠ y0) :
    Calls Try.prog 44 #[.agg #[.int .i64 x0, .int .i64 x1, .slice A n c], .agg #[.int .i64 y0, .int .i64 y1, .slice A' n' c']] U fun e U' => e = .returned (.bool false) ∧ Ext U U' := by
  have hne' : (x0 == y0) = false := by simpa using hne
  go_enter Try.func44, Try.ntmps44
  go_wp2
  go_ret
  exact ⟨rfl, ((Ext.refl _).alloc _).alloc _⟩
theorem implSameMap_no1 (x0 x1 y1 : Int) (A A' : Option Addr) (n n' c c' : Nat) (U : World) (hne : x1 ≠ y1) :
    Calls Try.prog 44 #[.agg #[.int .i64 x0, .int .i64 x1, .slice A n c], .agg #[.int .i64 x0, .int .i64 y1, .slice A' n' c']] U fun e U' => e = .returned (.bool false) ∧ Ext U U' := by
  have hne' : (x1 == y1) = false := by simpa using hne
  go_enter Try.func44, Try.ntmps44
  go_wp2
  go_ret
  exact ⟨rfl, ((Ext.refl _).alloc _).alloc _⟩
theorem implSameMap_yes (x0 x1 : Int) (A A' : Option Addr) (n n' c c' : Nat) (bs bs' : List Nat) (U : World) (hn : n ≤ maxLen) (hn' : n' ≤ maxLen) (hr : Reads U A n bs) (hr' : Reads U A' n' bs') (hw : Words bs) (hw' : Words bs') :
    Calls Try.prog 44 #[.agg #[.int .i64 x0, .int .i64 x1, .slice A n c], .agg #[.int .i64 x0, .int .i64 x1, .slice A' n' c']] U fun e U' => e = .returned (.bool (sameL bs bs')) ∧ Ext U U' := by
  have HC := Lib.hid (fun (W : World) (hx : Ext U W) => sameList_any A A' n n' c c' bs bs' W hn hn' (hr.ext hx) (hr'.ext hx) hw hw')
  generalize sameL bs bs' = v at HC ⊢
  clear hr hr' hw hw' hn hn'
  go_enter Try.func44, Try.ntmps44
  go_wp2_with fail
  refine (HC.out _ (((Ext.refl _).alloc _).alloc _)).mono ?_
  rintro e w1 ⟨rfl, hx⟩
  go_wp2
  go_ret
  exact ⟨rfl, (((Ext.refl _).alloc _).alloc _).trans hx⟩
theorem lawSameMap_any (W : World) (x0 x1 : Int) (_ : -9223372036854775808 ≤ x0 ∧ x0 ≤ 9223372036854775807) (_ : -9223372036854775808 ≤ x1 ∧ x1 ≤ 9223372036854775807) (A : Option Addr) (n c : Nat) (bs : List Nat) (hc : n ≤ c) (hm : c ≤ maxLen) (hr : Reads W A n bs) (hw : Words bs) (y0 y1 : Int) (_ : -9223372036854775808 ≤ y0 ∧ y0 ≤ 9223372036854775807) (_ : -9223372036854775808 ≤ y1 ∧ y1 ≤ 9223372036854775807) (A' : Option Addr) (n' c' : Nat) (bs' : List Nat) (hc' : n' ≤ c') (hm' : c' ≤ maxLen) (hr' : Reads W A' n' bs') (hw' : Words bs') :
    Calls Try.prog 12 #[.agg #[.int .i64 x0, .int .i64 x1, .slice A n c], .agg #[.int .i64 y0, .int .i64 y1, .slice A' n' c']] W fun e W' => e = .returned (.bool true) ∧ Ext W W' := by
  have hn : n ≤ maxLen := Nat.le_trans hc hm
  have hn' : n' ≤ maxLen := Nat.le_trans hc' hm'
  by_cases h0 : x0 = y0
  rotate_left
  · exact lawSameMap_core W x0 x1 A n c bs hn hr y0 y1 A' n' c' bs' hn' hr' false (fun w D D' _ _ => specSameMap_no0 x0 x1 y0 y1 D D' n n' n n' w h0) (fun w D D' _ _ => implSameMap_no0 x0 x1 y0 y1 D D' n n' n n' w h0)
  subst h0
  by_cases h1 : x1 = y1
  rotate_left
  · exact lawSameMap_core W x0 x1 A n c bs hn hr x0 y1 A' n' c' bs' hn' hr' false (fun w D D' _ _ => specSameMap_no1 x0 x1 y1 D D' n n' n n' w h1) (fun w D D' _ _ => implSameMap_no1 x0 x1 y1 D D' n n' n n' w h1)
  subst h1
  exact lawSameMap_core W x0 x1 A n c bs hn hr x0 x1 A' n' c' bs' hn' hr' (sameL bs bs') (fun w D D' h1 h2 => specSameMap_yes x0 x1 D D' n n' n n' bs bs' w hn hn' h1 h2 hw hw') (fun w D D' h1 h2 => implSameMap_yes x0 x1 D D' n n' n n' bs bs' w hn hn' h1 h2 hw hw')
theorem specSameVolume_no0 (x0 x1 x2 y0 y1 y2 : Int) (A A' : Option Addr) (n n' c c' : Nat) (U : World) (hne : x0 ≠ y0) :
    Calls Try.prog 50 #[.agg #[.int .i64 x0, .int .i64 x1, .int .i64 x2, .slice A n c], .agg #[.int .i64 y0, .int .i64 y1, .int .i64 y2, .slice A' n' c']] U fun e U' => e = .returned (.bool false) ∧ Ext U U' := by
  have hne' : (x0 == y0) = false := by simpa using hne
  go_enter Try.func50, Try.ntmps50
  go_wp2
  go_ret
  exact ⟨rfl, ((Ext.refl _).alloc _).alloc _⟩
theorem specSameVolume_no1 (x0 x1 x2 y1 y2 : Int) (A A' : Option Addr) (n n' c c' : Nat) (U : World) (hne : x1 ≠ y1) :
    Calls Try.prog 50 #[.agg #[.int .i64 x0, .int .i64 x1, .int .i64 x2, .slice A n c], .agg #[.int .i64 x0, .int .i64 y1, .int .i64 y2, .slice A' n' c']] U fun e U' => e = .returned (.bool false) ∧ Ext U U' := by
  have hne' : (x1 == y1) = false := by simpa using hne
  go_enter Try.func50, Try.ntmps50
  go_wp2
  go_ret
  exact ⟨rfl, ((Ext.refl _).alloc _).alloc _⟩
theorem specSameVolume_no2 (x0 x1 x2 y2 : Int) (A A' : Option Addr) (n n' c c' : Nat) (U : World) (hne : x2 ≠ y2) :
    Calls Try.prog 50 #[.agg #[.int .i64 x0, .int .i64 x1, .int .i64 x2, .slice A n c], .agg #[.int .i64 x0, .int .i64 x1, .int .i64 y2, .slice A' n' c']] U fun e U' => e = .returned (.bool false) ∧ Ext U U' := by
  have hne' : (x2 == y2) = false := by simpa using hne
  go_enter Try.func50, Try.ntmps50
  go_wp2
  go_ret
  exact ⟨rfl, ((Ext.refl _).alloc _).alloc _⟩
theorem specSameVolume_yes (x0 x1 x2 : Int) (A A' : Option Addr) (n n' c c' : Nat) (bs bs' : List Nat) (U : World) (hn : n ≤ maxLen) (hn' : n' ≤ maxLen) (hr : Reads U A n bs) (hr' : Reads U A' n' bs') (hw : Words bs) (hw' : Words bs') :
    Calls Try.prog 50 #[.agg #[.int .i64 x0, .int .i64 x1, .int .i64 x2, .slice A n c], .agg #[.int .i64 x0, .int .i64 x1, .int .i64 x2, .slice A' n' c']] U fun e U' => e = .returned (.bool (sameL bs bs')) ∧ Ext U U' := by
  have HC := Lib.hid (fun (W : World) (hx : Ext U W) => l01SameAll_any A A' n n' c c' bs bs' W hn hn' (hr.ext hx) (hr'.ext hx) hw hw')
  generalize sameL bs bs' = v at HC ⊢
  clear hr hr' hw hw' hn hn'
  go_enter Try.func50, Try.ntmps50
  go_wp2_with fail
  refine (HC.out _ (((Ext.refl _).alloc _).alloc _)).mono ?_
  rintro e w1 ⟨rfl, hx⟩
  go_wp2
  go_ret
  exact ⟨rfl, (((Ext.refl _).alloc _).alloc _).trans hx⟩
theorem implSameVolume_no0 (x0 x1 x2 y0 y1 y2 : Int) (A A' : Option Addr) (n n' c c' : Nat) (U : World) (hne : x0 ≠ y0) :
    Calls Try.prog 51 #[.agg #[.int .i64 x0, .int .i64 x1, .int .i64 x2, .slice A n c], .agg #[.int .i64 y0, .int .i64 y1, .int .i64 y2, .slice A' n' c']] U fun e U' => e = .returned (.bool false) ∧ Ext U U' := by
  have hne' : (x0 == y0) = false := by simpa using hne
  go_enter Try.func51, Try.ntmps51
  go_wp2
  go_ret
  exact ⟨rfl, ((Ext.refl _).alloc _).alloc _⟩
theorem implSameVolume_no1 (x0 x1 x2 y1 y2 : Int) (A A' : Option Addr) (n n' c c' : Nat) (U : World) (hne : x1 ≠ y1) :
    Calls Try.prog 51 #[.agg #[.int .i64 x0, .int .i64 x1, .int .i64 x2, .slice A n c], .agg #[.int .i64 x0, .int .i64 y1, .int .i64 y2, .slice A' n' c']] U fun e U' => e = .returned (.bool false) ∧ Ext U U' := by
  have hne' : (x1 == y1) = false := by simpa using hne
  go_enter Try.func51, Try.ntmps51
  go_wp2
  go_ret
  exact ⟨rfl, ((Ext.refl _).alloc _).alloc _⟩
theorem implSameVolume_no2 (x0 x1 x2 y2 : Int) (A A' : Option Addr) (n n' c c' : Nat) (U : World) (hne : x2 ≠ y2) :
    Calls Try.prog 51 #[.agg #[.int .i64 x0, .int .i64 x1, .int .i64 x2, .slice A n c], .agg #[.int .i64 x0, .int .i64 x1, .int .i64 y2, .slice A' n' c']] U fun e U' => e = .returned (.bool false) ∧ Ext U U' := by
  have hne' : (x2 == y2) = false := by simpa using hne
  go_enter Try.func51, Try.ntmps51
  go_wp2
  go_ret
  exact ⟨rfl, ((Ext.refl _).alloc _).alloc _⟩
theorem implSameVolume_yes (x0 x1 x2 : Int) (A A' : Option Addr) (n n' c c' : Nat) (bs bs' : List Nat) (U : World) (hn : n ≤ maxLen) (hn' : n' ≤ maxLen) (hr : Reads U A n bs) (hr' : Reads U A' n' bs') (hw : Words bs) (hw' : Words bs') :
    Calls Try.prog 51 #[.agg #[.int .i64 x0, .int .i64 x1, .int .i64 x2, .slice A n c], .agg #[.int .i64 x0, .int .i64 x1, .int .i64 x2, .slice A' n' c']] U fun e U' => e = .returned (.bool (sameL bs bs')) ∧ Ext U U' := by
  have HC := Lib.hid (fun (W : World) (hx : Ext U W) => sameList_any A A' n n' c c' bs bs' W hn hn' (hr.ext hx) (hr'.ext hx) hw hw')
  generalize sameL bs bs' = v at HC ⊢
  clear hr hr' hw hw' hn hn'
  go_enter Try.func51, Try.ntmps51
  go_wp2_with fail
  refine (HC.out _ (((Ext.refl _).alloc _).alloc _)).mono ?_
  rintro e w1 ⟨rfl, hx⟩
  go_wp2
  go_ret
  exact ⟨rfl, (((Ext.refl _).alloc _).alloc _).trans hx⟩
theorem lawSameVolume_any (W : World) (x0 x1 x2 : Int) (_ : -9223372036854775808 ≤ x0 ∧ x0 ≤ 9223372036854775807) (_ : -9223372036854775808 ≤ x1 ∧ x1 ≤ 9223372036854775807) (_ : -9223372036854775808 ≤ x2 ∧ x2 ≤ 9223372036854775807) (A : Option Addr) (n c : Nat) (bs : List Nat) (hc : n ≤ c) (hm : c ≤ maxLen) (hr : Reads W A n bs) (hw : Words bs) (y0 y1 y2 : Int) (_ : -9223372036854775808 ≤ y0 ∧ y0 ≤ 9223372036854775807) (_ : -9223372036854775808 ≤ y1 ∧ y1 ≤ 9223372036854775807) (_ : -9223372036854775808 ≤ y2 ∧ y2 ≤ 9223372036854775807) (A' : Option Addr) (n' c' : Nat) (bs' : List Nat) (hc' : n' ≤ c') (hm' : c' ≤ maxLen) (hr' : Reads W A' n' bs') (hw' : Words bs') :
    Calls Try.prog 14 #[.agg #[.int .i64 x0, .int .i64 x1, .int .i64 x2, .slice A n c], .agg #[.int .i64 y0, .int .i64 y1, .int .i64 y2, .slice A' n' c']] W fun e W' => e = .returned (.bool true) ∧ Ext W W' := by
  have hn : n ≤ maxLen := Nat.le_trans hc hm
  have hn' : n' ≤ maxLen := Nat.le_trans hc' hm'
  by_cases h0 : x0 = y0
  rotate_left
  · exact lawSameVolume_core W x0 x1 x2 A n c bs hn hr y0 y1 y2 A' n' c' bs' hn' hr' false (fun w D D' _ _ => specSameVolume_no0 x0 x1 x2 y0 y1 y2 D D' n n' n n' w h0) (fun w D D' _ _ => implSameVolume_no0 x0 x1 x2 y0 y1 y2 D D' n n' n n' w h0)
  subst h0
  by_cases h1 : x1 = y1
  rotate_left
  · exact lawSameVolume_core W x0 x1 x2 A n c bs hn hr x0 y1 y2 A' n' c' bs' hn' hr' false (fun w D D' _ _ => specSameVolume_no1 x0 x1 x2 y1 y2 D D' n n' n n' w h1) (fun w D D' _ _ => implSameVolume_no1 x0 x1 x2 y1 y2 D D' n n' n n' w h1)
  subst h1
  by_cases h2 : x2 = y2
  rotate_left
  · exact lawSameVolume_core W x0 x1 x2 A n c bs hn hr x0 x1 y2 A' n' c' bs' hn' hr' false (fun w D D' _ _ => specSameVolume_no2 x0 x1 x2 y2 D D' n n' n n' w h2) (fun w D D' _ _ => implSameVolume_no2 x0 x1 x2 y2 D D' n n' n n' w h2)
  subst h2
  exact lawSameVolume_core W x0 x1 x2 A n c bs hn hr x0 x1 x2 A' n' c' bs' hn' hr' (sameL bs bs') (fun w D D' h1 h2 => specSameVolume_yes x0 x1 x2 D D' n n' n n' bs bs' w hn hn' h1 h2 hw hw') (fun w D D' h1 h2 => implSameVolume_yes x0 x1 x2 D D' n n' n n' bs bs' w hn hn' h1 h2 hw hw')
end Go.Proofs.Ythcpnbjlgbobaaa
