/- The laws on ValidMap and ValidVolume hold. -/
import Derived.Test.YthcpnbjlgbobaaaValid
import Derived.Test.YthcpnbjlgbobaaaCValidMap
import Derived.Test.YthcpnbjlgbobaaaCValidVolume
namespace Go.Proofs.Ythcpnbjlgbobaaa
open Go.RowKit
set_option linter.unusedVariables false

theorem specValidMap_yes (w h : Int) (A : Option Addr) (n c : Nat) (W : World) (hn : n ≤ maxLen) (hv : VMap w h n) :
    Calls Try.prog 24 #[.agg #[.int .i64 w, .int .i64 h, .slice A n c]] W fun e W' => e = .returned (.bool true) ∧ Ext W W' := by
  have HV := Lib.hid hv
  clear hv
  go_enter Try.func24, Try.ntmps24
  go_wp2_with fail
  refine (l03IsMap_yes W.heap.size w h A n c _ hn (by simp [go_sem]) (by simp [go_sem]) (by simp [go_sem]) HV.out).mono ?_
  rintro e w1 ⟨rfl, hx⟩
  go_wp2
  go_ret
  exact ⟨rfl, ((Ext.refl _).alloc _).trans hx⟩
theorem specValidMap_no (w h : Int) (A : Option Addr) (n c : Nat) (W : World) (hn : n ≤ maxLen) (hv : ¬ VMap w h n) :
    Calls Try.prog 24 #[.agg #[.int .i64 w, .int .i64 h, .slice A n c]] W fun e W' => e = .returned (.bool false) ∧ Ext W W' := by
  have HV := Lib.hid hv
  clear hv
  go_enter Try.func24, Try.ntmps24
  go_wp2_with fail
  refine (l03IsMap_not W.heap.size w h A n c _ hn (by simp [go_sem]) (by simp [go_sem]) (by simp [go_sem]) HV.out).mono ?_
  rintro e w1 ⟨rfl, hx⟩
  go_wp2
  go_ret
  exact ⟨rfl, ((Ext.refl _).alloc _).trans hx⟩
theorem specValidVolume_yes (w h d : Int) (A : Option Addr) (n c : Nat) (W : World) (hn : n ≤ maxLen) (hv : VVol w h d n) :
    Calls Try.prog 29 #[.agg #[.int .i64 w, .int .i64 h, .int .i64 d, .slice A n c]] W fun e W' => e = .returned (.bool true) ∧ Ext W W' := by
  have HV := Lib.hid hv
  clear hv
  go_enter Try.func29, Try.ntmps29
  go_wp2_with fail
  refine (l03Is_yes W.heap.size w h d A n c _ hn (by simp [go_sem]) (by simp [go_sem]) (by simp [go_sem]) (by simp [go_sem]) HV.out).mono ?_
  rintro e w1 ⟨rfl, hx⟩
  go_wp2
  go_ret
  exact ⟨rfl, ((Ext.refl _).alloc _).trans hx⟩
theorem specValidVolume_no (w h d : Int) (A : Option Addr) (n c : Nat) (W : World) (hn : n ≤ maxLen) (hv : ¬ VVol w h d n) :
    Calls Try.prog 29 #[.agg #[.int .i64 w, .int .i64 h, .int .i64 d, .slice A n c]] W fun e W' => e = .returned (.bool false) ∧ Ext W W' := by
  have HV := Lib.hid hv
  clear hv
  go_enter Try.func29, Try.ntmps29
  go_wp2_with fail
  refine (l03Is_not W.heap.size w h d A n c _ hn (by simp [go_sem]) (by simp [go_sem]) (by simp [go_sem]) (by simp [go_sem]) HV.out).mono ?_
  rintro e w1 ⟨rfl, hx⟩
  go_wp2
  go_ret
  exact ⟨rfl, ((Ext.refl _).alloc _).trans hx⟩

theorem lawValidMap_any (W : World) (w h : Int) (_ : -9223372036854775808 ≤ w ∧ w ≤ 9223372036854775807) (_ : -9223372036854775808 ≤ h ∧ h ≤ 9223372036854775807) (A : Option Addr) (n c : Nat) (bs : List Nat) (hc : n ≤ c) (hm : c ≤ maxLen) (hr : Reads W A n bs) (_ : Words bs) :
    Calls Try.prog 6 #[.agg #[.int .i64 w, .int .i64 h, .slice A n c]] W fun e W' => e = .returned (.bool true) ∧ Ext W W' := by
  have hn : n ≤ maxLen := Nat.le_trans hc hm
  by_cases hv : VMap w h n
  · exact lawValidMap_core W w h A n c bs hn hr true (fun W' D _ => specValidMap_yes w h D n n W' hn hv) (fun W' D _ => ValidMap_yes w h D n n W' hn hv)
  · exact lawValidMap_core W w h A n c bs hn hr false (fun W' D _ => specValidMap_no w h D n n W' hn hv) (fun W' D _ => ValidMap_not w h D n n W' hn hv)
theorem lawValidVolume_any (W : World) (w h d : Int) (_ : -9223372036854775808 ≤ w ∧ w ≤ 9223372036854775807) (_ : -9223372036854775808 ≤ h ∧ h ≤ 9223372036854775807) (_ : -9223372036854775808 ≤ d ∧ d ≤ 9223372036854775807) (A : Option Addr) (n c : Nat) (bs : List Nat) (hc : n ≤ c) (hm : c ≤ maxLen) (hr : Reads W A n bs) (_ : Words bs) :
    Calls Try.prog 7 #[.agg #[.int .i64 w, .int .i64 h, .int .i64 d, .slice A n c]] W fun e W' => e = .returned (.bool true) ∧ Ext W W' := by
  have hn : n ≤ maxLen := Nat.le_trans hc hm
  by_cases hv : VVol w h d n
  · exact lawValidVolume_core W w h d A n c bs hn hr true (fun W' D _ => specValidVolume_yes w h d D n n W' hn hv) (fun W' D _ => ValidVolume_yes w h d D n n W' hn hv)
  · exact lawValidVolume_core W w h d A n c bs hn hr false (fun W' D _ => specValidVolume_no w h d D n n W' hn hv) (fun W' D _ => ValidVolume_not w h d D n n W' hn hv)
end Go.Proofs.Ythcpnbjlgbobaaa
