/- The law on HolesOf holds. -/
import Derived.Test.YthcpnbjlgbobaaaMaps
import Derived.Test.YthcpnbjlgbobaaaFin
import Derived.Test.YthcpnbjlgbobaaaCHolesOf
namespace Go.Proofs.Ythcpnbjlgbobaaa
open Go.RowKit
set_option linter.unusedVariables false

def holeB (b : Nat) : Bool := !(geF b 0)
theorem take_count (bs : List Nat) (k : Nat) (hk : k < bs.length) : (bs.take (k + 1)).countP holeB = (bs.take k).countP holeB + (if holeB (bs.getD k 0) then 1 else 0) := by
  rw [List.take_add_one, List.countP_append]
  simp [List.getElem?_eq_getElem hk, List.getD, List.countP_cons]

theorem l05Hole_of (b : Nat) (v : Bool) (h : holeB b = v) (W : World) :
    Calls Try.prog 78 #[.float .f32 b] W fun e W' => e = .returned (.bool v) ∧ W = W' := by
  have hge : (FloatKind.f32.format.order b 0 == some .gt || FloatKind.f32.format.order b 0 == some .eq) = !v := by
    have h2 : (!(geF b 0)) = v := h
    rw [← h2, Bool.not_not]; rfl
  clear h
  cases v
  all_goals
    go_enter Try.func78, Try.ntmps78
    go_wp2
    go_ret
    exact ⟨rfl, rfl⟩
theorem isHole_of (b : Nat) (v : Bool) (h : holeB b = v) (W : World) :
    Calls Try.prog 79 #[.float .f32 b] W fun e W' => e = .returned (.bool v) ∧ W = W' := by
  have hge : (FloatKind.f32.format.order b 0 == some .gt || FloatKind.f32.format.order b 0 == some .eq) = !v := by
    have h2 : (!(geF b 0)) = v := h
    rw [← h2, Bool.not_not]; rfl
  clear h
  cases v
  all_goals
    go_enter Try.func79, Try.ntmps79
    go_wp2
    go_ret
    exact ⟨rfl, rfl⟩
set_option maxHeartbeats 1000000 in
theorem specHolesOf_yes (w h : Int) (A : Option Addr) (n c : Nat) (bs : List Nat) (U : World) (hnm : n ≤ maxLen) (hr : Reads U A n bs) (hv : VMap w h n) :
    Calls Try.prog 41 #[.agg #[.int .i64 w, .int .i64 h, .slice A n c]] U fun e U' => e = .returned (.tuple #[.int .i64 ((bs.countP holeB : Nat) : Int), .bool true]) ∧ Ext U U' := by
  have hn : n ≤ 256 := by have := hv.2; have := hv.1.2.2.2.2; omega
  have HV := Lib.hid hv
  have hlen : bs.length = n := hr.1
  have HL := Lib.hid hlen
  have HR := Lib.hid hr
  clear hv hr hlen
  go_enter Try.func41, Try.ntmps41
  go_wp2_with fail
  refine calls_at (X := fun w' => Ext U w' ∧ Box3 w' U.heap.size (.int .i64 w) (.int .i64 h) (.slice A n c)) ⟨(Ext.refl _).alloc _, by simp [go_sem], by simp [go_sem], by simp [go_sem]⟩ ?_
  rintro w0 ⟨hx0, hb0⟩
  refine (l03IsMap_yes U.heap.size w h A n c _ hnm hb0.1 hb0.2.1 hb0.2.2 HV.out).mono ?_
  rintro e w1 ⟨rfl, hx⟩
  have hb := hb0.ext hx
  have hE := hx0.trans hx
  have ⟨c0, c1, c2⟩ := hb
  clear hx hx0 hb0
  clear hnm
  go_wp2_with fail
  go_loopw [4, 11] (fun cnt i wr => ∃ k : Nat, k ≤ n ∧ i = .int .i64 k ∧ cnt = .int .i64 (((bs.take k).countP holeB : Nat) : Int) ∧ wr = w1) (fun _ i _ => n - (intOf i).toNat)
  case atStart => exact ⟨0, Nat.zero_le _, rfl, by simp, rfl⟩
  case round =>
    obtain ⟨k, hk, rfl, rfl, rfl⟩ := hrel
    by_cases hlt : k < n
    · have hr1 := HR.out.ext hE
      obtain ⟨gb, off, rfl, hl⟩ := hr1.2 (by omega)
      have hc := hl k (by rw [hr1.1]; exact hlt)
      have hcnt : (bs.take k).countP holeB ≤ 256 := by have := List.countP_le_length (p := holeB) (l := bs.take k); have := HL.out; simp at *; omega
      have hstep := take_count bs k (by rw [HL.out]; exact hlt)
      clear hl hr1
      obtain ⟨q, hq⟩ : ∃ q, (bs.take k).countP holeB = q := ⟨_, rfl⟩
      rw [hq] at hcnt hstep ⊢
      obtain ⟨b, hb'⟩ : ∃ b, bs.getD k 0 = b := ⟨_, rfl⟩
      rw [hb'] at hc hstep
      cases hh : holeB b with
      | true =>
        have hstep' : (bs.take (k + 1)).countP holeB = q + 1 := by rw [hstep, hh]; rfl
        have HST := Lib.hid hstep'
        have HH := Lib.hid hh
        clear hstep hstep' hh hq hb'
        go_wp2_with (go_at_call 78; refine (l05Hole_of b true HH.out _).mono ?_; rintro e w' ⟨rfl, rfl⟩)
        go_roundw
        case rel => exact ⟨k + 1, by omega, by go_num, by rw [HST.out]; go_num, by first | rfl | trivial⟩
        case measure => simp [intOf]; omega
      | false =>
        have hstep' : (bs.take (k + 1)).countP holeB = q := by rw [hstep, hh]; rfl
        have HST := Lib.hid hstep'
        have HH := Lib.hid hh
        clear hstep hstep' hh hq hb'
        go_wp2_with (go_at_call 78; refine (l05Hole_of b false HH.out _).mono ?_; rintro e w' ⟨rfl, rfl⟩)
        go_roundw
        case rel => exact ⟨k + 1, by omega, by go_num, by rw [HST.out], by first | rfl | trivial⟩
        case measure => simp [intOf]; omega
    · have e1 : k = n := by omega
      subst e1
      have h2 : bs.take k = bs := List.take_of_length_le (by rw [HL.out]; exact Nat.le_refl _)
      rw [h2]
      clear h2
      go_wp2
      go_ret2
      exact ⟨rfl, hE⟩
theorem specHolesOf_no (w h : Int) (A : Option Addr) (n c : Nat) (U : World) (hnm : n ≤ maxLen) (hv : ¬ VMap w h n) :
    Calls Try.prog 41 #[.agg #[.int .i64 w, .int .i64 h, .slice A n c]] U fun e U' => e = .returned (.tuple #[.int .i64 0, .bool false]) ∧ Ext U U' := by
  have HV := Lib.hid hv
  clear hv
  go_enter Try.func41, Try.ntmps41
  go_wp2_with fail
  refine calls_at (X := fun w' => Ext U w' ∧ Box3 w' U.heap.size (.int .i64 w) (.int .i64 h) (.slice A n c)) ⟨(Ext.refl _).alloc _, by simp [go_sem], by simp [go_sem], by simp [go_sem]⟩ ?_
  rintro w0 ⟨hx0, hb0⟩
  refine (l03IsMap_not U.heap.size w h A n c _ hnm hb0.1 hb0.2.1 hb0.2.2 HV.out).mono ?_
  rintro e w1 ⟨rfl, hx⟩
  have hb := hb0.ext hx
  have hE := hx0.trans hx
  have ⟨c0, c1, c2⟩ := hb
  clear hx hx0 hb0
  go_wp2
  go_ret2
  exact ⟨rfl, hE⟩
set_option maxHeartbeats 1000000 in
theorem implHolesOf_yes (w h : Int) (A : Option Addr) (n c : Nat) (bs : List Nat) (U : World) (hnm : n ≤ maxLen) (hr : Reads U A n bs) (hv : VMap w h n) :
    Calls Try.prog 42 #[.agg #[.int .i64 w, .int .i64 h, .slice A n c]] U fun e U' => e = .returned (.tuple #[.int .i64 ((bs.countP holeB : Nat) : Int), .bool true]) ∧ Ext U U' := by
  have hn : n ≤ 256 := by have := hv.2; have := hv.1.2.2.2.2; omega
  have HV := Lib.hid hv
  have hlen : bs.length = n := hr.1
  have HL := Lib.hid hlen
  have HR := Lib.hid hr
  clear hv hr hlen
  go_enter Try.func42, Try.ntmps42
  go_wp2_with fail
  refine calls_at (X := fun w' => Ext U w' ∧ Box3 w' U.heap.size (.int .i64 w) (.int .i64 h) (.slice A n c)) ⟨(Ext.refl _).alloc _, by simp [go_sem], by simp [go_sem], by simp [go_sem]⟩ ?_
  rintro w0 ⟨hx0, hb0⟩
  refine (ValidMap_yes w h A n c _ hnm HV.out).mono ?_
  rintro e w1 ⟨rfl, hx⟩
  have hb := hb0.ext hx
  have hE := hx0.trans hx
  have ⟨c0, c1, c2⟩ := hb
  clear hx hx0 hb0
  clear hnm
  go_wp2_with fail
  go_loopw [4, 13] (fun cnt i wr => ∃ k : Nat, k ≤ n ∧ i = .int .i64 k ∧ cnt = .int .i64 (((bs.take k).countP holeB : Nat) : Int) ∧ wr = w1) (fun _ i _ => n - (intOf i).toNat)
  case atStart => exact ⟨0, Nat.zero_le _, rfl, by simp, rfl⟩
  case round =>
    obtain ⟨k, hk, rfl, rfl, rfl⟩ := hrel
    by_cases hlt : k < n
    · have hr1 := HR.out.ext hE
      obtain ⟨gb, off, rfl, hl⟩ := hr1.2 (by omega)
      have hc := hl k (by rw [hr1.1]; exact hlt)
      have hcnt : (bs.take k).countP holeB ≤ 256 := by have := List.countP_le_length (p := holeB) (l := bs.take k); have := HL.out; simp at *; omega
      have hstep := take_count bs k (by rw [HL.out]; exact hlt)
      clear hl hr1
      obtain ⟨q, hq⟩ : ∃ q, (bs.take k).countP holeB = q := ⟨_, rfl⟩
      rw [hq] at hcnt hstep ⊢
      obtain ⟨b, hb'⟩ : ∃ b, bs.getD k 0 = b := ⟨_, rfl⟩
      rw [hb'] at hc hstep
      cases hh : holeB b with
      | true =>
        have hstep' : (bs.take (k + 1)).countP holeB = q + 1 := by rw [hstep, hh]; rfl
        have HST := Lib.hid hstep'
        have HH := Lib.hid hh
        clear hstep hstep' hh hq hb'
        go_wp2_with (go_at_call 79; refine (isHole_of b true HH.out _).mono ?_; rintro e w' ⟨rfl, rfl⟩)
        go_roundw
        case rel => exact ⟨k + 1, by omega, by go_num, by rw [HST.out]; go_num, by first | rfl | trivial⟩
        case measure => simp [intOf]; omega
      | false =>
        have hstep' : (bs.take (k + 1)).countP holeB = q := by rw [hstep, hh]; rfl
        have HST := Lib.hid hstep'
        have HH := Lib.hid hh
        clear hstep hstep' hh hq hb'
        go_wp2_with (go_at_call 79; refine (isHole_of b false HH.out _).mono ?_; rintro e w' ⟨rfl, rfl⟩)
        go_roundw
        case rel => exact ⟨k + 1, by omega, by go_num, by rw [HST.out], by first | rfl | trivial⟩
        case measure => simp [intOf]; omega
    · have e1 : k = n := by omega
      subst e1
      have h2 : bs.take k = bs := List.take_of_length_le (by rw [HL.out]; exact Nat.le_refl _)
      rw [h2]
      clear h2
      go_wp2
      go_ret2
      exact ⟨rfl, hE⟩
theorem implHolesOf_no (w h : Int) (A : Option Addr) (n c : Nat) (U : World) (hnm : n ≤ maxLen) (hv : ¬ VMap w h n) :
    Calls Try.prog 42 #[.agg #[.int .i64 w, .int .i64 h, .slice A n c]] U fun e U' => e = .returned (.tuple #[.int .i64 0, .bool false]) ∧ Ext U U' := by
  have HV := Lib.hid hv
  clear hv
  go_enter Try.func42, Try.ntmps42
  go_wp2_with fail
  refine calls_at (X := fun w' => Ext U w' ∧ Box3 w' U.heap.size (.int .i64 w) (.int .i64 h) (.slice A n c)) ⟨(Ext.refl _).alloc _, by simp [go_sem], by simp [go_sem], by simp [go_sem]⟩ ?_
  rintro w0 ⟨hx0, hb0⟩
  refine (ValidMap_not w h A n c _ hnm HV.out).mono ?_
  rintro e w1 ⟨rfl, hx⟩
  have hb := hb0.ext hx
  have hE := hx0.trans hx
  have ⟨c0, c1, c2⟩ := hb
  clear hx hx0 hb0
  go_wp2
  go_ret2
  exact ⟨rfl, hE⟩
theorem lawHolesOf_any (W : World) (w h : Int) (_ : -9223372036854775808 ≤ w ∧ w ≤ 9223372036854775807) (_ : -9223372036854775808 ≤ h ∧ h ≤ 9223372036854775807) (A : Option Addr) (n c : Nat) (bs : List Nat) (hc : n ≤ c) (hm : c ≤ maxLen) (hr : Reads W A n bs) (_ : Words bs) :
    Calls Try.prog 11 #[.agg #[.int .i64 w, .int .i64 h, .slice A n c]] W fun e W' => e = .returned (.bool true) ∧ Ext W W' := by
  have hn : n ≤ maxLen := Nat.le_trans hc hm
  by_cases hv : VMap w h n
  · exact lawHolesOf_core W w h A n c bs hn hr _ true (fun W' D hd => specHolesOf_yes w h D n n bs W' hn hd hv) (fun W' D hd => implHolesOf_yes w h D n n bs W' hn hd hv)
  · exact lawHolesOf_core W w h A n c bs hn hr 0 false (fun W' D _ => specHolesOf_no w h D n n W' hn hv) (fun W' D _ => implHolesOf_no w h D n n W' hn hv)
end Go.Proofs.Ythcpnbjlgbobaaa
