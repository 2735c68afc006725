/- Contracts of the library's functions that take a function value: slices.IndexFunc, ContainsFunc. -/
import Derived.Test.YthkfbmboiabolaaFin
namespace Go.Proofs.Ythkfbmboiabolaa
open Go.RowKit
set_option linter.unusedVariables false

def firstI (p : Nat → Bool) (bs : List Nat) : Int := match bs.findIdx? p with | some i => (i : Int) | none => -1
set_option maxHeartbeats 1000000 in
theorem IndexFunc_any (A : Option Addr) (n c : Nat) (bs : List Nat) (p : Nat → Bool) (g : FuncId) (lb : Array Value) (U : World) (hn : n ≤ maxLen) (hr : Reads U A n bs)
    (hg : (Try.prog.funcs[g]?).any (fun fn => !(fn.name == "runtime.NumGoroutine") && fn.body.isSome) = true)
    (hof : ∀ (b : Nat) (W' : World), Ext U W' → Calls Try.prog g (#[.float .f32 b] ++ lb) W' fun e W'' => e = .returned (.bool (p b)) ∧ Ext W' W'') :
    Calls Try.prog 94 #[.slice A n c, .func (.func g) #[] lb] U fun e W' => e = .returned (.int .i64 (firstI p bs)) ∧ Ext U W' := by
  unfold maxLen at hn
  have eg := enters_any hg
  have HOF := Lib.hid hof
  clear hof
  have hE := Ext.refl U
  go_enter Try.func94, Try.ntmps94
  go_wp2_with fail
  go_loopw [8] (fun i wr => ∃ k : Nat, k ≤ n ∧ i = .int .i64 k ∧ (∀ j, j < k → p (bs.getD j 0) = false) ∧ Ext U wr) (fun i _ => n - (intOf i).toNat)
  case atStart => exact ⟨0, Nat.zero_le _, rfl, fun j hj => by omega, hE⟩
  case round =>
    obtain ⟨k, hk, rfl, hall, hx⟩ := hrel
    by_cases hlt : k < n
    · obtain ⟨gb, off, rfl, hl⟩ := hr.2 (by omega)
      have hc := cell_ext (hl k (by rw [hr.1]; exact hlt)) hx
      have HA := Lib.hid hall
      have HR := Lib.hid hr
      clear hall hr hl
      obtain ⟨b, hb⟩ : ∃ b, bs.getD k 0 = b := ⟨_, rfl⟩
      rw [hb] at hc
      have HB := Lib.hid hb
      clear hb
      go_wp2_with fail
      refine (HOF.out _ _ hx).mono ?_
      rintro e w1 ⟨rfl, hx1⟩
      clear hc eg
      cases hp : p b with
      | true =>
        go_wp2
        go_ret
        exact ⟨by
          have : firstI p bs = k := by
            unfold firstI
            have hr := HR.out
            have hb := HB.out
            rw [List.findIdx?_eq_some_iff_getElem.2 ⟨by rw [hr.1]; exact hlt, by rw [← hb] at hp; simpa [List.getD, hr.1, hlt] using hp, fun j hj => by
              have := HA.out j hj
              simpa [List.getD, hr.1, show j < n by omega] using this⟩]
          rw [this]; rfl, hx.trans hx1⟩
      | false =>
        go_wp2
        go_roundw
        case rel => exact ⟨k + 1, by omega, by go_num, fun j hj => by
          rcases Nat.lt_or_ge j k with h | h
          · exact HA.out j h
          · have : j = k := by omega
            subst this; rw [HB.out]; exact hp, hx.trans hx1⟩
        case measure => simp [intOf]; omega
    · have e1 : k = n := by omega
      subst e1
      have HA := Lib.hid hall
      clear hall eg
      go_wp2
      go_ret
      have hall := HA.out
      exact ⟨by
        have : firstI p bs = -1 := by
          unfold firstI
          rw [List.findIdx?_eq_none_iff.2 fun x hx => by
            obtain ⟨i, hi, rfl⟩ := List.getElem_of_mem hx
            have := hall i (by rw [← hr.1]; exact hi)
            simpa [List.getD, hi] using this]
        rw [this]; rfl, hx⟩
theorem firstI_any (p : Nat → Bool) (bs : List Nat) : decide (firstI p bs ≥ 0) = bs.any p := by
  unfold firstI
  cases h : bs.findIdx? p with
  | none =>
    rw [List.findIdx?_eq_none_iff] at h
    have : bs.any p = false := by simpa using h
    rw [this]; rfl
  | some i =>
    obtain ⟨hi, hp, _⟩ := List.findIdx?_eq_some_iff_getElem.1 h
    have : bs.any p = true := List.any_eq_true.2 ⟨_, List.getElem_mem hi, hp⟩
    rw [this]; simp
theorem ContainsFunc_any (A : Option Addr) (n c : Nat) (bs : List Nat) (p : Nat → Bool) (g : FuncId) (lb : Array Value) (U : World) (hn : n ≤ maxLen) (hr : Reads U A n bs)
    (hg : (Try.prog.funcs[g]?).any (fun fn => !(fn.name == "runtime.NumGoroutine") && fn.body.isSome) = true)
    (hof : ∀ (b : Nat) (W' : World), Ext U W' → Calls Try.prog g (#[.float .f32 b] ++ lb) W' fun e W'' => e = .returned (.bool (p b)) ∧ Ext W' W'') :
    Calls Try.prog 78 #[.slice A n c, .func (.func g) #[] lb] U fun e W' => e = .returned (.bool (bs.any p)) ∧ Ext U W' := by
  have hcon := IndexFunc_any A n c bs p g lb U hn hr hg hof
  have hfi := firstI_any p bs
  generalize bs.any p = v at hfi ⊢
  generalize firstI p bs = i at hfi hcon
  clear hof hg hr
  have HC := Lib.hid hcon
  clear hcon
  subst hfi
  go_enter Try.func78, Try.ntmps78
  go_wp2_with fail
  refine HC.out.mono ?_
  rintro e w1 ⟨rfl, hx⟩
  go_wp2
  go_ret
  exact ⟨rfl, hx⟩
theorem finite_any (A : Option Addr) (n c : Nat) (bs : List Nat) (v : Bool) (U : World) (hn : n ≤ maxLen) (hr : Reads U A n bs) (hv : bs.all finB = v) :
    Calls Try.prog 71 #[.slice A n c] U fun e W' => e = .returned (.bool v) ∧ Ext U W' := by
  have hcon := ContainsFunc_any A n c bs (fun b => !finB b) 91 #[] U hn hr (by kernel_rfl) (fun b W' _ => finite1_of b W')
  have h2 : (!(bs.any fun b => !finB b)) = v := by rw [← hv, List.all_eq_not_any_not]
  generalize (bs.any fun b => !finB b) = q at h2 hcon
  subst h2
  have HC := Lib.hid hcon
  clear hcon hr hv
  go_enter Try.func71, Try.ntmps71
  go_wp2_with fail
  refine HC.out.mono ?_
  rintro e w1 ⟨rfl, hx⟩
  go_wp2
  go_ret
  exact ⟨rfl, hx⟩
theorem two_lie {w : World} {g a b : Nat} (h : Box2 w g (fl a) (fl b)) : Lies w g 0 [a, b] := fun i hi => by
  match i, hi with
  | 0, _ => exact h.1
  | 1, _ => exact h.2
set_option maxHeartbeats 1000000 in
theorem implValidPrices_no1 (a b : Nat) (W : World) (h1 : [a, b].all finB = false) :
    Calls Try.prog 43 #[.agg #[.float .f32 a, .float .f32 b]] W fun e W' => e = .returned (.bool false) ∧ Ext W W' := by
  have HV := Lib.hid h1
  clear h1
  go_enter Try.func43, Try.ntmps43
  go_wp2_with fail
  refine calls_at (X := fun w' => Ext W w' ∧ Box2 w' W.heap.size (fl a) (fl b) ∧ Box2 w' (W.heap.size + 1) (fl a) (fl b)) ?_ ?_
  · refine ⟨?_, ?_, ?_⟩
    · repeat (first | with_reducible exact Ext.refl _ | (with_reducible refine Ext.setCell ?_ (by simp; try omega) _) | (with_reducible refine Ext.alloc ?_ _))
    · refine ⟨?_, ?_⟩ <;> simp [go_sem]
    · refine ⟨?_, ?_⟩ <;> simp [go_sem]
  rintro w0 ⟨hx0, hb0, hb1⟩
  refine (finite_any _ 2 2 [a, b] false _ (by unfold maxLen; omega) ⟨rfl, fun _ => ⟨_, 0, rfl, two_lie hb1⟩⟩ HV.out).mono ?_
  rintro e w1 ⟨rfl, hx⟩
  have ⟨hc0, hc1⟩ := hb0.ext hx
  go_wp2
  go_ret
  exact ⟨rfl, hx0.trans hx⟩
set_option maxHeartbeats 1000000 in
theorem implValidPrices_all (a b : Nat) (W : World) (h1 : [a, b].all finB = true) (v : Bool) (hv : (geF a 0 && leF a b) = v) :
    Calls Try.prog 43 #[.agg #[.float .f32 a, .float .f32 b]] W fun e W' => e = .returned (.bool v) ∧ Ext W W' := by
  have HV := Lib.hid h1
  clear h1
  cases h3 : geF a 0 with
  | false =>
    rw [h3] at hv
    have h3' : (FloatKind.f32.format.order a 0 == some .gt || FloatKind.f32.format.order a 0 == some .eq) = false := h3
    clear h3
    subst hv
    go_enter Try.func43, Try.ntmps43
    go_wp2_with fail
    refine calls_at (X := fun w' => Ext W w' ∧ Box2 w' W.heap.size (fl a) (fl b) ∧ Box2 w' (W.heap.size + 1) (fl a) (fl b)) ?_ ?_
    · refine ⟨?_, ?_, ?_⟩
      · repeat (first | with_reducible exact Ext.refl _ | (with_reducible refine Ext.setCell ?_ (by simp; try omega) _) | (with_reducible refine Ext.alloc ?_ _))
      · refine ⟨?_, ?_⟩ <;> simp [go_sem]
      · refine ⟨?_, ?_⟩ <;> simp [go_sem]
    rintro w0 ⟨hx0, hb0, hb1⟩
    refine (finite_any _ 2 2 [a, b] true _ (by unfold maxLen; omega) ⟨rfl, fun _ => ⟨_, 0, rfl, two_lie hb1⟩⟩ HV.out).mono ?_
    rintro e w1 ⟨rfl, hx⟩
    have ⟨hc0, hc1⟩ := hb0.ext hx
    go_wp2
    go_ret
    exact ⟨rfl, hx0.trans hx⟩
  | true =>
    rw [h3, Bool.true_and] at hv
    have h3' : (FloatKind.f32.format.order a 0 == some .gt || FloatKind.f32.format.order a 0 == some .eq) = true := h3
    have h4' : (FloatKind.f32.format.order a b == some .lt || FloatKind.f32.format.order a b == some .eq) = v := hv
    clear h3 hv
    go_enter Try.func43, Try.ntmps43
    go_wp2_with fail
    refine calls_at (X := fun w' => Ext W w' ∧ Box2 w' W.heap.size (fl a) (fl b) ∧ Box2 w' (W.heap.size + 1) (fl a) (fl b)) ?_ ?_
    · refine ⟨?_, ?_, ?_⟩
      · repeat (first | with_reducible exact Ext.refl _ | (with_reducible refine Ext.setCell ?_ (by simp; try omega) _) | (with_reducible refine Ext.alloc ?_ _))
      · refine ⟨?_, ?_⟩ <;> simp [go_sem]
      · refine ⟨?_, ?_⟩ <;> simp [go_sem]
    rintro w0 ⟨hx0, hb0, hb1⟩
    refine (finite_any _ 2 2 [a, b] true _ (by unfold maxLen; omega) ⟨rfl, fun _ => ⟨_, 0, rfl, two_lie hb1⟩⟩ HV.out).mono ?_
    rintro e w1 ⟨rfl, hx⟩
    have ⟨hc0, hc1⟩ := hb0.ext hx
    go_wp2
    go_ret
    exact ⟨rfl, hx0.trans hx⟩
theorem implValidPrices_yes (a b : Nat) (W : World) (h : PV a b) :
    Calls Try.prog 43 #[.agg #[.float .f32 a, .float .f32 b]] W fun e W' => e = .returned (.bool true) ∧ Ext W W' :=
  implValidPrices_all a b W (by simp [h.1, h.2.1]) true (by simp [h.2.2.1, h.2.2.2])
theorem implValidPrices_no (a b : Nat) (W : World) (h : ¬ PV a b) :
    Calls Try.prog 43 #[.agg #[.float .f32 a, .float .f32 b]] W fun e W' => e = .returned (.bool false) ∧ Ext W W' := by
  cases h1 : [a, b].all finB with
  | false => exact implValidPrices_no1 a b W h1
  | true =>
    refine implValidPrices_all a b W h1 false ?_
    have h1 : finB a = true ∧ finB b = true := by simpa using h1
    cases h2 : (geF a 0 && leF a b) with
    | false => rfl
    | true =>
      have h2 : geF a 0 = true ∧ leF a b = true := by simpa using h2
      exact absurd ⟨h1.1, h1.2, h2.1, h2.2⟩ h
end Go.Proofs.Ythkfbmboiabolaa
