/- Contracts of slices.IndexFunc and ContainsFunc, of whole numbers. -/
import Derived.Test.YthkfbmboiabolaaFin
import Derived.Test.YthkfbmboiabolaaInts
namespace Go.Proofs.Ythkfbmboiabolaa
open Go.RowKit
set_option linter.unusedVariables false

def firstZ (p : Int → Bool) (bs : List Int) : Int := match bs.findIdx? p with | some i => (i : Int) | none => -1
set_option maxHeartbeats 1000000 in
theorem IndexFuncI_any (A : Option Addr) (n c : Nat) (bs : List Int) (p : Int → Bool) (g : FuncId) (lb : Array Value) (U : World) (hn : n ≤ maxLen) (hr : ReadsI U A n bs)
    (hg : (Try.prog.funcs[g]?).any (fun fn => !(fn.name == "runtime.NumGoroutine") && fn.body.isSome) = true)
    (hof : ∀ (b : Int) (W' : World), Ext U W' → Calls Try.prog g (#[.int .i64 b] ++ lb) W' fun e W'' => e = .returned (.bool (p b)) ∧ Ext W' W'') :
    Calls Try.prog 75 #[.slice A n c, .func (.func g) #[] lb] U fun e W' => e = .returned (.int .i64 (firstZ p bs)) ∧ Ext U W' := by
  unfold maxLen at hn
  have eg := enters_any hg
  have HOF := Lib.hid hof
  clear hof
  have hE := Ext.refl U
  go_enter Try.func75, Try.ntmps75
  go_wp2_with fail
  go_loopw [8] (fun i wr => ∃ k : Nat, k ≤ n ∧ i = .int .i64 k ∧ (∀ j, j < k → p (bs.getD j 0) = false) ∧ Ext U wr) (fun i _ => n - (intOf i).toNat)
  case atStart => exact ⟨0, Nat.zero_le _, rfl, fun j hj => by omega, hE⟩
  case round =>
    obtain ⟨k, hk, rfl, hall, hx⟩ := hrel
    by_cases hlt : k < n
    · obtain ⟨gb, off, rfl, hl⟩ := hr.2 (by omega)
      have hc := cell_ext (hl k (by rw [hr.1]; exact hlt)) hx
      have HA := Lib.hid hall
      have HR := Lib.hid hr
      clear hall hr hl
      obtain ⟨b, hb⟩ : ∃ b, bs.getD k 0 = b := ⟨_, rfl⟩
      rw [hb] at hc
      have HB := Lib.hid hb
      clear hb
      go_wp2_with fail
      refine (HOF.out _ _ hx).mono ?_
      rintro e w1 ⟨rfl, hx1⟩
      clear hc eg
      cases hp : p b with
      | true =>
        go_wp2
        go_ret
        exact ⟨by
          have : firstZ p bs = k := by
            unfold firstZ
            have hr := HR.out
            have hb := HB.out
            rw [List.findIdx?_eq_some_iff_getElem.2 ⟨by rw [hr.1]; exact hlt, by rw [← hb] at hp; simpa [List.getD, hr.1, hlt] using hp, fun j hj => by
              have := HA.out j hj
              simpa [List.getD, hr.1, show j < n by omega] using this⟩]
          rw [this]; rfl, hx.trans hx1⟩
      | false =>
        go_wp2
        go_roundw
        case rel => exact ⟨k + 1, by omega, by go_num, fun j hj => by
          rcases Nat.lt_or_ge j k with h | h
          · exact HA.out j h
          · have : j = k := by omega
            subst this; rw [HB.out]; exact hp, hx.trans hx1⟩
        case measure => simp [intOf]; omega
    · have e1 : k = n := by omega
      subst e1
      have HA := Lib.hid hall
      clear hall eg
      go_wp2
      go_ret
      have hall := HA.out
      exact ⟨by
        have : firstZ p bs = -1 := by
          unfold firstZ
          rw [List.findIdx?_eq_none_iff.2 fun x hx => by
            obtain ⟨i, hi, rfl⟩ := List.getElem_of_mem hx
            have := hall i (by rw [← hr.1]; exact hi)
            simpa [List.getD, hi] using this]
        rw [this]; rfl, hx⟩
theorem firstZ_any (p : Int → Bool) (bs : List Int) : decide (firstZ p bs ≥ 0) = bs.any p := by
  unfold firstZ
  cases h : bs.findIdx? p with
  | none =>
    rw [List.findIdx?_eq_none_iff] at h
    have : bs.any p = false := by simpa using h
    rw [this]; rfl
  | some i =>
    obtain ⟨hi, hp, _⟩ := List.findIdx?_eq_some_iff_getElem.1 h
    have : bs.any p = true := List.any_eq_true.2 ⟨_, List.getElem_mem hi, hp⟩
    rw [this]; simp
theorem ContainsFuncI_any (A : Option Addr) (n c : Nat) (bs : List Int) (p : Int → Bool) (g : FuncId) (lb : Array Value) (U : World) (hn : n ≤ maxLen) (hr : ReadsI U A n bs)
    (hg : (Try.prog.funcs[g]?).any (fun fn => !(fn.name == "runtime.NumGoroutine") && fn.body.isSome) = true)
    (hof : ∀ (b : Int) (W' : World), Ext U W' → Calls Try.prog g (#[.int .i64 b] ++ lb) W' fun e W'' => e = .returned (.bool (p b)) ∧ Ext W' W'') :
    Calls Try.prog 50 #[.slice A n c, .func (.func g) #[] lb] U fun e W' => e = .returned (.bool (bs.any p)) ∧ Ext U W' := by
  have hcon := IndexFuncI_any A n c bs p g lb U hn hr hg hof
  have hfi := firstZ_any p bs
  generalize bs.any p = v at hfi ⊢
  generalize firstZ p bs = i at hfi hcon
  clear hof hg hr
  have HC := Lib.hid hcon
  clear hcon
  subst hfi
  go_enter Try.func50, Try.ntmps50
  go_wp2_with fail
  refine HC.out.mono ?_
  rintro e w1 ⟨rfl, hx⟩
  go_wp2
  go_ret
  exact ⟨rfl, hx⟩
end Go.Proofs.Ythkfbmboiabolaa
