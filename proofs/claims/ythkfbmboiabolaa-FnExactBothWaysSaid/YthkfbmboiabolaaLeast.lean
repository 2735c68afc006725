/- Contracts: the least one of some numbers. -/
import Derived.Test.YthkfbmboiabolaaFin
import Derived.Test.YthkfbmboiabolaaValid
import Derived.Lib.Hide
namespace Go.Proofs.Ythkfbmboiabolaa
open Go.RowKit
set_option linter.unusedVariables false

/-- The first of some words, or a later one that is less. -/
def lstF (F : Nat → Nat) : Nat → Nat
  | 0 => F 0
  | k + 1 => if ltF (F (k + 1)) (lstF F k) = true then F (k + 1) else lstF F k
def lstL (L : List Nat) : Nat := lstF (fun i => L.getD i 0) (L.length - 1)
theorem ltF_nrm (x y : Nat) : ltF (nrm x) (nrm y) = ltF x y := by unfold ltF; rw [fcmp_nrm]
theorem lstF_nrm (F : Nat → Nat) : ∀ k, nrm (lstF F k) = lstF (fun i => nrm (F i)) k
  | 0 => rfl
  | k + 1 => by
    have ih := lstF_nrm F k
    rw [lstF, lstF, ← ih, ltF_nrm]
    split <;> rfl
theorem getD_map_nrm (L : List Nat) (i : Nat) : (L.map nrm).getD i 0 = nrm (L.getD i 0) := by
  simp only [List.getD_eq_getElem?_getD, List.getElem?_map]
  cases L[i]? with
  | none => exact nrm_zero.symm
  | some v => rfl
theorem lstL_nrm (L : List Nat) : nrm (lstL L) = lstL (L.map nrm) := by
  unfold lstL
  rw [lstF_nrm, List.length_map]
  congr 1
  funext i
  exact (getD_map_nrm L i).symm
theorem lstF_lt {F : Nat → Nat} (h : ∀ i, F i < 4294967296) : ∀ k, lstF F k < 4294967296
  | 0 => h 0
  | k + 1 => by
    have ih := lstF_lt h k
    rw [lstF]
    split
    · exact h _
    · exact ih
theorem wd_at' {bs : List Nat} (hw : Words bs) (k : Nat) : bs.getD k 0 < 4294967296 := by
  by_cases h : k < bs.length
  · rw [List.getD_eq_getElem?_getD, List.getElem?_eq_getElem h]; exact hw _ (List.getElem_mem h)
  · rw [List.getD_eq_getElem?_getD, List.getElem?_eq_none (by omega)]; exact by decide
theorem lstL_lt {L : List Nat} (h : Words L) : lstL L < 4294967296 := lstF_lt (fun i => wd_at' h i) _
theorem lstL_is {L : List Nat} (h : Words L) : Is (lstL L) (lstL (L.map nrm)) := ⟨lstL_lt h, lstL_nrm L⟩
set_option maxHeartbeats 1000000 in
theorem leastOf_any (A : Option Addr) (n c : Nat) (bs : List Nat) (U : World) (hr : Reads U A n bs) (h1 : 1 ≤ n) (h16 : n ≤ 16) (hnc : n ≤ c) (hcm : c ≤ maxLen) :
    Calls Try.prog 72 #[.slice A n c] U fun e U' => e = .returned (.float .f32 (lstL bs)) ∧ U = U' := by
  obtain ⟨gb, off, rfl, hl⟩ := hr.2 (by omega)
  have hlen := hr.1
  unfold maxLen at hcm
  unfold lstL
  rw [hlen]
  have HL := Lib.hid (fun i (hi : i < n) => (hl i (by omega) : U.cell? ⟨gb, off + i, none⟩ = some (fl (bs.getD i 0))))
  obtain ⟨F, hF⟩ : ∃ F : Nat → Nat, F = fun i => bs.getD i 0 := ⟨_, rfl⟩
  rw [← hF]
  have HFI := Lib.hid (fun i => (congrFun hF i : F i = bs.getD i 0))
  obtain ⟨m, hm⟩ : ∃ m, n - 1 = m := ⟨_, rfl⟩
  rw [hm]
  have hc0 := HL.out 0 (by omega)
  rw [← HFI.out 0, Nat.add_zero] at hc0
  have hn1 : (n : Int) = (m : Int) + 1 := by omega
  have HN := Lib.hid hn1
  have b0 : (0 : Int) < (n : Int) := by omega
  have b1 : (1 : Int) ≤ (n : Int) := by omega
  have b2 : (n : Int) ≤ (c : Int) := by omega
  clear hl hr hlen hF hn1 
  by_cases hc1 : c = 1
  · obtain rfl : n = 1 := by omega
    obtain rfl : m = 0 := by omega
    subst hc1
    go_enter Try.func72, Try.ntmps72
    go_wp2_with fail
    go_loopw [3, 12] (fun o iv wr => iv = .int .i64 0 ∧ o = .float .f32 (lstF F 0) ∧ wr = U) (fun _ iv _ => 0)
    case atStart => exact ⟨rfl, rfl, rfl⟩
    case round =>
      obtain ⟨rfl, rfl, rfl⟩ := hrel
      go_wp2
      go_ret
      exact ⟨rfl, rfl⟩
  go_enter Try.func72, Try.ntmps72
  go_wp2_with fail
  go_loopw [3, 12] (fun o iv wr => ∃ (k : Nat) (z : Int), k ≤ m ∧ z = (k : Int) ∧ iv = .int .i64 z ∧ o = .float .f32 (lstF F k) ∧ wr = U) (fun _ iv _ => ((m : Int) - intOf iv).toNat)
  case atStart => exact ⟨0, 0, Nat.zero_le _, by simp, rfl, rfl, rfl⟩
  case round =>
    obtain ⟨k, z, hk, hz, rfl, rfl, rfl⟩ := hrel
    have hz1 : IntKind.i64.wrap (z + 1) = z + 1 := wrap_small _ (by omega) (by omega)
    by_cases hlt : k < m
    · have hcv := HL.out (k + 1) (by omega)
      rw [← HFI.out (k + 1)] at hcv
      have hst : lstF F (k + 1) = if ltF (F (k + 1)) (lstF F k) = true then F (k + 1) else lstF F k := rfl
      generalize F (k + 1) = x at hcv hst
      generalize lstF F k = q at hst ⊢
      have hzz : z = ((k : Nat) : Int) := by omega
      subst hzz
      have d0 : (0 : Int) ≤ (k : Int) := by omega
      have d1 : (k : Int) < (m : Int) := by have := HN.out; omega
      skip
      have hm1 : n - 1 = m := hm
      cases hb : ltF x q with
      | true =>
        have hb' : (FloatKind.f32.format.order x q == some .lt) = true := hb
        rw [hb, if_pos rfl] at hst
        have HS := Lib.hid hst
        clear hst hb hz 
        skip
        rw [show off + (k + 1) = off + 1 + k by omega] at hcv
        go_wp2
        go_roundw
        case rel => exact ⟨k + 1, _, by omega, by simp, rfl, by rw [HS.out], by first | rfl | trivial⟩
        case measure => simp [intOf]; omega
      | false =>
        have hb' : (FloatKind.f32.format.order x q == some .lt) = false := hb
        rw [hb, if_neg (by simp)] at hst
        have HS := Lib.hid hst
        clear hst hb hz
        skip
        rw [show off + (k + 1) = off + 1 + k by omega] at hcv
        go_wp2
        go_roundw
        case rel => exact ⟨k + 1, _, by omega, by simp, rfl, by rw [HS.out], by first | rfl | trivial⟩
        case measure => simp [intOf]; omega
    · have e1 : k = m := by omega
      have hno : ¬ z < (m : Int) := by have := HN.out; omega
      have hm1 : n - 1 = m := hm
      subst e1
      clear hz
      go_wp2
      go_ret
      exact ⟨rfl, rfl⟩
set_option maxHeartbeats 1000000 in
theorem l04Least_any (A : Option Addr) (n c : Nat) (bs : List Nat) (U : World) (hr : Reads U A n bs) (h1 : 1 ≤ n) (h16 : n ≤ 16) (hnc : n ≤ c) (hcm : c ≤ maxLen) :
    Calls Try.prog 70 #[.slice A n c] U fun e U' => e = .returned (.float .f32 (lstL bs)) ∧ U = U' := by
  obtain ⟨gb, off, rfl, hl⟩ := hr.2 (by omega)
  have hlen := hr.1
  unfold maxLen at hcm
  unfold lstL
  rw [hlen]
  have HL := Lib.hid (fun i (hi : i < n) => (hl i (by omega) : U.cell? ⟨gb, off + i, none⟩ = some (fl (bs.getD i 0))))
  obtain ⟨F, hF⟩ : ∃ F : Nat → Nat, F = fun i => bs.getD i 0 := ⟨_, rfl⟩
  rw [← hF]
  have HFI := Lib.hid (fun i => (congrFun hF i : F i = bs.getD i 0))
  obtain ⟨m, hm⟩ : ∃ m, n - 1 = m := ⟨_, rfl⟩
  rw [hm]
  have hc0 := HL.out 0 (by omega)
  rw [← HFI.out 0, Nat.add_zero] at hc0
  have hn1 : (n : Int) = (m : Int) + 1 := by omega
  have HN := Lib.hid hn1
  have b0 : (0 : Int) < (n : Int) := by omega
  have b1 : (1 : Int) ≤ (n : Int) := by omega
  have b2 : (n : Int) ≤ (c : Int) := by omega
  clear hl hr hlen hF hn1 
  skip
  go_enter Try.func70, Try.ntmps70
  go_wp2_with fail
  go_loopw [3, 4] (fun o iv wr => ∃ (k : Nat) (z : Int), k ≤ m ∧ z = ((k : Int) + 1) ∧ iv = .int .i64 z ∧ o = .float .f32 (lstF F k) ∧ wr = U) (fun _ iv _ => ((m : Int) + 1 - intOf iv).toNat)
  case atStart => exact ⟨0, 1, Nat.zero_le _, by simp, rfl, rfl, rfl⟩
  case round =>
    obtain ⟨k, z, hk, hz, rfl, rfl, rfl⟩ := hrel
    have hz1 : IntKind.i64.wrap (z + 1) = z + 1 := wrap_small _ (by omega) (by omega)
    by_cases hlt : k < m
    · have hcv := HL.out (k + 1) (by omega)
      rw [← HFI.out (k + 1)] at hcv
      have hst : lstF F (k + 1) = if ltF (F (k + 1)) (lstF F k) = true then F (k + 1) else lstF F k := rfl
      generalize F (k + 1) = x at hcv hst
      generalize lstF F k = q at hst ⊢
      have hzz : z = ((k + 1 : Nat) : Int) := by omega
      subst hzz
      have d0 : (0 : Int) ≤ ((k + 1 : Nat) : Int) := by omega
      have d1 : ((k + 1 : Nat) : Int) < (n : Int) := by have := HN.out; omega
      skip
      skip
      cases hb : ltF x q with
      | true =>
        have hb' : (FloatKind.f32.format.order x q == some .lt) = true := hb
        rw [hb, if_pos rfl] at hst
        have HS := Lib.hid hst
        clear hst hb hz 
        obtain ⟨kk, hkk⟩ : ∃ kk, k + 1 = kk := ⟨_, rfl⟩
        rw [hkk] at hcv hz1 d0 d1 ⊢
        go_wp2
        go_roundw
        case rel => exact ⟨k + 1, _, by omega, by omega, rfl, by rw [HS.out], by first | rfl | trivial⟩
        case measure => simp [intOf]; omega
      | false =>
        have hb' : (FloatKind.f32.format.order x q == some .lt) = false := hb
        rw [hb, if_neg (by simp)] at hst
        have HS := Lib.hid hst
        clear hst hb hz
        obtain ⟨kk, hkk⟩ : ∃ kk, k + 1 = kk := ⟨_, rfl⟩
        rw [hkk] at hcv hz1 d0 d1 ⊢
        go_wp2
        go_roundw
        case rel => exact ⟨k + 1, _, by omega, by omega, rfl, by rw [HS.out], by first | rfl | trivial⟩
        case measure => simp [intOf]; omega
    · have e1 : k = m := by omega
      have hno : ¬ z < (n : Int) := by have := HN.out; omega
      skip
      subst e1
      clear hz
      go_wp2
      go_ret
      exact ⟨rfl, rfl⟩
end Go.Proofs.Ythkfbmboiabolaa
