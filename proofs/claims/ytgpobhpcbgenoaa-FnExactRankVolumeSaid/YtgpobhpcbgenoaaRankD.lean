/- Contracts: how many digits of two ranks differ. -/
import Derived.Test.YtgpobhpcbgenoaaPop
import Derived.Test.YtgpobhpcbgenoaaValid
namespace Go.Proofs.Ytgpobhpcbgenoaa
open Go.RowKit
set_option linter.unusedVariables false

set_option maxHeartbeats 2000000 in
theorem onesCount_any (x : Nat) (hx : x < 16777216) (W : World) :
    Calls Try.prog 105 #[.int .u64 x] W fun e W' => e = .returned (.int .i64 (pcN 24 x : Nat)) ∧ W = W' := by
  obtain ⟨p0, p1, p2, hp0, hp1, hp2, hb, hpc⟩ := pop_bytes x hx
  rw [hpc]
  clear hpc
  unfold s1 s2 s3 at hb
  have g0 : x / 2 &&& 6148914691236517205 < 2 ^ 24 := Nat.lt_of_le_of_lt Nat.and_le_left (by omega)
  have g1 : x &&& 6148914691236517205 < 2 ^ 24 := Nat.lt_of_le_of_lt Nat.and_le_left (by omega)
  have e0 : bits .and .u64 ((x : Int) / 2) 6148914691236517205 = ((x / 2 &&& 6148914691236517205 : Nat) : Int) := u64_and_nat (x / 2) 6148914691236517205 (by omega) (by omega)
  have e1 : bits .and .u64 (x : Int) 6148914691236517205 = ((x &&& 6148914691236517205 : Nat) : Int) := u64_and_nat x 6148914691236517205 (by omega) (by omega)
  generalize x / 2 &&& 6148914691236517205 = a1 at *
  generalize x &&& 6148914691236517205 = a2 at *
  obtain ⟨y, hy⟩ : ∃ y, a1 + a2 = y := ⟨_, rfl⟩
  have e2 : IntKind.u64.wrap ((a1 : Int) + (a2 : Int)) = (y : Int) := by simp [IntKind.wrap, IntKind.bits, IntKind.signed]; omega
  rw [hy] at hb
  have hyl : y < 2 ^ 25 := by omega
  have g2 : y / 4 &&& 3689348814741910323 < 2 ^ 25 := Nat.lt_of_le_of_lt Nat.and_le_left (by omega)
  have g3 : y &&& 3689348814741910323 < 2 ^ 25 := Nat.lt_of_le_of_lt Nat.and_le_left (by omega)
  have e3 : bits .and .u64 ((y : Int) / 4) 3689348814741910323 = ((y / 4 &&& 3689348814741910323 : Nat) : Int) := u64_and_nat (y / 4) 3689348814741910323 (by omega) (by omega)
  have e4 : bits .and .u64 (y : Int) 3689348814741910323 = ((y &&& 3689348814741910323 : Nat) : Int) := u64_and_nat y 3689348814741910323 (by omega) (by omega)
  clear hy
  generalize y / 4 &&& 3689348814741910323 = a3 at *
  generalize y &&& 3689348814741910323 = a4 at *
  obtain ⟨z, hz⟩ : ∃ y, a3 + a4 = y := ⟨_, rfl⟩
  have e5 : IntKind.u64.wrap ((a3 : Int) + (a4 : Int)) = (z : Int) := by simp [IntKind.wrap, IntKind.bits, IntKind.signed]; omega
  rw [hz] at hb
  have hzl : z < 2 ^ 26 := by omega
  clear hz
  obtain ⟨q, hq⟩ : ∃ q, z / 16 + z = q := ⟨_, rfl⟩
  have e6 : IntKind.u64.wrap ((z : Int) / 16 + (z : Int)) = (q : Int) := by simp [IntKind.wrap, IntKind.bits, IntKind.signed]; omega
  have hql : q < 2 ^ 27 := by omega
  have e7 : bits .and .u64 (q : Int) 1085102592571150095 = ((q &&& 1085102592571150095 : Nat) : Int) := u64_and_nat q 1085102592571150095 (by omega) (by omega)
  rw [hq] at hb
  rw [hb] at e7
  clear hb hq
  obtain ⟨t, ht⟩ : ∃ t, p0 + 256 * p1 + 65536 * p2 = t := ⟨_, rfl⟩
  rw [ht] at e7
  obtain ⟨t1, ht1⟩ : ∃ t1, t + t / 256 = t1 := ⟨_, rfl⟩
  have hd1 : t / 256 = p1 + 256 * p2 := by omega
  have hv1 : t1 = p0 + p1 + 256 * (p1 + p2) + 65536 * p2 := by omega
  have e8 : IntKind.u64.wrap ((t : Int) + (t : Int) / 256) = (t1 : Int) := by simp [IntKind.wrap, IntKind.bits, IntKind.signed]; omega
  obtain ⟨t2, ht2⟩ : ∃ t2, t1 + t1 / 65536 = t2 := ⟨_, rfl⟩
  have hd2 : t1 / 65536 = p2 := by omega
  have hv2 : t2 = p0 + p1 + p2 + 256 * (p1 + p2) + 65536 * p2 := by omega
  have hl2 : t2 < 1000000 := by omega
  have e9 : IntKind.u64.wrap ((t1 : Int) + (t1 : Int) / 65536) = (t2 : Int) := by simp [IntKind.wrap, IntKind.bits, IntKind.signed]; omega
  have e10 : IntKind.u64.wrap ((t2 : Int) + (t2 : Int) / 4294967296) = (t2 : Int) := by simp [IntKind.wrap, IntKind.bits, IntKind.signed]; omega
  have e11 : IntKind.i64.wrap (t2 : Int) = (t2 : Int) := IntWalk.i64_in _ (by omega)
  have e12 : bits .and .i64 (t2 : Int) 127 = ((p0 + p1 + p2 : Nat) : Int) := by
    have h := i64_and_nat t2 127 (by omega) (by omega)
    rw [show (127 : Nat) = 2 ^ 7 - 1 from rfl, Nat.and_two_pow_sub_one_eq_mod] at h
    have hm : t2 % 2 ^ 7 = p0 + p1 + p2 := by omega
    rw [hm] at h
    exact h
  generalize p0 + p1 + p2 = r at e12 ⊢
  clear hv1 hv2 hd1 hd2 hl2 hp0 hp1 hp2 ht ht1 ht2 hx g0 g1 g2 g3 hyl hzl hql
  go_enter Try.func105, Try.ntmps105
  go_wp2
  go_ret
  exact ⟨rfl, rfl⟩
theorem rankDist_any (a b : Nat) (ha : a < 1073741824) (hb : b < 1073741824) (W : World) :
    Calls Try.prog 70 #[.int .i64 a, .int .i64 b] W fun e W' => e = .returned (.int .i64 (pcN 24 ((a ^^^ b) % 16777216) : Nat)) ∧ W = W' := by
  have hxx : a ^^^ b < 2 ^ 30 := Nat.xor_lt_two_pow (by omega) (by omega)
  have e0 := i64_xor_nat a b (by omega) (by omega)
  generalize a ^^^ b = xx at *
  obtain ⟨x, hm⟩ : ∃ x, xx % 16777216 = x := ⟨_, rfl⟩
  have hx : x < 2 ^ 24 := by omega
  rw [hm]
  have e1 : IntKind.u64.wrap (xx : Int) = (xx : Int) := by simp [IntKind.wrap, IntKind.bits, IntKind.signed]; omega
  have e2 : bits .and .u64 (xx : Int) 16777215 = (x : Int) := by
    have h := u64_and_nat xx 16777215 (by omega) (by omega)
    rw [show (16777215 : Nat) = 2 ^ 24 - 1 from rfl, Nat.and_two_pow_sub_one_eq_mod, show xx % 2 ^ 24 = x from hm] at h
    exact h
  have HC := Lib.hid (onesCount_any x hx W)
  generalize pcN 24 x = r at HC ⊢
  clear hx ha hb hxx hm
  go_enter Try.func70, Try.ntmps70
  go_wp2_with fail
  refine HC.out.mono ?_
  rintro e w1 ⟨rfl, rfl⟩
  go_wp2
  go_ret
  exact ⟨rfl, rfl⟩
set_option maxHeartbeats 2000000 in
theorem specRankDist_any (a b : Nat) (ha : a < 1073741824) (hb : b < 1073741824) (W : World) :
    Calls Try.prog 66 #[.int .i64 a, .int .i64 b] W fun e W' => e = .returned (.int .i64 (pcN 24 ((a ^^^ b) % 16777216) : Nat)) ∧ W = W' := by
  have hxx : a ^^^ b < 2 ^ 30 := Nat.xor_lt_two_pow (by omega) (by omega)
  have e0 := i64_xor_nat a b (by omega) (by omega)
  generalize a ^^^ b = xx at *
  obtain ⟨x, hm⟩ : ∃ x, xx % 16777216 = x := ⟨_, rfl⟩
  have hx : x < 2 ^ 24 := by omega
  rw [hm]
  have e2 : bits .and .i64 (xx : Int) 16777215 = (x : Int) := by
    have h := i64_and_nat xx 16777215 (by omega) (by omega)
    rw [show (16777215 : Nat) = 2 ^ 24 - 1 from rfl, Nat.and_two_pow_sub_one_eq_mod, show xx % 2 ^ 24 = x from hm] at h
    exact h
  clear hm hxx
  have hle := pcN_le 24 x
  obtain ⟨T, hT⟩ : ∃ T, pcN 24 x = T := ⟨_, rfl⟩
  rw [hT] at hle ⊢
  have HLE := Lib.hid hle
  have HX := Lib.hid hx
  have HT := Lib.hid hT
  clear ha hb hx hT
  go_enter Try.func66, Try.ntmps66
  go_wp2_with fail
  go_loop [5, 6] (fun nv dv => ∃ n d k : Nat, nv = .int .i64 n ∧ dv = .int .i64 d ∧ d < 2 ^ k ∧ n + pcN k d = T ∧ d < 16777216) (fun _ dv => (intOf dv).toNat)
  case atStart => exact ⟨0, x, 24, rfl, rfl, HX.out, by rw [HT.out]; omega, HX.out⟩
  case round =>
    obtain ⟨n, d, k, rfl, rfl, hd, hn, hdl⟩ := hrel
    clear e0 e2 hle
    by_cases h0 : d = 0
    · have HN : Hid (n = T) := Lib.hid (by rw [h0, pcN_zero] at hn; omega)
      clear hd hn hdl
      subst h0
      go_wp2
      go_ret
      exact ⟨by rw [HN.out]; rfl, rfl⟩
    · have h1 : (0 : Int) < (d : Int) := by omega
      have hd0 : 0 < d := by omega
      obtain ⟨j, rfl⟩ : ∃ j, k = j + 1 := by
        cases k with
        | zero => omega
        | succ j => exact ⟨j, rfl⟩
      rw [pcN] at hn
      obtain ⟨r, hr⟩ : ∃ r, d % 2 = r := ⟨_, rfl⟩
      obtain ⟨q, hq⟩ : ∃ q, d / 2 = q := ⟨_, rfl⟩
      have m1 : (d : Int) % 2 = (r : Int) := by omega
      have m2 : (d : Int) / 2 = (q : Int) := by omega
      have hqd : q < d := by omega
      have hq2 : q < 2 ^ j := by rw [Nat.pow_succ] at hd; omega
      rw [hr, hq] at hn
      have hrl : r < 2 := by omega
      have hql : q < 16777216 := by omega
      have w2 : wrap64 (q : Int) = (q : Int) := by unfold wrap64; omega
      have hnl : n ≤ 24 := by have := HLE.out; omega
      have w1 : IntKind.i64.wrap ((n : Int) + (r : Int)) = ((n + r : Nat) : Int) := by
        rw [show (n : Int) + (r : Int) = ((n + r : Nat) : Int) by omega]; exact wrap_small _ (by omega) (by omega)
      have HH := Lib.hid (And.intro hn (And.intro hq2 hqd))
      clear hr hq hd hn hq2
      go_wp2
      go_round
      case rel => exact ⟨n + r, q, j, rfl, rfl, HH.out.2.1, by have := HH.out.1; omega, hql⟩
      case measure => have := HH.out.2.2; simp [intOf]; omega
end Go.Proofs.Ytgpobhpcbgenoaa
