/- Contracts: the rank of a place among those about. -/
import Derived.Test.YtgpobhpcbgenoaaMaps
import Derived.Lib.Hide
namespace Go.Proofs.Ytgpobhpcbgenoaa
open Go.RowKit
set_option linter.unusedVariables false

/-- Whether a cell about is less than the middle one. -/
def rkB (G : Int → Int → Nat) (x y : Int) (r j k : Nat) : Bool := FloatKind.f32.format.order (G (x - (r : Int) + (j : Int)) (y - (r : Int) + (k : Int))) (G x y) == some .lt
def rkIn (B : Nat → Nat → Bool) (r k : Nat) : Nat → Nat → Nat
  | 0, n => n
  | j + 1, n => if j = r ∧ k = r then rkIn B r k j n else 2 * rkIn B r k j n + (if B j k = true then 1 else 0)
def rkTo (B : Nat → Nat → Bool) (r : Nat) : Nat → Nat
  | 0 => 0
  | k + 1 => rkIn B r k (2 * r + 1) (rkTo B r k)
theorem rkIn_skip {B : Nat → Nat → Bool} {r k j n : Nat} (h : j = r ∧ k = r) : rkIn B r k (j + 1) n = rkIn B r k j n := by rw [rkIn, if_pos h]
theorem rkIn_step {B : Nat → Nat → Bool} {r k j n : Nat} (h : ¬ (j = r ∧ k = r)) : rkIn B r k (j + 1) n = 2 * rkIn B r k j n + (if B j k = true then 1 else 0) := by rw [rkIn, if_neg h]
theorem rkIn_le (B : Nat → Nat → Bool) (r k n : Nat) : ∀ j, rkIn B r k j n + 1 ≤ 2 ^ j * (n + 1)
  | 0 => by simp [rkIn]
  | j + 1 => by
    have ih := rkIn_le B r k n j
    rw [Nat.pow_succ, Nat.mul_comm (2 ^ j) 2, Nat.mul_assoc]
    unfold rkIn
    split
    · omega
    · split <;> omega
theorem rkTo_le (B : Nat → Nat → Bool) (r : Nat) : ∀ k, rkTo B r k + 1 ≤ (2 ^ (2 * r + 1)) ^ k
  | 0 => by simp [rkTo]
  | k + 1 => by
    have ih := rkTo_le B r k
    have h := rkIn_le B r k (rkTo B r k) (2 * r + 1)
    rw [Nat.pow_succ, Nat.mul_comm]
    exact Nat.le_trans h (Nat.mul_le_mul_left _ ih)
theorem rkTo_lt (B : Nat → Nat → Bool) {r : Nat} (hr : r ≤ 2) (k : Nat) (hk : k ≤ 2 * r + 1) : rkTo B r k < 33554432 := by
  have h := rkTo_le B r k
  have h2 : (2 ^ (2 * r + 1)) ^ k ≤ (2 ^ 5) ^ 5 := Nat.le_trans (Nat.pow_le_pow_left (Nat.pow_le_pow_right (by omega) (by omega)) k) (Nat.pow_le_pow_right (by decide) (by omega))
  have h3 : (2 ^ 5) ^ 5 = 33554432 := by decide
  omega
theorem rkIn_lt (B : Nat → Nat → Bool) {r : Nat} (hr : r ≤ 2) (k n : Nat) (hn : n < 33554432) (j : Nat) (hj : j ≤ 2 * r + 1) : rkIn B r k j n < 1073741824 := by
  have h := rkIn_le B r k n j
  have h2 : 2 ^ j * (n + 1) ≤ 2 ^ 5 * 33554432 := Nat.mul_le_mul (Nat.pow_le_pow_right (by omega) (by omega)) (by omega)
  have h3 : 2 ^ 5 * 33554432 = 1073741824 := by decide
  omega
set_option maxHeartbeats 4000000 in
set_option maxRecDepth 8000 in
theorem rank_any (g : Nat) (x y : Int) (r : Nat) (G : Int → Int → Nat) (U : World) (hx0 : 0 ≤ x ∧ x ≤ 24) (hy0 : 0 ≤ y ∧ y ≤ 24) (hr : r ≤ 2)
    (hA : ∀ W, Ext U W → ∀ u v, Calls Try.prog 82 #[.pointer (some ⟨g, 0, none⟩), .int .i64 u, .int .i64 v] W fun e W' => e = .returned (.float .f32 (G u v)) ∧ Ext W W') :
    Calls Try.prog 71 #[.pointer (some ⟨g, 0, none⟩), .int .i64 x, .int .i64 y, .int .i64 r] U fun e U' => e = .returned (.int .i64 ((rkTo (rkB G x y r) r (2 * r + 1) : Nat) : Int)) ∧ Ext U U' := by
  have HA := Lib.hid hA
  obtain ⟨a, ha⟩ : ∃ a, x - (r : Int) = a := ⟨_, rfl⟩
  obtain ⟨b, hb⟩ : ∃ b, y - (r : Int) = b := ⟨_, rfl⟩
  obtain ⟨c, hc⟩ : ∃ c, x + (r : Int) = c := ⟨_, rfl⟩
  obtain ⟨d, hd⟩ : ∃ d, y + (r : Int) = d := ⟨_, rfl⟩
  have hwa : IntKind.i64.wrap (x - (r : Int)) = a := by rw [ha]; exact wrap_small _ (by omega) (by omega)
  have hwb : IntKind.i64.wrap (y - (r : Int)) = b := by rw [hb]; exact wrap_small _ (by omega) (by omega)
  have hwc : IntKind.i64.wrap (x + (r : Int)) = c := by rw [hc]; exact wrap_small _ (by omega) (by omega)
  have hwd : IntKind.i64.wrap (y + (r : Int)) = d := by rw [hd]; exact wrap_small _ (by omega) (by omega)
  have HEQ := Lib.hid (⟨ha, hb, hc, hd⟩ : x - (r : Int) = a ∧ y - (r : Int) = b ∧ x + (r : Int) = c ∧ y + (r : Int) = d)
  have HXY := Lib.hid (⟨hx0, hy0⟩ : (0 ≤ x ∧ x ≤ 24) ∧ 0 ≤ y ∧ y ≤ 24)
  clear hA ha hb hc hd hx0 hy0
  go_enter Try.func71, Try.ntmps71
  go_wp2_with fail
  refine (HA.out _ (Ext.refl _) x y).mono ?_
  rintro e w0 ⟨rfl, hx0⟩
  go_wp2_with fail
  go_loopw [9, 11] (fun nn vv wr => ∃ (k : Nat) (v : Int), k ≤ 2 * r + 1 ∧ v = b + (k : Int) ∧ vv = .int .i64 v ∧ nn = .int .i64 ((rkTo (rkB G x y r) r k : Nat) : Int) ∧ Ext U wr) (fun _ vv _ => ((d + 1) - intOf vv).toNat)
  case atStart => exact ⟨0, b, by omega, by simp, rfl, rfl, hx0⟩
  case round =>
    obtain ⟨k, v, hk, hv, rfl, rfl, hE⟩ := hrel
    have ⟨e1, e2, e3, e4⟩ := HEQ.out
    have ⟨⟨f1, f2⟩, f3, f4⟩ := HXY.out
    have hv1 : IntKind.i64.wrap (v + 1) = v + 1 := wrap_small _ (by omega) (by omega)
    have hN := rkTo_lt (rkB G x y r) hr k (by omega)
    by_cases hlt : k < 2 * r + 1
    · have hvd : v ≤ d := by omega
      have HVV := Lib.hid (⟨hv, e1, e2, e3, e4, f1, f2, f3, f4⟩ : v = b + (k : Int) ∧ x - (r : Int) = a ∧ y - (r : Int) = b ∧ x + (r : Int) = c ∧ y + (r : Int) = d ∧ 0 ≤ x ∧ x ≤ 24 ∧ 0 ≤ y ∧ y ≤ 24)
      clear hv e1 e2 e3 e4 f1 f2 f3 f4
      go_wp2_with fail
      go_loopw [9, 12] (fun nn uu wr => ∃ (j : Nat) (u : Int), j ≤ 2 * r + 1 ∧ u = a + (j : Int) ∧ uu = .int .i64 u ∧ nn = .int .i64 ((rkIn (rkB G x y r) r k j (rkTo (rkB G x y r) r k) : Nat) : Int) ∧ Ext U wr) (fun _ uu _ => ((c + 1) - intOf uu).toNat)
      case atStart => exact ⟨0, a, by omega, by simp, rfl, rfl, hE⟩
      case round =>
        clear hE
        obtain ⟨j, u, hj, hu, rfl, rfl, hE2⟩ := hrel
        obtain ⟨hv, e1, e2, e3, e4, f1, f2, f3, f4⟩ := HVV.out
        have hu1 : IntKind.i64.wrap (u + 1) = u + 1 := wrap_small _ (by omega) (by omega)
        have hM := rkIn_lt (rkB G x y r) hr k (rkTo (rkB G x y r) r k) hN j (by omega)
        obtain ⟨m, hm0⟩ : ∃ m, rkIn (rkB G x y r) r k j (rkTo (rkB G x y r) r k) = m := ⟨_, rfl⟩
        by_cases hltj : j < 2 * r + 1
        · have huc : u ≤ c := by omega
          rw [hm0] at hM ⊢
          by_cases hjr : u = x
          · by_cases hkr : v = y
            · have HST := Lib.hid (show rkIn (rkB G x y r) r k (j + 1) (rkTo (rkB G x y r) r k) = m by rw [rkIn_skip (by omega), hm0])
              obtain rfl : x = u := hjr.symm
              obtain rfl : y = v := hkr.symm
              have HU := Lib.hid (⟨hu, hv⟩ : _ ∧ _)
              clear e1 e2 e3 e4 hu hv hm0
              go_wp2_with fail
              go_roundw
              case rel => exact ⟨j + 1, x + 1, by omega, by have := HU.out.1; omega, rfl, by rw [HST.out], hE2⟩
              case measure => simp [intOf]; omega
            ·
              obtain rfl : x = u := hjr.symm
              have q2 : (v == y) = false := by simp [hkr]
              have hne : ¬ (j = r ∧ k = r) := fun h => hkr (by omega)
              have hm2 : IntKind.i64.wrap ((m : Int) * 2) = ((2 * m : Nat) : Int) := by rw [show (m : Int) * 2 = ((2 * m : Nat) : Int) by omega]; exact IntWalk.i64_in _ (by omega)
              have hm3 : IntKind.i64.wrap (((2 * m : Nat) : Int) + 1) = ((2 * m + 1 : Nat) : Int) := by rw [show ((2 * m : Nat) : Int) + 1 = ((2 * m + 1 : Nat) : Int) by omega]; exact IntWalk.i64_in _ (by omega)
              have hcmp : (FloatKind.f32.format.order (G x v) (G x y) == some .lt) = rkB G x y r j k := by unfold rkB; rw [show x - (r : Int) + (j : Int) = x by omega, show y - (r : Int) + (k : Int) = v by omega]
              have HU := Lib.hid (⟨hu, hv⟩ : _ ∧ _)
              clear e1 e2 e3 e4 hu hv
              go_wp2_with fail
              with_reducible refine (HA.out _ hE2 x v).mono ?_
              rintro e w3 ⟨rfl, hx3⟩
              replace hE2 := hE2.trans hx3
              clear hx3
              cases hb : rkB G x y r j k with
              | true =>
                have HST := Lib.hid (show rkIn (rkB G x y r) r k (j + 1) (rkTo (rkB G x y r) r k) = 2 * m + 1 by rw [rkIn_step hne, hm0, hb]; rfl)
                rw [hb] at hcmp
                clear hb hne hm0
                go_wp2_with fail
                go_roundw
                case rel => exact ⟨j + 1, x + 1, by omega, by have := HU.out.1; omega, rfl, by rw [HST.out]; go_num, hE2⟩
                case measure => simp [intOf]; omega
              | false =>
                have HST := Lib.hid (show rkIn (rkB G x y r) r k (j + 1) (rkTo (rkB G x y r) r k) = 2 * m by rw [rkIn_step hne, hm0, hb]; rfl)
                rw [hb] at hcmp
                clear hb hne hm0
                go_wp2_with fail
                go_roundw
                case rel => exact ⟨j + 1, x + 1, by omega, by have := HU.out.1; omega, rfl, by rw [HST.out]; go_num, hE2⟩
                case measure => simp [intOf]; omega
          ·
            have q1 : (u == x) = false := by simp [hjr]
            have hne : ¬ (j = r ∧ k = r) := fun h => hjr (by omega)
            have hm2 : IntKind.i64.wrap ((m : Int) * 2) = ((2 * m : Nat) : Int) := by rw [show (m : Int) * 2 = ((2 * m : Nat) : Int) by omega]; exact IntWalk.i64_in _ (by omega)
            have hm3 : IntKind.i64.wrap (((2 * m : Nat) : Int) + 1) = ((2 * m + 1 : Nat) : Int) := by rw [show ((2 * m : Nat) : Int) + 1 = ((2 * m + 1 : Nat) : Int) by omega]; exact IntWalk.i64_in _ (by omega)
            have hcmp : (FloatKind.f32.format.order (G u v) (G x y) == some .lt) = rkB G x y r j k := by unfold rkB; rw [show x - (r : Int) + (j : Int) = u by omega, show y - (r : Int) + (k : Int) = v by omega]
            have HU := Lib.hid (⟨hu, hv⟩ : _ ∧ _)
            clear e1 e2 e3 e4 hu hv
            go_wp2_with fail
            with_reducible refine (HA.out _ hE2 u v).mono ?_
            rintro e w3 ⟨rfl, hx3⟩
            replace hE2 := hE2.trans hx3
            clear hx3
            cases hb : rkB G x y r j k with
            | true =>
              have HST := Lib.hid (show rkIn (rkB G x y r) r k (j + 1) (rkTo (rkB G x y r) r k) = 2 * m + 1 by rw [rkIn_step hne, hm0, hb]; rfl)
              rw [hb] at hcmp
              clear hb hne hm0
              go_wp2_with fail
              go_roundw
              case rel => exact ⟨j + 1, u + 1, by omega, by have := HU.out.1; omega, rfl, by rw [HST.out]; go_num, hE2⟩
              case measure => simp [intOf]; omega
            | false =>
              have HST := Lib.hid (show rkIn (rkB G x y r) r k (j + 1) (rkTo (rkB G x y r) r k) = 2 * m by rw [rkIn_step hne, hm0, hb]; rfl)
              rw [hb] at hcmp
              clear hb hne hm0
              go_wp2_with fail
              go_roundw
              case rel => exact ⟨j + 1, u + 1, by omega, by have := HU.out.1; omega, rfl, by rw [HST.out]; go_num, hE2⟩
              case measure => simp [intOf]; omega
        · have huc : ¬ u ≤ c := by omega
          have e9 : j = 2 * r + 1 := by omega
          have HST := Lib.hid (show rkTo (rkB G x y r) r (k + 1) = m by rw [← hm0, e9]; rfl)
          rw [hm0]
          have HU := Lib.hid hv
          clear e1 e2 e3 e4 hm0 e9 hu hv
          go_wp2_with fail
          go_roundw
          case rel => exact ⟨k + 1, v + 1, by omega, by have := HU.out; omega, rfl, by rw [HST.out], hE2⟩
          case measure => simp [intOf]; omega
    · have hvd : ¬ v ≤ d := by omega
      have e9 : k = 2 * r + 1 := by omega
      have HST := Lib.hid (show rkTo (rkB G x y r) r k = rkTo (rkB G x y r) r (2 * r + 1) by rw [e9])
      clear e1 e2 e3 e4 hv e9
      generalize rkTo (rkB G x y r) r k = q at *
      go_wp2
      go_ret
      exact ⟨by rw [HST.out]; rfl, hE⟩
set_option maxHeartbeats 4000000 in
set_option maxRecDepth 8000 in
theorem l02Rank_any (g : Nat) (x y : Int) (r : Nat) (G : Int → Int → Nat) (U : World) (hx0 : 0 ≤ x ∧ x ≤ 24) (hy0 : 0 ≤ y ∧ y ≤ 24) (hr : r ≤ 2)
    (hA : ∀ W, Ext U W → ∀ u v, Calls Try.prog 107 #[.pointer (some ⟨g, 0, none⟩), .int .i64 u, .int .i64 v] W fun e W' => e = .returned (.float .f32 (G u v)) ∧ Ext W W') :
    Calls Try.prog 104 #[.pointer (some ⟨g, 0, none⟩), .int .i64 x, .int .i64 y, .int .i64 r] U fun e U' => e = .returned (.int .i64 ((rkTo (rkB G x y r) r (2 * r + 1) : Nat) : Int)) ∧ Ext U U' := by
  have HA := Lib.hid hA
  obtain ⟨a, ha⟩ : ∃ a, x - (r : Int) = a := ⟨_, rfl⟩
  obtain ⟨b, hb⟩ : ∃ b, y - (r : Int) = b := ⟨_, rfl⟩
  obtain ⟨c, hc⟩ : ∃ c, x + (r : Int) = c := ⟨_, rfl⟩
  obtain ⟨d, hd⟩ : ∃ d, y + (r : Int) = d := ⟨_, rfl⟩
  have hwa : IntKind.i64.wrap (x - (r : Int)) = a := by rw [ha]; exact wrap_small _ (by omega) (by omega)
  have hwb : IntKind.i64.wrap (y - (r : Int)) = b := by rw [hb]; exact wrap_small _ (by omega) (by omega)
  have hwc : IntKind.i64.wrap (x + (r : Int)) = c := by rw [hc]; exact wrap_small _ (by omega) (by omega)
  have hwd : IntKind.i64.wrap (y + (r : Int)) = d := by rw [hd]; exact wrap_small _ (by omega) (by omega)
  have HEQ := Lib.hid (⟨ha, hb, hc, hd⟩ : x - (r : Int) = a ∧ y - (r : Int) = b ∧ x + (r : Int) = c ∧ y + (r : Int) = d)
  have HXY := Lib.hid (⟨hx0, hy0⟩ : (0 ≤ x ∧ x ≤ 24) ∧ 0 ≤ y ∧ y ≤ 24)
  clear hA ha hb hc hd hx0 hy0
  go_enter Try.func104, Try.ntmps104
  go_wp2_with fail
  go_loopw [9, 10] (fun nn vv wr => ∃ (k : Nat) (v : Int), k ≤ 2 * r + 1 ∧ v = b + (k : Int) ∧ vv = .int .i64 v ∧ nn = .int .i64 ((rkTo (rkB G x y r) r k : Nat) : Int) ∧ Ext U wr) (fun _ vv _ => ((d + 1) - intOf vv).toNat)
  case atStart => exact ⟨0, b, by omega, by simp, rfl, rfl, (Ext.refl _)⟩
  case round =>
    obtain ⟨k, v, hk, hv, rfl, rfl, hE⟩ := hrel
    have ⟨e1, e2, e3, e4⟩ := HEQ.out
    have ⟨⟨f1, f2⟩, f3, f4⟩ := HXY.out
    have hv1 : IntKind.i64.wrap (v + 1) = v + 1 := wrap_small _ (by omega) (by omega)
    have hN := rkTo_lt (rkB G x y r) hr k (by omega)
    by_cases hlt : k < 2 * r + 1
    · have hvd : v ≤ d := by omega
      have HVV := Lib.hid (⟨hv, e1, e2, e3, e4, f1, f2, f3, f4⟩ : v = b + (k : Int) ∧ x - (r : Int) = a ∧ y - (r : Int) = b ∧ x + (r : Int) = c ∧ y + (r : Int) = d ∧ 0 ≤ x ∧ x ≤ 24 ∧ 0 ≤ y ∧ y ≤ 24)
      clear hv e1 e2 e3 e4 f1 f2 f3 f4
      go_wp2_with fail
      go_loopw [9, 11] (fun nn uu wr => ∃ (j : Nat) (u : Int), j ≤ 2 * r + 1 ∧ u = a + (j : Int) ∧ uu = .int .i64 u ∧ nn = .int .i64 ((rkIn (rkB G x y r) r k j (rkTo (rkB G x y r) r k) : Nat) : Int) ∧ Ext U wr) (fun _ uu _ => ((c + 1) - intOf uu).toNat)
      case atStart => exact ⟨0, a, by omega, by simp, rfl, rfl, hE⟩
      case round =>
        clear hE
        obtain ⟨j, u, hj, hu, rfl, rfl, hE2⟩ := hrel
        obtain ⟨hv, e1, e2, e3, e4, f1, f2, f3, f4⟩ := HVV.out
        have hu1 : IntKind.i64.wrap (u + 1) = u + 1 := wrap_small _ (by omega) (by omega)
        have hM := rkIn_lt (rkB G x y r) hr k (rkTo (rkB G x y r) r k) hN j (by omega)
        obtain ⟨m, hm0⟩ : ∃ m, rkIn (rkB G x y r) r k j (rkTo (rkB G x y r) r k) = m := ⟨_, rfl⟩
        by_cases hltj : j < 2 * r + 1
        · have huc : u ≤ c := by omega
          rw [hm0] at hM ⊢
          by_cases hjr : u = x
          · by_cases hkr : v = y
            · have HST := Lib.hid (show rkIn (rkB G x y r) r k (j + 1) (rkTo (rkB G x y r) r k) = m by rw [rkIn_skip (by omega), hm0])
              obtain rfl : x = u := hjr.symm
              obtain rfl : y = v := hkr.symm
              have HU := Lib.hid (⟨hu, hv⟩ : _ ∧ _)
              clear e1 e2 e3 e4 hu hv hm0
              go_wp2_with fail
              go_roundw
              case rel => exact ⟨j + 1, x + 1, by omega, by have := HU.out.1; omega, rfl, by rw [HST.out], hE2⟩
              case measure => simp [intOf]; omega
            ·
              obtain rfl : x = u := hjr.symm
              have q2 : (v == y) = false := by simp [hkr]
              have hne : ¬ (j = r ∧ k = r) := fun h => hkr (by omega)
              have hm2 : IntKind.i64.wrap ((m : Int) * 2) = ((2 * m : Nat) : Int) := by rw [show (m : Int) * 2 = ((2 * m : Nat) : Int) by omega]; exact IntWalk.i64_in _ (by omega)
              have hm3 : IntKind.i64.wrap (((2 * m : Nat) : Int) + 1) = ((2 * m + 1 : Nat) : Int) := by rw [show ((2 * m : Nat) : Int) + 1 = ((2 * m + 1 : Nat) : Int) by omega]; exact IntWalk.i64_in _ (by omega)
              have hcmp : (FloatKind.f32.format.order (G x v) (G x y) == some .lt) = rkB G x y r j k := by unfold rkB; rw [show x - (r : Int) + (j : Int) = x by omega, show y - (r : Int) + (k : Int) = v by omega]
              have HU := Lib.hid (⟨hu, hv⟩ : _ ∧ _)
              clear e1 e2 e3 e4 hu hv
              go_wp2_with fail
              with_reducible refine (HA.out _ hE2 x v).mono ?_
              rintro e w3 ⟨rfl, hx3⟩
              replace hE2 := hE2.trans hx3
              clear hx3
              go_wp2_with fail
              with_reducible refine (HA.out _ hE2 x y).mono ?_
              rintro e w4 ⟨rfl, hx4⟩
              replace hE2 := hE2.trans hx4
              clear hx4
              cases hb : rkB G x y r j k with
              | true =>
                have HST := Lib.hid (show rkIn (rkB G x y r) r k (j + 1) (rkTo (rkB G x y r) r k) = 2 * m + 1 by rw [rkIn_step hne, hm0, hb]; rfl)
                rw [hb] at hcmp
                clear hb hne hm0
                go_wp2_with fail
                go_roundw
                case rel => exact ⟨j + 1, x + 1, by omega, by have := HU.out.1; omega, rfl, by rw [HST.out]; go_num, hE2⟩
                case measure => simp [intOf]; omega
              | false =>
                have HST := Lib.hid (show rkIn (rkB G x y r) r k (j + 1) (rkTo (rkB G x y r) r k) = 2 * m by rw [rkIn_step hne, hm0, hb]; rfl)
                rw [hb] at hcmp
                clear hb hne hm0
                go_wp2_with fail
                go_roundw
                case rel => exact ⟨j + 1, x + 1, by omega, by have := HU.out.1; omega, rfl, by rw [HST.out]; go_num, hE2⟩
                case measure => simp [intOf]; omega
          ·
            have q1 : (u == x) = false := by simp [hjr]
            have hne : ¬ (j = r ∧ k = r) := fun h => hjr (by omega)
            have hm2 : IntKind.i64.wrap ((m : Int) * 2) = ((2 * m : Nat) : Int) := by rw [show (m : Int) * 2 = ((2 * m : Nat) : Int) by omega]; exact IntWalk.i64_in _ (by omega)
            have hm3 : IntKind.i64.wrap (((2 * m : Nat) : Int) + 1) = ((2 * m + 1 : Nat) : Int) := by rw [show ((2 * m : Nat) : Int) + 1 = ((2 * m + 1 : Nat) : Int) by omega]; exact IntWalk.i64_in _ (by omega)
            have hcmp : (FloatKind.f32.format.order (G u v) (G x y) == some .lt) = rkB G x y r j k := by unfold rkB; rw [show x - (r : Int) + (j : Int) = u by omega, show y - (r : Int) + (k : Int) = v by omega]
            have HU := Lib.hid (⟨hu, hv⟩ : _ ∧ _)
            clear e1 e2 e3 e4 hu hv
            go_wp2_with fail
            with_reducible refine (HA.out _ hE2 u v).mono ?_
            rintro e w3 ⟨rfl, hx3⟩
            replace hE2 := hE2.trans hx3
            clear hx3
            go_wp2_with fail
            with_reducible refine (HA.out _ hE2 x y).mono ?_
            rintro e w4 ⟨rfl, hx4⟩
            replace hE2 := hE2.trans hx4
            clear hx4
            cases hb : rkB G x y r j k with
            | true =>
              have HST := Lib.hid (show rkIn (rkB G x y r) r k (j + 1) (rkTo (rkB G x y r) r k) = 2 * m + 1 by rw [rkIn_step hne, hm0, hb]; rfl)
              rw [hb] at hcmp
              clear hb hne hm0
              go_wp2_with fail
              go_roundw
              case rel => exact ⟨j + 1, u + 1, by omega, by have := HU.out.1; omega, rfl, by rw [HST.out]; go_num, hE2⟩
              case measure => simp [intOf]; omega
            | false =>
              have HST := Lib.hid (show rkIn (rkB G x y r) r k (j + 1) (rkTo (rkB G x y r) r k) = 2 * m by rw [rkIn_step hne, hm0, hb]; rfl)
              rw [hb] at hcmp
              clear hb hne hm0
              go_wp2_with fail
              go_roundw
              case rel => exact ⟨j + 1, u + 1, by omega, by have := HU.out.1; omega, rfl, by rw [HST.out]; go_num, hE2⟩
              case measure => simp [intOf]; omega
        · have huc : ¬ u ≤ c := by omega
          have e9 : j = 2 * r + 1 := by omega
          have HST := Lib.hid (show rkTo (rkB G x y r) r (k + 1) = m by rw [← hm0, e9]; rfl)
          rw [hm0]
          have HU := Lib.hid hv
          clear e1 e2 e3 e4 hm0 e9 hu hv
          go_wp2_with fail
          go_roundw
          case rel => exact ⟨k + 1, v + 1, by omega, by have := HU.out; omega, rfl, by rw [HST.out], hE2⟩
          case measure => simp [intOf]; omega
    · have hvd : ¬ v ≤ d := by omega
      have e9 : k = 2 * r + 1 := by omega
      have HST := Lib.hid (show rkTo (rkB G x y r) r k = rkTo (rkB G x y r) r (2 * r + 1) by rw [e9])
      clear e1 e2 e3 e4 hv e9
      generalize rkTo (rkB G x y r) r k = q at *
      go_wp2
      go_ret
      exact ⟨by rw [HST.out]; rfl, hE⟩
end Go.Proofs.Ytgpobhpcbgenoaa
