/- Contracts: reading maps, pictures and volumes that lie in a box. -/
import Derived.Test.YtgpobhpcbgenoaaValid
import Derived.Test.YtgpobhpcbgenoaaKit
namespace Go.Proofs.Ytgpobhpcbgenoaa
open Go.RowKit
set_option linter.unusedVariables false

theorem at_any (g : Nat) (w h : Int) (A : Option Addr) (n c : Nat) (bs : List Nat) (x y : Int) (k : Nat) (U : World) (hB : Box3 U g (.int .i64 w) (.int .i64 h) (.slice A n c)) (hr : Reads U A n bs) (hn : n ≤ maxLen)
    (hk : x + w * y = k) (hkn : k < n) (hw : IntKind.i64.wrap (w * y) = w * y) :
    Calls Try.prog 103 #[.pointer (some ⟨g, 0, none⟩), .int .i64 x, .int .i64 y] U fun e U' => e = .returned (.float .f32 (bs.getD k 0)) ∧ Ext U U' := by
  unfold maxLen at hn
  obtain ⟨gb, off, rfl, hl⟩ := hr.2 (by omega)
  have hc := hl k (by rw [hr.1]; exact hkn)
  obtain ⟨h0, h1, h2⟩ := hB
  have hw2 : IntKind.i64.wrap (x + w * y) = k := by rw [hk]; exact IntWalk.i64_in _ (by omega)
  have hk0 : (0 : Int) ≤ (k : Int) := by omega
  have hk1 : (k : Int) < (n : Int) := by omega
  generalize bs.getD k 0 = v at hc ⊢
  clear hl hr hk
  go_enter Try.func103, Try.ntmps103
  go_wp2_with fail
  refine region_wx 14 [] (by kernel_rfl) (by kernel_rfl) ?_
  simp only [List.take_succ_cons, List.take_zero, List.drop_succ_cons, List.drop_zero]
  repeat ((first | refine wx_skip rfl ?_ | refine wx_nilCheck rfl rfl _ rfl _ rfl ?_ | (refine wx_float rfl rfl _ _ _ _ _ _ _ rfl rfl rfl rfl ?_; intro r hr) | (refine wx_k rfl rfl rfl (fun K hK => ?_); go_big_quiet_op; refine hK _ ?_; clear hK K) ); (try simp only [Act.put, List.setIfInBounds_toArray, List.set_cons_zero, List.set_cons_succ]); (try simp only [List.tail_nil]))
  refine wx_nil (fun W hW hF => ?_)
  go_wp2
  go_ret
  exact ⟨rfl, hW⟩
theorem mapHas_yes (g : Nat) (w h x y : Int) (U : World) (h0 : U.cell? ⟨g, 0, none⟩ = some (.int .i64 w)) (h1 : U.cell? ⟨g, 1, none⟩ = some (.int .i64 h)) (hs : Sz w h) (hx : 0 ≤ x ∧ x ≤ w - 1) (hy : 0 ≤ y ∧ y ≤ h - 1) :
    Calls Try.prog 55 #[.pointer (some ⟨g, 0, none⟩), .int .i64 x, .int .i64 y] U fun e U' => e = .returned (.bool true) ∧ U = U' := by
  have hw : IntKind.i64.wrap (w - 1) = w - 1 := wrap_small _ (by have := hs.1; omega) (by have := hs.2.1; omega)
  have hh : IntKind.i64.wrap (h - 1) = h - 1 := wrap_small _ (by have := hs.2.2.1; omega) (by have := hs.2.2.2.1; omega)
  clear hs
  have HX := Lib.hid hx
  have HY := Lib.hid hy
  clear hx hy
  go_enter Try.func55, Try.ntmps55
  go_wp2_with (go_at_call 67; (first | with_reducible refine (implIn_yes x 0 (w - 1) _ HX.out.1 HX.out.2).mono ?_ | with_reducible refine (implIn_yes y 0 (h - 1) _ HY.out.1 HY.out.2).mono ?_); rintro e w' ⟨rfl, rfl⟩)
  go_ret
  exact ⟨rfl, rfl⟩
theorem mapHas_no1 (g : Nat) (w h x y : Int) (U : World) (h0 : U.cell? ⟨g, 0, none⟩ = some (.int .i64 w)) (h1 : U.cell? ⟨g, 1, none⟩ = some (.int .i64 h)) (hs : Sz w h) (hx : x < 0 ∨ w - 1 < x) :
    Calls Try.prog 55 #[.pointer (some ⟨g, 0, none⟩), .int .i64 x, .int .i64 y] U fun e U' => e = .returned (.bool false) ∧ U = U' := by
  have hw : IntKind.i64.wrap (w - 1) = w - 1 := wrap_small _ (by have := hs.1; omega) (by have := hs.2.1; omega)
  have hh : IntKind.i64.wrap (h - 1) = h - 1 := wrap_small _ (by have := hs.2.2.1; omega) (by have := hs.2.2.2.1; omega)
  clear hs
  have HX := Lib.hid hx
  clear hx
  go_enter Try.func55, Try.ntmps55
  go_wp2_with (go_at_call 67; (refine (implIn_no x 0 (w - 1) _ HX.out).mono ?_); rintro e w' ⟨rfl, rfl⟩)
  go_ret
  exact ⟨rfl, rfl⟩
theorem mapHas_no2 (g : Nat) (w h x y : Int) (U : World) (h0 : U.cell? ⟨g, 0, none⟩ = some (.int .i64 w)) (h1 : U.cell? ⟨g, 1, none⟩ = some (.int .i64 h)) (hs : Sz w h) (hx : 0 ≤ x ∧ x ≤ w - 1) (hy : y < 0 ∨ h - 1 < y) :
    Calls Try.prog 55 #[.pointer (some ⟨g, 0, none⟩), .int .i64 x, .int .i64 y] U fun e U' => e = .returned (.bool false) ∧ U = U' := by
  have hw : IntKind.i64.wrap (w - 1) = w - 1 := wrap_small _ (by have := hs.1; omega) (by have := hs.2.1; omega)
  have hh : IntKind.i64.wrap (h - 1) = h - 1 := wrap_small _ (by have := hs.2.2.1; omega) (by have := hs.2.2.2.1; omega)
  clear hs
  have HX := Lib.hid hx
  have HY := Lib.hid hy
  clear hx hy
  go_enter Try.func55, Try.ntmps55
  go_wp2_with (go_at_call 67; (first | with_reducible refine (implIn_yes x 0 (w - 1) _ HX.out.1 HX.out.2).mono ?_ | with_reducible refine (implIn_no y 0 (h - 1) _ HY.out).mono ?_); rintro e w' ⟨rfl, rfl⟩)
  go_ret
  exact ⟨rfl, rfl⟩
theorem mapHas_no (g : Nat) (w h x y : Int) (U : World) (h0 : U.cell? ⟨g, 0, none⟩ = some (.int .i64 w)) (h1 : U.cell? ⟨g, 1, none⟩ = some (.int .i64 h)) (hs : Sz w h) (hn : ¬ ((0 ≤ x ∧ x ≤ w - 1) ∧ 0 ≤ y ∧ y ≤ h - 1)) :
    Calls Try.prog 55 #[.pointer (some ⟨g, 0, none⟩), .int .i64 x, .int .i64 y] U fun e U' => e = .returned (.bool false) ∧ U = U' := by
  by_cases hx : 0 ≤ x ∧ x ≤ w - 1
  · exact mapHas_no2 g w h x y U h0 h1 hs hx (by omega)
  · exact mapHas_no1 g w h x y U h0 h1 hs (by omega)
/-- The nearest place within. -/
def clampI (n m : Int) : Int := max 0 (min n (m - 1))
theorem clampI_bounds (n : Int) {m : Int} (h : 1 ≤ m) : 0 ≤ clampI n m ∧ clampI n m ≤ m - 1 := by unfold clampI; omega
theorem clampI_in {n m : Int} (h0 : 0 ≤ n) (h1 : n ≤ m - 1) : clampI n m = n := by unfold clampI; omega
theorem idx_bound {w h x y : Int} (hx0 : 0 ≤ x) (hx1 : x ≤ w - 1) (hy0 : 0 ≤ y) (hy1 : y ≤ h - 1) (hw : 1 ≤ w) : 0 ≤ x + w * y ∧ x + w * y < w * h ∧ 0 ≤ w * y ∧ w * y ≤ w * h := by
  have h1 : 0 ≤ w * y := Int.mul_nonneg (by omega) hy0
  have h2 : w * y ≤ w * (h - 1) := Int.mul_le_mul_of_nonneg_left hy1 (by omega)
  rw [Int.mul_sub, Int.mul_one] at h2
  omega
/-- The number of a cell. -/
def cellN (w x y : Int) : Nat := (x + w * y).toNat
theorem cellN_eq {w h x y : Int} {n : Nat} (hv : VMap w h n) (hx0 : 0 ≤ x) (hx1 : x ≤ w - 1) (hy0 : 0 ≤ y) (hy1 : y ≤ h - 1) : x + w * y = (cellN w x y : Int) ∧ cellN w x y < n ∧ IntKind.i64.wrap (w * y) = w * y := by
  have hb := idx_bound hx0 hx1 hy0 hy1 hv.1.1
  have h5 := hv.1.2.2.2.2
  have h6 := hv.2
  unfold cellN
  refine ⟨by omega, by omega, wrap_small _ (by omega) (by omega)⟩
theorem clamp_any (n m : Int) (U : World) (h0 : 1 ≤ m) (h1 : m ≤ 24) :
    Calls Try.prog 72 #[.int .i64 n, .int .i64 m] U fun e U' => e = .returned (.int .i64 (clampI n m)) ∧ U = U' := by
  have hw : IntKind.i64.wrap (m - 1) = m - 1 := wrap_small _ (by omega) (by omega)
  unfold clampI
  go_enter Try.func72, Try.ntmps72
  go_wp2
  all_goals (go_ret; exact ⟨congrArg (fun i => Ending.returned (.int .i64 i)) (by omega), rfl⟩)
theorem l00Max_any (a b : Int) (U : World) :
    Calls Try.prog 65 #[.int .i64 a, .int .i64 b] U fun e U' => e = .returned (.int .i64 (max a b)) ∧ U = U' := by
  by_cases h : b < a
  · have hm : max a b = a := by omega
    rw [hm]
    go_enter Try.func65, Try.ntmps65
    go_wp2
    go_ret
    exact ⟨rfl, rfl⟩
  · have hm : max a b = b := by omega
    rw [hm]
    go_enter Try.func65, Try.ntmps65
    go_wp2
    go_ret
    exact ⟨rfl, rfl⟩
theorem l00Min_any (a b : Int) (U : World) :
    Calls Try.prog 120 #[.int .i64 a, .int .i64 b] U fun e U' => e = .returned (.int .i64 (min a b)) ∧ U = U' := by
  by_cases h : a < b
  · have hm : min a b = a := by omega
    rw [hm]
    go_enter Try.func120, Try.ntmps120
    go_wp2
    go_ret
    exact ⟨rfl, rfl⟩
  · have hm : min a b = b := by omega
    rw [hm]
    go_enter Try.func120, Try.ntmps120
    go_wp2
    go_ret
    exact ⟨rfl, rfl⟩
set_option maxHeartbeats 1000000 in
theorem about_any (g : Nat) (w h : Int) (A : Option Addr) (n c : Nat) (bs : List Nat) (x y : Int) (U : World) (hB : Box3 U g (.int .i64 w) (.int .i64 h) (.slice A n c)) (hr : Reads U A n bs) (hv : VMap w h n) :
    Calls Try.prog 82 #[.pointer (some ⟨g, 0, none⟩), .int .i64 x, .int .i64 y] U fun e U' => e = .returned (.float .f32 (bs.getD (cellN w (clampI x w) (clampI y h)) 0)) ∧ Ext U U' := by
  have hb1 := clampI_bounds x hv.1.1
  have hb2 := clampI_bounds y hv.1.2.2.1
  obtain ⟨hk, hkn, hw⟩ := cellN_eq hv hb1.1 hb1.2 hb2.1 hb2.2
  have hn : n ≤ 256 := by have := hv.2; have := hv.1.2.2.2.2; omega
  obtain ⟨gb, off, rfl, hl⟩ := hr.2 (by omega)
  have hc := hl _ (by rw [hr.1]; exact hkn)
  obtain ⟨h0, h1, h2⟩ := hB
  have hsz : (1 ≤ w ∧ w ≤ 24) ∧ 1 ≤ h ∧ h ≤ 24 := ⟨⟨hv.1.1, hv.1.2.1⟩, hv.1.2.2.1, hv.1.2.2.2.1⟩
  generalize hkk : cellN w (clampI x w) (clampI y h) = k at *
  have hw2 : IntKind.i64.wrap (clampI x w + w * clampI y h) = k := by rw [hk]; exact IntWalk.i64_in _ (by omega)
  have hk0 : (0 : Int) ≤ (k : Int) := by omega
  have hk1 : (k : Int) < (n : Int) := by omega
  generalize bs.getD k 0 = v at hc ⊢
  have hcx : ∀ U, Calls Try.prog 72 #[.int .i64 x, .int .i64 w] U fun e U' => e = .returned (.int .i64 (clampI x w)) ∧ U = U' := fun U => clamp_any x w U hsz.1.1 hsz.1.2
  have hcy : ∀ U, Calls Try.prog 72 #[.int .i64 y, .int .i64 h] U fun e U' => e = .returned (.int .i64 (clampI y h)) ∧ U = U' := fun U => clamp_any y h U hsz.2.1 hsz.2.2
  generalize clampI x w = cx at *
  generalize clampI y h = cy at *
  have HCX := Lib.hid hcx
  have HCY := Lib.hid hcy
  clear hl hr hk hv hb1 hb2 hkk hsz hcx hcy
  go_enter Try.func82, Try.ntmps82
  go_wp2_with fail
  refine region_wx 24 [] (by kernel_rfl) (by kernel_rfl) ?_
  simp only [List.take_succ_cons, List.take_zero, List.drop_succ_cons, List.drop_zero]
  repeat ((first | refine wx_skip rfl ?_ | refine wx_nilCheck rfl rfl _ rfl _ rfl ?_ | (refine wx_float rfl rfl _ _ _ _ _ _ _ rfl rfl rfl rfl ?_; intro r hr) | (refine wx_k rfl rfl rfl (fun K hK => ?_); go_big_quiet_op; refine hK _ ?_; clear hK K) | (refine wx_call rfl rfl 72 _ _ rfl (by kernel_rfl) (by kernel_rfl) (.int .i64 cx) (fun W hW hF => ?_) ?_; go_simp; (with_reducible refine (callsExt (HCX.out W)).mono ?_); rintro e w' h; exact h) | (refine wx_call rfl rfl 72 _ _ rfl (by kernel_rfl) (by kernel_rfl) (.int .i64 cy) (fun W hW hF => ?_) ?_; go_simp; (with_reducible refine (callsExt (HCY.out W)).mono ?_); rintro e w' h; exact h)); (try simp only [Act.put, List.setIfInBounds_toArray, List.set_cons_zero, List.set_cons_succ]); (try simp only [List.tail_nil]))
  refine wx_nil (fun W hW hF => ?_)
  go_wp2
  go_ret
  exact ⟨rfl, hW⟩
set_option maxHeartbeats 1000000 in
theorem l02At_any (g : Nat) (w h : Int) (A : Option Addr) (n c : Nat) (bs : List Nat) (x y : Int) (U : World) (hB : Box3 U g (.int .i64 w) (.int .i64 h) (.slice A n c)) (hr : Reads U A n bs) (hv : VMap w h n) :
    Calls Try.prog 107 #[.pointer (some ⟨g, 0, none⟩), .int .i64 x, .int .i64 y] U fun e U' => e = .returned (.float .f32 (bs.getD (cellN w (clampI x w) (clampI y h)) 0)) ∧ Ext U U' := by
  have hb1 := clampI_bounds x hv.1.1
  have hb2 := clampI_bounds y hv.1.2.2.1
  obtain ⟨hk, hkn, hw⟩ := cellN_eq hv hb1.1 hb1.2 hb2.1 hb2.2
  have hn : n ≤ 256 := by have := hv.2; have := hv.1.2.2.2.2; omega
  obtain ⟨gb, off, rfl, hl⟩ := hr.2 (by omega)
  have hc := hl _ (by rw [hr.1]; exact hkn)
  obtain ⟨h0, h1, h2⟩ := hB
  have hsz : (1 ≤ w ∧ w ≤ 24) ∧ 1 ≤ h ∧ h ≤ 24 := ⟨⟨hv.1.1, hv.1.2.1⟩, hv.1.2.2.1, hv.1.2.2.2.1⟩
  generalize hkk : cellN w (clampI x w) (clampI y h) = k at *
  have hw2 : IntKind.i64.wrap (clampI x w + w * clampI y h) = k := by rw [hk]; exact IntWalk.i64_in _ (by omega)
  have hk0 : (0 : Int) ≤ (k : Int) := by omega
  have hk1 : (k : Int) < (n : Int) := by omega
  generalize bs.getD k 0 = v at hc ⊢
  have e1 : max 0 (min (w - 1) x) = clampI x w := by unfold clampI; omega
  have e2 : max 0 (min (h - 1) y) = clampI y h := by unfold clampI; omega
  have hw1 : IntKind.i64.wrap (w - 1) = w - 1 := wrap_small _ (by omega) (by omega)
  have hh1 : IntKind.i64.wrap (h - 1) = h - 1 := wrap_small _ (by omega) (by omega)
  have hmx : ∀ U, Calls Try.prog 65 #[.int .i64 0, .int .i64 (min (w - 1) x)] U fun e U' => e = .returned (.int .i64 (clampI x w)) ∧ U = U' := fun U => by rw [← e1]; exact l00Max_any _ _ U
  have hmy : ∀ U, Calls Try.prog 65 #[.int .i64 0, .int .i64 (min (h - 1) y)] U fun e U' => e = .returned (.int .i64 (clampI y h)) ∧ U = U' := fun U => by rw [← e2]; exact l00Max_any _ _ U
  have hnx : ∀ U, Calls Try.prog 120 #[.int .i64 (w - 1), .int .i64 x] U fun e U' => e = .returned (.int .i64 (min (w - 1) x)) ∧ U = U' := fun U => l00Min_any _ _ U
  have hny : ∀ U, Calls Try.prog 120 #[.int .i64 (h - 1), .int .i64 y] U fun e U' => e = .returned (.int .i64 (min (h - 1) y)) ∧ U = U' := fun U => l00Min_any _ _ U
  clear e1 e2
  generalize clampI x w = cx at *
  generalize clampI y h = cy at *
  generalize min (w - 1) x = mx at *
  generalize min (h - 1) y = my at *
  have HMX := Lib.hid hmx
  have HMY := Lib.hid hmy
  have HNX := Lib.hid hnx
  have HNY := Lib.hid hny
  clear hl hr hk hv hb1 hb2 hkk hsz hmx hmy hnx hny
  go_enter Try.func107, Try.ntmps107
  go_wp2_with (first | (go_at_call 120; with_reducible refine (HNX.out _).mono ?_; rintro e w' ⟨rfl, rfl⟩) | (go_at_call 65; with_reducible refine (HMX.out _).mono ?_; rintro e w' ⟨rfl, rfl⟩))
  refine region_wx 21 [] (by kernel_rfl) (by kernel_rfl) ?_
  simp only [List.take_succ_cons, List.take_zero, List.drop_succ_cons, List.drop_zero]
  repeat ((first | refine wx_skip rfl ?_ | refine wx_nilCheck rfl rfl _ rfl _ rfl ?_ | (refine wx_float rfl rfl _ _ _ _ _ _ _ rfl rfl rfl rfl ?_; intro r hr) | (refine wx_k rfl rfl rfl (fun K hK => ?_); go_big_quiet_op; refine hK _ ?_; clear hK K) | (refine wx_call rfl rfl 120 _ _ rfl (by kernel_rfl) (by kernel_rfl) (.int .i64 my) (fun W hW hF => ?_) ?_; go_simp; (with_reducible refine (callsExt (HNY.out W)).mono ?_); rintro e w' h; exact h) | (refine wx_call rfl rfl 65 _ _ rfl (by kernel_rfl) (by kernel_rfl) (.int .i64 cy) (fun W hW hF => ?_) ?_; go_simp; (with_reducible refine (callsExt (HMY.out W)).mono ?_); rintro e w' h; exact h)); (try simp only [Act.put, List.setIfInBounds_toArray, List.set_cons_zero, List.set_cons_succ]); (try simp only [List.tail_nil]))
  refine wx_nil (fun W hW hF => ?_)
  go_wp2
  go_ret
  exact ⟨rfl, hW⟩
end Go.Proofs.Ytgpobhpcbgenoaa
