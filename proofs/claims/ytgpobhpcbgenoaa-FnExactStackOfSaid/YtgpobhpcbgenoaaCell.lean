/- Reading a cell of a volume: the place is told. -/
import Derived.Test.YtgpobhpcbgenoaaVols
import Derived.Test.YtgpobhpcbgenoaaVolOf
import Derived.Test.YtgpobhpcbgenoaaNew
import Derived.Test.YtgpobhpcbgenoaaFin
namespace Go.Proofs.Ytgpobhpcbgenoaa
open Go.RowKit
set_option linter.unusedVariables false

/-- The number of a cell, of a right volume. -/
theorem vcell {w h x y : Int} {dn n : Nat} (hv : VVol w h dn n) (hx : 0 ≤ x ∧ x ≤ w - 1) (hy : 0 ≤ y ∧ y ≤ h - 1) :
    ∃ q : Nat, x + w * y = q ∧ q * dn + dn ≤ n ∧ IntKind.i64.wrap (w * y) = w * y ∧ IntKind.i64.wrap (x + w * y) = q ∧ q ≤ 256 ∧ q * dn ≤ 2048 ∧ cellN w x y = q := by
  have hb := idx_bound hx.1 hx.2 hy.1 hy.2 hv.1.1
  have h5 := hv.1.2.2.2.2
  have h6 := hv.2.2.2
  have h7 := hv.2.2.1
  refine ⟨(x + w * y).toNat, by omega, ?_, wrap_small _ (by omega) (by omega), ?_, by omega, ?_, rfl⟩
  · have h8 : (((x + w * y).toNat : Nat) : Int) = x + w * y := by omega
    have h9 : ((x + w * y) + 1) * (dn : Int) ≤ w * h * (dn : Int) := Int.mul_le_mul_of_nonneg_right (by omega) (by omega)
    rw [← h6, Int.add_mul, Int.one_mul, ← h8] at h9
    have h10 : (((x + w * y).toNat * dn : Nat) : Int) = ((x + w * y).toNat : Int) * (dn : Int) := by simp
    omega
  · rw [show (((x + w * y).toNat : Nat) : Int) = x + w * y by omega]; exact wrap_small _ (by omega) (by omega)
  · exact Nat.le_trans (Nat.mul_le_mul (show (x + w * y).toNat ≤ 256 by omega) (show dn ≤ 8 by omega)) (by omega)
theorem cell_k {w h x y : Int} {dn n : Nat} (hv : VVol w h dn n) (hx : 0 ≤ x ∧ x ≤ w - 1) (hy : 0 ≤ y ∧ y ≤ h - 1) : cellN w x y * dn + dn ≤ n := by
  obtain ⟨q, h1, h2, h3, h4, h5, h6, h7⟩ := vcell hv hx hy
  rw [h7]; exact h2
theorem cellN_nat (wn x y : Nat) : cellN wn x y = x + wn * y := by
  unfold cellN
  have : ((x : Int) + (wn : Int) * (y : Int)) = ((x + wn * y : Nat) : Int) := by simp
  rw [this]; rfl
theorem sub_getD (bs : List Nat) (k d e : Nat) (he : e < d) : ((bs.drop k).take d).getD e 0 = bs.getD (k + e) 0 := by
  simp [List.getD_eq_getElem?_getD, he, List.getElem?_drop]
theorem wd_at {bs : List Nat} (hw : Words bs) (k : Nat) : bs.getD k 0 < 4294967296 := by
  by_cases h : k < bs.length
  · rw [List.getD_eq_getElem?_getD, List.getElem?_eq_getElem h]; exact hw _ (List.getElem_mem h)
  · rw [List.getD_eq_getElem?_getD, List.getElem?_eq_none (by omega)]; exact by decide
set_option maxHeartbeats 1000000 in
theorem cellC_any (g : Nat) (w h : Int) (dn gb off n c : Nat) (x y : Int) (U : World) (hB : Box4 U g (.int .i64 w) (.int .i64 h) (.int .i64 dn) (.slice (some ⟨gb, off, none⟩) n c)) (hnc : n ≤ c) (hcm : c ≤ maxLen)
    (hv : VVol w h dn n) (hx : 0 ≤ x ∧ x ≤ w - 1) (hy : 0 ≤ y ∧ y ≤ h - 1) :
    Calls Try.prog 54 #[.pointer (some ⟨g, 0, none⟩), .int .i64 x, .int .i64 y] U fun e U' => e = .returned (.slice (some ⟨gb, off + cellN w x y * dn, none⟩) dn dn) ∧ Ext U U' := by
  unfold maxLen at hcm
  obtain ⟨q, h1, hkn, hw, hw1, hq1, hq2, hcn⟩ := vcell hv hx hy
  rw [hcn]
  obtain ⟨k, hk⟩ : ∃ k, q * dn = k := ⟨_, rfl⟩
  rw [hk] at hkn ⊢
  obtain ⟨c0, c1, c2, c3⟩ := hB
  have hw2 : IntKind.i64.wrap ((q : Int) * (dn : Int)) = k := by
    have : (q : Int) * (dn : Int) = (k : Int) := by rw [← hk]; simp
    rw [this]; exact IntWalk.i64_in _ (by omega)
  have hw3 : IntKind.i64.wrap ((k : Int) + (dn : Int)) = (k : Int) + (dn : Int) := IntWalk.i64_in _ (by omega)
  have b0 : (0 : Int) ≤ (k : Int) := by omega
  have b1 : (k : Int) ≤ (k : Int) + (dn : Int) := by omega
  have b2 : (k : Int) + (dn : Int) ≤ (c : Int) := by omega
  have hw1' : IntKind.i64.wrap (x + w * y) = (q : Int) := hw1
  have hd0 : 0 < dn := by have := hv.2.1; omega
  clear h1 hk hv hx hy hcn hw1 hq2
  go_enter Try.func54, Try.ntmps54
  go_wp2_with fail
  refine region_wx 13 [] (by kernel_rfl) (by kernel_rfl) ?_
  simp only [List.take_succ_cons, List.take_zero, List.drop_succ_cons, List.drop_zero]
  repeat ((first | refine wx_skip rfl ?_ | refine wx_nilCheck rfl rfl _ rfl _ rfl ?_ | (refine wx_float rfl rfl _ _ _ _ _ _ _ rfl rfl rfl rfl ?_; intro r hr) | (refine wx_k rfl rfl rfl (fun K hK => ?_); go_big_quiet_op; refine hK _ ?_; clear hK K) ); (try simp only [Act.put, List.setIfInBounds_toArray, List.set_cons_zero, List.set_cons_succ]); (try simp only [List.tail_nil]))
  refine wx_nil (fun W hW hF => ?_)
  replace c0 := cell_ext c0 hW
  replace c1 := cell_ext c1 hW
  replace c2 := cell_ext c2 hW
  replace c3 := cell_ext c3 hW
  have hE := hW
  clear hW hF
  rename_i W1
  go_wp2_with fail
  refine region_wx 18 [] (by kernel_rfl) (by kernel_rfl) ?_
  simp only [List.take_succ_cons, List.take_zero, List.drop_succ_cons, List.drop_zero]
  repeat ((first | refine wx_skip rfl ?_ | refine wx_nilCheck rfl rfl _ rfl _ rfl ?_ | (refine wx_float rfl rfl _ _ _ _ _ _ _ rfl rfl rfl rfl ?_; intro r hr) | (refine wx_k rfl rfl rfl (fun K hK => ?_); go_big_quiet_op; refine hK _ ?_; clear hK K) ); (try simp only [Act.put, List.setIfInBounds_toArray, List.set_cons_zero, List.set_cons_succ]); (try simp only [List.tail_nil]))
  refine wx_nil (fun W hW hF => ?_)
  go_wp2
  go_ret
  exact ⟨by rw [Nat.add_sub_cancel_left]; rfl, hE.trans hW⟩
end Go.Proofs.Ytgpobhpcbgenoaa
