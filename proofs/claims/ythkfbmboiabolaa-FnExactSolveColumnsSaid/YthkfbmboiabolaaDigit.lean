/- Contracts: the numbers of a whole map. -/
import Derived.Test.YthkfbmboiabolaaWholeS
namespace Go.Proofs.Ythkfbmboiabolaa
open Go.RowKit
set_option linter.unusedVariables false

/-- The number that a whole value is. -/
noncomputable def digit (x : Nat) : Nat := vmag x / G74
theorem digit_lt {x dn : Nat} (hx : x < 4294967296) (h0 : 0 < dn) (hd : dn ≤ 8) (h : whole dn x = true) : digit x < dn ∧ floatToIntVal .f32 x .i64 = some ((digit x : Nat) : Int) := by
  obtain ⟨h1, h2⟩ := whole_ge hx h0 hd h
  obtain ⟨_, h3, h4, _⟩ := ge_trunc hx h0 hd h1 h2
  exact ⟨h3, h4⟩
theorem all_at {bs : List Nat} {p : Nat → Bool} {k : Nat} (h : bs.all p = true) (hk : k < bs.length) : p (bs.getD k 0) = true := by
  rw [List.getD_eq_getElem?_getD, List.getElem?_eq_getElem hk]
  exact List.all_eq_true.1 h _ (List.getElem_mem _)
theorem cost_idx {wn hn dn n : Nat} {x y : Int} {e : Nat} (hv : VVol wn hn dn n) (hx : 0 ≤ x ∧ x ≤ (wn : Int) - 1) (hy : 0 ≤ y ∧ y ≤ (hn : Int) - 1) (he : e < dn) :
    x + (wn : Int) * y = (cellN wn x y : Int) ∧ (wn : Int) * y ≤ 256 ∧ 0 ≤ (wn : Int) * y ∧ cellN wn x y < 256 ∧ cellN wn x y * dn + e < n ∧ n ≤ 2048 := by
  have hs := hv.1
  have hb := idx_bound hx.1 hx.2 hy.1 hy.2 hs.1
  have h5 := hs.2.2.2.2
  have h6 : 0 ≤ (wn : Int) * y := Int.mul_nonneg (by omega) hy.1
  have hk : x + (wn : Int) * y = (cellN wn x y : Int) := by unfold cellN; omega
  have hkl : cellN wn x y < wn * hn := by
    have : ((wn * hn : Nat) : Int) = (wn : Int) * (hn : Int) := by simp
    omega
  have hnn : n = wn * hn * dn := by
    have h7 := hv.2.2.2
    have : ((wn * hn * dn : Nat) : Int) = (wn : Int) * (hn : Int) * (dn : Int) := by simp
    omega
  have h8 : (cellN wn x y + 1) * dn ≤ wn * hn * dn := Nat.mul_le_mul_right _ hkl
  rw [Nat.succ_mul] at h8
  have hwh : wn * hn ≤ 256 := by
    have : ((wn * hn : Nat) : Int) = (wn : Int) * (hn : Int) := by simp
    omega
  have h9 : wn * hn * dn ≤ 256 * 8 := Nat.mul_le_mul hwh (by have := hv.2.2.1; omega)
  exact ⟨hk, by omega, h6, by omega, by omega, by omega⟩
theorem l04Cost_any (g wn hn dn gb off n c : Nat) (bs : List Nat) (x y : Int) (e : Nat) (U : World) (hB : Box4 U g (.int .i64 wn) (.int .i64 hn) (.int .i64 dn) (.slice (some ⟨gb, off, none⟩) n c)) (hl : Lies U gb off bs) (hlen : bs.length = n) (hv : VVol wn hn dn n) (hx : 0 ≤ x ∧ x ≤ (wn : Int) - 1) (hy : 0 ≤ y ∧ y ≤ (hn : Int) - 1) (he : e < dn) :
    Calls Try.prog 47 #[.pointer (some ⟨g, 0, none⟩), .int .i64 x, .int .i64 y, .int .i64 e] U fun e' U' => e' = .returned (.float .f32 (bs.getD (cellN wn x y * dn + e) 0)) ∧ Ext U U' := by
  obtain ⟨hk, hm1, hm0, hk256, hkn, hn2⟩ := cost_idx hv hx hy he
  have hd8 : dn ≤ 8 := by have := hv.2.2.1; omega
  obtain ⟨m, hm⟩ : ∃ m, (wn : Int) * y = m := ⟨_, rfl⟩
  rw [hm] at hk hm1 hm0
  generalize cellN wn x y = k at hk hk256 hkn ⊢
  obtain ⟨kd, hkd⟩ : ∃ kd, k * dn = kd := ⟨_, rfl⟩
  rw [hkd] at hkn ⊢
  obtain ⟨q, hq⟩ : ∃ q, kd + e = q := ⟨_, rfl⟩
  rw [hq] at hkn ⊢
  have hw0 : IntKind.i64.wrap ((wn : Int) * y) = m := by rw [hm]; exact wrap_small _ (by omega) (by omega)
  have hw1 : IntKind.i64.wrap (x + m) = (k : Int) := by rw [hk]; exact wrap_small _ (by omega) (by omega)
  have hw2 : IntKind.i64.wrap ((k : Int) * (dn : Int)) = (kd : Int) := by
    rw [show (k : Int) * (dn : Int) = (kd : Int) by rw [← hkd]; simp]; exact wrap_small _ (by omega) (by omega)
  have hw3 : IntKind.i64.wrap ((kd : Int) + (e : Int)) = (q : Int) := by rw [show (kd : Int) + (e : Int) = (q : Int) by omega]; exact wrap_small _ (by omega) (by omega)
  have hc := hl q (by rw [hlen]; exact hkn)
  have hk0 : (0 : Int) ≤ (q : Int) := by omega
  have hk1 : (q : Int) < (n : Int) := by omega
  generalize bs.getD q 0 = v at hc ⊢
  obtain ⟨p0, p1, p2, p3⟩ := hB
  clear hl hlen hv hm hkd hq hk
  go_enter Try.func47, Try.ntmps47
  go_wp2_with fail
  refine region_wx 21 [] (by kernel_rfl) (by kernel_rfl) ?_
  simp only [List.take_succ_cons, List.take_zero, List.drop_succ_cons, List.drop_zero]
  repeat ((first | refine wx_skip rfl ?_ | refine wx_nilCheck rfl rfl _ rfl _ rfl ?_ | (refine wx_float rfl rfl _ _ _ _ _ _ _ rfl rfl rfl rfl ?_; intro r hr) | (refine wx_k rfl rfl rfl (fun K hK => ?_); go_big_quiet_op; refine hK _ ?_; clear hK K) ); (try simp only [Act.put, List.setIfInBounds_toArray, List.set_cons_zero, List.set_cons_succ]); (try simp only [List.tail_nil]))
  refine wx_nil (fun W hW hF => ?_)
  go_wp2
  go_ret
  exact ⟨rfl, hW⟩
end Go.Proofs.Ythkfbmboiabolaa
