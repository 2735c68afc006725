/- Contracts: reading volumes that lie in a box. -/
import Derived.Test.YtgpobhpcbgenoaaMaps
namespace Go.Proofs.Ytgpobhpcbgenoaa
open Go.RowKit
set_option linter.unusedVariables false

theorem Reads.sub {U : World} {gb off n : Nat} {bs : List Nat} (hl : Lies U gb off bs) (hn : bs.length = n) (k d : Nat) (hk : k + d ≤ n) : Reads U (some ⟨gb, off + k, none⟩) d ((bs.drop k).take d) := by
  refine ⟨by simp; omega, fun _ => ⟨gb, off + k, rfl, fun i hi => ?_⟩⟩
  have hi' : i < d := by simp at hi; omega
  have := hl (k + i) (by omega)
  rw [Nat.add_assoc, this]
  congr 2
  simp [List.getD_eq_getElem?_getD, hi', List.getElem?_drop]

set_option maxHeartbeats 1000000 in
theorem cell_any (g : Nat) (w h : Int) (dn : Nat) (A : Option Addr) (n c : Nat) (bs : List Nat) (x y : Int) (q k : Nat) (U : World) (hB : Box4 U g (.int .i64 w) (.int .i64 h) (.int .i64 dn) (.slice A n c)) (hr : Reads U A n bs) (hnc : n ≤ c) (hcm : c ≤ maxLen)
    (h1 : x + w * y = q) (hk : q * dn = k) (hkn : k + dn ≤ n) (hd : 0 < dn) (hw : IntKind.i64.wrap (w * y) = w * y) :
    Calls Try.prog 54 #[.pointer (some ⟨g, 0, none⟩), .int .i64 x, .int .i64 y] U fun e U' => ∃ a, e = .returned (.slice (some a) dn dn) ∧ Reads U' (some a) dn ((bs.drop k).take dn) ∧ Ext U U' := by
  unfold maxLen at hcm
  obtain ⟨gb, off, rfl, hl⟩ := hr.2 (by omega)
  have hrd : Reads U (some ⟨gb, off + k, none⟩) dn ((bs.drop k).take dn) := Reads.sub hl hr.1 k dn hkn
  obtain ⟨c0, c1, c2, c3⟩ := hB
  have hqd : q ≤ k := by rw [← hk]; exact Nat.le_mul_of_pos_right q hd
  have hw1 : IntKind.i64.wrap (x + w * y) = q := by rw [h1]; exact IntWalk.i64_in _ (by omega)
  have hw2 : IntKind.i64.wrap ((q : Int) * (dn : Int)) = k := by
    have : (q : Int) * (dn : Int) = (k : Int) := by rw [← hk]; simp
    rw [this]; exact IntWalk.i64_in _ (by omega)
  have hw3 : IntKind.i64.wrap ((k : Int) + (dn : Int)) = (k : Int) + (dn : Int) := IntWalk.i64_in _ (by omega)
  have b0 : (0 : Int) ≤ (k : Int) := by omega
  have b1 : (k : Int) ≤ (k : Int) + (dn : Int) := by omega
  have b2 : (k : Int) + (dn : Int) ≤ (c : Int) := by omega
  have HRD := Lib.hid hrd
  clear hl hr hrd h1 hk hqd
  go_enter Try.func54, Try.ntmps54
  go_wp2_with fail
  refine region_wx 13 [] (by kernel_rfl) (by kernel_rfl) ?_
  simp only [List.take_succ_cons, List.take_zero, List.drop_succ_cons, List.drop_zero]
  repeat ((first | refine wx_skip rfl ?_ | refine wx_nilCheck rfl rfl _ rfl _ rfl ?_ | (refine wx_float rfl rfl _ _ _ _ _ _ _ rfl rfl rfl rfl ?_; intro r hr) | (refine wx_k rfl rfl rfl (fun K hK => ?_); go_big_quiet_op; refine hK _ ?_; clear hK K) ); (try simp only [Act.put, List.setIfInBounds_toArray, List.set_cons_zero, List.set_cons_succ]); (try simp only [List.tail_nil]))
  refine wx_nil (fun W hW hF => ?_)
  replace c0 := cell_ext c0 hW
  replace c1 := cell_ext c1 hW
  replace c2 := cell_ext c2 hW
  replace c3 := cell_ext c3 hW
  have hE := hW
  clear hW hF
  rename_i W1
  go_wp2_with fail
  refine region_wx 18 [] (by kernel_rfl) (by kernel_rfl) ?_
  simp only [List.take_succ_cons, List.take_zero, List.drop_succ_cons, List.drop_zero]
  repeat ((first | refine wx_skip rfl ?_ | refine wx_nilCheck rfl rfl _ rfl _ rfl ?_ | (refine wx_float rfl rfl _ _ _ _ _ _ _ rfl rfl rfl rfl ?_; intro r hr) | (refine wx_k rfl rfl rfl (fun K hK => ?_); go_big_quiet_op; refine hK _ ?_; clear hK K) ); (try simp only [Act.put, List.setIfInBounds_toArray, List.set_cons_zero, List.set_cons_succ]); (try simp only [List.tail_nil]))
  refine wx_nil (fun W hW hF => ?_)
  go_wp2
  go_ret
  exact ⟨⟨gb, off + k, none⟩, by rw [Nat.add_sub_cancel_left]; rfl, HRD.out.ext (hE.trans hW), hE.trans hW⟩
end Go.Proofs.Ytgpobhpcbgenoaa
