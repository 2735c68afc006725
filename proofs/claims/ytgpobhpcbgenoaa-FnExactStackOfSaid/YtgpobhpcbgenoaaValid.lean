/- Contracts: sizes, and whether maps, pictures and volumes are right, of the program and of the reference. -/
import Derived.Test.YtgpobhpcbgenoaaSteps
import Derived.Test.YtgpobhpcbgenoaaChecked
import Derived.WalkLawsBesides
import Derived.WalkSpells
import Derived.Outline
import Derived.Lib.Hide
namespace Go.Proofs.Ytgpobhpcbgenoaa
open Go.RowKit
set_option linter.unusedVariables false

/-- A right size. -/
def Sz (w h : Int) : Prop := 1 ≤ w ∧ w ≤ 24 ∧ 1 ≤ h ∧ h ≤ 24 ∧ w * h ≤ 256
instance (w h : Int) : Decidable (Sz w h) := by unfold Sz; infer_instance
/-- A right map or picture: n values. -/
def VMap (w h : Int) (n : Nat) : Prop := Sz w h ∧ (n : Int) = w * h
instance (w h : Int) (n : Nat) : Decidable (VMap w h n) := by unfold VMap; infer_instance
/-- A right volume: n costs. -/
def VVol (w h d : Int) (n : Nat) : Prop := Sz w h ∧ 1 ≤ d ∧ d ≤ 8 ∧ (n : Int) = w * h * d
instance (w h d : Int) (n : Nat) : Decidable (VVol w h d n) := by unfold VVol; infer_instance

theorem mul_bounds {w h : Int} (h1 : 1 ≤ w) (h2 : w ≤ 24) (h3 : 1 ≤ h) (h4 : h ≤ 24) : 1 ≤ w * h ∧ w * h ≤ 576 := by
  have a : 1 * 1 ≤ w * h := Int.mul_le_mul h1 h3 (by omega) (by omega)
  have b : w * h ≤ 24 * 24 := Int.mul_le_mul h2 h4 (by omega) (by omega)
  omega
theorem wrap_small (x : Int) (h0 : -1000000 ≤ x) (h1 : x ≤ 1000000) : IntKind.i64.wrap x = x := IntWalk.i64_in x (by omega)

theorem Sz.no {w h : Int} (hs : ¬ Sz w h) : w < 1 ∨ (1 ≤ w ∧ 24 < w) ∨ (1 ≤ w ∧ w ≤ 24 ∧ h < 1) ∨ (1 ≤ w ∧ w ≤ 24 ∧ 1 ≤ h ∧ 24 < h) ∨ (1 ≤ w ∧ w ≤ 24 ∧ 1 ≤ h ∧ h ≤ 24 ∧ 256 < w * h) := by
  unfold Sz at hs
  by_cases a : 1 ≤ w
  · by_cases b : w ≤ 24
    · by_cases c : 1 ≤ h
      · by_cases d : h ≤ 24
        · exact .inr (.inr (.inr (.inr ⟨a, b, c, d, by
            rcases Int.lt_or_le 256 (w * h) with e | e
            · exact e
            · exact absurd ⟨a, b, c, d, e⟩ hs⟩)))
        · exact .inr (.inr (.inr (.inl ⟨a, b, c, by omega⟩)))
      · exact .inr (.inr (.inl ⟨a, b, by omega⟩))
    · exact .inr (.inl ⟨a, by omega⟩)
  · exact .inl (by omega)

theorem vol_bounds {w h d : Int} (hs : Sz w h) (h1 : 1 ≤ d) (h2 : d ≤ 8) : 1 ≤ w * h * d ∧ w * h * d ≤ 2048 := by
  have hb := mul_bounds hs.1 hs.2.1 hs.2.2.1 hs.2.2.2.1
  have a : 1 * 1 ≤ w * h * d := Int.mul_le_mul hb.1 h1 (by omega) (by omega)
  have b : w * h * d ≤ 256 * 8 := Int.mul_le_mul hs.2.2.2.2 h2 (by omega) (by omega)
  omega
theorem callsExt {P : Program} {f : FuncId} {args : Array Value} {W : World} {v : Value} (h : Calls P f args W fun e W' => e = .returned v ∧ W = W') : Calls P f args W fun e W' => e = .returned v ∧ Ext W W' :=
  h.mono fun _ _ ⟨he, hw⟩ => ⟨he, by rw [hw]; exact Ext.refl _⟩

theorem sizeOk_yes (w h : Int) (W : World) (hs : Sz w h) :
    Calls Try.prog 110 #[.int .i64 w, .int .i64 h] W fun e W' => e = .returned (.bool true) ∧ W = W' := by
  obtain ⟨h1, h2, h3, h4, h5⟩ := hs
  have hb := mul_bounds h1 h2 h3 h4
  have hw := wrap_small (w * h) (by omega) (by omega)
  clear hb
  go_enter Try.func110, Try.ntmps110
  go_wp2
  go_ret
  exact ⟨rfl, rfl⟩
theorem sizeOk_no (w h : Int) (W : World) (hs : ¬ Sz w h) :
    Calls Try.prog 110 #[.int .i64 w, .int .i64 h] W fun e W' => e = .returned (.bool false) ∧ W = W' := by
  rcases Sz.no hs with h1 | ⟨h1, h2⟩ | ⟨h1, h2, h3⟩ | ⟨h1, h2, h3, h4⟩ | ⟨h1, h2, h3, h4, h5⟩
  · clear hs
    have h1' : ¬ 1 ≤ w := by omega
    go_enter Try.func110, Try.ntmps110
    go_wp2
    go_ret
    exact ⟨rfl, rfl⟩
  · clear hs
    have h2' : ¬ w ≤ 24 := by omega
    go_enter Try.func110, Try.ntmps110
    go_wp2
    go_ret
    exact ⟨rfl, rfl⟩
  · clear hs
    have h3' : ¬ 1 ≤ h := by omega
    go_enter Try.func110, Try.ntmps110
    go_wp2
    go_ret
    exact ⟨rfl, rfl⟩
  · clear hs
    have h4' : ¬ h ≤ 24 := by omega
    go_enter Try.func110, Try.ntmps110
    go_wp2
    go_ret
    exact ⟨rfl, rfl⟩
  · clear hs
    have hb := mul_bounds h1 h2 h3 h4
    have hw := wrap_small (w * h) (by omega) (by omega)
    have h5' : ¬ w * h ≤ 256 := by omega
    clear hb
    go_enter Try.func110, Try.ntmps110
    go_wp2
    go_ret
    exact ⟨rfl, rfl⟩
theorem l02Size_yes (w h : Int) (W : World) (hs : Sz w h) :
    Calls Try.prog 113 #[.int .i64 w, .int .i64 h] W fun e W' => e = .returned (.bool true) ∧ W = W' := by
  obtain ⟨h1, h2, h3, h4, h5⟩ := hs
  have hb := mul_bounds h1 h2 h3 h4
  have hw := wrap_small (w * h) (by omega) (by omega)
  clear hb
  go_enter Try.func113, Try.ntmps113
  go_wp2
  go_ret
  exact ⟨rfl, rfl⟩
theorem l02Size_no (w h : Int) (W : World) (hs : ¬ Sz w h) :
    Calls Try.prog 113 #[.int .i64 w, .int .i64 h] W fun e W' => e = .returned (.bool false) ∧ W = W' := by
  rcases Sz.no hs with h1 | ⟨h1, h2⟩ | ⟨h1, h2, h3⟩ | ⟨h1, h2, h3, h4⟩ | ⟨h1, h2, h3, h4, h5⟩
  · clear hs
    have h1' : ¬ 1 ≤ w := by omega
    go_enter Try.func113, Try.ntmps113
    go_wp2
    go_ret
    exact ⟨rfl, rfl⟩
  · clear hs
    have h2' : ¬ w ≤ 24 := by omega
    go_enter Try.func113, Try.ntmps113
    go_wp2
    go_ret
    exact ⟨rfl, rfl⟩
  · clear hs
    have h3' : ¬ 1 ≤ h := by omega
    go_enter Try.func113, Try.ntmps113
    go_wp2
    go_ret
    exact ⟨rfl, rfl⟩
  · clear hs
    have h4' : ¬ h ≤ 24 := by omega
    go_enter Try.func113, Try.ntmps113
    go_wp2
    go_ret
    exact ⟨rfl, rfl⟩
  · clear hs
    have hb := mul_bounds h1 h2 h3 h4
    have hw := wrap_small (w * h) (by omega) (by omega)
    have h5' : ¬ w * h ≤ 256 := by omega
    clear hb
    go_enter Try.func113, Try.ntmps113
    go_wp2
    go_ret
    exact ⟨rfl, rfl⟩
theorem l03IsMap_yes (g : Nat) (w h : Int) (A : Option Addr) (n c : Nat) (W : World) (hn : n ≤ maxLen)
    (hc0 : W.cell? ⟨g, 0, none⟩ = some (.int .i64 w)) (hc1 : W.cell? ⟨g, 1, none⟩ = some (.int .i64 h)) (hc2 : W.cell? ⟨g, 2, none⟩ = some (.slice A n c)) (hv : VMap w h n) :
    Calls Try.prog 106 #[.pointer (some ⟨g, 0, none⟩)] W fun e W' => e = .returned (.bool true) ∧ Ext W W' := by
  unfold maxLen at hn
  obtain ⟨hs, he⟩ := hv
  have he' : ((n : Int) == w * h) = true := by simpa using he
  have hw := wrap_small (w * h) (by have := mul_bounds hs.1 hs.2.1 hs.2.2.1 hs.2.2.2.1; omega) (by have := hs.2.2.2.2; omega)
  have HS := Lib.hid hs
  clear hs he
  go_enter Try.func106, Try.ntmps106
  go_wp2_with fail
  refine region_wx 26 [] (by kernel_rfl) (by kernel_rfl) ?_
  simp only [List.take_succ_cons, List.take_zero, List.drop_succ_cons, List.drop_zero]
  repeat ((first | refine wx_skip rfl ?_ | refine wx_nilCheck rfl rfl _ rfl _ rfl ?_ | (refine wx_float rfl rfl _ _ _ _ _ _ _ rfl rfl rfl rfl ?_; intro r hr) | (refine wx_k rfl rfl rfl (fun K hK => ?_); go_big_quiet_op; refine hK _ ?_; clear hK K) | (refine wx_call rfl rfl 113 _ _ rfl (by kernel_rfl) (by kernel_rfl) (.bool true) (fun W hW hF => ?_) ?_; go_simp; (with_reducible refine (callsExt (l02Size_yes _ _ _ HS.out)).mono ?_); rintro e w' h; exact h)); (try simp only [Act.put, List.setIfInBounds_toArray, List.set_cons_zero, List.set_cons_succ]); (try simp only [List.tail_nil]))
  refine wx_nil (fun W hW hF => ?_)
  go_wp2
  go_ret
  exact ⟨rfl, hW⟩
theorem l03IsMap_no1 (g : Nat) (w h : Int) (A : Option Addr) (n c : Nat) (W : World) (hn : n ≤ maxLen)
    (hc0 : W.cell? ⟨g, 0, none⟩ = some (.int .i64 w)) (hc1 : W.cell? ⟨g, 1, none⟩ = some (.int .i64 h)) (hc2 : W.cell? ⟨g, 2, none⟩ = some (.slice A n c)) (hv : ¬ Sz w h) :
    Calls Try.prog 106 #[.pointer (some ⟨g, 0, none⟩)] W fun e W' => e = .returned (.bool false) ∧ Ext W W' := by
  unfold maxLen at hn
  have HS := Lib.hid hv
  clear hv
  go_enter Try.func106, Try.ntmps106
  go_wp2_with fail
  refine region_wx 26 [] (by kernel_rfl) (by kernel_rfl) ?_
  simp only [List.take_succ_cons, List.take_zero, List.drop_succ_cons, List.drop_zero]
  repeat ((first | refine wx_skip rfl ?_ | refine wx_nilCheck rfl rfl _ rfl _ rfl ?_ | (refine wx_float rfl rfl _ _ _ _ _ _ _ rfl rfl rfl rfl ?_; intro r hr) | (refine wx_k rfl rfl rfl (fun K hK => ?_); go_big_quiet_op; refine hK _ ?_; clear hK K) | (refine wx_call rfl rfl 113 _ _ rfl (by kernel_rfl) (by kernel_rfl) (.bool false) (fun W hW hF => ?_) ?_; go_simp; (with_reducible refine (callsExt (l02Size_no _ _ _ HS.out)).mono ?_); rintro e w' h; exact h)); (try simp only [Act.put, List.setIfInBounds_toArray, List.set_cons_zero, List.set_cons_succ]); (try simp only [List.tail_nil]))
  refine wx_nil (fun W hW hF => ?_)
  go_wp2
  go_ret
  exact ⟨rfl, hW⟩
theorem l03IsMap_no2 (g : Nat) (w h : Int) (A : Option Addr) (n c : Nat) (W : World) (hn : n ≤ maxLen)
    (hc0 : W.cell? ⟨g, 0, none⟩ = some (.int .i64 w)) (hc1 : W.cell? ⟨g, 1, none⟩ = some (.int .i64 h)) (hc2 : W.cell? ⟨g, 2, none⟩ = some (.slice A n c)) (hs : Sz w h) (hv : (n : Int) ≠ w * h) :
    Calls Try.prog 106 #[.pointer (some ⟨g, 0, none⟩)] W fun e W' => e = .returned (.bool false) ∧ Ext W W' := by
  unfold maxLen at hn
  have he' : ((n : Int) == w * h) = false := by simpa using hv
  have hw := wrap_small (w * h) (by have := mul_bounds hs.1 hs.2.1 hs.2.2.1 hs.2.2.2.1; omega) (by have := hs.2.2.2.2; omega)
  have HS := Lib.hid hs
  clear hs hv
  go_enter Try.func106, Try.ntmps106
  go_wp2_with fail
  refine region_wx 26 [] (by kernel_rfl) (by kernel_rfl) ?_
  simp only [List.take_succ_cons, List.take_zero, List.drop_succ_cons, List.drop_zero]
  repeat ((first | refine wx_skip rfl ?_ | refine wx_nilCheck rfl rfl _ rfl _ rfl ?_ | (refine wx_float rfl rfl _ _ _ _ _ _ _ rfl rfl rfl rfl ?_; intro r hr) | (refine wx_k rfl rfl rfl (fun K hK => ?_); go_big_quiet_op; refine hK _ ?_; clear hK K) | (refine wx_call rfl rfl 113 _ _ rfl (by kernel_rfl) (by kernel_rfl) (.bool true) (fun W hW hF => ?_) ?_; go_simp; (with_reducible refine (callsExt (l02Size_yes _ _ _ HS.out)).mono ?_); rintro e w' h; exact h)); (try simp only [Act.put, List.setIfInBounds_toArray, List.set_cons_zero, List.set_cons_succ]); (try simp only [List.tail_nil]))
  refine wx_nil (fun W hW hF => ?_)
  go_wp2
  go_ret
  exact ⟨rfl, hW⟩
theorem l03IsMap_not (g : Nat) (w h : Int) (A : Option Addr) (n c : Nat) (W : World) (hn : n ≤ maxLen)
    (hc0 : W.cell? ⟨g, 0, none⟩ = some (.int .i64 w)) (hc1 : W.cell? ⟨g, 1, none⟩ = some (.int .i64 h)) (hc2 : W.cell? ⟨g, 2, none⟩ = some (.slice A n c)) (hv : ¬ VMap w h n) :
    Calls Try.prog 106 #[.pointer (some ⟨g, 0, none⟩)] W fun e W' => e = .returned (.bool false) ∧ Ext W W' := by
  by_cases hs : Sz w h
  · exact l03IsMap_no2 g w h A n c W hn hc0 hc1 hc2 hs (fun he => hv ⟨hs, he⟩)
  · exact l03IsMap_no1 g w h A n c W hn hc0 hc1 hc2 hs
theorem l02Is_yes (g : Nat) (w h : Int) (A : Option Addr) (n c : Nat) (W : World) (hn : n ≤ maxLen)
    (hc0 : W.cell? ⟨g, 0, none⟩ = some (.int .i64 w)) (hc1 : W.cell? ⟨g, 1, none⟩ = some (.int .i64 h)) (hc2 : W.cell? ⟨g, 2, none⟩ = some (.slice A n c)) (hv : VMap w h n) :
    Calls Try.prog 83 #[.pointer (some ⟨g, 0, none⟩)] W fun e W' => e = .returned (.bool true) ∧ Ext W W' := by
  unfold maxLen at hn
  obtain ⟨hs, he⟩ := hv
  have he' : ((n : Int) == w * h) = true := by simpa using he
  have hw := wrap_small (w * h) (by have := mul_bounds hs.1 hs.2.1 hs.2.2.1 hs.2.2.2.1; omega) (by have := hs.2.2.2.2; omega)
  have HS := Lib.hid hs
  clear hs he
  go_enter Try.func83, Try.ntmps83
  go_wp2_with fail
  refine region_wx 26 [] (by kernel_rfl) (by kernel_rfl) ?_
  simp only [List.take_succ_cons, List.take_zero, List.drop_succ_cons, List.drop_zero]
  repeat ((first | refine wx_skip rfl ?_ | refine wx_nilCheck rfl rfl _ rfl _ rfl ?_ | (refine wx_float rfl rfl _ _ _ _ _ _ _ rfl rfl rfl rfl ?_; intro r hr) | (refine wx_k rfl rfl rfl (fun K hK => ?_); go_big_quiet_op; refine hK _ ?_; clear hK K) | (refine wx_call rfl rfl 113 _ _ rfl (by kernel_rfl) (by kernel_rfl) (.bool true) (fun W hW hF => ?_) ?_; go_simp; (with_reducible refine (callsExt (l02Size_yes _ _ _ HS.out)).mono ?_); rintro e w' h; exact h)); (try simp only [Act.put, List.setIfInBounds_toArray, List.set_cons_zero, List.set_cons_succ]); (try simp only [List.tail_nil]))
  refine wx_nil (fun W hW hF => ?_)
  go_wp2
  go_ret
  exact ⟨rfl, hW⟩
theorem l02Is_no1 (g : Nat) (w h : Int) (A : Option Addr) (n c : Nat) (W : World) (hn : n ≤ maxLen)
    (hc0 : W.cell? ⟨g, 0, none⟩ = some (.int .i64 w)) (hc1 : W.cell? ⟨g, 1, none⟩ = some (.int .i64 h)) (hc2 : W.cell? ⟨g, 2, none⟩ = some (.slice A n c)) (hv : ¬ Sz w h) :
    Calls Try.prog 83 #[.pointer (some ⟨g, 0, none⟩)] W fun e W' => e = .returned (.bool false) ∧ Ext W W' := by
  unfold maxLen at hn
  have HS := Lib.hid hv
  clear hv
  go_enter Try.func83, Try.ntmps83
  go_wp2_with fail
  refine region_wx 26 [] (by kernel_rfl) (by kernel_rfl) ?_
  simp only [List.take_succ_cons, List.take_zero, List.drop_succ_cons, List.drop_zero]
  repeat ((first | refine wx_skip rfl ?_ | refine wx_nilCheck rfl rfl _ rfl _ rfl ?_ | (refine wx_float rfl rfl _ _ _ _ _ _ _ rfl rfl rfl rfl ?_; intro r hr) | (refine wx_k rfl rfl rfl (fun K hK => ?_); go_big_quiet_op; refine hK _ ?_; clear hK K) | (refine wx_call rfl rfl 113 _ _ rfl (by kernel_rfl) (by kernel_rfl) (.bool false) (fun W hW hF => ?_) ?_; go_simp; (with_reducible refine (callsExt (l02Size_no _ _ _ HS.out)).mono ?_); rintro e w' h; exact h)); (try simp only [Act.put, List.setIfInBounds_toArray, List.set_cons_zero, List.set_cons_succ]); (try simp only [List.tail_nil]))
  refine wx_nil (fun W hW hF => ?_)
  go_wp2
  go_ret
  exact ⟨rfl, hW⟩
theorem l02Is_no2 (g : Nat) (w h : Int) (A : Option Addr) (n c : Nat) (W : World) (hn : n ≤ maxLen)
    (hc0 : W.cell? ⟨g, 0, none⟩ = some (.int .i64 w)) (hc1 : W.cell? ⟨g, 1, none⟩ = some (.int .i64 h)) (hc2 : W.cell? ⟨g, 2, none⟩ = some (.slice A n c)) (hs : Sz w h) (hv : (n : Int) ≠ w * h) :
    Calls Try.prog 83 #[.pointer (some ⟨g, 0, none⟩)] W fun e W' => e = .returned (.bool false) ∧ Ext W W' := by
  unfold maxLen at hn
  have he' : ((n : Int) == w * h) = false := by simpa using hv
  have hw := wrap_small (w * h) (by have := mul_bounds hs.1 hs.2.1 hs.2.2.1 hs.2.2.2.1; omega) (by have := hs.2.2.2.2; omega)
  have HS := Lib.hid hs
  clear hs hv
  go_enter Try.func83, Try.ntmps83
  go_wp2_with fail
  refine region_wx 26 [] (by kernel_rfl) (by kernel_rfl) ?_
  simp only [List.take_succ_cons, List.take_zero, List.drop_succ_cons, List.drop_zero]
  repeat ((first | refine wx_skip rfl ?_ | refine wx_nilCheck rfl rfl _ rfl _ rfl ?_ | (refine wx_float rfl rfl _ _ _ _ _ _ _ rfl rfl rfl rfl ?_; intro r hr) | (refine wx_k rfl rfl rfl (fun K hK => ?_); go_big_quiet_op; refine hK _ ?_; clear hK K) | (refine wx_call rfl rfl 113 _ _ rfl (by kernel_rfl) (by kernel_rfl) (.bool true) (fun W hW hF => ?_) ?_; go_simp; (with_reducible refine (callsExt (l02Size_yes _ _ _ HS.out)).mono ?_); rintro e w' h; exact h)); (try simp only [Act.put, List.setIfInBounds_toArray, List.set_cons_zero, List.set_cons_succ]); (try simp only [List.tail_nil]))
  refine wx_nil (fun W hW hF => ?_)
  go_wp2
  go_ret
  exact ⟨rfl, hW⟩
theorem l02Is_not (g : Nat) (w h : Int) (A : Option Addr) (n c : Nat) (W : World) (hn : n ≤ maxLen)
    (hc0 : W.cell? ⟨g, 0, none⟩ = some (.int .i64 w)) (hc1 : W.cell? ⟨g, 1, none⟩ = some (.int .i64 h)) (hc2 : W.cell? ⟨g, 2, none⟩ = some (.slice A n c)) (hv : ¬ VMap w h n) :
    Calls Try.prog 83 #[.pointer (some ⟨g, 0, none⟩)] W fun e W' => e = .returned (.bool false) ∧ Ext W W' := by
  by_cases hs : Sz w h
  · exact l02Is_no2 g w h A n c W hn hc0 hc1 hc2 hs (fun he => hv ⟨hs, he⟩)
  · exact l02Is_no1 g w h A n c W hn hc0 hc1 hc2 hs
theorem ValidMap_yes (w h : Int) (A : Option Addr) (n c : Nat) (W : World) (hn : n ≤ maxLen) (hv : VMap w h n) :
    Calls Try.prog 79 #[.agg #[.int .i64 w, .int .i64 h, .slice A n c]] W fun e W' => e = .returned (.bool true) ∧ Ext W W' := by
  unfold maxLen at hn
  obtain ⟨hs, he⟩ := hv
  have he' : ((n : Int) == w * h) = true := by simpa using he
  have hw := wrap_small (w * h) (by have := mul_bounds hs.1 hs.2.1 hs.2.2.1 hs.2.2.2.1; omega) (by have := hs.2.2.2.2; omega)
  have HS := Lib.hid hs
  clear hs he
  go_enter Try.func79, Try.ntmps79
  go_wp2_with (go_at_call 110; refine (sizeOk_yes _ _ _ HS.out).mono ?_; rintro e w' ⟨rfl, rfl⟩)
  go_ret
  exact ⟨rfl, (Ext.refl _).alloc _⟩
theorem ValidMap_no1 (w h : Int) (A : Option Addr) (n c : Nat) (W : World) (hn : n ≤ maxLen) (hv : ¬ Sz w h) :
    Calls Try.prog 79 #[.agg #[.int .i64 w, .int .i64 h, .slice A n c]] W fun e W' => e = .returned (.bool false) ∧ Ext W W' := by
  unfold maxLen at hn
  have HS := Lib.hid hv
  clear hv
  go_enter Try.func79, Try.ntmps79
  go_wp2_with (go_at_call 110; refine (sizeOk_no _ _ _ HS.out).mono ?_; rintro e w' ⟨rfl, rfl⟩)
  go_ret
  exact ⟨rfl, (Ext.refl _).alloc _⟩
theorem ValidMap_no2 (w h : Int) (A : Option Addr) (n c : Nat) (W : World) (hn : n ≤ maxLen) (hs : Sz w h) (hv : (n : Int) ≠ w * h) :
    Calls Try.prog 79 #[.agg #[.int .i64 w, .int .i64 h, .slice A n c]] W fun e W' => e = .returned (.bool false) ∧ Ext W W' := by
  unfold maxLen at hn
  have he' : ((n : Int) == w * h) = false := by simpa using hv
  have hw := wrap_small (w * h) (by have := mul_bounds hs.1 hs.2.1 hs.2.2.1 hs.2.2.2.1; omega) (by have := hs.2.2.2.2; omega)
  have HS := Lib.hid hs
  clear hs hv
  go_enter Try.func79, Try.ntmps79
  go_wp2_with (go_at_call 110; refine (sizeOk_yes _ _ _ HS.out).mono ?_; rintro e w' ⟨rfl, rfl⟩)
  go_ret
  exact ⟨rfl, (Ext.refl _).alloc _⟩
theorem ValidMap_not (w h : Int) (A : Option Addr) (n c : Nat) (W : World) (hn : n ≤ maxLen) (hv : ¬ VMap w h n) :
    Calls Try.prog 79 #[.agg #[.int .i64 w, .int .i64 h, .slice A n c]] W fun e W' => e = .returned (.bool false) ∧ Ext W W' := by
  by_cases hs : Sz w h
  · exact ValidMap_no2 w h A n c W hn hs (fun he => hv ⟨hs, he⟩)
  · exact ValidMap_no1 w h A n c W hn hs
theorem ValidPicture_yes (w h : Int) (A : Option Addr) (n c : Nat) (W : World) (hn : n ≤ maxLen) (hv : VMap w h n) :
    Calls Try.prog 109 #[.agg #[.int .i64 w, .int .i64 h, .slice A n c]] W fun e W' => e = .returned (.bool true) ∧ Ext W W' := by
  unfold maxLen at hn
  obtain ⟨hs, he⟩ := hv
  have he' : ((n : Int) == w * h) = true := by simpa using he
  have hw := wrap_small (w * h) (by have := mul_bounds hs.1 hs.2.1 hs.2.2.1 hs.2.2.2.1; omega) (by have := hs.2.2.2.2; omega)
  have HS := Lib.hid hs
  clear hs he
  go_enter Try.func109, Try.ntmps109
  go_wp2_with (go_at_call 110; refine (sizeOk_yes _ _ _ HS.out).mono ?_; rintro e w' ⟨rfl, rfl⟩)
  go_ret
  exact ⟨rfl, (Ext.refl _).alloc _⟩
theorem ValidPicture_no1 (w h : Int) (A : Option Addr) (n c : Nat) (W : World) (hn : n ≤ maxLen) (hv : ¬ Sz w h) :
    Calls Try.prog 109 #[.agg #[.int .i64 w, .int .i64 h, .slice A n c]] W fun e W' => e = .returned (.bool false) ∧ Ext W W' := by
  unfold maxLen at hn
  have HS := Lib.hid hv
  clear hv
  go_enter Try.func109, Try.ntmps109
  go_wp2_with (go_at_call 110; refine (sizeOk_no _ _ _ HS.out).mono ?_; rintro e w' ⟨rfl, rfl⟩)
  go_ret
  exact ⟨rfl, (Ext.refl _).alloc _⟩
theorem ValidPicture_no2 (w h : Int) (A : Option Addr) (n c : Nat) (W : World) (hn : n ≤ maxLen) (hs : Sz w h) (hv : (n : Int) ≠ w * h) :
    Calls Try.prog 109 #[.agg #[.int .i64 w, .int .i64 h, .slice A n c]] W fun e W' => e = .returned (.bool false) ∧ Ext W W' := by
  unfold maxLen at hn
  have he' : ((n : Int) == w * h) = false := by simpa using hv
  have hw := wrap_small (w * h) (by have := mul_bounds hs.1 hs.2.1 hs.2.2.1 hs.2.2.2.1; omega) (by have := hs.2.2.2.2; omega)
  have HS := Lib.hid hs
  clear hs hv
  go_enter Try.func109, Try.ntmps109
  go_wp2_with (go_at_call 110; refine (sizeOk_yes _ _ _ HS.out).mono ?_; rintro e w' ⟨rfl, rfl⟩)
  go_ret
  exact ⟨rfl, (Ext.refl _).alloc _⟩
theorem ValidPicture_not (w h : Int) (A : Option Addr) (n c : Nat) (W : World) (hn : n ≤ maxLen) (hv : ¬ VMap w h n) :
    Calls Try.prog 109 #[.agg #[.int .i64 w, .int .i64 h, .slice A n c]] W fun e W' => e = .returned (.bool false) ∧ Ext W W' := by
  by_cases hs : Sz w h
  · exact ValidPicture_no2 w h A n c W hn hs (fun he => hv ⟨hs, he⟩)
  · exact ValidPicture_no1 w h A n c W hn hs
theorem l00In_yes (n l h : Int) (W : World) (h0 : l ≤ n) (h1 : n ≤ h) : Calls Try.prog 63 #[.int .i64 n, .int .i64 l, .int .i64 h] W fun e W' => e = .returned (.bool true) ∧ W = W' := by
  go_enter Try.func63, Try.ntmps63
  go_wp2
  go_ret
  exact ⟨rfl, rfl⟩
theorem l00In_no (n l h : Int) (W : World) (hn : n < l ∨ h < n) : Calls Try.prog 63 #[.int .i64 n, .int .i64 l, .int .i64 h] W fun e W' => e = .returned (.bool false) ∧ W = W' := by
  by_cases h0 : l ≤ n
  · have h1 : ¬ n ≤ h := by omega
    clear hn
    go_enter Try.func63, Try.ntmps63
    go_wp2
    go_ret
    exact ⟨rfl, rfl⟩
  · clear hn
    go_enter Try.func63, Try.ntmps63
    go_wp2
    go_ret
    exact ⟨rfl, rfl⟩
theorem implIn_yes (n l h : Int) (W : World) (h0 : l ≤ n) (h1 : n ≤ h) : Calls Try.prog 67 #[.int .i64 n, .int .i64 l, .int .i64 h] W fun e W' => e = .returned (.bool true) ∧ W = W' := by
  go_enter Try.func67, Try.ntmps67
  go_wp2
  go_ret
  exact ⟨rfl, rfl⟩
theorem implIn_no (n l h : Int) (W : World) (hn : n < l ∨ h < n) : Calls Try.prog 67 #[.int .i64 n, .int .i64 l, .int .i64 h] W fun e W' => e = .returned (.bool false) ∧ W = W' := by
  by_cases h0 : l ≤ n
  · have h1 : ¬ n ≤ h := by omega
    clear hn
    go_enter Try.func67, Try.ntmps67
    go_wp2
    go_ret
    exact ⟨rfl, rfl⟩
  · clear hn
    go_enter Try.func67, Try.ntmps67
    go_wp2
    go_ret
    exact ⟨rfl, rfl⟩
theorem l03Is_yes (g : Nat) (w h d : Int) (A : Option Addr) (n c : Nat) (W : World) (hn : n ≤ maxLen)
    (hc0 : W.cell? ⟨g, 0, none⟩ = some (.int .i64 w)) (hc1 : W.cell? ⟨g, 1, none⟩ = some (.int .i64 h)) (hc2 : W.cell? ⟨g, 2, none⟩ = some (.int .i64 d)) (hc3 : W.cell? ⟨g, 3, none⟩ = some (.slice A n c)) (hv : VVol w h d n) :
    Calls Try.prog 85 #[.pointer (some ⟨g, 0, none⟩)] W fun e W' => e = .returned (.bool true) ∧ Ext W W' := by
  unfold maxLen at hn
  obtain ⟨hs, hd0, hd1, he⟩ := hv
  have he' : ((n : Int) == w * h * d) = true := by simpa using he
  have hm1 := mul_bounds hs.1 hs.2.1 hs.2.2.1 hs.2.2.2.1
  have hm2 := vol_bounds hs hd0 hd1
  have hw := wrap_small (w * h) (by omega) (by omega)
  have hw2 := wrap_small (w * h * d) (by omega) (by omega)
  have hn2 : (n : Int) ≤ 2048 := by omega
  have hle : w * h * d ≤ 2048 := hm2.2
  clear hm1 hm2
  have HS := Lib.hid hs
  clear hs he
  go_enter Try.func85, Try.ntmps85
  go_wp2_with fail
  refine region_wx 55 [] (by kernel_rfl) (by kernel_rfl) ?_
  simp only [List.take_succ_cons, List.take_zero, List.drop_succ_cons, List.drop_zero]
  repeat ((first | refine wx_skip rfl ?_ | refine wx_nilCheck rfl rfl _ rfl _ rfl ?_ | (refine wx_float rfl rfl _ _ _ _ _ _ _ rfl rfl rfl rfl ?_; intro r hr) | (refine wx_k rfl rfl rfl (fun K hK => ?_); go_big_quiet_op; refine hK _ ?_; clear hK K) | (refine wx_call rfl rfl 113 _ _ rfl (by kernel_rfl) (by kernel_rfl) (.bool true) (fun W hW hF => ?_) ?_; go_simp; (with_reducible refine (callsExt (l02Size_yes _ _ _ HS.out)).mono ?_); rintro e w' h; exact h) | (refine wx_call rfl rfl 63 _ _ rfl (by kernel_rfl) (by kernel_rfl) (.bool true) (fun W hW hF => ?_) ?_; go_simp; (with_reducible refine (callsExt (l00In_yes _ _ _ _ (by omega) (by omega))).mono ?_); rintro e w' h; exact h)); (try simp only [Act.put, List.setIfInBounds_toArray, List.set_cons_zero, List.set_cons_succ]); (try simp only [List.tail_nil]))
  refine wx_nil (fun W hW hF => ?_)
  go_wp2
  go_ret
  exact ⟨rfl, hW⟩
theorem l03Is_no1 (g : Nat) (w h d : Int) (A : Option Addr) (n c : Nat) (W : World) (hn : n ≤ maxLen)
    (hc0 : W.cell? ⟨g, 0, none⟩ = some (.int .i64 w)) (hc1 : W.cell? ⟨g, 1, none⟩ = some (.int .i64 h)) (hc2 : W.cell? ⟨g, 2, none⟩ = some (.int .i64 d)) (hc3 : W.cell? ⟨g, 3, none⟩ = some (.slice A n c)) (hv : ¬ Sz w h) :
    Calls Try.prog 85 #[.pointer (some ⟨g, 0, none⟩)] W fun e W' => e = .returned (.bool false) ∧ Ext W W' := by
  unfold maxLen at hn
  have HS := Lib.hid hv
  clear hv
  go_enter Try.func85, Try.ntmps85
  go_wp2_with fail
  refine region_wx 55 [] (by kernel_rfl) (by kernel_rfl) ?_
  simp only [List.take_succ_cons, List.take_zero, List.drop_succ_cons, List.drop_zero]
  repeat ((first | refine wx_skip rfl ?_ | refine wx_nilCheck rfl rfl _ rfl _ rfl ?_ | (refine wx_float rfl rfl _ _ _ _ _ _ _ rfl rfl rfl rfl ?_; intro r hr) | (refine wx_k rfl rfl rfl (fun K hK => ?_); go_big_quiet_op; refine hK _ ?_; clear hK K) | (refine wx_call rfl rfl 113 _ _ rfl (by kernel_rfl) (by kernel_rfl) (.bool false) (fun W hW hF => ?_) ?_; go_simp; (with_reducible refine (callsExt (l02Size_no _ _ _ HS.out)).mono ?_); rintro e w' h; exact h)); (try simp only [Act.put, List.setIfInBounds_toArray, List.set_cons_zero, List.set_cons_succ]); (try simp only [List.tail_nil]))
  refine wx_nil (fun W hW hF => ?_)
  go_wp2
  go_ret
  exact ⟨rfl, hW⟩
theorem l03Is_no2 (g : Nat) (w h d : Int) (A : Option Addr) (n c : Nat) (W : World) (hn : n ≤ maxLen)
    (hc0 : W.cell? ⟨g, 0, none⟩ = some (.int .i64 w)) (hc1 : W.cell? ⟨g, 1, none⟩ = some (.int .i64 h)) (hc2 : W.cell? ⟨g, 2, none⟩ = some (.int .i64 d)) (hc3 : W.cell? ⟨g, 3, none⟩ = some (.slice A n c)) (hs : Sz w h) (hv : d < 1) :
    Calls Try.prog 85 #[.pointer (some ⟨g, 0, none⟩)] W fun e W' => e = .returned (.bool false) ∧ Ext W W' := by
  unfold maxLen at hn
  have hd0 : ¬ 1 ≤ d := by omega
  have HS := Lib.hid hs
  clear hs hv
  go_enter Try.func85, Try.ntmps85
  go_wp2_with fail
  refine region_wx 55 [] (by kernel_rfl) (by kernel_rfl) ?_
  simp only [List.take_succ_cons, List.take_zero, List.drop_succ_cons, List.drop_zero]
  repeat ((first | refine wx_skip rfl ?_ | refine wx_nilCheck rfl rfl _ rfl _ rfl ?_ | (refine wx_float rfl rfl _ _ _ _ _ _ _ rfl rfl rfl rfl ?_; intro r hr) | (refine wx_k rfl rfl rfl (fun K hK => ?_); go_big_quiet_op; refine hK _ ?_; clear hK K) | (refine wx_call rfl rfl 113 _ _ rfl (by kernel_rfl) (by kernel_rfl) (.bool true) (fun W hW hF => ?_) ?_; go_simp; (with_reducible refine (callsExt (l02Size_yes _ _ _ HS.out)).mono ?_); rintro e w' h; exact h) | (refine wx_call rfl rfl 63 _ _ rfl (by kernel_rfl) (by kernel_rfl) (.bool false) (fun W hW hF => ?_) ?_; go_simp; (with_reducible refine (callsExt (l00In_no _ _ _ _ (by omega))).mono ?_); rintro e w' h; exact h)); (try simp only [Act.put, List.setIfInBounds_toArray, List.set_cons_zero, List.set_cons_succ]); (try simp only [List.tail_nil]))
  refine wx_nil (fun W hW hF => ?_)
  go_wp2
  go_ret
  exact ⟨rfl, hW⟩
theorem l03Is_no3 (g : Nat) (w h d : Int) (A : Option Addr) (n c : Nat) (W : World) (hn : n ≤ maxLen)
    (hc0 : W.cell? ⟨g, 0, none⟩ = some (.int .i64 w)) (hc1 : W.cell? ⟨g, 1, none⟩ = some (.int .i64 h)) (hc2 : W.cell? ⟨g, 2, none⟩ = some (.int .i64 d)) (hc3 : W.cell? ⟨g, 3, none⟩ = some (.slice A n c)) (hs : Sz w h) (hv : 8 < d) :
    Calls Try.prog 85 #[.pointer (some ⟨g, 0, none⟩)] W fun e W' => e = .returned (.bool false) ∧ Ext W W' := by
  unfold maxLen at hn
  have hd0 : 1 ≤ d := by omega
  have hd1 : ¬ d ≤ 8 := by omega
  have HS := Lib.hid hs
  clear hs hv
  go_enter Try.func85, Try.ntmps85
  go_wp2_with fail
  refine region_wx 55 [] (by kernel_rfl) (by kernel_rfl) ?_
  simp only [List.take_succ_cons, List.take_zero, List.drop_succ_cons, List.drop_zero]
  repeat ((first | refine wx_skip rfl ?_ | refine wx_nilCheck rfl rfl _ rfl _ rfl ?_ | (refine wx_float rfl rfl _ _ _ _ _ _ _ rfl rfl rfl rfl ?_; intro r hr) | (refine wx_k rfl rfl rfl (fun K hK => ?_); go_big_quiet_op; refine hK _ ?_; clear hK K) | (refine wx_call rfl rfl 113 _ _ rfl (by kernel_rfl) (by kernel_rfl) (.bool true) (fun W hW hF => ?_) ?_; go_simp; (with_reducible refine (callsExt (l02Size_yes _ _ _ HS.out)).mono ?_); rintro e w' h; exact h) | (refine wx_call rfl rfl 63 _ _ rfl (by kernel_rfl) (by kernel_rfl) (.bool false) (fun W hW hF => ?_) ?_; go_simp; (with_reducible refine (callsExt (l00In_no _ _ _ _ (by omega))).mono ?_); rintro e w' h; exact h)); (try simp only [Act.put, List.setIfInBounds_toArray, List.set_cons_zero, List.set_cons_succ]); (try simp only [List.tail_nil]))
  refine wx_nil (fun W hW hF => ?_)
  go_wp2
  go_ret
  exact ⟨rfl, hW⟩
theorem l03Is_no4 (g : Nat) (w h d : Int) (A : Option Addr) (n c : Nat) (W : World) (hn : n ≤ maxLen)
    (hc0 : W.cell? ⟨g, 0, none⟩ = some (.int .i64 w)) (hc1 : W.cell? ⟨g, 1, none⟩ = some (.int .i64 h)) (hc2 : W.cell? ⟨g, 2, none⟩ = some (.int .i64 d)) (hc3 : W.cell? ⟨g, 3, none⟩ = some (.slice A n c)) (hs : Sz w h) (hd0 : 1 ≤ d) (hd1 : d ≤ 8) (hv : (n : Int) ≠ w * h * d) :
    Calls Try.prog 85 #[.pointer (some ⟨g, 0, none⟩)] W fun e W' => e = .returned (.bool false) ∧ Ext W W' := by
  unfold maxLen at hn
  have he' : ((n : Int) == w * h * d) = false := by simpa using hv
  have hm1 := mul_bounds hs.1 hs.2.1 hs.2.2.1 hs.2.2.2.1
  have hm2 := vol_bounds hs hd0 hd1
  have hw := wrap_small (w * h) (by omega) (by omega)
  have hw2 := wrap_small (w * h * d) (by omega) (by omega)
  have hle : w * h * d ≤ 2048 := hm2.2
  clear hm1 hm2
  have HS := Lib.hid hs
  clear hs hv
  go_enter Try.func85, Try.ntmps85
  go_wp2_with fail
  refine region_wx 55 [] (by kernel_rfl) (by kernel_rfl) ?_
  simp only [List.take_succ_cons, List.take_zero, List.drop_succ_cons, List.drop_zero]
  repeat ((first | refine wx_skip rfl ?_ | refine wx_nilCheck rfl rfl _ rfl _ rfl ?_ | (refine wx_float rfl rfl _ _ _ _ _ _ _ rfl rfl rfl rfl ?_; intro r hr) | (refine wx_k rfl rfl rfl (fun K hK => ?_); go_big_quiet_op; refine hK _ ?_; clear hK K) | (refine wx_call rfl rfl 113 _ _ rfl (by kernel_rfl) (by kernel_rfl) (.bool true) (fun W hW hF => ?_) ?_; go_simp; (with_reducible refine (callsExt (l02Size_yes _ _ _ HS.out)).mono ?_); rintro e w' h; exact h) | (refine wx_call rfl rfl 63 _ _ rfl (by kernel_rfl) (by kernel_rfl) (.bool true) (fun W hW hF => ?_) ?_; go_simp; (with_reducible refine (callsExt (l00In_yes _ _ _ _ (by omega) (by omega))).mono ?_); rintro e w' h; exact h)); (try simp only [Act.put, List.setIfInBounds_toArray, List.set_cons_zero, List.set_cons_succ]); (try simp only [List.tail_nil]))
  refine wx_nil (fun W hW hF => ?_)
  go_wp2
  go_ret
  exact ⟨rfl, hW⟩
theorem l03Is_not (g : Nat) (w h d : Int) (A : Option Addr) (n c : Nat) (W : World) (hn : n ≤ maxLen)
    (hc0 : W.cell? ⟨g, 0, none⟩ = some (.int .i64 w)) (hc1 : W.cell? ⟨g, 1, none⟩ = some (.int .i64 h)) (hc2 : W.cell? ⟨g, 2, none⟩ = some (.int .i64 d)) (hc3 : W.cell? ⟨g, 3, none⟩ = some (.slice A n c)) (hv : ¬ VVol w h d n) :
    Calls Try.prog 85 #[.pointer (some ⟨g, 0, none⟩)] W fun e W' => e = .returned (.bool false) ∧ Ext W W' := by
  by_cases hs : Sz w h
  · by_cases h0 : d < 1
    · exact l03Is_no2 g w h d A n c W hn hc0 hc1 hc2 hc3 hs h0
    · by_cases h1 : 8 < d
      · exact l03Is_no3 g w h d A n c W hn hc0 hc1 hc2 hc3 hs h1
      · exact l03Is_no4 g w h d A n c W hn hc0 hc1 hc2 hc3 hs (by omega) (by omega) (fun he => hv ⟨hs, by omega, by omega, he⟩)
  · exact l03Is_no1 g w h d A n c W hn hc0 hc1 hc2 hc3 hs
theorem ValidVolume_yes (w h d : Int) (A : Option Addr) (n c : Nat) (W : World) (hn : n ≤ maxLen) (hv : VVol w h d n) :
    Calls Try.prog 90 #[.agg #[.int .i64 w, .int .i64 h, .int .i64 d, .slice A n c]] W fun e W' => e = .returned (.bool true) ∧ Ext W W' := by
  unfold maxLen at hn
  obtain ⟨hs, hd0, hd1, he⟩ := hv
  have he' : ((n : Int) == w * h * d) = true := by simpa using he
  have hm1 := mul_bounds hs.1 hs.2.1 hs.2.2.1 hs.2.2.2.1
  have hm2 := vol_bounds hs hd0 hd1
  have hw := wrap_small (w * h) (by omega) (by omega)
  have hw2 := wrap_small (w * h * d) (by omega) (by omega)
  have hn2 : (n : Int) ≤ 2048 := by omega
  have hle : w * h * d ≤ 2048 := hm2.2
  clear hm1 hm2
  have HS := Lib.hid hs
  clear hs he
  go_enter Try.func90, Try.ntmps90
  go_wp2_with (first | (go_at_call 110; refine (sizeOk_yes _ _ _ HS.out).mono ?_; rintro e w' ⟨rfl, rfl⟩) | go_in)
  go_ret
  exact ⟨rfl, (Ext.refl _).alloc _⟩
theorem ValidVolume_no1 (w h d : Int) (A : Option Addr) (n c : Nat) (W : World) (hn : n ≤ maxLen) (hv : ¬ Sz w h) :
    Calls Try.prog 90 #[.agg #[.int .i64 w, .int .i64 h, .int .i64 d, .slice A n c]] W fun e W' => e = .returned (.bool false) ∧ Ext W W' := by
  unfold maxLen at hn
  have HS := Lib.hid hv
  clear hv
  go_enter Try.func90, Try.ntmps90
  go_wp2_with (first | (go_at_call 110; refine (sizeOk_no _ _ _ HS.out).mono ?_; rintro e w' ⟨rfl, rfl⟩) | go_in)
  go_ret
  exact ⟨rfl, (Ext.refl _).alloc _⟩
theorem ValidVolume_no2 (w h d : Int) (A : Option Addr) (n c : Nat) (W : World) (hn : n ≤ maxLen) (hs : Sz w h) (hv : d < 1) :
    Calls Try.prog 90 #[.agg #[.int .i64 w, .int .i64 h, .int .i64 d, .slice A n c]] W fun e W' => e = .returned (.bool false) ∧ Ext W W' := by
  unfold maxLen at hn
  have hd0 : ¬ 1 ≤ d := by omega
  have HS := Lib.hid hs
  clear hs hv
  go_enter Try.func90, Try.ntmps90
  go_wp2_with (first | (go_at_call 110; refine (sizeOk_yes _ _ _ HS.out).mono ?_; rintro e w' ⟨rfl, rfl⟩) | go_in)
  go_ret
  exact ⟨rfl, (Ext.refl _).alloc _⟩
theorem ValidVolume_no3 (w h d : Int) (A : Option Addr) (n c : Nat) (W : World) (hn : n ≤ maxLen) (hs : Sz w h) (hv : 8 < d) :
    Calls Try.prog 90 #[.agg #[.int .i64 w, .int .i64 h, .int .i64 d, .slice A n c]] W fun e W' => e = .returned (.bool false) ∧ Ext W W' := by
  unfold maxLen at hn
  have hd0 : 1 ≤ d := by omega
  have hd1 : ¬ d ≤ 8 := by omega
  have HS := Lib.hid hs
  clear hs hv
  go_enter Try.func90, Try.ntmps90
  go_wp2_with (first | (go_at_call 110; refine (sizeOk_yes _ _ _ HS.out).mono ?_; rintro e w' ⟨rfl, rfl⟩) | go_in)
  go_ret
  exact ⟨rfl, (Ext.refl _).alloc _⟩
theorem ValidVolume_no4 (w h d : Int) (A : Option Addr) (n c : Nat) (W : World) (hn : n ≤ maxLen) (hs : Sz w h) (hd0 : 1 ≤ d) (hd1 : d ≤ 8) (hv : (n : Int) ≠ w * h * d) :
    Calls Try.prog 90 #[.agg #[.int .i64 w, .int .i64 h, .int .i64 d, .slice A n c]] W fun e W' => e = .returned (.bool false) ∧ Ext W W' := by
  unfold maxLen at hn
  have he' : ((n : Int) == w * h * d) = false := by simpa using hv
  have hm1 := mul_bounds hs.1 hs.2.1 hs.2.2.1 hs.2.2.2.1
  have hm2 := vol_bounds hs hd0 hd1
  have hw := wrap_small (w * h) (by omega) (by omega)
  have hw2 := wrap_small (w * h * d) (by omega) (by omega)
  have hle : w * h * d ≤ 2048 := hm2.2
  clear hm1 hm2
  have HS := Lib.hid hs
  clear hs hv
  go_enter Try.func90, Try.ntmps90
  go_wp2_with (first | (go_at_call 110; refine (sizeOk_yes _ _ _ HS.out).mono ?_; rintro e w' ⟨rfl, rfl⟩) | go_in)
  go_ret
  exact ⟨rfl, (Ext.refl _).alloc _⟩
theorem ValidVolume_not (w h d : Int) (A : Option Addr) (n c : Nat) (W : World) (hn : n ≤ maxLen) (hv : ¬ VVol w h d n) :
    Calls Try.prog 90 #[.agg #[.int .i64 w, .int .i64 h, .int .i64 d, .slice A n c]] W fun e W' => e = .returned (.bool false) ∧ Ext W W' := by
  by_cases hs : Sz w h
  · by_cases h0 : d < 1
    · exact ValidVolume_no2 w h d A n c W hn hs h0
    · by_cases h1 : 8 < d
      · exact ValidVolume_no3 w h d A n c W hn hs h1
      · exact ValidVolume_no4 w h d A n c W hn hs (by omega) (by omega) (fun he => hv ⟨hs, by omega, by omega, he⟩)
  · exact ValidVolume_no1 w h d A n c W hn hs
end Go.Proofs.Ytgpobhpcbgenoaa
