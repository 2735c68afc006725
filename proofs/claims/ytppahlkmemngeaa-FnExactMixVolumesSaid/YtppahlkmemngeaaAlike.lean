/- Contracts: two volumes of one size. -/
import Derived.Test.YtppahlkmemngeaaValid
import Derived.Test.YtppahlkmemngeaaCube
namespace Go.Proofs.Ytppahlkmemngeaa
open Go.RowKit
set_option linter.unusedVariables false

theorem three_ne {w h d w' h' d' : Int} (hne : ¬ (w = w' ∧ h = h' ∧ d = d')) : (w == w') = false ∨ (w = w' ∧ (h == h') = false) ∨ (w = w' ∧ h = h' ∧ (d == d') = false) := by
  by_cases h0 : w = w'
  · by_cases h1 : h = h'
    · by_cases h2 : d = d'
      · exact absurd ⟨h0, h1, h2⟩ hne
      · exact .inr (.inr ⟨h0, h1, by simpa using h2⟩)
    · exact .inr (.inl ⟨h0, by simpa using h1⟩)
  · exact .inl (by simpa using h0)
theorem alike_yes (w h d : Int) (A A' : Option Addr) (n n' m m' : Nat) (U : World) (hn : n ≤ maxLen) (hn' : n' ≤ maxLen) (hv : VVol w h d n) (hv' : VVol w h d n') :
    Calls Try.prog 72 #[.agg #[.int .i64 w, .int .i64 h, .int .i64 d, .slice A n m], .agg #[.int .i64 w, .int .i64 h, .int .i64 d, .slice A' n' m']] U fun e U' => e = .returned (.bool true) ∧ Ext U U' := by
  have HV := Lib.hid hv
  have HV' := Lib.hid hv'
  clear hv hv'
  go_enter Try.func72, Try.ntmps72
  go_wp2_with fail
  refine calls_at (X := fun w' => Ext U w' ∧ Box4 w' U.heap.size (.int .i64 w) (.int .i64 h) (.int .i64 d) (.slice A n m) ∧ Box4 w' (U.heap.size + 1) (.int .i64 w) (.int .i64 h) (.int .i64 d) (.slice A' n' m')) ⟨((Ext.refl _).alloc _).alloc _, ⟨by simp [go_sem], by simp [go_sem], by simp [go_sem], by simp [go_sem]⟩, ⟨by simp [go_sem], by simp [go_sem], by simp [go_sem], by simp [go_sem]⟩⟩ ?_
  rintro w0 ⟨hx0, hb0, hd0⟩
  refine (ValidVolume_yes _ _ _ A n m _ hn HV.out).mono ?_
  rintro e w1 ⟨rfl, hx⟩
  have hb := hb0.ext hx
  have hd := hd0.ext hx
  have hE := hx0.trans hx
  clear hx hx0 hb0 hd0
  have ⟨p0, p1, p2, p3⟩ := hb
  have ⟨q0, q1, q2, q3⟩ := hd
  go_wp2_with fail
  clear p0 p1 p2 p3 q0 q1 q2 q3
  refine (ValidVolume_yes _ _ _ A' n' m' _ hn' HV'.out).mono ?_
  rintro e w2 ⟨rfl, hx⟩
  have ⟨p0, p1, p2, p3⟩ := hb.ext hx
  have ⟨q0, q1, q2, q3⟩ := hd.ext hx
  have hE2 := hE.trans hx
  clear hx hb hd hE
  go_wp2
  go_ret
  exact ⟨rfl, hE2⟩
theorem alike_no1 (w h d w' h' d' : Int) (A A' : Option Addr) (n n' m m' : Nat) (U : World) (hn : n ≤ maxLen) (hv : ¬ VVol w h d n) :
    Calls Try.prog 72 #[.agg #[.int .i64 w, .int .i64 h, .int .i64 d, .slice A n m], .agg #[.int .i64 w', .int .i64 h', .int .i64 d', .slice A' n' m']] U fun e U' => e = .returned (.bool false) ∧ Ext U U' := by
  have HV := Lib.hid hv
  clear hv
  go_enter Try.func72, Try.ntmps72
  go_wp2_with fail
  refine calls_at (X := fun u' => Ext U u') (((Ext.refl _).alloc _).alloc _) ?_
  rintro w0 hx0
  refine (ValidVolume_not _ _ _ A n m _ hn HV.out).mono ?_
  rintro e w1 ⟨rfl, hx⟩
  have hE := hx0.trans hx
  clear hx hx0
  go_wp2
  go_ret
  exact ⟨rfl, hE⟩
theorem alike_no2 (w h d w' h' d' : Int) (A A' : Option Addr) (n n' m m' : Nat) (U : World) (hn : n ≤ maxLen) (hn' : n' ≤ maxLen) (hv : VVol w h d n) (hv' : ¬ VVol w' h' d' n') :
    Calls Try.prog 72 #[.agg #[.int .i64 w, .int .i64 h, .int .i64 d, .slice A n m], .agg #[.int .i64 w', .int .i64 h', .int .i64 d', .slice A' n' m']] U fun e U' => e = .returned (.bool false) ∧ Ext U U' := by
  have HV := Lib.hid hv
  have HV' := Lib.hid hv'
  clear hv hv'
  go_enter Try.func72, Try.ntmps72
  go_wp2_with fail
  refine calls_at (X := fun u' => Ext U u' ∧ Box4 u' (U.heap.size + 1) (.int .i64 w') (.int .i64 h') (.int .i64 d') (.slice A' n' m')) ⟨((Ext.refl _).alloc _).alloc _, ⟨by simp [go_sem], by simp [go_sem], by simp [go_sem], by simp [go_sem]⟩⟩ ?_
  rintro w0 ⟨hx0, hd0⟩
  refine (ValidVolume_yes _ _ _ A n m _ hn HV.out).mono ?_
  rintro e w1 ⟨rfl, hx⟩
  have ⟨q0, q1, q2, q3⟩ := hd0.ext hx
  have hE := hx0.trans hx
  clear hx hx0 hd0
  go_wp2_with fail
  clear q0 q1 q2 q3
  refine (ValidVolume_not _ _ _ A' n' m' _ hn' HV'.out).mono ?_
  rintro e w2 ⟨rfl, hx⟩
  have hE2 := hE.trans hx
  clear hx hE
  go_wp2
  go_ret
  exact ⟨rfl, hE2⟩
theorem alike_no3 (w h d w' h' d' : Int) (A A' : Option Addr) (n n' m m' : Nat) (U : World) (hn : n ≤ maxLen) (hn' : n' ≤ maxLen) (hv : VVol w h d n) (hv' : VVol w' h' d' n') (hne : ¬ (w = w' ∧ h = h' ∧ d = d')) :
    Calls Try.prog 72 #[.agg #[.int .i64 w, .int .i64 h, .int .i64 d, .slice A n m], .agg #[.int .i64 w', .int .i64 h', .int .i64 d', .slice A' n' m']] U fun e U' => e = .returned (.bool false) ∧ Ext U U' := by
  have HV := Lib.hid hv
  have HV' := Lib.hid hv'
  clear hv hv'
  have h3 := three_ne hne
  clear hne
  rcases h3 with e0 | ⟨rfl, e1⟩ | ⟨rfl, rfl, e2⟩
  all_goals
    go_enter Try.func72, Try.ntmps72
    go_wp2_with fail
    refine calls_at (X := fun u' => Ext U u' ∧ Box4 u' U.heap.size (.int .i64 _) (.int .i64 _) (.int .i64 _) (.slice A n m) ∧ Box4 u' (U.heap.size + 1) (.int .i64 _) (.int .i64 _) (.int .i64 _) (.slice A' n' m')) ⟨((Ext.refl _).alloc _).alloc _, ⟨by simp [go_sem]; rfl, by simp [go_sem]; rfl, by simp [go_sem]; rfl, by simp [go_sem]⟩, ⟨by simp [go_sem]; rfl, by simp [go_sem]; rfl, by simp [go_sem]; rfl, by simp [go_sem]⟩⟩ ?_
    rintro w0 ⟨hx0, hb0, hd0⟩
    refine (ValidVolume_yes _ _ _ A n m _ hn HV.out).mono ?_
    rintro e w1 ⟨rfl, hx⟩
    have hb := hb0.ext hx
    have hd := hd0.ext hx
    have hE := hx0.trans hx
    clear hx hx0 hb0 hd0
    have ⟨p0, p1, p2, p3⟩ := hb
    have ⟨q0, q1, q2, q3⟩ := hd
    go_wp2_with fail
    clear p0 p1 p2 p3 q0 q1 q2 q3
    refine (ValidVolume_yes _ _ _ A' n' m' _ hn' HV'.out).mono ?_
    rintro e w2 ⟨rfl, hx⟩
    have ⟨p0, p1, p2, p3⟩ := hb.ext hx
    have ⟨q0, q1, q2, q3⟩ := hd.ext hx
    have hE2 := hE.trans hx
    clear hx hb hd hE
    go_wp2
    go_ret
    exact ⟨rfl, hE2⟩
theorem alike_no (w h d w' h' d' : Int) (A A' : Option Addr) (n n' m m' : Nat) (U : World) (hn : n ≤ maxLen) (hn' : n' ≤ maxLen) (hno : ¬ (VVol w h d n ∧ VVol w' h' d' n' ∧ w = w' ∧ h = h' ∧ d = d')) :
    Calls Try.prog 72 #[.agg #[.int .i64 w, .int .i64 h, .int .i64 d, .slice A n m], .agg #[.int .i64 w', .int .i64 h', .int .i64 d', .slice A' n' m']] U fun e U' => e = .returned (.bool false) ∧ Ext U U' := by
  by_cases h1 : VVol w h d n
  · by_cases h2 : VVol w' h' d' n'
    · exact alike_no3 w h d w' h' d' A A' n n' m m' U hn hn' h1 h2 (fun h3 => hno ⟨h1, h2, h3⟩)
    · exact alike_no2 w h d w' h' d' A A' n n' m m' U hn hn' h1 h2
  · exact alike_no1 w h d w' h' d' A A' n n' m m' U hn h1
theorem l03Alike_yes (g g' : Nat) (w h d : Int) (A A' : Option Addr) (n n' m m' : Nat) (U : World) (hn : n ≤ maxLen) (hn' : n' ≤ maxLen) (hB : Box4 U g (.int .i64 w) (.int .i64 h) (.int .i64 d) (.slice A n m)) (hB' : Box4 U g' (.int .i64 w) (.int .i64 h) (.int .i64 d) (.slice A' n' m')) (hv : VVol w h d n) (hv' : VVol w h d n') :
    Calls Try.prog 71 #[.pointer (some ⟨g, 0, none⟩), .pointer (some ⟨g', 0, none⟩)] U fun e U' => e = .returned (.bool true) ∧ Ext U U' := by
  have H1 := Lib.hid (fun (W : World) (hx : Ext U W) => (let b := hB.ext hx; l03Is_yes g w h d A n m W hn b.1 b.2.1 b.2.2.1 b.2.2.2 hv))
  have H2 := Lib.hid (fun (W : World) (hx : Ext U W) => (let b := hB'.ext hx; l03Is_yes g' w h d A' n' m' W hn' b.1 b.2.1 b.2.2.1 b.2.2.2 hv'))
  obtain ⟨p0, p1, p2, p3⟩ := hB
  obtain ⟨q0, q1, q2, q3⟩ := hB'
  clear hv hv'
  go_enter Try.func71, Try.ntmps71
  go_wp2_with fail
  refine region_wx 39 [] (by kernel_rfl) (by kernel_rfl) ?_
  simp only [List.take_succ_cons, List.take_zero, List.drop_succ_cons, List.drop_zero]
  repeat ((first | refine wx_skip rfl ?_ | refine wx_nilCheck rfl rfl _ rfl _ rfl ?_ | (refine wx_float rfl rfl _ _ _ _ _ _ _ rfl rfl rfl rfl ?_; intro r hr) | (refine wx_k rfl rfl rfl (fun K hK => ?_); go_big_quiet_op; refine hK _ ?_; clear hK K) | (refine wx_call rfl rfl 51 _ _ rfl (by kernel_rfl) (by kernel_rfl) (.bool true) (fun W hW hF => ?_) ?_; go_simp; (with_reducible refine (H1.out W hW).mono ?_); rintro e w' h; exact h) | (refine wx_call rfl rfl 51 _ _ rfl (by kernel_rfl) (by kernel_rfl) (.bool true) (fun W hW hF => ?_) ?_; go_simp; (with_reducible refine (H2.out W hW).mono ?_); rintro e w' h; exact h)); (try simp only [Act.put, List.setIfInBounds_toArray, List.set_cons_zero, List.set_cons_succ]); (try simp only [List.tail_nil]))
  refine wx_nil (fun W hW hF => ?_)
  go_wp2
  go_ret
  exact ⟨rfl, hW⟩
theorem l03Alike_no1 (g g' : Nat) (w h d w' h' d' : Int) (A A' : Option Addr) (n n' m m' : Nat) (U : World) (hn : n ≤ maxLen) (hn' : n' ≤ maxLen) (hB : Box4 U g (.int .i64 w) (.int .i64 h) (.int .i64 d) (.slice A n m)) (hB' : Box4 U g' (.int .i64 w') (.int .i64 h') (.int .i64 d') (.slice A' n' m')) (hv : ¬ VVol w h d n) :
    Calls Try.prog 71 #[.pointer (some ⟨g, 0, none⟩), .pointer (some ⟨g', 0, none⟩)] U fun e U' => e = .returned (.bool false) ∧ Ext U U' := by
  have H1 := Lib.hid (fun (W : World) (hx : Ext U W) => (let b := hB.ext hx; l03Is_not g w h d A n m W hn b.1 b.2.1 b.2.2.1 b.2.2.2 hv))
  clear hv hB hB'
  go_enter Try.func71, Try.ntmps71
  go_wp2_with fail
  refine region_wx 39 [] (by kernel_rfl) (by kernel_rfl) ?_
  simp only [List.take_succ_cons, List.take_zero, List.drop_succ_cons, List.drop_zero]
  repeat ((first | refine wx_skip rfl ?_ | refine wx_nilCheck rfl rfl _ rfl _ rfl ?_ | (refine wx_float rfl rfl _ _ _ _ _ _ _ rfl rfl rfl rfl ?_; intro r hr) | (refine wx_k rfl rfl rfl (fun K hK => ?_); go_big_quiet_op; refine hK _ ?_; clear hK K) | (refine wx_call rfl rfl 51 _ _ rfl (by kernel_rfl) (by kernel_rfl) (.bool false) (fun W hW hF => ?_) ?_; go_simp; (with_reducible refine (H1.out W hW).mono ?_); rintro e w' h; exact h)); (try simp only [Act.put, List.setIfInBounds_toArray, List.set_cons_zero, List.set_cons_succ]); (try simp only [List.tail_nil]))
  refine wx_nil (fun W hW hF => ?_)
  go_wp2
  go_ret
  exact ⟨rfl, hW⟩
theorem l03Alike_no2 (g g' : Nat) (w h d w' h' d' : Int) (A A' : Option Addr) (n n' m m' : Nat) (U : World) (hn : n ≤ maxLen) (hn' : n' ≤ maxLen) (hB : Box4 U g (.int .i64 w) (.int .i64 h) (.int .i64 d) (.slice A n m)) (hB' : Box4 U g' (.int .i64 w') (.int .i64 h') (.int .i64 d') (.slice A' n' m')) (hv : VVol w h d n) (hv' : ¬ VVol w' h' d' n') (hne : g ≠ g') :
    Calls Try.prog 71 #[.pointer (some ⟨g, 0, none⟩), .pointer (some ⟨g', 0, none⟩)] U fun e U' => e = .returned (.bool false) ∧ Ext U U' := by
  have H1 := Lib.hid (fun (W : World) (hx : Ext U W) => (let b := hB.ext hx; l03Is_yes g w h d A n m W hn b.1 b.2.1 b.2.2.1 b.2.2.2 hv))
  have H2 := Lib.hid (fun (W : World) (hx : Ext U W) => (let b := hB'.ext hx; l03Is_not g' w' h' d' A' n' m' W hn' b.1 b.2.1 b.2.2.1 b.2.2.2 hv'))
  clear hv hv' hB hB'
  go_enter Try.func71, Try.ntmps71
  go_wp2_with fail
  refine region_wx 39 [] (by kernel_rfl) (by kernel_rfl) ?_
  simp only [List.take_succ_cons, List.take_zero, List.drop_succ_cons, List.drop_zero]
  repeat ((first | refine wx_skip rfl ?_ | refine wx_nilCheck rfl rfl _ rfl _ rfl ?_ | (refine wx_float rfl rfl _ _ _ _ _ _ _ rfl rfl rfl rfl ?_; intro r hr) | (refine wx_k rfl rfl rfl (fun K hK => ?_); go_big_quiet_op; refine hK _ ?_; clear hK K) | (refine wx_call rfl rfl 51 _ _ rfl (by kernel_rfl) (by kernel_rfl) (.bool true) (fun W hW hF => ?_) ?_; go_simp; (with_reducible refine (H1.out W hW).mono ?_); rintro e w' h; exact h) | (refine wx_call rfl rfl 51 _ _ rfl (by kernel_rfl) (by kernel_rfl) (.bool false) (fun W hW hF => ?_) ?_; go_simp; (with_reducible refine (H2.out W hW).mono ?_); rintro e w' h; exact h)); (try simp only [Act.put, List.setIfInBounds_toArray, List.set_cons_zero, List.set_cons_succ]); (try simp only [List.tail_nil]))
  refine wx_nil (fun W hW hF => ?_)
  go_wp2
  go_ret
  exact ⟨rfl, hW⟩
theorem l03Alike_no3 (g g' : Nat) (w h d w' h' d' : Int) (A A' : Option Addr) (n n' m m' : Nat) (U : World) (hn : n ≤ maxLen) (hn' : n' ≤ maxLen) (hB : Box4 U g (.int .i64 w) (.int .i64 h) (.int .i64 d) (.slice A n m)) (hB' : Box4 U g' (.int .i64 w') (.int .i64 h') (.int .i64 d') (.slice A' n' m')) (hv : VVol w h d n) (hv' : VVol w' h' d' n') (hne : ¬ (w = w' ∧ h = h' ∧ d = d')) :
    Calls Try.prog 71 #[.pointer (some ⟨g, 0, none⟩), .pointer (some ⟨g', 0, none⟩)] U fun e U' => e = .returned (.bool false) ∧ Ext U U' := by
  have H1 := Lib.hid (fun (W : World) (hx : Ext U W) => (let b := hB.ext hx; l03Is_yes g w h d A n m W hn b.1 b.2.1 b.2.2.1 b.2.2.2 hv))
  have H2 := Lib.hid (fun (W : World) (hx : Ext U W) => (let b := hB'.ext hx; l03Is_yes g' w' h' d' A' n' m' W hn' b.1 b.2.1 b.2.2.1 b.2.2.2 hv'))
  have h3 := three_ne hne
  clear hne hv hv'
  obtain ⟨p0, p1, p2, p3⟩ := hB
  obtain ⟨q0, q1, q2, q3⟩ := hB'
  rcases h3 with e0 | ⟨rfl, e1⟩ | ⟨rfl, rfl, e2⟩
  · go_enter Try.func71, Try.ntmps71
    go_wp2_with fail
    refine region_wx 39 [] (by kernel_rfl) (by kernel_rfl) ?_
    simp only [List.take_succ_cons, List.take_zero, List.drop_succ_cons, List.drop_zero]
    repeat ((first | refine wx_skip rfl ?_ | refine wx_nilCheck rfl rfl _ rfl _ rfl ?_ | (refine wx_float rfl rfl _ _ _ _ _ _ _ rfl rfl rfl rfl ?_; intro r hr) | (refine wx_k rfl rfl rfl (fun K hK => ?_); go_big_quiet_op; refine hK _ ?_; clear hK K) | (refine wx_call rfl rfl 51 _ _ rfl (by kernel_rfl) (by kernel_rfl) (.bool true) (fun W hW hF => ?_) ?_; go_simp; (with_reducible refine (H1.out W hW).mono ?_); rintro e w' h; exact h) | (refine wx_call rfl rfl 51 _ _ rfl (by kernel_rfl) (by kernel_rfl) (.bool true) (fun W hW hF => ?_) ?_; go_simp; (with_reducible refine (H2.out W hW).mono ?_); rintro e w' h; exact h)); (try simp only [Act.put, List.setIfInBounds_toArray, List.set_cons_zero, List.set_cons_succ]); (try simp only [List.tail_nil]))
    refine wx_nil (fun W hW hF => ?_)
    go_wp2
    go_ret
    exact ⟨rfl, hW⟩
  · go_enter Try.func71, Try.ntmps71
    go_wp2_with fail
    refine region_wx 39 [] (by kernel_rfl) (by kernel_rfl) ?_
    simp only [List.take_succ_cons, List.take_zero, List.drop_succ_cons, List.drop_zero]
    repeat ((first | refine wx_skip rfl ?_ | refine wx_nilCheck rfl rfl _ rfl _ rfl ?_ | (refine wx_float rfl rfl _ _ _ _ _ _ _ rfl rfl rfl rfl ?_; intro r hr) | (refine wx_k rfl rfl rfl (fun K hK => ?_); go_big_quiet_op; refine hK _ ?_; clear hK K) | (refine wx_call rfl rfl 51 _ _ rfl (by kernel_rfl) (by kernel_rfl) (.bool true) (fun W hW hF => ?_) ?_; go_simp; (with_reducible refine (H1.out W hW).mono ?_); rintro e w' h; exact h) | (refine wx_call rfl rfl 51 _ _ rfl (by kernel_rfl) (by kernel_rfl) (.bool true) (fun W hW hF => ?_) ?_; go_simp; (with_reducible refine (H2.out W hW).mono ?_); rintro e w' h; exact h)); (try simp only [Act.put, List.setIfInBounds_toArray, List.set_cons_zero, List.set_cons_succ]); (try simp only [List.tail_nil]))
    refine wx_nil (fun W hW hF => ?_)
    go_wp2
    go_ret
    exact ⟨rfl, hW⟩
  · go_enter Try.func71, Try.ntmps71
    go_wp2_with fail
    refine region_wx 39 [] (by kernel_rfl) (by kernel_rfl) ?_
    simp only [List.take_succ_cons, List.take_zero, List.drop_succ_cons, List.drop_zero]
    repeat ((first | refine wx_skip rfl ?_ | refine wx_nilCheck rfl rfl _ rfl _ rfl ?_ | (refine wx_float rfl rfl _ _ _ _ _ _ _ rfl rfl rfl rfl ?_; intro r hr) | (refine wx_k rfl rfl rfl (fun K hK => ?_); go_big_quiet_op; refine hK _ ?_; clear hK K) | (refine wx_call rfl rfl 51 _ _ rfl (by kernel_rfl) (by kernel_rfl) (.bool true) (fun W hW hF => ?_) ?_; go_simp; (with_reducible refine (H1.out W hW).mono ?_); rintro e w' h; exact h) | (refine wx_call rfl rfl 51 _ _ rfl (by kernel_rfl) (by kernel_rfl) (.bool true) (fun W hW hF => ?_) ?_; go_simp; (with_reducible refine (H2.out W hW).mono ?_); rintro e w' h; exact h)); (try simp only [Act.put, List.setIfInBounds_toArray, List.set_cons_zero, List.set_cons_succ]); (try simp only [List.tail_nil]))
    refine wx_nil (fun W hW hF => ?_)
    go_wp2
    go_ret
    exact ⟨rfl, hW⟩
theorem l03Alike_no (g g' : Nat) (w h d w' h' d' : Int) (A A' : Option Addr) (n n' m m' : Nat) (U : World) (hn : n ≤ maxLen) (hn' : n' ≤ maxLen) (hB : Box4 U g (.int .i64 w) (.int .i64 h) (.int .i64 d) (.slice A n m)) (hB' : Box4 U g' (.int .i64 w') (.int .i64 h') (.int .i64 d') (.slice A' n' m')) (hg : g ≠ g') (hno : ¬ (VVol w h d n ∧ VVol w' h' d' n' ∧ w = w' ∧ h = h' ∧ d = d')) :
    Calls Try.prog 71 #[.pointer (some ⟨g, 0, none⟩), .pointer (some ⟨g', 0, none⟩)] U fun e U' => e = .returned (.bool false) ∧ Ext U U' := by
  by_cases h1 : VVol w h d n
  · by_cases h2 : VVol w' h' d' n'
    · exact l03Alike_no3 g g' w h d w' h' d' A A' n n' m m' U hn hn' hB hB' h1 h2 (fun h3 => hno ⟨h1, h2, h3⟩)
    · exact l03Alike_no2 g g' w h d w' h' d' A A' n n' m m' U hn hn' hB hB' h1 h2 hg
  · exact l03Alike_no1 g g' w h d w' h' d' A A' n n' m m' U hn hn' hB hB' h1
theorem l04Sizes_yes (g g' : Nat) (w h d : Int) (A A' : Option Addr) (n n' m m' : Nat) (U : World) (hn : n ≤ maxLen) (hn' : n' ≤ maxLen) (hB : Box4 U g (.int .i64 w) (.int .i64 h) (.int .i64 d) (.slice A n m)) (hB' : Box4 U g' (.int .i64 w) (.int .i64 h) (.int .i64 d) (.slice A' n' m')) (hv : VVol w h d n) (hv' : VVol w h d n') :
    Calls Try.prog 74 #[.pointer (some ⟨g, 0, none⟩), .pointer (some ⟨g', 0, none⟩)] U fun e U' => e = .returned (.bool true) ∧ Ext U U' := by
  have H1 := Lib.hid (fun (W : World) (hx : Ext U W) => (let b := hB.ext hx; l03Is_yes g w h d A n m W hn b.1 b.2.1 b.2.2.1 b.2.2.2 hv))
  have H2 := Lib.hid (fun (W : World) (hx : Ext U W) => (let b := hB'.ext hx; l03Is_yes g' w h d A' n' m' W hn' b.1 b.2.1 b.2.2.1 b.2.2.2 hv'))
  obtain ⟨p0, p1, p2, p3⟩ := hB
  obtain ⟨q0, q1, q2, q3⟩ := hB'
  clear hv hv'
  go_enter Try.func74, Try.ntmps74
  go_wp2_with fail
  refine region_wx 39 [] (by kernel_rfl) (by kernel_rfl) ?_
  simp only [List.take_succ_cons, List.take_zero, List.drop_succ_cons, List.drop_zero]
  repeat ((first | refine wx_skip rfl ?_ | refine wx_nilCheck rfl rfl _ rfl _ rfl ?_ | (refine wx_float rfl rfl _ _ _ _ _ _ _ rfl rfl rfl rfl ?_; intro r hr) | (refine wx_k rfl rfl rfl (fun K hK => ?_); go_big_quiet_op; refine hK _ ?_; clear hK K) | (refine wx_call rfl rfl 51 _ _ rfl (by kernel_rfl) (by kernel_rfl) (.bool true) (fun W hW hF => ?_) ?_; go_simp; (with_reducible refine (H1.out W hW).mono ?_); rintro e w' h; exact h) | (refine wx_call rfl rfl 51 _ _ rfl (by kernel_rfl) (by kernel_rfl) (.bool true) (fun W hW hF => ?_) ?_; go_simp; (with_reducible refine (H2.out W hW).mono ?_); rintro e w' h; exact h)); (try simp only [Act.put, List.setIfInBounds_toArray, List.set_cons_zero, List.set_cons_succ]); (try simp only [List.tail_nil]))
  refine wx_nil (fun W hW hF => ?_)
  go_wp2
  go_ret
  exact ⟨rfl, hW⟩
theorem l04Sizes_no1 (g g' : Nat) (w h d w' h' d' : Int) (A A' : Option Addr) (n n' m m' : Nat) (U : World) (hn : n ≤ maxLen) (hn' : n' ≤ maxLen) (hB : Box4 U g (.int .i64 w) (.int .i64 h) (.int .i64 d) (.slice A n m)) (hB' : Box4 U g' (.int .i64 w') (.int .i64 h') (.int .i64 d') (.slice A' n' m')) (hv : ¬ VVol w h d n) :
    Calls Try.prog 74 #[.pointer (some ⟨g, 0, none⟩), .pointer (some ⟨g', 0, none⟩)] U fun e U' => e = .returned (.bool false) ∧ Ext U U' := by
  have H1 := Lib.hid (fun (W : World) (hx : Ext U W) => (let b := hB.ext hx; l03Is_not g w h d A n m W hn b.1 b.2.1 b.2.2.1 b.2.2.2 hv))
  clear hv hB hB'
  go_enter Try.func74, Try.ntmps74
  go_wp2_with fail
  refine region_wx 39 [] (by kernel_rfl) (by kernel_rfl) ?_
  simp only [List.take_succ_cons, List.take_zero, List.drop_succ_cons, List.drop_zero]
  repeat ((first | refine wx_skip rfl ?_ | refine wx_nilCheck rfl rfl _ rfl _ rfl ?_ | (refine wx_float rfl rfl _ _ _ _ _ _ _ rfl rfl rfl rfl ?_; intro r hr) | (refine wx_k rfl rfl rfl (fun K hK => ?_); go_big_quiet_op; refine hK _ ?_; clear hK K) | (refine wx_call rfl rfl 51 _ _ rfl (by kernel_rfl) (by kernel_rfl) (.bool false) (fun W hW hF => ?_) ?_; go_simp; (with_reducible refine (H1.out W hW).mono ?_); rintro e w' h; exact h)); (try simp only [Act.put, List.setIfInBounds_toArray, List.set_cons_zero, List.set_cons_succ]); (try simp only [List.tail_nil]))
  refine wx_nil (fun W hW hF => ?_)
  go_wp2
  go_ret
  exact ⟨rfl, hW⟩
theorem l04Sizes_no2 (g g' : Nat) (w h d w' h' d' : Int) (A A' : Option Addr) (n n' m m' : Nat) (U : World) (hn : n ≤ maxLen) (hn' : n' ≤ maxLen) (hB : Box4 U g (.int .i64 w) (.int .i64 h) (.int .i64 d) (.slice A n m)) (hB' : Box4 U g' (.int .i64 w') (.int .i64 h') (.int .i64 d') (.slice A' n' m')) (hv : VVol w h d n) (hv' : ¬ VVol w' h' d' n') (hne : g ≠ g') :
    Calls Try.prog 74 #[.pointer (some ⟨g, 0, none⟩), .pointer (some ⟨g', 0, none⟩)] U fun e U' => e = .returned (.bool false) ∧ Ext U U' := by
  have H1 := Lib.hid (fun (W : World) (hx : Ext U W) => (let b := hB.ext hx; l03Is_yes g w h d A n m W hn b.1 b.2.1 b.2.2.1 b.2.2.2 hv))
  have H2 := Lib.hid (fun (W : World) (hx : Ext U W) => (let b := hB'.ext hx; l03Is_not g' w' h' d' A' n' m' W hn' b.1 b.2.1 b.2.2.1 b.2.2.2 hv'))
  clear hv hv' hB hB'
  go_enter Try.func74, Try.ntmps74
  go_wp2_with fail
  refine region_wx 39 [] (by kernel_rfl) (by kernel_rfl) ?_
  simp only [List.take_succ_cons, List.take_zero, List.drop_succ_cons, List.drop_zero]
  repeat ((first | refine wx_skip rfl ?_ | refine wx_nilCheck rfl rfl _ rfl _ rfl ?_ | (refine wx_float rfl rfl _ _ _ _ _ _ _ rfl rfl rfl rfl ?_; intro r hr) | (refine wx_k rfl rfl rfl (fun K hK => ?_); go_big_quiet_op; refine hK _ ?_; clear hK K) | (refine wx_call rfl rfl 51 _ _ rfl (by kernel_rfl) (by kernel_rfl) (.bool true) (fun W hW hF => ?_) ?_; go_simp; (with_reducible refine (H1.out W hW).mono ?_); rintro e w' h; exact h) | (refine wx_call rfl rfl 51 _ _ rfl (by kernel_rfl) (by kernel_rfl) (.bool false) (fun W hW hF => ?_) ?_; go_simp; (with_reducible refine (H2.out W hW).mono ?_); rintro e w' h; exact h)); (try simp only [Act.put, List.setIfInBounds_toArray, List.set_cons_zero, List.set_cons_succ]); (try simp only [List.tail_nil]))
  refine wx_nil (fun W hW hF => ?_)
  go_wp2
  go_ret
  exact ⟨rfl, hW⟩
theorem l04Sizes_no3 (g g' : Nat) (w h d w' h' d' : Int) (A A' : Option Addr) (n n' m m' : Nat) (U : World) (hn : n ≤ maxLen) (hn' : n' ≤ maxLen) (hB : Box4 U g (.int .i64 w) (.int .i64 h) (.int .i64 d) (.slice A n m)) (hB' : Box4 U g' (.int .i64 w') (.int .i64 h') (.int .i64 d') (.slice A' n' m')) (hv : VVol w h d n) (hv' : VVol w' h' d' n') (hne : ¬ (w = w' ∧ h = h' ∧ d = d')) :
    Calls Try.prog 74 #[.pointer (some ⟨g, 0, none⟩), .pointer (some ⟨g', 0, none⟩)] U fun e U' => e = .returned (.bool false) ∧ Ext U U' := by
  have H1 := Lib.hid (fun (W : World) (hx : Ext U W) => (let b := hB.ext hx; l03Is_yes g w h d A n m W hn b.1 b.2.1 b.2.2.1 b.2.2.2 hv))
  have H2 := Lib.hid (fun (W : World) (hx : Ext U W) => (let b := hB'.ext hx; l03Is_yes g' w' h' d' A' n' m' W hn' b.1 b.2.1 b.2.2.1 b.2.2.2 hv'))
  have h3 := three_ne hne
  clear hne hv hv'
  obtain ⟨p0, p1, p2, p3⟩ := hB
  obtain ⟨q0, q1, q2, q3⟩ := hB'
  rcases h3 with e0 | ⟨rfl, e1⟩ | ⟨rfl, rfl, e2⟩
  · go_enter Try.func74, Try.ntmps74
    go_wp2_with fail
    refine region_wx 39 [] (by kernel_rfl) (by kernel_rfl) ?_
    simp only [List.take_succ_cons, List.take_zero, List.drop_succ_cons, List.drop_zero]
    repeat ((first | refine wx_skip rfl ?_ | refine wx_nilCheck rfl rfl _ rfl _ rfl ?_ | (refine wx_float rfl rfl _ _ _ _ _ _ _ rfl rfl rfl rfl ?_; intro r hr) | (refine wx_k rfl rfl rfl (fun K hK => ?_); go_big_quiet_op; refine hK _ ?_; clear hK K) | (refine wx_call rfl rfl 51 _ _ rfl (by kernel_rfl) (by kernel_rfl) (.bool true) (fun W hW hF => ?_) ?_; go_simp; (with_reducible refine (H1.out W hW).mono ?_); rintro e w' h; exact h) | (refine wx_call rfl rfl 51 _ _ rfl (by kernel_rfl) (by kernel_rfl) (.bool true) (fun W hW hF => ?_) ?_; go_simp; (with_reducible refine (H2.out W hW).mono ?_); rintro e w' h; exact h)); (try simp only [Act.put, List.setIfInBounds_toArray, List.set_cons_zero, List.set_cons_succ]); (try simp only [List.tail_nil]))
    refine wx_nil (fun W hW hF => ?_)
    go_wp2
    go_ret
    exact ⟨rfl, hW⟩
  · go_enter Try.func74, Try.ntmps74
    go_wp2_with fail
    refine region_wx 39 [] (by kernel_rfl) (by kernel_rfl) ?_
    simp only [List.take_succ_cons, List.take_zero, List.drop_succ_cons, List.drop_zero]
    repeat ((first | refine wx_skip rfl ?_ | refine wx_nilCheck rfl rfl _ rfl _ rfl ?_ | (refine wx_float rfl rfl _ _ _ _ _ _ _ rfl rfl rfl rfl ?_; intro r hr) | (refine wx_k rfl rfl rfl (fun K hK => ?_); go_big_quiet_op; refine hK _ ?_; clear hK K) | (refine wx_call rfl rfl 51 _ _ rfl (by kernel_rfl) (by kernel_rfl) (.bool true) (fun W hW hF => ?_) ?_; go_simp; (with_reducible refine (H1.out W hW).mono ?_); rintro e w' h; exact h) | (refine wx_call rfl rfl 51 _ _ rfl (by kernel_rfl) (by kernel_rfl) (.bool true) (fun W hW hF => ?_) ?_; go_simp; (with_reducible refine (H2.out W hW).mono ?_); rintro e w' h; exact h)); (try simp only [Act.put, List.setIfInBounds_toArray, List.set_cons_zero, List.set_cons_succ]); (try simp only [List.tail_nil]))
    refine wx_nil (fun W hW hF => ?_)
    go_wp2
    go_ret
    exact ⟨rfl, hW⟩
  · go_enter Try.func74, Try.ntmps74
    go_wp2_with fail
    refine region_wx 39 [] (by kernel_rfl) (by kernel_rfl) ?_
    simp only [List.take_succ_cons, List.take_zero, List.drop_succ_cons, List.drop_zero]
    repeat ((first | refine wx_skip rfl ?_ | refine wx_nilCheck rfl rfl _ rfl _ rfl ?_ | (refine wx_float rfl rfl _ _ _ _ _ _ _ rfl rfl rfl rfl ?_; intro r hr) | (refine wx_k rfl rfl rfl (fun K hK => ?_); go_big_quiet_op; refine hK _ ?_; clear hK K) | (refine wx_call rfl rfl 51 _ _ rfl (by kernel_rfl) (by kernel_rfl) (.bool true) (fun W hW hF => ?_) ?_; go_simp; (with_reducible refine (H1.out W hW).mono ?_); rintro e w' h; exact h) | (refine wx_call rfl rfl 51 _ _ rfl (by kernel_rfl) (by kernel_rfl) (.bool true) (fun W hW hF => ?_) ?_; go_simp; (with_reducible refine (H2.out W hW).mono ?_); rintro e w' h; exact h)); (try simp only [Act.put, List.setIfInBounds_toArray, List.set_cons_zero, List.set_cons_succ]); (try simp only [List.tail_nil]))
    refine wx_nil (fun W hW hF => ?_)
    go_wp2
    go_ret
    exact ⟨rfl, hW⟩
theorem l04Sizes_no (g g' : Nat) (w h d w' h' d' : Int) (A A' : Option Addr) (n n' m m' : Nat) (U : World) (hn : n ≤ maxLen) (hn' : n' ≤ maxLen) (hB : Box4 U g (.int .i64 w) (.int .i64 h) (.int .i64 d) (.slice A n m)) (hB' : Box4 U g' (.int .i64 w') (.int .i64 h') (.int .i64 d') (.slice A' n' m')) (hg : g ≠ g') (hno : ¬ (VVol w h d n ∧ VVol w' h' d' n' ∧ w = w' ∧ h = h' ∧ d = d')) :
    Calls Try.prog 74 #[.pointer (some ⟨g, 0, none⟩), .pointer (some ⟨g', 0, none⟩)] U fun e U' => e = .returned (.bool false) ∧ Ext U U' := by
  by_cases h1 : VVol w h d n
  · by_cases h2 : VVol w' h' d' n'
    · exact l04Sizes_no3 g g' w h d w' h' d' A A' n n' m m' U hn hn' hB hB' h1 h2 (fun h3 => hno ⟨h1, h2, h3⟩)
    · exact l04Sizes_no2 g g' w h d w' h' d' A A' n n' m m' U hn hn' hB hB' h1 h2 hg
  · exact l04Sizes_no1 g g' w h d w' h' d' A A' n n' m m' U hn hn' hB hB' h1
end Go.Proofs.Ytppahlkmemngeaa
