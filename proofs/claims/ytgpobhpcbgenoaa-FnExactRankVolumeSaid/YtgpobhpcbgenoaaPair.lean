/- Contracts: volumes of two pictures. -/
import Derived.Test.YtgpobhpcbgenoaaTwo
import Derived.Test.YtgpobhpcbgenoaaVolOf
namespace Go.Proofs.Ytgpobhpcbgenoaa
open Go.RowKit
set_option linter.unusedVariables false

theorem prod3 {w h d : Int} (hs : Sz w h) (h1 : 1 ≤ d) (h2 : d ≤ 8) : IntKind.i64.wrap (w * h) = w * h ∧ IntKind.i64.wrap (w * h * d) = w * h * d ∧ w * h * d ≤ 2048 := by
  have hb := mul_bounds hs.1 hs.2.1 hs.2.2.1 hs.2.2.2.1
  have hv := vol_bounds hs h1 h2
  exact ⟨wrap_small _ (by omega) (by omega), wrap_small _ (by omega) (by omega), hv.2⟩
theorem l03Pair_yes (g g' : Nat) (z0 z1 : Int) (A : Option Addr) (n c : Nat) (y0 y1 : Int) (A' : Option Addr) (n' c' : Nat) (d : Int) (U : World) (hn : n ≤ maxLen) (hn' : n' ≤ maxLen) (hB : Box3 U g (.int .i64 z0) (.int .i64 z1) (.slice A n c)) (hB' : Box3 U g' (.int .i64 y0) (.int .i64 y1) (.slice A' n' c')) (hv : VMap z0 z1 n) (hv' : VMap y0 y1 n') (e0 : z0 = y0) (e1 : z1 = y1) (hd : 1 ≤ d ∧ d ≤ 8) :
    Calls Try.prog 62 #[.pointer (some ⟨g, 0, none⟩), .pointer (some ⟨g', 0, none⟩), .int .i64 d] U fun e U' => e = .returned (.bool true) ∧ Ext U U' := by
  have H1 := Lib.hid (fun (W : World) (hx : Ext U W) => (let b := hB.ext hx; l02Is_yes g z0 z1 A n c W hn b.1 b.2.1 b.2.2 hv))
  have H2 := Lib.hid (fun (W : World) (hx : Ext U W) => (let b := hB'.ext hx; l02Is_yes g' y0 y1 A' n' c' W hn' b.1 b.2.1 b.2.2 hv'))
  have H3 := Lib.hid (fun (W : World) => l00In_yes d 1 8 W hd.1 hd.2)
  obtain ⟨e2, e3, e4⟩ := prod3 hv.1 hd.1 hd.2
  obtain ⟨p0, p1, p2⟩ := hB
  obtain ⟨q0, q1, q2⟩ := hB'
  subst e0 e1
  clear hv hv' hd
  go_enter Try.func62, Try.ntmps62
  go_wp2_with fail
  refine region_wx 46 [] (by kernel_rfl) (by kernel_rfl) ?_
  simp only [List.take_succ_cons, List.take_zero, List.drop_succ_cons, List.drop_zero]
  repeat ((first | refine wx_skip rfl ?_ | refine wx_nilCheck rfl rfl _ rfl _ rfl ?_ | (refine wx_float rfl rfl _ _ _ _ _ _ _ rfl rfl rfl rfl ?_; intro r hr) | (refine wx_k rfl rfl rfl (fun K hK => ?_); go_big_quiet_op; refine hK _ ?_; clear hK K) | (refine wx_call rfl rfl 83 _ _ rfl (by kernel_rfl) (by kernel_rfl) (.bool true) (fun W hW hF => ?_) ?_; go_simp; (with_reducible refine (H1.out W hW).mono ?_); rintro e w' h; exact h) | (refine wx_call rfl rfl 83 _ _ rfl (by kernel_rfl) (by kernel_rfl) (.bool true) (fun W hW hF => ?_) ?_; go_simp; (with_reducible refine (H2.out W hW).mono ?_); rintro e w' h; exact h) | (refine wx_call rfl rfl 63 _ _ rfl (by kernel_rfl) (by kernel_rfl) (.bool true) (fun W hW hF => ?_) ?_; go_simp; (with_reducible refine (callsExt (H3.out W)).mono ?_); rintro e w' h; exact h)); (try simp only [Act.put, List.setIfInBounds_toArray, List.set_cons_zero, List.set_cons_succ]); (try simp only [List.tail_nil]))
  refine wx_nil (fun W hW hF => ?_)
  go_wp2
  go_ret
  exact ⟨rfl, hW⟩
theorem l03Pair_no1 (g g' : Nat) (z0 z1 : Int) (A : Option Addr) (n c : Nat) (y0 y1 : Int) (A' : Option Addr) (n' c' : Nat) (d : Int) (U : World) (hn : n ≤ maxLen) (hn' : n' ≤ maxLen) (hB : Box3 U g (.int .i64 z0) (.int .i64 z1) (.slice A n c)) (hB' : Box3 U g' (.int .i64 y0) (.int .i64 y1) (.slice A' n' c')) (hv : ¬ VMap z0 z1 n) :
    Calls Try.prog 62 #[.pointer (some ⟨g, 0, none⟩), .pointer (some ⟨g', 0, none⟩), .int .i64 d] U fun e U' => e = .returned (.bool false) ∧ Ext U U' := by
  have H1 := Lib.hid (fun (W : World) (hx : Ext U W) => (let b := hB.ext hx; l02Is_not g z0 z1 A n c W hn b.1 b.2.1 b.2.2 hv))
  clear hv hB hB'
  go_enter Try.func62, Try.ntmps62
  go_wp2_with fail
  refine region_wx 46 [] (by kernel_rfl) (by kernel_rfl) ?_
  simp only [List.take_succ_cons, List.take_zero, List.drop_succ_cons, List.drop_zero]
  repeat ((first | refine wx_skip rfl ?_ | refine wx_nilCheck rfl rfl _ rfl _ rfl ?_ | (refine wx_float rfl rfl _ _ _ _ _ _ _ rfl rfl rfl rfl ?_; intro r hr) | (refine wx_k rfl rfl rfl (fun K hK => ?_); go_big_quiet_op; refine hK _ ?_; clear hK K) | (refine wx_call rfl rfl 83 _ _ rfl (by kernel_rfl) (by kernel_rfl) (.bool false) (fun W hW hF => ?_) ?_; go_simp; (with_reducible refine (H1.out W hW).mono ?_); rintro e w' h; exact h)); (try simp only [Act.put, List.setIfInBounds_toArray, List.set_cons_zero, List.set_cons_succ]); (try simp only [List.tail_nil]))
  refine wx_nil (fun W hW hF => ?_)
  go_wp2
  go_ret
  exact ⟨rfl, hW⟩
theorem l03Pair_no2 (g g' : Nat) (z0 z1 : Int) (A : Option Addr) (n c : Nat) (y0 y1 : Int) (A' : Option Addr) (n' c' : Nat) (d : Int) (U : World) (hn : n ≤ maxLen) (hn' : n' ≤ maxLen) (hB : Box3 U g (.int .i64 z0) (.int .i64 z1) (.slice A n c)) (hB' : Box3 U g' (.int .i64 y0) (.int .i64 y1) (.slice A' n' c')) (hv : VMap z0 z1 n) (hv' : ¬ VMap y0 y1 n') :
    Calls Try.prog 62 #[.pointer (some ⟨g, 0, none⟩), .pointer (some ⟨g', 0, none⟩), .int .i64 d] U fun e U' => e = .returned (.bool false) ∧ Ext U U' := by
  have H1 := Lib.hid (fun (W : World) (hx : Ext U W) => (let b := hB.ext hx; l02Is_yes g z0 z1 A n c W hn b.1 b.2.1 b.2.2 hv))
  have H2 := Lib.hid (fun (W : World) (hx : Ext U W) => (let b := hB'.ext hx; l02Is_not g' y0 y1 A' n' c' W hn' b.1 b.2.1 b.2.2 hv'))
  clear hv hv' hB hB'
  go_enter Try.func62, Try.ntmps62
  go_wp2_with fail
  refine region_wx 46 [] (by kernel_rfl) (by kernel_rfl) ?_
  simp only [List.take_succ_cons, List.take_zero, List.drop_succ_cons, List.drop_zero]
  repeat ((first | refine wx_skip rfl ?_ | refine wx_nilCheck rfl rfl _ rfl _ rfl ?_ | (refine wx_float rfl rfl _ _ _ _ _ _ _ rfl rfl rfl rfl ?_; intro r hr) | (refine wx_k rfl rfl rfl (fun K hK => ?_); go_big_quiet_op; refine hK _ ?_; clear hK K) | (refine wx_call rfl rfl 83 _ _ rfl (by kernel_rfl) (by kernel_rfl) (.bool true) (fun W hW hF => ?_) ?_; go_simp; (with_reducible refine (H1.out W hW).mono ?_); rintro e w' h; exact h) | (refine wx_call rfl rfl 83 _ _ rfl (by kernel_rfl) (by kernel_rfl) (.bool false) (fun W hW hF => ?_) ?_; go_simp; (with_reducible refine (H2.out W hW).mono ?_); rintro e w' h; exact h)); (try simp only [Act.put, List.setIfInBounds_toArray, List.set_cons_zero, List.set_cons_succ]); (try simp only [List.tail_nil]))
  refine wx_nil (fun W hW hF => ?_)
  go_wp2
  go_ret
  exact ⟨rfl, hW⟩
theorem l03Pair_no3 (g g' : Nat) (z0 z1 : Int) (A : Option Addr) (n c : Nat) (y0 y1 : Int) (A' : Option Addr) (n' c' : Nat) (d : Int) (U : World) (hn : n ≤ maxLen) (hn' : n' ≤ maxLen) (hB : Box3 U g (.int .i64 z0) (.int .i64 z1) (.slice A n c)) (hB' : Box3 U g' (.int .i64 y0) (.int .i64 y1) (.slice A' n' c')) (hv : VMap z0 z1 n) (hv' : VMap y0 y1 n') (hne : ¬ (z0 = y0 ∧ z1 = y1)) :
    Calls Try.prog 62 #[.pointer (some ⟨g, 0, none⟩), .pointer (some ⟨g', 0, none⟩), .int .i64 d] U fun e U' => e = .returned (.bool false) ∧ Ext U U' := by
  have H1 := Lib.hid (fun (W : World) (hx : Ext U W) => (let b := hB.ext hx; l02Is_yes g z0 z1 A n c W hn b.1 b.2.1 b.2.2 hv))
  have H2 := Lib.hid (fun (W : World) (hx : Ext U W) => (let b := hB'.ext hx; l02Is_yes g' y0 y1 A' n' c' W hn' b.1 b.2.1 b.2.2 hv'))
  have h3 := two_ne hne
  clear hne hv hv'
  obtain ⟨p0, p1, p2⟩ := hB
  obtain ⟨q0, q1, q2⟩ := hB'
  rcases h3 with e0 | ⟨rfl, e1⟩
  · go_enter Try.func62, Try.ntmps62
    go_wp2_with fail
    refine region_wx 46 [] (by kernel_rfl) (by kernel_rfl) ?_
    simp only [List.take_succ_cons, List.take_zero, List.drop_succ_cons, List.drop_zero]
    repeat ((first | refine wx_skip rfl ?_ | refine wx_nilCheck rfl rfl _ rfl _ rfl ?_ | (refine wx_float rfl rfl _ _ _ _ _ _ _ rfl rfl rfl rfl ?_; intro r hr) | (refine wx_k rfl rfl rfl (fun K hK => ?_); go_big_quiet_op; refine hK _ ?_; clear hK K) | (refine wx_call rfl rfl 83 _ _ rfl (by kernel_rfl) (by kernel_rfl) (.bool true) (fun W hW hF => ?_) ?_; go_simp; (with_reducible refine (H1.out W hW).mono ?_); rintro e w' h; exact h) | (refine wx_call rfl rfl 83 _ _ rfl (by kernel_rfl) (by kernel_rfl) (.bool true) (fun W hW hF => ?_) ?_; go_simp; (with_reducible refine (H2.out W hW).mono ?_); rintro e w' h; exact h)); (try simp only [Act.put, List.setIfInBounds_toArray, List.set_cons_zero, List.set_cons_succ]); (try simp only [List.tail_nil]))
    refine wx_nil (fun W hW hF => ?_)
    go_wp2
    go_ret
    exact ⟨rfl, hW⟩
  · go_enter Try.func62, Try.ntmps62
    go_wp2_with fail
    refine region_wx 46 [] (by kernel_rfl) (by kernel_rfl) ?_
    simp only [List.take_succ_cons, List.take_zero, List.drop_succ_cons, List.drop_zero]
    repeat ((first | refine wx_skip rfl ?_ | refine wx_nilCheck rfl rfl _ rfl _ rfl ?_ | (refine wx_float rfl rfl _ _ _ _ _ _ _ rfl rfl rfl rfl ?_; intro r hr) | (refine wx_k rfl rfl rfl (fun K hK => ?_); go_big_quiet_op; refine hK _ ?_; clear hK K) | (refine wx_call rfl rfl 83 _ _ rfl (by kernel_rfl) (by kernel_rfl) (.bool true) (fun W hW hF => ?_) ?_; go_simp; (with_reducible refine (H1.out W hW).mono ?_); rintro e w' h; exact h) | (refine wx_call rfl rfl 83 _ _ rfl (by kernel_rfl) (by kernel_rfl) (.bool true) (fun W hW hF => ?_) ?_; go_simp; (with_reducible refine (H2.out W hW).mono ?_); rintro e w' h; exact h)); (try simp only [Act.put, List.setIfInBounds_toArray, List.set_cons_zero, List.set_cons_succ]); (try simp only [List.tail_nil]))
    refine wx_nil (fun W hW hF => ?_)
    go_wp2
    go_ret
    exact ⟨rfl, hW⟩
theorem l03Pair_no4 (g g' : Nat) (z0 z1 : Int) (A : Option Addr) (n c : Nat) (y0 y1 : Int) (A' : Option Addr) (n' c' : Nat) (d : Int) (U : World) (hn : n ≤ maxLen) (hn' : n' ≤ maxLen) (hB : Box3 U g (.int .i64 z0) (.int .i64 z1) (.slice A n c)) (hB' : Box3 U g' (.int .i64 y0) (.int .i64 y1) (.slice A' n' c')) (hv : VMap z0 z1 n) (hv' : VMap y0 y1 n') (e0 : z0 = y0) (e1 : z1 = y1) (hd : d < 1 ∨ 8 < d) :
    Calls Try.prog 62 #[.pointer (some ⟨g, 0, none⟩), .pointer (some ⟨g', 0, none⟩), .int .i64 d] U fun e U' => e = .returned (.bool false) ∧ Ext U U' := by
  have H1 := Lib.hid (fun (W : World) (hx : Ext U W) => (let b := hB.ext hx; l02Is_yes g z0 z1 A n c W hn b.1 b.2.1 b.2.2 hv))
  have H2 := Lib.hid (fun (W : World) (hx : Ext U W) => (let b := hB'.ext hx; l02Is_yes g' y0 y1 A' n' c' W hn' b.1 b.2.1 b.2.2 hv'))
  have H3 := Lib.hid (fun (W : World) => l00In_no d 1 8 W hd)
  obtain ⟨p0, p1, p2⟩ := hB
  obtain ⟨q0, q1, q2⟩ := hB'
  subst e0 e1
  clear hv hv' hd
  go_enter Try.func62, Try.ntmps62
  go_wp2_with fail
  refine region_wx 46 [] (by kernel_rfl) (by kernel_rfl) ?_
  simp only [List.take_succ_cons, List.take_zero, List.drop_succ_cons, List.drop_zero]
  repeat ((first | refine wx_skip rfl ?_ | refine wx_nilCheck rfl rfl _ rfl _ rfl ?_ | (refine wx_float rfl rfl _ _ _ _ _ _ _ rfl rfl rfl rfl ?_; intro r hr) | (refine wx_k rfl rfl rfl (fun K hK => ?_); go_big_quiet_op; refine hK _ ?_; clear hK K) | (refine wx_call rfl rfl 83 _ _ rfl (by kernel_rfl) (by kernel_rfl) (.bool true) (fun W hW hF => ?_) ?_; go_simp; (with_reducible refine (H1.out W hW).mono ?_); rintro e w' h; exact h) | (refine wx_call rfl rfl 83 _ _ rfl (by kernel_rfl) (by kernel_rfl) (.bool true) (fun W hW hF => ?_) ?_; go_simp; (with_reducible refine (H2.out W hW).mono ?_); rintro e w' h; exact h) | (refine wx_call rfl rfl 63 _ _ rfl (by kernel_rfl) (by kernel_rfl) (.bool false) (fun W hW hF => ?_) ?_; go_simp; (with_reducible refine (callsExt (H3.out W)).mono ?_); rintro e w' h; exact h)); (try simp only [Act.put, List.setIfInBounds_toArray, List.set_cons_zero, List.set_cons_succ]); (try simp only [List.tail_nil]))
  refine wx_nil (fun W hW hF => ?_)
  go_wp2
  go_ret
  exact ⟨rfl, hW⟩
theorem l03Pair_no (g g' : Nat) (z0 z1 : Int) (A : Option Addr) (n c : Nat) (y0 y1 : Int) (A' : Option Addr) (n' c' : Nat) (d : Int) (U : World) (hn : n ≤ maxLen) (hn' : n' ≤ maxLen) (hB : Box3 U g (.int .i64 z0) (.int .i64 z1) (.slice A n c)) (hB' : Box3 U g' (.int .i64 y0) (.int .i64 y1) (.slice A' n' c')) (hno : ¬ ((VMap z0 z1 n ∧ VMap y0 y1 n' ∧ z0 = y0 ∧ z1 = y1) ∧ 1 ≤ d ∧ d ≤ 8)) :
    Calls Try.prog 62 #[.pointer (some ⟨g, 0, none⟩), .pointer (some ⟨g', 0, none⟩), .int .i64 d] U fun e U' => e = .returned (.bool false) ∧ Ext U U' := by
  by_cases h1 : VMap z0 z1 n
  · by_cases h2 : VMap y0 y1 n'
    · by_cases h3 : z0 = y0 ∧ z1 = y1
      · exact l03Pair_no4 g g' z0 z1 A n c y0 y1 A' n' c' d U hn hn' hB hB' h1 h2 h3.1 h3.2 (Decidable.byContradiction fun h => hno ⟨⟨h1, h2, h3.1, h3.2⟩, by omega⟩)
      · exact l03Pair_no3 g g' z0 z1 A n c y0 y1 A' n' c' d U hn hn' hB hB' h1 h2 h3
    · exact l03Pair_no2 g g' z0 z1 A n c y0 y1 A' n' c' d U hn hn' hB hB' h1 h2
  · exact l03Pair_no1 g g' z0 z1 A n c y0 y1 A' n' c' d U hn hn' hB hB' h1
set_option maxRecDepth 8000 in
theorem pairVolume_yes (wn hn dn : Nat) (A A' : Option Addr) (n n' c c' : Nat) (hl : n ≤ maxLen) (hl' : n' ≤ maxLen) (hv : VMap wn hn n) (hv' : VMap wn hn n') (hd : 1 ≤ dn ∧ dn ≤ 8) (g : FuncId) (lb : Array Value) (F : Nat → Nat → Nat → Nat) (U : World)
    (hg : (Try.prog.funcs[g]?).any (fun fn => !(fn.name == "runtime.NumGoroutine") && fn.body.isSome) = true)
    (hof : ∀ (x y e : Nat) (U' : World), Ext U U' → x < wn → y < hn → e < dn → Calls Try.prog g (#[.int .i64 x, .int .i64 y, .int .i64 e] ++ lb) U' fun e' U'' => ∃ r, e' = .returned (.float .f32 r) ∧ Is r (F x y e) ∧ Ext U' U'') :
    Calls Try.prog 68 #[.agg #[.int .i64 wn, .int .i64 hn, .slice A n c], .agg #[.int .i64 wn, .int .i64 hn, .slice A' n' c'], .int .i64 dn, .func (.func g) #[] lb] U fun e U' => ∃ A c' b, e = .returned (.tuple #[.agg #[.int .i64 wn, .int .i64 hn, .int .i64 dn, .slice A b.length c'], .bool true]) ∧ OwnF U' U.heap.size 25 (.slice A b.length c') b ∧ b.map nrm = cells3 F wn dn (wn * hn * dn) ∧ Ext U U' := by
  have hwh : wn * hn ≤ 256 := by
    have h1 := hv.1.2.2.2.2
    have h2 : ((wn * hn : Nat) : Int) = (wn : Int) * (hn : Int) := by simp
    omega
  have HV := Lib.hid hv
  have HV' := Lib.hid hv'
  have HD : Hid ((1 : Int) ≤ (dn : Int) ∧ (dn : Int) ≤ 8) := Lib.hid (by omega)
  have HK := Lib.hid (fun (U1 : World) (hx : Ext U U1) => volumeOf_any wn hn dn hwh hd.2 (by have := hv.1.2.1; omega) (by have := hv.1.2.2.2.1; omega) g lb F U1 hg (fun x y e W' h1 h2 h3 h4 => hof x y e W' (hx.trans h1) h2 h3 h4))
  clear hv hv' hwh hof hg hd
  go_enter Try.func68, Try.ntmps68
  go_wp2_with fail
  refine calls_at (X := fun w' => Ext U w' ∧ Box3 w' U.heap.size (.int .i64 wn) (.int .i64 hn) (.slice A n c) ∧ Res4 w' (U.heap.size + 1 + 1) ∧ U.heap.size + 1 + 1 + 1 ≤ w'.heap.size) ⟨(((Ext.refl _).alloc _).alloc _).alloc _, ⟨by simp [go_sem], by simp [go_sem], by simp [go_sem]⟩, ⟨by simp [go_sem], by simp [go_sem], by simp [go_sem], by simp [go_sem], by simp [go_sem], by simp [go_sem], by simp [go_sem], by simp [go_sem]⟩, by simp⟩ ?_
  rintro w0 ⟨hx0, hb0, hr0, hs0⟩
  refine (pairOk_yes _ _ A A' n n' c c' _ hl hl' HV.out HV'.out).mono ?_
  rintro e w1 ⟨rfl, hx⟩
  have ⟨p0, p1, p2⟩ := hb0.ext hx
  have hr := hr0.ext hx
  have hE := hx0.trans hx
  have hs := Nat.le_trans hs0 hx.size
  clear hx hx0 hb0 hr0 hs0
  go_wp2_with (go_at_call 67; refine (implIn_yes _ _ _ _ HD.out.1 HD.out.2).mono ?_; rintro e w' ⟨rfl, rfl⟩)
  refine (HK.out _ hE).mono ?_
  rintro e w2 ⟨A1, c1, b1, rfl, ho, hm, hwd, hx⟩
  have ⟨c0, c1', c2, c3, f0, f1, f2, f3⟩ := hr.ext hx
  have hE2 := hE.trans hx
  clear hr hx hE p0 p1 p2
  go_wp2
  refine bodyPost_ret (v := .tuple #[.agg #[.int .i64 wn, .int .i64 hn, .int .i64 dn, .slice A1 b1.length c1], .bool true]) (by simp [results, Try.results68, go_sem, *]) rfl ⟨A1, c1, b1, rfl, ?_, hm, ?_⟩
  · refine OwnF.weaken (base := w1.heap.size) ?_ (by omega)
    repeat (first | (with_reducible exact ho) | (with_reducible refine OwnF.set_below ?_ (by dsimp only; omega) _))
  · repeat (first | (with_reducible exact hE2) | (with_reducible refine Ext.setCell ?_ (by dsimp only; omega) _))
theorem pairVolume_no1 (z0 z1 : Int) (A : Option Addr) (n c : Nat) (y0 y1 : Int) (A' : Option Addr) (n' c' : Nat) (d : Int) (hn : n ≤ maxLen) (hn' : n' ≤ maxLen) (hno : ¬ (VMap z0 z1 n ∧ VMap y0 y1 n' ∧ z0 = y0 ∧ z1 = y1)) (g : FuncId) (lb : Array Value) (U : World) :
    Calls Try.prog 68 #[.agg #[.int .i64 z0, .int .i64 z1, .slice A n c], .agg #[.int .i64 y0, .int .i64 y1, .slice A' n' c'], .int .i64 d, .func (.func g) #[] lb] U fun e U' => ∃ A c' b, e = .returned (.tuple #[.agg #[.int .i64 0, .int .i64 0, .int .i64 0, .slice A b.length c'], .bool false]) ∧ OwnF U' U.heap.size 25 (.slice A b.length c') b ∧ b.map nrm = [] ∧ Ext U U' := by
  have HN := Lib.hid hno
  clear hno
  go_enter Try.func68, Try.ntmps68
  go_wp2_with fail
  refine calls_at (X := fun w' => Ext U w' ∧ Res4 w' (U.heap.size + 1 + 1) ∧ U.heap.size + 1 + 1 + 1 ≤ w'.heap.size) ⟨(((Ext.refl _).alloc _).alloc _).alloc _, ⟨by simp [go_sem], by simp [go_sem], by simp [go_sem], by simp [go_sem], by simp [go_sem], by simp [go_sem], by simp [go_sem], by simp [go_sem]⟩, by simp⟩ ?_
  rintro w0 ⟨hx0, hr0, hs0⟩
  refine (pairOk_no _ _ _ _ A A' n n' c c' _ hn hn' HN.out).mono ?_
  rintro e w1 ⟨rfl, hx⟩
  have ⟨c0, c1, c2, c3, f0, f1, f2, f3⟩ := hr0.ext hx
  have hE := hx0.trans hx
  clear hx hx0 hr0
  go_wp2
  refine bodyPost_ret (v := .tuple #[.agg #[.int .i64 0, .int .i64 0, .int .i64 0, .slice none 0 0], .bool false]) (by simp [results, Try.results68, go_sem, *]) rfl ⟨none, 0, [], rfl, OwnF.nil _ _ _, rfl, ?_⟩
  repeat (first | (with_reducible exact hE) | (with_reducible refine Ext.setCell ?_ (by dsimp only; omega) _))
theorem pairVolume_no2 (z0 z1 : Int) (A : Option Addr) (n c : Nat) (y0 y1 : Int) (A' : Option Addr) (n' c' : Nat) (d : Int) (hn : n ≤ maxLen) (hn' : n' ≤ maxLen) (hok : VMap z0 z1 n ∧ VMap y0 y1 n' ∧ z0 = y0 ∧ z1 = y1) (hd : d < 1 ∨ 8 < d) (g : FuncId) (lb : Array Value) (U : World) :
    Calls Try.prog 68 #[.agg #[.int .i64 z0, .int .i64 z1, .slice A n c], .agg #[.int .i64 y0, .int .i64 y1, .slice A' n' c'], .int .i64 d, .func (.func g) #[] lb] U fun e U' => ∃ A c' b, e = .returned (.tuple #[.agg #[.int .i64 0, .int .i64 0, .int .i64 0, .slice A b.length c'], .bool false]) ∧ OwnF U' U.heap.size 25 (.slice A b.length c') b ∧ b.map nrm = [] ∧ Ext U U' := by
  obtain ⟨hv, hv', rfl, rfl⟩ := hok
  have HV := Lib.hid hv
  have HV' := Lib.hid hv'
  have HD := Lib.hid hd
  clear hv hv' hd
  go_enter Try.func68, Try.ntmps68
  go_wp2_with fail
  refine calls_at (X := fun w' => Ext U w' ∧ Res4 w' (U.heap.size + 1 + 1) ∧ U.heap.size + 1 + 1 + 1 ≤ w'.heap.size) ⟨(((Ext.refl _).alloc _).alloc _).alloc _, ⟨by simp [go_sem], by simp [go_sem], by simp [go_sem], by simp [go_sem], by simp [go_sem], by simp [go_sem], by simp [go_sem], by simp [go_sem]⟩, by simp⟩ ?_
  rintro w0 ⟨hx0, hr0, hs0⟩
  refine (pairOk_yes _ _ A A' n n' c c' _ hn hn' HV.out HV'.out).mono ?_
  rintro e w1 ⟨rfl, hx⟩
  have ⟨c0, c1, c2, c3, f0, f1, f2, f3⟩ := hr0.ext hx
  have hE := hx0.trans hx
  clear hx hx0 hr0
  go_wp2_with (go_at_call 67; refine (implIn_no _ _ _ _ HD.out).mono ?_; rintro e w' ⟨rfl, rfl⟩)
  refine bodyPost_ret (v := .tuple #[.agg #[.int .i64 0, .int .i64 0, .int .i64 0, .slice none 0 0], .bool false]) (by simp [results, Try.results68, go_sem, *]) rfl ⟨none, 0, [], rfl, OwnF.nil _ _ _, rfl, ?_⟩
  repeat (first | (with_reducible exact hE) | (with_reducible refine Ext.setCell ?_ (by dsimp only; omega) _))
theorem pairVolume_no (z0 z1 : Int) (A : Option Addr) (n c : Nat) (y0 y1 : Int) (A' : Option Addr) (n' c' : Nat) (d : Int) (hn : n ≤ maxLen) (hn' : n' ≤ maxLen) (hno : ¬ ((VMap z0 z1 n ∧ VMap y0 y1 n' ∧ z0 = y0 ∧ z1 = y1) ∧ 1 ≤ d ∧ d ≤ 8)) (g : FuncId) (lb : Array Value) (U : World) :
    Calls Try.prog 68 #[.agg #[.int .i64 z0, .int .i64 z1, .slice A n c], .agg #[.int .i64 y0, .int .i64 y1, .slice A' n' c'], .int .i64 d, .func (.func g) #[] lb] U fun e U' => ∃ A c' b, e = .returned (.tuple #[.agg #[.int .i64 0, .int .i64 0, .int .i64 0, .slice A b.length c'], .bool false]) ∧ OwnF U' U.heap.size 25 (.slice A b.length c') b ∧ b.map nrm = [] ∧ Ext U U' := by
  by_cases h1 : VMap z0 z1 n ∧ VMap y0 y1 n' ∧ z0 = y0 ∧ z1 = y1
  · exact pairVolume_no2 z0 z1 A n c y0 y1 A' n' c' d hn hn' h1 (Decidable.byContradiction fun h => hno ⟨h1, by omega⟩) g lb U
  · exact pairVolume_no1 z0 z1 A n c y0 y1 A' n' c' d hn hn' h1 g lb U
end Go.Proofs.Ytgpobhpcbgenoaa
