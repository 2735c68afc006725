/- The law on SliceOf holds. -/
import Derived.Test.YtppahlkmemngeaaSpecV
import Derived.Test.YtppahlkmemngeaaSlice
import Derived.Test.YtppahlkmemngeaaMade
import Derived.Test.YtppahlkmemngeaaCSliceOf
namespace Go.Proofs.Ytppahlkmemngeaa
open Go.RowKit
set_option linter.unusedVariables false

set_option maxHeartbeats 1000000 in
theorem slice1 (wn hn dn gb off n c : Nat) (bs : List Nat) (gv ge en : Nat) (x y : Nat) (U : World) (hB : Box4 U gv (.int .i64 wn) (.int .i64 hn) (.int .i64 dn) (.slice (some ⟨gb, off, none⟩) n c)) (hl : Lies U gb off bs) (hlen : bs.length = n) (hwd : Words bs) (hnc : n ≤ c) (hcm : c ≤ maxLen) (hv : VVol wn hn dn n) (hce : U.cell? ⟨ge, 0, none⟩ = some (.int .i64 en)) (hx : x < wn) (hy : y < hn) (he : en < dn) :
    Calls Try.prog 70 #[.int .i64 x, .int .i64 y, .pointer (some ⟨gv, 0, none⟩), .pointer (some ⟨ge, 0, none⟩)] U fun e' U' => ∃ r, e' = .returned (.float .f32 r) ∧ Is r (nrm (bs.getD (cellN wn (x : Int) (y : Int) * dn + en) 0)) ∧ Ext U U' := by
  have hd8 := hv.2.2.1
  have hbx : 0 ≤ ((x : Int)) ∧ ((x : Int)) ≤ (wn : Int) - 1 := ⟨by omega, by omega⟩
  have hby : 0 ≤ ((y : Int)) ∧ ((y : Int)) ≤ (hn : Int) - 1 := ⟨by omega, by omega⟩
  have hcell := fun (W : World) (hx' : Ext U W) => cellC_any gv wn hn dn gb off n c (x : Int) (y : Int) W (hB.ext hx') hnc hcm hv hbx hby
  have hkn := cell_k hv hbx hby
  generalize cellN (wn : Int) (x : Int) (y : Int) * dn = k at hcell hkn ⊢
  have hcv := hl (k + en) (by omega)
  rw [← Nat.add_assoc] at hcv
  have hwv := wd_at hwd (k + en)
  generalize bs.getD (k + en) 0 = v at hcv hwv ⊢
  have HC := Lib.hid hcell
  have b0 : (0 : Int) ≤ (en : Int) := by omega
  have b1 : (en : Int) < (dn : Int) := by omega
  clear hl hlen hnc hcm hv hcell hbx hby hkn hwd hB
  go_enter Try.func70, Try.ntmps70
  go_wp2_with fail
  refine region_wx 6 [] (by kernel_rfl) (by kernel_rfl) ?_
  simp only [List.take_succ_cons, List.take_zero, List.drop_succ_cons, List.drop_zero]
  repeat ((first | refine wx_skip rfl ?_ | refine wx_nilCheck rfl rfl _ rfl _ rfl ?_ | (refine wx_float rfl rfl _ _ _ _ _ _ _ rfl rfl rfl rfl ?_; intro r hr) | (refine wx_k rfl rfl rfl (fun K hK => ?_); go_big_quiet_op; refine hK _ ?_; clear hK K) | (refine wx_call rfl rfl 56 _ _ rfl (by kernel_rfl) (by kernel_rfl) (.slice (some ⟨gb, off + k, none⟩) dn dn) (fun W hW hF => ?_) ?_; go_simp; (with_reducible refine (HC.out W hW).mono ?_); rintro e w' h; exact h)); (try simp only [Act.put, List.setIfInBounds_toArray, List.set_cons_zero, List.set_cons_succ]); (try simp only [List.tail_nil]))
  refine wx_nil (fun W hW hF => ?_)
  go_wp2
  go_ret
  exact ⟨_, rfl, ⟨hwv, rfl⟩, hW⟩
set_option maxRecDepth 8000 in
theorem implSliceOf_yes (wn hn dn gb off n c : Nat) (bs : List Nat) (en : Nat) (U : World) (hl : Lies U gb off bs) (hlen : bs.length = n) (hwd : Words bs) (hnc : n ≤ c) (hcm : c ≤ maxLen) (hv : VVol wn hn dn n) (he : en < dn) :
    Calls Try.prog 27 #[.agg #[.int .i64 wn, .int .i64 hn, .int .i64 dn, .slice (some ⟨gb, off, none⟩) n c], .int .i64 en] U fun e U' => ∃ A c' b, e = .returned (.tuple #[.agg #[.int .i64 wn, .int .i64 hn, .slice A b.length c'], .bool true]) ∧ OwnF U' U.heap.size 25 (.slice A b.length c') b ∧ b.map nrm = cells (fun (x y : Nat) => nrm (bs.getD (cellN wn (x : Int) (y : Int) * dn + en) 0)) wn (wn * hn) ∧ Ext U U' := by
  have HV := Lib.hid hv
  have hw1 : IntKind.i64.wrap ((dn : Int) - 1) = (dn : Int) - 1 := wrap_small _ (by have := hv.2.1; omega) (by have := hv.2.2.1; omega)
  have he0 : (0 : Int) ≤ (en : Int) := by omega
  have he1 : (en : Int) ≤ (dn : Int) - 1 := by omega
  have HE := Lib.hid (⟨he0, he1⟩ : (0 : Int) ≤ (en : Int) ∧ (en : Int) ≤ (dn : Int) - 1)
  have hcn := Nat.le_trans hnc hcm
  have HK := Lib.hid (fun (w0 : World) (hx0 : Ext U w0) (hb0 : Box4 w0 U.heap.size (.int .i64 wn) (.int .i64 hn) (.int .i64 dn) (.slice (some ⟨gb, off, none⟩) n c)) (hp0 : w0.cell? ⟨U.heap.size + 1, 0, none⟩ = some (.int .i64 en)) => made_any wn hn (by have := hv.1.2.1; omega) (by have := hv.1.2.2.2.1; omega) 70 #[.pointer (some ⟨U.heap.size, 0, none⟩), .pointer (some ⟨U.heap.size + 1, 0, none⟩)] (fun (x y : Nat) => nrm (bs.getD (cellN wn (x : Int) (y : Int) * dn + en) 0)) w0 (by kernel_rfl)
    (fun x y U' h1 h2 h3 => slice1 wn hn dn gb off n c bs _ _ en x y U' (hb0.ext h1) ((hl.ext hx0).ext h1) hlen hwd hnc hcm hv (cell_ext hp0 h1) h2 h3 he))
  clear hv hl hlen hwd hnc hcm he he0 he1
  go_enter Try.func27, Try.ntmps27
  go_wp2_with fail
  refine calls_at (X := fun w' => Ext U w' ∧ Box4 w' U.heap.size (.int .i64 wn) (.int .i64 hn) (.int .i64 dn) (.slice (some ⟨gb, off, none⟩) n c) ∧ w'.cell? ⟨U.heap.size + 1, 0, none⟩ = some (.int .i64 en) ∧ Res3 w' (U.heap.size + 1 + 1) ∧ U.heap.size + 1 + 1 + 1 ≤ w'.heap.size) ⟨(((Ext.refl _).alloc _).alloc _).alloc _, ⟨by simp [go_sem], by simp [go_sem], by simp [go_sem], by simp [go_sem]⟩, by simp [go_sem], ⟨by simp [go_sem], by simp [go_sem], by simp [go_sem], by simp [go_sem], by simp [go_sem], by simp [go_sem]⟩, by simp⟩ ?_
  rintro w0 ⟨hx0, hb0, hp0, hr0, hs0⟩
  refine (ValidVolume_yes _ _ _ _ n c _ hcn HV.out).mono ?_
  rintro e w1 ⟨rfl, hx⟩
  have hb1 := hb0.ext hx
  have hp1 := cell_ext hp0 hx
  have hr1 := hr0.ext hx
  have hE := hx0.trans hx
  have hs1 := Nat.le_trans hs0 hx.size
  clear hx hx0 hb0 hr0 hs0 hp0
  have ⟨p0, p1, p2, p3⟩ := hb1
  go_wp2_with (go_at_call 66; with_reducible refine (implIn_yes (en : Int) 0 ((dn : Int) - 1) _ HE.out.1 HE.out.2).mono ?_; rintro e w' ⟨rfl, rfl⟩)
  clear p0 p1 p2 p3
  refine (HK.out _ hE hb1 hp1).mono ?_
  rintro e w2 ⟨A, c', b, rfl, ho, hm, hwd2, hx⟩
  have ⟨c0, c1, c2, f0, f1, f2⟩ := hr1.ext hx
  have hE2 := hE.trans hx
  clear hx hE hb1 hr1 hp1
  go_wp2
  refine bodyPost_ret (v := .tuple #[.agg #[.int .i64 wn, .int .i64 hn, .slice A b.length c'], .bool true]) (by simp [results, Try.results27, go_sem, *]) rfl ⟨A, c', b, rfl, ?_, hm, ?_⟩
  · refine OwnF.weaken (base := w1.heap.size) ?_ (by omega)
    repeat (first | (with_reducible exact ho) | (with_reducible refine OwnF.set_below ?_ (by dsimp only; omega) _))
  · repeat (first | (with_reducible exact hE2) | (with_reducible refine Ext.setCell ?_ (by dsimp only; omega) _))
theorem implSliceOf_no1 (z0 z1 z2 : Int) (A0 : Option Addr) (n0 m0 : Nat) (ee : Int) (hn0 : n0 ≤ maxLen) (hv : ¬ VVol z0 z1 z2 n0) (U : World) :
    Calls Try.prog 27 #[.agg #[.int .i64 z0, .int .i64 z1, .int .i64 z2, .slice A0 n0 m0], .int .i64 ee] U fun e U' => ∃ A c' b, e = .returned (.tuple #[.agg #[.int .i64 0, .int .i64 0, .slice A b.length c'], .bool false]) ∧ OwnF U' U.heap.size 25 (.slice A b.length c') b ∧ b.map nrm = [] ∧ Ext U U' := by
  have HV := Lib.hid hv
  clear hv
  go_enter Try.func27, Try.ntmps27
  go_wp2_with fail
  refine calls_at (X := fun w' => Ext U w' ∧ Box4 w' U.heap.size (.int .i64 z0) (.int .i64 z1) (.int .i64 z2) (.slice A0 n0 m0) ∧ w'.cell? ⟨U.heap.size + 1, 0, none⟩ = some (.int .i64 ee) ∧ Res3 w' (U.heap.size + 1 + 1) ∧ U.heap.size + 1 + 1 + 1 ≤ w'.heap.size) ⟨(((Ext.refl _).alloc _).alloc _).alloc _, ⟨by simp [go_sem], by simp [go_sem], by simp [go_sem], by simp [go_sem]⟩, by simp [go_sem], ⟨by simp [go_sem], by simp [go_sem], by simp [go_sem], by simp [go_sem], by simp [go_sem], by simp [go_sem]⟩, by simp⟩ ?_
  rintro w0 ⟨hx0, hb0, hp0, hr0, hs0⟩
  refine (ValidVolume_not _ _ _ A0 n0 m0 _ hn0 HV.out).mono ?_
  rintro e w1 ⟨rfl, hx⟩
  have ⟨c0, c1, c2, f0, f1, f2⟩ := hr0.ext hx
  have hE := hx0.trans hx
  clear hx hx0 hb0 hr0 hp0
  go_wp2
  refine bodyPost_ret (v := .tuple #[.agg #[.int .i64 0, .int .i64 0, .slice none 0 0], .bool false]) (by simp [results, Try.results27, go_sem, *]) rfl ⟨none, 0, [], rfl, OwnF.nil _ _ _, rfl, ?_⟩
  repeat (first | (with_reducible exact hE) | (with_reducible refine Ext.setCell ?_ (by dsimp only; omega) _))
theorem implSliceOf_no2 (z0 z1 z2 : Int) (A0 : Option Addr) (n0 m0 : Nat) (ee : Int) (hn0 : n0 ≤ maxLen) (hv : VVol z0 z1 z2 n0) (he : ee < 0 ∨ z2 - 1 < ee) (U : World) :
    Calls Try.prog 27 #[.agg #[.int .i64 z0, .int .i64 z1, .int .i64 z2, .slice A0 n0 m0], .int .i64 ee] U fun e U' => ∃ A c' b, e = .returned (.tuple #[.agg #[.int .i64 0, .int .i64 0, .slice A b.length c'], .bool false]) ∧ OwnF U' U.heap.size 25 (.slice A b.length c') b ∧ b.map nrm = [] ∧ Ext U U' := by
  have HV := Lib.hid hv
  have HE := Lib.hid he
  have hw1 : IntKind.i64.wrap (z2 - 1) = z2 - 1 := wrap_small _ (by have := hv.2.1; omega) (by have := hv.2.2.1; omega)
  clear hv he
  go_enter Try.func27, Try.ntmps27
  go_wp2_with fail
  refine calls_at (X := fun w' => Ext U w' ∧ Box4 w' U.heap.size (.int .i64 z0) (.int .i64 z1) (.int .i64 z2) (.slice A0 n0 m0) ∧ w'.cell? ⟨U.heap.size + 1, 0, none⟩ = some (.int .i64 ee) ∧ Res3 w' (U.heap.size + 1 + 1) ∧ U.heap.size + 1 + 1 + 1 ≤ w'.heap.size) ⟨(((Ext.refl _).alloc _).alloc _).alloc _, ⟨by simp [go_sem], by simp [go_sem], by simp [go_sem], by simp [go_sem]⟩, by simp [go_sem], ⟨by simp [go_sem], by simp [go_sem], by simp [go_sem], by simp [go_sem], by simp [go_sem], by simp [go_sem]⟩, by simp⟩ ?_
  rintro w0 ⟨hx0, hb0, hp0, hr0, hs0⟩
  refine (ValidVolume_yes _ _ _ A0 n0 m0 _ hn0 HV.out).mono ?_
  rintro e w1 ⟨rfl, hx⟩
  have ⟨c0, c1, c2, f0, f1, f2⟩ := hr0.ext hx
  have ⟨p0, p1, p2, p3⟩ := hb0.ext hx
  have hp1 := cell_ext hp0 hx
  have hE := hx0.trans hx
  clear hx hx0 hb0 hr0 hp0
  go_wp2_with (go_at_call 66; with_reducible refine (implIn_no ee 0 (z2 - 1) _ HE.out).mono ?_; rintro e w' ⟨rfl, rfl⟩)
  refine bodyPost_ret (v := .tuple #[.agg #[.int .i64 0, .int .i64 0, .slice none 0 0], .bool false]) (by simp [results, Try.results27, go_sem, *]) rfl ⟨none, 0, [], rfl, OwnF.nil _ _ _, rfl, ?_⟩
  repeat (first | (with_reducible exact hE) | (with_reducible refine Ext.setCell ?_ (by dsimp only; omega) _))
theorem implSliceOf_no (z0 z1 z2 : Int) (A0 : Option Addr) (n0 m0 : Nat) (ee : Int) (hn0 : n0 ≤ maxLen) (hv : ¬ (VVol z0 z1 z2 n0 ∧ 0 ≤ ee ∧ ee ≤ z2 - 1)) (U : World) :
    Calls Try.prog 27 #[.agg #[.int .i64 z0, .int .i64 z1, .int .i64 z2, .slice A0 n0 m0], .int .i64 ee] U fun e U' => ∃ A c' b, e = .returned (.tuple #[.agg #[.int .i64 0, .int .i64 0, .slice A b.length c'], .bool false]) ∧ OwnF U' U.heap.size 25 (.slice A b.length c') b ∧ b.map nrm = [] ∧ Ext U U' := by
  by_cases h : VVol z0 z1 z2 n0
  · exact implSliceOf_no2 z0 z1 z2 A0 n0 m0 ee hn0 h (by
      by_cases h2 : ee < 0
      · exact .inl h2
      · exact .inr (by
          by_cases h3 : z2 - 1 < ee
          · exact h3
          · exact absurd ⟨h, by omega, by omega⟩ hv)) U
  · exact implSliceOf_no1 z0 z1 z2 A0 n0 m0 ee hn0 h U
theorem specSliceOf_no1 (z0 z1 z2 : Int) (A0 : Option Addr) (n0 m0 : Nat) (ee : Int) (hn0 : n0 ≤ maxLen) (hv : ¬ VVol z0 z1 z2 n0) (U : World) :
    Calls Try.prog 26 #[.agg #[.int .i64 z0, .int .i64 z1, .int .i64 z2, .slice A0 n0 m0], .int .i64 ee] U fun e U' => ∃ A c' b, e = .returned (.tuple #[.agg #[.int .i64 0, .int .i64 0, .slice A b.length c'], .bool false]) ∧ OwnF U' U.heap.size 25 (.slice A b.length c') b ∧ b.map nrm = [] ∧ Ext U U' := by
  have HV := Lib.hid hv
  clear hv
  go_enter Try.func26, Try.ntmps26
  go_wp2_with fail
  refine calls_at (X := fun w' => Ext U w' ∧ Box4 w' U.heap.size (.int .i64 z0) (.int .i64 z1) (.int .i64 z2) (.slice A0 n0 m0) ∧ Res3 w' (U.heap.size + 1) ∧ U.heap.size + 1 + 1 ≤ w'.heap.size) ⟨((Ext.refl _).alloc _).alloc _, ⟨by simp [go_sem], by simp [go_sem], by simp [go_sem], by simp [go_sem]⟩, ⟨by simp [go_sem], by simp [go_sem], by simp [go_sem], by simp [go_sem], by simp [go_sem], by simp [go_sem]⟩, by simp⟩ ?_
  rintro w0 ⟨hx0, hb0, hr0, hs0⟩
  refine (l03Is_not _ _ _ _ A0 n0 m0 _ hn0 hb0.1 hb0.2.1 hb0.2.2.1 hb0.2.2.2 HV.out).mono ?_
  rintro e w1 ⟨rfl, hx⟩
  have ⟨c0, c1, c2, f0, f1, f2⟩ := hr0.ext hx
  have hE := hx0.trans hx
  clear hx hx0 hb0 hr0
  go_wp2
  refine bodyPost_ret (v := .tuple #[.agg #[.int .i64 0, .int .i64 0, .slice none 0 0], .bool false]) (by simp [results, Try.results26, go_sem, *]) rfl ⟨none, 0, [], rfl, OwnF.nil _ _ _, rfl, ?_⟩
  repeat (first | (with_reducible exact hE) | (with_reducible refine Ext.setCell ?_ (by dsimp only; omega) _))
theorem specSliceOf_no2 (z0 z1 z2 : Int) (A0 : Option Addr) (n0 m0 : Nat) (ee : Int) (hn0 : n0 ≤ maxLen) (hv : VVol z0 z1 z2 n0) (he : ee < 0 ∨ z2 - 1 < ee) (U : World) :
    Calls Try.prog 26 #[.agg #[.int .i64 z0, .int .i64 z1, .int .i64 z2, .slice A0 n0 m0], .int .i64 ee] U fun e U' => ∃ A c' b, e = .returned (.tuple #[.agg #[.int .i64 0, .int .i64 0, .slice A b.length c'], .bool false]) ∧ OwnF U' U.heap.size 25 (.slice A b.length c') b ∧ b.map nrm = [] ∧ Ext U U' := by
  have HV := Lib.hid hv
  have HE := Lib.hid he
  have hw1 : IntKind.i64.wrap (z2 - 1) = z2 - 1 := wrap_small _ (by have := hv.2.1; omega) (by have := hv.2.2.1; omega)
  clear hv he
  go_enter Try.func26, Try.ntmps26
  go_wp2_with fail
  refine calls_at (X := fun w' => Ext U w' ∧ Box4 w' U.heap.size (.int .i64 z0) (.int .i64 z1) (.int .i64 z2) (.slice A0 n0 m0) ∧ Res3 w' (U.heap.size + 1) ∧ U.heap.size + 1 + 1 ≤ w'.heap.size) ⟨((Ext.refl _).alloc _).alloc _, ⟨by simp [go_sem], by simp [go_sem], by simp [go_sem], by simp [go_sem]⟩, ⟨by simp [go_sem], by simp [go_sem], by simp [go_sem], by simp [go_sem], by simp [go_sem], by simp [go_sem]⟩, by simp⟩ ?_
  rintro w0 ⟨hx0, hb0, hr0, hs0⟩
  refine (l03Is_yes _ _ _ _ A0 n0 m0 _ hn0 hb0.1 hb0.2.1 hb0.2.2.1 hb0.2.2.2 HV.out).mono ?_
  rintro e w1 ⟨rfl, hx⟩
  have ⟨c0, c1, c2, f0, f1, f2⟩ := hr0.ext hx
  have ⟨p0, p1, p2, p3⟩ := hb0.ext hx
  skip
  have hE := hx0.trans hx
  clear hx hx0 hb0 hr0
  go_wp2_with (go_at_call 62; with_reducible refine (l00In_no ee 0 (z2 - 1) _ HE.out).mono ?_; rintro e w' ⟨rfl, rfl⟩)
  refine bodyPost_ret (v := .tuple #[.agg #[.int .i64 0, .int .i64 0, .slice none 0 0], .bool false]) (by simp [results, Try.results26, go_sem, *]) rfl ⟨none, 0, [], rfl, OwnF.nil _ _ _, rfl, ?_⟩
  repeat (first | (with_reducible exact hE) | (with_reducible refine Ext.setCell ?_ (by dsimp only; omega) _))
theorem specSliceOf_no (z0 z1 z2 : Int) (A0 : Option Addr) (n0 m0 : Nat) (ee : Int) (hn0 : n0 ≤ maxLen) (hv : ¬ (VVol z0 z1 z2 n0 ∧ 0 ≤ ee ∧ ee ≤ z2 - 1)) (U : World) :
    Calls Try.prog 26 #[.agg #[.int .i64 z0, .int .i64 z1, .int .i64 z2, .slice A0 n0 m0], .int .i64 ee] U fun e U' => ∃ A c' b, e = .returned (.tuple #[.agg #[.int .i64 0, .int .i64 0, .slice A b.length c'], .bool false]) ∧ OwnF U' U.heap.size 25 (.slice A b.length c') b ∧ b.map nrm = [] ∧ Ext U U' := by
  by_cases h : VVol z0 z1 z2 n0
  · exact specSliceOf_no2 z0 z1 z2 A0 n0 m0 ee hn0 h (by
      by_cases h2 : ee < 0
      · exact .inl h2
      · exact .inr (by
          by_cases h3 : z2 - 1 < ee
          · exact h3
          · exact absurd ⟨h, by omega, by omega⟩ hv)) U
  · exact specSliceOf_no1 z0 z1 z2 A0 n0 m0 ee hn0 h U
set_option maxRecDepth 8000 in
theorem specSliceOf_yes (wn hn dn gb off n c : Nat) (bs : List Nat) (en : Nat) (U : World) (hl : Lies U gb off bs) (hlen : bs.length = n) (hwd : Words bs) (hnc : n ≤ c) (hcm : c ≤ maxLen) (hv : VVol wn hn dn n) (he : en < dn) :
    Calls Try.prog 26 #[.agg #[.int .i64 wn, .int .i64 hn, .int .i64 dn, .slice (some ⟨gb, off, none⟩) n c], .int .i64 en] U fun e U' => ∃ A c' b, e = .returned (.tuple #[.agg #[.int .i64 wn, .int .i64 hn, .slice A b.length c'], .bool true]) ∧ OwnF U' U.heap.size 25 (.slice A b.length c') b ∧ b.map nrm = (List.range (wn * hn)).map (fun i => nrm (bs.getD (i * dn + en) 0)) ∧ Ext U U' := by
  have HV := Lib.hid hv
  have hw1 : IntKind.i64.wrap ((dn : Int) - 1) = (dn : Int) - 1 := wrap_small _ (by have := hv.2.1; omega) (by have := hv.2.2.1; omega)
  have HE := Lib.hid (⟨by omega, by omega⟩ : (0 : Int) ≤ (en : Int) ∧ (en : Int) ≤ (dn : Int) - 1)
  have hcn := Nat.le_trans hnc hcm
  have HK := Lib.hid (fun (w0 : World) (hx0 : Ext U w0) (hb0 : Box4 w0 U.heap.size (.int .i64 wn) (.int .i64 hn) (.int .i64 dn) (.slice (some ⟨gb, off, none⟩) n c)) => l03Slice_any U.heap.size wn hn dn gb off n c bs en he w0 hb0 (hl.ext hx0) hlen hwd hnc hcm hv)
  clear hv hl hlen hwd hnc hcm he
  go_enter Try.func26, Try.ntmps26
  go_wp2_with fail
  refine calls_at (X := fun w' => Ext U w' ∧ Box4 w' U.heap.size (.int .i64 wn) (.int .i64 hn) (.int .i64 dn) (.slice (some ⟨gb, off, none⟩) n c) ∧ Res3 w' (U.heap.size + 1) ∧ U.heap.size + 1 + 1 ≤ w'.heap.size) ⟨((Ext.refl _).alloc _).alloc _, ⟨by simp [go_sem], by simp [go_sem], by simp [go_sem], by simp [go_sem]⟩, ⟨by simp [go_sem], by simp [go_sem], by simp [go_sem], by simp [go_sem], by simp [go_sem], by simp [go_sem]⟩, by simp⟩ ?_
  rintro w0 ⟨hx0, hb0, hr0, hs0⟩
  refine (l03Is_yes _ wn hn dn _ n c _ hcn hb0.1 hb0.2.1 hb0.2.2.1 hb0.2.2.2 HV.out).mono ?_
  rintro e w1 ⟨rfl, hx⟩
  have hb1 := hb0.ext hx
  have hr1 := hr0.ext hx
  have hE := hx0.trans hx
  have hs1 := Nat.le_trans hs0 hx.size
  clear hx hx0 hb0 hr0 hs0
  have ⟨p0, p1, p2, p3⟩ := hb1
  go_wp2_with (go_at_call 62; with_reducible refine (l00In_yes (en : Int) 0 ((dn : Int) - 1) _ HE.out.1 HE.out.2).mono ?_; rintro e w' ⟨rfl, rfl⟩)
  clear p0 p1 p2 p3
  refine (HK.out _ hE hb1).mono ?_
  rintro e w2 ⟨A, c', b, rfl, ho, hm, hx⟩
  have ⟨c0, c1, c2, f0, f1, f2⟩ := hr1.ext hx
  have hE2 := hE.trans hx
  clear hx hE hb1 hr1
  go_wp2
  refine bodyPost_ret (v := .tuple #[.agg #[.int .i64 wn, .int .i64 hn, .slice A b.length c'], .bool true]) (by simp [results, Try.results26, go_sem, *]) rfl ⟨A, c', b, rfl, ?_, hm, ?_⟩
  · refine OwnF.weaken (base := w1.heap.size) ?_ (by omega)
    repeat (first | (with_reducible exact ho) | (with_reducible refine OwnF.set_below ?_ (by dsimp only; omega) _))
  · repeat (first | (with_reducible exact hE2) | (with_reducible refine Ext.setCell ?_ (by dsimp only; omega) _))
set_option maxRecDepth 8000 in
theorem lawSliceOf_any (W : World) (z0 z1 z2 : Int) (_ : -9223372036854775808 ≤ z0 ∧ z0 ≤ 9223372036854775807) (_ : -9223372036854775808 ≤ z1 ∧ z1 ≤ 9223372036854775807) (_ : -9223372036854775808 ≤ z2 ∧ z2 ≤ 9223372036854775807) (A : Option Addr) (n m : Nat) (bs : List Nat) (hc : n ≤ m) (hm : m ≤ maxLen) (hr : Reads W A n bs) (hw : Words bs) (ee : Int) (_ : IntKind.i64.min ≤ ee ∧ ee ≤ IntKind.i64.max) :
    Calls Try.prog 6 #[.agg #[.int .i64 z0, .int .i64 z1, .int .i64 z2, .slice A n m], .int .i64 ee] W fun e W' => e = .returned (.bool true) ∧ Ext W W' := by
  have hn : n ≤ maxLen := Nat.le_trans hc hm
  by_cases hv : VVol z0 z1 z2 n ∧ 0 ≤ ee ∧ ee ≤ z2 - 1
  · obtain ⟨hv, he0, he1⟩ := hv
    obtain ⟨wn, rfl⟩ := Int.eq_ofNat_of_zero_le (show 0 ≤ z0 by have := hv.1.1; omega)
    obtain ⟨hn', rfl⟩ := Int.eq_ofNat_of_zero_le (show 0 ≤ z1 by have := hv.1.2.2.1; omega)
    obtain ⟨dn, rfl⟩ := Int.eq_ofNat_of_zero_le (show 0 ≤ z2 by have := hv.2.1; omega)
    obtain ⟨en, rfl⟩ := Int.eq_ofNat_of_zero_le he0
    obtain ⟨hnn, h0, hn2⟩ := vol_n hv
    refine lawSliceOf_core W wn hn' dn A n m bs hn hr en wn hn' ((List.range (wn * hn')).map (fun i => nrm (bs.getD (i * dn + en) 0))) (by simp; have := vol_wh hv; omega) true ?_ ?_
    · intro w D hd
      obtain ⟨gb, off, rfl, hl⟩ := hd.2 (by omega)
      exact specSliceOf_yes wn hn' dn gb off n n bs en w hl hd.1 hw (Nat.le_refl _) hn hv (by omega)
    · intro w D hd
      obtain ⟨gb, off, rfl, hl⟩ := hd.2 (by omega)
      refine (implSliceOf_yes wn hn' dn gb off n n bs en w hl hd.1 hw (Nat.le_refl _) hn hv (by omega)).mono ?_
      rintro e w1 ⟨A1, c1, b1, rfl, ho, hm1, hx1⟩
      refine ⟨A1, c1, b1, rfl, ho, hm1.trans ?_, hx1⟩
      exact cells_flat (fun x y h1 h2 => by simp only [cellN_nat])
  · exact lawSliceOf_core W z0 z1 z2 A n m bs hn hr ee 0 0 [] (by simp) false (fun w D hd => specSliceOf_no z0 z1 z2 D n n ee hn hv w) (fun w D hd => implSliceOf_no z0 z1 z2 D n n ee hn hv w)
end Go.Proofs.Ytppahlkmemngeaa
