/- Maps of what is told of the costs of each cell. -/
import Derived.Test.YtcekofioiofjbaaWin
import Derived.Test.YtcekofioiofjbaaMade
namespace Go.Proofs.Ytcekofioiofjbaa
open Go.RowKit
set_option linter.unusedVariables false

set_option maxHeartbeats 1000000 in
theorem cellMap1_any (wn hn dn gb off n c gv gf : Nat) (g : FuncId) (X : Nat) (x y : Nat) (U : World) (hB : Box4 U gv (.int .i64 wn) (.int .i64 hn) (.int .i64 dn) (.slice (some ⟨gb, off, none⟩) n c)) (hf : U.cell? ⟨gf, 0, none⟩ = some (.func (.func g) #[] #[])) (hnc : n ≤ c) (hcm : c ≤ maxLen) (hv : VVol wn hn dn n) (hx : x < wn) (hy : y < hn)
    (hg : (Try.prog.funcs[g]?).any (fun fn => !(fn.name == "runtime.NumGoroutine") && fn.body.isSome) = true)
    (hof : ∀ U', Ext U U' → Calls Try.prog g #[.slice (some ⟨gb, off + cellN wn (x : Int) (y : Int) * dn, none⟩) dn dn] U' fun e U'' => ∃ r, e = .returned (.float .f32 r) ∧ Is r X ∧ Ext U' U'') :
    Calls Try.prog 104 #[.int .i64 x, .int .i64 y, .pointer (some ⟨gf, 0, none⟩), .pointer (some ⟨gv, 0, none⟩)] U fun e U' => ∃ r, e = .returned (.float .f32 r) ∧ Is r X ∧ Ext U U' := by
  have hbx : 0 ≤ ((x : Int)) ∧ ((x : Int)) ≤ (wn : Int) - 1 := ⟨by omega, by omega⟩
  have hby : 0 ≤ ((y : Int)) ∧ ((y : Int)) ≤ (hn : Int) - 1 := ⟨by omega, by omega⟩
  have hcell := fun (W : World) (hx' : Ext U W) => cellC_any gv wn hn dn gb off n c (x : Int) (y : Int) W (hB.ext hx') hnc hcm hv hbx hby
  generalize cellN (wn : Int) (x : Int) (y : Int) * dn = k at hcell hof
  have HC := Lib.hid hcell
  have HG := Lib.hid hg
  have HOF := Lib.hid hof
  clear hnc hcm hv hcell hbx hby hB hg hof
  go_enter Try.func104, Try.ntmps104
  go_wp2_with fail
  refine region_wx 5 [none, none, none, none, some (fun u U' => ∃ r, u = .float .f32 r ∧ Is r X)] (by kernel_rfl) (by kernel_rfl) ?_
  simp only [List.take_succ_cons, List.take_zero, List.drop_succ_cons, List.drop_zero]
  repeat ((first | refine wx_skip rfl ?_ | refine wx_nilCheck rfl rfl _ rfl _ rfl ?_ | (refine wx_float rfl rfl _ _ _ _ _ _ _ rfl rfl rfl rfl ?_; intro r hr) | (refine wx_k rfl rfl rfl (fun K hK => ?_); go_big_quiet_op; refine hK _ ?_; clear hK K) | (refine wx_call rfl rfl 65 _ _ rfl (by kernel_rfl) (by kernel_rfl) (.slice (some ⟨gb, off + k, none⟩) dn dn) (fun W hW hF => ?_) ?_; go_simp; (with_reducible refine (HC.out W hW).mono ?_); rintro e w' h; exact h) | (refine wx_callV _ rfl rfl _ _ _ rfl g #[] rfl HG.out (fun Wc hWc hFc => ?_) ?_; (· go_simp; refine (HOF.out Wc hWc).mono ?_; rintro e w' ⟨r, rfl, hr, hx⟩; exact ⟨_, rfl, ⟨r, rfl, hr⟩, hx⟩); rintro u V hV ⟨r, rfl, hr⟩)); (try simp only [Act.put, List.setIfInBounds_toArray, List.set_cons_zero, List.set_cons_succ]); (try simp only [List.tail_cons]))
  refine wx_nil (fun W hW hF => ?_)
  go_wp2
  go_ret
  exact ⟨_, rfl, hr, hW⟩
set_option maxRecDepth 8000 in
theorem cellMap_yes (wn hn dn gb off n c : Nat) (g : FuncId) (F : Nat → Nat → Nat) (U : World) (hnc : n ≤ c) (hcm : c ≤ maxLen) (hv : VVol wn hn dn n)
    (hg : (Try.prog.funcs[g]?).any (fun fn => !(fn.name == "runtime.NumGoroutine") && fn.body.isSome) = true)
    (hof : ∀ (x y : Nat) U', Ext U U' → x < wn → y < hn → Calls Try.prog g #[.slice (some ⟨gb, off + cellN wn (x : Int) (y : Int) * dn, none⟩) dn dn] U' fun e U'' => ∃ r, e = .returned (.float .f32 r) ∧ Is r (F x y) ∧ Ext U' U'') :
    Calls Try.prog 55 #[.agg #[.int .i64 wn, .int .i64 hn, .int .i64 dn, .slice (some ⟨gb, off, none⟩) n c], .func (.func g) #[] #[]] U fun e U' => ∃ A c' b, e = .returned (.tuple #[.agg #[.int .i64 wn, .int .i64 hn, .slice A b.length c'], .bool true]) ∧ OwnF U' U.heap.size 37 (.slice A b.length c') b ∧ b.map nrm = cells F wn (wn * hn) ∧ Ext U U' := by
  have HV := Lib.hid hv
  have hcn := Nat.le_trans hnc hcm
  have HK := Lib.hid (fun (w0 : World) (hx0 : Ext U w0) (hb0 : Box4 w0 U.heap.size (.int .i64 wn) (.int .i64 hn) (.int .i64 dn) (.slice (some ⟨gb, off, none⟩) n c)) (hp0 : w0.cell? ⟨U.heap.size + 1, 0, none⟩ = some (.func (.func g) #[] #[])) => mapOf_any wn hn (by have := hv.1.2.1; omega) (by have := hv.1.2.2.2.1; omega) 104 #[.pointer (some ⟨U.heap.size + 1, 0, none⟩), .pointer (some ⟨U.heap.size, 0, none⟩)] F w0 (by kernel_rfl)
    (fun x y U' h1 h2 h3 => cellMap1_any wn hn dn gb off n c _ _ g (F x y) x y U' (hb0.ext h1) (cell_ext hp0 h1) hnc hcm hv h2 h3 hg (fun U2 hx2 => hof x y U2 ((hx0.trans h1).trans hx2) h2 h3)))
  clear hv hnc hcm hg hof
  go_enter Try.func55, Try.ntmps55
  go_wp2_with fail
  refine calls_at (X := fun w' => Ext U w' ∧ Box4 w' U.heap.size (.int .i64 wn) (.int .i64 hn) (.int .i64 dn) (.slice (some ⟨gb, off, none⟩) n c) ∧ w'.cell? ⟨U.heap.size + 1, 0, none⟩ = some (.func (.func g) #[] #[]) ∧ Res3 w' (U.heap.size + 1 + 1) ∧ U.heap.size + 1 + 1 + 1 ≤ w'.heap.size) ⟨(((Ext.refl _).alloc _).alloc _).alloc _, ⟨by simp [go_sem], by simp [go_sem], by simp [go_sem], by simp [go_sem]⟩, by simp [go_sem], ⟨by simp [go_sem], by simp [go_sem], by simp [go_sem], by simp [go_sem], by simp [go_sem], by simp [go_sem]⟩, by simp⟩ ?_
  rintro w0 ⟨hx0, hb0, hp0, hr0, hs0⟩
  refine (ValidVolume_yes _ _ _ _ n c _ hcn HV.out).mono ?_
  rintro e w1 ⟨rfl, hx⟩
  have hb1 := hb0.ext hx
  have hp1 := cell_ext hp0 hx
  have hr1 := hr0.ext hx
  have hE := hx0.trans hx
  have hs1 := Nat.le_trans hs0 hx.size
  clear hx hx0 hb0 hr0 hs0 hp0
  have ⟨p0, p1, p2, p3⟩ := hb1
  go_wp2_with fail
  clear p0 p1 p2 p3
  refine (HK.out _ hE hb1 hp1).mono ?_
  rintro e w2 ⟨A, c', b, rfl, ho, hm, hwd2, hx⟩
  have ⟨c0, c1, c2, f0, f1, f2⟩ := hr1.ext hx
  have hE2 := hE.trans hx
  clear hx hE hb1 hr1 hp1
  go_wp2
  refine bodyPost_ret (v := .tuple #[.agg #[.int .i64 wn, .int .i64 hn, .slice A b.length c'], .bool true]) (by simp [results, Try.results55, go_sem, *]) rfl ⟨A, c', b, rfl, ?_, hm, ?_⟩
  · refine OwnF.weaken (base := w1.heap.size) ?_ (by omega)
    repeat (first | (with_reducible exact ho) | (with_reducible refine OwnF.set_below ?_ (by dsimp only; omega) _))
  · repeat (first | (with_reducible exact hE2) | (with_reducible refine Ext.setCell ?_ (by dsimp only; omega) _))
theorem cellMap_no (z0 z1 z2 : Int) (A0 : Option Addr) (n0 m0 : Nat) (g : FuncId) (hn0 : n0 ≤ maxLen) (hv : ¬ VVol z0 z1 z2 n0) (U : World) :
    Calls Try.prog 55 #[.agg #[.int .i64 z0, .int .i64 z1, .int .i64 z2, .slice A0 n0 m0], .func (.func g) #[] #[]] U fun e U' => ∃ A c' b, e = .returned (.tuple #[.agg #[.int .i64 0, .int .i64 0, .slice A b.length c'], .bool false]) ∧ OwnF U' U.heap.size 37 (.slice A b.length c') b ∧ b.map nrm = [] ∧ Ext U U' := by
  have HV := Lib.hid hv
  clear hv
  go_enter Try.func55, Try.ntmps55
  go_wp2_with fail
  refine calls_at (X := fun w' => Ext U w' ∧ Res3 w' (U.heap.size + 1 + 1) ∧ U.heap.size + 1 + 1 + 1 ≤ w'.heap.size) ⟨(((Ext.refl _).alloc _).alloc _).alloc _, ⟨by simp [go_sem], by simp [go_sem], by simp [go_sem], by simp [go_sem], by simp [go_sem], by simp [go_sem]⟩, by simp⟩ ?_
  rintro w0 ⟨hx0, hr0, hs0⟩
  refine (ValidVolume_not _ _ _ A0 n0 m0 _ hn0 HV.out).mono ?_
  rintro e w1 ⟨rfl, hx⟩
  have ⟨c0, c1, c2, f0, f1, f2⟩ := hr0.ext hx
  have hE := hx0.trans hx
  clear hx hx0 hr0
  go_wp2
  refine bodyPost_ret (v := .tuple #[.agg #[.int .i64 0, .int .i64 0, .slice none 0 0], .bool false]) (by simp [results, Try.results55, go_sem, *]) rfl ⟨none, 0, [], rfl, OwnF.nil _ _ _, rfl, ?_⟩
  repeat (first | (with_reducible exact hE) | (with_reducible refine Ext.setCell ?_ (by dsimp only; omega) _))
end Go.Proofs.Ytcekofioiofjbaa
