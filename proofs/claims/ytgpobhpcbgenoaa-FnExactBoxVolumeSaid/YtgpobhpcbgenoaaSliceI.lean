/- Contract of the program's slice of a volume. -/
import Derived.Test.YtgpobhpcbgenoaaSpecV
import Derived.Test.YtgpobhpcbgenoaaMade
import Derived.Test.YtgpobhpcbgenoaaSlice
import Derived.Test.YtgpobhpcbgenoaaClos
namespace Go.Proofs.Ytgpobhpcbgenoaa
open Go.RowKit
set_option linter.unusedVariables false

set_option maxHeartbeats 1000000 in
theorem slice1 (wn hn dn gb off n c : Nat) (bs : List Nat) (gv ge en : Nat) (x y : Nat) (U : World) (hB : Box4 U gv (.int .i64 wn) (.int .i64 hn) (.int .i64 dn) (.slice (some ⟨gb, off, none⟩) n c)) (hl : Lies U gb off bs) (hlen : bs.length = n) (hwd : Words bs) (hnc : n ≤ c) (hcm : c ≤ maxLen) (hv : VVol wn hn dn n) (hce : U.cell? ⟨ge, 0, none⟩ = some (.int .i64 en)) (hx : x < wn) (hy : y < hn) (he : en < dn) :
    Calls Try.prog 116 #[.int .i64 x, .int .i64 y, .pointer (some ⟨gv, 0, none⟩), .pointer (some ⟨ge, 0, none⟩)] U fun e' U' => ∃ r, e' = .returned (.float .f32 r) ∧ Is r (nrm (bs.getD (cellN wn (x : Int) (y : Int) * dn + en) 0)) ∧ Ext U U' := by
  have hd8 := hv.2.2.1
  have hbx : 0 ≤ ((x : Int)) ∧ ((x : Int)) ≤ (wn : Int) - 1 := ⟨by omega, by omega⟩
  have hby : 0 ≤ ((y : Int)) ∧ ((y : Int)) ≤ (hn : Int) - 1 := ⟨by omega, by omega⟩
  have hcell := fun (W : World) (hx' : Ext U W) => cellC_any gv wn hn dn gb off n c (x : Int) (y : Int) W (hB.ext hx') hnc hcm hv hbx hby
  have hkn := cell_k hv hbx hby
  generalize cellN (wn : Int) (x : Int) (y : Int) * dn = k at hcell hkn ⊢
  have hcv := hl (k + en) (by omega)
  rw [← Nat.add_assoc] at hcv
  have hwv := wd_at hwd (k + en)
  generalize bs.getD (k + en) 0 = v at hcv hwv ⊢
  have HC := Lib.hid hcell
  have b0 : (0 : Int) ≤ (en : Int) := by omega
  have b1 : (en : Int) < (dn : Int) := by omega
  clear hl hlen hnc hcm hv hcell hbx hby hkn hwd hB
  go_enter Try.func116, Try.ntmps116
  go_wp2_with fail
  refine region_wx 6 [] (by kernel_rfl) (by kernel_rfl) ?_
  simp only [List.take_succ_cons, List.take_zero, List.drop_succ_cons, List.drop_zero]
  repeat ((first | refine wx_skip rfl ?_ | refine wx_nilCheck rfl rfl _ rfl _ rfl ?_ | (refine wx_float rfl rfl _ _ _ _ _ _ _ rfl rfl rfl rfl ?_; intro r hr) | (refine wx_k rfl rfl rfl (fun K hK => ?_); go_big_quiet_op; refine hK _ ?_; clear hK K) | (refine wx_call rfl rfl 54 _ _ rfl (by kernel_rfl) (by kernel_rfl) (.slice (some ⟨gb, off + k, none⟩) dn dn) (fun W hW hF => ?_) ?_; go_simp; (with_reducible refine (HC.out W hW).mono ?_); rintro e w' h; exact h)); (try simp only [Act.put, List.setIfInBounds_toArray, List.set_cons_zero, List.set_cons_succ]); (try simp only [List.tail_nil]))
  refine wx_nil (fun W hW hF => ?_)
  go_wp2
  go_ret
  exact ⟨_, rfl, ⟨hwv, rfl⟩, hW⟩
set_option maxRecDepth 8000 in
theorem implSliceOf_yes (wn hn dn gb off n c : Nat) (bs : List Nat) (en : Nat) (U : World) (hl : Lies U gb off bs) (hlen : bs.length = n) (hwd : Words bs) (hnc : n ≤ c) (hcm : c ≤ maxLen) (hv : VVol wn hn dn n) (he : en < dn) :
    Calls Try.prog 91 #[.agg #[.int .i64 wn, .int .i64 hn, .int .i64 dn, .slice (some ⟨gb, off, none⟩) n c], .int .i64 en] U fun e U' => ∃ A c' b, e = .returned (.tuple #[.agg #[.int .i64 wn, .int .i64 hn, .slice A b.length c'], .bool true]) ∧ OwnF U' U.heap.size 25 (.slice A b.length c') b ∧ b.map nrm = cells (fun (x y : Nat) => nrm (bs.getD (cellN wn (x : Int) (y : Int) * dn + en) 0)) wn (wn * hn) ∧ Ext U U' := by
  have HV := Lib.hid hv
  have hw1 : IntKind.i64.wrap ((dn : Int) - 1) = (dn : Int) - 1 := wrap_small _ (by have := hv.2.1; omega) (by have := hv.2.2.1; omega)
  have he0 : (0 : Int) ≤ (en : Int) := by omega
  have he1 : (en : Int) ≤ (dn : Int) - 1 := by omega
  have HE := Lib.hid (⟨he0, he1⟩ : (0 : Int) ≤ (en : Int) ∧ (en : Int) ≤ (dn : Int) - 1)
  have hcn := Nat.le_trans hnc hcm
  have HK := Lib.hid (fun (w0 : World) (hx0 : Ext U w0) (hb0 : Box4 w0 U.heap.size (.int .i64 wn) (.int .i64 hn) (.int .i64 dn) (.slice (some ⟨gb, off, none⟩) n c)) (hp0 : w0.cell? ⟨U.heap.size + 1, 0, none⟩ = some (.int .i64 en)) => made_any wn hn (by have := hv.1.2.1; omega) (by have := hv.1.2.2.2.1; omega) 116 #[.pointer (some ⟨U.heap.size, 0, none⟩), .pointer (some ⟨U.heap.size + 1, 0, none⟩)] (fun (x y : Nat) => nrm (bs.getD (cellN wn (x : Int) (y : Int) * dn + en) 0)) w0 (by kernel_rfl)
    (fun x y U' h1 h2 h3 => slice1 wn hn dn gb off n c bs _ _ en x y U' (hb0.ext h1) ((hl.ext hx0).ext h1) hlen hwd hnc hcm hv (cell_ext hp0 h1) h2 h3 he))
  clear hv hl hlen hwd hnc hcm he he0 he1
  go_enter Try.func91, Try.ntmps91
  go_wp2_with fail
  refine calls_at (X := fun w' => Ext U w' ∧ Box4 w' U.heap.size (.int .i64 wn) (.int .i64 hn) (.int .i64 dn) (.slice (some ⟨gb, off, none⟩) n c) ∧ w'.cell? ⟨U.heap.size + 1, 0, none⟩ = some (.int .i64 en) ∧ Res3 w' (U.heap.size + 1 + 1) ∧ U.heap.size + 1 + 1 + 1 ≤ w'.heap.size) ⟨(((Ext.refl _).alloc _).alloc _).alloc _, ⟨by simp [go_sem], by simp [go_sem], by simp [go_sem], by simp [go_sem]⟩, by simp [go_sem], ⟨by simp [go_sem], by simp [go_sem], by simp [go_sem], by simp [go_sem], by simp [go_sem], by simp [go_sem]⟩, by simp⟩ ?_
  rintro w0 ⟨hx0, hb0, hp0, hr0, hs0⟩
  refine (ValidVolume_yes _ _ _ _ n c _ hcn HV.out).mono ?_
  rintro e w1 ⟨rfl, hx⟩
  have hb1 := hb0.ext hx
  have hp1 := cell_ext hp0 hx
  have hr1 := hr0.ext hx
  have hE := hx0.trans hx
  have hs1 := Nat.le_trans hs0 hx.size
  clear hx hx0 hb0 hr0 hs0 hp0
  have ⟨p0, p1, p2, p3⟩ := hb1
  go_wp2_with (go_at_call 67; with_reducible refine (implIn_yes (en : Int) 0 ((dn : Int) - 1) _ HE.out.1 HE.out.2).mono ?_; rintro e w' ⟨rfl, rfl⟩)
  clear p0 p1 p2 p3
  refine (HK.out _ hE hb1 hp1).mono ?_
  rintro e w2 ⟨A, c', b, rfl, ho, hm, hwd2, hx⟩
  have ⟨c0, c1, c2, f0, f1, f2⟩ := hr1.ext hx
  have hE2 := hE.trans hx
  clear hx hE hb1 hr1 hp1
  go_wp2
  refine bodyPost_ret (v := .tuple #[.agg #[.int .i64 wn, .int .i64 hn, .slice A b.length c'], .bool true]) (by simp [results, Try.results91, go_sem, *]) rfl ⟨A, c', b, rfl, ?_, hm, ?_⟩
  · refine OwnF.weaken (base := w1.heap.size) ?_ (by omega)
    repeat (first | (with_reducible exact ho) | (with_reducible refine OwnF.set_below ?_ (by dsimp only; omega) _))
  · repeat (first | (with_reducible exact hE2) | (with_reducible refine Ext.setCell ?_ (by dsimp only; omega) _))
end Go.Proofs.Ytgpobhpcbgenoaa
