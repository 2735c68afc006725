/- The law on MirrorMap holds. -/
import Derived.Test.YtcekofioiofjbaaOwn3
import Derived.Test.YtcekofioiofjbaaCMirrorMap
namespace Go.Proofs.Ytcekofioiofjbaa
open Go.RowKit
set_option linter.unusedVariables false

theorem mirror_src (wn q : Nat) (hw : 0 < wn) : cellN wn ((wn : Int) - 1 - ((q % wn : Nat) : Int)) ((q / wn : Nat) : Int) = q - q % wn + wn - 1 - q % wn := by
  have h1 := Nat.mod_add_div q wn
  have h2 := Nat.mod_lt q hw
  rw [show ((wn : Int) - 1 - ((q % wn : Nat) : Int)) = ((wn - 1 - q % wn : Nat) : Int) by omega, cellN_nat]
  omega
theorem mirror1_any (wn hn gb off n c : Nat) (bs : List Nat) (gv : Nat) (x y : Nat) (U : World) (hB : Box3 U gv (.int .i64 wn) (.int .i64 hn) (.slice (some ⟨gb, off, none⟩) n c)) (hl : Lies U gb off bs) (hlen : bs.length = n) (hwd : Words bs) (hnm : n ≤ maxLen) (hv : VMap wn hn n) (hx : x < wn) (hy : y < hn) :
    Calls Try.prog 79 #[.int .i64 x, .int .i64 y, .pointer (some ⟨gv, 0, none⟩)] U fun e' U' => ∃ r, e' = .returned (.float .f32 r) ∧ Is r (nrm (bs.getD (cellN wn ((wn : Int) - 1 - (x : Int)) (y : Int)) 0)) ∧ Ext U U' := by
  have h1 := hv.1.2.1
  have h2 := hv.1.2.2.2.1
  have hw1 : IntKind.i64.wrap ((wn : Int) - 1) = (wn : Int) - 1 := wrap_small _ (by omega) (by omega)
  have hw2 : IntKind.i64.wrap ((wn : Int) - 1 - (x : Int)) = (wn : Int) - 1 - (x : Int) := wrap_small _ (by omega) (by omega)
  obtain ⟨e1, e2, e3⟩ := cellN_eq hv (show 0 ≤ (wn : Int) - 1 - (x : Int) by omega) (by omega) (show 0 ≤ (y : Int) by omega) (show (y : Int) ≤ (hn : Int) - 1 by omega)
  have hwv := wd_at hwd (cellN wn ((wn : Int) - 1 - (x : Int)) (y : Int))
  have HA := Lib.hid (fun (W : World) (hx' : Ext U W) => at_any gv wn hn (some ⟨gb, off, none⟩) n c bs ((wn : Int) - 1 - (x : Int)) (y : Int) _ W (hB.ext hx') ⟨hlen, fun _ => ⟨gb, off, rfl, hl.ext hx'⟩⟩ hnm e1 e2 e3)
  obtain ⟨p0, p1, p2⟩ := hB
  clear hl hlen hwd hnm hv e1 e2 e3
  go_enter Try.func79, Try.ntmps79
  go_wp2_with fail
  refine (HA.out _ (Ext.refl _)).mono ?_
  rintro e w1 ⟨rfl, hx1⟩
  clear p0 p1 p2
  go_wp2
  go_ret
  exact ⟨_, rfl, ⟨hwv, rfl⟩, hx1⟩
theorem implMirrorMap_of (z0 z1 : Int) (A0 : Option Addr) (n0 m0 : Nat)  (o0 o1 : Int) (ok : Bool) (L : List Nat) (U : World)
    (hcall : ∀ w0, Ext U w0 → Box3 w0 U.heap.size (.int .i64 z0) (.int .i64 z1) (.slice A0 n0 m0) → Calls Try.prog 78 #[.agg #[.int .i64 z0, .int .i64 z1, .slice A0 n0 m0], .func (.func 79) #[] #[.pointer (some ⟨U.heap.size, 0, none⟩)]] w0 fun e U' => ∃ A c' b, e = .returned (.tuple #[.agg #[.int .i64 o0, .int .i64 o1, .slice A b.length c'], .bool ok]) ∧ OwnF U' w0.heap.size 37 (.slice A b.length c') b ∧ b.map nrm = L ∧ Ext w0 U') :
    Calls Try.prog 33 #[.agg #[.int .i64 z0, .int .i64 z1, .slice A0 n0 m0]] U fun e U' => ∃ A c' b, e = .returned (.tuple #[.agg #[.int .i64 o0, .int .i64 o1, .slice A b.length c'], .bool ok]) ∧ OwnF U' U.heap.size 37 (.slice A b.length c') b ∧ b.map nrm = L ∧ Ext U U' := by
  have HK := Lib.hid hcall
  clear hcall
  go_enter Try.func33, Try.ntmps33
  go_wp2_with fail
  refine calls_at (X := fun w' => Ext U w' ∧ Box3 w' U.heap.size (.int .i64 z0) (.int .i64 z1) (.slice A0 n0 m0) ∧ Res3 w' (U.heap.size + 1) ∧ U.heap.size + 1 + 1 ≤ w'.heap.size) ⟨((Ext.refl _).alloc _).alloc _, ⟨by simp [go_sem], by simp [go_sem], by simp [go_sem]⟩, ⟨by simp [go_sem], by simp [go_sem], by simp [go_sem], by simp [go_sem], by simp [go_sem], by simp [go_sem]⟩, by simp⟩ ?_
  rintro w0 ⟨hx0, hb0, hr0, hs0⟩
  refine (HK.out w0 hx0 hb0).mono ?_
  rintro e w1 ⟨A, c', b, rfl, ho, hm, hx⟩
  have ⟨c0, c1, c2, f0, f1, f2⟩ := hr0.ext hx
  have hE2 := hx0.trans hx
  clear hx hx0 hb0 hr0
  go_wp2
  refine bodyPost_ret (v := .tuple #[.agg #[.int .i64 o0, .int .i64 o1, .slice A b.length c'], .bool ok]) (by simp [results, Try.results33, go_sem, *]) rfl ⟨A, c', b, rfl, ?_, hm, ?_⟩
  · refine OwnF.weaken (base := w0.heap.size) ?_ (by omega)
    repeat (first | (with_reducible exact ho) | (with_reducible refine OwnF.set_below ?_ (by dsimp only; omega) _))
  · repeat (first | (with_reducible exact hE2) | (with_reducible refine Ext.setCell ?_ (by dsimp only; omega) _))
theorem specMirrorMap_no (z0 z1 : Int) (A0 : Option Addr) (n0 m0 : Nat)  (hn0 : n0 ≤ maxLen) (hv : ¬ VMap z0 z1 n0) (U : World) :
    Calls Try.prog 32 #[.agg #[.int .i64 z0, .int .i64 z1, .slice A0 n0 m0]] U fun e U' => ∃ A c' b, e = .returned (.tuple #[.agg #[.int .i64 0, .int .i64 0, .slice A b.length c'], .bool false]) ∧ OwnF U' U.heap.size 37 (.slice A b.length c') b ∧ b.map nrm = [] ∧ Ext U U' := by
  have HV := Lib.hid hv
  clear hv
  go_enter Try.func32, Try.ntmps32
  go_wp2_with fail
  refine calls_at (X := fun w' => Ext U w' ∧ Box3 w' U.heap.size (.int .i64 z0) (.int .i64 z1) (.slice A0 n0 m0) ∧ Res3 w' (U.heap.size + 1) ∧ U.heap.size + 1 + 1 ≤ w'.heap.size) ⟨((Ext.refl _).alloc _).alloc _, ⟨by simp [go_sem], by simp [go_sem], by simp [go_sem]⟩, ⟨by simp [go_sem], by simp [go_sem], by simp [go_sem], by simp [go_sem], by simp [go_sem], by simp [go_sem]⟩, by simp⟩ ?_
  rintro w0 ⟨hx0, hb0, hr0, hs0⟩
  refine (l03IsMap_not _ _ _ A0 n0 m0 _ hn0 hb0.1 hb0.2.1 hb0.2.2 HV.out).mono ?_
  rintro e w1 ⟨rfl, hx⟩
  have ⟨c0, c1, c2, f0, f1, f2⟩ := hr0.ext hx
  have hE := hx0.trans hx
  clear hx hx0 hb0 hr0
  go_wp2
  refine bodyPost_ret (v := .tuple #[.agg #[.int .i64 0, .int .i64 0, .slice none 0 0], .bool false]) (by simp [results, Try.results32, go_sem, *]) rfl ⟨none, 0, [], rfl, OwnF.nil _ _ _, rfl, ?_⟩
  repeat (first | (with_reducible exact hE) | (with_reducible refine Ext.setCell ?_ (by dsimp only; omega) _))
set_option maxHeartbeats 4000000 in
set_option maxRecDepth 8000 in
theorem specMirrorMap_yes (wn hn gb off n c : Nat) (bs : List Nat) (U : World) (hl : Lies U gb off bs) (hlen : bs.length = n) (hwd : Words bs) (hnc : n ≤ c) (hcm : c ≤ maxLen) (hv : VMap wn hn n) :
    Calls Try.prog 32 #[.agg #[.int .i64 wn, .int .i64 hn, .slice (some ⟨gb, off, none⟩) n c]] U fun e U' => ∃ A c' b, e = .returned (.tuple #[.agg #[.int .i64 wn, .int .i64 hn, .slice A b.length c'], .bool true]) ∧ OwnF U' U.heap.size 37 (.slice A b.length c') b ∧ b.map nrm = (List.range n).map (fun i => nrm (bs.getD (i - i % wn + wn - 1 - i % wn) 0)) ∧ Ext U U' := by
  obtain ⟨hnn0, h0, hn2⟩ := map_n hv
  have hw0 : 0 < wn := by have := hv.1.1; omega
  have hw24 : wn ≤ 24 := by have := hv.1.2.1; omega
  have hst : ∀ q, q < n → q - q % wn + wn - 1 - q % wn < n ∧ q % wn < wn ∧ q % wn ≤ q := by
    intro q hq
    have h1 := Nat.mod_lt q hw0
    have h2 := Nat.mod_add_div q wn
    rw [hnn0] at hq ⊢
    have h3 : q / wn < hn := Nat.div_lt_of_lt_mul hq
    have h4 : wn * (q / wn + 1) ≤ wn * hn := Nat.mul_le_mul_left _ h3
    rw [Nat.mul_add, Nat.mul_one] at h4
    omega
  have HST := Lib.hid hst
  clear hnn0 hst
  have hbl : gb < U.heap.size := hl.lt (by omega)
  have HV := Lib.hid hv
  have HLEN := Lib.hid hlen
  have HWD := Lib.hid hwd
  clear hv hlen hwd
  have hcn := Nat.le_trans hnc hcm
  unfold maxLen at hcm
  go_enter Try.func32, Try.ntmps32
  go_wp2_with fail
  refine calls_at (X := fun w' => Ext U w' ∧ Box3 w' U.heap.size (.int .i64 wn) (.int .i64 hn) (.slice (some ⟨gb, off, none⟩) n c) ∧ Res3 w' (U.heap.size + 1) ∧ U.heap.size + 1 + 1 ≤ w'.heap.size) ⟨((Ext.refl _).alloc _).alloc _, ⟨by simp [go_sem], by simp [go_sem], by simp [go_sem]⟩, ⟨by simp [go_sem], by simp [go_sem], by simp [go_sem], by simp [go_sem], by simp [go_sem], by simp [go_sem]⟩, by simp⟩ ?_
  rintro w0 ⟨hx0, hb0, hr0, hs0⟩
  refine (l03IsMap_yes _ wn hn _ n c _ hcn hb0.1 hb0.2.1 hb0.2.2 HV.out).mono ?_
  rintro e w1 ⟨rfl, hx⟩
  have hb1 := hb0.ext hx
  have hr1 := hr0.ext hx
  have hE := hx0.trans hx
  have hs1 := Nat.le_trans hs0 hx.size
  have hl1 := hl.ext hE
  clear hx hx0 hb0 hr0 hs0 hl
  go_wp2_with fail
  refine (l05Own_any U.heap.size wn hn gb off n c bs w1 hl1 HLEN.out hb1 h0 (by omega)).mono ?_
  rintro e w2 ⟨H, cH, rfl, hO, hx⟩
  have hH := hO.ge
  replace hE := hE.trans hx
  have hs2 := Nat.le_trans hs1 hx.size
  replace hb1 := hb1.ext hx
  replace hr1 := hr1.ext hx
  replace hl1 := hl1.ext hx
  clear hx
  go_wp2_with fail
  go_loopw [14] (fun i wr => ∃ k : Nat, k ≤ n ∧ i = .int .i64 k ∧ Fil U wr w1.heap.size 37 H n cH bs k (fun i => nrm (bs.getD (i - i % wn + wn - 1 - i % wn) 0)) ∧ Box3 wr U.heap.size (.int .i64 wn) (.int .i64 hn) (.slice (some ⟨gb, off, none⟩) n c) ∧ Lies wr gb off bs ∧ Res3 wr (U.heap.size + 1) ∧ Box3 wr w2.heap.size (.int .i64 wn) (.int .i64 hn) (.slice (some ⟨H, 0, none⟩) n cH)) (fun i _ => n - (intOf i).toNat)
  case atStart =>
    refine ⟨0, Nat.zero_le _, rfl, Fil.start (hO.ext ?e) (hE.trans ?e), hb1.ext ?e, hl1.ext ?e, hr1.ext ?e, ⟨by simp [go_sem], by simp [go_sem], by simp [go_sem]⟩⟩
    case e => repeat (first | with_reducible exact Ext.refl _ | (with_reducible refine Ext.setCell ?_ (by simp; try omega) _) | (with_reducible refine Ext.alloc ?_ _))
  case round =>
    clear hO hE hb1 hr1 hl1
    obtain ⟨k, hk, rfl, hfil, hb, hl, hres, ho⟩ := hrel
    by_cases hlt : k < n
    · obtain ⟨e1, e2, e3⟩ := HST.out k hlt
      obtain ⟨xq, hxq⟩ : ∃ xq, k % wn = xq := ⟨_, rfl⟩
      obtain ⟨sq, hsq⟩ : ∃ sq, k - k % wn + wn - 1 - k % wn = sq := ⟨_, rfl⟩
      have HSQ := Lib.hid hsq
      rw [hsq] at e1
      rw [hxq] at e2 e3 hsq
      have hqm : (k : Int) % (wn : Int) = (xq : Int) := by rw [← hxq]; simp
      have hA : IntKind.i64.wrap ((k : Int) - (xq : Int)) = (k : Int) - (xq : Int) := wrap_small _ (by omega) (by omega)
      have hA2 : IntKind.i64.wrap ((k : Int) - (xq : Int) + (wn : Int)) = (k : Int) - (xq : Int) + (wn : Int) := wrap_small _ (by omega) (by omega)
      have hA3 : IntKind.i64.wrap ((k : Int) - (xq : Int) + (wn : Int) - 1) = (k : Int) - (xq : Int) + (wn : Int) - 1 := wrap_small _ (by omega) (by omega)
      have hA4 : IntKind.i64.wrap ((k : Int) - (xq : Int) + (wn : Int) - 1 - (xq : Int)) = (sq : Int) := by
        rw [show (k : Int) - (xq : Int) + (wn : Int) - 1 - (xq : Int) = (sq : Int) by omega]; exact wrap_small _ (by omega) (by omega)
      have hwz : ((wn : Int) == 0) = false := by simp; omega
      have hc1 := hl sq (by have := HLEN.out; omega)
      have hw1 := wd_at HWD.out sq
      have ⟨p0, p1, p2⟩ := hb
      have ⟨o0, o1, o2⟩ := ho
      have hk0 : (0 : Int) ≤ (k : Int) := by omega
      have hk1 : (k : Int) < (n : Int) := by omega
      have hk2 : (0 : Int) ≤ (sq : Int) := by omega
      have hk3 : (sq : Int) < (n : Int) := by omega
      clear hxq hsq
      go_wp2_with fail
      refine region_wx 17 [] (by kernel_rfl) (by kernel_rfl) ?_
      simp only [List.take_succ_cons, List.take_zero, List.drop_succ_cons, List.drop_zero]
      repeat ((first | refine wx_skip rfl ?_ | refine wx_nilCheck rfl rfl _ rfl _ rfl ?_ | (refine wx_float rfl rfl _ _ _ _ _ _ _ rfl rfl rfl rfl ?_; intro r hr) | (refine wx_k rfl rfl rfl (fun K hK => ?_); go_big_quiet_op; refine hK _ ?_; clear hK K) ); (try simp only [Act.put, List.setIfInBounds_toArray, List.set_cons_zero, List.set_cons_succ]); (try simp only [List.tail_nil]))
      refine wx_nil (fun W hW hF => ?_)
      have hct := (hfil.later hW).cell hlt (Nat.le_refl _)
      have hcf := (hfil.later hW).cool k
      have hfil' := (hfil.later hW).put hlt (by omega) (r := bs.getD sq 0) ⟨hw1, by rw [HSQ.out]⟩
      have hb' := (hb.ext hW).set_ne (g := H) (i := k) (u := fl (bs.getD sq 0)) (by omega)
      have hl' := (hl.ext hW).set_ne (g := H) (i := k) (u := fl (bs.getD sq 0)) (by omega)
      have hres' := (hres.ext hW).set_ne (g := H) (i := k) (u := fl (bs.getD sq 0)) (by omega)
      have ho' := (ho.ext hW).set_ne (g := H) (i := k) (u := fl (bs.getD sq 0)) (by omega)
      clear p0 p1 p2 o0 o1 o2 hF hb hl hres ho hfil hc1
      go_wp2
      go_roundw
      case rel => exact ⟨k + 1, by omega, by go_num, hfil', hb', hl', hres', ho'⟩
      case measure => simp [intOf]; omega
    · have e1 : k = n := by omega
      subst e1
      obtain ⟨b, hbl3, hb1, hb2⟩ := hfil.done
      have hE := hfil.ext
      have ⟨o0, o1, o2⟩ := ho
      have ⟨c0, c1, c2, f0, f1, f2⟩ := hres
      clear hb hl hres ho hfil
      have hbb := hbl3
      subst hbb
      go_wp2
      refine bodyPost_ret (v := .tuple #[.agg #[.int .i64 wn, .int .i64 hn, .slice (some ⟨H, 0, none⟩) b.length cH], .bool true]) (by simp [results, Try.results32, go_sem, *]) rfl ⟨_, cH, b, rfl, ?_, hb2, ?_⟩
      · refine OwnF.weaken (base := w1.heap.size) ?_ (by omega)
        repeat (first | (with_reducible exact hb1) | (with_reducible refine OwnF.set_below ?_ (by dsimp only; omega) _))
      · repeat (first | (with_reducible exact hE) | (with_reducible refine Ext.setCell ?_ (by dsimp only; omega) _))
set_option maxRecDepth 8000 in
theorem lawMirrorMap_any (W : World) (z0 z1 : Int) (_ : -9223372036854775808 ≤ z0 ∧ z0 ≤ 9223372036854775807) (_ : -9223372036854775808 ≤ z1 ∧ z1 ≤ 9223372036854775807) (A : Option Addr) (n m : Nat) (bs : List Nat) (hc : n ≤ m) (hm : m ≤ maxLen) (hr : Reads W A n bs) (hw : Words bs) :
    Calls Try.prog 7 #[.agg #[.int .i64 z0, .int .i64 z1, .slice A n m]] W fun e W' => e = .returned (.bool true) ∧ Ext W W' := by
  have hn : n ≤ maxLen := Nat.le_trans hc hm
  by_cases hv : VMap z0 z1 n
  · obtain ⟨wn, rfl⟩ := Int.eq_ofNat_of_zero_le (show 0 ≤ z0 by have := hv.1.1; omega)
    obtain ⟨hn', rfl⟩ := Int.eq_ofNat_of_zero_le (show 0 ≤ z1 by have := hv.1.2.2.1; omega)
    obtain ⟨hnn, h0, hn2⟩ := map_n hv
    refine lawMirrorMap_core W wn hn' A n m bs hn hr wn hn' ((List.range n).map (fun i => nrm (bs.getD (i - i % wn + wn - 1 - i % wn) 0))) (by simp; omega) true ?_ ?_
    · intro w D hd
      obtain ⟨gb, off, rfl, hl⟩ := hd.2 h0
      exact specMirrorMap_yes wn hn' gb off n n bs w hl hd.1 hw (Nat.le_refl _) hn hv
    · intro w D hd
      obtain ⟨gb, off, rfl, hl⟩ := hd.2 h0
      refine implMirrorMap_of wn hn' _ n n wn hn' true _ w (fun w0 hx0 hb0 => ?_)
      refine (remap_yes wn hn' _ n n hn hv 79 #[.pointer (some ⟨w.heap.size, 0, none⟩)] (fun (x y : Nat) => nrm (bs.getD (cellN wn ((wn : Int) - 1 - (x : Int)) (y : Int)) 0)) w0 (by kernel_rfl) (fun x y U' h1 h2 h3 => mirror1_any wn hn' gb off n n bs _ x y U' (hb0.ext h1) ((hl.ext hx0).ext h1) hd.1 hw hn hv h2 h3)).mono ?_
      rintro e w1 ⟨A1, c1, b1, rfl, ho, hm1, hx1⟩
      refine ⟨A1, c1, b1, rfl, ho, hm1.trans ?_, hx1⟩
      rw [hnn]
      unfold cells
      refine List.map_congr_left fun i hi => ?_
      show nrm (bs.getD (cellN wn ((wn : Int) - 1 - ((i % wn : Nat) : Int)) ((i / wn : Nat) : Int)) 0) = _
      rw [mirror_src wn i (by have := hv.1.1; omega)]
  · exact lawMirrorMap_core W z0 z1 A n m bs hn hr 0 0 [] (by simp) false (fun w D hd => specMirrorMap_no z0 z1 D n n hn hv w) (fun w D hd => implMirrorMap_of z0 z1 D n n 0 0 false [] w (fun w0 hx0 hb0 => remap_no z0 z1 D n n hn hv _ _ w0))
end Go.Proofs.Ytcekofioiofjbaa
