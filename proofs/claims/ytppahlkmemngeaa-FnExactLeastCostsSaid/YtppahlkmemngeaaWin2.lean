/- Maps of what is told of the costs of each cell. -/
import Derived.Test.YtppahlkmemngeaaWin
import Derived.Test.YtppahlkmemngeaaMade
namespace Go.Proofs.Ytppahlkmemngeaa
open Go.RowKit
set_option linter.unusedVariables false

set_option maxHeartbeats 1000000 in
theorem cellMap1_any (wn hn dn gb off n c gv gf : Nat) (g : FuncId) (X : Nat) (x y : Nat) (U : World) (hB : Box4 U gv (.int .i64 wn) (.int .i64 hn) (.int .i64 dn) (.slice (some ⟨gb, off, none⟩) n c)) (hf : U.cell? ⟨gf, 0, none⟩ = some (.func (.func g) #[] #[])) (hnc : n ≤ c) (hcm : c ≤ maxLen) (hv : VVol wn hn dn n) (hx : x < wn) (hy : y < hn)
    (hg : (Try.prog.funcs[g]?).any (fun fn => !(fn.name == "runtime.NumGoroutine") && fn.body.isSome) = true)
    (hof : ∀ U', Ext U U' → Calls Try.prog g #[.slice (some ⟨gb, off + cellN wn (x : Int) (y : Int) * dn, none⟩) dn dn] U' fun e U'' => ∃ r, e = .returned (.float .f32 r) ∧ Is r X ∧ Ext U' U'') :
    Calls Try.prog 98 #[.int .i64 x, .int .i64 y, .pointer (some ⟨gf, 0, none⟩), .pointer (some ⟨gv, 0, none⟩)] U fun e U' => ∃ r, e = .returned (.float .f32 r) ∧ Is r X ∧ Ext U U' := by
  have hbx : 0 ≤ ((x : Int)) ∧ ((x : Int)) ≤ (wn : Int) - 1 := ⟨by omega, by omega⟩
  have hby : 0 ≤ ((y : Int)) ∧ ((y : Int)) ≤ (hn : Int) - 1 := ⟨by omega, by omega⟩
  have hcell := fun (W : World) (hx' : Ext U W) => cellC_any gv wn hn dn gb off n c (x : Int) (y : Int) W (hB.ext hx') hnc hcm hv hbx hby
  generalize cellN (wn : Int) (x : Int) (y : Int) * dn = k at hcell hof
  have HC := Lib.hid hcell
  have HG := Lib.hid hg
  have HOF := Lib.hid hof
  clear hnc hcm hv hcell hbx hby hB hg hof
  go_enter Try.func98, Try.ntmps98
  go_wp2_with fail
  refine region_wx 5 [none, none, none, none, some (fun u U' => ∃ r, u = .float .f32 r ∧ Is r X)] (by kernel_rfl) (by kernel_rfl) ?_
  simp only [List.take_succ_cons, List.take_zero, List.drop_succ_cons, List.drop_zero]
  repeat ((first | refine wx_skip rfl ?_ | refine wx_nilCheck rfl rfl _ rfl _ rfl ?_ | (refine wx_float rfl rfl _ _ _ _ _ _ _ rfl rfl rfl rfl ?_; intro r hr) | (refine wx_k rfl rfl rfl (fun K hK => ?_); go_big_quiet_op; refine hK _ ?_; clear hK K) | (refine wx_call rfl rfl 56 _ _ rfl (by kernel_rfl) (by kernel_rfl) (.slice (some ⟨gb, off + k, none⟩) dn dn) (fun W hW hF => ?_) ?_; go_simp; (with_reducible refine (HC.out W hW).mono ?_); rintro e w' h; exact h) | (refine wx_callV _ rfl rfl _ _ _ rfl g #[] rfl HG.out (fun Wc hWc hFc => ?_) ?_; (· go_simp; refine (HOF.out Wc hWc).mono ?_; rintro e w' ⟨r, rfl, hr, hx⟩; exact ⟨_, rfl, ⟨r, rfl, hr⟩, hx⟩); rintro u V hV ⟨r, rfl, hr⟩)); (try simp only [Act.put, List.setIfInBounds_toArray, List.set_cons_zero, List.set_cons_succ]); (try simp only [List.tail_cons]))
  refine wx_nil (fun W hW hF => ?_)
  go_wp2
  go_ret
  exact ⟨_, rfl, hr, hW⟩
set_option maxRecDepth 8000 in
theorem cellMap_yes (wn hn dn gb off n c : Nat) (g : FuncId) (F : Nat → Nat → Nat) (U : World) (hnc : n ≤ c) (hcm : c ≤ maxLen) (hv : VVol wn hn dn n)
    (hg : (Try.prog.funcs[g]?).any (fun fn => !(fn.name == "runtime.NumGoroutine") && fn.body.isSome) = true)
    (hof : ∀ (x y : Nat) U', Ext U U' → x < wn → y < hn → Calls Try.prog g #[.slice (some ⟨gb, off + cellN wn (x : Int) (y : Int) * dn, none⟩) dn dn] U' fun e U'' => ∃ r, e = .returned (.float .f32 r) ∧ Is r (F x y) ∧ Ext U' U'') :
    Calls Try.prog 84 #[.agg #[.int .i64 wn, .int .i64 hn, .int .i64 dn, .slice (some ⟨gb, off, none⟩) n c], .func (.func g) #[] #[]] U fun e U' => ∃ A c' b, e = .returned (.tuple #[.agg #[.int .i64 wn, .int .i64 hn, .slice A b.length c'], .bool true]) ∧ OwnF U' U.heap.size 25 (.slice A b.length c') b ∧ b.map nrm = cells F wn (wn * hn) ∧ Ext U U' := by
  have HV := Lib.hid hv
  have hcn := Nat.le_trans hnc hcm
  have HK := Lib.hid (fun (w0 : World) (hx0 : Ext U w0) (hb0 : Box4 w0 U.heap.size (.int .i64 wn) (.int .i64 hn) (.int .i64 dn) (.slice (some ⟨gb, off, none⟩) n c)) (hp0 : w0.cell? ⟨U.heap.size + 1, 0, none⟩ = some (.func (.func g) #[] #[])) => mapOf_any wn hn (by have := hv.1.2.1; omega) (by have := hv.1.2.2.2.1; omega) 98 #[.pointer (some ⟨U.heap.size + 1, 0, none⟩), .pointer (some ⟨U.heap.size, 0, none⟩)] F w0 (by kernel_rfl)
    (fun x y U' h1 h2 h3 => cellMap1_any wn hn dn gb off n c _ _ g (F x y) x y U' (hb0.ext h1) (cell_ext hp0 h1) hnc hcm hv h2 h3 hg (fun U2 hx2 => hof x y U2 ((hx0.trans h1).trans hx2) h2 h3)))
  clear hv hnc hcm hg hof
  go_enter Try.func84, Try.ntmps84
  go_wp2_with fail
  refine calls_at (X := fun w' => Ext U w' ∧ Box4 w' U.heap.size (.int .i64 wn) (.int .i64 hn) (.int .i64 dn) (.slice (some ⟨gb, off, none⟩) n c) ∧ w'.cell? ⟨U.heap.size + 1, 0, none⟩ = some (.func (.func g) #[] #[]) ∧ Res3 w' (U.heap.size + 1 + 1) ∧ U.heap.size + 1 + 1 + 1 ≤ w'.heap.size) ⟨(((Ext.refl _).alloc _).alloc _).alloc _, ⟨by simp [go_sem], by simp [go_sem], by simp [go_sem], by simp [go_sem]⟩, by simp [go_sem], ⟨by simp [go_sem], by simp [go_sem], by simp [go_sem], by simp [go_sem], by simp [go_sem], by simp [go_sem]⟩, by simp⟩ ?_
  rintro w0 ⟨hx0, hb0, hp0, hr0, hs0⟩
  refine (ValidVolume_yes _ _ _ _ n c _ hcn HV.out).mono ?_
  rintro e w1 ⟨rfl, hx⟩
  have hb1 := hb0.ext hx
  have hp1 := cell_ext hp0 hx
  have hr1 := hr0.ext hx
  have hE := hx0.trans hx
  have hs1 := Nat.le_trans hs0 hx.size
  clear hx hx0 hb0 hr0 hs0 hp0
  have ⟨p0, p1, p2, p3⟩ := hb1
  go_wp2_with fail
  clear p0 p1 p2 p3
  refine (HK.out _ hE hb1 hp1).mono ?_
  rintro e w2 ⟨A, c', b, rfl, ho, hm, hwd2, hx⟩
  have ⟨c0, c1, c2, f0, f1, f2⟩ := hr1.ext hx
  have hE2 := hE.trans hx
  clear hx hE hb1 hr1 hp1
  go_wp2
  refine bodyPost_ret (v := .tuple #[.agg #[.int .i64 wn, .int .i64 hn, .slice A b.length c'], .bool true]) (by simp [results, Try.results84, go_sem, *]) rfl ⟨A, c', b, rfl, ?_, hm, ?_⟩
  · refine OwnF.weaken (base := w1.heap.size) ?_ (by omega)
    repeat (first | (with_reducible exact ho) | (with_reducible refine OwnF.set_below ?_ (by dsimp only; omega) _))
  · repeat (first | (with_reducible exact hE2) | (with_reducible refine Ext.setCell ?_ (by dsimp only; omega) _))
theorem cellMap_no (z0 z1 z2 : Int) (A0 : Option Addr) (n0 m0 : Nat) (g : FuncId) (hn0 : n0 ≤ maxLen) (hv : ¬ VVol z0 z1 z2 n0) (U : World) :
    Calls Try.prog 84 #[.agg #[.int .i64 z0, .int .i64 z1, .int .i64 z2, .slice A0 n0 m0], .func (.func g) #[] #[]] U fun e U' => ∃ A c' b, e = .returned (.tuple #[.agg #[.int .i64 0, .int .i64 0, .slice A b.length c'], .bool false]) ∧ OwnF U' U.heap.size 25 (.slice A b.length c') b ∧ b.map nrm = [] ∧ Ext U U' := by
  have HV := Lib.hid hv
  clear hv
  go_enter Try.func84, Try.ntmps84
  go_wp2_with fail
  refine calls_at (X := fun w' => Ext U w' ∧ Res3 w' (U.heap.size + 1 + 1) ∧ U.heap.size + 1 + 1 + 1 ≤ w'.heap.size) ⟨(((Ext.refl _).alloc _).alloc _).alloc _, ⟨by simp [go_sem], by simp [go_sem], by simp [go_sem], by simp [go_sem], by simp [go_sem], by simp [go_sem]⟩, by simp⟩ ?_
  rintro w0 ⟨hx0, hr0, hs0⟩
  refine (ValidVolume_not _ _ _ A0 n0 m0 _ hn0 HV.out).mono ?_
  rintro e w1 ⟨rfl, hx⟩
  have ⟨c0, c1, c2, f0, f1, f2⟩ := hr0.ext hx
  have hE := hx0.trans hx
  clear hx hx0 hr0
  go_wp2
  refine bodyPost_ret (v := .tuple #[.agg #[.int .i64 0, .int .i64 0, .slice none 0 0], .bool false]) (by simp [results, Try.results84, go_sem, *]) rfl ⟨none, 0, [], rfl, OwnF.nil _ _ _, rfl, ?_⟩
  repeat (first | (with_reducible exact hE) | (with_reducible refine Ext.setCell ?_ (by dsimp only; omega) _))
set_option maxHeartbeats 8000000 in
set_option maxRecDepth 8000 in
theorem l03Winners_any (g wn hn dn gb off n c : Nat) (bs : List Nat) (U : World) (hB : Box4 U g (.int .i64 wn) (.int .i64 hn) (.int .i64 dn) (.slice (some ⟨gb, off, none⟩) n c)) (hl : Lies U gb off bs) (hlen : bs.length = n) (hwd : Words bs) (hnc : n ≤ c) (hcm : c ≤ maxLen) (hv : VVol wn hn dn n) :
    Calls Try.prog 83 #[.pointer (some ⟨g, 0, none⟩)] U fun e U' => ∃ A c' b, e = .returned (.agg #[.int .i64 wn, .int .i64 hn, .slice A b.length c']) ∧ OwnF U' U.heap.size 25 (.slice A b.length c') b ∧ b.map nrm = (List.range (wn * hn)).map (fun i => floatOfInt .f32 (winTo (fun e => bs.getD (i * dn + e) 0) (-1) dn)) ∧ Ext U U' := by
  obtain ⟨i0, hi, hz0, hz1, hz2⟩ := info_parts infoF
  obtain ⟨hnn, h0, hn2⟩ := vol_n hv
  have hgl : g < U.heap.size := hB.lt
  have hwh0 := vol_wh hv
  have hd8 : dn ≤ 8 := by have := hv.2.2.1; omega
  have hd0 : 0 < dn := by have := hv.2.1; omega
  have hb1 : 1 ≤ wn ∧ wn ≤ 24 ∧ 1 ≤ hn ∧ hn ≤ 24 := by have h1 := hv.1.1; have h2 := hv.1.2.1; have h3 := hv.1.2.2.1; have h4 := hv.1.2.2.2.1; omega
  obtain ⟨N, hN⟩ : ∃ N, wn * hn = N := ⟨_, rfl⟩
  rw [hN] at hnn hwh0 ⊢
  have hmul : IntKind.i64.wrap ((wn : Int) * (hn : Int)) = (N : Int) := by
    rw [← hN]; have : ((wn : Int) * (hn : Int)) = ((wn * hn : Nat) : Int) := by simp
    rw [this]; exact IntWalk.i64_in _ (by omega)
  have hidx : ∀ k, k < N → k * dn + dn ≤ n := by
    intro k hk
    have h1 : (k + 1) * dn ≤ N * dn := Nat.mul_le_mul_right _ hk
    rw [Nat.succ_mul, ← hnn] at h1
    exact h1
  have HIDX := Lib.hid hidx
  have HLEN := Lib.hid hlen
  have HWD := Lib.hid hwd
  unfold maxLen at hcm
  clear hv hlen hwd hN hnn hidx 
  go_enter Try.func83, Try.ntmps83
  go_wp2_with fail
  refine wp_at (X := fun w' => Ext U w' ∧ U.heap.size + 1 ≤ w'.heap.size ∧ Box4 w' g (.int .i64 wn) (.int .i64 hn) (.int .i64 dn) (.slice (some ⟨gb, off, none⟩) n c) ∧ Res3 w' U.heap.size) ⟨(Ext.refl _).alloc _, by simp, hB.ext ((Ext.refl _).alloc _), ⟨by simp [go_sem], by simp [go_sem], by simp [go_sem], by simp [go_sem], by simp [go_sem], by simp [go_sem]⟩⟩ ?_
  rintro w0 ⟨hx0, hs0, hB0, hres⟩
  have ⟨p0, p1, p2, p3⟩ := hB0
  clear hB
  refine region_wx 10 [] (by kernel_rfl) (by kernel_rfl) ?_
  simp only [List.take_succ_cons, List.take_zero, List.drop_succ_cons, List.drop_zero]
  repeat ((first | refine wx_skip rfl ?_ | refine wx_nilCheck rfl rfl _ rfl _ rfl ?_ | (refine wx_float rfl rfl _ _ _ _ _ _ _ rfl rfl rfl rfl ?_; intro r hr) | (refine wx_k rfl rfl rfl (fun K hK => ?_); go_big_quiet_op; refine hK _ ?_; clear hK K) | (refine wx_alloc rfl rfl 49 rfl #[.int .i64 0, .int .i64 0, .slice none 0 0] (fun Z => by simp [Instr.alloc, go_sem]) ?_; intro Va hVa)); (try simp only [Act.put, List.setIfInBounds_toArray, List.set_cons_zero, List.set_cons_succ]); (try simp only [List.tail_nil]))
  refine wx_nil (fun W hW hF => ?_)
  have hAW : Ext (Va.alloc (.cells #[.int .i64 0, .int .i64 0, .slice none 0 0] 49)) W := hF 9
  have hAg := hVa.size
  have rB := (⟨by simp [go_sem], by simp [go_sem], by simp [go_sem], by simp [go_sem], by simp [go_sem], by simp [go_sem]⟩ : Res3 (Va.alloc (.cells #[.int .i64 0, .int .i64 0, .slice none 0 0] 49)) Va.heap.size).ext hAW
  have rH : W.heap[Va.heap.size]? = some (.cells #[.int .i64 0, .int .i64 0, .slice none 0 0] 49 (0, 0)) := (hAW.block _ (by simp)).trans (heap_alloc_new _ _)
  clear hAW
  generalize Va.heap.size = go at hAg rB rH ⊢
  have hgo := rB.lt
  clear hF p0 p1 p2 p3 hVa
  have ⟨r0, r1, r2, rf0, rf1, rf2⟩ := rB
  go_wp2_with fail
  go_loopw [4] (fun y wr => ∃ (k : Nat) (A : Option Addr) (c' : Nat) (b : List Nat), k ≤ N ∧ y = .int .i64 k ∧ Acc2 w0 wr w0.heap.size 25 49 go 2 A c' b ((List.range k).map (fun i => floatOfInt .f32 (winTo (fun e => bs.getD (i * dn + e) 0) (-1) dn))) ∧ wr.cell? ⟨go, 0, none⟩ = some (.int .i64 wn) ∧ wr.cell? ⟨go, 1, none⟩ = some (.int .i64 hn)) (fun y _ => N - (intOf y).toNat)
  case atStart =>
    refine ⟨0, none, 0, [], Nat.zero_le _, rfl, ⟨OwnF.nil _ _ _, ?_, by simp [go_sem, *], by simp [go_sem, *], rfl, ?_, Nat.le_refl _, hAg⟩, by simp [go_sem, *], by simp [go_sem, *]⟩
    · repeat (first | with_reducible exact ⟨_, _, rH⟩ | with_reducible refine blk_set ?_)
    · repeat (first | with_reducible exact hW | (with_reducible refine Ext.setCell ?_ (by dsimp only; omega) _))
  case round =>
    clear r0 r1 r2 rf0 rf1 rf2 rB rH hgo hW
    obtain ⟨k, A, c', b, hk, rfl, hacc, o0, o1⟩ := hrel
    have ⟨p0, p1, p2, p3⟩ := hB0.ext hacc.ext
    have hU := hx0.trans hacc.ext
    have hl2 := hl.ext hU
    have hhdr := hacc.hdr
    by_cases hlt : k < N
    · go_wp2_with fail
      refine region_wx0 [] (by kernel_rfl) (by kernel_rfl) ?_
      repeat ((first | refine wx_skip rfl ?_ | refine wx_nilCheck rfl rfl _ rfl _ rfl ?_ | (refine wx_float rfl rfl _ _ _ _ _ _ _ rfl rfl rfl rfl ?_; intro r hr) | (refine wx_k rfl rfl rfl (fun K hK => ?_); go_big_quiet_op; refine hK _ ?_; clear hK K) ); (try simp only [Act.put, List.setIfInBounds_toArray, List.set_cons_zero, List.set_cons_succ]); (try simp only [List.tail_nil]))
      refine wx_nil (fun W hW hF => ?_)
      replace p0 := cell_ext p0 hW
      replace p1 := cell_ext p1 hW
      replace p2 := cell_ext p2 hW
      replace p3 := cell_ext p3 hW
      replace o0 := cell_ext o0 hW
      replace o1 := cell_ext o1 hW
      replace hl2 := hl2.ext hW
      replace hU := hU.trans hW
      replace hacc := hacc.later hW
      replace hhdr := hacc.hdr
      clear hW hF
      obtain ⟨W1, rfl⟩ : ∃ w', w' = W := ⟨W, rfl⟩
      have hmi := HIDX.out k hlt
      obtain ⟨wv, hwv⟩ : ∃ wv, winTo (fun e => bs.getD (k * dn + e) 0) (-1) dn = wv := ⟨_, rfl⟩
      have hwc := fun (Z : World) (hz : Ext W1 Z) => l03Winner_any g wn hn dn gb off n c bs k (-1) Z (Box4.ext ⟨p0, p1, p2, p3⟩ hz) (hl2.ext hz) HLEN.out hn2 hmi hd8
      simp only [hwv] at hwc
      have HWC := Lib.hid hwc
      have HRR : Hid (nrm (floatOfInt .f32 wv) = floatOfInt .f32 (winTo (fun e => bs.getD (k * dn + e) 0) (-1) dn)) := Lib.hid (by rw [hwv]; exact nrm_of _ (isN_ofInt _))
      clear hwv hwc
      go_wp2_with fail
      refine region_wx 7 [] (by kernel_rfl) (by kernel_rfl) ?_
      simp only [List.take_succ_cons, List.take_zero, List.drop_succ_cons, List.drop_zero]
      repeat ((first | refine wx_skip rfl ?_ | refine wx_nilCheck rfl rfl _ rfl _ rfl ?_ | (refine wx_float rfl rfl _ _ _ _ _ _ _ rfl rfl rfl rfl ?_; intro r hr) | (refine wx_k rfl rfl rfl (fun K hK => ?_); go_big_quiet_op; refine hK _ ?_; clear hK K) | (refine wx_call rfl rfl 89 _ _ rfl (by kernel_rfl) (by kernel_rfl) (.int .i64 wv) (fun W hW hF => ?_) ?_; go_simp; (with_reducible refine (HWC.out W hW).mono ?_); rintro e w' h; exact h) | (refine wx_bs rfl rfl _ _ _ rfl _ rfl (fun Z => bs1 _ Z) ?_; intro H V2 hV2 hcell)); (try simp only [Act.put, List.setIfInBounds_toArray, List.set_cons_zero, List.set_cons_succ]); (try simp only [List.tail_nil]))
      refine wx_nil (fun W hW hF => ?_)
      have hVW : Ext V2 W := hF 6
      have hcell1 := cell_ext hcell hVW
      have hown1 := hacc.own.ext hW
      have hcl := hacc.len
      simp only [List.length_map, List.length_range] at hcl
      have hsz1 := hacc.ext.size
      have hsz2 := hW.size
      clear hF hcell hVW hV2 p0 p1 p2 p3
      refine wpList_append_own _ rfl _ _ _ rfl w0.heap.size 25 i0 (.float .f32 0) 1 4 Try.underlying22 hi hz0 hz1 hz2 rfl (by omega) (.slice A b.length c') b.length (b.map fl) (by rfl) hown1 ⟨H, 0, none⟩ 1 1 [fl (floatOfInt .f32 wv)] (by rfl) rfl (one_new hcell1) (one_word _) (by unfold maxLen; omega) (by omega) (by omega) ?_
      intro v' w2 ho2 hg2 _
      obtain ⟨A', c2, b', rfl, hacc', ⟨hh2, hf2⟩, hold, holdf⟩ := hacc.push (by decide) hW (rs := [floatOfInt .f32 wv]) (Xs := [(fun i => floatOfInt .f32 (winTo (fun e => bs.getD (i * dn + e) 0) (-1) dn)) k]) ho2 hg2 (by exact congrArg (fun z => [z]) HRR.out)
      have n0 := hold _ _ _ o0 (hacc.ne (by decide)) (by simp)
      have n1 := hold _ _ _ o1 (hacc.ne (by decide)) (by simp)
      rw [show (List.range k).map (fun i => floatOfInt .f32 (winTo (fun e => bs.getD (i * dn + e) 0) (-1) dn)) ++ [(fun i => floatOfInt .f32 (winTo (fun e => bs.getD (i * dn + e) 0) (-1) dn)) k] = (List.range (k + 1)).map (fun i => floatOfInt .f32 (winTo (fun e => bs.getD (i * dn + e) 0) (-1) dn)) by rw [List.range_succ, List.map_append]; rfl] at hacc'
      clear hold holdf hown1 hhdr hacc ho2 hg2 hW o0 o1 hl2 hU hcell1
      go_wp2
      go_roundw
      case rel => exact ⟨k + 1, A', c2, b', by omega, by go_num, hacc', n0, n1⟩
      case measure => simp [intOf]; omega
    · have e1 : k = N := by omega
      go_wp2_with fail
      refine region_wx0 [] (by kernel_rfl) (by kernel_rfl) ?_
      repeat ((first | refine wx_skip rfl ?_ | refine wx_nilCheck rfl rfl _ rfl _ rfl ?_ | (refine wx_float rfl rfl _ _ _ _ _ _ _ rfl rfl rfl rfl ?_; intro r hr) | (refine wx_k rfl rfl rfl (fun K hK => ?_); go_big_quiet_op; refine hK _ ?_; clear hK K) ); (try simp only [Act.put, List.setIfInBounds_toArray, List.set_cons_zero, List.set_cons_succ]); (try simp only [List.tail_nil]))
      refine wx_nil (fun W hW hF => ?_)
      have ⟨c0, c1, c2, f0, f1, f2⟩ := (hres.ext hacc.ext).ext hW
      replace o0 := cell_ext o0 hW
      replace o1 := cell_ext o1 hW
      have hhdr2 := cell_ext hhdr hW
      have hE := hU.trans hW
      have hown := hacc.own.ext hW
      have hlike := hacc.like
      rw [e1] at hlike
      clear hacc hhdr hW hF p0 p1 p2 p3 hl2 hU
      go_wp2
      refine bodyPost_ret (v := .agg #[.int .i64 wn, .int .i64 hn, .slice A b.length c']) (by simp [results, Try.results83, go_sem, *]) rfl ⟨A, c', b, rfl, ?_, hlike, ?_⟩
      · refine OwnF.weaken (base := w0.heap.size) ?_ (by omega)
        repeat (first | (with_reducible exact hown) | (with_reducible refine OwnF.set_below ?_ (by dsimp only; omega) _))
      · repeat (first | (with_reducible exact hE) | (with_reducible refine Ext.setCell ?_ (by dsimp only; omega) _))
end Go.Proofs.Ytppahlkmemngeaa
