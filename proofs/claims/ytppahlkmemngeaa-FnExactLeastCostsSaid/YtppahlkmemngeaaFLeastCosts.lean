/- The law on LeastCosts holds. -/
import Derived.Test.YtppahlkmemngeaaSpecV
import Derived.Test.YtppahlkmemngeaaWin2
import Derived.Test.YtppahlkmemngeaaInf
import Derived.Test.YtppahlkmemngeaaFlat3
import Derived.Test.YtppahlkmemngeaaCLeastCosts
namespace Go.Proofs.Ytppahlkmemngeaa
open Go.RowKit
set_option linter.unusedVariables false

theorem cell_words (wn hn dn gb off n : Nat) (bs : List Nat) (x y : Nat) (U : World) (hl : Lies U gb off bs) (hlen : bs.length = n) (hv : VVol wn hn dn n) (hx : x < wn) (hy : y < hn) :
    ∀ i, i < dn → U.cell? ⟨gb, off + cellN wn (x : Int) (y : Int) * dn + i, none⟩ = some (fl (bs.getD (cellN wn (x : Int) (y : Int) * dn + i) 0)) := by
  intro i hi
  have hkn := cell_k hv (⟨by omega, by omega⟩ : 0 ≤ (x : Int) ∧ (x : Int) ≤ (wn : Int) - 1) (⟨by omega, by omega⟩ : 0 ≤ (y : Int) ∧ (y : Int) ≤ (hn : Int) - 1)
  have := hl (cellN wn (x : Int) (y : Int) * dn + i) (by omega)
  rw [← Nat.add_assoc] at this
  exact this
/-- The least cost. -/
def leaX (F : Nat → Nat) (n : Nat) : Nat := if winTo F (-1) n < 0 then infW else nrm (F (winTo F (-1) n).toNat)
theorem leastCosts1_any (gb off n c : Nat) (F : Nat → Nat) (U : World) (hn : n ≤ 8) (hF : ∀ i, F i < 4294967296) (hl : ∀ i, i < n → U.cell? ⟨gb, off + i, none⟩ = some (fl (F i))) :
    Calls Try.prog 90 #[.slice (some ⟨gb, off, none⟩) n c] U fun e U' => ∃ r, e = .returned (.float .f32 r) ∧ Is r (leaX F n) ∧ U = U' := by
  have HW := Lib.hid (winner_any gb off n c F (-1) U hn hl)
  rcases winTo_range F (-1) n with hr | ⟨bn, hr, hbn⟩
  · have hL : leaX F n = infW := by unfold leaX; rw [hr]; rfl
    rw [hL]
    have HLS := Lib.hid (show Calls Try.prog 91 #[.slice (some ⟨gb, off, none⟩) n c, .int .i64 (-1)] U fun e U' => e = .returned (.float .f32 infW) ∧ U = U' by
      clear hl HW hL hr
      go_enter Try.func91, Try.ntmps91
      go_wp2_with fail
      refine (implInf_any _).mono ?_
      rintro e w' ⟨rfl, rfl⟩
      go_wp2
      go_ret
      exact ⟨rfl, rfl⟩)
    rw [hr] at HW
    clear hl hL hr
    go_enter Try.func90, Try.ntmps90
    go_wp2_with fail
    refine HW.out.mono ?_
    rintro e w1 ⟨rfl, rfl⟩
    go_wp2_with fail
    refine HLS.out.mono ?_
    rintro e w1 ⟨rfl, rfl⟩
    go_wp2
    go_ret
    exact ⟨_, rfl, inf_is, rfl⟩
  · have hL : leaX F n = nrm (F bn) := by unfold leaX; rw [hr, if_neg (by omega)]; rfl
    rw [hL]
    have hwb := hF bn
    have hcb := hl bn hbn
    have HLS := Lib.hid (show Calls Try.prog 91 #[.slice (some ⟨gb, off, none⟩) n c, .int .i64 (bn : Int)] U fun e U' => e = .returned (.float .f32 (F bn)) ∧ U = U' by
      have b0 : ¬ (bn : Int) < 0 := by omega
      have b1 : (0 : Int) ≤ (bn : Int) := by omega
      have b2 : (bn : Int) < (n : Int) := by omega
      generalize F bn = v at hcb ⊢
      clear hl HW hL hr
      go_enter Try.func91, Try.ntmps91
      go_wp2
      go_ret
      exact ⟨rfl, rfl⟩)
    rw [hr] at HW
    clear hl hL hr hcb
    go_enter Try.func90, Try.ntmps90
    go_wp2_with fail
    refine HW.out.mono ?_
    rintro e w1 ⟨rfl, rfl⟩
    go_wp2_with fail
    refine HLS.out.mono ?_
    rintro e w1 ⟨rfl, rfl⟩
    go_wp2
    go_ret
    exact ⟨_, rfl, ⟨hwb, rfl⟩, rfl⟩
theorem implLeastCosts_of (z0 z1 z2 : Int) (A0 : Option Addr) (n0 m0 : Nat) (o0 o1 : Int) (ok : Bool) (L : List Nat) (U : World)
    (hcall : ∀ w0, Ext U w0 → Calls Try.prog 84 #[.agg #[.int .i64 z0, .int .i64 z1, .int .i64 z2, .slice A0 n0 m0], .func (.func 90) #[] #[]] w0 fun e U' => ∃ A c' b, e = .returned (.tuple #[.agg #[.int .i64 o0, .int .i64 o1, .slice A b.length c'], .bool ok]) ∧ OwnF U' w0.heap.size 25 (.slice A b.length c') b ∧ b.map nrm = L ∧ Ext w0 U') :
    Calls Try.prog 49 #[.agg #[.int .i64 z0, .int .i64 z1, .int .i64 z2, .slice A0 n0 m0]] U fun e U' => ∃ A c' b, e = .returned (.tuple #[.agg #[.int .i64 o0, .int .i64 o1, .slice A b.length c'], .bool ok]) ∧ OwnF U' U.heap.size 25 (.slice A b.length c') b ∧ b.map nrm = L ∧ Ext U U' := by
  have HK := Lib.hid hcall
  clear hcall
  go_enter Try.func49, Try.ntmps49
  go_wp2_with fail
  refine calls_at (X := fun w' => Ext U w' ∧ Res3 w' (U.heap.size + 1) ∧ U.heap.size + 1 + 1 ≤ w'.heap.size) ⟨((Ext.refl _).alloc _).alloc _, ⟨by simp [go_sem], by simp [go_sem], by simp [go_sem], by simp [go_sem], by simp [go_sem], by simp [go_sem]⟩, by simp⟩ ?_
  rintro w0 ⟨hx0, hr0, hs0⟩
  refine (HK.out w0 hx0).mono ?_
  rintro e w1 ⟨A, c', b, rfl, ho, hm, hx⟩
  have ⟨c0, c1, c2, f0, f1, f2⟩ := hr0.ext hx
  have hE2 := hx0.trans hx
  clear hx hx0 hr0
  go_wp2
  refine bodyPost_ret (v := .tuple #[.agg #[.int .i64 o0, .int .i64 o1, .slice A b.length c'], .bool ok]) (by simp [results, Try.results49, go_sem, *]) rfl ⟨A, c', b, rfl, ?_, hm, ?_⟩
  · refine OwnF.weaken (base := w0.heap.size) ?_ (by omega)
    repeat (first | (with_reducible exact ho) | (with_reducible refine OwnF.set_below ?_ (by dsimp only; omega) _))
  · repeat (first | (with_reducible exact hE2) | (with_reducible refine Ext.setCell ?_ (by dsimp only; omega) _))
theorem specLeastCosts_no (z0 z1 z2 : Int) (A0 : Option Addr) (n0 m0 : Nat)  (hn0 : n0 ≤ maxLen) (hv : ¬ VVol z0 z1 z2 n0) (U : World) :
    Calls Try.prog 48 #[.agg #[.int .i64 z0, .int .i64 z1, .int .i64 z2, .slice A0 n0 m0]] U fun e U' => ∃ A c' b, e = .returned (.tuple #[.agg #[.int .i64 0, .int .i64 0, .slice A b.length c'], .bool false]) ∧ OwnF U' U.heap.size 25 (.slice A b.length c') b ∧ b.map nrm = [] ∧ Ext U U' := by
  have HV := Lib.hid hv
  clear hv
  go_enter Try.func48, Try.ntmps48
  go_wp2_with fail
  refine calls_at (X := fun w' => Ext U w' ∧ Box4 w' U.heap.size (.int .i64 z0) (.int .i64 z1) (.int .i64 z2) (.slice A0 n0 m0) ∧ Res3 w' (U.heap.size + 1) ∧ U.heap.size + 1 + 1 ≤ w'.heap.size) ⟨((Ext.refl _).alloc _).alloc _, ⟨by simp [go_sem], by simp [go_sem], by simp [go_sem], by simp [go_sem]⟩, ⟨by simp [go_sem], by simp [go_sem], by simp [go_sem], by simp [go_sem], by simp [go_sem], by simp [go_sem]⟩, by simp⟩ ?_
  rintro w0 ⟨hx0, hb0, hr0, hs0⟩
  refine (l03Is_not _ _ _ _ A0 n0 m0 _ hn0 hb0.1 hb0.2.1 hb0.2.2.1 hb0.2.2.2 HV.out).mono ?_
  rintro e w1 ⟨rfl, hx⟩
  have ⟨c0, c1, c2, f0, f1, f2⟩ := hr0.ext hx
  have hE := hx0.trans hx
  clear hx hx0 hb0 hr0
  go_wp2
  refine bodyPost_ret (v := .tuple #[.agg #[.int .i64 0, .int .i64 0, .slice none 0 0], .bool false]) (by simp [results, Try.results48, go_sem, *]) rfl ⟨none, 0, [], rfl, OwnF.nil _ _ _, rfl, ?_⟩
  repeat (first | (with_reducible exact hE) | (with_reducible refine Ext.setCell ?_ (by dsimp only; omega) _))
set_option maxHeartbeats 8000000 in
set_option maxRecDepth 8000 in
theorem specLeastCosts_yes (wn hn dn gb off n c : Nat) (bs : List Nat) (U : World) (hl : Lies U gb off bs) (hlen : bs.length = n) (hwd : Words bs) (hnc : n ≤ c) (hcm : c ≤ maxLen) (hv : VVol wn hn dn n) :
    Calls Try.prog 48 #[.agg #[.int .i64 wn, .int .i64 hn, .int .i64 dn, .slice (some ⟨gb, off, none⟩) n c]] U fun e U' => ∃ A c' b, e = .returned (.tuple #[.agg #[.int .i64 wn, .int .i64 hn, .slice A b.length c'], .bool true]) ∧ OwnF U' U.heap.size 25 (.slice A b.length c') b ∧ b.map nrm = (List.range (wn * hn)).map (fun i => leaX (fun e => bs.getD (i * dn + e) 0) dn) ∧ Ext U U' := by
  obtain ⟨hnn, h0, hn2⟩ := vol_n hv
  have hbl : gb < U.heap.size := hl.lt (by omega)
  have hwh0 := vol_wh hv
  have hd8 : dn ≤ 8 := by have := hv.2.2.1; omega
  have hb1 : 1 ≤ wn ∧ wn ≤ 24 ∧ 1 ≤ hn ∧ hn ≤ 24 := by have h1 := hv.1.1; have h2 := hv.1.2.1; have h3 := hv.1.2.2.1; have h4 := hv.1.2.2.2.1; omega
  obtain ⟨N, hN⟩ : ∃ N, wn * hn = N := ⟨_, rfl⟩
  have hN0 : 0 < N := by rw [← hN]; exact Nat.mul_pos (by omega) (by omega)
  rw [hN] at hnn hwh0 ⊢
  have hidx : ∀ k, k < N → k * dn + dn ≤ n := by
    intro k hk
    have h1 : (k + 1) * dn ≤ N * dn := Nat.mul_le_mul_right _ hk
    rw [Nat.succ_mul, ← hnn] at h1
    exact h1
  have HIDX := Lib.hid hidx
  have HV := Lib.hid hv
  have HLEN := Lib.hid hlen
  have HWD := Lib.hid hwd
  have HFL := Lib.hid (fun (Z : World) => l03Flat_any wn hn hb1.2.1 hb1.2.2.2 infW infW inf_is Z)
  have hcn := Nat.le_trans hnc hcm
  rw [hN] at HFL
  unfold maxLen at hcm
  clear hv hlen hwd hN hnn hidx
  go_enter Try.func48, Try.ntmps48
  go_wp2_with fail
  refine calls_at (X := fun w' => Ext U w' ∧ Box4 w' U.heap.size (.int .i64 wn) (.int .i64 hn) (.int .i64 dn) (.slice (some ⟨gb, off, none⟩) n c) ∧ Res3 w' (U.heap.size + 1) ∧ U.heap.size + 1 + 1 ≤ w'.heap.size) ⟨((Ext.refl _).alloc _).alloc _, ⟨by simp [go_sem], by simp [go_sem], by simp [go_sem], by simp [go_sem]⟩, ⟨by simp [go_sem], by simp [go_sem], by simp [go_sem], by simp [go_sem], by simp [go_sem], by simp [go_sem]⟩, by simp⟩ ?_
  rintro w0 ⟨hx0, hb0, hr0, hs0⟩
  refine (l03Is_yes _ wn hn dn _ n c _ hcn hb0.1 hb0.2.1 hb0.2.2.1 hb0.2.2.2 HV.out).mono ?_
  rintro e w1 ⟨rfl, hx⟩
  have hb1' := hb0.ext hx
  have hr1 := hr0.ext hx
  have hE := hx0.trans hx
  have hs1 := Nat.le_trans hs0 hx.size
  have hl1 := hl.ext hE
  clear hx hx0 hb0 hr0 hs0 hl
  have ⟨p0, p1, p2, p3⟩ := hb1'
  go_wp2_with fail
  refine region_wx 7 [none, none, none, none, none, some (fun u U' => ∃ A cA bF, u = .agg #[.int .i64 wn, .int .i64 hn, .slice A bF.length cA] ∧ OwnF U' w1.heap.size 25 (.slice A bF.length cA) bF ∧ bF.map nrm = List.replicate N infW)] (by kernel_rfl) (by kernel_rfl) ?_
  simp only [List.take_succ_cons, List.take_zero, List.drop_succ_cons, List.drop_zero]
  repeat ((first | refine wx_skip rfl ?_ | refine wx_nilCheck rfl rfl _ rfl _ rfl ?_ | (refine wx_float rfl rfl _ _ _ _ _ _ _ rfl rfl rfl rfl ?_; intro r hr) | (refine wx_k rfl rfl rfl (fun K hK => ?_); go_big_quiet_op; refine hK _ ?_; clear hK K) | (refine wx_call rfl rfl 88 _ _ rfl (by kernel_rfl) (by kernel_rfl) (.float .f32 infW) (fun W hW hF => ?_) ?_; go_simp; (with_reducible refine (callsExt (specInf_any W)).mono ?_); rintro e w' h; exact h) | (refine wx_callR _ rfl rfl 87 _ _ rfl (by kernel_rfl) (fun Wc hWc hFc => ?_) ?_; (· go_simp; refine (HFL.out Wc).mono ?_; rintro e w' ⟨A, cA, bF, rfl, ho, hm, hx⟩; exact ⟨_, rfl, ⟨A, cA, bF, rfl, ho.weaken hWc.size, hm⟩, hx⟩); rintro u V hV ⟨A, cA, bF, rfl, hO, hmF⟩) | (refine wx_alloc rfl rfl 49 rfl #[.int .i64 0, .int .i64 0, .slice none 0 0] (fun Z => by simp [Instr.alloc, go_sem]) ?_; intro Va hVa)); (try simp only [Act.put, List.setIfInBounds_toArray, List.set_cons_zero, List.set_cons_succ]); (try simp only [List.tail_cons]))
  refine wx_nil (fun W hW hF => ?_)
  have hVW : Ext V W := hF 5
  have hAW : Ext (Va.alloc (.cells #[.int .i64 0, .int .i64 0, .slice none 0 0] 49)) W := hF 6
  have hAg := hVa.size
  have rB := (⟨by simp [go_sem], by simp [go_sem], by simp [go_sem], by simp [go_sem], by simp [go_sem], by simp [go_sem]⟩ : Res3 (Va.alloc (.cells #[.int .i64 0, .int .i64 0, .slice none 0 0] 49)) Va.heap.size).ext hAW
  have rH : W.heap[Va.heap.size]? = some (.cells #[.int .i64 0, .int .i64 0, .slice none 0 0] 49 (0, 0)) := (hAW.block _ (by simp)).trans (heap_alloc_new _ _)
  clear hAW
  generalize Va.heap.size = go at hAg rB rH ⊢
  have hFn : bF.length = N := by have := congrArg List.length hmF; simpa using this
  have hO1 := hO.ext hVW
  obtain ⟨H, rfl⟩ := hO1.at (by omega)
  have hne0 := hO1.ne_block rH (by decide) _ rfl
  have hge := hO1.ge
  have hgo := rB.lt
  subst hFn
  have hk5 : ∀ i, i < bF.length → nrm (bF.getD i 0) = infW := by
    intro i hi
    have h1 := congrArg (fun l => l.getD i 0) hmF
    simp only [List.getD_eq_getElem?_getD, List.getElem?_map, List.getElem?_replicate, hi, if_true, List.getElem?_eq_getElem, Option.map_some, Option.getD_some] at h1
    simpa [List.getD_eq_getElem?_getD, List.getElem?_eq_getElem hi] using h1
  have HK5 := Lib.hid hk5
  clear hk5 hF hVW hV hVa hO hmF p0 p1 p2 p3
  have hb2 := hb1'.ext hW
  have hr2 := hr1.ext hW
  have hl2 := hl1.ext hW
  have hE2 := hE.trans hW
  have hsW := hW.size
  clear hb1' hr1 hl1 hW
  have ⟨r0, r1, r2, rf0, rf1, rf2⟩ := rB
  go_wp2_with fail
  go_loopw [19] (fun i wr => ∃ k : Nat, k ≤ bF.length ∧ i = .int .i64 k ∧ Fil U wr w1.heap.size 25 H bF.length cA bF k (fun i => leaX (fun e => bs.getD (i * dn + e) 0) dn) ∧ Box4 wr U.heap.size (.int .i64 wn) (.int .i64 hn) (.int .i64 dn) (.slice (some ⟨gb, off, none⟩) n c) ∧ Lies wr gb off bs ∧ Res3 wr (U.heap.size + 1) ∧ Box3 wr go (.int .i64 wn) (.int .i64 hn) (.slice (some ⟨H, 0, none⟩) bF.length cA)) (fun i _ => bF.length - (intOf i).toNat)
  case atStart =>
    refine ⟨0, Nat.zero_le _, rfl, Fil.start ?_ ?_, ?_, ?_, ?_, ⟨by simp [go_sem, *], by simp [go_sem, *], by simp [go_sem, *]⟩⟩
    · repeat (first | with_reducible exact hO1 | (with_reducible refine OwnF.set_ne ?_ (fun q hq => by simp [Value.ownBlock] at hq; subst hq; exact hne0) _))
    · repeat (first | with_reducible exact hE2 | (with_reducible refine Ext.setCell ?_ (by dsimp only; omega) _))
    · repeat (first | with_reducible exact hb2 | (with_reducible refine Box4.set_ne ?_ (by omega)))
    · repeat (first | with_reducible exact hl2 | (with_reducible refine Lies.set_ne ?_ (by omega)))
    · repeat (first | with_reducible exact hr2 | (with_reducible refine Res3.set_ne ?_ (by omega)))
  case round =>
    clear hO1 hE2 hb2 hl2 hr2 r0 r1 r2 rf0 rf1 rf2 rB rH
    obtain ⟨k, hk, rfl, hfil, hb, hl, hres, ho⟩ := hrel
    by_cases hlt : k < bF.length
    · have hmi := HIDX.out k hlt
      obtain ⟨wv, hwv⟩ : ∃ wv, winTo (fun e => bs.getD (k * dn + e) 0) (-1) dn = wv := ⟨_, rfl⟩
      have hwc := l03Winner_any U.heap.size wn hn dn gb off n c bs k (-1) wr hb hl HLEN.out hn2 hmi hd8
      rw [hwv] at hwc
      have HWC := Lib.hid hwc
      have hrange := winTo_range (fun e => bs.getD (k * dn + e) 0) (-1) dn
      rw [hwv] at hrange
      have HWV := Lib.hid hwv
      clear hwv hwc
      go_wp2_with fail
      refine HWC.out.mono ?_
      rintro e w3 ⟨rfl, hx3⟩
      replace hfil := hfil.later hx3
      replace hb := hb.ext hx3
      replace hl := hl.ext hx3
      replace hres := hres.ext hx3
      replace ho := ho.ext hx3
      clear hx3 HWC
      rcases hrange with rfl | ⟨bn, rfl, hbn⟩
      · have hfil' := hfil.keep hlt (by
          show nrm (bF.getD k 0) = leaX (fun e => bs.getD (k * dn + e) 0) dn
          unfold leaX
          rw [HWV.out, HK5.out k hlt]; rfl)
        go_wp2
        go_roundw
        case rel => exact ⟨k + 1, by omega, by go_num, hfil', hb, hl, hres, ho⟩
        case measure => simp [intOf]; omega
      · obtain ⟨m, hm⟩ : ∃ m, k * dn = m := ⟨_, rfl⟩
        have hG : nrm (bs.getD (m + bn) 0) = leaX (fun e => bs.getD (k * dn + e) 0) dn := by
          unfold leaX
          rw [HWV.out, if_neg (by omega), ← hm]; rfl
        have HG := Lib.hid hG
        rw [hm] at hmi
        have hD : IntKind.i64.wrap ((k : Int) * (dn : Int)) = (m : Int) := by
          rw [show (k : Int) * (dn : Int) = (m : Int) by rw [← hm]; simp]; exact wrap_small _ (by omega) (by omega)
        have hD2 : IntKind.i64.wrap ((m : Int) + (bn : Int)) = (m : Int) + (bn : Int) := wrap_small _ (by omega) (by omega)
        have j0 : (0 : Int) ≤ (m : Int) + (bn : Int) := by omega
        have j1 : (m : Int) + (bn : Int) < (n : Int) := by omega
        have hb0 : (0 : Int) ≤ (bn : Int) := by omega
        have hk0 : (0 : Int) ≤ (k : Int) := by omega
        have hk1 : (k : Int) < (bF.length : Int) := by omega
        have hc1 := hl (m + bn) (by have := HLEN.out; omega)
        have hw1 := wd_at HWD.out (m + bn)
        obtain ⟨v, hv0⟩ : ∃ v, bs.getD (m + bn) 0 = v := ⟨_, rfl⟩
        rw [hv0] at hc1 hw1 hG
        have HG2 := Lib.hid hG
        have ⟨p0, p1, p2, p3⟩ := hb
        have ⟨o0, o1, o2⟩ := ho
        clear hm hG hv0
        go_wp2_with fail
        refine region_wx 14 [] (by kernel_rfl) (by kernel_rfl) ?_
        simp only [List.take_succ_cons, List.take_zero, List.drop_succ_cons, List.drop_zero]
        repeat ((first | refine wx_skip rfl ?_ | refine wx_nilCheck rfl rfl _ rfl _ rfl ?_ | (refine wx_float rfl rfl _ _ _ _ _ _ _ rfl rfl rfl rfl ?_; intro r hr) | (refine wx_k rfl rfl rfl (fun K hK => ?_); go_big_quiet_op; refine hK _ ?_; clear hK K) ); (try simp only [Act.put, List.setIfInBounds_toArray, List.set_cons_zero, List.set_cons_succ]); (try simp only [List.tail_nil]))
        refine wx_nil (fun W hW hF => ?_)
        have hct := (hfil.later hW).cell hlt (Nat.le_refl _)
        have hcf := (hfil.later hW).cool k
        have hfil' := (hfil.later hW).put hlt (by omega) (r := v) ⟨hw1, HG2.out⟩
        have hb' := (hb.ext hW).set_ne (g := H) (i := k) (u := fl v) (by omega)
        have hl' := (hl.ext hW).set_ne (g := H) (i := k) (u := fl v) (by omega)
        have hres' := (hres.ext hW).set_ne (g := H) (i := k) (u := fl v) (by omega)
        have ho' := (ho.ext hW).set_ne (g := H) (i := k) (u := fl v) (by omega)
        clear p0 p1 p2 p3 o0 o1 o2 hF hb hl hres ho hfil hc1
        go_wp2
        go_roundw
        case rel => exact ⟨k + 1, by omega, by go_num, hfil', hb', hl', hres', ho'⟩
        case measure => simp [intOf]; omega
    · have e1 : k = bF.length := by omega
      rw [e1] at hfil
      obtain ⟨b, hbl3, hb1, hb2⟩ := hfil.done
      have hE := hfil.ext
      have ⟨o0, o1, o2⟩ := ho
      have ⟨c0, c1, c2, f0, f1, f2⟩ := hres
      rw [← hbl3] at o2 hb1
      clear hb hl hres ho hfil
      go_wp2
      refine bodyPost_ret (v := .tuple #[.agg #[.int .i64 wn, .int .i64 hn, .slice (some ⟨H, 0, none⟩) b.length cA], .bool true]) (by simp [results, Try.results48, go_sem, *]) rfl ⟨_, cA, b, rfl, ?_, hb2, ?_⟩
      · refine OwnF.weaken (base := w1.heap.size) ?_ (by omega)
        repeat (first | (with_reducible exact hb1) | (with_reducible refine OwnF.set_below ?_ (by dsimp only; omega) _))
      · repeat (first | (with_reducible exact hE) | (with_reducible refine Ext.setCell ?_ (by dsimp only; omega) _))
set_option maxRecDepth 8000 in
theorem lawLeastCosts_any (W : World) (z0 z1 z2 : Int) (_ : -9223372036854775808 ≤ z0 ∧ z0 ≤ 9223372036854775807) (_ : -9223372036854775808 ≤ z1 ∧ z1 ≤ 9223372036854775807) (_ : -9223372036854775808 ≤ z2 ∧ z2 ≤ 9223372036854775807) (A : Option Addr) (n m : Nat) (bs : List Nat) (hc : n ≤ m) (hm : m ≤ maxLen) (hr : Reads W A n bs) (hw : Words bs) :
    Calls Try.prog 14 #[.agg #[.int .i64 z0, .int .i64 z1, .int .i64 z2, .slice A n m]] W fun e W' => e = .returned (.bool true) ∧ Ext W W' := by
  have hn : n ≤ maxLen := Nat.le_trans hc hm
  by_cases hv : VVol z0 z1 z2 n
  · obtain ⟨wn, rfl⟩ := Int.eq_ofNat_of_zero_le (show 0 ≤ z0 by have := hv.1.1; omega)
    obtain ⟨hn', rfl⟩ := Int.eq_ofNat_of_zero_le (show 0 ≤ z1 by have := hv.1.2.2.1; omega)
    obtain ⟨dn, rfl⟩ := Int.eq_ofNat_of_zero_le (show 0 ≤ z2 by have := hv.2.1; omega)
    obtain ⟨hnn, h0, hn2⟩ := vol_n hv
    refine lawLeastCosts_core W wn hn' dn A n m bs hn hr wn hn' ((List.range (wn * hn')).map (fun i => leaX (fun e => bs.getD (i * dn + e) 0) dn)) (by simp; have := vol_wh hv; omega) true ?_ ?_
    · intro w D hd
      obtain ⟨gb, off, rfl, hl⟩ := hd.2 (by omega)
      exact specLeastCosts_yes wn hn' dn gb off n n bs w hl hd.1 hw (Nat.le_refl _) hn hv
    · intro w D hd
      obtain ⟨gb, off, rfl, hl⟩ := hd.2 (by omega)
      refine implLeastCosts_of wn hn' dn _ n n wn hn' true _ w (fun w0 hx0 => ?_)
      refine (cellMap_yes wn hn' dn gb off n n 90 (fun (x y : Nat) => leaX (fun e => bs.getD (cellN wn (x : Int) (y : Int) * dn + e) 0) dn) w0 (Nat.le_refl _) hn hv (by kernel_rfl) (fun x y U' h1 h2 h3 => (leastCosts1_any gb _ dn dn (fun e => bs.getD (cellN wn (x : Int) (y : Int) * dn + e) 0) U' (by have := hv.2.2.1; omega) (fun i => wd_at hw _) (cell_words wn hn' dn gb off n bs x y U' ((hl.ext hx0).ext h1) hd.1 hv h2 h3)).mono (by rintro e w2 ⟨r, rfl, hr, rfl⟩; exact ⟨_, rfl, hr, Ext.refl _⟩))).mono ?_
      rintro e w1 ⟨A1, c1, b1, rfl, ho, hm1, hx1⟩
      refine ⟨A1, c1, b1, rfl, ho, hm1.trans ?_, hx1⟩
      exact cells_flat (fun x y h1 h2 => by simp only [cellN_nat])

  · exact lawLeastCosts_core W z0 z1 z2 A n m bs hn hr 0 0 [] (by simp) false (fun w D hd => specLeastCosts_no z0 z1 z2 D n n hn hv w) (fun w D hd => implLeastCosts_of z0 z1 z2 D n n 0 0 false [] w (fun w0 hx0 => cellMap_no z0 z1 z2 D n n _ hn hv w0))
end Go.Proofs.Ytppahlkmemngeaa
