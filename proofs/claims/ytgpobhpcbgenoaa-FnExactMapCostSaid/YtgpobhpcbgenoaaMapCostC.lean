/- Contracts: what a map costs, as the program reckons it. -/
import Derived.Test.YtgpobhpcbgenoaaMapCostS
import Derived.Test.YtgpobhpcbgenoaaLocalC
namespace Go.Proofs.Ytgpobhpcbgenoaa
open Go.RowKit
set_option linter.unusedVariables false

set_option maxHeartbeats 8000000 in
set_option maxRecDepth 8000 in
theorem implMapCost_yes (wn hn dn gb off n c gb2 off2 n2 c2 : Nat) (bs bs2 : List Nat) (p0 p1 : Nat) (h0 : p0 < 4294967296) (h1 : p1 < 4294967296) (U : World) (hl : Lies U gb off bs) (hlen : bs.length = n) (hw : Words bs) (hnc : n ≤ c) (hcm : c ≤ maxLen) (hl2 : Lies U gb2 off2 bs2) (hlen2 : bs2.length = n2) (hw2 : Words bs2) (hn2m : n2 ≤ maxLen) (hv : VVol wn hn dn n) (hm : VMap wn hn n2) (hp : PV p0 p1) (hall : bs2.all (whole dn) = true) :
    Calls Try.prog 16 #[.agg #[.int .i64 wn, .int .i64 hn, .int .i64 dn, .slice (some ⟨gb, off, none⟩) n c], .agg #[.float .f32 p0, .float .f32 p1], .agg #[.int .i64 wn, .int .i64 hn, .slice (some ⟨gb2, off2, none⟩) n2 c2]] U fun e U' => ∃ r, e = .returned (.tuple #[.float .f32 r, .bool true]) ∧ Is r (mapTo wn hn dn p0 p1 bs bs2 (hn * wn)) ∧ Ext U U' := by
  have hd8 : dn ≤ 8 := by have := hv.2.2.1; omega
  have hd0 : 0 < dn := by have := hv.2.1; omega
  have hw24 : wn ≤ 24 := by have := hv.1.2.1; omega
  have hh24 : hn ≤ 24 := by have := hv.1.2.2.2.1; omega
  have hnm : n ≤ maxLen := Nat.le_trans hnc hcm
  have HWH := Lib.hid (fun (W : World) (hE : Ext U W) => (by have t := implIsWhole_yes wn hn dn (some ⟨gb, off, none⟩) n c (some ⟨gb2, off2, none⟩) n2 c2 bs2 hnm hn2m hv hm W ⟨hlen2, fun _ => ⟨gb2, off2, rfl, hl2.ext hE⟩⟩ hw2; rw [hall] at t; exact t : Calls Try.prog 51 #[.agg #[.int .i64 wn, .int .i64 hn, .int .i64 dn, .slice (some ⟨gb, off, none⟩) n c], .agg #[.int .i64 wn, .int .i64 hn, .slice (some ⟨gb2, off2, none⟩) n2 c2]] W fun e W' => e = .returned (.bool true) ∧ Ext W W'))
  have HC := Lib.hid (fun (W : World) (hE : Ext U W) (hB : Box4 W U.heap.size (.int .i64 wn) (.int .i64 hn) (.int .i64 dn) (.slice (some ⟨gb, off, none⟩) n c)) (j k : Nat) (hj : j < wn) (hk : k < hn) => cellC_any U.heap.size wn hn dn gb off n c (j : Int) (k : Int) W hB hnc hcm hv ⟨by omega, by omega⟩ ⟨by omega, by omega⟩)
  have HCV := Lib.hid (fun (W : World) (hE : Ext U W) (j k e : Nat) (hj : j < wn) (hk : k < hn) (he : e < dn) => (by
    have hck := cell_k hv (x := (j : Int)) (y := (k : Int)) ⟨by omega, by omega⟩ ⟨by omega, by omega⟩
    have t := (hl.ext hE) (cellN wn (j : Int) (k : Int) * dn + e) (by omega)
    rw [← Nat.add_assoc] at t
    exact t : W.cell? ⟨gb, off + cellN wn (j : Int) (k : Int) * dn + e, none⟩ = some (fl (bs.getD (cellN wn (j : Int) (k : Int) * dn + e) 0))))
  have HV := Lib.hid (fun (W : World) (hE : Ext U W) (hM : Box3 W (U.heap.size + 1 + 1) (.int .i64 wn) (.int .i64 hn) (.slice (some ⟨gb2, off2, none⟩) n2 c2)) (u w : Int) (hu : 0 ≤ u ∧ u ≤ (wn : Int) - 1) (hw' : 0 ≤ w ∧ w ≤ (hn : Int) - 1) => (⟨whole_any (U.heap.size + 1 + 1) wn hn dn gb2 off2 n2 c2 bs2 u w W hM (hl2.ext hE) hlen2 hn2m hw2 hm hd0 hd8 hall hu hw', (digit_lt (wd_at2 hw2 (cellN wn u w)) hd0 hd8 (all_at hall (by rw [hlen2]; exact (cellN_eq hm hu.1 hu.2 hw'.1 hw'.2).2.1))).1⟩ : _ ∧ digit (bs2.getD (cellN wn u w) 0) < dn))
  have HWD := Lib.hid hw
  have HP := Lib.hid hp
  have HSZ := Lib.hid hm.1
  clear hl hlen hw hnc hcm hl2 hlen2 hw2 hn2m hv hm hp hall hnm
  go_enter Try.func16, Try.ntmps16
  go_wp2_with fail
  refine calls_at (X := fun w' => Ext U w' ∧ Box4 w' U.heap.size (.int .i64 wn) (.int .i64 hn) (.int .i64 dn) (.slice (some ⟨gb, off, none⟩) n c) ∧ Box2 w' (U.heap.size + 1) (fl p0) (fl p1) ∧ Box3 w' (U.heap.size + 1 + 1) (.int .i64 wn) (.int .i64 hn) (.slice (some ⟨gb2, off2, none⟩) n2 c2)) ⟨(((Ext.refl _).alloc _).alloc _).alloc _, ⟨by simp [go_sem], by simp [go_sem], by simp [go_sem], by simp [go_sem]⟩, ⟨by simp [go_sem], by simp [go_sem]⟩, ⟨by simp [go_sem], by simp [go_sem], by simp [go_sem]⟩⟩ ?_
  rintro w0 ⟨hx0, hb0, hq0, hm0⟩
  refine (HWH.out w0 hx0).mono ?_
  rintro e w1 ⟨rfl, hx⟩
  replace hx0 := hx0.trans hx
  replace hb0 := hb0.ext hx
  replace hq0 := hq0.ext hx
  replace hm0 := hm0.ext hx
  clear hx
  have ⟨b0, b1, b2, b3⟩ := hb0
  have ⟨q0, q1⟩ := hq0
  have ⟨m0, m1, m2⟩ := hm0
  go_wp2_with fail
  clear b0 b1 b2 b3 q0 q1 m0 m1 m2
  refine (implValidPrices_yes p0 p1 _ HP.out).mono ?_
  rintro e w2 ⟨rfl, hx⟩
  replace hx0 := hx0.trans hx
  replace hb0 := hb0.ext hx
  replace hq0 := hq0.ext hx
  replace hm0 := hm0.ext hx
  clear hx
  have ⟨m0, m1, m2⟩ := hm0
  go_wp2_with fail
  clear m0 m1 m2
  go_loopw [8, 23] (fun s yv wr => ∃ (k r : Nat), k ≤ hn ∧ yv = .int .i64 k ∧ s = .float .f32 r ∧ Is r (mapTo wn hn dn p0 p1 bs bs2 (k * wn)) ∧ Ext w2 wr) (fun _ yv _ => hn - (intOf yv).toNat)
  case atStart => exact ⟨0, 0, Nat.zero_le _, rfl, rfl, by rw [Nat.zero_mul]; exact Is.zero, Ext.refl _⟩
  case round =>
    obtain ⟨k, s0, hk, rfl, rfl, hs0, hE0⟩ := hrel
    have ⟨m0, m1, m2⟩ := hm0.ext hE0
    by_cases hlk : k < hn
    · have hlk' : (k : Int) < (hn : Int) := by omega
      have a3 : IntKind.i64.wrap ((k : Int) + 1) = (k : Int) + 1 := wrap_small _ (by omega) (by omega)
      go_wp2_with fail
      go_loopw [8, 28] (fun s xv wq => ∃ (j r : Nat), j ≤ wn ∧ xv = .int .i64 j ∧ s = .float .f32 r ∧ Is r (mapTo wn hn dn p0 p1 bs bs2 (k * wn + j)) ∧ Ext w2 wq) (fun _ xv _ => wn - (intOf xv).toNat)
      case atStart => exact ⟨0, s0, Nat.zero_le _, rfl, rfl, hs0, hE0⟩
      case round =>
        clear m0 m1 m2 hs0 hE0
        obtain ⟨j, s, hj, rfl, rfl, hs, hE⟩ := hrel
        by_cases hlj : j < wn
        · have hlj' : (j : Int) < (wn : Int) := by omega
          have a1 : IntKind.i64.wrap ((j : Int) + 1) = (j : Int) + 1 := wrap_small _ (by omega) (by omega)
          have HST := Lib.hid (mapTo_at (hn := hn) (dn := dn) (p0 := p0) (p1 := p1) (bs := bs) (bs2 := bs2) (k := k) hlj)
          obtain ⟨S, hS⟩ : ∃ S, mapTo wn hn dn p0 p1 bs bs2 (k * wn + j) = S := ⟨_, rfl⟩
          rw [hS] at HST hs
          clear hS
          go_wp2_with fail
          have kd := HV.out _ (hx0.trans hE) (hm0.ext hE) (j : Int) (k : Int) ⟨by omega, by omega⟩ ⟨by omega, by omega⟩
          obtain ⟨d, hd⟩ : ∃ D, digit (bs2.getD (cellN wn (j : Int) (k : Int)) 0) = D := ⟨_, rfl⟩
          rw [hd] at kd
          have QD := Lib.hid hd
          clear hd
          have gd := kd.2
          refine kd.1.mono ?_
          rintro e wa ⟨rfl, hx'⟩
          replace hE := hE.trans hx'
          clear hx' kd
          go_wp2_with fail
          have HW0 := Lib.hid (wd_at2 HWD.out (cellN wn (j : Int) (k : Int) * dn + d))
          have kc := HC.out _ (hx0.trans hE) (hb0.ext hE) j k hlj hlk
          refine kc.mono ?_
          rintro e wb ⟨rfl, hx'⟩
          replace hE := hE.trans hx'
          clear hx' kc
          have hcv := HCV.out _ (hx0.trans hE) j k d hlj hlk gd
          obtain ⟨v0, hv0⟩ : ∃ v, bs.getD (cellN wn (j : Int) (k : Int) * dn + d) 0 = v := ⟨_, rfl⟩
          rw [hv0] at hcv HW0
          have QV := Lib.hid hv0
          clear hv0
          have dk0 : (0 : Int) ≤ (d : Int) := by omega
          have dk1 : (d : Int) < (dn : Int) := by omega
          by_cases n0 : j + 1 < wn
          · have N0 := Lib.hid n0
            clear n0
            go_wp2_with fail
            refine calls_at (X := fun w' => Ext w2 w') (by repeat (first | (with_reducible exact hE) | (with_reducible refine Ext.drewN ?_ _))) ?_
            clear hE hcv
            intro wc0 hE
            have hM0 := hm0.ext hE
            refine (mapHas_yes _ (wn : Int) (hn : Int) ((j : Int) + 1) (k : Int) _ hM0.1 hM0.2.1 HSZ.out ⟨by have := N0.out; omega, by have := N0.out; omega⟩ ⟨by have := N0.out; omega, by have := N0.out; omega⟩).mono ?_
            rintro e w' ⟨rfl, rfl⟩
            obtain ⟨D0, hD0⟩ : ∃ D, digit (bs2.getD (cellN wn ((j : Int) + 1) (k : Int)) 0) = D := ⟨_, rfl⟩
            have KV0 := Lib.hid (fun (W : World) (hE : Ext w2 W) => (by have := (HV.out W (hx0.trans hE) (hm0.ext hE) ((j : Int) + 1) (k : Int) ⟨by have := N0.out; omega, by have := N0.out; omega⟩ ⟨by have := N0.out; omega, by have := N0.out; omega⟩).1; rw [hD0] at this; exact this : Calls Try.prog 53 #[.pointer (some ⟨(U.heap.size + 1 + 1), 0, none⟩), .int .i64 ((j : Int) + 1), .int .i64 (k : Int)] W fun e U' => e = .returned (.int .i64 (D0 : Int)) ∧ Ext W U'))
            have g0 : D0 < dn := by have := (HV.out _ (hx0.trans hE) hM0 ((j : Int) + 1) (k : Int) ⟨by have := N0.out; omega, by have := N0.out; omega⟩ ⟨by have := N0.out; omega, by have := N0.out; omega⟩).2; rw [hD0] at this; exact this
            have Q0 := Lib.hid hD0
            clear hD0
            have ⟨q0, q1⟩ := hq0.ext hE
            go_wp2_with fail
            refine region_wx 9 [] (by kernel_rfl) (by kernel_rfl) ?_
            simp only [List.take_succ_cons, List.take_zero, List.drop_succ_cons, List.drop_zero]
            repeat ((first | refine wx_skip rfl ?_ | refine wx_nilCheck rfl rfl _ rfl _ rfl ?_ | (refine wx_float rfl rfl _ _ _ _ _ _ _ rfl rfl rfl rfl ?_; intro r hr) | (refine wx_k rfl rfl rfl (fun K hK => ?_); go_big_quiet_op; refine hK _ ?_; clear hK K) | (refine wx_call rfl rfl 53 _ _ rfl (by kernel_rfl) (by kernel_rfl) (.int .i64 D0) (fun W hW hF => ?_) ?_; go_simp; (with_reducible refine (KV0.out W (hE.trans hW)).mono ?_); rintro e w' h; exact h) | (refine wx_call rfl rfl 56 _ _ rfl (by kernel_rfl) (by kernel_rfl) (.float .f32 (priceX p0 p1 d D0)) (fun W hW hF => ?_) ?_; go_simp; (with_reducible refine (price_any p0 p1 (d : Int) (D0 : Int) W (by omega) (by omega) (by omega) (by omega)).mono ?_); rintro e w' h; exact h)); (try simp only [Act.put, List.setIfInBounds_toArray, List.set_cons_zero, List.set_cons_succ]); (try simp only [List.tail_nil]))
            refine wx_nil (fun W hW hF => ?_)
            have T0 := Is.op (Is.op hs (nrm_word HW0.out) (flR_is _ _ _ _)) ⟨priceX_lt h0 h1 (d : Int) (D0 : Int), rfl⟩ hr
            replace hE := hE.trans hW
            clear hF hW q0 q1 hM0 hr
            by_cases n1 : k + 1 < hn
            · have N1 := Lib.hid n1
              clear n1
              go_wp2_with fail
              refine calls_at (X := fun w' => Ext w2 w') (by repeat (first | (with_reducible exact hE) | (with_reducible refine Ext.drewN ?_ _))) ?_
              clear hE
              intro wc1 hE
              have hM1 := hm0.ext hE
              refine (mapHas_yes _ (wn : Int) (hn : Int) (j : Int) ((k : Int) + 1) _ hM1.1 hM1.2.1 HSZ.out ⟨by have := N1.out; omega, by have := N1.out; omega⟩ ⟨by have := N1.out; omega, by have := N1.out; omega⟩).mono ?_
              rintro e w' ⟨rfl, rfl⟩
              obtain ⟨D1, hD1⟩ : ∃ D, digit (bs2.getD (cellN wn (j : Int) ((k : Int) + 1)) 0) = D := ⟨_, rfl⟩
              have KV1 := Lib.hid (fun (W : World) (hE : Ext w2 W) => (by have := (HV.out W (hx0.trans hE) (hm0.ext hE) (j : Int) ((k : Int) + 1) ⟨by have := N1.out; omega, by have := N1.out; omega⟩ ⟨by have := N1.out; omega, by have := N1.out; omega⟩).1; rw [hD1] at this; exact this : Calls Try.prog 53 #[.pointer (some ⟨(U.heap.size + 1 + 1), 0, none⟩), .int .i64 (j : Int), .int .i64 ((k : Int) + 1)] W fun e U' => e = .returned (.int .i64 (D1 : Int)) ∧ Ext W U'))
              have g1 : D1 < dn := by have := (HV.out _ (hx0.trans hE) hM1 (j : Int) ((k : Int) + 1) ⟨by have := N1.out; omega, by have := N1.out; omega⟩ ⟨by have := N1.out; omega, by have := N1.out; omega⟩).2; rw [hD1] at this; exact this
              have Q1 := Lib.hid hD1
              clear hD1
              have ⟨q0, q1⟩ := hq0.ext hE
              go_wp2_with fail
              refine region_wx 9 [] (by kernel_rfl) (by kernel_rfl) ?_
              simp only [List.take_succ_cons, List.take_zero, List.drop_succ_cons, List.drop_zero]
              repeat ((first | refine wx_skip rfl ?_ | refine wx_nilCheck rfl rfl _ rfl _ rfl ?_ | (refine wx_float rfl rfl _ _ _ _ _ _ _ rfl rfl rfl rfl ?_; intro r hr) | (refine wx_k rfl rfl rfl (fun K hK => ?_); go_big_quiet_op; refine hK _ ?_; clear hK K) | (refine wx_call rfl rfl 53 _ _ rfl (by kernel_rfl) (by kernel_rfl) (.int .i64 D1) (fun W hW hF => ?_) ?_; go_simp; (with_reducible refine (KV1.out W (hE.trans hW)).mono ?_); rintro e w' h; exact h) | (refine wx_call rfl rfl 56 _ _ rfl (by kernel_rfl) (by kernel_rfl) (.float .f32 (priceX p0 p1 d D1)) (fun W hW hF => ?_) ?_; go_simp; (with_reducible refine (price_any p0 p1 (d : Int) (D1 : Int) W (by omega) (by omega) (by omega) (by omega)).mono ?_); rintro e w' h; exact h)); (try simp only [Act.put, List.setIfInBounds_toArray, List.set_cons_zero, List.set_cons_succ]); (try simp only [List.tail_nil]))
              refine wx_nil (fun W hW hF => ?_)
              have T1 := Is.op T0 ⟨priceX_lt h0 h1 (d : Int) (D1 : Int), rfl⟩ hr
              replace hE := hE.trans hW
              clear hF hW q0 q1 hM1 hr
              go_wp2
              go_roundw
              case rel =>
                refine ⟨j + 1, _, by omega, by go_num, rfl, ?_, ?_⟩
                · rw [← Nat.add_assoc, HST.out]
                  unfold mapSt ladd
                  simp only [if_pos N0.out, if_pos N1.out]
                  rw [QD.out, QV.out]
                  rw [Q0.out]
                  rw [Q1.out]
                  exact T1
                · repeat (first | (with_reducible exact hE) | (with_reducible refine Ext.drewN ?_ _))
              case measure => simp [intOf]; omega
            · have N1 := Lib.hid n1
              clear n1
              go_wp2_with fail
              refine calls_at (X := fun w' => Ext w2 w') (by repeat (first | (with_reducible exact hE) | (with_reducible refine Ext.drewN ?_ _))) ?_
              clear hE
              intro wc1 hE
              have hM1 := hm0.ext hE
              refine (mapHas_no _ (wn : Int) (hn : Int) (j : Int) ((k : Int) + 1) _ hM1.1 hM1.2.1 HSZ.out (fun h => by have := N1.out; omega)).mono ?_
              rintro e w' ⟨rfl, rfl⟩
              clear hM1
              go_wp2
              go_roundw
              case rel =>
                refine ⟨j + 1, _, by omega, by go_num, rfl, ?_, ?_⟩
                · rw [← Nat.add_assoc, HST.out]
                  unfold mapSt ladd
                  simp only [if_pos N0.out, if_neg N1.out]
                  rw [QD.out, QV.out]
                  rw [Q0.out]
                  exact T0
                · repeat (first | (with_reducible exact hE) | (with_reducible refine Ext.drewN ?_ _))
              case measure => simp [intOf]; omega
          · have N0 := Lib.hid n0
            clear n0
            go_wp2_with fail
            refine calls_at (X := fun w' => Ext w2 w') (by repeat (first | (with_reducible exact hE) | (with_reducible refine Ext.drewN ?_ _))) ?_
            clear hE hcv
            intro wc0 hE
            have hM0 := hm0.ext hE
            refine (mapHas_no _ (wn : Int) (hn : Int) ((j : Int) + 1) (k : Int) _ hM0.1 hM0.2.1 HSZ.out (fun h => by have := N0.out; omega)).mono ?_
            rintro e w' ⟨rfl, rfl⟩
            clear hM0
            by_cases n1 : k + 1 < hn
            · have N1 := Lib.hid n1
              clear n1
              go_wp2_with fail
              refine calls_at (X := fun w' => Ext w2 w') (by repeat (first | (with_reducible exact hE) | (with_reducible refine Ext.drewN ?_ _))) ?_
              clear hE
              intro wc1 hE
              have hM1 := hm0.ext hE
              refine (mapHas_yes _ (wn : Int) (hn : Int) (j : Int) ((k : Int) + 1) _ hM1.1 hM1.2.1 HSZ.out ⟨by have := N1.out; omega, by have := N1.out; omega⟩ ⟨by have := N1.out; omega, by have := N1.out; omega⟩).mono ?_
              rintro e w' ⟨rfl, rfl⟩
              obtain ⟨D1, hD1⟩ : ∃ D, digit (bs2.getD (cellN wn (j : Int) ((k : Int) + 1)) 0) = D := ⟨_, rfl⟩
              have KV1 := Lib.hid (fun (W : World) (hE : Ext w2 W) => (by have := (HV.out W (hx0.trans hE) (hm0.ext hE) (j : Int) ((k : Int) + 1) ⟨by have := N1.out; omega, by have := N1.out; omega⟩ ⟨by have := N1.out; omega, by have := N1.out; omega⟩).1; rw [hD1] at this; exact this : Calls Try.prog 53 #[.pointer (some ⟨(U.heap.size + 1 + 1), 0, none⟩), .int .i64 (j : Int), .int .i64 ((k : Int) + 1)] W fun e U' => e = .returned (.int .i64 (D1 : Int)) ∧ Ext W U'))
              have g1 : D1 < dn := by have := (HV.out _ (hx0.trans hE) hM1 (j : Int) ((k : Int) + 1) ⟨by have := N1.out; omega, by have := N1.out; omega⟩ ⟨by have := N1.out; omega, by have := N1.out; omega⟩).2; rw [hD1] at this; exact this
              have Q1 := Lib.hid hD1
              clear hD1
              have ⟨q0, q1⟩ := hq0.ext hE
              go_wp2_with fail
              refine region_wx 9 [] (by kernel_rfl) (by kernel_rfl) ?_
              simp only [List.take_succ_cons, List.take_zero, List.drop_succ_cons, List.drop_zero]
              repeat ((first | refine wx_skip rfl ?_ | refine wx_nilCheck rfl rfl _ rfl _ rfl ?_ | (refine wx_float rfl rfl _ _ _ _ _ _ _ rfl rfl rfl rfl ?_; intro r hr) | (refine wx_k rfl rfl rfl (fun K hK => ?_); go_big_quiet_op; refine hK _ ?_; clear hK K) | (refine wx_call rfl rfl 53 _ _ rfl (by kernel_rfl) (by kernel_rfl) (.int .i64 D1) (fun W hW hF => ?_) ?_; go_simp; (with_reducible refine (KV1.out W (hE.trans hW)).mono ?_); rintro e w' h; exact h) | (refine wx_call rfl rfl 56 _ _ rfl (by kernel_rfl) (by kernel_rfl) (.float .f32 (priceX p0 p1 d D1)) (fun W hW hF => ?_) ?_; go_simp; (with_reducible refine (price_any p0 p1 (d : Int) (D1 : Int) W (by omega) (by omega) (by omega) (by omega)).mono ?_); rintro e w' h; exact h)); (try simp only [Act.put, List.setIfInBounds_toArray, List.set_cons_zero, List.set_cons_succ]); (try simp only [List.tail_nil]))
              refine wx_nil (fun W hW hF => ?_)
              have T1 := Is.op (Is.op hs (nrm_word HW0.out) (flR_is _ _ _ _)) ⟨priceX_lt h0 h1 (d : Int) (D1 : Int), rfl⟩ hr
              replace hE := hE.trans hW
              clear hF hW q0 q1 hM1 hr
              go_wp2
              go_roundw
              case rel =>
                refine ⟨j + 1, _, by omega, by go_num, rfl, ?_, ?_⟩
                · rw [← Nat.add_assoc, HST.out]
                  unfold mapSt ladd
                  simp only [if_neg N0.out, if_pos N1.out]
                  rw [QD.out, QV.out]
                  rw [Q1.out]
                  exact T1
                · repeat (first | (with_reducible exact hE) | (with_reducible refine Ext.drewN ?_ _))
              case measure => simp [intOf]; omega
            · have N1 := Lib.hid n1
              clear n1
              go_wp2_with fail
              refine calls_at (X := fun w' => Ext w2 w') (by repeat (first | (with_reducible exact hE) | (with_reducible refine Ext.drewN ?_ _))) ?_
              clear hE
              intro wc1 hE
              have hM1 := hm0.ext hE
              refine (mapHas_no _ (wn : Int) (hn : Int) (j : Int) ((k : Int) + 1) _ hM1.1 hM1.2.1 HSZ.out (fun h => by have := N1.out; omega)).mono ?_
              rintro e w' ⟨rfl, rfl⟩
              clear hM1
              go_wp2
              go_roundw
              case rel =>
                refine ⟨j + 1, _, by omega, by go_num, rfl, ?_, ?_⟩
                · rw [← Nat.add_assoc, HST.out]
                  unfold mapSt ladd
                  simp only [if_neg N0.out, if_neg N1.out]
                  rw [QD.out, QV.out]
                  exact (Is.op hs (nrm_word HW0.out) (flR_is _ _ _ _))
                · repeat (first | (with_reducible exact hE) | (with_reducible refine Ext.drewN ?_ _))
              case measure => simp [intOf]; omega
        · have e1 : j = wn := by omega
          rw [e1, ← Nat.succ_mul] at hs
          go_wp2
          go_roundw
          case rel => exact ⟨k + 1, s, by omega, by go_num, rfl, hs, hE⟩
          case measure => simp [intOf]; omega
    · have e1 : k = hn := by omega
      rw [e1] at hs0
      go_wp2
      go_ret2
      exact ⟨s0, rfl, hs0, hx0.trans hE0⟩
end Go.Proofs.Ytgpobhpcbgenoaa
