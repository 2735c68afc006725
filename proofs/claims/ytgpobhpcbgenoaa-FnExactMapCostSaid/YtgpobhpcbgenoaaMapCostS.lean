/- Contracts: what a map costs, as the reference reckons it. -/
import Derived.Test.YtgpobhpcbgenoaaLocalS
namespace Go.Proofs.Ytgpobhpcbgenoaa
open Go.RowKit
set_option linter.unusedVariables false

/-- What a cell adds. -/
noncomputable def mapSt (wn hn dn p0 p1 : Nat) (bs bs2 : List Nat) (j k S : Nat) : Nat :=
  (ladd (k + 1 < hn) (nrm (priceX p0 p1 (((digit (bs2.getD (cellN wn (j : Int) (k : Int)) 0)) : Nat) : Int) (((digit (bs2.getD (cellN wn (j : Int) ((k : Int) + 1)) 0)) : Nat) : Int))) (ladd (j + 1 < wn) (nrm (priceX p0 p1 (((digit (bs2.getD (cellN wn (j : Int) (k : Int)) 0)) : Nat) : Int) (((digit (bs2.getD (cellN wn ((j : Int) + 1) (k : Int)) 0)) : Nat) : Int))) (fop .add S (nrm (bs.getD (cellN wn (j : Int) (k : Int) * dn + (digit (bs2.getD (cellN wn (j : Int) (k : Int)) 0))) 0)))))
noncomputable def mapTo (wn hn dn p0 p1 : Nat) (bs bs2 : List Nat) : Nat → Nat
  | 0 => 0
  | i + 1 => mapSt wn hn dn p0 p1 bs bs2 (i % wn) (i / wn) (mapTo wn hn dn p0 p1 bs bs2 i)
theorem mapTo_at {wn hn dn p0 p1 : Nat} {bs bs2 : List Nat} {j k : Nat} (hj : j < wn) : mapTo wn hn dn p0 p1 bs bs2 (k * wn + j + 1) = mapSt wn hn dn p0 p1 bs bs2 j k (mapTo wn hn dn p0 p1 bs bs2 (k * wn + j)) := by
  rw [mapTo, Nat.mul_comm k wn, Nat.mul_add_mod, Nat.mod_eq_of_lt hj, Nat.mul_add_div (by omega), Nat.div_eq_of_lt hj, Nat.add_zero]
set_option maxHeartbeats 8000000 in
set_option maxRecDepth 8000 in
theorem l04MapCost_any (g gp gm wn hn dn gb off n c gb2 off2 n2 c2 : Nat) (bs bs2 : List Nat) (p0 p1 : Nat) (h0 : p0 < 4294967296) (h1 : p1 < 4294967296) (U : World) (hB : Box4 U g (.int .i64 wn) (.int .i64 hn) (.int .i64 dn) (.slice (some ⟨gb, off, none⟩) n c)) (hP : Box2 U gp (fl p0) (fl p1)) (hM : Box3 U gm (.int .i64 wn) (.int .i64 hn) (.slice (some ⟨gb2, off2, none⟩) n2 c2)) (hl : Lies U gb off bs) (hlen : bs.length = n) (hw : Words bs) (hl2 : Lies U gb2 off2 bs2) (hlen2 : bs2.length = n2) (hw2 : Words bs2) (hv : VVol wn hn dn n) (hm : VMap wn hn n2) (hall : bs2.all (whole dn) = true) :
    Calls Try.prog 49 #[.pointer (some ⟨g, 0, none⟩), .pointer (some ⟨gp, 0, none⟩), .pointer (some ⟨gm, 0, none⟩)] U fun e U' => ∃ r, e = .returned (.float .f32 r) ∧ Is r (mapTo wn hn dn p0 p1 bs bs2 (hn * wn)) ∧ Ext U U' := by
  have hd8 : dn ≤ 8 := by have := hv.2.2.1; omega
  have hd0 : 0 < dn := by have := hv.2.1; omega
  have hw24 : wn ≤ 24 := by have := hv.1.2.1; omega
  have hh24 : hn ≤ 24 := by have := hv.1.2.2.2.1; omega
  have HC := Lib.hid (fun (W : World) (hE : Ext U W) (j k e : Nat) (hj : j < wn) (hk : k < hn) (he : e < dn) => l04Cost_any g wn hn dn gb off n c bs (j : Int) (k : Int) e W (hB.ext hE) (hl.ext hE) hlen hv ⟨by omega, by omega⟩ ⟨by omega, by omega⟩ he)
  have HV := Lib.hid (fun (W : World) (hE : Ext U W) (u w : Int) (hu : 0 ≤ u ∧ u ≤ (wn : Int) - 1) (hw' : 0 ≤ w ∧ w ≤ (hn : Int) - 1) => (⟨l04Value_any gm wn hn dn gb2 off2 n2 c2 bs2 u w W (hM.ext hE) (hl2.ext hE) hlen2 hw2 hm hd0 hd8 hall hu hw', (digit_lt (wd_at2 hw2 (cellN wn u w)) hd0 hd8 (all_at hall (by rw [hlen2]; exact (cellN_eq hm hu.1 hu.2 hw'.1 hw'.2).2.1))).1⟩ : _ ∧ digit (bs2.getD (cellN wn u w) 0) < dn))
  have HWD := Lib.hid hw
  have HB := Lib.hid hB
  have HPB := Lib.hid hP
  have ⟨b0, b1, b2, b3⟩ := hB
  clear hB hP hM hl hlen hw hl2 hlen2 hw2 hv hm hall
  go_enter Try.func49, Try.ntmps49
  go_wp2_with fail
  clear b0 b1 b2 b3
  go_loopw [7, 8] (fun s yv wr => ∃ (k r : Nat), k ≤ hn ∧ yv = .int .i64 k ∧ s = .float .f32 r ∧ Is r (mapTo wn hn dn p0 p1 bs bs2 (k * wn)) ∧ Ext U wr) (fun _ yv _ => hn - (intOf yv).toNat)
  case atStart => exact ⟨0, 0, Nat.zero_le _, rfl, rfl, by rw [Nat.zero_mul]; exact Is.zero, Ext.refl _⟩
  case round =>
    obtain ⟨k, s0, hk, rfl, rfl, hs0, hE0⟩ := hrel
    have ⟨b0, b1, b2, b3⟩ := HB.out.ext hE0
    by_cases hlk : k < hn
    · have hlk' : (k : Int) < (hn : Int) := by omega
      have a3 : IntKind.i64.wrap ((k : Int) + 1) = (k : Int) + 1 := wrap_small _ (by omega) (by omega)
      go_wp2_with fail
      go_loopw [7, 9] (fun s xv wq => ∃ (j r : Nat), j ≤ wn ∧ xv = .int .i64 j ∧ s = .float .f32 r ∧ Is r (mapTo wn hn dn p0 p1 bs bs2 (k * wn + j)) ∧ Ext U wq) (fun _ xv _ => wn - (intOf xv).toNat)
      case atStart => exact ⟨0, s0, Nat.zero_le _, rfl, rfl, hs0, hE0⟩
      case round =>
        clear b0 b1 b2 b3 hs0 hE0
        obtain ⟨j, s, hj, rfl, rfl, hs, hE⟩ := hrel
        have ⟨b0, b1, b2, b3⟩ := HB.out.ext hE
        by_cases hlj : j < wn
        · have hlj' : (j : Int) < (wn : Int) := by omega
          have a1 : IntKind.i64.wrap ((j : Int) + 1) = (j : Int) + 1 := wrap_small _ (by omega) (by omega)
          have HST := Lib.hid (mapTo_at (hn := hn) (dn := dn) (p0 := p0) (p1 := p1) (bs := bs) (bs2 := bs2) (k := k) hlj)
          obtain ⟨S, hS⟩ : ∃ S, mapTo wn hn dn p0 p1 bs bs2 (k * wn + j) = S := ⟨_, rfl⟩
          rw [hS] at HST hs
          clear hS
          go_wp2_with fail
          have kd := HV.out _ hE (j : Int) (k : Int) ⟨by omega, by omega⟩ ⟨by omega, by omega⟩
          obtain ⟨d, hd⟩ : ∃ D, digit (bs2.getD (cellN wn (j : Int) (k : Int)) 0) = D := ⟨_, rfl⟩
          rw [hd] at kd
          have QD := Lib.hid hd
          clear hd
          have gd := kd.2
          refine kd.1.mono ?_
          rintro e wa ⟨rfl, hx'⟩
          replace hE := hE.trans hx'
          clear hx' kd b0 b1 b2 b3
          go_wp2_with fail
          have HW0 := Lib.hid (wd_at2 HWD.out (cellN wn (j : Int) (k : Int) * dn + d))
          have kc := HC.out _ hE j k d hlj hlk gd
          obtain ⟨v0, hv0⟩ : ∃ v, bs.getD (cellN wn (j : Int) (k : Int) * dn + d) 0 = v := ⟨_, rfl⟩
          rw [hv0] at kc HW0
          have QV := Lib.hid hv0
          clear hv0
          refine kc.mono ?_
          rintro e wb ⟨rfl, hx'⟩
          replace hE := hE.trans hx'
          clear hx' kc
          have ⟨b0, b1, b2, b3⟩ := HB.out.ext hE
          by_cases n0 : j + 1 < wn
          · have i0 : (j : Int) + 1 < (wn : Int) := by omega
            have N0 := Lib.hid n0
            clear n0
            go_wp2_with fail
            refine calls_at (X := fun w' => Ext U w') (by repeat (first | (with_reducible exact hE) | (with_reducible refine Ext.drewN ?_ _))) ?_
            clear hE b0 b1 b2 b3
            intro wc hE
            have k0 := HV.out wc hE ((j : Int) + 1) (k : Int) ⟨by omega, by omega⟩ ⟨by omega, by omega⟩
            obtain ⟨D0, hD0⟩ : ∃ D, digit (bs2.getD (cellN wn ((j : Int) + 1) (k : Int)) 0) = D := ⟨_, rfl⟩
            rw [hD0] at k0
            have Q0 := Lib.hid hD0
            clear hD0
            have g0 := k0.2
            refine k0.1.mono ?_
            rintro e wd ⟨rfl, hx'⟩
            replace hE := hE.trans hx'
            clear hx' k0
            have ⟨c0, c1⟩ := HPB.out.ext hE
            have ⟨b0, b1, b2, b3⟩ := HB.out.ext hE
            go_wp2_with fail
            refine (l04Price_any gp p0 p1 (d : Int) _ _ (by omega) (by omega) (by omega) (by omega) c0 c1).mono ?_
            rintro e w' ⟨rfl, rfl⟩
            clear c0 c1 g0
            by_cases n1 : k + 1 < hn
            · have i1 : (k : Int) + 1 < (hn : Int) := by omega
              have N1 := Lib.hid n1
              clear n1
              go_wp2_with fail
              refine calls_at (X := fun w' => Ext U w') (by repeat (first | (with_reducible exact hE) | (with_reducible refine Ext.drewN ?_ _))) ?_
              clear hE b0 b1 b2 b3
              intro wc hE
              have k1 := HV.out wc hE (j : Int) ((k : Int) + 1) ⟨by omega, by omega⟩ ⟨by omega, by omega⟩
              obtain ⟨D1, hD1⟩ : ∃ D, digit (bs2.getD (cellN wn (j : Int) ((k : Int) + 1)) 0) = D := ⟨_, rfl⟩
              rw [hD1] at k1
              have Q1 := Lib.hid hD1
              clear hD1
              have g1 := k1.2
              refine k1.1.mono ?_
              rintro e wd ⟨rfl, hx'⟩
              replace hE := hE.trans hx'
              clear hx' k1
              have ⟨c0, c1⟩ := HPB.out.ext hE
              have ⟨b0, b1, b2, b3⟩ := HB.out.ext hE
              go_wp2_with fail
              refine (l04Price_any gp p0 p1 (d : Int) _ _ (by omega) (by omega) (by omega) (by omega) c0 c1).mono ?_
              rintro e w' ⟨rfl, rfl⟩
              clear c0 c1 g1
              go_wp2
              go_roundw
              case rel =>
                refine ⟨j + 1, _, by omega, by go_num, rfl, ?_, ?_⟩
                · rw [← Nat.add_assoc, HST.out]
                  unfold mapSt ladd
                  simp only [if_pos N0.out, if_pos N1.out]
                  rw [QD.out, QV.out]
                  rw [Q0.out]
                  rw [Q1.out]
                  exact (Is.op (Is.op (Is.op hs (nrm_word HW0.out) (flR_is _ _ _ _)) ⟨priceX_lt h0 h1 _ _, rfl⟩ (flR_is _ _ _ _)) ⟨priceX_lt h0 h1 _ _, rfl⟩ (flR_is _ _ _ _))
                · repeat (first | (with_reducible exact hE) | (with_reducible refine Ext.drewN ?_ _))
              case measure => simp [intOf]; omega
            · have i1 : ¬ ((k : Int) + 1 < (hn : Int)) := by omega
              have N1 := Lib.hid n1
              clear n1
              go_wp2
              go_roundw
              case rel =>
                refine ⟨j + 1, _, by omega, by go_num, rfl, ?_, ?_⟩
                · rw [← Nat.add_assoc, HST.out]
                  unfold mapSt ladd
                  simp only [if_pos N0.out, if_neg N1.out]
                  rw [QD.out, QV.out]
                  rw [Q0.out]
                  exact (Is.op (Is.op hs (nrm_word HW0.out) (flR_is _ _ _ _)) ⟨priceX_lt h0 h1 _ _, rfl⟩ (flR_is _ _ _ _))
                · repeat (first | (with_reducible exact hE) | (with_reducible refine Ext.drewN ?_ _))
              case measure => simp [intOf]; omega
          · have i0 : ¬ ((j : Int) + 1 < (wn : Int)) := by omega
            have N0 := Lib.hid n0
            clear n0
            by_cases n1 : k + 1 < hn
            · have i1 : (k : Int) + 1 < (hn : Int) := by omega
              have N1 := Lib.hid n1
              clear n1
              go_wp2_with fail
              refine calls_at (X := fun w' => Ext U w') (by repeat (first | (with_reducible exact hE) | (with_reducible refine Ext.drewN ?_ _))) ?_
              clear hE b0 b1 b2 b3
              intro wc hE
              have k1 := HV.out wc hE (j : Int) ((k : Int) + 1) ⟨by omega, by omega⟩ ⟨by omega, by omega⟩
              obtain ⟨D1, hD1⟩ : ∃ D, digit (bs2.getD (cellN wn (j : Int) ((k : Int) + 1)) 0) = D := ⟨_, rfl⟩
              rw [hD1] at k1
              have Q1 := Lib.hid hD1
              clear hD1
              have g1 := k1.2
              refine k1.1.mono ?_
              rintro e wd ⟨rfl, hx'⟩
              replace hE := hE.trans hx'
              clear hx' k1
              have ⟨c0, c1⟩ := HPB.out.ext hE
              have ⟨b0, b1, b2, b3⟩ := HB.out.ext hE
              go_wp2_with fail
              refine (l04Price_any gp p0 p1 (d : Int) _ _ (by omega) (by omega) (by omega) (by omega) c0 c1).mono ?_
              rintro e w' ⟨rfl, rfl⟩
              clear c0 c1 g1
              go_wp2
              go_roundw
              case rel =>
                refine ⟨j + 1, _, by omega, by go_num, rfl, ?_, ?_⟩
                · rw [← Nat.add_assoc, HST.out]
                  unfold mapSt ladd
                  simp only [if_neg N0.out, if_pos N1.out]
                  rw [QD.out, QV.out]
                  rw [Q1.out]
                  exact (Is.op (Is.op hs (nrm_word HW0.out) (flR_is _ _ _ _)) ⟨priceX_lt h0 h1 _ _, rfl⟩ (flR_is _ _ _ _))
                · repeat (first | (with_reducible exact hE) | (with_reducible refine Ext.drewN ?_ _))
              case measure => simp [intOf]; omega
            · have i1 : ¬ ((k : Int) + 1 < (hn : Int)) := by omega
              have N1 := Lib.hid n1
              clear n1
              go_wp2
              go_roundw
              case rel =>
                refine ⟨j + 1, _, by omega, by go_num, rfl, ?_, ?_⟩
                · rw [← Nat.add_assoc, HST.out]
                  unfold mapSt ladd
                  simp only [if_neg N0.out, if_neg N1.out]
                  rw [QD.out, QV.out]
                  exact (Is.op hs (nrm_word HW0.out) (flR_is _ _ _ _))
                · repeat (first | (with_reducible exact hE) | (with_reducible refine Ext.drewN ?_ _))
              case measure => simp [intOf]; omega
        · have e1 : j = wn := by omega
          rw [e1, ← Nat.succ_mul] at hs
          go_wp2
          go_roundw
          case rel => exact ⟨k + 1, s, by omega, by go_num, rfl, hs, hE⟩
          case measure => simp [intOf]; omega
    · have e1 : k = hn := by omega
      rw [e1] at hs0
      go_wp2
      go_ret
      exact ⟨s0, rfl, hs0, hE0⟩
end Go.Proofs.Ytgpobhpcbgenoaa
