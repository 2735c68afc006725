/- Contracts: what a cell costs, as the reference reckons it. -/
import Derived.Test.YtabdbldidddhgaaDigit
import Derived.Test.YtabdbldidddhgaaPrice
namespace Go.Proofs.Ytabdbldidddhgaa
open Go.RowKit
set_option linter.unusedVariables false

def ladd (b : Prop) [Decidable b] (q s : Nat) : Nat := if b then fop .add s q else s
/-- What a disparity of a cell costs. -/
noncomputable def locS (wn hn dn p0 p1 : Nat) (bs bs2 : List Nat) (x y d : Nat) : Nat :=
  (ladd (y + 1 < hn) (nrm (priceX p0 p1 (d : Int) ((digit (bs2.getD (cellN wn (x : Int) ((y : Int) + 1)) 0) : Nat) : Int))) (ladd (0 < y) (nrm (priceX p0 p1 (d : Int) ((digit (bs2.getD (cellN wn (x : Int) ((y : Int) - 1)) 0) : Nat) : Int))) (ladd (x + 1 < wn) (nrm (priceX p0 p1 (d : Int) ((digit (bs2.getD (cellN wn ((x : Int) + 1) (y : Int)) 0) : Nat) : Int))) (ladd (0 < x) (nrm (priceX p0 p1 (d : Int) ((digit (bs2.getD (cellN wn ((x : Int) - 1) (y : Int)) 0) : Nat) : Int))) (nrm (bs.getD (cellN wn (x : Int) (y : Int) * dn + d) 0))))))
set_option maxHeartbeats 4000000 in
set_option maxRecDepth 8000 in
theorem l04Local_any (g gp gm wn hn dn gb off n c gb2 off2 n2 c2 : Nat) (bs bs2 : List Nat) (p0 p1 : Nat) (h0 : p0 < 4294967296) (h1 : p1 < 4294967296) (x y d : Nat) (U : World) (hB : Box4 U g (.int .i64 wn) (.int .i64 hn) (.int .i64 dn) (.slice (some ⟨gb, off, none⟩) n c)) (hP : Box2 U gp (fl p0) (fl p1)) (hM : Box3 U gm (.int .i64 wn) (.int .i64 hn) (.slice (some ⟨gb2, off2, none⟩) n2 c2)) (hl : Lies U gb off bs) (hlen : bs.length = n) (hw : Words bs) (hl2 : Lies U gb2 off2 bs2) (hlen2 : bs2.length = n2) (hw2 : Words bs2) (hv : VVol wn hn dn n) (hm : VMap wn hn n2) (hall : bs2.all (whole dn) = true) (hx : x < wn) (hy : y < hn) (hd : d < dn) :
    Calls Try.prog 104 #[.pointer (some ⟨g, 0, none⟩), .pointer (some ⟨gp, 0, none⟩), .pointer (some ⟨gm, 0, none⟩), .int .i64 x, .int .i64 y, .int .i64 d] U fun e U' => ∃ r, e = .returned (.float .f32 r) ∧ Is r (locS wn hn dn p0 p1 bs bs2 x y d) ∧ Ext U U' := by
  have hd8 : dn ≤ 8 := by have := hv.2.2.1; omega
  have hd0 : 0 < dn := by have := hv.2.1; omega
  have hw24 : wn ≤ 24 := by have := hv.1.2.1; omega
  have hh24 : hn ≤ 24 := by have := hv.1.2.2.2.1; omega
  have HC := Lib.hid (fun (W : World) (hE : Ext U W) => l04Cost_any g wn hn dn gb off n c bs (x : Int) (y : Int) d W (hB.ext hE) (hl.ext hE) hlen hv ⟨by omega, by omega⟩ ⟨by omega, by omega⟩ hd)
  have HV := Lib.hid (fun (W : World) (hE : Ext U W) (u w : Int) (hu : 0 ≤ u ∧ u ≤ (wn : Int) - 1) (hw' : 0 ≤ w ∧ w ≤ (hn : Int) - 1) => (⟨l04Value_any gm wn hn dn gb2 off2 n2 c2 bs2 u w W (hM.ext hE) (hl2.ext hE) hlen2 hw2 hm hd0 hd8 hall hu hw', (digit_lt (wd_at2 hw2 (cellN wn u w)) hd0 hd8 (all_at hall (by rw [hlen2]; exact (cellN_eq hm hu.1 hu.2 hw'.1 hw'.2).2.1))).1⟩ : _ ∧ digit (bs2.getD (cellN wn u w) 0) < dn))
  have hwd := wd_at2 hw (cellN wn (x : Int) (y : Int) * dn + d)
  unfold locS
  generalize bs.getD (cellN wn (x : Int) (y : Int) * dn + d) 0 = v0 at HC hwd ⊢
  have a0 : IntKind.i64.wrap ((x : Int) - 1) = (x : Int) - 1 := wrap_small _ (by omega) (by omega)
  have a1 : IntKind.i64.wrap ((x : Int) + 1) = (x : Int) + 1 := wrap_small _ (by omega) (by omega)
  have a2 : IntKind.i64.wrap ((y : Int) - 1) = (y : Int) - 1 := wrap_small _ (by omega) (by omega)
  have a3 : IntKind.i64.wrap ((y : Int) + 1) = (y : Int) + 1 := wrap_small _ (by omega) (by omega)
  have HB := Lib.hid hB
  have HPB := Lib.hid hP
  clear hB hP hM hl hlen hw hl2 hlen2 hw2 hv hm hall
  go_enter Try.func104, Try.ntmps104
  go_wp2_with fail
  refine (HC.out U (Ext.refl _)).mono ?_
  rintro e w0 ⟨rfl, hE⟩
  have ⟨b0, b1, b2, b3⟩ := HB.out.ext hE
  by_cases n0 : 0 < x
  · have i0 : (0 : Int) < (x : Int) := by omega
    have N0 := Lib.hid n0
    clear n0
    go_wp2_with fail
    refine calls_at (X := fun w' => Ext U w') (by repeat (first | (with_reducible exact hE) | (with_reducible refine Ext.drewN ?_ _))) ?_
    clear hE b0 b1 b2 b3
    intro wa hE
    have k0 := HV.out wa hE ((x : Int) - 1) (y : Int) ⟨by omega, by omega⟩ ⟨by omega, by omega⟩
    obtain ⟨D0, hD0⟩ : ∃ D, digit (bs2.getD (cellN wn ((x : Int) - 1) (y : Int)) 0) = D := ⟨_, rfl⟩
    rw [hD0] at k0
    have Q0 := Lib.hid hD0
    clear hD0
    have g0 := k0.2
    refine k0.1.mono ?_
    rintro e wb ⟨rfl, hx'⟩
    replace hE := hE.trans hx'
    clear hx' k0
    have ⟨c0, c1⟩ := HPB.out.ext hE
    have ⟨b0, b1, b2, b3⟩ := HB.out.ext hE
    go_wp2_with fail
    refine (l04Price_any gp p0 p1 (d : Int) _ _ (by omega) (by omega) (by omega) (by omega) c0 c1).mono ?_
    rintro e w' ⟨rfl, rfl⟩
    clear c0 c1 g0
    by_cases n1 : x + 1 < wn
    · have i1 : (x : Int) + 1 < (wn : Int) := by omega
      have N1 := Lib.hid n1
      clear n1
      go_wp2_with fail
      refine calls_at (X := fun w' => Ext U w') (by repeat (first | (with_reducible exact hE) | (with_reducible refine Ext.drewN ?_ _))) ?_
      clear hE b0 b1 b2 b3
      intro wa hE
      have k1 := HV.out wa hE ((x : Int) + 1) (y : Int) ⟨by omega, by omega⟩ ⟨by omega, by omega⟩
      obtain ⟨D1, hD1⟩ : ∃ D, digit (bs2.getD (cellN wn ((x : Int) + 1) (y : Int)) 0) = D := ⟨_, rfl⟩
      rw [hD1] at k1
      have Q1 := Lib.hid hD1
      clear hD1
      have g1 := k1.2
      refine k1.1.mono ?_
      rintro e wb ⟨rfl, hx'⟩
      replace hE := hE.trans hx'
      clear hx' k1
      have ⟨c0, c1⟩ := HPB.out.ext hE
      have ⟨b0, b1, b2, b3⟩ := HB.out.ext hE
      go_wp2_with fail
      refine (l04Price_any gp p0 p1 (d : Int) _ _ (by omega) (by omega) (by omega) (by omega) c0 c1).mono ?_
      rintro e w' ⟨rfl, rfl⟩
      clear c0 c1 g1
      by_cases n2 : 0 < y
      · have i2 : (0 : Int) < (y : Int) := by omega
        have N2 := Lib.hid n2
        clear n2
        go_wp2_with fail
        refine calls_at (X := fun w' => Ext U w') (by repeat (first | (with_reducible exact hE) | (with_reducible refine Ext.drewN ?_ _))) ?_
        clear hE b0 b1 b2 b3
        intro wa hE
        have k2 := HV.out wa hE (x : Int) ((y : Int) - 1) ⟨by omega, by omega⟩ ⟨by omega, by omega⟩
        obtain ⟨D2, hD2⟩ : ∃ D, digit (bs2.getD (cellN wn (x : Int) ((y : Int) - 1)) 0) = D := ⟨_, rfl⟩
        rw [hD2] at k2
        have Q2 := Lib.hid hD2
        clear hD2
        have g2 := k2.2
        refine k2.1.mono ?_
        rintro e wb ⟨rfl, hx'⟩
        replace hE := hE.trans hx'
        clear hx' k2
        have ⟨c0, c1⟩ := HPB.out.ext hE
        have ⟨b0, b1, b2, b3⟩ := HB.out.ext hE
        go_wp2_with fail
        refine (l04Price_any gp p0 p1 (d : Int) _ _ (by omega) (by omega) (by omega) (by omega) c0 c1).mono ?_
        rintro e w' ⟨rfl, rfl⟩
        clear c0 c1 g2
        by_cases n3 : y + 1 < hn
        · have i3 : (y : Int) + 1 < (hn : Int) := by omega
          have N3 := Lib.hid n3
          clear n3
          go_wp2_with fail
          refine calls_at (X := fun w' => Ext U w') (by repeat (first | (with_reducible exact hE) | (with_reducible refine Ext.drewN ?_ _))) ?_
          clear hE b0 b1 b2 b3
          intro wa hE
          have k3 := HV.out wa hE (x : Int) ((y : Int) + 1) ⟨by omega, by omega⟩ ⟨by omega, by omega⟩
          obtain ⟨D3, hD3⟩ : ∃ D, digit (bs2.getD (cellN wn (x : Int) ((y : Int) + 1)) 0) = D := ⟨_, rfl⟩
          rw [hD3] at k3
          have Q3 := Lib.hid hD3
          clear hD3
          have g3 := k3.2
          refine k3.1.mono ?_
          rintro e wb ⟨rfl, hx'⟩
          replace hE := hE.trans hx'
          clear hx' k3
          have ⟨c0, c1⟩ := HPB.out.ext hE
          have ⟨b0, b1, b2, b3⟩ := HB.out.ext hE
          go_wp2_with fail
          refine (l04Price_any gp p0 p1 (d : Int) _ _ (by omega) (by omega) (by omega) (by omega) c0 c1).mono ?_
          rintro e w' ⟨rfl, rfl⟩
          clear c0 c1 g3
          go_wp2
          go_ret
          refine ⟨_, rfl, ?_, ?_⟩
          · unfold ladd
            simp only [if_pos N0.out, if_pos N1.out, if_pos N2.out, if_pos N3.out]
            rw [Q0.out]
            rw [Q1.out]
            rw [Q2.out]
            rw [Q3.out]
            exact (Is.op (Is.op (Is.op (Is.op (nrm_word hwd) ⟨priceX_lt h0 h1 _ _, rfl⟩ (flR_is _ _ _ _)) ⟨priceX_lt h0 h1 _ _, rfl⟩ (flR_is _ _ _ _)) ⟨priceX_lt h0 h1 _ _, rfl⟩ (flR_is _ _ _ _)) ⟨priceX_lt h0 h1 _ _, rfl⟩ (flR_is _ _ _ _))
          · repeat (first | (with_reducible exact hE) | (with_reducible refine Ext.drewN ?_ _))
        · have i3 : ¬ ((y : Int) + 1 < (hn : Int)) := by omega
          have N3 := Lib.hid n3
          clear n3
          go_wp2
          go_ret
          refine ⟨_, rfl, ?_, ?_⟩
          · unfold ladd
            simp only [if_pos N0.out, if_pos N1.out, if_pos N2.out, if_neg N3.out]
            rw [Q0.out]
            rw [Q1.out]
            rw [Q2.out]
            exact (Is.op (Is.op (Is.op (nrm_word hwd) ⟨priceX_lt h0 h1 _ _, rfl⟩ (flR_is _ _ _ _)) ⟨priceX_lt h0 h1 _ _, rfl⟩ (flR_is _ _ _ _)) ⟨priceX_lt h0 h1 _ _, rfl⟩ (flR_is _ _ _ _))
          · repeat (first | (with_reducible exact hE) | (with_reducible refine Ext.drewN ?_ _))
      · have i2 : ¬ ((0 : Int) < (y : Int)) := by omega
        have N2 := Lib.hid n2
        clear n2
        by_cases n3 : y + 1 < hn
        · have i3 : (y : Int) + 1 < (hn : Int) := by omega
          have N3 := Lib.hid n3
          clear n3
          go_wp2_with fail
          refine calls_at (X := fun w' => Ext U w') (by repeat (first | (with_reducible exact hE) | (with_reducible refine Ext.drewN ?_ _))) ?_
          clear hE b0 b1 b2 b3
          intro wa hE
          have k3 := HV.out wa hE (x : Int) ((y : Int) + 1) ⟨by omega, by omega⟩ ⟨by omega, by omega⟩
          obtain ⟨D3, hD3⟩ : ∃ D, digit (bs2.getD (cellN wn (x : Int) ((y : Int) + 1)) 0) = D := ⟨_, rfl⟩
          rw [hD3] at k3
          have Q3 := Lib.hid hD3
          clear hD3
          have g3 := k3.2
          refine k3.1.mono ?_
          rintro e wb ⟨rfl, hx'⟩
          replace hE := hE.trans hx'
          clear hx' k3
          have ⟨c0, c1⟩ := HPB.out.ext hE
          have ⟨b0, b1, b2, b3⟩ := HB.out.ext hE
          go_wp2_with fail
          refine (l04Price_any gp p0 p1 (d : Int) _ _ (by omega) (by omega) (by omega) (by omega) c0 c1).mono ?_
          rintro e w' ⟨rfl, rfl⟩
          clear c0 c1 g3
          go_wp2
          go_ret
          refine ⟨_, rfl, ?_, ?_⟩
          · unfold ladd
            simp only [if_pos N0.out, if_pos N1.out, if_neg N2.out, if_pos N3.out]
            rw [Q0.out]
            rw [Q1.out]
            rw [Q3.out]
            exact (Is.op (Is.op (Is.op (nrm_word hwd) ⟨priceX_lt h0 h1 _ _, rfl⟩ (flR_is _ _ _ _)) ⟨priceX_lt h0 h1 _ _, rfl⟩ (flR_is _ _ _ _)) ⟨priceX_lt h0 h1 _ _, rfl⟩ (flR_is _ _ _ _))
          · repeat (first | (with_reducible exact hE) | (with_reducible refine Ext.drewN ?_ _))
        · have i3 : ¬ ((y : Int) + 1 < (hn : Int)) := by omega
          have N3 := Lib.hid n3
          clear n3
          go_wp2
          go_ret
          refine ⟨_, rfl, ?_, ?_⟩
          · unfold ladd
            simp only [if_pos N0.out, if_pos N1.out, if_neg N2.out, if_neg N3.out]
            rw [Q0.out]
            rw [Q1.out]
            exact (Is.op (Is.op (nrm_word hwd) ⟨priceX_lt h0 h1 _ _, rfl⟩ (flR_is _ _ _ _)) ⟨priceX_lt h0 h1 _ _, rfl⟩ (flR_is _ _ _ _))
          · repeat (first | (with_reducible exact hE) | (with_reducible refine Ext.drewN ?_ _))
    · have i1 : ¬ ((x : Int) + 1 < (wn : Int)) := by omega
      have N1 := Lib.hid n1
      clear n1
      by_cases n2 : 0 < y
      · have i2 : (0 : Int) < (y : Int) := by omega
        have N2 := Lib.hid n2
        clear n2
        go_wp2_with fail
        refine calls_at (X := fun w' => Ext U w') (by repeat (first | (with_reducible exact hE) | (with_reducible refine Ext.drewN ?_ _))) ?_
        clear hE b0 b1 b2 b3
        intro wa hE
        have k2 := HV.out wa hE (x : Int) ((y : Int) - 1) ⟨by omega, by omega⟩ ⟨by omega, by omega⟩
        obtain ⟨D2, hD2⟩ : ∃ D, digit (bs2.getD (cellN wn (x : Int) ((y : Int) - 1)) 0) = D := ⟨_, rfl⟩
        rw [hD2] at k2
        have Q2 := Lib.hid hD2
        clear hD2
        have g2 := k2.2
        refine k2.1.mono ?_
        rintro e wb ⟨rfl, hx'⟩
        replace hE := hE.trans hx'
        clear hx' k2
        have ⟨c0, c1⟩ := HPB.out.ext hE
        have ⟨b0, b1, b2, b3⟩ := HB.out.ext hE
        go_wp2_with fail
        refine (l04Price_any gp p0 p1 (d : Int) _ _ (by omega) (by omega) (by omega) (by omega) c0 c1).mono ?_
        rintro e w' ⟨rfl, rfl⟩
        clear c0 c1 g2
        by_cases n3 : y + 1 < hn
        · have i3 : (y : Int) + 1 < (hn : Int) := by omega
          have N3 := Lib.hid n3
          clear n3
          go_wp2_with fail
          refine calls_at (X := fun w' => Ext U w') (by repeat (first | (with_reducible exact hE) | (with_reducible refine Ext.drewN ?_ _))) ?_
          clear hE b0 b1 b2 b3
          intro wa hE
          have k3 := HV.out wa hE (x : Int) ((y : Int) + 1) ⟨by omega, by omega⟩ ⟨by omega, by omega⟩
          obtain ⟨D3, hD3⟩ : ∃ D, digit (bs2.getD (cellN wn (x : Int) ((y : Int) + 1)) 0) = D := ⟨_, rfl⟩
          rw [hD3] at k3
          have Q3 := Lib.hid hD3
          clear hD3
          have g3 := k3.2
          refine k3.1.mono ?_
          rintro e wb ⟨rfl, hx'⟩
          replace hE := hE.trans hx'
          clear hx' k3
          have ⟨c0, c1⟩ := HPB.out.ext hE
          have ⟨b0, b1, b2, b3⟩ := HB.out.ext hE
          go_wp2_with fail
          refine (l04Price_any gp p0 p1 (d : Int) _ _ (by omega) (by omega) (by omega) (by omega) c0 c1).mono ?_
          rintro e w' ⟨rfl, rfl⟩
          clear c0 c1 g3
          go_wp2
          go_ret
          refine ⟨_, rfl, ?_, ?_⟩
          · unfold ladd
            simp only [if_pos N0.out, if_neg N1.out, if_pos N2.out, if_pos N3.out]
            rw [Q0.out]
            rw [Q2.out]
            rw [Q3.out]
            exact (Is.op (Is.op (Is.op (nrm_word hwd) ⟨priceX_lt h0 h1 _ _, rfl⟩ (flR_is _ _ _ _)) ⟨priceX_lt h0 h1 _ _, rfl⟩ (flR_is _ _ _ _)) ⟨priceX_lt h0 h1 _ _, rfl⟩ (flR_is _ _ _ _))
          · repeat (first | (with_reducible exact hE) | (with_reducible refine Ext.drewN ?_ _))
        · have i3 : ¬ ((y : Int) + 1 < (hn : Int)) := by omega
          have N3 := Lib.hid n3
          clear n3
          go_wp2
          go_ret
          refine ⟨_, rfl, ?_, ?_⟩
          · unfold ladd
            simp only [if_pos N0.out, if_neg N1.out, if_pos N2.out, if_neg N3.out]
            rw [Q0.out]
            rw [Q2.out]
            exact (Is.op (Is.op (nrm_word hwd) ⟨priceX_lt h0 h1 _ _, rfl⟩ (flR_is _ _ _ _)) ⟨priceX_lt h0 h1 _ _, rfl⟩ (flR_is _ _ _ _))
          · repeat (first | (with_reducible exact hE) | (with_reducible refine Ext.drewN ?_ _))
      · have i2 : ¬ ((0 : Int) < (y : Int)) := by omega
        have N2 := Lib.hid n2
        clear n2
        by_cases n3 : y + 1 < hn
        · have i3 : (y : Int) + 1 < (hn : Int) := by omega
          have N3 := Lib.hid n3
          clear n3
          go_wp2_with fail
          refine calls_at (X := fun w' => Ext U w') (by repeat (first | (with_reducible exact hE) | (with_reducible refine Ext.drewN ?_ _))) ?_
          clear hE b0 b1 b2 b3
          intro wa hE
          have k3 := HV.out wa hE (x : Int) ((y : Int) + 1) ⟨by omega, by omega⟩ ⟨by omega, by omega⟩
          obtain ⟨D3, hD3⟩ : ∃ D, digit (bs2.getD (cellN wn (x : Int) ((y : Int) + 1)) 0) = D := ⟨_, rfl⟩
          rw [hD3] at k3
          have Q3 := Lib.hid hD3
          clear hD3
          have g3 := k3.2
          refine k3.1.mono ?_
          rintro e wb ⟨rfl, hx'⟩
          replace hE := hE.trans hx'
          clear hx' k3
          have ⟨c0, c1⟩ := HPB.out.ext hE
          have ⟨b0, b1, b2, b3⟩ := HB.out.ext hE
          go_wp2_with fail
          refine (l04Price_any gp p0 p1 (d : Int) _ _ (by omega) (by omega) (by omega) (by omega) c0 c1).mono ?_
          rintro e w' ⟨rfl, rfl⟩
          clear c0 c1 g3
          go_wp2
          go_ret
          refine ⟨_, rfl, ?_, ?_⟩
          · unfold ladd
            simp only [if_pos N0.out, if_neg N1.out, if_neg N2.out, if_pos N3.out]
            rw [Q0.out]
            rw [Q3.out]
            exact (Is.op (Is.op (nrm_word hwd) ⟨priceX_lt h0 h1 _ _, rfl⟩ (flR_is _ _ _ _)) ⟨priceX_lt h0 h1 _ _, rfl⟩ (flR_is _ _ _ _))
          · repeat (first | (with_reducible exact hE) | (with_reducible refine Ext.drewN ?_ _))
        · have i3 : ¬ ((y : Int) + 1 < (hn : Int)) := by omega
          have N3 := Lib.hid n3
          clear n3
          go_wp2
          go_ret
          refine ⟨_, rfl, ?_, ?_⟩
          · unfold ladd
            simp only [if_pos N0.out, if_neg N1.out, if_neg N2.out, if_neg N3.out]
            rw [Q0.out]
            exact (Is.op (nrm_word hwd) ⟨priceX_lt h0 h1 _ _, rfl⟩ (flR_is _ _ _ _))
          · repeat (first | (with_reducible exact hE) | (with_reducible refine Ext.drewN ?_ _))
  · have i0 : ¬ ((0 : Int) < (x : Int)) := by omega
    have N0 := Lib.hid n0
    clear n0
    by_cases n1 : x + 1 < wn
    · have i1 : (x : Int) + 1 < (wn : Int) := by omega
      have N1 := Lib.hid n1
      clear n1
      go_wp2_with fail
      refine calls_at (X := fun w' => Ext U w') (by repeat (first | (with_reducible exact hE) | (with_reducible refine Ext.drewN ?_ _))) ?_
      clear hE b0 b1 b2 b3
      intro wa hE
      have k1 := HV.out wa hE ((x : Int) + 1) (y : Int) ⟨by omega, by omega⟩ ⟨by omega, by omega⟩
      obtain ⟨D1, hD1⟩ : ∃ D, digit (bs2.getD (cellN wn ((x : Int) + 1) (y : Int)) 0) = D := ⟨_, rfl⟩
      rw [hD1] at k1
      have Q1 := Lib.hid hD1
      clear hD1
      have g1 := k1.2
      refine k1.1.mono ?_
      rintro e wb ⟨rfl, hx'⟩
      replace hE := hE.trans hx'
      clear hx' k1
      have ⟨c0, c1⟩ := HPB.out.ext hE
      have ⟨b0, b1, b2, b3⟩ := HB.out.ext hE
      go_wp2_with fail
      refine (l04Price_any gp p0 p1 (d : Int) _ _ (by omega) (by omega) (by omega) (by omega) c0 c1).mono ?_
      rintro e w' ⟨rfl, rfl⟩
      clear c0 c1 g1
      by_cases n2 : 0 < y
      · have i2 : (0 : Int) < (y : Int) := by omega
        have N2 := Lib.hid n2
        clear n2
        go_wp2_with fail
        refine calls_at (X := fun w' => Ext U w') (by repeat (first | (with_reducible exact hE) | (with_reducible refine Ext.drewN ?_ _))) ?_
        clear hE b0 b1 b2 b3
        intro wa hE
        have k2 := HV.out wa hE (x : Int) ((y : Int) - 1) ⟨by omega, by omega⟩ ⟨by omega, by omega⟩
        obtain ⟨D2, hD2⟩ : ∃ D, digit (bs2.getD (cellN wn (x : Int) ((y : Int) - 1)) 0) = D := ⟨_, rfl⟩
        rw [hD2] at k2
        have Q2 := Lib.hid hD2
        clear hD2
        have g2 := k2.2
        refine k2.1.mono ?_
        rintro e wb ⟨rfl, hx'⟩
        replace hE := hE.trans hx'
        clear hx' k2
        have ⟨c0, c1⟩ := HPB.out.ext hE
        have ⟨b0, b1, b2, b3⟩ := HB.out.ext hE
        go_wp2_with fail
        refine (l04Price_any gp p0 p1 (d : Int) _ _ (by omega) (by omega) (by omega) (by omega) c0 c1).mono ?_
        rintro e w' ⟨rfl, rfl⟩
        clear c0 c1 g2
        by_cases n3 : y + 1 < hn
        · have i3 : (y : Int) + 1 < (hn : Int) := by omega
          have N3 := Lib.hid n3
          clear n3
          go_wp2_with fail
          refine calls_at (X := fun w' => Ext U w') (by repeat (first | (with_reducible exact hE) | (with_reducible refine Ext.drewN ?_ _))) ?_
          clear hE b0 b1 b2 b3
          intro wa hE
          have k3 := HV.out wa hE (x : Int) ((y : Int) + 1) ⟨by omega, by omega⟩ ⟨by omega, by omega⟩
          obtain ⟨D3, hD3⟩ : ∃ D, digit (bs2.getD (cellN wn (x : Int) ((y : Int) + 1)) 0) = D := ⟨_, rfl⟩
          rw [hD3] at k3
          have Q3 := Lib.hid hD3
          clear hD3
          have g3 := k3.2
          refine k3.1.mono ?_
          rintro e wb ⟨rfl, hx'⟩
          replace hE := hE.trans hx'
          clear hx' k3
          have ⟨c0, c1⟩ := HPB.out.ext hE
          have ⟨b0, b1, b2, b3⟩ := HB.out.ext hE
          go_wp2_with fail
          refine (l04Price_any gp p0 p1 (d : Int) _ _ (by omega) (by omega) (by omega) (by omega) c0 c1).mono ?_
          rintro e w' ⟨rfl, rfl⟩
          clear c0 c1 g3
          go_wp2
          go_ret
          refine ⟨_, rfl, ?_, ?_⟩
          · unfold ladd
            simp only [if_neg N0.out, if_pos N1.out, if_pos N2.out, if_pos N3.out]
            rw [Q1.out]
            rw [Q2.out]
            rw [Q3.out]
            exact (Is.op (Is.op (Is.op (nrm_word hwd) ⟨priceX_lt h0 h1 _ _, rfl⟩ (flR_is _ _ _ _)) ⟨priceX_lt h0 h1 _ _, rfl⟩ (flR_is _ _ _ _)) ⟨priceX_lt h0 h1 _ _, rfl⟩ (flR_is _ _ _ _))
          · repeat (first | (with_reducible exact hE) | (with_reducible refine Ext.drewN ?_ _))
        · have i3 : ¬ ((y : Int) + 1 < (hn : Int)) := by omega
          have N3 := Lib.hid n3
          clear n3
          go_wp2
          go_ret
          refine ⟨_, rfl, ?_, ?_⟩
          · unfold ladd
            simp only [if_neg N0.out, if_pos N1.out, if_pos N2.out, if_neg N3.out]
            rw [Q1.out]
            rw [Q2.out]
            exact (Is.op (Is.op (nrm_word hwd) ⟨priceX_lt h0 h1 _ _, rfl⟩ (flR_is _ _ _ _)) ⟨priceX_lt h0 h1 _ _, rfl⟩ (flR_is _ _ _ _))
          · repeat (first | (with_reducible exact hE) | (with_reducible refine Ext.drewN ?_ _))
      · have i2 : ¬ ((0 : Int) < (y : Int)) := by omega
        have N2 := Lib.hid n2
        clear n2
        by_cases n3 : y + 1 < hn
        · have i3 : (y : Int) + 1 < (hn : Int) := by omega
          have N3 := Lib.hid n3
          clear n3
          go_wp2_with fail
          refine calls_at (X := fun w' => Ext U w') (by repeat (first | (with_reducible exact hE) | (with_reducible refine Ext.drewN ?_ _))) ?_
          clear hE b0 b1 b2 b3
          intro wa hE
          have k3 := HV.out wa hE (x : Int) ((y : Int) + 1) ⟨by omega, by omega⟩ ⟨by omega, by omega⟩
          obtain ⟨D3, hD3⟩ : ∃ D, digit (bs2.getD (cellN wn (x : Int) ((y : Int) + 1)) 0) = D := ⟨_, rfl⟩
          rw [hD3] at k3
          have Q3 := Lib.hid hD3
          clear hD3
          have g3 := k3.2
          refine k3.1.mono ?_
          rintro e wb ⟨rfl, hx'⟩
          replace hE := hE.trans hx'
          clear hx' k3
          have ⟨c0, c1⟩ := HPB.out.ext hE
          have ⟨b0, b1, b2, b3⟩ := HB.out.ext hE
          go_wp2_with fail
          refine (l04Price_any gp p0 p1 (d : Int) _ _ (by omega) (by omega) (by omega) (by omega) c0 c1).mono ?_
          rintro e w' ⟨rfl, rfl⟩
          clear c0 c1 g3
          go_wp2
          go_ret
          refine ⟨_, rfl, ?_, ?_⟩
          · unfold ladd
            simp only [if_neg N0.out, if_pos N1.out, if_neg N2.out, if_pos N3.out]
            rw [Q1.out]
            rw [Q3.out]
            exact (Is.op (Is.op (nrm_word hwd) ⟨priceX_lt h0 h1 _ _, rfl⟩ (flR_is _ _ _ _)) ⟨priceX_lt h0 h1 _ _, rfl⟩ (flR_is _ _ _ _))
          · repeat (first | (with_reducible exact hE) | (with_reducible refine Ext.drewN ?_ _))
        · have i3 : ¬ ((y : Int) + 1 < (hn : Int)) := by omega
          have N3 := Lib.hid n3
          clear n3
          go_wp2
          go_ret
          refine ⟨_, rfl, ?_, ?_⟩
          · unfold ladd
            simp only [if_neg N0.out, if_pos N1.out, if_neg N2.out, if_neg N3.out]
            rw [Q1.out]
            exact (Is.op (nrm_word hwd) ⟨priceX_lt h0 h1 _ _, rfl⟩ (flR_is _ _ _ _))
          · repeat (first | (with_reducible exact hE) | (with_reducible refine Ext.drewN ?_ _))
    · have i1 : ¬ ((x : Int) + 1 < (wn : Int)) := by omega
      have N1 := Lib.hid n1
      clear n1
      by_cases n2 : 0 < y
      · have i2 : (0 : Int) < (y : Int) := by omega
        have N2 := Lib.hid n2
        clear n2
        go_wp2_with fail
        refine calls_at (X := fun w' => Ext U w') (by repeat (first | (with_reducible exact hE) | (with_reducible refine Ext.drewN ?_ _))) ?_
        clear hE b0 b1 b2 b3
        intro wa hE
        have k2 := HV.out wa hE (x : Int) ((y : Int) - 1) ⟨by omega, by omega⟩ ⟨by omega, by omega⟩
        obtain ⟨D2, hD2⟩ : ∃ D, digit (bs2.getD (cellN wn (x : Int) ((y : Int) - 1)) 0) = D := ⟨_, rfl⟩
        rw [hD2] at k2
        have Q2 := Lib.hid hD2
        clear hD2
        have g2 := k2.2
        refine k2.1.mono ?_
        rintro e wb ⟨rfl, hx'⟩
        replace hE := hE.trans hx'
        clear hx' k2
        have ⟨c0, c1⟩ := HPB.out.ext hE
        have ⟨b0, b1, b2, b3⟩ := HB.out.ext hE
        go_wp2_with fail
        refine (l04Price_any gp p0 p1 (d : Int) _ _ (by omega) (by omega) (by omega) (by omega) c0 c1).mono ?_
        rintro e w' ⟨rfl, rfl⟩
        clear c0 c1 g2
        by_cases n3 : y + 1 < hn
        · have i3 : (y : Int) + 1 < (hn : Int) := by omega
          have N3 := Lib.hid n3
          clear n3
          go_wp2_with fail
          refine calls_at (X := fun w' => Ext U w') (by repeat (first | (with_reducible exact hE) | (with_reducible refine Ext.drewN ?_ _))) ?_
          clear hE b0 b1 b2 b3
          intro wa hE
          have k3 := HV.out wa hE (x : Int) ((y : Int) + 1) ⟨by omega, by omega⟩ ⟨by omega, by omega⟩
          obtain ⟨D3, hD3⟩ : ∃ D, digit (bs2.getD (cellN wn (x : Int) ((y : Int) + 1)) 0) = D := ⟨_, rfl⟩
          rw [hD3] at k3
          have Q3 := Lib.hid hD3
          clear hD3
          have g3 := k3.2
          refine k3.1.mono ?_
          rintro e wb ⟨rfl, hx'⟩
          replace hE := hE.trans hx'
          clear hx' k3
          have ⟨c0, c1⟩ := HPB.out.ext hE
          have ⟨b0, b1, b2, b3⟩ := HB.out.ext hE
          go_wp2_with fail
          refine (l04Price_any gp p0 p1 (d : Int) _ _ (by omega) (by omega) (by omega) (by omega) c0 c1).mono ?_
          rintro e w' ⟨rfl, rfl⟩
          clear c0 c1 g3
          go_wp2
          go_ret
          refine ⟨_, rfl, ?_, ?_⟩
          · unfold ladd
            simp only [if_neg N0.out, if_neg N1.out, if_pos N2.out, if_pos N3.out]
            rw [Q2.out]
            rw [Q3.out]
            exact (Is.op (Is.op (nrm_word hwd) ⟨priceX_lt h0 h1 _ _, rfl⟩ (flR_is _ _ _ _)) ⟨priceX_lt h0 h1 _ _, rfl⟩ (flR_is _ _ _ _))
          · repeat (first | (with_reducible exact hE) | (with_reducible refine Ext.drewN ?_ _))
        · have i3 : ¬ ((y : Int) + 1 < (hn : Int)) := by omega
          have N3 := Lib.hid n3
          clear n3
          go_wp2
          go_ret
          refine ⟨_, rfl, ?_, ?_⟩
          · unfold ladd
            simp only [if_neg N0.out, if_neg N1.out, if_pos N2.out, if_neg N3.out]
            rw [Q2.out]
            exact (Is.op (nrm_word hwd) ⟨priceX_lt h0 h1 _ _, rfl⟩ (flR_is _ _ _ _))
          · repeat (first | (with_reducible exact hE) | (with_reducible refine Ext.drewN ?_ _))
      · have i2 : ¬ ((0 : Int) < (y : Int)) := by omega
        have N2 := Lib.hid n2
        clear n2
        by_cases n3 : y + 1 < hn
        · have i3 : (y : Int) + 1 < (hn : Int) := by omega
          have N3 := Lib.hid n3
          clear n3
          go_wp2_with fail
          refine calls_at (X := fun w' => Ext U w') (by repeat (first | (with_reducible exact hE) | (with_reducible refine Ext.drewN ?_ _))) ?_
          clear hE b0 b1 b2 b3
          intro wa hE
          have k3 := HV.out wa hE (x : Int) ((y : Int) + 1) ⟨by omega, by omega⟩ ⟨by omega, by omega⟩
          obtain ⟨D3, hD3⟩ : ∃ D, digit (bs2.getD (cellN wn (x : Int) ((y : Int) + 1)) 0) = D := ⟨_, rfl⟩
          rw [hD3] at k3
          have Q3 := Lib.hid hD3
          clear hD3
          have g3 := k3.2
          refine k3.1.mono ?_
          rintro e wb ⟨rfl, hx'⟩
          replace hE := hE.trans hx'
          clear hx' k3
          have ⟨c0, c1⟩ := HPB.out.ext hE
          have ⟨b0, b1, b2, b3⟩ := HB.out.ext hE
          go_wp2_with fail
          refine (l04Price_any gp p0 p1 (d : Int) _ _ (by omega) (by omega) (by omega) (by omega) c0 c1).mono ?_
          rintro e w' ⟨rfl, rfl⟩
          clear c0 c1 g3
          go_wp2
          go_ret
          refine ⟨_, rfl, ?_, ?_⟩
          · unfold ladd
            simp only [if_neg N0.out, if_neg N1.out, if_neg N2.out, if_pos N3.out]
            rw [Q3.out]
            exact (Is.op (nrm_word hwd) ⟨priceX_lt h0 h1 _ _, rfl⟩ (flR_is _ _ _ _))
          · repeat (first | (with_reducible exact hE) | (with_reducible refine Ext.drewN ?_ _))
        · have i3 : ¬ ((y : Int) + 1 < (hn : Int)) := by omega
          have N3 := Lib.hid n3
          clear n3
          go_wp2
          go_ret
          refine ⟨_, rfl, ?_, ?_⟩
          · unfold ladd
            simp only [if_neg N0.out, if_neg N1.out, if_neg N2.out, if_neg N3.out]
            exact (nrm_word hwd)
          · repeat (first | (with_reducible exact hE) | (with_reducible refine Ext.drewN ?_ _))
end Go.Proofs.Ytabdbldidddhgaa
