/- Contracts: what a cell costs, as the program reckons it (UNDER WAY). -/
import Derived.Test.YtabdbldidddhgaaLocalS
import Derived.Test.YtabdbldidddhgaaClos
namespace Go.Proofs.Ytabdbldidddhgaa
open Go.RowKit
set_option linter.unusedVariables false

/-- The sums on the way. -/
noncomputable def locN (wn hn p0 p1 v0 : Nat) (bs2 : List Nat) (x y d : Nat) : Nat → Nat
  | 0 => (nrm v0)
  | 1 => (ladd (0 < x) (nrm (priceX p0 p1 (d : Int) ((digit (bs2.getD (cellN wn ((x : Int) - 1) (y : Int)) 0) : Nat) : Int))) (nrm v0))
  | 2 => (ladd (x + 1 < wn) (nrm (priceX p0 p1 (d : Int) ((digit (bs2.getD (cellN wn ((x : Int) + 1) (y : Int)) 0) : Nat) : Int))) (ladd (0 < x) (nrm (priceX p0 p1 (d : Int) ((digit (bs2.getD (cellN wn ((x : Int) - 1) (y : Int)) 0) : Nat) : Int))) (nrm v0)))
  | 3 => (ladd (0 < y) (nrm (priceX p0 p1 (d : Int) ((digit (bs2.getD (cellN wn (x : Int) ((y : Int) - 1)) 0) : Nat) : Int))) (ladd (x + 1 < wn) (nrm (priceX p0 p1 (d : Int) ((digit (bs2.getD (cellN wn ((x : Int) + 1) (y : Int)) 0) : Nat) : Int))) (ladd (0 < x) (nrm (priceX p0 p1 (d : Int) ((digit (bs2.getD (cellN wn ((x : Int) - 1) (y : Int)) 0) : Nat) : Int))) (nrm v0))))
  | _ => (ladd (y + 1 < hn) (nrm (priceX p0 p1 (d : Int) ((digit (bs2.getD (cellN wn (x : Int) ((y : Int) + 1)) 0) : Nat) : Int))) (ladd (0 < y) (nrm (priceX p0 p1 (d : Int) ((digit (bs2.getD (cellN wn (x : Int) ((y : Int) - 1)) 0) : Nat) : Int))) (ladd (x + 1 < wn) (nrm (priceX p0 p1 (d : Int) ((digit (bs2.getD (cellN wn ((x : Int) + 1) (y : Int)) 0) : Nat) : Int))) (ladd (0 < x) (nrm (priceX p0 p1 (d : Int) ((digit (bs2.getD (cellN wn ((x : Int) - 1) (y : Int)) 0) : Nat) : Int))) (nrm v0)))))
@[go_sem] theorem index4_0 (a0 a1 a2 a3 a4 a5 a6 a7 : Int) (w : World) : (Instr.index 147 (.agg #[.int .i64 a0, .int .i64 a1, .int .i64 a2, .int .i64 a3, .int .i64 a4, .int .i64 a5, .int .i64 a6, .int .i64 a7]) (.int .i64 0)).run Try.prog w = .ok (.agg #[.int .i64 a0, .int .i64 a1]) w := by kernel_rfl
@[go_sem] theorem index4_1 (a0 a1 a2 a3 a4 a5 a6 a7 : Int) (w : World) : (Instr.index 147 (.agg #[.int .i64 a0, .int .i64 a1, .int .i64 a2, .int .i64 a3, .int .i64 a4, .int .i64 a5, .int .i64 a6, .int .i64 a7]) (.int .i64 1)).run Try.prog w = .ok (.agg #[.int .i64 a2, .int .i64 a3]) w := by kernel_rfl
@[go_sem] theorem index4_2 (a0 a1 a2 a3 a4 a5 a6 a7 : Int) (w : World) : (Instr.index 147 (.agg #[.int .i64 a0, .int .i64 a1, .int .i64 a2, .int .i64 a3, .int .i64 a4, .int .i64 a5, .int .i64 a6, .int .i64 a7]) (.int .i64 2)).run Try.prog w = .ok (.agg #[.int .i64 a4, .int .i64 a5]) w := by kernel_rfl
@[go_sem] theorem index4_3 (a0 a1 a2 a3 a4 a5 a6 a7 : Int) (w : World) : (Instr.index 147 (.agg #[.int .i64 a0, .int .i64 a1, .int .i64 a2, .int .i64 a3, .int .i64 a4, .int .i64 a5, .int .i64 a6, .int .i64 a7]) (.int .i64 3)).run Try.prog w = .ok (.agg #[.int .i64 a6, .int .i64 a7]) w := by kernel_rfl
set_option maxHeartbeats 8000000 in
set_option maxRecDepth 8000 in
theorem local_any (g gm wn hn dn gb off n c gb2 off2 n2 c2 : Nat) (bs bs2 : List Nat) (p0 p1 : Nat) (h0 : p0 < 4294967296) (h1 : p1 < 4294967296) (x y d : Nat) (U : World) (hB : Box4 U g (.int .i64 wn) (.int .i64 hn) (.int .i64 dn) (.slice (some ⟨gb, off, none⟩) n c)) (hM : Box3 U gm (.int .i64 wn) (.int .i64 hn) (.slice (some ⟨gb2, off2, none⟩) n2 c2)) (hl : Lies U gb off bs) (hlen : bs.length = n) (hw : Words bs) (hnc : n ≤ c) (hcm : c ≤ maxLen) (hl2 : Lies U gb2 off2 bs2) (hlen2 : bs2.length = n2) (hw2 : Words bs2) (hn2m : n2 ≤ maxLen) (hv : VVol wn hn dn n) (hm : VMap wn hn n2) (hall : bs2.all (whole dn) = true) (hx : x < wn) (hy : y < hn) (hd : d < dn) :
    Calls Try.prog 107 #[.pointer (some ⟨g, 0, none⟩), .agg #[.float .f32 p0, .float .f32 p1], .pointer (some ⟨gm, 0, none⟩), .int .i64 x, .int .i64 y, .int .i64 d] U fun e U' => ∃ r, e = .returned (.float .f32 r) ∧ Is r (locS wn hn dn p0 p1 bs bs2 x y d) ∧ Ext U U' := by
  have hd8 : dn ≤ 8 := by have := hv.2.2.1; omega
  have hd0 : 0 < dn := by have := hv.2.1; omega
  have hw24 : wn ≤ 24 := by have := hv.1.2.1; omega
  have hh24 : hn ≤ 24 := by have := hv.1.2.2.2.1; omega
  have hgl := hB.lt
  have hgml : gm < U.heap.size := lt_of_cell hM.1
  have HC := Lib.hid (fun (W : World) (hE : Ext U W) => cellC_any g wn hn dn gb off n c (x : Int) (y : Int) W (hB.ext hE) hnc hcm hv ⟨by omega, by omega⟩ ⟨by omega, by omega⟩)
  have hck := cell_k hv (x := (x : Int)) (y := (y : Int)) ⟨by omega, by omega⟩ ⟨by omega, by omega⟩
  have hcv := hl (cellN wn (x : Int) (y : Int) * dn + d) (by omega)
  rw [← Nat.add_assoc] at hcv
  have HV := Lib.hid (fun (W : World) (hE : Ext U W) (u w : Int) (hu : 0 ≤ u ∧ u ≤ (wn : Int) - 1) (hw' : 0 ≤ w ∧ w ≤ (hn : Int) - 1) => (⟨whole_any gm wn hn dn gb2 off2 n2 c2 bs2 u w W (hM.ext hE) (hl2.ext hE) hlen2 hn2m hw2 hm hd0 hd8 hall hu hw', (digit_lt (wd_at2 hw2 (cellN wn u w)) hd0 hd8 (all_at hall (by rw [hlen2]; exact (cellN_eq hm hu.1 hu.2 hw'.1 hw'.2).2.1))).1⟩ : _ ∧ digit (bs2.getD (cellN wn u w) 0) < dn))
  have hwd := wd_at2 hw (cellN wn (x : Int) (y : Int) * dn + d)
  unfold locS
  generalize bs.getD (cellN wn (x : Int) (y : Int) * dn + d) 0 = v0 at hcv hwd ⊢
  generalize cellN wn (x : Int) (y : Int) * dn = kc at HC hcv
  have a0 : IntKind.i64.wrap ((x : Int) - 1) = (x : Int) - 1 := wrap_small _ (by omega) (by omega)
  have a1 : IntKind.i64.wrap ((x : Int) + 1) = (x : Int) + 1 := wrap_small _ (by omega) (by omega)
  have a2 : IntKind.i64.wrap ((y : Int) - 1) = (y : Int) - 1 := wrap_small _ (by omega) (by omega)
  have a3 : IntKind.i64.wrap ((y : Int) + 1) = (y : Int) + 1 := wrap_small _ (by omega) (by omega)
  have dk0 : (0 : Int) ≤ (d : Int) := by omega
  have dk1 : (d : Int) < (dn : Int) := by omega
  have HSZ := Lib.hid hm.1
  have HM := Lib.hid hM
  show Calls _ _ _ U fun e U' => ∃ r, e = .returned (.float .f32 r) ∧ Is r (locN wn hn p0 p1 v0 bs2 x y d 4) ∧ Ext U U'
  clear hB hM hl hlen hw hnc hcm hl2 hlen2 hw2 hn2m hv hm hall hck
  go_enter Try.func107, Try.ntmps107
  go_wp2_with fail
  refine calls_at (X := fun w' => Ext U w' ∧ Box2 w' U.heap.size (fl p0) (fl p1)) ⟨(Ext.refl _).alloc _, ⟨by simp [go_sem], by simp [go_sem]⟩⟩ ?_
  rintro w0 ⟨hx0, hq0⟩
  refine (HC.out w0 hx0).mono ?_
  rintro e w1 ⟨rfl, hx1⟩
  have hE1 := hx0.trans hx1
  have hq1 := hq0.ext hx1
  have hcv1 := cell_ext hcv hE1
  clear hx0 hx1 hq0 hcv
  go_wp2_with fail
  go_loopw [13, 40] (fun sv iv wr => ∃ (i s : Nat), i ≤ 4 ∧ iv = .int .i64 i ∧ sv = .float .f32 s ∧ Is s (locN wn hn p0 p1 v0 bs2 x y d i) ∧ Ext w1 wr) (fun _ iv _ => 4 - (intOf iv).toNat)
  case atStart => exact ⟨0, v0, by omega, rfl, rfl, nrm_word hwd, Ext.refl _⟩
  case round =>
    clear hcv1
    obtain ⟨i, s, hi, rfl, rfl, hs, hE⟩ := hrel
    by_cases hlt : i < 4
    · have hlt' : (i : Int) < 4 := by omega
      have hEU := hE1.trans hE
      have ⟨q0, q1⟩ := hq1.ext hE
      have ⟨m0, m1, m2⟩ := HM.out.ext hEU
      have hcase : i = 0 ∨ i = 1 ∨ i = 2 ∨ i = 3 := by omega
      clear hi hlt
      rcases hcase with rfl | rfl | rfl | rfl
      · by_cases n : 0 < x
        · have N := Lib.hid n
          obtain ⟨D, hD⟩ : ∃ D, digit (bs2.getD (cellN wn ((x : Int) - 1) (y : Int)) 0) = D := ⟨_, rfl⟩
          have KV := Lib.hid (fun (W : World) (hE : Ext U W) => (by have := (HV.out W hE ((x : Int) - 1) (y : Int) ⟨by have := N.out; omega, by have := N.out; omega⟩ ⟨by have := N.out; omega, by have := N.out; omega⟩).1; rw [hD] at this; exact this : Calls Try.prog 109 #[.pointer (some ⟨gm, 0, none⟩), .int .i64 ((x : Int) - 1), .int .i64 (y : Int)] W fun e U' => e = .returned (.int .i64 (D : Int)) ∧ Ext W U'))
          have hDl : D < dn := by have := (HV.out U (Ext.refl _) ((x : Int) - 1) (y : Int) ⟨by have := N.out; omega, by have := N.out; omega⟩ ⟨by have := N.out; omega, by have := N.out; omega⟩).2; rw [hD] at this; exact this
          have Q := Lib.hid hD
          clear hD
          clear n
          go_wp2_with fail
          refine calls_at (X := fun w' => Ext w1 w' ∧ Box2 w' wr.heap.size (.int .i64 ((x : Int) - 1)) (.int .i64 (y : Int))) ⟨by repeat (first | (with_reducible exact hE) | (with_reducible refine Ext.setCell ?_ (by dsimp only; omega) _) | (with_reducible refine Ext.alloc ?_ _)), ⟨by simp [go_sem], by simp [go_sem]⟩⟩ ?_
          rintro wa ⟨hEa, r0, r1⟩
          have hEUa := hE1.trans hEa
          have ⟨q0', q1'⟩ := hq1.ext hEa
          have ⟨m0', m1', m2'⟩ := HM.out.ext hEUa
          clear q0 q1 m0 m1 m2 hE hEU
          refine (mapHas_yes gm (wn : Int) (hn : Int) ((x : Int) - 1) (y : Int) _ m0' m1' HSZ.out ⟨by have := N.out; omega, by have := N.out; omega⟩ ⟨by have := N.out; omega, by have := N.out; omega⟩).mono ?_
          rintro e w' ⟨rfl, rfl⟩
          go_wp2_with fail
          refine region_wx 11 [] (by kernel_rfl) (by kernel_rfl) ?_
          simp only [List.take_succ_cons, List.take_zero, List.drop_succ_cons, List.drop_zero]
          repeat ((first | refine wx_skip rfl ?_ | refine wx_nilCheck rfl rfl _ rfl _ rfl ?_ | (refine wx_float rfl rfl _ _ _ _ _ _ _ rfl rfl rfl rfl ?_; intro r hr) | (refine wx_k rfl rfl rfl (fun K hK => ?_); go_big_quiet_op; refine hK _ ?_; clear hK K) | (refine wx_call rfl rfl 109 _ _ rfl (by kernel_rfl) (by kernel_rfl) (.int .i64 D) (fun W hW hF => ?_) ?_; go_simp; (with_reducible refine (KV.out W (hEUa.trans hW)).mono ?_); rintro e w' h; exact h) | (refine wx_call rfl rfl 111 _ _ rfl (by kernel_rfl) (by kernel_rfl) (.float .f32 (priceX p0 p1 d D)) (fun W hW hF => ?_) ?_; go_simp; (with_reducible refine (price_any p0 p1 (d : Int) (D : Int) W (by omega) (by omega) (by omega) (by omega)).mono ?_); rintro e w' h; exact h)); (try simp only [Act.put, List.setIfInBounds_toArray, List.set_cons_zero, List.set_cons_succ]); (try simp only [List.tail_nil]))
          refine wx_nil (fun W hW hF => ?_)
          have hs2 : Is r (locN wn hn p0 p1 v0 bs2 x y d 1) := by
            show Is r (ladd (0 < x) (nrm (priceX p0 p1 (d : Int) ((digit (bs2.getD (cellN wn ((x : Int) - 1) (y : Int)) 0) : Nat) : Int))) (nrm v0))
            unfold ladd
            rw [if_pos N.out, Q.out]
            exact Is.op hs ⟨priceX_lt h0 h1 _ _, rfl⟩ hr
          have hEn := hEa.trans hW
          clear hs hF hW hEUa q0' q1' m0' m1' m2' r0 r1
          go_wp2
          go_roundw
          case rel => exact ⟨1, r, by omega, by go_num, rfl, hs2, hEn⟩
          case measure => simp [intOf]
        · have N := Lib.hid n
          clear n
          go_wp2_with fail
          refine calls_at (X := fun w' => Ext w1 w' ∧ Box2 w' wr.heap.size (.int .i64 ((x : Int) - 1)) (.int .i64 (y : Int))) ⟨by repeat (first | (with_reducible exact hE) | (with_reducible refine Ext.setCell ?_ (by dsimp only; omega) _) | (with_reducible refine Ext.alloc ?_ _)), ⟨by simp [go_sem], by simp [go_sem]⟩⟩ ?_
          rintro wa ⟨hEa, r0, r1⟩
          have hEUa := hE1.trans hEa
          have ⟨q0', q1'⟩ := hq1.ext hEa
          have ⟨m0', m1', m2'⟩ := HM.out.ext hEUa
          clear q0 q1 m0 m1 m2 hE hEU
          refine (mapHas_no gm (wn : Int) (hn : Int) ((x : Int) - 1) (y : Int) _ m0' m1' HSZ.out (fun h => by have := N.out; omega)).mono ?_
          rintro e w' ⟨rfl, rfl⟩
          have hs2 : Is s (locN wn hn p0 p1 v0 bs2 x y d 1) := by
            show Is s (ladd (0 < x) (nrm (priceX p0 p1 (d : Int) ((digit (bs2.getD (cellN wn ((x : Int) - 1) (y : Int)) 0) : Nat) : Int))) (nrm v0))
            unfold ladd
            rw [if_neg N.out]
            exact hs
          clear hs q0' q1' m0' m1' m2' r0 r1
          go_wp2
          go_roundw
          case rel => exact ⟨1, s, by omega, by go_num, rfl, hs2, hEa⟩
          case measure => simp [intOf]
      · by_cases n : x + 1 < wn
        · have N := Lib.hid n
          obtain ⟨D, hD⟩ : ∃ D, digit (bs2.getD (cellN wn ((x : Int) + 1) (y : Int)) 0) = D := ⟨_, rfl⟩
          have KV := Lib.hid (fun (W : World) (hE : Ext U W) => (by have := (HV.out W hE ((x : Int) + 1) (y : Int) ⟨by have := N.out; omega, by have := N.out; omega⟩ ⟨by have := N.out; omega, by have := N.out; omega⟩).1; rw [hD] at this; exact this : Calls Try.prog 109 #[.pointer (some ⟨gm, 0, none⟩), .int .i64 ((x : Int) + 1), .int .i64 (y : Int)] W fun e U' => e = .returned (.int .i64 (D : Int)) ∧ Ext W U'))
          have hDl : D < dn := by have := (HV.out U (Ext.refl _) ((x : Int) + 1) (y : Int) ⟨by have := N.out; omega, by have := N.out; omega⟩ ⟨by have := N.out; omega, by have := N.out; omega⟩).2; rw [hD] at this; exact this
          have Q := Lib.hid hD
          clear hD
          clear n
          go_wp2_with fail
          refine calls_at (X := fun w' => Ext w1 w' ∧ Box2 w' wr.heap.size (.int .i64 ((x : Int) + 1)) (.int .i64 (y : Int))) ⟨by repeat (first | (with_reducible exact hE) | (with_reducible refine Ext.setCell ?_ (by dsimp only; omega) _) | (with_reducible refine Ext.alloc ?_ _)), ⟨by simp [go_sem], by simp [go_sem]⟩⟩ ?_
          rintro wa ⟨hEa, r0, r1⟩
          have hEUa := hE1.trans hEa
          have ⟨q0', q1'⟩ := hq1.ext hEa
          have ⟨m0', m1', m2'⟩ := HM.out.ext hEUa
          clear q0 q1 m0 m1 m2 hE hEU
          refine (mapHas_yes gm (wn : Int) (hn : Int) ((x : Int) + 1) (y : Int) _ m0' m1' HSZ.out ⟨by have := N.out; omega, by have := N.out; omega⟩ ⟨by have := N.out; omega, by have := N.out; omega⟩).mono ?_
          rintro e w' ⟨rfl, rfl⟩
          go_wp2_with fail
          refine region_wx 11 [] (by kernel_rfl) (by kernel_rfl) ?_
          simp only [List.take_succ_cons, List.take_zero, List.drop_succ_cons, List.drop_zero]
          repeat ((first | refine wx_skip rfl ?_ | refine wx_nilCheck rfl rfl _ rfl _ rfl ?_ | (refine wx_float rfl rfl _ _ _ _ _ _ _ rfl rfl rfl rfl ?_; intro r hr) | (refine wx_k rfl rfl rfl (fun K hK => ?_); go_big_quiet_op; refine hK _ ?_; clear hK K) | (refine wx_call rfl rfl 109 _ _ rfl (by kernel_rfl) (by kernel_rfl) (.int .i64 D) (fun W hW hF => ?_) ?_; go_simp; (with_reducible refine (KV.out W (hEUa.trans hW)).mono ?_); rintro e w' h; exact h) | (refine wx_call rfl rfl 111 _ _ rfl (by kernel_rfl) (by kernel_rfl) (.float .f32 (priceX p0 p1 d D)) (fun W hW hF => ?_) ?_; go_simp; (with_reducible refine (price_any p0 p1 (d : Int) (D : Int) W (by omega) (by omega) (by omega) (by omega)).mono ?_); rintro e w' h; exact h)); (try simp only [Act.put, List.setIfInBounds_toArray, List.set_cons_zero, List.set_cons_succ]); (try simp only [List.tail_nil]))
          refine wx_nil (fun W hW hF => ?_)
          have hs2 : Is r (locN wn hn p0 p1 v0 bs2 x y d 2) := by
            show Is r (ladd (x + 1 < wn) (nrm (priceX p0 p1 (d : Int) ((digit (bs2.getD (cellN wn ((x : Int) + 1) (y : Int)) 0) : Nat) : Int))) (ladd (0 < x) (nrm (priceX p0 p1 (d : Int) ((digit (bs2.getD (cellN wn ((x : Int) - 1) (y : Int)) 0) : Nat) : Int))) (nrm v0)))
            unfold ladd
            rw [if_pos N.out, Q.out]
            exact Is.op hs ⟨priceX_lt h0 h1 _ _, rfl⟩ hr
          have hEn := hEa.trans hW
          clear hs hF hW hEUa q0' q1' m0' m1' m2' r0 r1
          go_wp2
          go_roundw
          case rel => exact ⟨2, r, by omega, by go_num, rfl, hs2, hEn⟩
          case measure => simp [intOf]
        · have N := Lib.hid n
          clear n
          go_wp2_with fail
          refine calls_at (X := fun w' => Ext w1 w' ∧ Box2 w' wr.heap.size (.int .i64 ((x : Int) + 1)) (.int .i64 (y : Int))) ⟨by repeat (first | (with_reducible exact hE) | (with_reducible refine Ext.setCell ?_ (by dsimp only; omega) _) | (with_reducible refine Ext.alloc ?_ _)), ⟨by simp [go_sem], by simp [go_sem]⟩⟩ ?_
          rintro wa ⟨hEa, r0, r1⟩
          have hEUa := hE1.trans hEa
          have ⟨q0', q1'⟩ := hq1.ext hEa
          have ⟨m0', m1', m2'⟩ := HM.out.ext hEUa
          clear q0 q1 m0 m1 m2 hE hEU
          refine (mapHas_no gm (wn : Int) (hn : Int) ((x : Int) + 1) (y : Int) _ m0' m1' HSZ.out (fun h => by have := N.out; omega)).mono ?_
          rintro e w' ⟨rfl, rfl⟩
          have hs2 : Is s (locN wn hn p0 p1 v0 bs2 x y d 2) := by
            show Is s (ladd (x + 1 < wn) (nrm (priceX p0 p1 (d : Int) ((digit (bs2.getD (cellN wn ((x : Int) + 1) (y : Int)) 0) : Nat) : Int))) (ladd (0 < x) (nrm (priceX p0 p1 (d : Int) ((digit (bs2.getD (cellN wn ((x : Int) - 1) (y : Int)) 0) : Nat) : Int))) (nrm v0)))
            unfold ladd
            rw [if_neg N.out]
            exact hs
          clear hs q0' q1' m0' m1' m2' r0 r1
          go_wp2
          go_roundw
          case rel => exact ⟨2, s, by omega, by go_num, rfl, hs2, hEa⟩
          case measure => simp [intOf]
      · by_cases n : 0 < y
        · have N := Lib.hid n
          obtain ⟨D, hD⟩ : ∃ D, digit (bs2.getD (cellN wn (x : Int) ((y : Int) - 1)) 0) = D := ⟨_, rfl⟩
          have KV := Lib.hid (fun (W : World) (hE : Ext U W) => (by have := (HV.out W hE (x : Int) ((y : Int) - 1) ⟨by have := N.out; omega, by have := N.out; omega⟩ ⟨by have := N.out; omega, by have := N.out; omega⟩).1; rw [hD] at this; exact this : Calls Try.prog 109 #[.pointer (some ⟨gm, 0, none⟩), .int .i64 (x : Int), .int .i64 ((y : Int) - 1)] W fun e U' => e = .returned (.int .i64 (D : Int)) ∧ Ext W U'))
          have hDl : D < dn := by have := (HV.out U (Ext.refl _) (x : Int) ((y : Int) - 1) ⟨by have := N.out; omega, by have := N.out; omega⟩ ⟨by have := N.out; omega, by have := N.out; omega⟩).2; rw [hD] at this; exact this
          have Q := Lib.hid hD
          clear hD
          clear n
          go_wp2_with fail
          refine calls_at (X := fun w' => Ext w1 w' ∧ Box2 w' wr.heap.size (.int .i64 (x : Int)) (.int .i64 ((y : Int) - 1))) ⟨by repeat (first | (with_reducible exact hE) | (with_reducible refine Ext.setCell ?_ (by dsimp only; omega) _) | (with_reducible refine Ext.alloc ?_ _)), ⟨by simp [go_sem], by simp [go_sem]⟩⟩ ?_
          rintro wa ⟨hEa, r0, r1⟩
          have hEUa := hE1.trans hEa
          have ⟨q0', q1'⟩ := hq1.ext hEa
          have ⟨m0', m1', m2'⟩ := HM.out.ext hEUa
          clear q0 q1 m0 m1 m2 hE hEU
          refine (mapHas_yes gm (wn : Int) (hn : Int) (x : Int) ((y : Int) - 1) _ m0' m1' HSZ.out ⟨by have := N.out; omega, by have := N.out; omega⟩ ⟨by have := N.out; omega, by have := N.out; omega⟩).mono ?_
          rintro e w' ⟨rfl, rfl⟩
          go_wp2_with fail
          refine region_wx 11 [] (by kernel_rfl) (by kernel_rfl) ?_
          simp only [List.take_succ_cons, List.take_zero, List.drop_succ_cons, List.drop_zero]
          repeat ((first | refine wx_skip rfl ?_ | refine wx_nilCheck rfl rfl _ rfl _ rfl ?_ | (refine wx_float rfl rfl _ _ _ _ _ _ _ rfl rfl rfl rfl ?_; intro r hr) | (refine wx_k rfl rfl rfl (fun K hK => ?_); go_big_quiet_op; refine hK _ ?_; clear hK K) | (refine wx_call rfl rfl 109 _ _ rfl (by kernel_rfl) (by kernel_rfl) (.int .i64 D) (fun W hW hF => ?_) ?_; go_simp; (with_reducible refine (KV.out W (hEUa.trans hW)).mono ?_); rintro e w' h; exact h) | (refine wx_call rfl rfl 111 _ _ rfl (by kernel_rfl) (by kernel_rfl) (.float .f32 (priceX p0 p1 d D)) (fun W hW hF => ?_) ?_; go_simp; (with_reducible refine (price_any p0 p1 (d : Int) (D : Int) W (by omega) (by omega) (by omega) (by omega)).mono ?_); rintro e w' h; exact h)); (try simp only [Act.put, List.setIfInBounds_toArray, List.set_cons_zero, List.set_cons_succ]); (try simp only [List.tail_nil]))
          refine wx_nil (fun W hW hF => ?_)
          have hs2 : Is r (locN wn hn p0 p1 v0 bs2 x y d 3) := by
            show Is r (ladd (0 < y) (nrm (priceX p0 p1 (d : Int) ((digit (bs2.getD (cellN wn (x : Int) ((y : Int) - 1)) 0) : Nat) : Int))) (ladd (x + 1 < wn) (nrm (priceX p0 p1 (d : Int) ((digit (bs2.getD (cellN wn ((x : Int) + 1) (y : Int)) 0) : Nat) : Int))) (ladd (0 < x) (nrm (priceX p0 p1 (d : Int) ((digit (bs2.getD (cellN wn ((x : Int) - 1) (y : Int)) 0) : Nat) : Int))) (nrm v0))))
            unfold ladd
            rw [if_pos N.out, Q.out]
            exact Is.op hs ⟨priceX_lt h0 h1 _ _, rfl⟩ hr
          have hEn := hEa.trans hW
          clear hs hF hW hEUa q0' q1' m0' m1' m2' r0 r1
          go_wp2
          go_roundw
          case rel => exact ⟨3, r, by omega, by go_num, rfl, hs2, hEn⟩
          case measure => simp [intOf]
        · have N := Lib.hid n
          clear n
          go_wp2_with fail
          refine calls_at (X := fun w' => Ext w1 w' ∧ Box2 w' wr.heap.size (.int .i64 (x : Int)) (.int .i64 ((y : Int) - 1))) ⟨by repeat (first | (with_reducible exact hE) | (with_reducible refine Ext.setCell ?_ (by dsimp only; omega) _) | (with_reducible refine Ext.alloc ?_ _)), ⟨by simp [go_sem], by simp [go_sem]⟩⟩ ?_
          rintro wa ⟨hEa, r0, r1⟩
          have hEUa := hE1.trans hEa
          have ⟨q0', q1'⟩ := hq1.ext hEa
          have ⟨m0', m1', m2'⟩ := HM.out.ext hEUa
          clear q0 q1 m0 m1 m2 hE hEU
          refine (mapHas_no gm (wn : Int) (hn : Int) (x : Int) ((y : Int) - 1) _ m0' m1' HSZ.out (fun h => by have := N.out; omega)).mono ?_
          rintro e w' ⟨rfl, rfl⟩
          have hs2 : Is s (locN wn hn p0 p1 v0 bs2 x y d 3) := by
            show Is s (ladd (0 < y) (nrm (priceX p0 p1 (d : Int) ((digit (bs2.getD (cellN wn (x : Int) ((y : Int) - 1)) 0) : Nat) : Int))) (ladd (x + 1 < wn) (nrm (priceX p0 p1 (d : Int) ((digit (bs2.getD (cellN wn ((x : Int) + 1) (y : Int)) 0) : Nat) : Int))) (ladd (0 < x) (nrm (priceX p0 p1 (d : Int) ((digit (bs2.getD (cellN wn ((x : Int) - 1) (y : Int)) 0) : Nat) : Int))) (nrm v0))))
            unfold ladd
            rw [if_neg N.out]
            exact hs
          clear hs q0' q1' m0' m1' m2' r0 r1
          go_wp2
          go_roundw
          case rel => exact ⟨3, s, by omega, by go_num, rfl, hs2, hEa⟩
          case measure => simp [intOf]
      · by_cases n : y + 1 < hn
        · have N := Lib.hid n
          obtain ⟨D, hD⟩ : ∃ D, digit (bs2.getD (cellN wn (x : Int) ((y : Int) + 1)) 0) = D := ⟨_, rfl⟩
          have KV := Lib.hid (fun (W : World) (hE : Ext U W) => (by have := (HV.out W hE (x : Int) ((y : Int) + 1) ⟨by have := N.out; omega, by have := N.out; omega⟩ ⟨by have := N.out; omega, by have := N.out; omega⟩).1; rw [hD] at this; exact this : Calls Try.prog 109 #[.pointer (some ⟨gm, 0, none⟩), .int .i64 (x : Int), .int .i64 ((y : Int) + 1)] W fun e U' => e = .returned (.int .i64 (D : Int)) ∧ Ext W U'))
          have hDl : D < dn := by have := (HV.out U (Ext.refl _) (x : Int) ((y : Int) + 1) ⟨by have := N.out; omega, by have := N.out; omega⟩ ⟨by have := N.out; omega, by have := N.out; omega⟩).2; rw [hD] at this; exact this
          have Q := Lib.hid hD
          clear hD
          clear n
          go_wp2_with fail
          refine calls_at (X := fun w' => Ext w1 w' ∧ Box2 w' wr.heap.size (.int .i64 (x : Int)) (.int .i64 ((y : Int) + 1))) ⟨by repeat (first | (with_reducible exact hE) | (with_reducible refine Ext.setCell ?_ (by dsimp only; omega) _) | (with_reducible refine Ext.alloc ?_ _)), ⟨by simp [go_sem], by simp [go_sem]⟩⟩ ?_
          rintro wa ⟨hEa, r0, r1⟩
          have hEUa := hE1.trans hEa
          have ⟨q0', q1'⟩ := hq1.ext hEa
          have ⟨m0', m1', m2'⟩ := HM.out.ext hEUa
          clear q0 q1 m0 m1 m2 hE hEU
          refine (mapHas_yes gm (wn : Int) (hn : Int) (x : Int) ((y : Int) + 1) _ m0' m1' HSZ.out ⟨by have := N.out; omega, by have := N.out; omega⟩ ⟨by have := N.out; omega, by have := N.out; omega⟩).mono ?_
          rintro e w' ⟨rfl, rfl⟩
          go_wp2_with fail
          refine region_wx 11 [] (by kernel_rfl) (by kernel_rfl) ?_
          simp only [List.take_succ_cons, List.take_zero, List.drop_succ_cons, List.drop_zero]
          repeat ((first | refine wx_skip rfl ?_ | refine wx_nilCheck rfl rfl _ rfl _ rfl ?_ | (refine wx_float rfl rfl _ _ _ _ _ _ _ rfl rfl rfl rfl ?_; intro r hr) | (refine wx_k rfl rfl rfl (fun K hK => ?_); go_big_quiet_op; refine hK _ ?_; clear hK K) | (refine wx_call rfl rfl 109 _ _ rfl (by kernel_rfl) (by kernel_rfl) (.int .i64 D) (fun W hW hF => ?_) ?_; go_simp; (with_reducible refine (KV.out W (hEUa.trans hW)).mono ?_); rintro e w' h; exact h) | (refine wx_call rfl rfl 111 _ _ rfl (by kernel_rfl) (by kernel_rfl) (.float .f32 (priceX p0 p1 d D)) (fun W hW hF => ?_) ?_; go_simp; (with_reducible refine (price_any p0 p1 (d : Int) (D : Int) W (by omega) (by omega) (by omega) (by omega)).mono ?_); rintro e w' h; exact h)); (try simp only [Act.put, List.setIfInBounds_toArray, List.set_cons_zero, List.set_cons_succ]); (try simp only [List.tail_nil]))
          refine wx_nil (fun W hW hF => ?_)
          have hs2 : Is r (locN wn hn p0 p1 v0 bs2 x y d 4) := by
            show Is r (ladd (y + 1 < hn) (nrm (priceX p0 p1 (d : Int) ((digit (bs2.getD (cellN wn (x : Int) ((y : Int) + 1)) 0) : Nat) : Int))) (ladd (0 < y) (nrm (priceX p0 p1 (d : Int) ((digit (bs2.getD (cellN wn (x : Int) ((y : Int) - 1)) 0) : Nat) : Int))) (ladd (x + 1 < wn) (nrm (priceX p0 p1 (d : Int) ((digit (bs2.getD (cellN wn ((x : Int) + 1) (y : Int)) 0) : Nat) : Int))) (ladd (0 < x) (nrm (priceX p0 p1 (d : Int) ((digit (bs2.getD (cellN wn ((x : Int) - 1) (y : Int)) 0) : Nat) : Int))) (nrm v0)))))
            unfold ladd
            rw [if_pos N.out, Q.out]
            exact Is.op hs ⟨priceX_lt h0 h1 _ _, rfl⟩ hr
          have hEn := hEa.trans hW
          clear hs hF hW hEUa q0' q1' m0' m1' m2' r0 r1
          go_wp2
          go_roundw
          case rel => exact ⟨4, r, by omega, by go_num, rfl, hs2, hEn⟩
          case measure => simp [intOf]
        · have N := Lib.hid n
          clear n
          go_wp2_with fail
          refine calls_at (X := fun w' => Ext w1 w' ∧ Box2 w' wr.heap.size (.int .i64 (x : Int)) (.int .i64 ((y : Int) + 1))) ⟨by repeat (first | (with_reducible exact hE) | (with_reducible refine Ext.setCell ?_ (by dsimp only; omega) _) | (with_reducible refine Ext.alloc ?_ _)), ⟨by simp [go_sem], by simp [go_sem]⟩⟩ ?_
          rintro wa ⟨hEa, r0, r1⟩
          have hEUa := hE1.trans hEa
          have ⟨q0', q1'⟩ := hq1.ext hEa
          have ⟨m0', m1', m2'⟩ := HM.out.ext hEUa
          clear q0 q1 m0 m1 m2 hE hEU
          refine (mapHas_no gm (wn : Int) (hn : Int) (x : Int) ((y : Int) + 1) _ m0' m1' HSZ.out (fun h => by have := N.out; omega)).mono ?_
          rintro e w' ⟨rfl, rfl⟩
          have hs2 : Is s (locN wn hn p0 p1 v0 bs2 x y d 4) := by
            show Is s (ladd (y + 1 < hn) (nrm (priceX p0 p1 (d : Int) ((digit (bs2.getD (cellN wn (x : Int) ((y : Int) + 1)) 0) : Nat) : Int))) (ladd (0 < y) (nrm (priceX p0 p1 (d : Int) ((digit (bs2.getD (cellN wn (x : Int) ((y : Int) - 1)) 0) : Nat) : Int))) (ladd (x + 1 < wn) (nrm (priceX p0 p1 (d : Int) ((digit (bs2.getD (cellN wn ((x : Int) + 1) (y : Int)) 0) : Nat) : Int))) (ladd (0 < x) (nrm (priceX p0 p1 (d : Int) ((digit (bs2.getD (cellN wn ((x : Int) - 1) (y : Int)) 0) : Nat) : Int))) (nrm v0)))))
            unfold ladd
            rw [if_neg N.out]
            exact hs
          clear hs q0' q1' m0' m1' m2' r0 r1
          go_wp2
          go_roundw
          case rel => exact ⟨4, s, by omega, by go_num, rfl, hs2, hEa⟩
          case measure => simp [intOf]
    · have e1 : i = 4 := by omega
      rw [e1] at hs
      go_wp2
      go_ret
      exact ⟨s, rfl, hs, hE1.trans hE⟩
end Go.Proofs.Ytabdbldidddhgaa
