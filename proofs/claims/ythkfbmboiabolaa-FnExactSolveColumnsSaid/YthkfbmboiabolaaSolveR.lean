/- Contracts: the reference's row that costs least. -/
import Derived.Test.YthkfbmboiabolaaSolveS
namespace Go.Proofs.Ythkfbmboiabolaa
open Go.RowKit
set_option linter.unusedVariables false

set_option maxHeartbeats 16000000 in
set_option maxRecDepth 8000 in
theorem l04Row_yes (g gp wn hn dn gb off n c y p0 p1 : Nat) (bs : List Nat) (U : World) (hB : Box4 U g (.int .i64 wn) (.int .i64 hn) (.int .i64 dn) (.slice (some ⟨gb, off, none⟩) n c)) (hQ : Box2 U gp (fl p0) (fl p1)) (hl : Lies U gb off bs) (hlen : bs.length = n) (hwd : WordsN bs) (hnc : n ≤ c) (hcm : c ≤ maxLen) (hv : VVol wn hn dn n) (hy : y < hn) (hok : SolOk (rowC wn dn bs y) wn dn) :
    Calls Try.prog 54 #[.pointer (some ⟨g, 0, none⟩), .pointer (some ⟨gp, 0, none⟩), .int .i64 y] U fun e U' => ∃ A c' b r, e = .returned (.tuple #[.slice A b.length c', .float .f32 r, .bool true]) ∧ OwnI U' U.heap.size 2 (.slice A b.length c') b ∧ Eqi b (solL (rowC wn dn bs y) p0 p1 dn wn) ∧ Is r (solV (rowC wn dn bs y) p0 p1 dn wn) ∧ Ext U U' := by
  obtain ⟨i0, hi, hz0, hz1, hz2⟩ := info_parts infoF
  obtain ⟨j0, ji, jz0, jz1, jz2⟩ := info_parts infoIs
  have HC := Lib.hid (fun (W : World) (hW : Ext U W) (x d : Nat) (hx : x < wn) (hd : d < dn) => l04Cost_any g wn hn dn gb off n c bs (x : Int) (y : Int) d W (hB.ext hW) (hl.ext hW) hlen hv ⟨by omega, by omega⟩ ⟨by omega, by omega⟩ hd)
  have HCS := Lib.hid (fun (W : World) (hW : Ext U W) => l04Costs_any g wn hn dn gb off n c bs ((0 : Nat) : Int) (y : Int) W (hB.ext hW) (hl.ext hW) hlen hnc hcm hv ⟨by omega, by have := hv.1.1; omega⟩ ⟨by omega, by omega⟩)
  have hk0 := cell_k hv (x := ((0 : Nat) : Int)) (y := (y : Int)) ⟨by omega, by have := hv.1.1; omega⟩ ⟨by omega, by omega⟩
  have HB4 := Lib.hid (fun (W : World) (hW : Ext U W) => hB.ext hW)
  have HQ2 := Lib.hid (fun (W : World) (hW : Ext U W) => hQ.ext hW)
  have HSZ := Lib.hid (⟨by have := hv.1.1; have := hv.1.2.1; omega, by have := hv.2.1; have := hv.2.2.1; omega⟩ : (1 ≤ wn ∧ wn ≤ 24) ∧ 1 ≤ dn ∧ dn ≤ 8)
  have HOK := Lib.hid hok
  have HWD := Lib.hid hwd
  have HRW : Hid (∀ x d, rowC wn dn bs y x d = nrm (bs.getD (cellN (wn : Int) (x : Int) (y : Int) * dn + d) 0)) := Lib.hid (fun _ _ => rfl)
  have HT0 : Hid (∀ d, d < dn → ((bs.drop (cellN (wn : Int) ((0 : Nat) : Int) (y : Int) * dn)).take dn).getD d 0 = bs.getD (cellN (wn : Int) ((0 : Nat) : Int) (y : Int) * dn + d) 0) := Lib.hid (fun d hd => cell_getD bs _ dn d hd (by omega))
  have HT1 : Hid (((bs.drop (cellN (wn : Int) ((0 : Nat) : Int) (y : Int) * dn)).take dn).length = dn) := Lib.hid (by rw [List.length_take, List.length_drop]; omega)
  obtain ⟨C, hC⟩ : ∃ C, rowC wn dn bs y = C := ⟨_, rfl⟩
  rw [hC] at HOK HRW ⊢
  clear hl hlen hwd hv hy hok hB hQ hnc hcm hC hk0
  have HP := Lib.hid (fun (W : World) (hW : Ext U W) (q d : Nat) (hq : q < dn) (hd : d < dn) => callsExt (l04Price_any gp p0 p1 (q : Int) (d : Int) W (by omega) (by have := HSZ.out.2.2; omega) (by omega) (by have := HSZ.out.2.2; omega) (HQ2.out W hW).1 (HQ2.out W hW).2))
  go_enter Try.func54, Try.ntmps54
  go_wp2_with fail
  go_loopw [9] (fun xv wr => ∃ k : Nat, k ≤ wn ∧ xv = .int .i64 k ∧ Ext U wr) (fun xv _ => wn - (intOf xv).toNat)
  case atStart => exact ⟨0, Nat.zero_le _, rfl, Ext.refl _⟩
  case round =>
    obtain ⟨k, hk, rfl, hE⟩ := hrel
    have ⟨⟨s1, s24⟩, s0, s8⟩ := HSZ.out
    have ⟨q0, q1, q2, q3⟩ := HB4.out _ hE
    by_cases hlt : k < wn
    · go_wp2_with fail
      clear q0 q1 q2 q3
      go_loopw [10] (fun dv wr => ∃ j : Nat, j ≤ dn ∧ dv = .int .i64 j ∧ Ext U wr) (fun dv _ => dn - (intOf dv).toNat)
      case atStart => exact ⟨0, Nat.zero_le _, rfl, hE⟩
      case round =>
        clear hE
        obtain ⟨j, hj, rfl, hE⟩ := hrel
        have ⟨q0, q1, q2, q3⟩ := HB4.out _ hE
        by_cases hltj : j < dn
        · have HCC := Lib.hid (HC.out _ hE k j hlt hltj)
          have hge := HOK.out k j hlt hltj
          rw [HRW.out, geF_nrm] at hge
          generalize bs.getD (cellN (wn : Int) (k : Int) (y : Int) * dn + j) 0 = v at HCC hge
          have hord : (FloatKind.f32.format.order v 0 == some .gt || FloatKind.f32.format.order v 0 == some .eq) = true := hge
          clear hge
          go_wp2_with fail
          refine HCC.out.mono ?_
          rintro e w' ⟨rfl, hx⟩
          have hE2 := hE.trans hx
          clear hE hx q0 q1 q2 q3
          go_wp2
          go_roundw
          case rel => exact ⟨j + 1, by omega, by go_num, hE2⟩
          case measure => simp [intOf]; omega
        · go_wp2
          go_roundw
          case rel => exact ⟨k + 1, by omega, by go_num, hE⟩
          case measure => simp [intOf]; omega
    · obtain ⟨N, hN⟩ : ∃ N, wn * dn = N := ⟨_, rfl⟩
      have hN192 : N ≤ 192 := by rw [← hN]; exact Nat.mul_le_mul s24 s8
      have hwd : IntKind.i64.wrap ((wn : Int) * (dn : Int)) = (N : Int) := by rw [show (wn : Int) * (dn : Int) = (N : Int) by rw [← hN]; simp]; exact wrap_small _ (by omega) (by omega)
      have HN := Lib.hid hN
      clear hN
      go_wp2_with fail
      refine region_wx 10 [] (by kernel_rfl) (by kernel_rfl) ?_
      simp only [List.take_succ_cons, List.take_zero, List.drop_succ_cons, List.drop_zero]
      repeat ((first | refine wx_skip rfl ?_ | refine wx_nilCheck rfl rfl _ rfl _ rfl ?_ | (refine wx_float rfl rfl _ _ _ _ _ _ _ rfl rfl rfl rfl ?_; intro r hr) | (refine wx_k rfl rfl rfl (fun K hK => ?_); go_big_quiet_op; refine hK _ ?_; clear hK K) | (refine wx_makeI rfl rfl _ 2 j0 _ _ rfl N Try.underlying36 ji jz0 jz1 jz2 _ _ rfl rfl (by omega) ?_; intro gP VP hVP hOP)); (try simp only [Act.put, List.setIfInBounds_toArray, List.set_cons_zero, List.set_cons_succ]); (try simp only [List.tail_nil]))
      refine wx_nil (fun W hW hF => ?_)
      replace hOP := hOP.ext (hF 9)
      have hEP := hE.trans hW
      have hsP := hE.size
      replace hOP : OwnI W U.heap.size 2 (.slice (some ⟨gP, 0, none⟩) N N) (List.replicate N 0) := hOP.weaken (by omega)
      clear hF hVP hE hW q0 q1 q2 q3
      go_wp2_with fail
      refine (HCS.out _ hEP).mono ?_
      rintro e w1 ⟨gT, cT, rfl, hOT, hx1⟩
      have hTP : ¬ (gT = gP) := by have := hOT.ge; have := hOP.ge; omega
      have hE1 := hEP.trans hx1
      replace hOT := hOT.weaken hEP.size
      replace hOP := hOP.ext hx1
      have hT : Hid (TabT C p0 p1 dn 0 ((bs.drop (cellN (wn : Int) ((0 : Nat) : Int) (y : Int) * dn)).take dn)) := Lib.hid ⟨HT1.out, fun d hd => by rw [HT0.out d hd]; exact ⟨HWD.out _ (geF_not (by have h := HOK.out 0 d (by omega) hd; rw [HRW.out, geF_nrm] at h; exact h)), (HRW.out 0 d).symm⟩⟩
      have hP : Hid (TabP C p0 p1 wn dn 1 0 (List.replicate N 0)) := Lib.hid ⟨by simp [HN.out], fun u d h1 h2 => by omega, fun d hd => by omega⟩
      generalize (bs.drop (cellN (wn : Int) ((0 : Nat) : Int) (y : Int) * dn)).take dn = ts at hOT hT
      generalize List.replicate N (0 : Int) = ps at hOP hP
      clear hx1 hEP
      go_wp2_with fail
      go_loopw [12, 13] (fun tv xv wr => ∃ (x gT cT : Nat) (ts : List Nat) (ps : List Int), 1 ≤ x ∧ x ≤ wn ∧ xv = .int .i64 x ∧ tv = .slice (some ⟨gT, 0, none⟩) dn cT ∧ OwnF wr U.heap.size 23 (.slice (some ⟨gT, 0, none⟩) dn cT) ts ∧ Hid (TabT C p0 p1 dn (x - 1) ts) ∧ OwnI wr U.heap.size 2 (.slice (some ⟨gP, 0, none⟩) N N) ps ∧ Hid (TabP C p0 p1 wn dn x 0 ps) ∧ ¬ (gT = gP) ∧ Ext U wr) (fun _ xv _ => wn - (intOf xv).toNat)
      case atStart => exact ⟨1, gT, cT, ts, ps, Nat.le_refl _, s1, rfl, rfl, hOT, hT, hOP, hP, hTP, hE1⟩
      case round =>
        clear hOT hT hOP hP hE1 hTP
        obtain ⟨x, gT, cT, ts, ps, hx1, hxw, rfl, rfl, hOT, hT, hOP, hP, hTP, hE⟩ := hrel
        have ⟨q0, q1, q2, q3⟩ := HB4.out _ hE
        have hgT := hOT.ge
        by_cases hltx : x < wn
        · go_wp2_with (at_make; refine wpList_make_full _ rfl _ _ 22 rfl U.heap.size 23 i0 (.float .f32 0) 1 Try.underlying22 hi hz0 hz1 _ _ _ _ dn rfl rfl rfl rfl (by rw [hz2]; omega) (by unfold maxLen; omega) hE.size ?_)
          intro w2 hown hgr
          have hx2 : Ext wr w2 := (Below.refl _ _).grown hgr (Nat.le_refl _) (fun k hk => by cases hk)
          replace hown : OwnF w2 U.heap.size 23 (.slice (some ⟨wr.heap.size, 0, none⟩) dn dn) (List.replicate dn 0) := by
            rw [toList_madeCells_one] at hown
            unfold OwnF
            rw [List.length_replicate, List.map_replicate]
            exact hown
          obtain ⟨gN, hgN⟩ : ∃ g, wr.heap.size = g := ⟨_, rfl⟩
          rw [hgN] at hown
          have HGN := Lib.hid hgN
          have hTN : ¬ (gT = gN) := by omega
          have hPN : ¬ (gP = gN) := by have := hOP.ge; omega
          have hN0 : Hid (TabN C p0 p1 dn x 0 (List.replicate dn 0)) := Lib.hid ⟨by simp, fun d hd => by omega⟩
          generalize List.replicate dn (0 : Nat) = ns at hown hN0
          replace hOT := hOT.ext hx2
          replace hOP := hOP.ext hx2
          replace hE := hE.trans hx2
          clear hgr hx2 q0 q1 q2 q3 hgT
          go_wp2_with fail
          rw [hgN]
          clear hgN
          go_loopw [15] (fun dv wq => ∃ (d : Nat) (ns : List Nat) (ps : List Int), d ≤ dn ∧ dv = .int .i64 d ∧ OwnF wq U.heap.size 23 (.slice (some ⟨gT, 0, none⟩) dn cT) ts ∧ OwnI wq U.heap.size 2 (.slice (some ⟨gP, 0, none⟩) N N) ps ∧ Hid (TabP C p0 p1 wn dn x d ps) ∧ OwnF wq U.heap.size 23 (.slice (some ⟨gN, 0, none⟩) dn dn) ns ∧ Hid (TabN C p0 p1 dn x d ns) ∧ Ext U wq) (fun dv _ => dn - (intOf dv).toNat)
          case atStart => exact ⟨0, ns, ps, Nat.zero_le _, rfl, hOT, hOP, hP, hown, hN0, hE⟩
          case round =>
            clear hOT hOP hP hown hN0 hE
            obtain ⟨d, ns, ps, hdd, rfl, hOT, hOP, hP, hON, hNN, hE⟩ := hrel
            have ⟨q0, q1, q2, q3⟩ := HB4.out _ hE
            by_cases hltd : d < dn
            · have HF : Hid (∀ q, solF p0 p1 (solT C p0 p1 dn (x - 1)) d q = fop .add (solT C p0 p1 dn (x - 1) q) (nrm (priceX p0 p1 (q : Int) (d : Int)))) := Lib.hid (fun _ => rfl)
              obtain ⟨F, hF'⟩ : ∃ F, solF p0 p1 (solT C p0 p1 dn (x - 1)) d = F := ⟨_, rfl⟩
              rw [hF'] at HF
              have HFD := Lib.hid hF'
              clear hF'
              have hct := hOT.cell (i := 0) (by rw [hT.out.1]; omega)
              have hvt := (hT.out.2 0 (by omega)).2
              generalize ts.getD 0 0 = t0 at hct hvt
              have HVT := Lib.hid hvt
              have z1 : (0 : Int) < (dn : Int) := by omega
              have HPP := Lib.hid (fun (W : World) (hW : Ext U W) => (HP.out W hW 0 d (by omega) hltd : Calls Try.prog 48 #[.pointer (some ⟨gp, 0, none⟩), .int .i64 0, .int .i64 d] W fun e W' => e = .returned (.float .f32 (priceX p0 p1 0 (d : Int))) ∧ Ext W W'))
              clear hvt
              go_wp2_with fail
              clear q0 q1 q2 q3
              refine region_wx 7 [] (by kernel_rfl) (by kernel_rfl) ?_
              simp only [List.take_succ_cons, List.take_zero, List.drop_succ_cons, List.drop_zero]
              repeat ((first | refine wx_skip rfl ?_ | refine wx_nilCheck rfl rfl _ rfl _ rfl ?_ | (refine wx_float rfl rfl _ _ _ _ _ _ _ rfl rfl rfl rfl ?_; intro r hr) | (refine wx_k rfl rfl rfl (fun K hK => ?_); go_big_quiet_op; refine hK _ ?_; clear hK K) | (refine wx_call rfl rfl 48 _ _ rfl (by kernel_rfl) (by kernel_rfl) (.float .f32 (priceX p0 p1 0 (d : Int))) (fun W hW hF => ?_) ?_; go_simp; (with_reducible refine (HPP.out W (hE.trans hW)).mono ?_); rintro e w' h; exact h) | (refine wx_call rfl rfl 48 _ _ rfl (by kernel_rfl) (by kernel_rfl) (.float .f32 (priceX p0 p1 0 (d : Int))) (fun W hW hF => ?_) ?_; go_simp; refine (HPP.out W (hE.trans hW)).mono ?_; rintro e w' h; exact h)); (try simp only [Act.put, List.setIfInBounds_toArray, List.set_cons_zero, List.set_cons_succ]); (try simp only [List.tail_nil]))
              refine wx_nil (fun W hW hF => ?_)
              have hF0 : Is r (F 0) := by rw [HF.out]; exact is_fop hr HVT.out rfl
              have HF0 := Lib.hid hF0
              replace hOT := hOT.ext hW
              replace hOP := hOP.ext hW
              replace hON := hON.ext hW
              replace hE := hE.trans hW
              clear hF hF0 hr hct hW HPP
              obtain ⟨W1, rfl⟩ : ∃ w', w' = W := ⟨W, rfl⟩
              go_wp2_with fail
              go_loopw [16, 17, 18] (fun fv vv pv wq => ∃ (q s : Nat), 1 ≤ q ∧ q ≤ dn ∧ pv = .int .i64 q ∧ fv = .int .i64 (flI F q : Nat) ∧ vv = .float .f32 s ∧ Hid (Is s (F (flI F q))) ∧ Ext W1 wq) (fun _ _ pv _ => dn - (intOf pv).toNat)
              case atStart => exact ⟨1, r, Nat.le_refl _, s0, rfl, by rw [flI_one]; rfl, rfl, by rw [flI_one]; exact HF0, Ext.refl _⟩
              case round =>
                obtain ⟨q, s, hq1, hqd, rfl, rfl, rfl, hs, hE2⟩ := hrel
                have hE3 := hE.trans hE2
                have ⟨q0, q1, q2, q3⟩ := HB4.out _ hE3
                by_cases hltq : q < dn
                · have hct := (hOT.ext hE2).cell (i := q) (by rw [hT.out.1]; omega)
                  have hvt := (hT.out.2 q (by omega)).2
                  generalize ts.getD q 0 = tq at hct hvt
                  have HVT := Lib.hid hvt
                  have x0 : (0 : Int) ≤ (q : Int) := by omega
                  have x1 : (q : Int) < (dn : Int) := by omega
                  have HPP := Lib.hid (fun (W : World) (hW : Ext U W) => HP.out W hW q d hltq hltd)
                  clear hvt
                  go_wp2_with fail
                  clear q0 q1 q2 q3
                  refine region_wx0 [] (by kernel_rfl) (by kernel_rfl) ?_
                  repeat ((first | refine wx_skip rfl ?_ | refine wx_nilCheck rfl rfl _ rfl _ rfl ?_ | (refine wx_float rfl rfl _ _ _ _ _ _ _ rfl rfl rfl rfl ?_; intro r hr) | (refine wx_k rfl rfl rfl (fun K hK => ?_); go_big_quiet_op; refine hK _ ?_; clear hK K) | (refine wx_call rfl rfl 48 _ _ rfl (by kernel_rfl) (by kernel_rfl) (.float .f32 (priceX p0 p1 (q : Int) (d : Int))) (fun W hW hF => ?_) ?_; go_simp; (with_reducible refine (HPP.out W (hE3.trans hW)).mono ?_); rintro e w' h; exact h)); (try simp only [Act.put, List.setIfInBounds_toArray, List.set_cons_zero, List.set_cons_succ]); (try simp only [List.tail_nil]))
                  refine wx_nil (fun W hW hF => ?_)
                  have HR := Lib.hid (show Is r (F q) by rw [HF.out]; exact is_fop hr HVT.out rfl)
                  have hord : (FloatKind.f32.format.order r s == some .lt) = ltF (F q) (F (flI F q)) := by
                    show ltF r s = _
                    rw [← ltF_nrm r s, HR.out.2, hs.out.2]
                  have hstep : flI F (q + 1) = if ltF (F q) (F (flI F q)) = true then q else flI F q := rfl
                  have hE4 := hE2.trans hW
                  cases hb : ltF (F q) (F (flI F q)) with
                  | true =>
                    rw [hb] at hord hstep
                    have HST : Hid (flI F (q + 1) = q) := Lib.hid (by simpa using hstep)
                    have hct2 := cell_ext hct hW
                    clear hstep hb hE2 hE3 hct hr hF
                    simp only [hord]
                    go_wp2_with fail
                    obtain ⟨W2, rfl⟩ : ∃ w', w' = W := ⟨W, rfl⟩
                    have hE5 := hE.trans hE4
                    clear hW hord HR
                    refine region_wx 9 [] (by kernel_rfl) (by kernel_rfl) ?_
                    simp only [List.take_succ_cons, List.take_zero, List.drop_succ_cons, List.drop_zero]
                    repeat ((first | refine wx_skip rfl ?_ | refine wx_nilCheck rfl rfl _ rfl _ rfl ?_ | (refine wx_float rfl rfl _ _ _ _ _ _ _ rfl rfl rfl rfl ?_; intro r hr) | (refine wx_k rfl rfl rfl (fun K hK => ?_); go_big_quiet_op; refine hK _ ?_; clear hK K) | (refine wx_call rfl rfl 48 _ _ rfl (by kernel_rfl) (by kernel_rfl) (.float .f32 (priceX p0 p1 (q : Int) (d : Int))) (fun W hW hF => ?_) ?_; go_simp; (with_reducible refine (HPP.out W (hE5.trans hW)).mono ?_); rintro e w' h; exact h)); (try simp only [Act.put, List.setIfInBounds_toArray, List.set_cons_zero, List.set_cons_succ]); (try simp only [List.tail_nil]))
                    refine wx_nil (fun W hW hF => ?_)
                    have HR := Lib.hid (show Is r (F q) by rw [HF.out]; exact is_fop hr HVT.out rfl)
                    have hE6 := hE4.trans hW
                    clear hF hr hE4 hE5 hW hct2
                    go_wp2
                    go_roundw
                    case rel => exact ⟨q + 1, r, by omega, by omega, by go_num, by rw [HST.out], rfl, by rw [HST.out]; exact HR, hE6⟩
                    case measure => simp [intOf]; omega
                  | false =>
                    rw [hb] at hord hstep
                    have HST : Hid (flI F (q + 1) = flI F q) := Lib.hid (by simpa using hstep)
                    clear hstep hb hE2 hE3 hct hr hF
                    simp only [hord]
                    go_wp2
                    go_roundw
                    case rel => exact ⟨q + 1, s, by omega, by omega, by go_num, by rw [HST.out], rfl, by rw [HST.out]; exact hs, hE4⟩
                    case measure => simp [intOf]; omega
                · obtain rfl : dn = q := by omega
                  obtain ⟨K, hK⟩ : ∃ K, x * dn + d = K := ⟨_, rfl⟩
                  obtain ⟨M, hM⟩ : ∃ M, x * dn = M := ⟨_, rfl⟩
                  have hKN : K < N := by rw [← hK, ← HN.out]; exact idx_lt hltx hltd
                  have hMK : M + d = K := by rw [← hM, ← hK]
                  have hw1 : IntKind.i64.wrap ((x : Int) * (dn : Int)) = (M : Int) := by rw [show (x : Int) * (dn : Int) = (M : Int) by rw [← hM]; simp]; exact wrap_small _ (by omega) (by omega)
                  have hw2 : IntKind.i64.wrap ((M : Int) + (d : Int)) = (K : Int) := by rw [show (M : Int) + (d : Int) = (K : Int) by omega]; exact wrap_small _ (by omega) (by omega)
                  have k0 : (0 : Int) ≤ (K : Int) := by omega
                  have k1 : (K : Int) < (N : Int) := by omega
                  have d0 : (0 : Int) ≤ (d : Int) := by omega
                  have d1 : (d : Int) < (dn : Int) := by omega
                  have hpc := (hOP.ext hE2).cell (i := K) (by rw [hP.out.1, HN.out]; exact hKN)
                  have hpf := (hOP.ext hE2).cool K
                  generalize ps.getD K 0 = zp at hpc
                  have hgP := (hOP.ext hE2).ge
                  have hOP5 := (hOP.ext hE2).put K ((flI F dn : Nat) : Int)
                  have hON5 := (hON.ext hE2).set_ne' (g' := gP) (i := K) (u := it ((flI F dn : Nat) : Int)) (fun h => hPN h.symm)
                  have hOT5 := (hOT.ext hE2).set_ne' (g' := gP) (i := K) (u := it ((flI F dn : Nat) : Int)) hTP
                  have hE5 := hE3.setCell (p := ⟨gP, K, none⟩) (by dsimp only; omega) (it ((flI F dn : Nat) : Int))
                  have hP5 : Hid (TabP C p0 p1 wn dn x (d + 1) (ps.set K ((flI F dn : Nat) : Int))) := Lib.hid (by have h := hP.out.put hltx hltd; rw [solP_eq, HFD.out, hK] at h; exact h)
                  have HTX : Hid (solT C p0 p1 dn x d = fop .add (F (flI F dn)) (C x d)) := Lib.hid (by rw [solT_next _ _ _ _ _ hx1, HFD.out])
                  have HCC := Lib.hid (HC.out _ hE5 x d hltx hltd)
                  have hcst := (HRW.out x d).symm
                  generalize bs.getD (cellN (wn : Int) (x : Int) (y : Int) * dn + d) 0 = cst at HCC hcst
                  have HCST := Lib.hid hcst
                  have HK := Lib.hid hK
                  clear hcst hK hM hMK hOP hON hOT hE2 hE3 hP
                  go_wp2_with fail
                  refine HCC.out.mono ?_
                  rintro e w5 ⟨rfl, hx5⟩
                  have hnc5 := (hON5.ext hx5).cell (i := d) (by rw [hNN.out.1]; exact hltd)
                  have hnf5 := (hON5.ext hx5).cool d
                  have hgN := (hON5.ext hx5).ge
                  generalize ns.getD d 0 = nd at hnc5
                  have hOT6 := (hOT5.ext hx5)
                  have hOP6 := (hOP5.ext hx5)
                  have hON6 := (hON5.ext hx5)
                  have hE6 := hE5.trans hx5
                  clear hOT5 hOP5 hON5 hE5 hx5 hpc hpf hw1 hw2
                  go_wp2
                  go_roundw
                  case rel => exact ⟨d + 1, _, _, by omega, by go_num, (hOT6.drewN _).set_ne' hTN, (hOP6.drewN _).set_ne' hPN, hP5, (hON6.drewN _).put d _, Lib.hid (hNN.out.put hltd (by rw [HTX.out]; exact is_fop (flR_is _ _ _ _) hs.out.2 HCST.out)), (hE6.drewN _).setCell (by dsimp only; omega) _⟩
                  case measure => simp [intOf]; omega
            · obtain rfl : dn = d := by omega
              go_wp2
              go_roundw
              case rel => exact ⟨x + 1, gN, dn, ns, ps, by omega, by omega, by go_num, rfl, hON, Lib.hid hNN.out.next, hOP, Lib.hid hP.out.next, fun h => hPN h.symm, hE⟩
              case measure => simp [intOf]; omega
        · obtain rfl : wn = x := by omega
          obtain ⟨W3, rfl⟩ : ∃ w', w' = wr := ⟨wr, rfl⟩
          obtain ⟨G, hG⟩ : ∃ G : Nat → Nat, (fun i => ts.getD i 0) = G := ⟨_, rfl⟩
          have HG : Hid (∀ i, i < dn → Is (G i) (solT C p0 p1 dn (wn - 1) i)) := Lib.hid (fun i hi => by rw [← hG]; exact hT.out.2 i hi)
          have HGC : Hid (∀ W, Ext W3 W → ∀ i, i < dn → W.cell? ⟨gT, i, none⟩ = some (fl (G i))) := Lib.hid (fun W hW i hi => by rw [← hG]; exact (hOT.ext hW).cell (by rw [hT.out.1]; exact hi))
          clear hG hT hOT hgT
          go_wp2_with fail
          clear q0 q1 q2 q3
          go_loopw [19, 20] (fun av dv wq => ∃ j : Nat, 1 ≤ j ∧ j ≤ dn ∧ dv = .int .i64 j ∧ av = .int .i64 (flI G j : Nat) ∧ Ext W3 wq) (fun _ dv _ => dn - (intOf dv).toNat)
          case atStart => exact ⟨1, Nat.le_refl _, s0, rfl, by rw [flI_one]; rfl, Ext.refl _⟩
          case round =>
            obtain ⟨j, hj1, hj, rfl, rfl, hE2⟩ := hrel
            have ⟨q0, q1, q2, q3⟩ := HB4.out _ (hE.trans hE2)
            by_cases hltj : j < dn
            · have hck := HGC.out _ hE2 j hltj
              have hle := flI_lt G (show 0 < j by omega)
              have hcb := HGC.out _ hE2 (flI G j) (by omega)
              have hstep : flI G (j + 1) = if ltF (G j) (G (flI G j)) = true then j else flI G j := rfl
              generalize flI G j = b at hcb hstep hle ⊢
              have hord : (FloatKind.f32.format.order (G j) (G b) == some .lt) = ltF (G j) (G b) := rfl
              generalize G j = v at hck hord hstep
              generalize G b = u at hcb hord hstep
              have j0 : (0 : Int) ≤ (j : Int) := by omega
              have j1 : (j : Int) < (dn : Int) := by omega
              have b0 : (0 : Int) ≤ (b : Int) := by omega
              have b1 : (b : Int) < (dn : Int) := by omega
              go_wp2_with fail
              clear q0 q1 q2 q3
              refine region_wx0 [] (by kernel_rfl) (by kernel_rfl) ?_
              repeat ((first | refine wx_skip rfl ?_ | refine wx_nilCheck rfl rfl _ rfl _ rfl ?_ | (refine wx_float rfl rfl _ _ _ _ _ _ _ rfl rfl rfl rfl ?_; intro r hr) | (refine wx_k rfl rfl rfl (fun K hK => ?_); go_big_quiet_op; refine hK _ ?_; clear hK K) ); (try simp only [Act.put, List.setIfInBounds_toArray, List.set_cons_zero, List.set_cons_succ]); (try simp only [List.tail_nil]))
              refine wx_nil (fun W hW hF => ?_)
              have hE4 := hE2.trans hW
              cases hb : ltF v u with
              | true =>
                rw [hb] at hord hstep
                have HST : Hid (flI G (j + 1) = j) := Lib.hid (by simpa using hstep)
                clear hstep hb hE2 hW hF hck hcb
                try simp only [hord]
                go_wp2
                go_roundw
                case rel => exact ⟨j + 1, by omega, by omega, by go_num, by rw [HST.out], hE4⟩
                case measure => simp [intOf]; omega
              | false =>
                rw [hb] at hord hstep
                have HST : Hid (flI G (j + 1) = b) := Lib.hid (by simpa using hstep)
                clear hstep hb hE2 hW hF hck hcb
                try simp only [hord]
                go_wp2
                go_roundw
                case rel => exact ⟨j + 1, by omega, by omega, by go_num, by rw [HST.out], hE4⟩
                case measure => simp [intOf]; omega
            · obtain rfl : dn = j := by omega
              obtain ⟨B, hB⟩ : ∃ B, solB C p0 p1 dn wn = B := ⟨_, rfl⟩
              have hB0 : flI G dn = B 0 := by rw [← hB]; exact flI_congr (fun i hi => (HG.out i hi).2) dn (Nat.le_refl _)
              have HV : Hid (Is (G (B 0)) (solV C p0 p1 dn wn)) := Lib.hid (by
                have h := HG.out (B 0) (by rw [← hB]; exact solB_lt _ _ _ s0 _ _)
                rw [← hB] at h ⊢
                exact h)
              have HBL : Hid (∀ k, B k < dn) := Lib.hid (fun k => by rw [← hB]; exact solB_lt _ _ _ s0 _ _)
              have HBS : Hid (∀ k, B (k + 1) = solP C p0 p1 dn (wn - 2 - k) (B k)) := Lib.hid (fun k => by rw [← hB]; rfl)
              have HBB := Lib.hid hB
              rw [hB0]
              have hB1 := HBL.out 0
              have hck := HGC.out _ hE2 (B 0) hB1
              obtain ⟨at0, hat⟩ : ∃ z, B 0 = z := ⟨_, rfl⟩
              rw [hat] at hB1 hck HV ⊢
              have HAT := Lib.hid hat
              generalize G at0 = r at hck HV
              have b0 : (0 : Int) ≤ (at0 : Int) := by omega
              have b1 : (at0 : Int) < (dn : Int) := by omega
              replace hOP := hOP.ext hE2
              replace hE := hE.trans hE2
              clear hB hB0 hat HGC HG hE2
              go_wp2_with (at_make; refine wpList_make_full _ rfl _ _ 36 rfl U.heap.size 2 j0 (.int .i64 0) 1 Try.underlying36 ji jz0 jz1 _ _ _ _ wn rfl rfl rfl rfl (by rw [jz2]; omega) (by unfold maxLen; omega) hE.size ?_)
              intro w2 hown hgr
              have hx2 : Ext wr w2 := (Below.refl _ _).grown hgr (Nat.le_refl _) (fun k hk => by cases hk)
              replace hown : OwnI w2 U.heap.size 2 (.slice (some ⟨wr.heap.size, 0, none⟩) wn wn) (List.replicate wn 0) := by
                rw [toList_madeCells_one] at hown
                unfold OwnI
                rw [List.length_replicate, List.map_replicate]
                exact hown
              obtain ⟨gR, hgR⟩ : ∃ g, wr.heap.size = g := ⟨_, rfl⟩
              rw [hgR] at hown
              have HGR := Lib.hid hgR
              have hPR : ¬ (gP = gR) := by have := hOP.ge; omega
              have hR0 : Hid (TabR B wn 0 (List.replicate wn 0)) := Lib.hid ⟨by simp, fun i h1 h2 => by omega⟩
              generalize List.replicate wn (0 : Int) = rs at hown hR0
              replace hOP := hOP.ext hx2
              replace hE := hE.trans hx2
              have ⟨q0', q1', q2', q3'⟩ := HB4.out _ hE
              have hwn1 : IntKind.i64.wrap ((wn : Int) - 1) = (wn : Int) - 1 := wrap_small _ (by omega) (by omega)
              clear hgr hx2 q0 q1 q2 q3 hck
              go_wp2_with fail
              rw [hgR]
              clear hgR q0' q1' q2' q3' hwn1
              go_loopw [19, 23] (fun av xv wq => ∃ (k : Nat) (z : Int) (rs : List Int), k ≤ wn ∧ xv = .int .i64 ((wn : Int) - 1 - (k : Int)) ∧ av = .int .i64 z ∧ Hid (k < wn → z = ((B k : Nat) : Int)) ∧ OwnI wq U.heap.size 2 (.slice (some ⟨gP, 0, none⟩) N N) ps ∧ OwnI wq U.heap.size 2 (.slice (some ⟨gR, 0, none⟩) wn wn) rs ∧ Hid (TabR B wn k rs) ∧ Ext U wq) (fun _ xv _ => (intOf xv + 1).toNat)
              case atStart => exact ⟨0, at0, rs, Nat.zero_le _, by simp, rfl, Lib.hid (fun _ => by rw [HAT.out]), hOP, hown, hR0, hE⟩
              case round =>
                clear hOP hown hR0 hE
                obtain ⟨k, z, rs, hk, rfl, rfl, hz, hOP, hOR, hR, hE⟩ := hrel
                have hgP := hOP.ge
                have hgR := hOR.ge
                by_cases hltk : k < wn
                · obtain ⟨X, hX⟩ : ∃ X, wn - 1 - k = X := ⟨_, rfl⟩
                  have hzk := hz.out hltk
                  have hxe : (wn : Int) - 1 - (k : Int) = (X : Int) := by omega
                  rw [hxe, hzk]
                  have hBk := HBL.out k
                  have HZK : Hid (k + 1 < wn → solP C p0 p1 dn (X - 1) (B k) = B (k + 1)) := Lib.hid (fun h => by rw [HBS.out, show wn - 2 - k = X - 1 by omega])
                  have hRX : Hid (TabR B wn (k + 1) (rs.set X ((B k : Nat) : Int))) := Lib.hid (by have h := hR.out.put hltk; rw [hX] at h; exact h)
                  obtain ⟨K, hK⟩ : ∃ K, X * dn + B k = K := ⟨_, rfl⟩
                  obtain ⟨M, hM⟩ : ∃ M, X * dn = M := ⟨_, rfl⟩
                  have hKN : K < N := by rw [← hK, ← HN.out]; exact idx_lt (by omega) hBk
                  have hMK : M + B k = K := by rw [← hM, ← hK]
                  have HPK : Hid (1 ≤ X → ps.getD K 0 = ((solP C p0 p1 dn (X - 1) (B k) : Nat) : Int)) := Lib.hid (fun h => by rw [← hK]; exact hP.out.2.1 X (B k) h (by omega) hBk)
                  generalize B k = bk at hBk HZK hRX hK hMK HPK ⊢
                  have hw1 : IntKind.i64.wrap ((X : Int) * (dn : Int)) = (M : Int) := by rw [show (X : Int) * (dn : Int) = (M : Int) by rw [← hM]; simp]; exact wrap_small _ (by omega) (by omega)
                  have hw2 : IntKind.i64.wrap ((M : Int) + (bk : Int)) = (K : Int) := by rw [show (M : Int) + (bk : Int) = (K : Int) by omega]; exact wrap_small _ (by omega) (by omega)
                  have hw3 : IntKind.i64.wrap ((X : Int) - 1) = (X : Int) - 1 := wrap_small _ (by omega) (by omega)
                  have k0 : (0 : Int) ≤ (K : Int) := by omega
                  have k1 : (K : Int) < (N : Int) := by omega
                  have x0 : (0 : Int) ≤ (X : Int) := by omega
                  have x1 : (X : Int) < (wn : Int) := by omega
                  have hpc := hOP.cell (i := K) (by rw [hP.out.1, HN.out]; exact hKN)
                  generalize ps.getD K 0 = pz at hpc HPK
                  have hrc := hOR.cell (i := X) (by rw [hR.out.1]; omega)
                  generalize rs.getD X 0 = rz at hrc
                  have hrf := hOR.cool X
                  have hOP5 := hOP.set_ne' (g' := gR) (i := X) (u := it (bk : Int)) hPR
                  have hOR5 := hOR.put X (bk : Int)
                  have hE5 := hE.setCell (p := ⟨gR, X, none⟩) (by dsimp only; omega) (it (bk : Int))
                  have hpc5 : (wr.setCell ⟨gR, X, none⟩ (it (bk : Int))).cell? ⟨gP, K, none⟩ = some (it pz) := set_cell_ne hpc hPR
                  have ⟨q0, q1, q2, q3⟩ := HB4.out _ hE5
                  clear hK hM hMK hOP hOR hR hzk hz hpc hE
                  go_wp2
                  go_roundw
                  case rel => exact ⟨k + 1, pz, rs.set X (bk : Int), by omega, (by first | rfl | (congr 1; omega)), rfl, Lib.hid (fun h => by rw [HPK.out (by omega), HZK.out h]), hOP5, hOR5, hRX, hE5⟩
                  case measure => first | (simp [intOf]; done) | (simp [intOf]; omega)
                · obtain rfl : wn = k := by omega
                  have hlt' : ¬ ((0 : Int) ≤ (wn : Int) - 1 - (wn : Int)) := by omega
                  have hlen : Hid (rs.length = wn) := Lib.hid hR.out.1
                  have HOR := Lib.hid hOR
                  have HEQ : Hid (Eqi rs (solL C p0 p1 dn wn)) := Lib.hid (by have h := hR.out; rw [← HBB.out] at h; exact h.all)
                  have HE := Lib.hid hE
                  have hlt2 : (wn : Int) - 1 - (wn : Int) = -1 := by omega
                  rw [hlt2]
                  clear hOP hOR hR hE hz hlt' hlt2
                  go_wp2
                  refine bodyPost_ret (v := .tuple #[.slice (some ⟨gR, 0, none⟩) wn wn, .float .f32 r, .bool true]) (by simp [results, Try.results54, go_sem, *]) rfl ⟨some ⟨gR, 0, none⟩, wn, rs, r, by rw [hlen.out], by rw [hlen.out]; exact HOR.out, HEQ.out, HV.out, HE.out⟩
end Go.Proofs.Ythkfbmboiabolaa
