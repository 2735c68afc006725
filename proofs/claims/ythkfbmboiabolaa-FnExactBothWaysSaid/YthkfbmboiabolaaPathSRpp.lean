/- Contracts: the reference's paths, one pair of signs. -/
import Derived.Test.YthkfbmboiabolaaPathS
namespace Go.Proofs.Ythkfbmboiabolaa
open Go.RowKit
set_option linter.unusedVariables false

set_option maxHeartbeats 8000000 in
set_option maxRecDepth 8000 in
theorem l04PathRpp_any (g gp gq wn hn dn gb off n c : Nat) (bs : List Nat) (d : Int) (hd0 : 0 ≤ d) (hd7 : d ≤ 7) (hsx : ¬ wayX d < 0) (hsy : ¬ wayY d < 0) (a b O M : Nat) (e1a : Is a O) (e1b : Is b M) (U : World) (hB : Box4 U g (.int .i64 wn) (.int .i64 hn) (.int .i64 dn) (.slice (some ⟨gb, off, none⟩) n c)) (hP : Box2 U gp (fl a) (fl b)) (hQ : U.cell? ⟨gq, 0, none⟩ = some (.int .i64 0)) (hl : Lies U gb off bs) (hlen : bs.length = n) (hwd : Words bs) (hnc : n ≤ c) (hcm : c ≤ maxLen) (hv : VVol wn hn dn n) :
    Calls Try.prog 63 #[.pointer (some ⟨g, 0, none⟩), .pointer (some ⟨gp, 0, none⟩), .int .i64 d, .bool true, .pointer (some ⟨gq, 0, none⟩)] U fun e U' => ∃ H c' b, e = .returned (.agg #[.int .i64 wn, .int .i64 hn, .int .i64 dn, .slice (some ⟨H, 0, none⟩) n c']) ∧ OwnF U' U.heap.size 23 (.slice (some ⟨H, 0, none⟩) n c') b ∧ b.map nrm = cells3 (fun x y e => ((pathT (fun _ _ _ _ => rawG O M) (ownC bs wn dn) wn hn (wayX d) (wayY d)) x y).getD e 0) wn dn (wn * hn * dn) ∧ Words b ∧ Ext U U' := by
  obtain ⟨hnn, h0, hn2⟩ := vol_n hv
  have hwh := vol_wh hv
  have hs := hv.1
  have h1 : wn ≤ 24 := by have := hs.2.1; omega
  have h2 : hn ≤ 24 := by have := hs.2.2.2.1; omega
  have hw1 : 1 ≤ wn := by have := hs.1; omega
  have hh1 : 1 ≤ hn := by have := hs.2.2.1; omega
  have hd8 : dn ≤ 8 := by have := hv.2.2.1; omega
  have hdn : 0 < dn := by have := hv.2.1; omega
  have hgl := hB.lt
  have hpl := hP.lt
  have hql : gq < U.heap.size := lt_of_cell hQ
  have hdir := way_dir d hd0 hd7
  obtain ⟨T, hT⟩ : ∃ T : Nat → Nat → List Nat, T = (pathT (fun _ _ _ _ => rawG O M) (ownC bs wn dn) wn hn (wayX d) (wayY d)) := ⟨_, rfl⟩
  have hTl : ∀ x y, (T x y).length = dn := fun x y => by rw [hT]; exact pathT_len (fun _ _ _ _ o p => rawG_len O M o p) x y
  obtain ⟨dx, hdx⟩ : ∃ dx, wayX d = dx := ⟨_, rfl⟩
  obtain ⟨dy, hdy⟩ : ∃ dy, wayY d = dy := ⟨_, rfl⟩
  have hTe : ∀ x y, x < wn → y < hn → T x y = if hasP wn hn dx dy x y then rawG O M (ownC bs wn dn x y) (T (preU dx x) (preU dy y)) else ownC bs wn dn x y := fun x y hx hy => by
    rw [hT, ← hdx, ← hdy]; exact pathT_eq (fun _ _ _ _ => rawG O M) (ownC bs wn dn) wn hn _ _ hdir h1 h2 hx hy
  rw [← hT]
  have hWAY := fun (W : World) => specWay_any d W hd0 hd7
  rw [hdx, hdy] at hWAY hdir
  rw [hdx] at hsx
  rw [hdy] at hsy
  clear hT hdx hdy
  have HCV := Lib.hid (fun (W : World) (hE : Ext U W) (x y : Nat) (hx : x < wn) (hy : y < hn) => (by
    have h3 := l04Costs_any g wn hn dn gb off n c bs (x : Int) (y : Int) W (hB.ext hE) (hl.ext hE) hlen hnc hcm hv ⟨by omega, by omega⟩ ⟨by omega, by omega⟩
    rw [cell_lin'] at h3
    exact h3 : Calls Try.prog 76 #[.pointer (some ⟨g, 0, none⟩), .int .i64 x, .int .i64 y] W fun e U' => ∃ H c', e = .returned (.slice (some ⟨H, 0, none⟩) dn c') ∧ OwnF U' W.heap.size 23 (.slice (some ⟨H, 0, none⟩) dn c') ((bs.drop ((y * wn + x) * dn)).take dn) ∧ Ext W U'))
  have HCO := Lib.hid (fun (W : World) (go H c' : Nat) (cs : List Nat) (hcl : cs.length = n) (hB : Box4 W go (.int .i64 wn) (.int .i64 hn) (.int .i64 dn) (.slice (some ⟨H, 0, none⟩) n c')) (hli : Lies W H 0 cs) (hnc' : n ≤ c') (hcm' : c' ≤ maxLen) (x y : Nat) (hx : x < wn) (hy : y < hn) => (by
    have h3 := l04Costs_any go wn hn dn H 0 n c' cs (x : Int) (y : Int) W hB hli hcl hnc' hcm' hv ⟨by omega, by omega⟩ ⟨by omega, by omega⟩
    rw [cell_lin'] at h3
    exact h3 : Calls Try.prog 76 #[.pointer (some ⟨go, 0, none⟩), .int .i64 x, .int .i64 y] W fun e U' => ∃ H c', e = .returned (.slice (some ⟨H, 0, none⟩) dn c') ∧ OwnF U' W.heap.size 23 (.slice (some ⟨H, 0, none⟩) dn c') ((cs.drop ((y * wn + x) * dn)).take dn) ∧ Ext W U'))
  obtain ⟨N, hN⟩ : ∃ N, wn * hn = N := ⟨_, rfl⟩
  have hmul : IntKind.i64.wrap ((wn : Int) * (hn : Int)) = (N : Int) := by
    rw [show (wn : Int) * (hn : Int) = (N : Int) by rw [← hN]; simp]; exact wrap_small _ (by omega) (by omega)
  have HB := Lib.hid (fun (W : World) (hE : Ext U W) => hB.ext hE)
  have HPB := Lib.hid (fun (W : World) (hE : Ext U W) => hP.ext hE)
  have HQB := Lib.hid (fun (W : World) (hE : Ext U W) => cell_ext hQ hE)
  have HLEN := Lib.hid hlen
  have HWD := Lib.hid hwd
  have HDIR := Lib.hid hdir
  have HTE := Lib.hid hTe
  have HTL := Lib.hid hTl
  have HWAY := Lib.hid hWAY
  have HNN := Lib.hid hnn
  have HNW := Lib.hid hN
  have HN2 := Lib.hid hn2
  have HIS := Lib.hid (⟨e1a, e1b⟩ : Is a O ∧ Is b M)
  have hNEW := Lib.hid (fun (W : World) (hE : Ext U W) => l04New_any g wn hn dn gb off n c W (hB.ext hE) h0 hn2)
  have hN256 : N ≤ 256 := by omega
  clear hWAY hv hl hlen hwd hdir hTe hTl hs hwh hnn hnc hcm hB hP hQ e1a e1b hN hn2
  go_enter Try.func63, Try.ntmps63
  go_wp2_with fail
  refine calls_at (X := fun w' => Ext U w' ∧ Res4 w' U.heap.size ∧ U.heap.size + 1 ≤ w'.heap.size) ⟨(Ext.refl _).alloc _, ⟨by simp [go_sem], by simp [go_sem], by simp [go_sem], by simp [go_sem], by simp [go_sem], by simp [go_sem], by simp [go_sem], by simp [go_sem]⟩, by simp⟩ ?_
  rintro w0 ⟨hx0, hr0, hs0⟩
  refine (HWAY.out w0).mono ?_
  rintro e w' ⟨rfl, rfl⟩
  go_wp2_with fail
  refine (hNEW.out w0 hx0).mono ?_
  rintro e w1 ⟨H, cH, rfl, ho, hx⟩
  have hr1 := hr0.ext hx
  have hE1 := hx0.trans hx
  have hHg := ho.ge
  have hHc : n ≤ cH ∧ cH ≤ maxLen := by
    obtain ⟨A', c', he, q1, q2, _⟩ := ho.form
    simp only [Value.slice.injEq, List.length_replicate] at he q1
    omega
  clear hx hx0 hr0
  go_wp2_with fail
  refine wp_at (X := fun w' => Ext w1 w' ∧ Box4 w' w1.heap.size (.int .i64 wn) (.int .i64 hn) (.int .i64 dn) (.slice (some ⟨H, 0, none⟩) n cH)) ⟨(Ext.refl _).alloc _, ⟨by simp [go_sem], by simp [go_sem], by simp [go_sem], by simp [go_sem]⟩⟩ ?_
  rintro w2 ⟨hx2, hbo⟩
  obtain ⟨go, hgo⟩ : ∃ go, w1.heap.size = go := ⟨_, rfl⟩
  rw [hgo] at hbo hHg ⊢
  have hgol := hbo.lt
  have hr2 := hr1.ext hx2
  have hE2 := hE1.trans hx2
  have ho2 := ho.ext hx2
  clear hx2 hE1 hr1 ho
  go_loopw [14] (fun iv wr => ∃ (t : Nat) (cs : List Nat), t ≤ N ∧ iv = .int .i64 t ∧ OwnF wr w0.heap.size 23 (.slice (some ⟨H, 0, none⟩) n cH) cs ∧ Tab false T (ownC bs wn dn) wn hn dn dx dy cs t ∧ Words cs ∧ But H w2 wr) (fun iv _ => N - (intOf iv).toNat)
  case atStart =>
    exact ⟨0, _, Nat.zero_le _, rfl, ho2, ⟨by rw [List.length_replicate, HNN.out], fun x y e hx hy he => ⟨fun h => absurd h (Nat.not_lt_zero _), fun h => by cases h⟩⟩, (fun x hx => by have := List.eq_of_mem_replicate hx; subst this; decide), But.refl _ _⟩
  case round =>
    clear ho2
    obtain ⟨t, cs, ht, rfl, hown, htab, hcw, hbut⟩ := hrel
    have hEr := But.toExt hE2 (by omega) hbut
    have ⟨p0, p1, p2, p3⟩ := HB.out _ hEr
    have hwz : ((wn : Int) == 0) = false := by simp; omega
    have hus := hEr.size
    by_cases hlt : t < N
    · have hlt' : (t : Int) < (N : Int) := by omega
      obtain ⟨j, hj⟩ : ∃ j, t % wn = j := ⟨_, rfl⟩
      obtain ⟨k, hk⟩ : ∃ k, t / wn = k := ⟨_, rfl⟩
      have hjl : j < wn := by rw [← hj]; exact Nat.mod_lt _ hw1
      have hkl : k < hn := by rw [← hk]; exact Nat.div_lt_of_lt_mul (by rw [HNW.out]; exact hlt)
      have htj : k * wn + j = t := by rw [← hj, ← hk, Nat.mul_comm]; exact Nat.div_add_mod t wn
      have hm1 : (t : Int) % (wn : Int) = (j : Int) := by rw [← hj]; simp
      have hm2 : (t : Int).tmod (wn : Int) = (j : Int) := by rw [Int.tmod_eq_emod_of_nonneg (by omega)]; exact hm1
      have hm3 : (t : Int) / (wn : Int) = (k : Int) := by rw [← hk]; simp
      have hm4 : (t : Int).tdiv (wn : Int) = (k : Int) := by rw [Int.tdiv_eq_ediv_of_nonneg (by omega)]; exact hm3
      have hm5 : IntKind.i64.wrap (j : Int) = (j : Int) := wrap_small _ (by omega) (by omega)
      have hm6 : IntKind.i64.wrap (k : Int) = (k : Int) := wrap_small _ (by omega) (by omega)
      obtain ⟨X, hX⟩ : ∃ X, rk wn dx j = X := ⟨_, rfl⟩
      obtain ⟨Y, hY⟩ : ∃ Y, rk hn dy k = Y := ⟨_, rfl⟩
      have hXl : X < wn := by rw [← hX]; exact rk_lt hjl
      have hYl : Y < hn := by rw [← hY]; exact rk_lt hkl
      have hpos : pos wn hn dx dy X Y = t := by rw [← hX, ← hY, ← htj]; exact pos_cell hjl hkl
      have hXe : X = j := by rw [← hX]; unfold rk; rw [if_neg (by omega)]
      have hYe : Y = k := by rw [← hY]; unfold rk; rw [if_neg (by omega)]
      obtain rfl : X = j := hXe
      obtain ⟨wm, hwm⟩ : ∃ wm, wn - 1 = wm := ⟨_, rfl⟩
      have hwx1 : IntKind.i64.wrap ((wn : Int) - 1) = (wm : Int) := by rw [show (wn : Int) - 1 = (wm : Int) by omega]; exact wrap_small _ (by omega) (by omega)
      obtain rfl : Y = k := hYe
      obtain ⟨hm, hhm⟩ : ∃ hm, hn - 1 = hm := ⟨_, rfl⟩
      have hwy1 : IntKind.i64.wrap ((hn : Int) - 1) = (hm : Int) := by rw [show (hn : Int) - 1 = (hm : Int) by omega]; exact wrap_small _ (by omega) (by omega)
      have hpre := HTE.out X Y hXl hYl
      rw [← hpos] at htab
      have HPOS := Lib.hid hpos
      have HTABX := Lib.hid htab
      have hdirv := HDIR.out
      have hHs := hown.ge
      have HXY := Lib.hid (⟨hX, hY⟩ : rk wn dx _ = X ∧ rk hn dy _ = Y)
      clear hj hk htj hX hY hpos htab
      go_wp2_with fail
      refine region_wx0 [] (by kernel_rfl) (by kernel_rfl) ?_
      repeat ((first | refine wx_skip rfl ?_ | refine wx_nilCheck rfl rfl _ rfl _ rfl ?_ | (refine wx_float rfl rfl _ _ _ _ _ _ _ rfl rfl rfl rfl ?_; intro r hr) | (refine wx_k rfl rfl rfl (fun K hK => ?_); go_big_quiet_op; refine hK _ ?_; clear hK K) ); (try simp only [Act.put, List.setIfInBounds_toArray, List.set_cons_zero, List.set_cons_succ]); (try simp only [List.tail_nil]))
      refine wx_nil (fun W hW hF => ?_)
      replace hEr := hEr.trans hW
      replace hown := hown.ext hW
      replace hbut := hbut.ext hW
      have hsW := hW.size
      have hbsz := hbut.size
      clear p0 p1 p2 p3 hW hF
      have ⟨p0, p1, p2, p3⟩ := HB.out _ hEr
      rename_i W1
      go_wp2_with fail
      refine (HCV.out _ hEr X Y hXl hYl).mono ?_
      rintro e w3 ⟨Hc, cc, rfl, hoc, hx3⟩
      have hEw := hEr.trans hx3
      have hHcg := hoc.ge
      have hHn : H ≠ Hc := by omega
      have hownc := hown.ext hx3
      have hbut3 := hbut.ext hx3
      have hwsz := hx3.size
      have howm : ((bs.drop ((Y * wn + X) * dn)).take dn).map nrm = ownC bs wn dn X Y := by
        have hin := cube_in (dn := dn) (e := dn - 1) hXl hYl (by omega)
        exact drop_take_nrm bs _ dn (by rw [HLEN.out, HNN.out]; omega)
      have how := words_sub HWD.out ((Y * wn + X) * dn) dn
      have hol := hoc.len
      generalize (bs.drop ((Y * wn + X) * dn)).take dn = ows at hoc howm how hol
      have HOWM := Lib.hid howm
      have HOW := Lib.hid (fun i => wd_at how i)
      have HOWW := Lib.hid how
      have HOL := Lib.hid hol
      clear p0 p1 p2 p3 hx3 howm how hol hown hbut
      have ⟨p0, p1, p2, p3⟩ := HB.out _ hEw
      by_cases hp : hasP wn hn dx dy X Y
      · rw [if_pos hp] at hpre
        obtain ⟨hu1, hu2, hu3, hu4⟩ := preU_spec hp
        have hppos := pos_pre hdirv hXl hYl hp
        generalize preU dx X = uN at hu1 hu3 hpre hppos
        generalize preU dy Y = wN at hu2 hu4 hpre hppos
        have hwu : IntKind.i64.wrap ((X : Int) - dx) = (uN : Int) := by rw [← hu1]; exact wrap_small _ (by omega) (by omega)
        have hwv : IntKind.i64.wrap ((Y : Int) - dy) = (wN : Int) := by rw [← hu2]; exact wrap_small _ (by omega) (by omega)
        have HPRE := Lib.hid hpre
        have HPP := Lib.hid hppos
        have HU1 := Lib.hid (⟨by omega, by omega⟩ : (0 : Int) ≤ (uN : Int) ∧ (uN : Int) ≤ (wm : Int))
        have HU2 := Lib.hid (⟨by omega, by omega⟩ : (0 : Int) ≤ (wN : Int) ∧ (wN : Int) ≤ (hm : Int))
        clear hpre hppos hu1 hu2 hp hdirv
        go_wp2_with (first | (go_at_call 39; with_reducible refine (l00In_yes (uN : Int) 0 (wm : Int) _ HU1.out.1 HU1.out.2).mono ?_; rintro e w' ⟨rfl, rfl⟩) | (go_at_call 39; with_reducible refine (l00In_yes (wN : Int) 0 (hm : Int) _ HU2.out.1 HU2.out.2).mono ?_; rintro e w' ⟨rfl, rfl⟩))
        have hbo3 := hbo.but hbut3 (by omega)
        refine (HCO.out _ go H cH cs (by rw [HTABX.out.1, HNN.out]) hbo3 hownc.lies hHc.1 hHc.2 uN wN hu3 hu4).mono ?_
        rintro e w4 ⟨Hb, cb, rfl, hob, hx4⟩
        have hEw4 := hEw.trans hx4
        have hs4 := hx4.size
        have hHbg := hob.ge
        have hpbm := HTABX.out.read hu3 hu4 HPP.out (HTL.out uN wN) hdn
        have hpw := words_sub hcw ((wN * wn + uN) * dn) dn
        have hpbl := hob.len
        generalize (cs.drop ((wN * wn + uN) * dn)).take dn = pbs at hob hpbm hpw hpbl
        have hoc4 := hoc.ext hx4
        have hownc4 := hownc.ext hx4
        have hbut4 := hbut3.ext hx4
        have ⟨pp0, pp1⟩ := HPB.out _ hEw4
        have hq0 := HQB.out _ hEw4
        have hppl : gp < w4.heap.size := by have := hEw4.size; omega
        have hqql : gq < w4.heap.size := by have := hEw4.size; omega
        have g1 : ¬ (gp = w4.heap.size) := by omega
        have g2 : ¬ (gq = w4.heap.size) := by omega
        have g3 : ¬ (w4.heap.size = gp) := by omega
        have g4 : ¬ (w4.heap.size = gq) := by omega
        have HPBM := Lib.hid hpbm
        have HPBL := Lib.hid hpbl
        have hcbm : dn ≤ cb ∧ cb ≤ maxLen := by
          obtain ⟨A', c', he, q1, q2, _⟩ := hob.form
          simp only [Value.slice.injEq] at he
          rw [← hpbl] at q1
          omega
        clear p0 p1 p2 p3 hoc hownc hbut3 hbo3 hpbm hpbl hx4
        go_wp2_with fail
        refine calls_at (X := fun w' => Ext w4 w' ∧ Box2 w' w4.heap.size (fl a) (fl b)) ⟨(Ext.refl _).alloc _, ⟨by simp [go_sem], by simp [go_sem]⟩⟩ ?_
        rintro w5 ⟨hx5, hpb5⟩
        have hrp := hob.reads
        refine (l04Jumps_any (some ⟨Hb, 0, none⟩) dn cb pbs a b w5 w4.heap.size hpb5 (hrp.ext hx5) hpw HIS.out.1.1 HIS.out.2.1 hdn hd8 hcbm.1 hcbm.2).mono ?_
        rintro e w6 ⟨A6, c6, jbs, rfl, hoj, hjm, hjw, hx6⟩
        rw [HIS.out.1.2, HIS.out.2.2] at hjm
        have hjl2 : jbs.length = dn := by have := congrArg List.length hjm; rw [List.length_map, jumpL_len, List.length_map, ← HPBL.out] at this; exact this
        obtain ⟨Hj, rfl⟩ := hoj.at (by omega)
        rw [hjl2] at hoj ⊢
        have hHjg := hoj.ge
        have hx46 := hx5.trans hx6
        have hs5 := hx5.size
        have hs46 := hx46.size
        have hEw6 := hEw4.trans hx46
        have hoc6 := hoc4.ext hx46
        have hownc6 := hownc4.ext hx46
        have hbut6 := hbut4.ext hx46
        have HJM := Lib.hid (fun i => getD_of_map hjm i)
        have HJL := Lib.hid hjl2
        have HJC := Lib.hid (fun i (hi : i < dn) => hoj.cell (i := i) (by rw [hjl2]; exact hi))
        have hpr6 := hrp.ext hx46
        have HLST := Lib.hid (fun (w0 : World) (hb : But Hc w6 w0) (W : World) (hW : Ext w0 W) => l04Least_any (some ⟨Hb, 0, none⟩) dn cb pbs W ((reads_but hpr6 hb (fun b hb => by cases hb; dsimp only; omega)).ext hW) hdn (by omega) hcbm.1 hcbm.2)
        obtain ⟨ml, hml⟩ : ∃ ml, lstL pbs = ml := ⟨_, rfl⟩
        rw [hml] at HLST
        have HML := Lib.hid (show nrm ml = lstL (pbs.map nrm) by rw [← hml]; exact lstL_nrm pbs)
        have HPW := Lib.hid hpw
        clear hoc4 hownc4 hbut4 hx5 hx6 hx46 hjm hjw hjl2 hpr6 hrp hml hpb5 g1 g2 g3 g4 pp0 pp1 hq0 hoj hob hpw
        go_wp2_with fail
        go_loopw [23] (fun iv wr => ∃ e : Nat, e ≤ dn ∧ iv = .int .i64 e ∧ FilB w6 wr W.heap.size 23 Hc dn cc ows e (fun e => fop .add ((jumpL (pbs.map nrm) O M).getD e 0) ((ows.map nrm).getD e 0))) (fun iv _ => dn - (intOf iv).toNat)
        case atStart => exact ⟨0, Nat.zero_le _, rfl, FilB.start hoc6⟩
        case round =>
          clear hoc6
          obtain ⟨e, he, rfl, hfil⟩ := hrel
          by_cases hlte : e < dn
          · have hcO := hfil.cell hlte (Nat.le_refl _)
            have hcJ := cell_but (HJC.out e hlte) hfil.but (by omega)
            have hvo2 := HOW.out e
            obtain ⟨vj, hvj⟩ : ∃ v, jbs.getD e 0 = v := ⟨_, rfl⟩
            obtain ⟨vo, hvo⟩ : ∃ v, ows.getD e 0 = v := ⟨_, rfl⟩
            have HVJ := Lib.hid hvj
            have HVO := Lib.hid hvo
            rw [hvj] at hcJ
            rw [hvo] at hcO hvo2
            have hk0 : (0 : Int) ≤ (e : Int) := by omega
            have hk1 : (e : Int) < (dn : Int) := by omega
            have HLW := Lib.hid (fun (W : World) hW => HLST.out _ hfil.but W hW)
            clear hvj hvo
            go_wp2_with fail
            refine region_wx 12 [] (by kernel_rfl) (by kernel_rfl) ?_
            simp only [List.take_succ_cons, List.take_zero, List.drop_succ_cons, List.drop_zero]
            repeat ((first | refine wx_skip rfl ?_ | refine wx_nilCheck rfl rfl _ rfl _ rfl ?_ | (refine wx_float rfl rfl _ _ _ _ _ _ _ rfl rfl rfl rfl ?_; intro r hr) | (refine wx_k rfl rfl rfl (fun K hK => ?_); go_big_quiet_op; refine hK _ ?_; clear hK K) ); (try simp only [Act.put, List.setIfInBounds_toArray, List.set_cons_zero, List.set_cons_succ]); (try simp only [List.tail_nil]))
            refine wx_nil (fun W hW hF => ?_)
            have hfW := hfil.later hW
            have hct := hfW.cell hlte (Nat.le_refl _)
            have hcf := hfW.cool e
            have hfil' := hfW.put hlte (r := r) (by show Is r (fop .add ((jumpL (pbs.map nrm) O M).getD e 0) ((ows.map nrm).getD e 0)); rw [← HJM.out e, getD_map_nrm, HVJ.out, HVO.out, add_nn]; exact hr)
            clear hF hfil hcO hcJ hW hfW HLW
            go_wp2
            go_roundw
            case rel => exact ⟨e + 1, by omega, by go_num, hfil'⟩
            case measure => simp [intOf]; omega
          · have e1 : e = dn := by omega
            rw [e1] at hfil
            obtain ⟨kvs, hkl, hock, hkm, hkw⟩ := hfil.done
            have hbc := hfil.but
            have hEw7 := But.toExt hEw6 (by omega) hbc
            have hownc := hownc6.but hbc (by omega)
            have hbut3 := hbut6.trans2 hbc (by omega)
            have ⟨p0, p1, p2, p3⟩ := HB.out _ hEw7
            have HKM := Lib.hid hkm
            clear hfil hEw6 hownc6 hbut6 hbc hkm
            replace hEw := hEw7
            clear hEw7
            obtain ⟨m1, hm1'⟩ : ∃ m1, wn * Y = m1 := ⟨_, rfl⟩
            obtain ⟨q1, hq1⟩ : ∃ q1, X + m1 = q1 := ⟨_, rfl⟩
            obtain ⟨kk, hkk⟩ : ∃ kk, q1 * dn = kk := ⟨_, rfl⟩
            have hkk2 : (Y * wn + X) * dn = kk := by rw [← hkk, ← hq1, ← hm1', Nat.mul_comm wn Y, Nat.add_comm X]
            have hin := cube_in (dn := dn) (e := dn - 1) hXl hYl (by omega)
            rw [hkk2, ← HNN.out] at hin
            have hn2048 := HN2.out
            have hqk : q1 ≤ kk := by rw [← hkk]; exact Nat.le_mul_of_pos_right q1 hdn
            have hu1 : IntKind.i64.wrap ((wn : Int) * (Y : Int)) = (m1 : Int) := by rw [show (wn : Int) * (Y : Int) = (m1 : Int) by rw [← hm1']; simp]; exact wrap_small _ (by omega) (by omega)
            have hu2 : IntKind.i64.wrap ((X : Int) + (m1 : Int)) = (q1 : Int) := by rw [show (X : Int) + (m1 : Int) = (q1 : Int) by omega]; exact wrap_small _ (by omega) (by omega)
            have hu3 : IntKind.i64.wrap ((q1 : Int) * (dn : Int)) = (kk : Int) := by rw [show (q1 : Int) * (dn : Int) = (kk : Int) by rw [← hkk]; simp]; exact wrap_small _ (by omega) (by omega)
            have HKK := Lib.hid hkk2
            clear hm1' hq1 hkk hkk2 hqk
            go_wp2_with fail
            refine region_wx0 [] (by kernel_rfl) (by kernel_rfl) ?_
            repeat ((first | refine wx_skip rfl ?_ | refine wx_nilCheck rfl rfl _ rfl _ rfl ?_ | (refine wx_float rfl rfl _ _ _ _ _ _ _ rfl rfl rfl rfl ?_; intro r hr) | (refine wx_k rfl rfl rfl (fun K hK => ?_); go_big_quiet_op; refine hK _ ?_; clear hK K) ); (try simp only [Act.put, List.setIfInBounds_toArray, List.set_cons_zero, List.set_cons_succ]); (try simp only [List.tail_nil]))
            refine wx_nil (fun W hW hF => ?_)
            replace hEw := hEw.trans hW
            replace hownc := hownc.ext hW
            replace hbut3 := hbut3.ext hW
            replace hock := hock.ext hW
            clear p0 p1 p2 p3 hW hF
            rename_i W2
            go_wp2_with fail
            have hcsl : cs.length = n := by rw [HTABX.out.1, HNN.out]
            have hksl : (kvs).length = dn := hock.len.symm
            have HCSL := Lib.hid hcsl
            have HKSL := Lib.hid hksl
            have HKSC := Lib.hid (fun i (hi : i < dn) => hock.cell (i := i) (by rw [hksl]; exact hi))
            clear hcsl hksl
            go_loopw [25] (fun iv wr => ∃ e : Nat, e ≤ dn ∧ iv = .int .i64 e ∧ OwnF wr w0.heap.size 23 (.slice (some ⟨H, 0, none⟩) n cH) (lay cs kk ((kvs).take e)) ∧ But H W wr) (fun iv _ => dn - (intOf iv).toNat)
            case atStart => exact ⟨0, Nat.zero_le _, rfl, by rw [List.take_zero, lay_nil]; exact hownc, But.refl _ _⟩
            case round =>
              clear hownc
              obtain ⟨e, he, rfl, hownl, hbl⟩ := hrel
              by_cases hlte : e < dn
              · have hb5 := hbut3.trans hbl
                have ⟨o0, o1, o2, o3⟩ := hbo.but hb5 (by omega)
                have hck := cell_but (HKSC.out e hlte) hbl (by omega)
                obtain ⟨ke, hke⟩ : ∃ ke, kk + e = ke := ⟨_, rfl⟩
                have hwk : IntKind.i64.wrap ((kk : Int) + (e : Int)) = (ke : Int) := by rw [show (kk : Int) + (e : Int) = (ke : Int) by omega]; exact wrap_small _ (by omega) (by omega)
                have hll : (lay cs kk ((kvs).take e)).length = n := by rw [lay_length (by rw [List.length_take, HKSL.out, HCSL.out]; omega)]; exact HCSL.out
                have hlp := lay_put (cs := cs) (ks := kvs) (kk := kk) (e := e) (by rw [HKSL.out, HCSL.out]; omega) (by rw [HKSL.out]; exact hlte)
                have hct0 := hownl.cell (i := ke) (by rw [hll]; omega)
                have hcf0 := hownl.cool ke
                have hk0 : (0 : Int) ≤ (e : Int) := by omega
                have hk1 : (e : Int) < (dn : Int) := by omega
                have hk2 : (0 : Int) ≤ (ke : Int) := by omega
                have hk3 : (ke : Int) < (n : Int) := by omega
                generalize (lay cs kk ((kvs).take e)).getD ke 0 = old at hct0
                obtain ⟨kv, hkv⟩ : ∃ kv, (kvs).getD e 0 = kv := ⟨_, rfl⟩
                rw [hkv] at hck hlp
                rw [hke] at hlp
                have HLP := Lib.hid hlp
                clear hke hll hlp hkv hb5
                go_wp2_with fail
                refine region_wx 10 [] (by kernel_rfl) (by kernel_rfl) ?_
                simp only [List.take_succ_cons, List.take_zero, List.drop_succ_cons, List.drop_zero]
                repeat ((first | refine wx_skip rfl ?_ | refine wx_nilCheck rfl rfl _ rfl _ rfl ?_ | (refine wx_float rfl rfl _ _ _ _ _ _ _ rfl rfl rfl rfl ?_; intro r hr) | (refine wx_k rfl rfl rfl (fun K hK => ?_); go_big_quiet_op; refine hK _ ?_; clear hK K) ); (try simp only [Act.put, List.setIfInBounds_toArray, List.set_cons_zero, List.set_cons_succ]); (try simp only [List.tail_nil]))
                refine wx_nil (fun W hW hF => ?_)
                have hct := cell_ext hct0 hW
                have hcf := (hW.marks _ _ (by rw [hct0]; rfl)).trans hcf0
                have hbl2 := (hbl.ext hW).set ke (fl kv)
                have hownl2 := (hownl.ext hW).put ke kv
                rw [HLP.out] at hownl2
                clear HLP hownl hbl hW hF hct0 hcf0 hck o0 o1 o2 o3
                go_wp2
                go_roundw
                case rel => exact ⟨e + 1, by omega, by go_num, hownl2, hbl2⟩
                case measure => simp [intOf]; omega
              · have e1 : e = dn := by omega
                rw [e1, List.take_of_length_le (by rw [HKSL.out]; exact Nat.le_refl _)] at hownl
                have hfin := HTABX.out.lay hXl hYl hdn HKSL.out (by rw [HKM.out, HPBM.out, HOWM.out, HPRE.out]; show _ = rawG O M _ _; unfold rawG; rw [ownC_len])
                rw [HPOS.out, HKK.out] at hfin
                have hcw2 := words_lay hcw hkw kk
                have hb5 := hbut3.trans hbl
                clear hbl
                go_wp2
                go_roundw
                case rel => exact ⟨t + 1, _, by omega, by go_num, hownl, hfin, hcw2, hb5⟩
                case measure => simp [intOf]; omega
      · rw [if_neg hp] at hpre
        have hwu : IntKind.i64.wrap ((X : Int) - dx) = (X : Int) - dx := wrap_small _ (by have := hdirv.x; omega) (by have := hdirv.x; omega)
        have hwv : IntKind.i64.wrap ((Y : Int) - dy) = (Y : Int) - dy := wrap_small _ (by have := hdirv.y; omega) (by have := hdirv.y; omega)
        have HPRE := Lib.hid hpre
        by_cases hpx : 0 ≤ (X : Int) - dx ∧ (X : Int) - dx ≤ (wm : Int)
        · have hpy : ¬ (0 ≤ (Y : Int) - dy ∧ (Y : Int) - dy ≤ (hm : Int)) := fun h => hp ⟨by omega, by omega⟩
          have HPX := Lib.hid hpx
          have HPY := Lib.hid (by omega : (Y : Int) - dy < 0 ∨ (hm : Int) < (Y : Int) - dy)
          clear hpre hp hdirv hpx hpy
          go_wp2_with (first | (go_at_call 39; with_reducible refine (l00In_yes ((X : Int) - dx) 0 (wm : Int) _ HPX.out.1 HPX.out.2).mono ?_; rintro e w' ⟨rfl, rfl⟩) | (go_at_call 39; with_reducible refine (l00In_no ((Y : Int) - dy) 0 (hm : Int) _ HPY.out).mono ?_; rintro e w' ⟨rfl, rfl⟩))
          have hock := hoc
          have hkw := HOWW.out
          clear hoc
          obtain ⟨m1, hm1'⟩ : ∃ m1, wn * Y = m1 := ⟨_, rfl⟩
          obtain ⟨q1, hq1⟩ : ∃ q1, X + m1 = q1 := ⟨_, rfl⟩
          obtain ⟨kk, hkk⟩ : ∃ kk, q1 * dn = kk := ⟨_, rfl⟩
          have hkk2 : (Y * wn + X) * dn = kk := by rw [← hkk, ← hq1, ← hm1', Nat.mul_comm wn Y, Nat.add_comm X]
          have hin := cube_in (dn := dn) (e := dn - 1) hXl hYl (by omega)
          rw [hkk2, ← HNN.out] at hin
          have hn2048 := HN2.out
          have hqk : q1 ≤ kk := by rw [← hkk]; exact Nat.le_mul_of_pos_right q1 hdn
          have hu1 : IntKind.i64.wrap ((wn : Int) * (Y : Int)) = (m1 : Int) := by rw [show (wn : Int) * (Y : Int) = (m1 : Int) by rw [← hm1']; simp]; exact wrap_small _ (by omega) (by omega)
          have hu2 : IntKind.i64.wrap ((X : Int) + (m1 : Int)) = (q1 : Int) := by rw [show (X : Int) + (m1 : Int) = (q1 : Int) by omega]; exact wrap_small _ (by omega) (by omega)
          have hu3 : IntKind.i64.wrap ((q1 : Int) * (dn : Int)) = (kk : Int) := by rw [show (q1 : Int) * (dn : Int) = (kk : Int) by rw [← hkk]; simp]; exact wrap_small _ (by omega) (by omega)
          have HKK := Lib.hid hkk2
          clear hm1' hq1 hkk hkk2 hqk
          go_wp2_with fail
          refine region_wx0 [] (by kernel_rfl) (by kernel_rfl) ?_
          repeat ((first | refine wx_skip rfl ?_ | refine wx_nilCheck rfl rfl _ rfl _ rfl ?_ | (refine wx_float rfl rfl _ _ _ _ _ _ _ rfl rfl rfl rfl ?_; intro r hr) | (refine wx_k rfl rfl rfl (fun K hK => ?_); go_big_quiet_op; refine hK _ ?_; clear hK K) ); (try simp only [Act.put, List.setIfInBounds_toArray, List.set_cons_zero, List.set_cons_succ]); (try simp only [List.tail_nil]))
          refine wx_nil (fun W hW hF => ?_)
          replace hEw := hEw.trans hW
          replace hownc := hownc.ext hW
          replace hbut3 := hbut3.ext hW
          replace hock := hock.ext hW
          clear p0 p1 p2 p3 hW hF
          rename_i W2
          go_wp2_with fail
          have hcsl : cs.length = n := by rw [HTABX.out.1, HNN.out]
          have hksl : (ows).length = dn := hock.len.symm
          have HCSL := Lib.hid hcsl
          have HKSL := Lib.hid hksl
          have HKSC := Lib.hid (fun i (hi : i < dn) => hock.cell (i := i) (by rw [hksl]; exact hi))
          clear hcsl hksl
          go_loopw [25] (fun iv wr => ∃ e : Nat, e ≤ dn ∧ iv = .int .i64 e ∧ OwnF wr w0.heap.size 23 (.slice (some ⟨H, 0, none⟩) n cH) (lay cs kk ((ows).take e)) ∧ But H W wr) (fun iv _ => dn - (intOf iv).toNat)
          case atStart => exact ⟨0, Nat.zero_le _, rfl, by rw [List.take_zero, lay_nil]; exact hownc, But.refl _ _⟩
          case round =>
            clear hownc
            obtain ⟨e, he, rfl, hownl, hbl⟩ := hrel
            by_cases hlte : e < dn
            · have hb5 := hbut3.trans hbl
              have ⟨o0, o1, o2, o3⟩ := hbo.but hb5 (by omega)
              have hck := cell_but (HKSC.out e hlte) hbl (by omega)
              obtain ⟨ke, hke⟩ : ∃ ke, kk + e = ke := ⟨_, rfl⟩
              have hwk : IntKind.i64.wrap ((kk : Int) + (e : Int)) = (ke : Int) := by rw [show (kk : Int) + (e : Int) = (ke : Int) by omega]; exact wrap_small _ (by omega) (by omega)
              have hll : (lay cs kk ((ows).take e)).length = n := by rw [lay_length (by rw [List.length_take, HKSL.out, HCSL.out]; omega)]; exact HCSL.out
              have hlp := lay_put (cs := cs) (ks := ows) (kk := kk) (e := e) (by rw [HKSL.out, HCSL.out]; omega) (by rw [HKSL.out]; exact hlte)
              have hct0 := hownl.cell (i := ke) (by rw [hll]; omega)
              have hcf0 := hownl.cool ke
              have hk0 : (0 : Int) ≤ (e : Int) := by omega
              have hk1 : (e : Int) < (dn : Int) := by omega
              have hk2 : (0 : Int) ≤ (ke : Int) := by omega
              have hk3 : (ke : Int) < (n : Int) := by omega
              generalize (lay cs kk ((ows).take e)).getD ke 0 = old at hct0
              obtain ⟨kv, hkv⟩ : ∃ kv, (ows).getD e 0 = kv := ⟨_, rfl⟩
              rw [hkv] at hck hlp
              rw [hke] at hlp
              have HLP := Lib.hid hlp
              clear hke hll hlp hkv hb5
              go_wp2_with fail
              refine region_wx 10 [] (by kernel_rfl) (by kernel_rfl) ?_
              simp only [List.take_succ_cons, List.take_zero, List.drop_succ_cons, List.drop_zero]
              repeat ((first | refine wx_skip rfl ?_ | refine wx_nilCheck rfl rfl _ rfl _ rfl ?_ | (refine wx_float rfl rfl _ _ _ _ _ _ _ rfl rfl rfl rfl ?_; intro r hr) | (refine wx_k rfl rfl rfl (fun K hK => ?_); go_big_quiet_op; refine hK _ ?_; clear hK K) ); (try simp only [Act.put, List.setIfInBounds_toArray, List.set_cons_zero, List.set_cons_succ]); (try simp only [List.tail_nil]))
              refine wx_nil (fun W hW hF => ?_)
              have hct := cell_ext hct0 hW
              have hcf := (hW.marks _ _ (by rw [hct0]; rfl)).trans hcf0
              have hbl2 := (hbl.ext hW).set ke (fl kv)
              have hownl2 := (hownl.ext hW).put ke kv
              rw [HLP.out] at hownl2
              clear HLP hownl hbl hW hF hct0 hcf0 hck o0 o1 o2 o3
              go_wp2
              go_roundw
              case rel => exact ⟨e + 1, by omega, by go_num, hownl2, hbl2⟩
              case measure => simp [intOf]; omega
            · have e1 : e = dn := by omega
              rw [e1, List.take_of_length_le (by rw [HKSL.out]; exact Nat.le_refl _)] at hownl
              have hfin := HTABX.out.lay hXl hYl hdn HKSL.out (by rw [HOWM.out, HPRE.out])
              rw [HPOS.out, HKK.out] at hfin
              have hcw2 := words_lay hcw hkw kk
              have hb5 := hbut3.trans hbl
              clear hbl
              go_wp2
              go_roundw
              case rel => exact ⟨t + 1, _, by omega, by go_num, hownl, hfin, hcw2, hb5⟩
              case measure => simp [intOf]; omega
        · have HPX := Lib.hid (by omega : (X : Int) - dx < 0 ∨ (wm : Int) < (X : Int) - dx)
          clear hpre hp hdirv hpx
          go_wp2_with (first | (go_at_call 39; with_reducible refine (l00In_no ((X : Int) - dx) 0 (wm : Int) _ HPX.out).mono ?_; rintro e w' ⟨rfl, rfl⟩))
          have hock := hoc
          have hkw := HOWW.out
          clear hoc
          obtain ⟨m1, hm1'⟩ : ∃ m1, wn * Y = m1 := ⟨_, rfl⟩
          obtain ⟨q1, hq1⟩ : ∃ q1, X + m1 = q1 := ⟨_, rfl⟩
          obtain ⟨kk, hkk⟩ : ∃ kk, q1 * dn = kk := ⟨_, rfl⟩
          have hkk2 : (Y * wn + X) * dn = kk := by rw [← hkk, ← hq1, ← hm1', Nat.mul_comm wn Y, Nat.add_comm X]
          have hin := cube_in (dn := dn) (e := dn - 1) hXl hYl (by omega)
          rw [hkk2, ← HNN.out] at hin
          have hn2048 := HN2.out
          have hqk : q1 ≤ kk := by rw [← hkk]; exact Nat.le_mul_of_pos_right q1 hdn
          have hu1 : IntKind.i64.wrap ((wn : Int) * (Y : Int)) = (m1 : Int) := by rw [show (wn : Int) * (Y : Int) = (m1 : Int) by rw [← hm1']; simp]; exact wrap_small _ (by omega) (by omega)
          have hu2 : IntKind.i64.wrap ((X : Int) + (m1 : Int)) = (q1 : Int) := by rw [show (X : Int) + (m1 : Int) = (q1 : Int) by omega]; exact wrap_small _ (by omega) (by omega)
          have hu3 : IntKind.i64.wrap ((q1 : Int) * (dn : Int)) = (kk : Int) := by rw [show (q1 : Int) * (dn : Int) = (kk : Int) by rw [← hkk]; simp]; exact wrap_small _ (by omega) (by omega)
          have HKK := Lib.hid hkk2
          clear hm1' hq1 hkk hkk2 hqk
          go_wp2_with fail
          refine region_wx0 [] (by kernel_rfl) (by kernel_rfl) ?_
          repeat ((first | refine wx_skip rfl ?_ | refine wx_nilCheck rfl rfl _ rfl _ rfl ?_ | (refine wx_float rfl rfl _ _ _ _ _ _ _ rfl rfl rfl rfl ?_; intro r hr) | (refine wx_k rfl rfl rfl (fun K hK => ?_); go_big_quiet_op; refine hK _ ?_; clear hK K) ); (try simp only [Act.put, List.setIfInBounds_toArray, List.set_cons_zero, List.set_cons_succ]); (try simp only [List.tail_nil]))
          refine wx_nil (fun W hW hF => ?_)
          replace hEw := hEw.trans hW
          replace hownc := hownc.ext hW
          replace hbut3 := hbut3.ext hW
          replace hock := hock.ext hW
          clear p0 p1 p2 p3 hW hF
          rename_i W2
          go_wp2_with fail
          have hcsl : cs.length = n := by rw [HTABX.out.1, HNN.out]
          have hksl : (ows).length = dn := hock.len.symm
          have HCSL := Lib.hid hcsl
          have HKSL := Lib.hid hksl
          have HKSC := Lib.hid (fun i (hi : i < dn) => hock.cell (i := i) (by rw [hksl]; exact hi))
          clear hcsl hksl
          go_loopw [25] (fun iv wr => ∃ e : Nat, e ≤ dn ∧ iv = .int .i64 e ∧ OwnF wr w0.heap.size 23 (.slice (some ⟨H, 0, none⟩) n cH) (lay cs kk ((ows).take e)) ∧ But H W wr) (fun iv _ => dn - (intOf iv).toNat)
          case atStart => exact ⟨0, Nat.zero_le _, rfl, by rw [List.take_zero, lay_nil]; exact hownc, But.refl _ _⟩
          case round =>
            clear hownc
            obtain ⟨e, he, rfl, hownl, hbl⟩ := hrel
            by_cases hlte : e < dn
            · have hb5 := hbut3.trans hbl
              have ⟨o0, o1, o2, o3⟩ := hbo.but hb5 (by omega)
              have hck := cell_but (HKSC.out e hlte) hbl (by omega)
              obtain ⟨ke, hke⟩ : ∃ ke, kk + e = ke := ⟨_, rfl⟩
              have hwk : IntKind.i64.wrap ((kk : Int) + (e : Int)) = (ke : Int) := by rw [show (kk : Int) + (e : Int) = (ke : Int) by omega]; exact wrap_small _ (by omega) (by omega)
              have hll : (lay cs kk ((ows).take e)).length = n := by rw [lay_length (by rw [List.length_take, HKSL.out, HCSL.out]; omega)]; exact HCSL.out
              have hlp := lay_put (cs := cs) (ks := ows) (kk := kk) (e := e) (by rw [HKSL.out, HCSL.out]; omega) (by rw [HKSL.out]; exact hlte)
              have hct0 := hownl.cell (i := ke) (by rw [hll]; omega)
              have hcf0 := hownl.cool ke
              have hk0 : (0 : Int) ≤ (e : Int) := by omega
              have hk1 : (e : Int) < (dn : Int) := by omega
              have hk2 : (0 : Int) ≤ (ke : Int) := by omega
              have hk3 : (ke : Int) < (n : Int) := by omega
              generalize (lay cs kk ((ows).take e)).getD ke 0 = old at hct0
              obtain ⟨kv, hkv⟩ : ∃ kv, (ows).getD e 0 = kv := ⟨_, rfl⟩
              rw [hkv] at hck hlp
              rw [hke] at hlp
              have HLP := Lib.hid hlp
              clear hke hll hlp hkv hb5
              go_wp2_with fail
              refine region_wx 10 [] (by kernel_rfl) (by kernel_rfl) ?_
              simp only [List.take_succ_cons, List.take_zero, List.drop_succ_cons, List.drop_zero]
              repeat ((first | refine wx_skip rfl ?_ | refine wx_nilCheck rfl rfl _ rfl _ rfl ?_ | (refine wx_float rfl rfl _ _ _ _ _ _ _ rfl rfl rfl rfl ?_; intro r hr) | (refine wx_k rfl rfl rfl (fun K hK => ?_); go_big_quiet_op; refine hK _ ?_; clear hK K) ); (try simp only [Act.put, List.setIfInBounds_toArray, List.set_cons_zero, List.set_cons_succ]); (try simp only [List.tail_nil]))
              refine wx_nil (fun W hW hF => ?_)
              have hct := cell_ext hct0 hW
              have hcf := (hW.marks _ _ (by rw [hct0]; rfl)).trans hcf0
              have hbl2 := (hbl.ext hW).set ke (fl kv)
              have hownl2 := (hownl.ext hW).put ke kv
              rw [HLP.out] at hownl2
              clear HLP hownl hbl hW hF hct0 hcf0 hck o0 o1 o2 o3
              go_wp2
              go_roundw
              case rel => exact ⟨e + 1, by omega, by go_num, hownl2, hbl2⟩
              case measure => simp [intOf]; omega
            · have e1 : e = dn := by omega
              rw [e1, List.take_of_length_le (by rw [HKSL.out]; exact Nat.le_refl _)] at hownl
              have hfin := HTABX.out.lay hXl hYl hdn HKSL.out (by rw [HOWM.out, HPRE.out])
              rw [HPOS.out, HKK.out] at hfin
              have hcw2 := words_lay hcw hkw kk
              have hb5 := hbut3.trans hbl
              clear hbl
              go_wp2
              go_roundw
              case rel => exact ⟨t + 1, _, by omega, by go_num, hownl, hfin, hcw2, hb5⟩
              case measure => simp [intOf]; omega
    · have e1 : t = N := by omega
      rw [e1, ← HNW.out] at htab
      have hlike := htab.done
      have hltF : ¬ ((t : Int) < (N : Int)) := by omega
      clear htab
      go_wp2_with fail
      refine region_wx0 [] (by kernel_rfl) (by kernel_rfl) ?_
      repeat ((first | refine wx_skip rfl ?_ | refine wx_nilCheck rfl rfl _ rfl _ rfl ?_ | (refine wx_float rfl rfl _ _ _ _ _ _ _ rfl rfl rfl rfl ?_; intro r hr) | (refine wx_k rfl rfl rfl (fun K hK => ?_); go_big_quiet_op; refine hK _ ?_; clear hK K) ); (try simp only [Act.put, List.setIfInBounds_toArray, List.set_cons_zero, List.set_cons_succ]); (try simp only [List.tail_nil]))
      refine wx_nil (fun W hW hF => ?_)
      replace hEr := hEr.trans hW
      replace hown := hown.ext hW
      replace hbut := hbut.ext hW
      have ⟨c0, c1, c2, c3, f0, f1, f2, f3⟩ := hr2.but hbut (by omega)
      have ⟨o0, o1, o2, o3⟩ := hbo.but hbut (by omega)
      clear hbut hW hF p0 p1 p2 p3
      go_wp2
      refine bodyPost_ret (v := .agg #[.int .i64 wn, .int .i64 hn, .int .i64 dn, .slice (some ⟨H, 0, none⟩) n cH]) (by simp [results, Try.results63, go_sem, *]) rfl ⟨H, cH, cs, rfl, ?_, hlike, hcw, ?_⟩
      · refine OwnF.weaken (base := w0.heap.size) ?_ (by omega)
        repeat (first | (with_reducible exact hown) | (with_reducible refine OwnF.set_below ?_ (by dsimp only; omega) _))
      · repeat (first | (with_reducible exact hEr) | (with_reducible refine Ext.setCell ?_ (by dsimp only; omega) _))
end Go.Proofs.Ythkfbmboiabolaa
