/- Contracts: a volume that is told along a direction. -/
import Derived.Test.YthkfbmboiabolaaPathT
import Derived.Test.YthkfbmboiabolaaOrdered
import Derived.Test.YthkfbmboiabolaaClos
import Derived.Test.YthkfbmboiabolaaWay
import Derived.Laws.CopyOwn
namespace Go.Proofs.Ythkfbmboiabolaa
open Go.RowKit
set_option linter.unusedVariables false

/-- The costs of a cell, all not-a-numbers one. -/
def ownC (bs : List Nat) (wn dn : Nat) (x y : Nat) : List Nat := (List.range dn).map fun e => nrm (bs.getD ((y * wn + x) * dn + e) 0)
theorem ownC_len (bs : List Nat) (wn dn x y : Nat) : (ownC bs wn dn x y).length = dn := by simp [ownC]
theorem ownC_getD {bs : List Nat} {wn dn x y e : Nat} (he : e < dn) : (ownC bs wn dn x y).getD e 0 = nrm (bs.getD ((y * wn + x) * dn + e) 0) := by
  simp [ownC, List.getD_eq_getElem?_getD, he]
theorem cell_lin' (wn j k : Nat) : cellN (wn : Int) (j : Int) (k : Int) = k * wn + j := by rw [cellN_nat, Nat.mul_comm, Nat.add_comm]
theorem way_dir (d : Int) (h0 : 0 ≤ d) (h1 : d ≤ 7) : Dir (wayX d) (wayY d) := by
  rcases dirs d h0 h1 with rfl | rfl | rfl | rfl | rfl | rfl | rfl | rfl <;> exact ⟨by decide, by decide, by decide⟩
theorem ordN_rk (n : Nat) (d : Int) (i : Nat) : ordN n (decide (d < 0)) i = rk n d i := by
  unfold ordN rk
  by_cases h : d < 0
  · rw [decide_eq_true h, if_pos h]; rfl
  · rw [decide_eq_false h, if_neg h]; rfl
theorem cells3_cell_eq {F : Nat → Nat → Nat → Nat} {b : List Nat} {wn hn dn : Nat} (hm : b.map nrm = cells3 F wn dn (wn * hn * dn)) {x y e : Nat} (hx : x < wn) (hy : y < hn) (he : e < dn) : nrm (b.getD ((y * wn + x) * dn + e) 0) = F x y e := by
  have hlen : b.length = wn * hn * dn := by have := congrArg List.length hm; rwa [List.length_map, cells3_length] at this
  have hi := cube_in hx hy he
  have h1 := congrArg (fun l => l[(y * wn + x) * dn + e]?) hm
  simp only [List.getElem?_map] at h1
  rw [List.getElem?_eq_getElem (by omega)] at h1
  obtain ⟨q1, q2, q3⟩ := cube_at (d := dn) y hx he
  have h2 : (cells3 F wn dn (wn * hn * dn))[(y * wn + x) * dn + e]? = some (F x y e) := by
    unfold cells3
    rw [List.getElem?_map, List.getElem?_range hi, Option.map_some, q1, q2, q3]
  rw [h2] at h1
  simp only [Option.map_some, Option.some.injEq] at h1
  rw [List.getD_eq_getElem?_getD, List.getElem?_eq_getElem (by omega), Option.getD_some]
  exact h1
theorem info1 : (Try.prog.info? 23).map (·.size) = some 1 := by kernel_rfl
theorem wla_at {P : Program} {ops : Array Oper} {Q : Exit → Act → World → Prop} {l : List Oper} {a : Act} {w : World} {X : World → Prop} (hX : X w) (h : ∀ w', X w' → wpList P ops Q l a w') : wpList P ops Q l a w := h w hX
theorem copy_here {P : Program} {ops : Array Oper} {rest : List Oper} {o : Oper} {a : Act} {Q : Exit → Act → World → Prop} {w : World} (x y : Operand) (t t' : TypeId) (ho : o.op = .call { callee := .builtin .copy, args := #[x, y], argTypes := #[t, t'] })
    (h : Hid (wpList P ops Q (o :: rest) a w)) : wpList P ops Q (o :: rest) a w := h.out
theorem words_sub {bs : List Nat} (h : Words bs) (k d : Nat) : Words ((bs.drop k).take d) := fun b hb => h b (List.mem_of_mem_drop (List.mem_of_mem_take hb))
theorem words_lay {cs b : List Nat} (h : Words cs) (hb : Words b) (k : Nat) : Words (lay cs k b) := fun x hx => by
  unfold lay at hx
  rcases List.mem_append.1 hx with hx | hx
  · exact h x (List.mem_of_mem_take hx)
  · rcases List.mem_append.1 hx with hx | hx
    · exact hb x hx
    · exact h x (List.mem_of_mem_drop hx)
theorem along1 (wn hn dn gb off n c : Nat) (bs : List Nat) (gv : Nat) (x y e : Nat) (U : World) (hB : Box4 U gv (.int .i64 wn) (.int .i64 hn) (.int .i64 dn) (.slice (some ⟨gb, off, none⟩) n c)) (hl : Lies U gb off bs) (hlen : bs.length = n) (hwd : Words bs) (hnc : n ≤ c) (hcm : c ≤ maxLen) (hv : VVol wn hn dn n) (hx : x < wn) (hy : y < hn) (he : e < dn) :
    Calls Try.prog 98 #[.int .i64 x, .int .i64 y, .int .i64 e, .pointer (some ⟨gv, 0, none⟩)] U fun e' U' => ∃ r, e' = .returned (.float .f32 r) ∧ Is r (nrm (bs.getD (cellN wn ((x : Int)) ((y : Int)) * dn + e) 0)) ∧ Ext U U' := by
  have hs := hv.1
  have h1 := hs.2.1
  have h2 := hs.2.2.2.1
  have hd8 := hv.2.2.1
  have hbx : 0 ≤ ((x : Int)) ∧ ((x : Int)) ≤ (wn : Int) - 1 := ⟨by omega, by omega⟩
  have hby : 0 ≤ ((y : Int)) ∧ ((y : Int)) ≤ (hn : Int) - 1 := ⟨by omega, by omega⟩
  have hcell := fun (W : World) (hx' : Ext U W) => cellC_any gv wn hn dn gb off n c ((x : Int)) ((y : Int)) W (hB.ext hx') hnc hcm hv hbx hby
  have hkn := cell_k hv hbx hby
  generalize cellN (wn : Int) ((x : Int)) ((y : Int)) * dn = k at hcell hkn ⊢
  have hcv := hl (k + e) (by omega)
  rw [← Nat.add_assoc] at hcv
  have hwv := wd_at hwd (k + e)
  generalize bs.getD (k + e) 0 = v at hcv hwv ⊢
  have HC := Lib.hid hcell
  obtain ⟨p0, p1, p2, p3⟩ := hB
  have b0 : (0 : Int) ≤ (e : Int) := by omega
  have b1 : (e : Int) < (dn : Int) := by omega
  clear hl hlen hnc hcm hv hcell hbx hby hkn hwd hs
  go_enter Try.func98, Try.ntmps98
  go_wp2_with fail
  refine (HC.out _ (Ext.refl _)).mono ?_
  rintro e' w1 ⟨rfl, hx1⟩
  replace hcv := cell_ext hcv hx1
  clear p0 p1 p2 p3
  go_wp2
  go_ret
  exact ⟨_, rfl, ⟨hwv, rfl⟩, hx1⟩
set_option maxHeartbeats 8000000 in
set_option maxRecDepth 8000 in
theorem along_any (wn hn dn gb off n c : Nat) (bs : List Nat) (d : Int) (hd0 : 0 ≤ d) (hd7 : d ≤ 7) (g : FuncId) (lb : Array Value) (G : Nat → Nat → Nat → Nat → List Nat → List Nat → List Nat) (U : World)
    (hl : Lies U gb off bs) (hlen : bs.length = n) (hwd : Words bs) (hnc : n ≤ c) (hcm : c ≤ maxLen) (hv : VVol wn hn dn n)
    (hg : (Try.prog.funcs[g]?).any (fun fn => !(fn.name == "runtime.NumGoroutine") && fn.body.isSome) = true) (hG : ∀ x y u w o p, (G x y u w o p).length = o.length)
    (hof : ∀ (W : World) (A B : Option Addr) (ow pb : List Nat) (x y u w : Nat), Ext U W → Reads W A dn ow → Words ow → Reads W B dn pb → Words pb → x < wn → y < hn → u < wn → w < hn →
      Calls Try.prog g (#[.slice A dn dn, .slice B dn dn, .int .i64 x, .int .i64 y, .int .i64 u, .int .i64 w] ++ lb) W fun e W' => ∃ H c' b', e = .returned (.slice (some ⟨H, 0, none⟩) dn c') ∧ OwnF W' W.heap.size 23 (.slice (some ⟨H, 0, none⟩) dn c') b' ∧ b'.map nrm = G x y u w (ow.map nrm) (pb.map nrm) ∧ Words b' ∧ Ext W W') :
    Calls Try.prog 89 #[.agg #[.int .i64 wn, .int .i64 hn, .int .i64 dn, .slice (some ⟨gb, off, none⟩) n c], .int .i64 d, .func (.func g) #[] lb] U fun e U' => ∃ H c' b, e = .returned (.agg #[.int .i64 wn, .int .i64 hn, .int .i64 dn, .slice (some ⟨H, 0, none⟩) n c']) ∧ OwnF U' U.heap.size 23 (.slice (some ⟨H, 0, none⟩) n c') b ∧ b.map nrm = cells3 (fun x y e => ((pathT G (ownC bs wn dn) wn hn (wayX d) (wayY d)) x y).getD e 0) wn dn (wn * hn * dn) ∧ Words b ∧ Ext U U' := by
  obtain ⟨hnn, h0, hn2⟩ := vol_n hv
  have hwh := vol_wh hv
  have hs := hv.1
  have h1 : wn ≤ 24 := by have := hs.2.1; omega
  have h2 : hn ≤ 24 := by have := hs.2.2.2.1; omega
  have hw1 : 1 ≤ wn := by have := hs.1; omega
  have hh1 : 1 ≤ hn := by have := hs.2.2.1; omega
  have hd8 : dn ≤ 8 := by have := hv.2.2.1; omega
  have hdn : 0 < dn := by have := hv.2.1; omega
  have hdir := way_dir d hd0 hd7
  obtain ⟨T, hT⟩ : ∃ T : Nat → Nat → List Nat, T = (pathT G (ownC bs wn dn) wn hn (wayX d) (wayY d)) := ⟨_, rfl⟩
  obtain ⟨dx, hdx⟩ : ∃ dx, wayX d = dx := ⟨_, rfl⟩
  obtain ⟨dy, hdy⟩ : ∃ dy, wayY d = dy := ⟨_, rfl⟩
  have hTe : ∀ x y, x < wn → y < hn → T x y = if hasP wn hn dx dy x y then G x y (preU dx x) (preU dy y) (ownC bs wn dn x y) (T (preU dx x) (preU dy y)) else ownC bs wn dn x y := fun x y hx hy => by
    rw [hT, ← hdx, ← hdy]; exact pathT_eq G (ownC bs wn dn) wn hn _ _ hdir h1 h2 hx hy
  have hTl : ∀ x y, (T x y).length = dn := fun x y => by rw [hT]; exact pathF_len G (ownC bs wn dn) wn hn dn _ _ (fun x y => ownC_len bs wn dn x y) hG 24 x y
  rw [← hT]
  have hWAY := fun (W : World) => implWay_any d W hd0 hd7
  rw [hdx, hdy] at hWAY hdir
  clear hT hdx hdy
  have HK := Lib.hid (fun (w1 : World) (hE : Ext U w1) (hb : Box4 w1 U.heap.size (.int .i64 wn) (.int .i64 hn) (.int .i64 dn) (.slice (some ⟨gb, off, none⟩) n c)) => ((volumeOf_any wn hn dn hwh hd8 h1 h2 98 #[.pointer (some ⟨U.heap.size, 0, none⟩)] (fun x y e => nrm (bs.getD (cellN wn (x : Int) (y : Int) * dn + e) 0)) w1 (by kernel_rfl) (fun x y e U' h1 h2 h3 h4 => along1 wn hn dn gb off n c bs _ x y e U' (hb.ext h1) ((hl.ext hE).ext h1) hlen hwd hnc hcm hv h2 h3 h4)).mono (fun e w' h => by
    obtain ⟨A, c', b, rfl, ho, hm, hwb, hx⟩ := h
    have hbl : b.length = n := by have := congrArg List.length hm; rw [List.length_map, cells3_length] at this; omega
    obtain ⟨H, rfl⟩ := ho.at (by omega)
    rw [hbl] at ho ⊢
    exact ⟨H, c', b, rfl, ho, hbl, hm, hwb, hx⟩) : Calls Try.prog 84 #[.int .i64 wn, .int .i64 hn, .int .i64 dn, .func (.func 98) #[] #[.pointer (some ⟨U.heap.size, 0, none⟩)]] w1 fun e w' => ∃ H c' b, e = .returned (.agg #[.int .i64 wn, .int .i64 hn, .int .i64 dn, .slice (some ⟨H, 0, none⟩) n c']) ∧ OwnF w' w1.heap.size 23 (.slice (some ⟨H, 0, none⟩) n c') b ∧ b.length = n ∧ b.map nrm = cells3 (fun x y e => nrm (bs.getD (cellN wn (x : Int) (y : Int) * dn + e) 0)) wn dn (wn * hn * dn) ∧ Words b ∧ Ext w1 w'))
  have HCV := Lib.hid (fun (W : World) (hB : Box4 W U.heap.size (.int .i64 wn) (.int .i64 hn) (.int .i64 dn) (.slice (some ⟨gb, off, none⟩) n c)) (x y : Nat) (hx : x < wn) (hy : y < hn) => (by
    have h3 := cellC_any U.heap.size wn hn dn gb off n c (x : Int) (y : Int) W hB hnc hcm hv ⟨by omega, by omega⟩ ⟨by omega, by omega⟩
    rw [cell_lin'] at h3
    exact h3 : Calls Try.prog 52 #[.pointer (some ⟨U.heap.size, 0, none⟩), .int .i64 x, .int .i64 y] W fun e W' => e = .returned (.slice (some ⟨gb, off + (y * wn + x) * dn, none⟩) dn dn) ∧ Ext W W'))
  have HCO := Lib.hid (fun (W : World) (go H c' : Nat) (hB : Box4 W go (.int .i64 wn) (.int .i64 hn) (.int .i64 dn) (.slice (some ⟨H, 0, none⟩) n c')) (hnc' : n ≤ c') (hcm' : c' ≤ maxLen) (x y : Nat) (hx : x < wn) (hy : y < hn) => (by
    have h3 := cellC_any go wn hn dn H 0 n c' (x : Int) (y : Int) W hB hnc' hcm' hv ⟨by omega, by omega⟩ ⟨by omega, by omega⟩
    rw [cell_lin', Nat.zero_add] at h3
    exact h3 : Calls Try.prog 52 #[.pointer (some ⟨go, 0, none⟩), .int .i64 x, .int .i64 y] W fun e W' => e = .returned (.slice (some ⟨H, (y * wn + x) * dn, none⟩) dn dn) ∧ Ext W W'))
  have HL := Lib.hid hl
  have HLEN := Lib.hid hlen
  have HWD := Lib.hid hwd
  have HDIR := Lib.hid hdir
  have HTE := Lib.hid hTe
  have HTL := Lib.hid hTl
  have HSZ := Lib.hid hs
  have HOF := Lib.hid hof
  have hent := fun (args : Array Value) (W : World) => enters_any (P := Try.prog) hg args W
  have HWAY := Lib.hid hWAY
  have HNN := Lib.hid hnn
  have HN2 := Lib.hid hn2
  clear hWAY hv hl hlen hwd hdir hTe hTl hs hof hg hG hwh hnn hn2 hnc hcm
  go_enter Try.func89, Try.ntmps89
  go_wp2_with fail
  refine calls_at (X := fun w' => Ext U w' ∧ Box4 w' U.heap.size (.int .i64 wn) (.int .i64 hn) (.int .i64 dn) (.slice (some ⟨gb, off, none⟩) n c) ∧ Res4 w' (U.heap.size + 1) ∧ U.heap.size + 1 + 1 ≤ w'.heap.size) ⟨((Ext.refl _).alloc _).alloc _, ⟨by simp [go_sem], by simp [go_sem], by simp [go_sem], by simp [go_sem]⟩, ⟨by simp [go_sem], by simp [go_sem], by simp [go_sem], by simp [go_sem], by simp [go_sem], by simp [go_sem], by simp [go_sem], by simp [go_sem]⟩, by simp⟩ ?_
  rintro w0 ⟨hx0, hb0, hr0, hs0⟩
  refine (HWAY.out w0).mono ?_
  rintro e w1 ⟨rfl, hx⟩
  have hb1 := hb0.ext hx
  have hr1 := hr0.ext hx
  have hE1 := hx0.trans hx
  have hs1 := Nat.le_trans hs0 hx.size
  clear hx hx0 hb0 hr0 hs0
  have ⟨p0, p1, p2, p3⟩ := hb1
  go_wp2_with fail
  refine (HK.out w1 hE1 hb1).mono ?_
  rintro e w2 ⟨H, cH, b0, rfl, ho, hbl, hm, hwb, hx⟩
  have hb2 := hb1.ext hx
  have hr2 := hr1.ext hx
  have hE2 := hE1.trans hx
  have hs2 := hx.size
  have hHg := ho.ge
  have HBL := Lib.hid hbl
  have hHc : n ≤ cH ∧ cH ≤ maxLen := by
    obtain ⟨A', c', he, q1, q2, _⟩ := ho.form
    simp only [Value.slice.injEq] at he
    omega
  clear hx hE1 hb1 hr1 p0 p1 p2 p3 hbl
  have ⟨p0, p1, p2, p3⟩ := hb2
  have g3 : ¬ (U.heap.size = w2.heap.size) := by have := hb2.lt; omega
  have g4 : ¬ (w2.heap.size = U.heap.size) := by have := hb2.lt; omega
  have hul := hb2.lt
  go_wp2_with fail
  clear p0 p1 p2 p3 g3 g4
  refine calls_at (X := fun w' => Ext w2 w' ∧ Box4 w' w2.heap.size (.int .i64 wn) (.int .i64 hn) (.int .i64 dn) (.slice (some ⟨H, 0, none⟩) n cH)) ⟨(Ext.refl _).alloc _, ⟨by simp [go_sem], by simp [go_sem], by simp [go_sem], by simp [go_sem]⟩⟩ ?_
  rintro w3 ⟨hx3, hbo3⟩
  obtain ⟨go, hgo⟩ : ∃ go, w2.heap.size = go := ⟨_, rfl⟩
  rw [hgo] at hbo3 hHg ⊢
  refine (ordered_any hn dy hh1 h2 w3).mono ?_
  rintro e w4 ⟨Hy, cy, rfl, hHy, hys, hx4⟩
  have hx34 := hx3.trans hx4
  have hbo := hbo3.ext hx4
  have hbv := hb2.ext hx34
  have hr4 := hr2.ext hx34
  have hE4 := hE2.trans hx34
  have ho4 := ho.ext hx34
  have hgy : go < Hy := by have := hbo3.lt; omega
  have htab0 : Tab true T (ownC bs wn dn) wn hn dn dx dy b0 0 := ⟨by rw [HBL.out, HNN.out], fun x y e hx hy he => ⟨fun h => absurd h (Nat.not_lt_zero _), fun _ _ => by rw [ownC_getD he, cells3_cell_eq hm hx hy he, cell_lin']⟩⟩
  have HTB := Lib.hid htab0
  have HWB := Lib.hid hwb
  have HYS := Lib.hid hys
  clear htab0 hwb hys hx3 hx4 hx34 hbo3 hb2 hr2 hE2 ho hm
  go_wp2_with fail
  go_loopw [34] (fun iv wr => ∃ (k : Nat) (cs : List Nat), k ≤ hn ∧ iv = .int .i64 k ∧ OwnF wr w1.heap.size 23 (.slice (some ⟨H, 0, none⟩) n cH) cs ∧ Tab true T (ownC bs wn dn) wn hn dn dx dy cs (k * wn) ∧ Words cs ∧ But H w4 wr) (fun iv _ => hn - (intOf iv).toNat)
  case atStart => exact ⟨0, b0, Nat.zero_le _, rfl, ho4, by rw [Nat.zero_mul]; exact HTB.out, HWB.out, But.refl _ _⟩
  case round =>
    clear ho4
    obtain ⟨k, cs, hk, rfl, hown, htab, hcw, hbut⟩ := hrel
    by_cases hlt : k < hn
    · have hyk := cell_but (HYS.out k hlt) hbut (by omega)
      rw [ordN_rk] at hyk
      obtain ⟨Y, hY⟩ : ∃ Y, rk hn dy k = Y := ⟨_, rfl⟩
      have hYl : Y < hn := by rw [← hY]; exact rk_lt hlt
      rw [hY] at hyk
      have HY := Lib.hid hY
      have ⟨p0, p1, p2, p3⟩ := hbv.but hbut (by omega)
      have hk0 : (0 : Int) ≤ (k : Int) := by omega
      have hk1 : (k : Int) < (hn : Int) := by omega
      have HTAB := Lib.hid htab
      clear hY htab
      go_wp2_with fail
      refine (ordered_any wn dx hw1 h1 _).mono ?_
      rintro e w5 ⟨Hx, cx, rfl, hHx, hxs, hx5⟩
      have hbut5 := hbut.ext hx5
      have hown5 := hown.ext hx5
      have hHxH : H < Hx := by have := hown.ge; omega
      have HXS := Lib.hid hxs
      clear hyk p0 p1 p2 p3 hxs hown hx5 hbut
      go_wp2_with fail
      go_loopw [43] (fun xv wr => ∃ (j : Nat) (cs : List Nat), j ≤ wn ∧ xv = .int .i64 j ∧ OwnF wr w1.heap.size 23 (.slice (some ⟨H, 0, none⟩) n cH) cs ∧ Tab true T (ownC bs wn dn) wn hn dn dx dy cs (k * wn + j) ∧ Words cs ∧ But H w5 wr) (fun xv _ => wn - (intOf xv).toNat)
      case atStart => exact ⟨0, cs, Nat.zero_le _, rfl, hown5, HTAB.out, hcw, But.refl _ _⟩
      case round =>
        clear hown5 HTAB hcw
        obtain ⟨j, cs, hj, rfl, hown, htab, hcw, hbq⟩ := hrel
        by_cases hltj : j < wn
        · have hxk := cell_but (HXS.out j hltj) hbq (by omega)
          rw [ordN_rk] at hxk
          obtain ⟨X, hX⟩ : ∃ X, rk wn dx j = X := ⟨_, rfl⟩
          have hXl : X < wn := by rw [← hX]; exact rk_lt hltj
          rw [hX] at hxk
          have hpos : pos wn hn dx dy X Y = k * wn + j := by rw [← hX, ← HY.out]; exact pos_cell hltj hlt
          rw [← hpos] at htab
          have hb4 := hbut5.trans hbq
          have hbv5 := hbv.but hb4 (by omega)
          have hbo5 := hbo.but hb4 (by omega)
          have ⟨p0, p1, p2, p3⟩ := hbv5
          have hj0 : (0 : Int) ≤ (j : Int) := by omega
          have hj1 : (j : Int) < (wn : Int) := by omega
          have hdir := HDIR.out
          have hpre := HTE.out X Y hXl hYl
          have HPOS := Lib.hid hpos
          have hHs := hown.ge
          by_cases hp : hasP wn hn dx dy X Y
          · rw [if_pos hp] at hpre
            obtain ⟨hu1, hu2, hu3, hu4⟩ := preU_spec hp
            have hppos := pos_pre hdir hXl hYl hp
            generalize preU dx X = uN at hu1 hu3 hpre hppos
            generalize preU dy Y = wN at hu2 hu4 hpre hppos
            have hwu : IntKind.i64.wrap ((X : Int) - dx) = (uN : Int) := by rw [← hu1]; exact wrap_small _ (by omega) (by omega)
            have hwv : IntKind.i64.wrap ((Y : Int) - dy) = (wN : Int) := by rw [← hu2]; exact wrap_small _ (by omega) (by omega)
            have HPRE := Lib.hid hpre
            have HTABX := Lib.hid htab
            have HPP := Lib.hid hppos
            have HU := Lib.hid (⟨by omega, by omega⟩ : (0 ≤ (uN : Int) ∧ (uN : Int) ≤ (wn : Int) - 1) ∧ 0 ≤ (wN : Int) ∧ (wN : Int) ≤ (hn : Int) - 1)
            clear hpre htab hppos hu1 hu2 hp hX hpos hdir
            go_wp2_with fail
            refine (volHas_yes _ (wn : Int) (hn : Int) (uN : Int) (wN : Int) _ p0 p1 HSZ.out HU.out.1 HU.out.2).mono ?_
            rintro e w' ⟨rfl, rfl⟩
            go_wp2_with fail
            refine (HCO.out _ go H cH hbo5 hHc.1 hHc.2 X Y hXl hYl).mono ?_
            rintro e w6 ⟨rfl, hx6⟩
            clear p0 p1 p2 p3
            go_wp2_with fail
            refine (HCV.out _ (hbv5.ext hx6) X Y hXl hYl).mono ?_
            rintro e w7 ⟨rfl, hx7⟩
            go_wp2_with fail
            have hx67 := hx6.trans hx7
            refine (HCO.out _ go H cH (hbo5.ext hx67) hHc.1 hHc.2 uN wN hu3 hu4).mono ?_
            rintro e w8 ⟨rfl, hx8⟩
            have hx68 := hx67.trans hx8
            clear hx6 hx7 hx67 hx8
            go_wp2_with fail
            have hE8 : Ext U w8 := (But.toExt hE4 (by omega) hb4).trans hx68
            have hin := cube_in (dn := dn) (e := dn - 1) hXl hYl (by omega)
            have hin2 := cube_in (dn := dn) (e := dn - 1) hu3 hu4 (by omega)
            have hcl : cs.length = wn * hn * dn := HTABX.out.1
            have hnn := HNN.out
            have hr8 : Reads w8 (some ⟨gb, off + (Y * wn + X) * dn, none⟩) dn ((bs.drop ((Y * wn + X) * dn)).take dn) := Reads.sub (HL.out.ext hE8) HLEN.out _ dn (by omega)
            have hr8' : Reads w8 (some ⟨H, (wN * wn + uN) * dn, none⟩) dn ((cs.drop ((wN * wn + uN) * dn)).take dn) := by
              have := Reads.sub (hown.ext hx68).lies (show cs.length = n by omega) ((wN * wn + uN) * dn) dn (by omega)
              rwa [Nat.zero_add] at this
            have howm : ((bs.drop ((Y * wn + X) * dn)).take dn).map nrm = ownC bs wn dn X Y := drop_take_nrm bs _ dn (by rw [HLEN.out]; omega)
            have hpbm := HTABX.out.read hu3 hu4 HPP.out (HTL.out uN wN) hdn
            have HCALL := Lib.hid (HOF.out w8 _ _ _ _ X Y uN wN hE8 hr8 (words_sub HWD.out _ _) hr8' (words_sub hcw _ _) hXl hYl hu3 hu4)
            rw [howm, hpbm, ← HPRE.out] at HCALL
            clear hin hin2 hr8 hr8' howm hpbm hE8 hcl hnn
            refine HCALL.out.mono ?_
            rintro e w9 ⟨G9, c9, b9, rfl, ho9, hm9, hw9, hx9⟩
            have hx69 := hx68.trans hx9
            have hb9 := ho9.len
            obtain ⟨cur, hcur, hcs, hlaid⟩ := (hown.ext hx69).laid
            have hfit : (Y * wn + X) * dn + b9.length ≤ cs.length := by
              have h1 := cube_in (dn := dn) (e := dn - 1) hXl hYl (by omega)
              rw [← hb9, HTABX.out.1]; omega
            obtain ⟨ho10, hbb⟩ := hlaid _ b9 hfit
            have hcopy : ∀ ty, (Builtin.copy_ #[22, 22] ty #[.slice (some ⟨H, (Y * wn + X) * dn, none⟩) dn dn, .slice (some ⟨G9, 0, none⟩) dn c9]).run Try.prog w9 = .ok (goInt (((b9.map fl).length : Nat) : Int)) (w9.setRow H (cur.toList.take ((Y * wn + X) * dn) ++ (b9.map fl ++ cur.toList.drop ((Y * wn + X) * dn + (b9.map fl).length))).toArray) := fun ty => by
              have h := run_copy_row (P := Try.prog) w9 22 22 ty 23 H ((Y * wn + X) * dn) dn dn ⟨G9, 0, none⟩ dn c9 cur 23 (b9.map fl) Try.underlying22 info1 hcur (by rw [List.length_map, ← hb9]; exact (Nat.min_self _).symm) (lies_new ho9.lies) (by rw [List.length_map]; omega) (words_one b9)
              rw [List.append_assoc] at h
              exact h
            rw [List.length_map] at hcopy
            generalize w9.setRow H _ = w10 at hcopy ho10 hbb
            have HB9 := Lib.hid hb9
            clear hlaid hcur hcs ho9 hb9 HCALL
            have htab2 := HTABX.out.lay hXl hYl hdn HB9.out.symm hm9
            rw [HPOS.out] at htab2
            have hcw2 := words_lay hcw hw9 ((Y * wn + X) * dn)
            have hbq2 := (hbq.ext hx69).trans hbb
            clear hx68 hx9 hx69 hfit hown hcw hbq hm9 hw9 hb4 hbv5 hbo5 hbb hxk
            go_wp2
            go_roundw
            case rel => exact ⟨j + 1, _, by omega, by go_num, ho10, htab2, hcw2, hbq2⟩
            case measure => simp [RowKit.intOf]; omega
          · rw [if_neg hp] at hpre
            have hwu : IntKind.i64.wrap ((X : Int) - dx) = (X : Int) - dx := wrap_small _ (by have := hdir.x; omega) (by have := hdir.x; omega)
            have hwv : IntKind.i64.wrap ((Y : Int) - dy) = (Y : Int) - dy := wrap_small _ (by have := hdir.y; omega) (by have := hdir.y; omega)
            have HTABX := Lib.hid (Tab.skip (s := true) hXl hYl htab hpre)
            have HP := Lib.hid hp
            clear hpre htab hp hX hpos hdir
            go_wp2_with fail
            refine (volHas_no _ (wn : Int) (hn : Int) ((X : Int) - dx) ((Y : Int) - dy) _ p0 p1 HSZ.out HP.out).mono ?_
            rintro e w' ⟨rfl, rfl⟩
            clear p0 p1 p2 p3 hbv5 hbo5 hxk hb4
            have htab2 := HTABX.out
            rw [HPOS.out] at htab2
            go_wp2
            go_roundw
            case rel => exact ⟨j + 1, cs, by omega, by go_num, hown, htab2, hcw, hbq⟩
            case measure => simp [RowKit.intOf]; omega
        · have e1 : j = wn := by omega
          rw [e1, ← Nat.succ_mul] at htab
          have hbut6 := hbut5.trans hbq
          clear hbq
          go_wp2
          go_roundw
          case rel => exact ⟨k + 1, cs, by omega, by go_num, hown, htab, hcw, hbut6⟩
          case measure => simp [RowKit.intOf]; omega
    · have e1 : k = hn := by omega
      rw [e1, Nat.mul_comm hn wn] at htab
      have hUH : U.heap.size ≤ H := by omega
      have hE9 := But.toExt hE4 hUH hbut
      have ⟨c0, c1, c2, c3, f0, f1, f2, f3⟩ := hr4.but hbut (by omega)
      have ⟨o0, o1, o2, o3⟩ := hbo.but hbut (by omega)
      have hlike := htab.done
      clear hbut htab
      go_wp2
      refine bodyPost_ret (v := .agg #[.int .i64 wn, .int .i64 hn, .int .i64 dn, .slice (some ⟨H, 0, none⟩) n cH]) (by simp [results, Try.results89, go_sem, *]) rfl ⟨H, cH, cs, rfl, ?_, hlike, hcw, ?_⟩
      · refine OwnF.weaken (base := w1.heap.size) ?_ (by omega)
        repeat (first | (with_reducible exact hown) | (with_reducible refine OwnF.set_below ?_ (by dsimp only; omega) _))
      · repeat (first | (with_reducible exact hE9) | (with_reducible refine Ext.setCell ?_ (by dsimp only; omega) _))
end Go.Proofs.Ythkfbmboiabolaa
