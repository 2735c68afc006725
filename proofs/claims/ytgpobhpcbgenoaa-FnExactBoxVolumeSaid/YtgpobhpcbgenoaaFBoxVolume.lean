/- The law on BoxVolume holds. -/
import Derived.Test.YtgpobhpcbgenoaaPics
import Derived.Test.YtgpobhpcbgenoaaSlice
import Derived.Test.YtgpobhpcbgenoaaSliceI
import Derived.Test.YtgpobhpcbgenoaaBox
import Derived.Test.YtgpobhpcbgenoaaCBoxVolume
namespace Go.Proofs.Ytgpobhpcbgenoaa
open Go.RowKit
set_option linter.unusedVariables false

/-- The mean about a cell, and the words of a box. -/
def bvF (wn hn dn r : Nat) (bs : List Nat) (x y e : Nat) : Nat := bxV (fun u v => nrm (bs.getD (cellN (wn : Int) (clampI u wn) (clampI v hn) * dn + e) 0)) (x : Int) (y : Int) r
def slL (dn N : Nat) (bs : List Nat) (e : Nat) : List Nat := (List.range N).map (fun i => nrm (bs.getD (i * dn + e) 0))
theorem slL_get (dn N : Nat) (bs : List Nat) (e i : Nat) (h : i < N) : (slL dn N bs e).getD i 0 = nrm (bs.getD (i * dn + e) 0) := by simp [slL, List.getD, h]
theorem slL_length (dn N : Nat) (bs : List Nat) (e : Nat) : (slL dn N bs e).length = N := by simp [slL]
theorem vmap_cell {wn hn N : Nat} (hv : VMap wn hn N) (u v : Int) : cellN (wn : Int) (clampI u wn) (clampI v hn) < N := by
  have hb1 := clampI_bounds u hv.1.1
  have hb2 := clampI_bounds v hv.1.2.2.1
  exact (cellN_eq hv hb1.1 hb1.2 hb2.1 hb2.2).2.1
/-- The picture's greys are the volume's words. -/
theorem slice_grey {wn hn N dn : Nat} (hv : VMap wn hn N) (bs b : List Nat) (e : Nat) (hb : b.map nrm = slL dn N bs e) : (fun (u v : Int) => nrm (b.getD (cellN (wn : Int) (clampI u wn) (clampI v hn)) 0)) = fun u v => nrm (bs.getD (cellN (wn : Int) (clampI u wn) (clampI v hn) * dn + e) 0) := by
  funext u v
  have hk := vmap_cell hv u v
  have hl : b.length = N := by have := congrArg List.length hb; simpa [slL_length] using this
  rw [nrm_getD b _ hb _ (by omega), slL_get _ _ _ _ _ hk]
theorem cells_slL (wn hn dn N : Nat) (hN : wn * hn = N) (bs : List Nat) (en : Nat) : cells (fun (x y : Nat) => nrm (bs.getD (cellN wn (x : Int) (y : Int) * dn + en) 0)) wn N = slL dn N bs en := by
  unfold cells slL
  refine List.map_congr_left fun m hm => ?_
  have he : m % wn + wn * (m / wn) = m := by rw [Nat.add_comm]; exact Nat.div_add_mod _ _
  show nrm (bs.getD (cellN (wn : Int) ((m % wn : Nat) : Int) ((m / wn : Nat) : Int) * dn + en) 0) = _
  rw [cellN_nat, he]
theorem bv_eq (wn hn dn r N : Nat) (hN : wn * hn = N) (bs : List Nat) : cells3 (bvF wn hn dn r bs) wn dn (N * dn) = stL (fun e => cells (fun x y => bvF wn hn dn r bs x y e) wn N) dn (N * dn) := by
  unfold cells3 stL
  refine List.map_congr_left fun m hm => ?_
  have hm' := List.mem_range.1 hm
  have hlt : m / dn < N := Nat.div_lt_of_lt_mul (by rw [Nat.mul_comm]; exact hm')
  simp [cells, List.getD_eq_getElem?_getD, hlt]
theorem sl_vmap {wn hn dn n : Nat} (hv : VVol wn hn dn n) : VMap wn hn (wn * hn) := ⟨hv.1, by simp⟩
set_option maxHeartbeats 2000000 in
set_option maxRecDepth 8000 in
theorem box1_any (wn hn dn N r gp c gL gr : Nat) (bs : List Nat) (x y e : Nat) (U : World) (hL : U.cell? ⟨gL, 0, none⟩ = some (.slice (some ⟨gp, 0, none⟩) dn c)) (hq : U.cell? ⟨gr, 0, none⟩ = some (.int .i64 r)) (hP : PicL U gp 0 dn wn hn N (slL dn N bs)) (hv : VMap wn hn N) (hr : r ≤ 3) (hx : x < wn) (hy : y < hn) (he : e < dn) (hd : dn ≤ 8) :
    Calls Try.prog 93 #[.int .i64 x, .int .i64 y, .int .i64 e, .pointer (some ⟨gL, 0, none⟩), .pointer (some ⟨gr, 0, none⟩)] U fun e' U' => ∃ q, e' = .returned (.float .f32 q) ∧ Is q (bvF wn hn dn r bs x y e) ∧ Ext U U' := by
  obtain ⟨ga, oa, ca, b, q0, q1, q2, hl, hlen, hbm⟩ := hP e he
  rw [Nat.zero_add] at q0 q1 q2
  have hw24 := hv.1.2.1
  have hh24 := hv.1.2.2.2.1
  have HBX := Lib.hid (fun (W : World) (hW : Ext U W) => boxed_any gp (e * 3) (x : Int) (y : Int) r (fun u v => b.getD (cellN (wn : Int) (clampI u wn) (clampI v hn)) 0) W (by omega) (by omega) hr (fun W' hW' u v => aboutO_any gp (e * 3) wn hn (some ⟨ga, oa, none⟩) N ca b u v W' ⟨cell_ext q0 (hW.trans hW'), cell_ext q1 (hW.trans hW'), cell_ext q2 (hW.trans hW')⟩ ⟨hlen, fun _ => ⟨ga, oa, rfl, hl.ext (hW.trans hW')⟩⟩ hv))
  rw [slice_grey hv bs b e hbm] at HBX
  have e0 : (0 : Int) ≤ (e : Int) := by omega
  have e1 : (e : Int) < (dn : Int) := by omega
  have hX : bvF wn hn dn r bs x y e = bxV (fun u v => nrm (bs.getD (cellN (wn : Int) (clampI u wn) (clampI v hn) * dn + e) 0)) (x : Int) (y : Int) r := rfl
  rw [hX]
  generalize bxV (fun u v => nrm (bs.getD (cellN (wn : Int) (clampI u wn) (clampI v hn) * dn + e) 0)) (x : Int) (y : Int) r = X at HBX ⊢
  clear hP hl hlen hbm hv hr hx hy he hd hX q1 q2 hw24 hh24
  go_enter Try.func93, Try.ntmps93
  go_wp2_with fail
  refine region_wx 7 [none, none, none, none, none, none, some (fun u W => ∃ q, u = .float .f32 q ∧ Is q X)] (by kernel_rfl) (by kernel_rfl) ?_
  simp only [List.take_succ_cons, List.take_zero, List.drop_succ_cons, List.drop_zero]
  repeat ((first | refine wx_skip rfl ?_ | refine wx_nilCheck rfl rfl _ rfl _ rfl ?_ | (refine wx_float rfl rfl _ _ _ _ _ _ _ rfl rfl rfl rfl ?_; intro r hr) | (refine wx_k rfl rfl rfl (fun K hK => ?_); go_big_quiet_op; refine hK _ ?_; clear hK K) | (refine wx_callR _ rfl rfl 94 _ _ rfl (by kernel_rfl) (fun Wc hWc hFc => ?_) ?_; (· go_simp; refine (HBX.out Wc hWc).mono ?_; rintro e w' ⟨q, rfl, hq, hx⟩; exact ⟨_, rfl, ⟨q, rfl, hq⟩, hx⟩); rintro u V hV ⟨q, rfl, hqq⟩)); (try simp only [Act.put, List.setIfInBounds_toArray, List.set_cons_zero, List.set_cons_succ]); (try simp only [List.tail_cons]))
  refine wx_nil (fun W hW hF => ?_)
  go_wp2
  go_ret
  exact ⟨_, rfl, hqq, hW⟩
theorem implBox_no1 (z0 z1 z2 : Int) (A0 : Option Addr) (n0 m0 : Nat) (ee : Int) (hn0 : n0 ≤ maxLen) (hv : ¬ VVol z0 z1 z2 n0) (U : World) :
    Calls Try.prog 43 #[.agg #[.int .i64 z0, .int .i64 z1, .int .i64 z2, .slice A0 n0 m0], .int .i64 ee] U fun e U' => ∃ A c' b, e = .returned (.tuple #[.agg #[.int .i64 0, .int .i64 0, .int .i64 0, .slice A b.length c'], .bool false]) ∧ OwnF U' U.heap.size 25 (.slice A b.length c') b ∧ b.map nrm = [] ∧ Ext U U' := by
  have HV := Lib.hid hv
  clear hv
  go_enter Try.func43, Try.ntmps43
  go_wp2_with fail
  refine calls_at (X := fun w' => Ext U w' ∧ Box4 w' U.heap.size (.int .i64 z0) (.int .i64 z1) (.int .i64 z2) (.slice A0 n0 m0) ∧ w'.cell? ⟨U.heap.size + 1, 0, none⟩ = some (.int .i64 ee) ∧ Res4 w' (U.heap.size + 1 + 1) ∧ U.heap.size + 1 + 1 + 1 ≤ w'.heap.size) ⟨(((Ext.refl _).alloc _).alloc _).alloc _, ⟨by simp [go_sem], by simp [go_sem], by simp [go_sem], by simp [go_sem]⟩, by simp [go_sem], ⟨by simp [go_sem], by simp [go_sem], by simp [go_sem], by simp [go_sem], by simp [go_sem], by simp [go_sem], by simp [go_sem], by simp [go_sem]⟩, by simp⟩ ?_
  rintro w0 ⟨hx0, hb0, hq0, hr0, hs0⟩
  refine (ValidVolume_not _ _ _ A0 n0 m0 _ hn0 HV.out).mono ?_
  rintro e w1 ⟨rfl, hx⟩
  have ⟨c0, c1, c2, c3, f0, f1, f2, f3⟩ := hr0.ext hx
  have p4 := cell_ext hq0 hx
  have hE := hx0.trans hx
  clear hx hx0 hb0 hr0 hq0
  go_wp2
  refine bodyPost_ret (v := .tuple #[.agg #[.int .i64 0, .int .i64 0, .int .i64 0, .slice none 0 0], .bool false]) (by simp [results, Try.results43, go_sem, *]) rfl ⟨none, 0, [], rfl, OwnF.nil _ _ _, rfl, ?_⟩
  repeat (first | (with_reducible exact hE) | (with_reducible refine Ext.setCell ?_ (by dsimp only; omega) _))
theorem implBox_no2 (z0 z1 z2 : Int) (A0 : Option Addr) (n0 m0 : Nat) (ee : Int) (hn0 : n0 ≤ maxLen) (hv : VVol z0 z1 z2 n0) (he : ee < 0 ∨ 3 < ee) (U : World) :
    Calls Try.prog 43 #[.agg #[.int .i64 z0, .int .i64 z1, .int .i64 z2, .slice A0 n0 m0], .int .i64 ee] U fun e U' => ∃ A c' b, e = .returned (.tuple #[.agg #[.int .i64 0, .int .i64 0, .int .i64 0, .slice A b.length c'], .bool false]) ∧ OwnF U' U.heap.size 25 (.slice A b.length c') b ∧ b.map nrm = [] ∧ Ext U U' := by
  have HV := Lib.hid hv
  have HE := Lib.hid he
  clear hv he
  go_enter Try.func43, Try.ntmps43
  go_wp2_with fail
  refine calls_at (X := fun w' => Ext U w' ∧ Box4 w' U.heap.size (.int .i64 z0) (.int .i64 z1) (.int .i64 z2) (.slice A0 n0 m0) ∧ w'.cell? ⟨U.heap.size + 1, 0, none⟩ = some (.int .i64 ee) ∧ Res4 w' (U.heap.size + 1 + 1) ∧ U.heap.size + 1 + 1 + 1 ≤ w'.heap.size) ⟨(((Ext.refl _).alloc _).alloc _).alloc _, ⟨by simp [go_sem], by simp [go_sem], by simp [go_sem], by simp [go_sem]⟩, by simp [go_sem], ⟨by simp [go_sem], by simp [go_sem], by simp [go_sem], by simp [go_sem], by simp [go_sem], by simp [go_sem], by simp [go_sem], by simp [go_sem]⟩, by simp⟩ ?_
  rintro w0 ⟨hx0, hb0, hq0, hr0, hs0⟩
  refine (ValidVolume_yes _ _ _ A0 n0 m0 _ hn0 HV.out).mono ?_
  rintro e w1 ⟨rfl, hx⟩
  have ⟨c0, c1, c2, c3, f0, f1, f2, f3⟩ := hr0.ext hx
  have ⟨p0, p1, p2, p3⟩ := hb0.ext hx
  have p4 := cell_ext hq0 hx
  have hE := hx0.trans hx
  clear hx hx0 hb0 hr0 hq0
  go_wp2_with (go_at_call 67; with_reducible refine (implIn_no ee 0 3 _ HE.out).mono ?_; rintro e w' ⟨rfl, rfl⟩)
  refine bodyPost_ret (v := .tuple #[.agg #[.int .i64 0, .int .i64 0, .int .i64 0, .slice none 0 0], .bool false]) (by simp [results, Try.results43, go_sem, *]) rfl ⟨none, 0, [], rfl, OwnF.nil _ _ _, rfl, ?_⟩
  repeat (first | (with_reducible exact hE) | (with_reducible refine Ext.setCell ?_ (by dsimp only; omega) _))
theorem implBox_no (z0 z1 z2 : Int) (A0 : Option Addr) (n0 m0 : Nat) (ee : Int) (hn0 : n0 ≤ maxLen) (hv : ¬ (VVol z0 z1 z2 n0 ∧ 0 ≤ ee ∧ ee ≤ 3)) (U : World) :
    Calls Try.prog 43 #[.agg #[.int .i64 z0, .int .i64 z1, .int .i64 z2, .slice A0 n0 m0], .int .i64 ee] U fun e U' => ∃ A c' b, e = .returned (.tuple #[.agg #[.int .i64 0, .int .i64 0, .int .i64 0, .slice A b.length c'], .bool false]) ∧ OwnF U' U.heap.size 25 (.slice A b.length c') b ∧ b.map nrm = [] ∧ Ext U U' := by
  by_cases h : VVol z0 z1 z2 n0
  · exact implBox_no2 z0 z1 z2 A0 n0 m0 ee hn0 h (by
      by_cases h2 : ee < 0
      · exact .inl h2
      · exact .inr (by
          by_cases h3 : 3 < ee
          · exact h3
          · exact absurd ⟨h, by omega, by omega⟩ hv)) U
  · exact implBox_no1 z0 z1 z2 A0 n0 m0 ee hn0 h U
theorem specBox_no1 (z0 z1 z2 : Int) (A0 : Option Addr) (n0 m0 : Nat) (ee : Int) (hn0 : n0 ≤ maxLen) (hv : ¬ VVol z0 z1 z2 n0) (U : World) :
    Calls Try.prog 42 #[.agg #[.int .i64 z0, .int .i64 z1, .int .i64 z2, .slice A0 n0 m0], .int .i64 ee] U fun e U' => ∃ A c' b, e = .returned (.tuple #[.agg #[.int .i64 0, .int .i64 0, .int .i64 0, .slice A b.length c'], .bool false]) ∧ OwnF U' U.heap.size 25 (.slice A b.length c') b ∧ b.map nrm = [] ∧ Ext U U' := by
  have HV := Lib.hid hv
  clear hv
  go_enter Try.func42, Try.ntmps42
  go_wp2_with fail
  refine calls_at (X := fun w' => Ext U w' ∧ Box4 w' U.heap.size (.int .i64 z0) (.int .i64 z1) (.int .i64 z2) (.slice A0 n0 m0) ∧ Res4 w' (U.heap.size + 1) ∧ U.heap.size + 1 + 1 ≤ w'.heap.size) ⟨((Ext.refl _).alloc _).alloc _, ⟨by simp [go_sem], by simp [go_sem], by simp [go_sem], by simp [go_sem]⟩, ⟨by simp [go_sem], by simp [go_sem], by simp [go_sem], by simp [go_sem], by simp [go_sem], by simp [go_sem], by simp [go_sem], by simp [go_sem]⟩, by simp⟩ ?_
  rintro w0 ⟨hx0, hb0, hr0, hs0⟩
  refine (l03Is_not _ _ _ _ A0 n0 m0 _ hn0 hb0.1 hb0.2.1 hb0.2.2.1 hb0.2.2.2 HV.out).mono ?_
  rintro e w1 ⟨rfl, hx⟩
  have ⟨c0, c1, c2, c3, f0, f1, f2, f3⟩ := hr0.ext hx
  have hE := hx0.trans hx
  clear hx hx0 hb0 hr0
  go_wp2
  refine bodyPost_ret (v := .tuple #[.agg #[.int .i64 0, .int .i64 0, .int .i64 0, .slice none 0 0], .bool false]) (by simp [results, Try.results42, go_sem, *]) rfl ⟨none, 0, [], rfl, OwnF.nil _ _ _, rfl, ?_⟩
  repeat (first | (with_reducible exact hE) | (with_reducible refine Ext.setCell ?_ (by dsimp only; omega) _))
theorem specBox_no2 (z0 z1 z2 : Int) (A0 : Option Addr) (n0 m0 : Nat) (ee : Int) (hn0 : n0 ≤ maxLen) (hv : VVol z0 z1 z2 n0) (he : ee < 0 ∨ 3 < ee) (U : World) :
    Calls Try.prog 42 #[.agg #[.int .i64 z0, .int .i64 z1, .int .i64 z2, .slice A0 n0 m0], .int .i64 ee] U fun e U' => ∃ A c' b, e = .returned (.tuple #[.agg #[.int .i64 0, .int .i64 0, .int .i64 0, .slice A b.length c'], .bool false]) ∧ OwnF U' U.heap.size 25 (.slice A b.length c') b ∧ b.map nrm = [] ∧ Ext U U' := by
  have HV := Lib.hid hv
  have HE := Lib.hid he
  clear hv he
  go_enter Try.func42, Try.ntmps42
  go_wp2_with fail
  refine calls_at (X := fun w' => Ext U w' ∧ Box4 w' U.heap.size (.int .i64 z0) (.int .i64 z1) (.int .i64 z2) (.slice A0 n0 m0) ∧ Res4 w' (U.heap.size + 1) ∧ U.heap.size + 1 + 1 ≤ w'.heap.size) ⟨((Ext.refl _).alloc _).alloc _, ⟨by simp [go_sem], by simp [go_sem], by simp [go_sem], by simp [go_sem]⟩, ⟨by simp [go_sem], by simp [go_sem], by simp [go_sem], by simp [go_sem], by simp [go_sem], by simp [go_sem], by simp [go_sem], by simp [go_sem]⟩, by simp⟩ ?_
  rintro w0 ⟨hx0, hb0, hr0, hs0⟩
  refine (l03Is_yes _ _ _ _ A0 n0 m0 _ hn0 hb0.1 hb0.2.1 hb0.2.2.1 hb0.2.2.2 HV.out).mono ?_
  rintro e w1 ⟨rfl, hx⟩
  have ⟨c0, c1, c2, c3, f0, f1, f2, f3⟩ := hr0.ext hx
  have ⟨p0, p1, p2, p3⟩ := hb0.ext hx
  have hE := hx0.trans hx
  clear hx hx0 hb0 hr0
  go_wp2_with (go_at_call 63; with_reducible refine (l00In_no ee 0 3 _ HE.out).mono ?_; rintro e w' ⟨rfl, rfl⟩)
  refine bodyPost_ret (v := .tuple #[.agg #[.int .i64 0, .int .i64 0, .int .i64 0, .slice none 0 0], .bool false]) (by simp [results, Try.results42, go_sem, *]) rfl ⟨none, 0, [], rfl, OwnF.nil _ _ _, rfl, ?_⟩
  repeat (first | (with_reducible exact hE) | (with_reducible refine Ext.setCell ?_ (by dsimp only; omega) _))
theorem specBox_no (z0 z1 z2 : Int) (A0 : Option Addr) (n0 m0 : Nat) (ee : Int) (hn0 : n0 ≤ maxLen) (hv : ¬ (VVol z0 z1 z2 n0 ∧ 0 ≤ ee ∧ ee ≤ 3)) (U : World) :
    Calls Try.prog 42 #[.agg #[.int .i64 z0, .int .i64 z1, .int .i64 z2, .slice A0 n0 m0], .int .i64 ee] U fun e U' => ∃ A c' b, e = .returned (.tuple #[.agg #[.int .i64 0, .int .i64 0, .int .i64 0, .slice A b.length c'], .bool false]) ∧ OwnF U' U.heap.size 25 (.slice A b.length c') b ∧ b.map nrm = [] ∧ Ext U U' := by
  by_cases h : VVol z0 z1 z2 n0
  · exact specBox_no2 z0 z1 z2 A0 n0 m0 ee hn0 h (by
      by_cases h2 : ee < 0
      · exact .inl h2
      · exact .inr (by
          by_cases h3 : 3 < ee
          · exact h3
          · exact absurd ⟨h, by omega, by omega⟩ hv)) U
  · exact specBox_no1 z0 z1 z2 A0 n0 m0 ee hn0 h U
set_option maxHeartbeats 8000000 in
set_option maxRecDepth 8000 in
theorem implBox_yes (wn hn dn N gb off n c : Nat) (hN : wn * hn = N) (bs : List Nat) (r : Nat) (U : World) (hl : Lies U gb off bs) (hlen : bs.length = n) (hwd : Words bs) (hnc : n ≤ c) (hcm : c ≤ maxLen) (hv : VVol wn hn dn n) (hr : r ≤ 3) :
    Calls Try.prog 43 #[.agg #[.int .i64 wn, .int .i64 hn, .int .i64 dn, .slice (some ⟨gb, off, none⟩) n c], .int .i64 r] U fun e U' => ∃ A c' b, e = .returned (.tuple #[.agg #[.int .i64 wn, .int .i64 hn, .int .i64 dn, .slice A b.length c'], .bool true]) ∧ OwnF U' U.heap.size 25 (.slice A b.length c') b ∧ b.map nrm = cells3 (bvF wn hn dn r bs) wn dn (wn * hn * dn) ∧ Ext U U' := by
  obtain ⟨i0, hi, hz0, hz1, hz2⟩ := info_parts infoP
  have HV := Lib.hid hv
  have HE := Lib.hid (⟨by omega, by omega⟩ : (0 : Int) ≤ (r : Int) ∧ (r : Int) ≤ 3)
  have hd8 : 1 ≤ dn ∧ dn ≤ 8 := by have := hv.2.2.1; have := hv.2.1; omega
  have hcn := Nat.le_trans hnc hcm
  have hvm : VMap wn hn N := hN ▸ sl_vmap hv
  have hwh : 0 < N ∧ N ≤ 256 := by
    have h1 := hvm.1.2.2.2.2
    have h2 := hvm.2
    have h3 := Nat.mul_pos (show 0 < wn by have := hv.1.1; omega) (show 0 < hn by have := hv.1.2.2.1; omega)
    omega
  have HW := Lib.hid hwh
  have HD := Lib.hid hd8
  have HVM := Lib.hid hvm
  have HR3 := Lib.hid hr
  have HK := Lib.hid (fun (w0 : World) (hx0 : Ext U w0) (e : Nat) (he : e < dn) => implSliceOf_yes wn hn dn gb off n c bs e w0 (hl.ext hx0) hlen hwd hnc hcm hv he)
  have HCE := Lib.hid (fun (e : Nat) => cells_slL wn hn dn N hN bs e)
  rw [hN] at HK
  clear hv hl hlen hwd hnc hcm hr hwh hvm hN hd8
  go_enter Try.func43, Try.ntmps43
  go_wp2_with fail
  refine calls_at (X := fun w' => Ext U w' ∧ Box4 w' U.heap.size (.int .i64 wn) (.int .i64 hn) (.int .i64 dn) (.slice (some ⟨gb, off, none⟩) n c) ∧ w'.cell? ⟨U.heap.size + 1, 0, none⟩ = some (.int .i64 r) ∧ Res4 w' (U.heap.size + 1 + 1) ∧ U.heap.size + 1 + 1 + 1 ≤ w'.heap.size) ⟨(((Ext.refl _).alloc _).alloc _).alloc _, ⟨by simp [go_sem], by simp [go_sem], by simp [go_sem], by simp [go_sem]⟩, by simp [go_sem], ⟨by simp [go_sem], by simp [go_sem], by simp [go_sem], by simp [go_sem], by simp [go_sem], by simp [go_sem], by simp [go_sem], by simp [go_sem]⟩, by simp⟩ ?_
  rintro w0 ⟨hx0, hb0, hq0, hr0, hs0⟩
  refine (ValidVolume_yes _ _ _ _ n c _ hcn HV.out).mono ?_
  rintro e w1 ⟨rfl, hx⟩
  have hb1 := hb0.ext hx
  have hq1 := cell_ext hq0 hx
  have hr1 := hr0.ext hx
  have hE := hx0.trans hx
  have hs1 := Nat.le_trans hs0 hx.size
  clear hx hx0 hb0 hr0 hs0 hq0
  have ⟨p0, p1, p2, p3⟩ := hb1
  have k1 : U.heap.size < w1.heap.size := by omega
  have k2 : ¬ (U.heap.size = w1.heap.size) := by omega
  have k3 : ¬ (U.heap.size = w1.heap.size + 1) := by omega
  have k4 : U.heap.size < w1.heap.size + 1 := by omega
  go_wp2_with (go_at_call 67; with_reducible refine (implIn_yes (r : Int) 0 3 _ HE.out.1 HE.out.2).mono ?_; rintro e w' ⟨rfl, rfl⟩)
  clear p0 p1 p2 p3 k1 k2 k3 k4
  go_loopw [22] (fun kv wr => ∃ (k : Nat) (A : Option Addr) (c' : Nat), k ≤ dn ∧ kv = .int .i64 k ∧ wr.cell? ⟨w1.heap.size + 1, 0, none⟩ = some (.slice A k c') ∧ wr.frozen? ⟨w1.heap.size + 1, 0, none⟩ = false ∧ (∃ cs fz, wr.heap[w1.heap.size + 1]? = some (.cells cs 68 fz)) ∧ OwnP wr w1.heap.size 58 25 (.slice A k c') wn hn N (slL dn N bs) k ∧ Ext w1 wr) (fun kv _ => dn - (intOf kv).toNat)
  case atStart =>
    refine ⟨0, some ⟨w1.heap.size, 0, none⟩, 0, Nat.zero_le _, rfl, ?_, ?_, ?_, ?_, ?_⟩
    · simp [go_sem]
    · simp [go_sem]
    · exact ⟨#[.slice (some ⟨w1.heap.size, 0, none⟩) 0 0], (0, 0), by simpa using heap_alloc_new (w1.alloc (.cells #[] 58)) (.cells #[.slice (some ⟨w1.heap.size, 0, none⟩) 0 0] 68)⟩
    · first | exact (OwnP.made w1 _ _ _ _ _ _).ext ((Ext.refl _).alloc _) | trace_state
    · repeat (first | with_reducible exact Ext.refl _ | (with_reducible refine Ext.setCell ?_ (by dsimp only; omega) _) | (with_reducible refine Ext.alloc ?_ _))
  case round =>
    obtain ⟨k, A, c', hk, rfl, hLc, hLf, hLb, hown, hE1⟩ := hrel
    have ⟨d1, d2⟩ := HD.out
    have ⟨p0, p1, p2, p3⟩ := hb1.ext hE1
    by_cases hlt : k < dn
    · have HC := Lib.hid (HK.out wr (hE.trans hE1) k hlt)
      rw [HCE.out k] at HC
      go_wp2_with fail
      clear p0 p1 p2 p3
      refine HC.out.mono ?_
      rintro e w2 ⟨Ab, cb, b, rfl, hob, hbm, hx2⟩
      have HBL : Hid (b.length = N) := Lib.hid (by have := congrArg List.length hbm; simpa [slL_length] using this)
      have hLc2 := cell_ext hLc hx2
      have hLf2 := (hx2.marks _ _ (by rw [hLc]; rfl)).trans hLf
      have hgLl := lt_of_cell hLc2
      go_wp2_with (at_builtin; refine Hid.out ?_)
      refine Lib.hid ?_
      obtain ⟨HC', hHC'⟩ : ∃ g, g = w2.heap.size + 1 := ⟨_, rfl⟩
      refine wlp_at (X := fun w' => Ext w2 w' ∧ w'.cell? ⟨HC', 0, none⟩ = some (.int .i64 wn) ∧ w'.cell? ⟨HC', 1, none⟩ = some (.int .i64 hn) ∧ w'.cell? ⟨HC', 2, none⟩ = some (.slice Ab b.length cb)) ?_ ?_
      · rw [hHC']
        refine ⟨?_, by simp [go_sem], by simp [go_sem], by simp [go_sem]⟩
        repeat (first | with_reducible exact Ext.refl _ | (with_reducible refine Ext.setCell ?_ (by dsimp only; omega) _) | (with_reducible refine Ext.alloc ?_ _))
      rintro Z ⟨hZ, q0, q1, q2⟩
      try rw [show w2.heap.size + 1 = HC' from hHC'.symm]
      clear hHC'
      obtain ⟨xs, hrow, hp⟩ := (hown.ext hx2).ext hZ
      have hb2 := hob.ext hZ
      have hz1' := hE1.size
      have hz2' := hx2.size
      have hz3' := hZ.size
      have hrl := World.ownsRow.lt hrow
      have hHCl := lt_of_cell q0
      have hLcZ := cell_ext hLc2 hZ
      have hLfZ := (hZ.marks _ _ (by rw [hLc2]; rfl)).trans hLf2
      have hLbZ : ∃ cs fz, Z.heap[w1.heap.size + 1]? = some (.cells cs 68 fz) := by
        obtain ⟨cs, fz, h⟩ := hLb
        exact ⟨cs, fz, ((hx2.trans hZ).block _ (lt_of_block h)).trans h⟩
      have hLne : some (w1.heap.size + 1) ≠ (Value.slice A k c').ownBlock := by
        intro he
        obtain ⟨cs, fz, h⟩ := hLbZ
        rcases hrow.2 with ⟨h0, _⟩ | ⟨g, cap, cur, h0, _, hh, _⟩
        · rw [h0] at he; simp [Value.ownBlock] at he
        · rw [h0] at he
          simp [Value.ownBlock] at he
          rw [he, hh] at h
          simp at h
      refine wpList_append_own _ rfl _ _ _ rfl w1.heap.size 58 i0 (.agg #[.int .i64 0, .int .i64 0, .slice none 0 0]) 3 40 Try.underlying68 hi hz0 hz1 hz2 rfl (by omega) (.slice A k c') k xs (by rfl) hrow ⟨HC', 0, none⟩ 1 1 [.int .i64 wn, .int .i64 hn, .slice Ab b.length cb] (by rfl) rfl (pic_new q0 q1 q2) (pic_words _ _ _ _ _) (by unfold maxLen; omega) (by omega) (by omega) ?_
      intro v' w3 ho2 hg2 _
      have hE3 := Ext.grown ((hE1.trans hx2).trans hZ) hg2 (fun g hg => by have := hrl g hg; omega)
      have hown2 := OwnP.push hrow hp (by decide) hb2 HBL.out HW.out.1 hbm ho2 hg2
      obtain ⟨A', c2, rfl⟩ := hown2.form
      have hLc3 := hg2.cell hLcZ hLne
      have hLf3 : w3.frozen? ⟨w1.heap.size + 1, 0, none⟩ = false := (World.frozen?_of_block (a := ⟨w1.heap.size + 1, 0, none⟩) (hg2.block _ (lt_of_cell hLcZ) hLne)).trans hLfZ
      obtain ⟨cs3, fz3, hLb3⟩ : ∃ cs fz, w3.heap[w1.heap.size + 1]? = some (.cells cs 68 fz) := by
        obtain ⟨cs, fz, h⟩ := hLbZ
        exact ⟨cs, fz, (hg2.block _ (lt_of_block h) hLne).trans h⟩
      have hown3 := hown2.set hLb3 (by decide) (by decide) 0 (.slice A' (k + 1) c2)
      have hLb4 := blk_set (a := ⟨w1.heap.size + 1, 0, none⟩) (u := .slice A' (k + 1) c2) ⟨cs3, fz3, hLb3⟩
      have hLc4 := cell_set_eq (u := .slice A' (k + 1) c2) hLc3
      have hLf4 : (w3.setCell ⟨w1.heap.size + 1, 0, none⟩ (.slice A' (k + 1) c2)).frozen? ⟨w1.heap.size + 1, 0, none⟩ = false := by
        simp only [World.frozen?, World.setCell] at hLf3 ⊢
        rw [hLb3] at hLf3
        simpa [Array.getElem?_modify, hLb3] using hLf3
      have hE4 : Ext w1 (w3.setCell ⟨w1.heap.size + 1, 0, none⟩ (.slice A' (k + 1) c2)) := hE3.setCell (by dsimp only; omega) _
      clear ho2 hg2 hown hown2 hrow hp hb2 hbm hob hZ hx2 hE1 q0 q1 q2 hrl hLc hLc2 hLf hLf2 hLcZ hLfZ hLbZ hLb hLne hLb3 hE3
      go_wp2
      go_roundw
      case rel => exact ⟨k + 1, A', c2, by omega, by go_num, hLc4, hLf4, hLb4, hown3, hE4⟩
      case measure => simp [intOf]; omega
    · obtain rfl : k = dn := by omega
      obtain ⟨gp, rfl, hpl⟩ := hown.pics (by omega)
      have hr2 := hr1.ext hE1
      have hq2 := cell_ext hq1 hE1
      have hE2' := hE.trans hE1
      have hs2 := hE1.size
      have HRV := Lib.hid (revolume_yes wn hn k (some ⟨gb, off, none⟩) n c hcn HV.out 93 #[.pointer (some ⟨w1.heap.size + 1, 0, none⟩), .pointer (some ⟨U.heap.size + 1, 0, none⟩)] (bvF wn hn k r bs) wr (by kernel_rfl)
        (fun x y e U' h1 h2 h3 h4 => box1_any wn hn k N r gp c' _ _ bs x y e U' (cell_ext hLc h1) (cell_ext hq2 h1) (hpl.ext h1) HVM.out HR3.out h2 h3 h4 HD.out.2))
      clear hown hpl hLb hLf
      go_wp2_with fail
      clear p0 p1 p2 p3
      refine HRV.out.mono ?_
      rintro e w2 ⟨A, c', b, rfl, ho, hm, hx⟩
      have ⟨c0, c1, c2, c3, f0, f1, f2, f3⟩ := hr2.ext hx
      have hE2 := hE2'.trans hx
      clear hx hr2 hE2' hr1 hb1 HRV
      go_wp2
      refine bodyPost_ret (v := .tuple #[.agg #[.int .i64 wn, .int .i64 hn, .int .i64 k, .slice A b.length c'], .bool true]) (by simp [results, Try.results43, go_sem, *]) rfl ⟨A, c', b, rfl, ?_, hm, ?_⟩
      · refine OwnF.weaken (base := wr.heap.size) ?_ (by omega)
        repeat (first | (with_reducible exact ho) | (with_reducible refine OwnF.set_below ?_ (by dsimp only; omega) _))
      · repeat (first | (with_reducible exact hE2) | (with_reducible refine Ext.setCell ?_ (by dsimp only; omega) _))
set_option maxHeartbeats 8000000 in
set_option maxRecDepth 8000 in
theorem specBox_yes (wn hn dn N gb off n c : Nat) (hN : wn * hn = N) (bs : List Nat) (r : Nat) (U : World) (hl : Lies U gb off bs) (hlen : bs.length = n) (hwd : Words bs) (hnc : n ≤ c) (hcm : c ≤ maxLen) (hv : VVol wn hn dn n) (hr : r ≤ 3) :
    Calls Try.prog 42 #[.agg #[.int .i64 wn, .int .i64 hn, .int .i64 dn, .slice (some ⟨gb, off, none⟩) n c], .int .i64 r] U fun e U' => ∃ A c' b, e = .returned (.tuple #[.agg #[.int .i64 wn, .int .i64 hn, .int .i64 dn, .slice A b.length c'], .bool true]) ∧ OwnF U' U.heap.size 25 (.slice A b.length c') b ∧ b.map nrm = stL (fun e => cells (fun x y => bvF wn hn dn r bs x y e) wn N) dn (N * dn) ∧ Ext U U' := by
  obtain ⟨i0, hi, hz0, hz1, hz2⟩ := info_parts infoP
  have HV := Lib.hid hv
  have HE := Lib.hid (⟨by omega, by omega⟩ : (0 : Int) ≤ (r : Int) ∧ (r : Int) ≤ 3)
  have hd8 : 1 ≤ dn ∧ dn ≤ 8 := by have := hv.2.2.1; have := hv.2.1; omega
  have hcn := Nat.le_trans hnc hcm
  have hvm : VMap wn hn N := hN ▸ sl_vmap hv
  have hwh : 0 < N ∧ N ≤ 256 := by
    have h1 := hvm.1.2.2.2.2
    have h2 := hvm.2
    have h3 := Nat.mul_pos (show 0 < wn by have := hv.1.1; omega) (show 0 < hn by have := hv.1.2.2.1; omega)
    omega
  have HW := Lib.hid hwh
  have HD := Lib.hid hd8
  have HVM := Lib.hid hvm
  have HR3 := Lib.hid hr
  have HK := Lib.hid (fun (w0 : World) (hx0 : Ext U w0) (hb0 : Box4 w0 U.heap.size (.int .i64 wn) (.int .i64 hn) (.int .i64 dn) (.slice (some ⟨gb, off, none⟩) n c)) (e : Nat) (he : e < dn) => l03Slice_any U.heap.size wn hn dn gb off n c bs e he w0 hb0 (hl.ext hx0) hlen hwd hnc hcm hv)
  rw [hN] at HK
  have HSZ := Lib.hid (⟨by have := hv.1.1; have := hv.1.2.1; omega, by have := hv.1.2.2.1; have := hv.1.2.2.2.1; omega, by rw [hN]; omega⟩ : (1 ≤ wn ∧ wn ≤ 24) ∧ (1 ≤ hn ∧ hn ≤ 24) ∧ wn * hn ≤ 256)
  have HN := Lib.hid hN
  obtain ⟨L, hL⟩ : ∃ L : Nat → List Nat, L = fun e => cells (fun x y => bvF wn hn dn r bs x y e) wn N := ⟨_, rfl⟩
  have HLE := Lib.hid (fun (e : Nat) => congrFun hL e)
  rw [← hL]
  clear hv hl hlen hwd hnc hcm hr hwh hvm hN hd8 hL
  go_enter Try.func42, Try.ntmps42
  go_wp2_with fail
  refine calls_at (X := fun w' => Ext U w' ∧ Box4 w' U.heap.size (.int .i64 wn) (.int .i64 hn) (.int .i64 dn) (.slice (some ⟨gb, off, none⟩) n c) ∧ Res4 w' (U.heap.size + 1) ∧ U.heap.size + 1 + 1 ≤ w'.heap.size) ⟨((Ext.refl _).alloc _).alloc _, ⟨by simp [go_sem], by simp [go_sem], by simp [go_sem], by simp [go_sem]⟩, ⟨by simp [go_sem], by simp [go_sem], by simp [go_sem], by simp [go_sem], by simp [go_sem], by simp [go_sem], by simp [go_sem], by simp [go_sem]⟩, by simp⟩ ?_
  rintro w0 ⟨hx0, hb0, hr0, hs0⟩
  refine (l03Is_yes _ _ _ _ _ n c _ hcn hb0.1 hb0.2.1 hb0.2.2.1 hb0.2.2.2 HV.out).mono ?_
  rintro e w1 ⟨rfl, hx⟩
  have hb1 := hb0.ext hx
  have hr1 := hr0.ext hx
  have hE := hx0.trans hx
  have hs1 := Nat.le_trans hs0 hx.size
  clear hx hx0 hb0 hr0 hs0
  have ⟨p0, p1, p2, p3⟩ := hb1
  go_wp2_with (go_at_call 63; with_reducible refine (l00In_yes (r : Int) 0 3 _ HE.out.1 HE.out.2).mono ?_; rintro e w' ⟨rfl, rfl⟩)
  clear p0 p1 p2 p3
  go_loopw [6, 7] (fun sv kv wr => ∃ (k : Nat) (A : Option Addr) (c' : Nat), k ≤ dn ∧ kv = .int .i64 k ∧ sv = .slice A k c' ∧ OwnP wr w1.heap.size 58 25 (.slice A k c') wn hn N L k ∧ Ext w1 wr) (fun _ kv _ => dn - (intOf kv).toNat)
  case atStart => exact ⟨0, _, 0, Nat.zero_le _, rfl, rfl, OwnP.made w1 _ _ _ _ _ _, (Ext.refl _).alloc _⟩
  case round =>
    obtain ⟨k, A, c', hk, rfl, rfl, hown, hE1⟩ := hrel
    have ⟨d1, d2⟩ := HD.out
    have ⟨p0, p1, p2, p3⟩ := hb1.ext hE1
    by_cases hlt : k < dn
    · have HC := Lib.hid (HK.out wr (hE.trans hE1) (hb1.ext hE1) k hlt)
      go_wp2_with fail
      clear p0 p1 p2 p3
      refine HC.out.mono ?_
      rintro e wa ⟨Ab, cb, b, rfl, hob, hbm, hxa⟩
      have hbl : b.length = N := by have := congrArg List.length hbm; simpa using this
      rw [hbl] at hob ⊢
      replace hbm : b.map nrm = slL dn N bs k := hbm
      have hrb := hob.form
      obtain ⟨gA, rfl⟩ := hob.at (by have := HW.out.1; omega)
      have hlb := hob.lies
      clear hrb
      go_wp2_with fail
      refine calls_at (X := fun w' => Ext wa w' ∧ Box3 w' wa.heap.size (.int .i64 wn) (.int .i64 hn) (.slice (some ⟨gA, 0, none⟩) N cb)) ⟨?_, by simp [go_sem], by simp [go_sem], by simp [go_sem]⟩ ?_
      · repeat (first | with_reducible exact Ext.refl _ | (with_reducible refine Ext.setCell ?_ (by dsimp only; omega) _) | (with_reducible refine Ext.alloc ?_ _))
      rintro wb ⟨hxb, hB8⟩
      have HB := Lib.hid (l02Box_any wa.heap.size wn hn cb N r (some ⟨gA, 0, none⟩) (fun u v => b.getD (cellN (wn : Int) (clampI u wn) (clampI v hn)) 0) wb hB8 HSZ.out.1 HSZ.out.2.1 HSZ.out.2.2 HR3.out (fun W hW u v => l02At_any _ wn hn (some ⟨gA, 0, none⟩) N cb b u v W (hB8.ext hW) ⟨hbl, fun _ => ⟨gA, 0, rfl, (hlb.ext hxb).ext hW⟩⟩ HVM.out))
      rw [slice_grey HVM.out bs b k hbm, HN.out] at HB
      have HLK := HLE.out k
      clear hbm hbl hlb hob
      refine HB.out.mono ?_
      rintro e w2 ⟨Ab2, cb2, b2, rfl, hob, hbm, hx2'⟩
      have hx2 := (hxa.trans hxb).trans hx2'
      have HBL : Hid (b2.length = N) := Lib.hid (by have := congrArg List.length hbm; simpa [cells_length] using this)
      replace hbm : b2.map nrm = L k := by rw [HLK]; exact hbm
      clear hx2' hxa hxb hB8 HB HC
      go_wp2_with (at_builtin; refine Hid.out ?_)
      refine Lib.hid ?_
      refine wlp_at (X := fun w' => Ext w2 w' ∧ w'.cell? ⟨w2.heap.size, 0, none⟩ = some (.int .i64 wn) ∧ w'.cell? ⟨w2.heap.size, 1, none⟩ = some (.int .i64 hn) ∧ w'.cell? ⟨w2.heap.size, 2, none⟩ = some (.slice Ab2 b2.length cb2)) ⟨(Ext.refl _).alloc _, by simp [go_sem], by simp [go_sem], by simp [go_sem]⟩ ?_
      rintro Z ⟨hZ, q0, q1, q2⟩
      obtain ⟨xs, hrow, hp⟩ := (hown.ext hx2).ext hZ
      have hb2 := hob.ext hZ
      have hz1' := hE1.size
      have hz2' := hx2.size
      have hz3' := hZ.size
      have hrl := World.ownsRow.lt hrow
      refine wpList_append_own _ rfl _ _ _ rfl w1.heap.size 58 i0 (.agg #[.int .i64 0, .int .i64 0, .slice none 0 0]) 3 40 Try.underlying68 hi hz0 hz1 hz2 rfl (by omega) (.slice A k c') k xs (by rfl) hrow ⟨w2.heap.size, 0, none⟩ 1 1 [.int .i64 wn, .int .i64 hn, .slice Ab2 b2.length cb2] (by rfl) rfl (pic_new q0 q1 q2) (pic_words _ _ _ _ _) (by unfold maxLen; omega) (by omega) (by omega) ?_
      intro v' w3 ho2 hg2 _
      have hE3 := Ext.grown ((hE1.trans hx2).trans hZ) hg2 (fun g hg => by have := hrl g hg; omega)
      have hown2 := OwnP.push hrow hp (by decide) hb2 HBL.out HW.out.1 hbm ho2 hg2
      obtain ⟨A', c2, rfl⟩ := hown2.form
      clear ho2 hg2 hown hrow hp hb2 hbm hob hZ hx2 hE1 q0 q1 q2 hrl HLK
      go_wp2
      go_roundw
      case rel => exact ⟨k + 1, A', c2, by omega, by go_num, rfl, hown2, hE3⟩
      case measure => simp [intOf]; omega
    · obtain rfl : k = dn := by omega
      obtain ⟨gp, rfl, hpl⟩ := hown.pics (by omega)
      have hr2 := hr1.ext hE1
      have hE2' := hE.trans hE1
      have hs2 := hE1.size
      clear hown
      go_wp2_with fail
      refine (l03Stack_any gp 0 k c' N wn hn L wr hpl (by omega) HW.out).mono ?_
      rintro e w2 ⟨A, c', b, rfl, ho, hm, hx⟩
      have ⟨c0, c1, c2, c3, f0, f1, f2, f3⟩ := hr2.ext hx
      have hE2 := hE2'.trans hx
      clear hx hr2 hpl hE2' hr1 hb1 p0 p1 p2 p3
      go_wp2
      refine bodyPost_ret (v := .tuple #[.agg #[.int .i64 wn, .int .i64 hn, .int .i64 k, .slice A b.length c'], .bool true]) (by simp [results, Try.results42, go_sem, *]) rfl ⟨A, c', b, rfl, ?_, hm, ?_⟩
      · refine OwnF.weaken (base := wr.heap.size) ?_ (by omega)
        repeat (first | (with_reducible exact ho) | (with_reducible refine OwnF.set_below ?_ (by dsimp only; omega) _))
      · repeat (first | (with_reducible exact hE2) | (with_reducible refine Ext.setCell ?_ (by dsimp only; omega) _))
set_option maxRecDepth 8000 in
theorem lawBoxVolume_any (W : World) (z0 z1 z2 : Int) (_ : -9223372036854775808 ≤ z0 ∧ z0 ≤ 9223372036854775807) (_ : -9223372036854775808 ≤ z1 ∧ z1 ≤ 9223372036854775807) (_ : -9223372036854775808 ≤ z2 ∧ z2 ≤ 9223372036854775807) (A : Option Addr) (n m : Nat) (bs : List Nat) (hc : n ≤ m) (hm : m ≤ maxLen) (hr : Reads W A n bs) (hw : Words bs) (ee : Int) (_ : IntKind.i64.min ≤ ee ∧ ee ≤ IntKind.i64.max) :
    Calls Try.prog 8 #[.agg #[.int .i64 z0, .int .i64 z1, .int .i64 z2, .slice A n m], .int .i64 ee] W fun e W' => e = .returned (.bool true) ∧ Ext W W' := by
  have hn : n ≤ maxLen := Nat.le_trans hc hm
  by_cases hv : VVol z0 z1 z2 n ∧ 0 ≤ ee ∧ ee ≤ 3
  · obtain ⟨hv, hs⟩ := hv
    obtain ⟨wn, rfl⟩ := Int.eq_ofNat_of_zero_le (show 0 ≤ z0 by have := hv.1.1; omega)
    obtain ⟨hh, rfl⟩ := Int.eq_ofNat_of_zero_le (show 0 ≤ z1 by have := hv.1.2.2.1; omega)
    obtain ⟨dn, rfl⟩ := Int.eq_ofNat_of_zero_le (show 0 ≤ z2 by have := hv.2.1; omega)
    obtain ⟨r, rfl⟩ := Int.eq_ofNat_of_zero_le (show 0 ≤ ee by omega)
    have hd8 := hv.2.2.1
    have h0 := (vol_n hv).2.1
    have hwh : wn * hh ≤ 256 := vol_wh hv
    have h2048 : wn * hh * dn ≤ 256 * 8 := Nat.mul_le_mul hwh (by omega)
    refine lawBoxVolume_core W wn hh dn A n m bs hn hr r wn hh dn (cells3 (bvF wn hh dn r bs) wn dn (wn * hh * dn)) (by rw [cells3_length]; omega) true ?_ ?_
    · intro w D hd
      obtain ⟨gb, off, rfl, hl⟩ := hd.2 h0
      rw [bv_eq wn hh dn r (wn * hh) rfl]
      exact specBox_yes wn hh dn (wn * hh) gb off n n rfl bs r w hl hd.1 hw (Nat.le_refl _) hn hv (by omega)
    · intro w D hd
      obtain ⟨gb, off, rfl, hl⟩ := hd.2 h0
      exact implBox_yes wn hh dn (wn * hh) gb off n n rfl bs r w hl hd.1 hw (Nat.le_refl _) hn hv (by omega)
  · exact lawBoxVolume_core W z0 z1 z2 A n m bs hn hr ee 0 0 0 [] (by simp) false (fun w D hd => specBox_no z0 z1 z2 D n n ee hn hv w) (fun w D hd => implBox_no z0 z1 z2 D n n ee hn hv w)
end Go.Proofs.Ytgpobhpcbgenoaa
