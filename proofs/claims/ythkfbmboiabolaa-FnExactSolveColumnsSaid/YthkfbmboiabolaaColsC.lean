/- Contracts: the program's map of columns that cost least. -/
import Derived.Test.YthkfbmboiabolaaColsM
import Derived.Test.YthkfbmboiabolaaMaps
namespace Go.Proofs.Ythkfbmboiabolaa
open Go.RowKit
set_option linter.unusedVariables false

theorem solveColumns1_any (g : Nat) (w h : Int) (A : Option Addr) (n c : Nat) (bs : List Nat) (x y k : Nat) (U : World) (hB : Box3 U g (.int .i64 w) (.int .i64 h) (.slice A n c)) (hr : Reads U A n bs) (hn : n ≤ maxLen) (hk : (y : Int) + w * (x : Int) = k) (hkn : k < n) (hw : IntKind.i64.wrap (w * (x : Int)) = w * (x : Int)) :
    Calls Try.prog 61 #[.int .i64 x, .int .i64 y, .pointer (some ⟨g, 0, none⟩)] U fun e U' => e = .returned (.float .f32 (bs.getD k 0)) ∧ Ext U U' := by
  have HA := Lib.hid (at_any g w h A n c bs (y : Int) (x : Int) k U hB hr hn hk hkn hw)
  generalize bs.getD k 0 = v at HA ⊢
  clear hB hr hk hkn hw
  go_enter Try.func61, Try.ntmps61
  go_wp2_with fail
  refine HA.out.mono ?_
  rintro e w1 ⟨rfl, hx⟩
  go_wp2
  go_ret
  exact ⟨rfl, hx⟩
set_option maxRecDepth 8000 in
theorem implSolveColumns_no1 (z0 z1 z2 : Int) (A : Option Addr) (n c : Nat) (p0 p1 : Nat) (U : World) (hnm : n ≤ maxLen) (hv : ¬ VVol z0 z1 z2 n) :
    Calls Try.prog 35 #[.agg #[.int .i64 z0, .int .i64 z1, .int .i64 z2, .slice A n c], .agg #[.float .f32 p0, .float .f32 p1]] U (MapR U 0 0 [] false) := by
  have HV := Lib.hid hv
  have HZ : Hid (¬ ROk 0 0 0 0 p0 p1 0) := Lib.hid (fun h => by have := h.1.1.1; omega)
  clear hv
  go_enter Try.func35, Try.ntmps35
  go_wp2_with fail
  refine calls_at (X := fun w' => Ext U w' ∧ Box2 w' (U.heap.size + 1) (fl p0) (fl p1) ∧ Res3 w' (U.heap.size + 2) ∧ U.heap.size + 3 ≤ w'.heap.size) ⟨(((Ext.refl _).alloc _).alloc _).alloc _, ⟨by simp [go_sem], by simp [go_sem]⟩, ⟨by simp [go_sem], by simp [go_sem], by simp [go_sem], by simp [go_sem], by simp [go_sem], by simp [go_sem]⟩, by simp⟩ ?_
  rintro w0 ⟨hE, hq, hr, hs⟩
  refine (implSwapVolume_no z0 z1 z2 A n c hnm HV.out _).mono ?_
  rintro e w1 ⟨A1, c1, b1, rfl, hO, hL, hx⟩
  have hb1 : b1.length = 0 := by have := congrArg List.length hL; simpa using this
  rw [hb1]
  replace hE := hE.trans hx
  replace hr := hr.ext hx
  have ⟨qa, qb⟩ := hq.ext hx
  have hs1 := Nat.le_trans hs hx.size
  have l1 : U.heap.size + 1 < w1.heap.size := by omega
  have l2 : ¬ (U.heap.size + 1 = w1.heap.size) := by omega
  clear hx hq hs hb1 hO hL
  go_wp2_with fail
  refine calls_at (X := fun w' => Ext U w' ∧ Res3 w' (U.heap.size + 2) ∧ U.heap.size + 3 ≤ w'.heap.size) ⟨hE.alloc _, hr.ext ((Ext.refl _).alloc _), by simp; omega⟩ ?_
  rintro w2 ⟨hE2, hr2, hs2⟩
  clear hE hr hs1 l1 l2 qa qb
  refine (implSolveRows_no 0 0 0 A1 0 c1 p0 p1 _ (by omega) HZ.out).mono ?_
  rintro e w3 ⟨A3, c3, b3, rfl, hO3, hL3, hx3⟩
  have hs3 := Nat.le_trans hs2 hx3.size
  have hE3 := hE2.trans hx3
  have ⟨c0', c1', c2', f0, f1, f2⟩ := (hr2.ext hx3).ext ((Ext.refl w3).alloc (.cells #[.int .i64 0, .int .i64 0, .slice A3 b3.length c3] 54))
  clear hE2 hr2 hs2 hx3 hO3 hL3
  go_wp2
  refine bodyPost_ret (v := .tuple #[.agg #[.int .i64 0, .int .i64 0, .slice none 0 0], .bool false]) (by simp [results, Try.results35, go_sem, *]) rfl (MapR.no _ _ ?_)
  repeat (first | (with_reducible exact hE3) | (with_reducible refine Ext.setCell ?_ (by dsimp only; omega) _) | (with_reducible refine Ext.alloc ?_ _))
set_option maxHeartbeats 1000000 in
set_option maxRecDepth 8000 in
/-- Where the volume with its sides swapped isn't solved. -/
theorem implSolveColumns_no2 (wn hn dn gb off n : Nat) (bs : List Nat) (p0 p1 : Nat) (U : World) (hnm : n ≤ maxLen) (hl : Lies U gb off bs) (hlen : bs.length = n) (hw : Words bs) (hv : VVol wn hn dn n) (hno : ¬ (PV p0 p1 ∧ ColsOk wn hn dn bs)) :
    Calls Try.prog 35 #[.agg #[.int .i64 wn, .int .i64 hn, .int .i64 dn, .slice (some ⟨gb, off, none⟩) n n], .agg #[.float .f32 p0, .float .f32 p1]] U (MapR U 0 0 [] false) := by
  have HSW := Lib.hid (fun (W : World) (hW : Ext U W) => implSwap_any wn hn dn gb off n bs W hnm (hl.ext hW) hlen hw hv)
  have HROWS := Lib.hid (fun (W : World) (g c : Nat) (b : List Nat) (hlb : Lies W g 0 b) (hb : b.map nrm = swapL wn hn dn bs) (hwb : Words b) (hbc : b.length ≤ c) (hcm : c ≤ maxLen) => (by
    have hbl : b.length = hn * wn * dn := by have := congrArg List.length hb; rw [List.length_map, swapL_length] at this; exact this
    have hsv := swapVol hv
    by_cases hp : PV p0 p1
    · have hnc : ¬ RowsOk hn wn dn (swapL wn hn dn bs) := fun h => hno ⟨hp, h⟩
      exact implSolveRows_say hn wn dn g 0 b.length c p0 p1 b W 0 0 [] false hlb rfl hwb hbc hcm (rok0.2 ⟨by rw [hbl]; exact hsv, hp⟩) (RowsSay.of (.inr ⟨hnc, rfl, rfl, rfl, rfl⟩) hb)
    · exact implSolveRows_no hn wn dn (some ⟨g, 0, none⟩) b.length c p0 p1 W (Nat.le_trans hbc hcm) (fun h => hp h.2.1) : Calls Try.prog 30 #[.agg #[.int .i64 hn, .int .i64 wn, .int .i64 dn, .slice (some ⟨g, 0, none⟩) b.length c], .agg #[.float .f32 p0, .float .f32 p1]] W (MapR W 0 0 [] false)))
  have HNZ : Hid (∀ b : List Nat, b.map nrm = swapL wn hn dn bs → 0 < b.length) := Lib.hid (fun b hb => by
    have hbl : b.length = hn * wn * dn := by have := congrArg List.length hb; rw [List.length_map, swapL_length] at this; exact this
    rw [hbl]
    have := hv.1.1; have := hv.1.2.2.1; have := hv.2.1
    exact Nat.mul_pos (Nat.mul_pos (by omega) (by omega)) (by omega))
  clear hl hlen hw hv hno
  go_enter Try.func35, Try.ntmps35
  go_wp2_with fail
  refine calls_at (X := fun w' => Ext U w' ∧ Box2 w' (U.heap.size + 1) (fl p0) (fl p1) ∧ Res3 w' (U.heap.size + 2) ∧ U.heap.size + 3 ≤ w'.heap.size) ⟨(((Ext.refl _).alloc _).alloc _).alloc _, ⟨by simp [go_sem], by simp [go_sem]⟩, ⟨by simp [go_sem], by simp [go_sem], by simp [go_sem], by simp [go_sem], by simp [go_sem], by simp [go_sem]⟩, by simp⟩ ?_
  rintro w0 ⟨hE, hq, hr, hs⟩
  refine (HSW.out _ hE).mono ?_
  rintro e w1 ⟨A1, c1, b1, rfl, hO, hL, hwb, hx⟩
  obtain ⟨gS, rfl⟩ := hO.at (HNZ.out b1 hL)
  obtain ⟨A', c', he', hbc, hcm, _⟩ := hO.form
  simp only [Value.slice.injEq] at he'
  obtain ⟨rfl, _, rfl⟩ := he'
  have HCALL := Lib.hid (fun (W : World) (hW : Ext w1 W) => HROWS.out W gS c1 b1 (hO.lies.ext hW) hL hwb hbc hcm)
  replace hE := hE.trans hx
  replace hr := hr.ext hx
  have ⟨qa, qb⟩ := hq.ext hx
  have hs1 := Nat.le_trans hs hx.size
  have l1 : U.heap.size + 1 < w1.heap.size := by omega
  have l2 : ¬ (U.heap.size + 1 = w1.heap.size) := by omega
  clear hx hq hs hO hL hwb hbc hcm
  go_wp2_with fail
  refine calls_at (X := fun w' => Ext w1 w') ((Ext.refl _).alloc _) ?_
  intro w2 hx2
  clear l1 l2 qa qb
  refine (HCALL.out _ hx2).mono ?_
  rintro e w3 ⟨A3, c3, b3, rfl, hO3, hL3, hx3⟩
  have hs3 := Nat.le_trans hs1 (hx2.trans hx3).size
  have hE3 := hE.trans (hx2.trans hx3)
  have ⟨c0', c1', c2', f0, f1, f2⟩ := (hr.ext (hx2.trans hx3)).ext ((Ext.refl w3).alloc (.cells #[.int .i64 0, .int .i64 0, .slice A3 b3.length c3] 54))
  clear hE hr hs1 hx2 hx3 hO3 hL3
  go_wp2
  refine bodyPost_ret (v := .tuple #[.agg #[.int .i64 0, .int .i64 0, .slice none 0 0], .bool false]) (by simp [results, Try.results35, go_sem, *]) rfl (MapR.no _ _ ?_)
  repeat (first | (with_reducible exact hE3) | (with_reducible refine Ext.setCell ?_ (by dsimp only; omega) _) | (with_reducible refine Ext.alloc ?_ _))
set_option maxHeartbeats 1000000 in
set_option maxRecDepth 8000 in
theorem implSolveColumns_yes (wn hn dn gb off n : Nat) (bs : List Nat) (p0 p1 : Nat) (U : World) (hnm : n ≤ maxLen) (hl : Lies U gb off bs) (hlen : bs.length = n) (hw : Words bs) (hv : VVol wn hn dn n) (hp : PV p0 p1) (hok : ColsOk wn hn dn bs) :
    Calls Try.prog 35 #[.agg #[.int .i64 wn, .int .i64 hn, .int .i64 dn, .slice (some ⟨gb, off, none⟩) n n], .agg #[.float .f32 p0, .float .f32 p1]] U (MapR U wn hn (cells (colsF wn hn dn p0 p1 bs) wn (wn * hn)) true) := by
  have h1 : wn ≤ 24 := by have := hv.1.2.1; omega
  have h2 : hn ≤ 24 := by have := hv.1.2.2.2.1; omega
  have HSW := Lib.hid (fun (W : World) (hW : Ext U W) => implSwap_any wn hn dn gb off n bs W hnm (hl.ext hW) hlen hw hv)
  have HROWS := Lib.hid (fun (W : World) (g c : Nat) (b : List Nat) (hlb : Lies W g 0 b) (hb : b.map nrm = swapL wn hn dn bs) (hwb : Words b) (hbc : b.length ≤ c) (hcm : c ≤ maxLen) => (by
    have hbl : b.length = hn * wn * dn := by have := congrArg List.length hb; rw [List.length_map, swapL_length] at this; exact this
    have hsv := swapVol hv
    exact implSolveRows_say hn wn dn g 0 b.length c p0 p1 b W hn wn _ true hlb rfl hwb hbc hcm (rok0.2 ⟨by rw [hbl]; exact hsv, hp⟩) (RowsSay.of (.inl ⟨hok, rfl, rfl, rfl, rfl⟩) hb) : Calls Try.prog 30 #[.agg #[.int .i64 hn, .int .i64 wn, .int .i64 dn, .slice (some ⟨g, 0, none⟩) b.length c], .agg #[.float .f32 p0, .float .f32 p1]] W (MapR W hn wn (cells (rowsF hn dn p0 p1 (swapL wn hn dn bs)) hn (hn * wn)) true)))
  have HNZ : Hid (∀ b : List Nat, b.map nrm = swapL wn hn dn bs → 0 < b.length) := Lib.hid (fun b hb => by
    have hbl : b.length = hn * wn * dn := by have := congrArg List.length hb; rw [List.length_map, swapL_length] at this; exact this
    rw [hbl]
    have := hv.1.1; have := hv.1.2.2.1; have := hv.2.1
    exact Nat.mul_pos (Nat.mul_pos (by omega) (by omega)) (by omega))
  have hw1 : 0 < wn := by have := hv.1.1; omega
  have hh1 : 0 < hn := by have := hv.1.2.2.1; omega
  obtain ⟨F, hF'⟩ : ∃ F, rowsF hn dn p0 p1 (swapL wn hn dn bs) = F := ⟨_, rfl⟩
  have HFN : Hid (∀ x y, isN (F x y) = false ∧ F x y < 4294967296) := Lib.hid (fun x y => by rw [← hF']; exact ⟨isN_rowsF _ _ _ _ _ _ _, rowsF_lt _ _ _ _ _ _ _⟩)
  have HG : Hid (colsF wn hn dn p0 p1 bs = fun x y => F y x) := Lib.hid (by rw [← hF']; rfl)
  rw [hF'] at HROWS
  rw [HG.out]
  clear hl hlen hw hv hp hok hF' HG
  go_enter Try.func35, Try.ntmps35
  go_wp2_with fail
  refine calls_at (X := fun w' => Ext U w' ∧ Box4 w' U.heap.size (.int .i64 wn) (.int .i64 hn) (.int .i64 dn) (.slice (some ⟨gb, off, none⟩) n n) ∧ Box2 w' (U.heap.size + 1) (fl p0) (fl p1) ∧ Res3 w' (U.heap.size + 2) ∧ U.heap.size + 3 ≤ w'.heap.size) ⟨(((Ext.refl _).alloc _).alloc _).alloc _, ⟨by simp [go_sem], by simp [go_sem], by simp [go_sem], by simp [go_sem]⟩, ⟨by simp [go_sem], by simp [go_sem]⟩, ⟨by simp [go_sem], by simp [go_sem], by simp [go_sem], by simp [go_sem], by simp [go_sem], by simp [go_sem]⟩, by simp⟩ ?_
  rintro w0 ⟨hE, hbx, hq, hr, hs⟩
  refine (HSW.out _ hE).mono ?_
  rintro e w1 ⟨A1, c1, b1, rfl, hO, hL, hwb, hx⟩
  obtain ⟨gS, rfl⟩ := hO.at (HNZ.out b1 hL)
  obtain ⟨A', c', he', hbc, hcm, _⟩ := hO.form
  simp only [Value.slice.injEq] at he'
  obtain ⟨rfl, _, rfl⟩ := he'
  have HCALL := Lib.hid (fun (W : World) (hW : Ext w1 W) => HROWS.out W gS c1 b1 (hO.lies.ext hW) hL hwb hbc hcm)
  replace hE := hE.trans hx
  replace hr := hr.ext hx
  replace hbx := hbx.ext hx
  have ⟨qa, qb⟩ := hq.ext hx
  have hs1 := Nat.le_trans hs hx.size
  have l1 : U.heap.size + 1 < w1.heap.size := by omega
  have l2 : ¬ (U.heap.size + 1 = w1.heap.size) := by omega
  clear hx hq hs hO hL hwb hbc hcm
  go_wp2_with fail
  refine calls_at (X := fun w' => Ext w1 w') ((Ext.refl _).alloc _) ?_
  intro w2 hx2
  clear l1 l2 qa qb
  refine (HCALL.out _ hx2).mono ?_
  rintro e w3 ⟨A3, c3, b3, rfl, hO3, hL3, hx3⟩
  have hs3 := Nat.le_trans hs1 (hx2.trans hx3).size
  have hE3 := hE.trans (hx2.trans hx3)
  obtain ⟨W3, hW3⟩ : ∃ W3, w3.alloc (.cells #[.int .i64 hn, .int .i64 wn, .slice A3 b3.length c3] 54) = W3 := ⟨_, rfl⟩
  have hx4 : Ext w3 W3 := by rw [← hW3]; exact (Ext.refl _).alloc _
  have hm3 : Box3 W3 w3.heap.size (.int .i64 hn) (.int .i64 wn) (.slice A3 b3.length c3) := by rw [← hW3]; exact ⟨by simp [go_sem], by simp [go_sem], by simp [go_sem]⟩
  have hr4 := (hr.ext (hx2.trans hx3)).ext hx4
  have ⟨p0', p1', p2', p3'⟩ := (hbx.ext (hx2.trans hx3)).ext hx4
  have hrd : Reads W3 A3 b3.length b3 := hO3.reads.ext hx4
  have hb3m := hO3.bound
  have HCLO := Lib.hid (fun (x y : Nat) (W' : World) (hW : Ext W3 W') (hx : x < wn) (hy : y < hn) => (by
    have hword := map_word hL3 hy hx
    refine (solveColumns1_any w3.heap.size hn wn A3 b3.length c3 b3 x y (y + hn * x) W' (hm3.ext hW) (hrd.ext hW) hb3m (by simp) hword.1 ?_).mono ?_
    · have := Nat.mul_le_mul h2 (show x ≤ 24 by omega)
      rw [show (hn : Int) * (x : Int) = ((hn * x : Nat) : Int) by simp]
      exact wrap_small _ (by omega) (by omega)
    · rintro e w' ⟨rfl, hxx⟩
      exact ⟨_, rfl, is_of_nrm hword.2 (HFN.out y x).1 (HFN.out y x).2, hxx⟩ : Calls Try.prog 61 (#[.int .i64 x, .int .i64 y] ++ #[.pointer (some ⟨w3.heap.size, 0, none⟩)]) W' fun e W'' => ∃ r, e = .returned (.float .f32 r) ∧ Is r ((fun x y => F y x) x y) ∧ Ext W' W''))
  have HW3 := Lib.hid hW3
  have hE4 := hE3.trans hx4
  have hs4 := Nat.le_trans hs3 hx4.size
  rw [← hW3] at p0' p1' p2' p3'
  clear hE hr hs1 hx2 hx3 hO3 hL3 hrd hm3 hE3 hx4 hW3 hb3m hs3 hbx
  go_wp2_with fail
  refine calls_at (X := fun w' => w' = W3) HW3.out ?_
  rintro w4 rfl
  clear p0' p1' p2' p3'
  refine (mapOf_any wn hn h1 h2 61 #[.pointer (some ⟨w3.heap.size, 0, none⟩)] (fun x y => F y x) w4 (by kernel_rfl) HCLO.out).mono ?_
  rintro e w5 ⟨A5, c5, b5, rfl, hO5, hL5, hW5, hx5⟩
  have ⟨c0', c1', c2', f0, f1, f2⟩ := hr4.ext hx5
  have hE5 := hE4.trans hx5
  have hsz := hE4.size
  clear hE4 hx5 hr4
  go_wp2
  refine bodyPost_ret (v := .tuple #[.agg #[.int .i64 wn, .int .i64 hn, .slice A5 b5.length c5], .bool true]) (by simp [results, Try.results35, go_sem, *]) rfl ⟨A5, c5, b5, rfl, ?_, hL5, ?_⟩
  · refine OwnF.weaken (base := w4.heap.size) ?_ (by omega)
    repeat (first | (with_reducible exact hO5) | (with_reducible refine OwnF.set_below ?_ (by dsimp only; omega) _))
  · repeat (first | (with_reducible exact hE5) | (with_reducible refine Ext.setCell ?_ (by dsimp only; omega) _))
end Go.Proofs.Ythkfbmboiabolaa
