/- Contracts: the reference's map of columns that cost least. -/
import Derived.Test.YthkfbmboiabolaaColsM
import Derived.Test.YthkfbmboiabolaaRowsS
namespace Go.Proofs.Ythkfbmboiabolaa
open Go.RowKit
set_option linter.unusedVariables false

theorem specSolveColumns_no1 (z0 z1 z2 : Int) (A : Option Addr) (n c : Nat) (p0 p1 : Nat) (U : World) (hnm : n ≤ maxLen) (hv : ¬ VVol z0 z1 z2 n) :
    Calls Try.prog 34 #[.agg #[.int .i64 z0, .int .i64 z1, .int .i64 z2, .slice A n c], .agg #[.float .f32 p0, .float .f32 p1]] U (MapR U 0 0 [] false) := by
  have HV := Lib.hid hv
  clear hv
  go_enter Try.func34, Try.ntmps34
  go_wp2_with fail
  refine calls_at (X := fun w' => Ext U w' ∧ Box4 w' U.heap.size (.int .i64 z0) (.int .i64 z1) (.int .i64 z2) (.slice A n c) ∧ Res3 w' (U.heap.size + 2)) ⟨(((Ext.refl _).alloc _).alloc _).alloc _, ⟨by simp [go_sem], by simp [go_sem], by simp [go_sem], by simp [go_sem]⟩, ⟨by simp [go_sem], by simp [go_sem], by simp [go_sem], by simp [go_sem], by simp [go_sem], by simp [go_sem]⟩⟩ ?_
  rintro w0 ⟨hE, hb, hr⟩
  refine (l03Is_not _ _ _ _ _ _ _ _ hnm hb.1 hb.2.1 hb.2.2.1 hb.2.2.2 HV.out).mono ?_
  rintro e w1 ⟨rfl, hx⟩
  have hE2 := hE.trans hx
  have ⟨c0, c1, c2, f0, f1, f2⟩ := hr.ext hx
  clear hx hb hr hE
  go_wp2
  refine bodyPost_ret (v := .tuple #[.agg #[.int .i64 0, .int .i64 0, .slice none 0 0], .bool false]) (by simp [results, Try.results34, go_sem, *]) rfl (MapR.no _ _ ?_)
  repeat (first | (with_reducible exact hE2) | (with_reducible refine Ext.setCell ?_ (by dsimp only; omega) _))
theorem specSolveColumns_no2 (z0 z1 z2 : Int) (A : Option Addr) (n c : Nat) (p0 p1 : Nat) (U : World) (hnm : n ≤ maxLen) (hv : VVol z0 z1 z2 n) (hp : ¬ PV p0 p1) :
    Calls Try.prog 34 #[.agg #[.int .i64 z0, .int .i64 z1, .int .i64 z2, .slice A n c], .agg #[.float .f32 p0, .float .f32 p1]] U (MapR U 0 0 [] false) := by
  have HV := Lib.hid hv
  have HP := Lib.hid hp
  clear hv hp
  go_enter Try.func34, Try.ntmps34
  go_wp2_with fail
  refine calls_at (X := fun w' => Ext U w' ∧ Box4 w' U.heap.size (.int .i64 z0) (.int .i64 z1) (.int .i64 z2) (.slice A n c) ∧ Box2 w' (U.heap.size + 1) (fl p0) (fl p1) ∧ Res3 w' (U.heap.size + 2)) ⟨(((Ext.refl _).alloc _).alloc _).alloc _, ⟨by simp [go_sem], by simp [go_sem], by simp [go_sem], by simp [go_sem]⟩, ⟨by simp [go_sem], by simp [go_sem]⟩, ⟨by simp [go_sem], by simp [go_sem], by simp [go_sem], by simp [go_sem], by simp [go_sem], by simp [go_sem]⟩⟩ ?_
  rintro w0 ⟨hE, hb, hq, hr⟩
  refine (l03Is_yes _ _ _ _ _ _ _ _ hnm hb.1 hb.2.1 hb.2.2.1 hb.2.2.2 HV.out).mono ?_
  rintro e w1 ⟨rfl, hx⟩
  replace hE := hE.trans hx
  replace hq := hq.ext hx
  replace hr := hr.ext hx
  clear hx hb
  go_wp2_with fail
  refine (l04Is_no _ p0 p1 _ hq.1 hq.2 HP.out).mono ?_
  rintro e w2 ⟨rfl, hx⟩
  have hE2 := hE.trans hx
  have ⟨c0, c1, c2, f0, f1, f2⟩ := hr.ext hx
  clear hx hq hr hE
  go_wp2
  refine bodyPost_ret (v := .tuple #[.agg #[.int .i64 0, .int .i64 0, .slice none 0 0], .bool false]) (by simp [results, Try.results34, go_sem, *]) rfl (MapR.no _ _ ?_)
  repeat (first | (with_reducible exact hE2) | (with_reducible refine Ext.setCell ?_ (by dsimp only; omega) _))
set_option maxHeartbeats 1000000 in
set_option maxRecDepth 8000 in
theorem specSolveColumns_no3 (wn hn dn gb off n : Nat) (bs : List Nat) (p0 p1 : Nat) (U : World) (hnm : n ≤ maxLen) (hl : Lies U gb off bs) (hlen : bs.length = n) (hw : Words bs) (hv : VVol wn hn dn n) (hp : PV p0 p1) (hno : ¬ ColsOk wn hn dn bs) :
    Calls Try.prog 34 #[.agg #[.int .i64 wn, .int .i64 hn, .int .i64 dn, .slice (some ⟨gb, off, none⟩) n n], .agg #[.float .f32 p0, .float .f32 p1]] U (MapR U 0 0 [] false) := by
  have HV := Lib.hid hv
  have HP := Lib.hid hp
  have HTURN := Lib.hid (fun (W : World) (hW : Ext U W) (hB : Box4 W U.heap.size (.int .i64 wn) (.int .i64 hn) (.int .i64 dn) (.slice (some ⟨gb, off, none⟩) n n)) => (turn2_any U.heap.size wn hn dn gb off n n bs W hB (hl.ext hW) hlen (Nat.le_refl _) hnm hv : Calls Try.prog 59 #[.pointer (some ⟨U.heap.size, 0, none⟩), .int .i64 2] W fun e U' => ∃ A c' b, e = .returned (.agg #[.int .i64 hn, .int .i64 wn, .int .i64 dn, .slice A b.length c']) ∧ OwnF U' W.heap.size 23 (.slice A b.length c') b ∧ b.map nrm = swapL wn hn dn bs ∧ Ext W U'))
  have HNZ : Hid (∀ b : List Nat, b.map nrm = swapL wn hn dn bs → 0 < b.length) := Lib.hid (fun b hb => by
    have hbl : b.length = hn * wn * dn := by have := congrArg List.length hb; rw [List.length_map, swapL_length] at this; exact this
    rw [hbl]
    have := hv.1.1; have := hv.1.2.2.1; have := hv.2.1
    exact Nat.mul_pos (Nat.mul_pos (by omega) (by omega)) (by omega))
  have HROWS := Lib.hid (fun (W : World) (gv g c : Nat) (b : List Nat) (hB : Box4 W gv (.int .i64 hn) (.int .i64 wn) (.int .i64 dn) (.slice (some ⟨g, 0, none⟩) b.length c)) (hQ : Box2 W (U.heap.size + 1) (fl p0) (fl p1)) (hlb : Lies W g 0 b) (hb : b.map nrm = swapL wn hn dn bs) (hbc : b.length ≤ c) (hcm : c ≤ maxLen) => (by
    have hbl : b.length = hn * wn * dn := by have := congrArg List.length hb; rw [List.length_map, swapL_length] at this; exact this
    have hsv := swapVol hv
    exact l04Rows_say gv (U.heap.size + 1) hn wn dn g 0 b.length c p0 p1 b W 0 0 [] false hB hQ hlb rfl (wordsN_of hb (swapL_lt wn hn dn hw)) hbc hcm (by rw [hbl]; exact hsv) (RowsSay.of (.inr ⟨hno, rfl, rfl, rfl, rfl⟩) hb) : Calls Try.prog 56 #[.pointer (some ⟨gv, 0, none⟩), .pointer (some ⟨U.heap.size + 1, 0, none⟩)] W (MapR W 0 0 [] false)))
  clear hl hlen hw hv hp hno
  go_enter Try.func34, Try.ntmps34
  go_wp2_with fail
  refine calls_at (X := fun w' => Ext U w' ∧ Box4 w' U.heap.size (.int .i64 wn) (.int .i64 hn) (.int .i64 dn) (.slice (some ⟨gb, off, none⟩) n n) ∧ Box2 w' (U.heap.size + 1) (fl p0) (fl p1) ∧ Res3 w' (U.heap.size + 2) ∧ U.heap.size + 3 ≤ w'.heap.size) ⟨(((Ext.refl _).alloc _).alloc _).alloc _, ⟨by simp [go_sem], by simp [go_sem], by simp [go_sem], by simp [go_sem]⟩, ⟨by simp [go_sem], by simp [go_sem]⟩, ⟨by simp [go_sem], by simp [go_sem], by simp [go_sem], by simp [go_sem], by simp [go_sem], by simp [go_sem]⟩, by simp⟩ ?_
  rintro w0 ⟨hE, hb, hq, hr, hs⟩
  refine (l03Is_yes _ _ _ _ _ _ _ _ hnm hb.1 hb.2.1 hb.2.2.1 hb.2.2.2 HV.out).mono ?_
  rintro e w1 ⟨rfl, hx⟩
  replace hE := hE.trans hx
  replace hb := hb.ext hx
  replace hq := hq.ext hx
  replace hr := hr.ext hx
  replace hs := Nat.le_trans hs hx.size
  clear hx
  go_wp2_with fail
  refine (l04Is_yes _ p0 p1 _ hq.1 hq.2 HP.out).mono ?_
  rintro e w2 ⟨rfl, hx⟩
  replace hE := hE.trans hx
  replace hb := hb.ext hx
  replace hq := hq.ext hx
  replace hr := hr.ext hx
  replace hs := Nat.le_trans hs hx.size
  clear hx
  go_wp2_with fail
  refine (HTURN.out w2 hE hb).mono ?_
  rintro e w3 ⟨A1, c1, b1, rfl, hO, hL, hx⟩
  obtain ⟨gS, rfl⟩ := hO.at (HNZ.out b1 hL)
  obtain ⟨A', c', he', hbc, hcm, _⟩ := hO.form
  simp only [Value.slice.injEq] at he'
  obtain ⟨rfl, _, rfl⟩ := he'
  replace hE := hE.trans hx
  replace hb := hb.ext hx
  replace hq := hq.ext hx
  replace hr := hr.ext hx
  replace hs := Nat.le_trans hs hx.size
  have hlS := hO.lies
  clear hx hO
  go_wp2_with fail
  obtain ⟨W4, hW4⟩ : ∃ W4, w3.alloc (.cells #[.int .i64 hn, .int .i64 wn, .int .i64 dn, .slice (some ⟨gS, 0, none⟩) b1.length c1] 40) = W4 := ⟨_, rfl⟩
  have hx4 : Ext w3 W4 := by rw [← hW4]; exact (Ext.refl _).alloc _
  have hb4 : Box4 W4 w3.heap.size (.int .i64 hn) (.int .i64 wn) (.int .i64 dn) (.slice (some ⟨gS, 0, none⟩) b1.length c1) := by rw [← hW4]; exact ⟨by simp [go_sem], by simp [go_sem], by simp [go_sem], by simp [go_sem]⟩
  replace hE := hE.trans hx4
  replace hb := hb.ext hx4
  replace hq := hq.ext hx4
  replace hr := hr.ext hx4
  replace hs := Nat.le_trans hs hx4.size
  have HCALL := Lib.hid (HROWS.out W4 w3.heap.size gS c1 b1 hb4 hq (hlS.ext hx4) hL hbc hcm)
  refine calls_at (X := fun w' => w' = W4) hW4 ?_
  rintro w4 rfl
  clear hW4 hx4 hb4 hq hlS hL hbc hcm
  refine HCALL.out.mono ?_
  rintro e w5 ⟨A3, c3, b3, rfl, hO3, hL3, hx5⟩
  replace hE := hE.trans hx5
  replace hb := hb.ext hx5
  replace hr := hr.ext hx5
  replace hs := Nat.le_trans hs hx5.size
  clear hx5 HCALL
  have ⟨c0', c1', c2', f0, f1, f2⟩ := hr.ext ((Ext.refl w5).alloc (.cells #[.int .i64 0, .int .i64 0, .slice A3 b3.length c3] 54))
  clear hb hr hO3 hL3
  go_wp2
  refine bodyPost_ret (v := .tuple #[.agg #[.int .i64 0, .int .i64 0, .slice none 0 0], .bool false]) (by simp [results, Try.results34, go_sem, *]) rfl (MapR.no _ _ ?_)
  repeat (first | (with_reducible exact hE) | (with_reducible refine Ext.setCell ?_ (by dsimp only; omega) _) | (with_reducible refine Ext.alloc ?_ _))
set_option maxHeartbeats 4000000 in
set_option maxRecDepth 8000 in
theorem specSolveColumns_yes (wn hn dn gb off n : Nat) (bs : List Nat) (p0 p1 : Nat) (U : World) (hnm : n ≤ maxLen) (hl : Lies U gb off bs) (hlen : bs.length = n) (hw : Words bs) (hv : VVol wn hn dn n) (hp : PV p0 p1) (hok : ColsOk wn hn dn bs) :
    Calls Try.prog 34 #[.agg #[.int .i64 wn, .int .i64 hn, .int .i64 dn, .slice (some ⟨gb, off, none⟩) n n], .agg #[.float .f32 p0, .float .f32 p1]] U (MapR U wn hn (cells (colsF wn hn dn p0 p1 bs) wn (wn * hn)) true) := by
  obtain ⟨i0, hi, hz0, hz1, hz2⟩ := info_parts infoF
  have HV := Lib.hid hv
  have HP := Lib.hid hp
  have HTURN := Lib.hid (fun (W : World) (hW : Ext U W) (hB : Box4 W U.heap.size (.int .i64 wn) (.int .i64 hn) (.int .i64 dn) (.slice (some ⟨gb, off, none⟩) n n)) => (turn2_any U.heap.size wn hn dn gb off n n bs W hB (hl.ext hW) hlen (Nat.le_refl _) hnm hv : Calls Try.prog 59 #[.pointer (some ⟨U.heap.size, 0, none⟩), .int .i64 2] W fun e U' => ∃ A c' b, e = .returned (.agg #[.int .i64 hn, .int .i64 wn, .int .i64 dn, .slice A b.length c']) ∧ OwnF U' W.heap.size 23 (.slice A b.length c') b ∧ b.map nrm = swapL wn hn dn bs ∧ Ext W U'))
  have HNZ : Hid (∀ b : List Nat, b.map nrm = swapL wn hn dn bs → 0 < b.length) := Lib.hid (fun b hb => by
    have hbl : b.length = hn * wn * dn := by have := congrArg List.length hb; rw [List.length_map, swapL_length] at this; exact this
    rw [hbl]
    have := hv.1.1; have := hv.1.2.2.1; have := hv.2.1
    exact Nat.mul_pos (Nat.mul_pos (by omega) (by omega)) (by omega))
  have HROWS := Lib.hid (fun (W : World) (gv g c : Nat) (b : List Nat) (hB : Box4 W gv (.int .i64 hn) (.int .i64 wn) (.int .i64 dn) (.slice (some ⟨g, 0, none⟩) b.length c)) (hQ : Box2 W (U.heap.size + 1) (fl p0) (fl p1)) (hlb : Lies W g 0 b) (hb : b.map nrm = swapL wn hn dn bs) (hbc : b.length ≤ c) (hcm : c ≤ maxLen) => (by
    have hbl : b.length = hn * wn * dn := by have := congrArg List.length hb; rw [List.length_map, swapL_length] at this; exact this
    have hsv := swapVol hv
    exact l04Rows_say gv (U.heap.size + 1) hn wn dn g 0 b.length c p0 p1 b W hn wn _ true hB hQ hlb rfl (wordsN_of hb (swapL_lt wn hn dn hw)) hbc hcm (by rw [hbl]; exact hsv) (RowsSay.of (.inl ⟨hok, rfl, rfl, rfl, rfl⟩) hb) : Calls Try.prog 56 #[.pointer (some ⟨gv, 0, none⟩), .pointer (some ⟨U.heap.size + 1, 0, none⟩)] W (MapR W hn wn (cells (rowsF hn dn p0 p1 (swapL wn hn dn bs)) hn (hn * wn)) true)))
  have h1 : wn ≤ 24 := by have := hv.1.2.1; omega
  have h2 : hn ≤ 24 := by have := hv.1.2.2.2.1; omega
  have HPR := Lib.hid (fun (k j : Nat) (hk : k < hn) (hj : j < wn) => (show k * wn + j < 576 by
    have h3 : k * wn + wn ≤ hn * wn := by rw [← Nat.succ_mul]; exact Nat.mul_le_mul_right _ hk
    have h4 : hn * wn ≤ 24 * 24 := Nat.mul_le_mul h2 h1
    omega))
  obtain ⟨F, hF'⟩ : ∃ F, rowsF hn dn p0 p1 (swapL wn hn dn bs) = F := ⟨_, rfl⟩
  obtain ⟨G, hG'⟩ : ∃ G : Nat → Nat → Nat, (fun x y => F y x) = G := ⟨_, rfl⟩
  have HGF : Hid (∀ x y, F y x = G x y) := Lib.hid (fun x y => by rw [← hG'])
  have HG : Hid (colsF wn hn dn p0 p1 bs = G) := Lib.hid (by rw [← hG', ← hF']; rfl)
  rw [hF'] at HROWS
  rw [HG.out]
  clear hl hlen hw hv hp hok hF' hG' HG
  go_enter Try.func34, Try.ntmps34
  go_wp2_with fail
  refine calls_at (X := fun w' => Ext U w' ∧ Box4 w' U.heap.size (.int .i64 wn) (.int .i64 hn) (.int .i64 dn) (.slice (some ⟨gb, off, none⟩) n n) ∧ Box2 w' (U.heap.size + 1) (fl p0) (fl p1) ∧ Res3 w' (U.heap.size + 2) ∧ U.heap.size + 3 ≤ w'.heap.size) ⟨(((Ext.refl _).alloc _).alloc _).alloc _, ⟨by simp [go_sem], by simp [go_sem], by simp [go_sem], by simp [go_sem]⟩, ⟨by simp [go_sem], by simp [go_sem]⟩, ⟨by simp [go_sem], by simp [go_sem], by simp [go_sem], by simp [go_sem], by simp [go_sem], by simp [go_sem]⟩, by simp⟩ ?_
  rintro w0 ⟨hE, hb, hq, hr, hs⟩
  refine (l03Is_yes _ _ _ _ _ _ _ _ hnm hb.1 hb.2.1 hb.2.2.1 hb.2.2.2 HV.out).mono ?_
  rintro e w1 ⟨rfl, hx⟩
  replace hE := hE.trans hx
  replace hb := hb.ext hx
  replace hq := hq.ext hx
  replace hr := hr.ext hx
  replace hs := Nat.le_trans hs hx.size
  clear hx
  go_wp2_with fail
  refine (l04Is_yes _ p0 p1 _ hq.1 hq.2 HP.out).mono ?_
  rintro e w2 ⟨rfl, hx⟩
  replace hE := hE.trans hx
  replace hb := hb.ext hx
  replace hq := hq.ext hx
  replace hr := hr.ext hx
  replace hs := Nat.le_trans hs hx.size
  clear hx
  go_wp2_with fail
  refine (HTURN.out w2 hE hb).mono ?_
  rintro e w3 ⟨A1, c1, b1, rfl, hO, hL, hx⟩
  obtain ⟨gS, rfl⟩ := hO.at (HNZ.out b1 hL)
  obtain ⟨A', c', he', hbc, hcm, _⟩ := hO.form
  simp only [Value.slice.injEq] at he'
  obtain ⟨rfl, _, rfl⟩ := he'
  replace hE := hE.trans hx
  replace hb := hb.ext hx
  replace hq := hq.ext hx
  replace hr := hr.ext hx
  replace hs := Nat.le_trans hs hx.size
  have hlS := hO.lies
  clear hx hO
  go_wp2_with fail
  obtain ⟨W4, hW4⟩ : ∃ W4, w3.alloc (.cells #[.int .i64 hn, .int .i64 wn, .int .i64 dn, .slice (some ⟨gS, 0, none⟩) b1.length c1] 40) = W4 := ⟨_, rfl⟩
  have hx4 : Ext w3 W4 := by rw [← hW4]; exact (Ext.refl _).alloc _
  have hb4 : Box4 W4 w3.heap.size (.int .i64 hn) (.int .i64 wn) (.int .i64 dn) (.slice (some ⟨gS, 0, none⟩) b1.length c1) := by rw [← hW4]; exact ⟨by simp [go_sem], by simp [go_sem], by simp [go_sem], by simp [go_sem]⟩
  replace hE := hE.trans hx4
  replace hb := hb.ext hx4
  replace hq := hq.ext hx4
  replace hr := hr.ext hx4
  replace hs := Nat.le_trans hs hx4.size
  have HCALL := Lib.hid (HROWS.out W4 w3.heap.size gS c1 b1 hb4 hq (hlS.ext hx4) hL hbc hcm)
  refine calls_at (X := fun w' => w' = W4) hW4 ?_
  rintro w4 rfl
  clear hW4 hx4 hb4 hq hlS hL hbc hcm
  refine HCALL.out.mono ?_
  rintro e w5 ⟨A3, c3, b3, rfl, hO3, hL3, hx5⟩
  replace hE := hE.trans hx5
  replace hb := hb.ext hx5
  replace hr := hr.ext hx5
  replace hs := Nat.le_trans hs hx5.size
  clear hx5 HCALL
  obtain ⟨Wm, hWm⟩ : ∃ Wm, w5.alloc (.cells #[.int .i64 hn, .int .i64 wn, .slice A3 b3.length c3] 54) = Wm := ⟨_, rfl⟩
  have hxm : Ext w5 Wm := by rw [← hWm]; exact (Ext.refl _).alloc _
  have hm3 : Box3 Wm w5.heap.size (.int .i64 hn) (.int .i64 wn) (.slice A3 b3.length c3) := by rw [← hWm]; exact ⟨by simp [go_sem], by simp [go_sem], by simp [go_sem]⟩
  have HM3 := Lib.hid (fun (W : World) (hW : Ext Wm W) => hm3.ext hW)
  have HRD := Lib.hid (fun (W : World) (hW : Ext Wm W) => (hO3.reads.ext hxm).ext hW)
  have hb3m := hO3.bound
  have HL3 := Lib.hid hL3
  replace hE := hE.trans hxm
  have hbm := hb.ext hxm
  replace hr := hr.ext hxm
  replace hs := Nat.le_trans hs hxm.size
  have HB4 := Lib.hid (fun (W : World) (hW : Ext Wm W) => hbm.ext hW)
  have ⟨p0', p1', p2', p3'⟩ := hbm
  have hsz0 := hE.size
  clear hO3 hL3 hxm hm3 hb hbm
  go_wp2_with fail
  clear p0' p1' p2' p3'
  refine wp_at (X := fun w' => Acc2 Wm w' Wm.heap.size 23 54 (Wm.heap.size + 1) 2 (some ⟨Wm.heap.size, 0, none⟩) 0 [] [] ∧ w'.cell? ⟨Wm.heap.size + 1, 0, none⟩ = some (.int .i64 wn) ∧ w'.cell? ⟨Wm.heap.size + 1, 1, none⟩ = some (.int .i64 hn)) ?_ ?_
  · refine ⟨⟨?_, ⟨#[.int .i64 wn, .int .i64 hn, .slice (some ⟨Wm.heap.size, 0, none⟩) 0 0], (0, 0), ?_⟩, ?_, ?_, rfl, ?_, Nat.le_refl _, by omega⟩, ?_, ?_⟩
    · exact OwnF.ext (World.ownsRow_made (size := 1) Wm #[] 0 (Nat.le_refl _) (by unfold maxLen; omega) rfl) ((Ext.refl _).alloc _)
    · have h := heap_alloc_new (Wm.alloc (.cells #[] 23)) (.cells #[.int .i64 wn, .int .i64 hn, .slice (some ⟨Wm.heap.size, 0, none⟩) 0 0] 54)
      simpa using h
    · simp [go_sem]
    · simp [go_sem]
    · exact ((Ext.refl _).alloc _).alloc _
    · simp [go_sem]
    · simp [go_sem]
  rintro w6 ⟨hacc0, o00, o10⟩
  obtain ⟨go, hgo⟩ : ∃ go, Wm.heap.size + 1 = go := ⟨_, rfl⟩
  rw [hgo] at hacc0 o00 o10 ⊢
  clear hgo hWm
  go_loopw [10] (fun y wr => ∃ (k : Nat) (A : Option Addr) (c' : Nat) (b : List Nat), k ≤ hn ∧ y = .int .i64 k ∧ Acc2 Wm wr Wm.heap.size 23 54 go 2 A c' b (cells G wn (k * wn)) ∧ wr.cell? ⟨go, 0, none⟩ = some (.int .i64 wn) ∧ wr.cell? ⟨go, 1, none⟩ = some (.int .i64 hn)) (fun y _ => hn - (intOf y).toNat)
  case atStart => exact ⟨0, some ⟨Wm.heap.size, 0, none⟩, 0, [], Nat.zero_le _, rfl, by simpa [cells] using hacc0, o00, o10⟩
  case round =>
    clear hacc0 o00 o10
    obtain ⟨k, A, c', b, hk, rfl, hacc, o0, o1⟩ := hrel
    have ⟨p0', p1', p2', p3'⟩ := HB4.out _ hacc.ext
    by_cases hlt : k < hn
    · go_wp2_with fail
      clear p0' p1' p2' p3'
      go_loopw [11] (fun x wq => ∃ (j : Nat) (A : Option Addr) (c' : Nat) (b : List Nat), j ≤ wn ∧ x = .int .i64 j ∧ Acc2 Wm wq Wm.heap.size 23 54 go 2 A c' b (cells G wn (k * wn + j)) ∧ wq.cell? ⟨go, 0, none⟩ = some (.int .i64 wn) ∧ wq.cell? ⟨go, 1, none⟩ = some (.int .i64 hn)) (fun x _ => wn - (intOf x).toNat)
      case atStart => exact ⟨0, A, c', b, Nat.zero_le _, rfl, hacc, o0, o1⟩
      case round =>
        clear hacc o0 o1
        rename_i wq
        obtain ⟨j, A, c', b, hj, rfl, hacc, o0, o1⟩ := hrel
        have ⟨p0', p1', p2', p3'⟩ := HB4.out _ hacc.ext
        by_cases hltj : j < wn
        · obtain ⟨M, hM⟩ : ∃ M, hn * j = M := ⟨_, rfl⟩
          obtain ⟨K, hK⟩ : ∃ K, k + M = K := ⟨_, rfl⟩
          have hword := map_word HL3.out hlt hltj
          rw [hM, hK, HGF.out] at hword
          obtain ⟨hKn, hnr⟩ := hword
          have hM576 : M ≤ 576 := by rw [← hM]; exact Nat.le_trans (Nat.mul_le_mul h2 (show j ≤ 24 by omega)) (by omega)
          have hw1 : IntKind.i64.wrap ((hn : Int) * (j : Int)) = (M : Int) := by rw [show (hn : Int) * (j : Int) = (M : Int) by rw [← hM]; simp]; exact wrap_small _ (by omega) (by omega)
          have hw2 : IntKind.i64.wrap ((k : Int) + (M : Int)) = (K : Int) := by rw [show (k : Int) + (M : Int) = (K : Int) by omega]; exact wrap_small _ (by omega) (by omega)
          have ⟨m0, m1, m2⟩ := HM3.out _ hacc.ext
          obtain ⟨gM, oM, hAM, hlM⟩ := (HRD.out _ hacc.ext).2 (by omega)
          subst hAM
          have hcK := hlM K hKn
          generalize b3.getD K 0 = r at hcK hnr
          have HNR := Lib.hid hnr
          have k0 : (0 : Int) ≤ (K : Int) := by omega
          have k1 : (K : Int) < ((b3.length : Nat) : Int) := by omega
          have hhdr := hacc.hdr
          clear hnr hlM hM hK
          go_wp2_with fail
          refine region_wx 13 [] (by kernel_rfl) (by kernel_rfl) ?_
          simp only [List.take_succ_cons, List.take_zero, List.drop_succ_cons, List.drop_zero]
          repeat ((first | refine wx_skip rfl ?_ | refine wx_nilCheck rfl rfl _ rfl _ rfl ?_ | (refine wx_float rfl rfl _ _ _ _ _ _ _ rfl rfl rfl rfl ?_; intro r hr) | (refine wx_k rfl rfl rfl (fun K hK => ?_); go_big_quiet_op; refine hK _ ?_; clear hK K) | (refine wx_bs rfl rfl _ _ _ rfl _ rfl (fun Z => bs1 _ Z) ?_; intro H V2 hV2 hcell)); (try simp only [Act.put, List.setIfInBounds_toArray, List.set_cons_zero, List.set_cons_succ]); (try simp only [List.tail_nil]))
          refine wx_nil (fun W hW hF => ?_)
          have hVW : Ext V2 W := hF 12
          have hcell1 := cell_ext hcell hVW
          have hcl := hacc.len
          rw [cells_length] at hcl
          have hpp := HPR.out k j hlt hltj
          have hown1 := hacc.own.ext hW
          have hsz1 := hacc.ext.size
          have hsz2 := hW.size
          clear hF hVW hcell hV2 p0' p1' p2' p3' m0 m1 m2 hw1 hw2 hcK
          refine wpList_append_own _ rfl _ _ _ rfl Wm.heap.size 23 i0 (.float .f32 0) 1 4 Try.underlying22 hi hz0 hz1 hz2 rfl (by omega) (.slice A b.length c') b.length (b.map fl) (by rfl) hown1 ⟨H, 0, none⟩ 1 1 [fl r] (by rfl) rfl (one_new hcell1) (one_word _) (by unfold maxLen; omega) (by omega) (by omega) ?_
          intro v' w7 ho2 hg2 _
          obtain ⟨A', c2, b', rfl, hacc', ⟨hh2, hf2⟩, hold, holdf⟩ := hacc.push (by decide) hW (rs := [r]) (Xs := [G j k]) ho2 hg2 (by rw [List.map_cons, List.map_nil, HNR.out])
          have n0 := hold _ _ _ o0 (hacc.ne (by decide)) (by simp)
          have n1 := hold _ _ _ o1 (hacc.ne (by decide)) (by simp)
          rw [← cells_step G wn k j hltj] at hacc'
          clear hold holdf hown1 hhdr hacc ho2 hg2 hW o0 o1 hpp hcl hcell1
          go_wp2
          go_roundw
          case rel => exact ⟨j + 1, A', c2, b', by omega, by go_num, hacc', n0, n1⟩
          case measure => simp [intOf]; omega
        · have e1 : j = wn := by omega
          rw [e1, cells_row] at hacc
          go_wp2
          go_roundw
          case rel => exact ⟨k + 1, A, c', b, by omega, by go_num, hacc, o0, o1⟩
          case measure => simp [intOf]; omega
    · have e1 : k = hn := by omega
      rw [e1, Nat.mul_comm hn wn] at hacc
      have ⟨c0', c1', c2', f0, f1, f2⟩ := hr.ext hacc.ext
      have hhdr := hacc.hdr
      have hE2 := hE.trans hacc.ext
      have hown := hacc.own
      have hlike := hacc.like
      have hsU := hE.size
      clear hacc
      go_wp2
      refine bodyPost_ret (v := .tuple #[.agg #[.int .i64 wn, .int .i64 hn, .slice A b.length c'], .bool true]) (by simp [results, Try.results34, go_sem, *]) rfl ⟨A, c', b, rfl, ?_, hlike, ?_⟩
      · refine OwnF.weaken (base := Wm.heap.size) ?_ (by omega)
        repeat (first | (with_reducible exact hown) | (with_reducible refine OwnF.set_below ?_ (by dsimp only; omega) _))
      · repeat (first | (with_reducible exact hE2) | (with_reducible refine Ext.setCell ?_ (by dsimp only; omega) _))
end Go.Proofs.Ythkfbmboiabolaa
