/- The law on RankVolume holds. -/
import Derived.Test.YtgpobhpcbgenoaaRankS
import Derived.Test.YtgpobhpcbgenoaaCRankVolume
namespace Go.Proofs.Ytgpobhpcbgenoaa
open Go.RowKit
set_option linter.unusedVariables false

theorem specRankVolume_no1 (z0 z1 : Int) (A : Option Addr) (n c : Nat) (y0 y1 : Int) (A' : Option Addr) (n' c' : Nat) (rr d : Int) (hn : n ≤ maxLen) (hn' : n' ≤ maxLen) (hno : ¬ ((VMap z0 z1 n ∧ VMap y0 y1 n' ∧ z0 = y0 ∧ z1 = y1) ∧ 1 ≤ d ∧ d ≤ 8)) (U : World) :
    Calls Try.prog 28 #[.agg #[.int .i64 z0, .int .i64 z1, .slice A n c], .agg #[.int .i64 y0, .int .i64 y1, .slice A' n' c'], .int .i64 rr, .int .i64 d] U fun e U' => ∃ A c' b, e = .returned (.tuple #[.agg #[.int .i64 0, .int .i64 0, .int .i64 0, .slice A b.length c'], .bool false]) ∧ OwnF U' U.heap.size 25 (.slice A b.length c') b ∧ b.map nrm = [] ∧ Ext U U' := by
  have HN := Lib.hid hno
  clear hno
  go_enter Try.func28, Try.ntmps28
  go_wp2_with fail
  refine calls_at (X := fun w' => Ext U w' ∧ Box3 w' U.heap.size (.int .i64 z0) (.int .i64 z1) (.slice A n c) ∧ Box3 w' (U.heap.size + 1) (.int .i64 y0) (.int .i64 y1) (.slice A' n' c') ∧ Res4 w' (U.heap.size + 1 + 1) ∧ U.heap.size + 1 + 1 + 1 ≤ w'.heap.size) ⟨(((Ext.refl _).alloc _).alloc _).alloc _, ⟨by simp [go_sem], by simp [go_sem], by simp [go_sem]⟩, ⟨by simp [go_sem], by simp [go_sem], by simp [go_sem]⟩, ⟨by simp [go_sem], by simp [go_sem], by simp [go_sem], by simp [go_sem], by simp [go_sem], by simp [go_sem], by simp [go_sem], by simp [go_sem]⟩, by simp⟩ ?_
  rintro w0 ⟨hx0, hb0, hb1, hr0, hs0⟩
  refine (l03Pair_no _ _ z0 z1 A n c y0 y1 A' n' c' d _ hn hn' hb0 hb1 HN.out).mono ?_
  rintro e w1 ⟨rfl, hx⟩
  have ⟨c0, c1, c2, c3, f0, f1, f2, f3⟩ := hr0.ext hx
  have hE := hx0.trans hx
  clear hx hx0 hb0 hb1 hr0
  go_wp2
  refine bodyPost_ret (v := .tuple #[.agg #[.int .i64 0, .int .i64 0, .int .i64 0, .slice none 0 0], .bool false]) (by simp [results, Try.results28, go_sem, *]) rfl ⟨none, 0, [], rfl, OwnF.nil _ _ _, rfl, ?_⟩
  repeat (first | (with_reducible exact hE) | (with_reducible refine Ext.setCell ?_ (by dsimp only; omega) _))
theorem specRankVolume_no2 (z0 z1 : Int) (A : Option Addr) (n c : Nat) (y0 y1 : Int) (A' : Option Addr) (n' c' : Nat) (rr d : Int) (hn : n ≤ maxLen) (hn' : n' ≤ maxLen) (hv : VMap z0 z1 n) (hv' : VMap y0 y1 n') (e0 : z0 = y0) (e1 : z1 = y1) (hd : 1 ≤ d ∧ d ≤ 8) (hrr : rr < 1 ∨ 2 < rr) (U : World) :
    Calls Try.prog 28 #[.agg #[.int .i64 z0, .int .i64 z1, .slice A n c], .agg #[.int .i64 y0, .int .i64 y1, .slice A' n' c'], .int .i64 rr, .int .i64 d] U fun e U' => ∃ A c' b, e = .returned (.tuple #[.agg #[.int .i64 0, .int .i64 0, .int .i64 0, .slice A b.length c'], .bool false]) ∧ OwnF U' U.heap.size 25 (.slice A b.length c') b ∧ b.map nrm = [] ∧ Ext U U' := by
  have HV := Lib.hid hv
  have HV' := Lib.hid hv'
  have HE0 := Lib.hid e0
  have HE1 := Lib.hid e1
  have HD := Lib.hid hd
  have HR := Lib.hid hrr
  clear hv hv' e0 e1 hd hrr
  go_enter Try.func28, Try.ntmps28
  go_wp2_with fail
  refine calls_at (X := fun w' => Ext U w' ∧ Box3 w' U.heap.size (.int .i64 z0) (.int .i64 z1) (.slice A n c) ∧ Box3 w' (U.heap.size + 1) (.int .i64 y0) (.int .i64 y1) (.slice A' n' c') ∧ Res4 w' (U.heap.size + 1 + 1) ∧ U.heap.size + 1 + 1 + 1 ≤ w'.heap.size) ⟨(((Ext.refl _).alloc _).alloc _).alloc _, ⟨by simp [go_sem], by simp [go_sem], by simp [go_sem]⟩, ⟨by simp [go_sem], by simp [go_sem], by simp [go_sem]⟩, ⟨by simp [go_sem], by simp [go_sem], by simp [go_sem], by simp [go_sem], by simp [go_sem], by simp [go_sem], by simp [go_sem], by simp [go_sem]⟩, by simp⟩ ?_
  rintro w0 ⟨hx0, hb0, hb1, hr0, hs0⟩
  refine (l03Pair_yes _ _ z0 z1 A n c y0 y1 A' n' c' d _ hn hn' hb0 hb1 HV.out HV'.out HE0.out HE1.out HD.out).mono ?_
  rintro e w1 ⟨rfl, hx⟩
  have ⟨c0, c1, c2, c3, f0, f1, f2, f3⟩ := hr0.ext hx
  have hE := hx0.trans hx
  clear hx hx0 hb0 hb1 hr0
  go_wp2_with (go_at_call 63; refine (l00In_no _ _ _ _ HR.out).mono ?_; rintro e w' ⟨rfl, rfl⟩)
  refine bodyPost_ret (v := .tuple #[.agg #[.int .i64 0, .int .i64 0, .int .i64 0, .slice none 0 0], .bool false]) (by simp [results, Try.results28, go_sem, *]) rfl ⟨none, 0, [], rfl, OwnF.nil _ _ _, rfl, ?_⟩
  repeat (first | (with_reducible exact hE) | (with_reducible refine Ext.setCell ?_ (by dsimp only; omega) _))
set_option maxHeartbeats 8000000 in
set_option maxRecDepth 8000 in
theorem specRankVolume_yes (wn hn dn r gb off n c gb2 off2 c2 : Nat) (bs bs2 : List Nat) (U : World) (hl : Lies U gb off bs) (hlen : bs.length = n) (hl2 : Lies U gb2 off2 bs2) (hlen2 : bs2.length = n) (hv : VMap wn hn n) (hnm : n ≤ maxLen) (hd : 1 ≤ dn ∧ dn ≤ 8) (hr : 1 ≤ r ∧ r ≤ 2) :
    Calls Try.prog 28 #[.agg #[.int .i64 wn, .int .i64 hn, .slice (some ⟨gb, off, none⟩) n c], .agg #[.int .i64 wn, .int .i64 hn, .slice (some ⟨gb2, off2, none⟩) n c2], .int .i64 r, .int .i64 dn] U fun e U' => ∃ A c' b, e = .returned (.tuple #[.agg #[.int .i64 wn, .int .i64 hn, .int .i64 dn, .slice A b.length c'], .bool true]) ∧ OwnF U' U.heap.size 25 (.slice A b.length c') b ∧ b.map nrm = cells3 (rkF wn hn r bs bs2) wn dn (wn * hn * dn) ∧ Ext U U' := by
  obtain ⟨i0, hi, hz0, hz1, hz2⟩ := info_parts infoF
  obtain ⟨hmn, hm0, hm2⟩ := map_n hv
  have hw24 : wn ≤ 24 := by have := hv.1.2.1; omega
  have hw1 : 1 ≤ wn := by have := hv.1.1; omega
  have HV := Lib.hid hv
  have HD : Hid ((1 : Int) ≤ (dn : Int) ∧ (dn : Int) ≤ 8) := Lib.hid (by omega)
  have HR : Hid ((1 : Int) ≤ (r : Int) ∧ (r : Int) ≤ 2) := Lib.hid (by omega)
  have HKA := Lib.hid (fun (g : Nat) (W : World) (hE : Ext U W) (hB : Box3 W g (.int .i64 wn) (.int .i64 hn) (.slice (some ⟨gb, off, none⟩) n c)) => l02Ranks_any g wn hn gb off n c r bs W hB (hl.ext hE) hlen hv hr)
  have HKB := Lib.hid (fun (g : Nat) (W : World) (hE : Ext U W) (hB : Box3 W g (.int .i64 wn) (.int .i64 hn) (.slice (some ⟨gb2, off2, none⟩) n c2)) => l02Ranks_any g wn hn gb2 off2 n c2 r bs2 W hB (hl2.ext hE) hlen2 hv hr)
  have HMN : Hid (n = hn * wn) := Lib.hid (by rw [hmn, Nat.mul_comm])
  have HM2 := Lib.hid (⟨hm0, hm2⟩ : 0 < n ∧ n ≤ 256)
  -- what a cell holds
  have HF : Hid (∀ i l, i < n → l < dn → ∃ a b p k : Nat, (rkL wn hn r bs n).getD i 0 = (a : Int) ∧ (rkL wn hn r bs2 n).getD k 0 = (b : Int) ∧ k < n ∧ a < 1073741824 ∧ b < 1073741824 ∧ pcN 24 ((a ^^^ b) % 16777216) = p ∧ rkF wn hn r bs bs2 (i % wn) (i / wn) l = floatOfInt .f32 (p : Int) ∧ (k : Int) = (i : Int) - ((i % wn : Nat) : Int) + max 0 (((i % wn : Nat) : Int) - (l : Int))) := Lib.hid (fun i l hin hl' => by
    obtain ⟨m, hm⟩ : ∃ m : Nat, (m : Int) = clampI (((i % wn : Nat) : Int) - (l : Int)) wn := ⟨(clampI (((i % wn : Nat) : Int) - (l : Int)) wn).toNat, by have := (clampI_bounds (((i % wn : Nat) : Int) - (l : Int)) (show (1 : Int) ≤ (wn : Int) by omega)).1; omega⟩
    have hb := clampI_bounds (((i % wn : Nat) : Int) - (l : Int)) (show (1 : Int) ≤ (wn : Int) by omega)
    have hmw : m < wn := by omega
    have him : i % wn < wn := Nat.mod_lt _ (by omega)
    have hdm : i / wn * wn + i % wn = i := Nat.div_add_mod' i wn
    have hdh : i / wn < hn := by rw [hmn] at hin; exact Nat.div_lt_of_lt_mul hin
    have hkn : i / wn * wn + m < n := by
      have h1 : i / wn * wn + wn ≤ hn * wn := by rw [← Nat.succ_mul]; exact Nat.mul_le_mul_right _ hdh
      rw [Nat.mul_comm hn wn, ← hmn] at h1
      omega
    have hk1 : (i / wn * wn + m) % wn = m := by rw [Nat.mul_comm (i / wn) wn, Nat.mul_add_mod, Nat.mod_eq_of_lt hmw]
    have hk2 : (i / wn * wn + m) / wn = i / wn := by rw [Nat.mul_comm (i / wn) wn, Nat.mul_add_div (by omega), Nat.div_eq_of_lt hmw, Nat.add_zero]
    refine ⟨rkW wn hn r bs ((i % wn : Nat) : Int) ((i / wn : Nat) : Int), rkW wn hn r bs2 (m : Int) ((i / wn : Nat) : Int), _, i / wn * wn + m, rkL_getD wn hn r bs n i hin, ?_, hkn, rkW_lt wn hn r hr.2 _ _ _, rkW_lt wn hn r hr.2 _ _ _, rfl, ?_, ?_⟩
    · rw [rkL_getD wn hn r bs2 n _ hkn, hk1, hk2]
    · unfold rkF; rw [hm]
    · rw [Int.natCast_add, hm]
      have hc : clampI (((i % wn : Nat) : Int) - (l : Int)) wn = max 0 (((i % wn : Nat) : Int) - (l : Int)) := by
        have := hb
        unfold clampI
        omega
      rw [hc]
      have : ((i / wn * wn : Nat) : Int) = (i : Int) - ((i % wn : Nat) : Int) := by omega
      rw [this])
  have HI := Lib.hid (fun (i l : Nat) (hl' : l < dn) => cells3_at (rkF wn hn r bs bs2) wn dn i l (by omega) hl')
  have hNd : n * dn ≤ 256 * 8 := Nat.mul_le_mul hm2 hd.2
  have HP := Lib.hid (fun (i l : Nat) (hi' : i < n) (hl' : l < dn) => (show i * dn + l < 2048 by
    have h1 : i * dn + dn ≤ n * dn := by rw [← Nat.succ_mul]; exact Nat.mul_le_mul_right _ hi'
    omega))
  have HDN := Lib.hid hd
  have HW24 := Lib.hid (⟨hw1, hw24⟩ : 1 ≤ wn ∧ wn ≤ 24)
  clear hl hlen hl2 hlen2 hv hd hr hmn hm0 hm2 hNd hw1 hw24
  go_enter Try.func28, Try.ntmps28
  go_wp2_with fail
  refine calls_at (X := fun w' => Ext U w' ∧ Box3 w' U.heap.size (.int .i64 wn) (.int .i64 hn) (.slice (some ⟨gb, off, none⟩) n c) ∧ Box3 w' (U.heap.size + 1) (.int .i64 wn) (.int .i64 hn) (.slice (some ⟨gb2, off2, none⟩) n c2) ∧ Res4 w' (U.heap.size + 1 + 1) ∧ U.heap.size + 1 + 1 + 1 ≤ w'.heap.size) ⟨(((Ext.refl _).alloc _).alloc _).alloc _, ⟨by simp [go_sem], by simp [go_sem], by simp [go_sem]⟩, ⟨by simp [go_sem], by simp [go_sem], by simp [go_sem]⟩, ⟨by simp [go_sem], by simp [go_sem], by simp [go_sem], by simp [go_sem], by simp [go_sem], by simp [go_sem], by simp [go_sem], by simp [go_sem]⟩, by simp⟩ ?_
  rintro w0 ⟨hx0, hb0, hb1, hr0, hs0⟩
  refine (l03Pair_yes _ _ (wn : Int) (hn : Int) _ n c (wn : Int) (hn : Int) _ n c2 (dn : Int) _ hnm hnm hb0 hb1 HV.out HV.out rfl rfl HD.out).mono ?_
  rintro e w1 ⟨rfl, hx⟩
  replace hb0 := hb0.ext hx
  replace hb1 := hb1.ext hx
  replace hr0 := hr0.ext hx
  have hE := hx0.trans hx
  have hs1 := Nat.le_trans hs0 hx.size
  clear hx hx0 hs0
  have ⟨p0, p1, p2⟩ := hb0
  go_wp2_with (go_at_call 63; refine (l00In_yes _ _ _ _ HR.out.1 HR.out.2).mono ?_; rintro e w' ⟨rfl, rfl⟩)
  clear p0 p1 p2
  obtain ⟨go, hgo⟩ : ∃ g, g = w1.heap.size := ⟨_, rfl⟩
  refine calls_at (X := fun w' => Ext w1 w' ∧ Box4 w' go (.int .i64 wn) (.int .i64 hn) (.int .i64 dn) (.slice none 0 0) ∧ w'.frozen? ⟨go, 3, none⟩ = false ∧ (∃ cs fz, w'.heap[go]? = some (.cells cs 34 fz)) ∧ go < w'.heap.size) ?_ ?_
  · rw [hgo]
    refine ⟨?_, ⟨by simp [go_sem], by simp [go_sem], by simp [go_sem], by simp [go_sem]⟩, by simp [go_sem], ?_, by simp⟩
    · repeat (first | with_reducible exact Ext.refl _ | (with_reducible refine Ext.setCell ?_ (by dsimp only; omega) _) | (with_reducible refine Ext.alloc ?_ _))
    · repeat (first | with_reducible exact ⟨_, _, heap_alloc_new _ _⟩ | with_reducible refine blk_set ?_)
  rw [show w1.heap.size = go from hgo.symm]
  have hgo1 : w1.heap.size ≤ go := by omega
  clear hgo
  rintro w2 ⟨hx2, hbo, hfo, hko, hgs⟩
  refine (HKA.out _ w2 (hE.trans hx2) (hb0.ext hx2)).mono ?_
  rintro e w3 ⟨A1, cc1, la, rfl, ho1, hq1, hx3⟩
  have hla : la.length = n := by rw [hq1.out, rkL_length, HMN.out]
  rw [hla] at ho1 ⊢
  rw [← HMN.out] at hq1
  obtain ⟨ga, rfl⟩ := ho1.at (by have := HM2.out.1; omega)
  have hga := ho1.ge
  have hlA : LiesI w3 ga 0 la := (by
    obtain ⟨g', off', he, hl'⟩ := ho1.reads.2 (by have := HM2.out.1; omega)
    simp only [Option.some.injEq, Addr.mk.injEq] at he
    obtain ⟨rfl, rfl, _⟩ := he
    exact hl')
  clear ho1
  go_wp2_with fail
  refine (HKB.out _ w3 ((hE.trans hx2).trans hx3) ((hb1.ext hx2).ext hx3)).mono ?_
  rintro e w4 ⟨A2, cc2, lb, rfl, ho2, hq2, hx4⟩
  have hlb : lb.length = n := by rw [hq2.out, rkL_length, HMN.out]
  rw [hlb] at ho2 ⊢
  rw [← HMN.out] at hq2
  obtain ⟨gc, rfl⟩ := ho2.at (by have := HM2.out.1; omega)
  have hgc := ho2.ge
  have hlB : LiesI w4 gc 0 lb := (by
    obtain ⟨g', off', he, hl'⟩ := ho2.reads.2 (by have := HM2.out.1; omega)
    simp only [Option.some.injEq, Addr.mk.injEq] at he
    obtain ⟨rfl, rfl, _⟩ := he
    exact hl')
  clear ho2
  replace hlA := hlA.ext hx4
  have hx24 := hx3.trans hx4
  have hx14 := hx2.trans hx24
  have hs3 := hx3.size
  have hs4 := hx4.size
  have hs2 := hx2.size
  have gna : ¬ (ga = go) := by omega
  have gnc : ¬ (gc = go) := by omega
  have b0 := cell_ext hbo.1 hx24
  have b1 := cell_ext hbo.2.1 hx24
  have b2 := cell_ext hbo.2.2.1 hx24
  have b3 := cell_ext hbo.2.2.2 hx24
  have bf := (hx24.marks _ _ (by rw [hbo.2.2.2]; rfl)).trans hfo
  have bk : ∃ cs fz, w4.heap[go]? = some (.cells cs 34 fz) := (by
    obtain ⟨cs, fz, hk⟩ := hko
    exact ⟨cs, fz, (hx24.block _ hgs).trans hk⟩)
  clear hbo hfo hko hx24 hx2 hx3 hx4
  go_wp2_with fail
  go_loopw [38] (fun iv wr => ∃ (i : Nat) (A : Option Addr) (c' : Nat) (b : List Nat), i ≤ n ∧ iv = .int .i64 i ∧ Acc2 w1 wr w4.heap.size 25 34 go 3 A c' b (cells3 (rkF wn hn r bs bs2) wn dn (i * dn)) ∧ wr.cell? ⟨go, 0, none⟩ = some (.int .i64 wn) ∧ wr.cell? ⟨go, 1, none⟩ = some (.int .i64 hn) ∧ wr.cell? ⟨go, 2, none⟩ = some (.int .i64 dn) ∧ LiesI wr ga 0 la ∧ LiesI wr gc 0 lb ∧ w4.heap.size ≤ wr.heap.size) (fun iv _ => n - (intOf iv).toNat)
  case atStart =>
    exact ⟨0, none, 0, [], Nat.zero_le _, rfl, ⟨OwnF.nil _ _ _, bk, b3, bf, by simp [cells3], hx14, hx14.size, by omega⟩, b0, b1, b2, hlA, hlB, Nat.le_refl _⟩
  case round =>
    clear b0 b1 b2 b3 bf bk hlA hlB hx14
    obtain ⟨i, A, c', b, hin, rfl, hacc, o0, o1, o2, hlA, hlB, hsw⟩ := hrel
    have ⟨w1', w24'⟩ := HW24.out
    have ⟨n0', n256⟩ := HM2.out
    by_cases hlt : i < n
    · obtain ⟨xm, hxm⟩ : ∃ m, i % wn = m := ⟨_, rfl⟩
      have hrem : (i : Int) % (wn : Int) = (xm : Int) := by rw [← hxm]; simp
      have hwnz : ((wn : Int) == 0) = false := by simp; omega
      have hxl : xm < wn := by rw [← hxm]; exact Nat.mod_lt _ (by omega)
      have hxi : xm ≤ i := by rw [← hxm]; exact Nat.mod_le _ _
      have HXM := Lib.hid hxm
      clear hxm
      go_wp2_with fail
      simp only [hrem]
      go_loopw [15] (fun dv wq => ∃ (l : Nat) (A : Option Addr) (c' : Nat) (b : List Nat), l ≤ dn ∧ dv = .int .i64 l ∧ Acc2 w1 wq w4.heap.size 25 34 go 3 A c' b (cells3 (rkF wn hn r bs bs2) wn dn (i * dn + l)) ∧ wq.cell? ⟨go, 0, none⟩ = some (.int .i64 wn) ∧ wq.cell? ⟨go, 1, none⟩ = some (.int .i64 hn) ∧ wq.cell? ⟨go, 2, none⟩ = some (.int .i64 dn) ∧ LiesI wq ga 0 la ∧ LiesI wq gc 0 lb ∧ w4.heap.size ≤ wq.heap.size) (fun dv _ => dn - (intOf dv).toNat)
      case atStart => exact ⟨0, A, c', b, Nat.zero_le _, rfl, hacc, o0, o1, o2, hlA, hlB, hsw⟩
      case round =>
        clear hacc o0 o1 o2 hlA hlB hsw
        obtain ⟨l, A, c', b, hld, rfl, hacc, o0, o1, o2, hlA, hlB, hsw⟩ := hrel
        have hd8 := HDN.out.2
        by_cases hltl : l < dn
        · obtain ⟨a, b', p, k, ha, hb, hk, hal, hbl, hp, hf, hkz⟩ := HF.out i l hlt hltl
          rw [HXM.out] at hkz
          have hst := HI.out i l hltl
          rw [hf] at hst
          have HST := Lib.hid hst
          have HDS := Lib.hid (fun (W : World) => specRankDist_any a b' hal hbl W)
          rw [hp] at HDS
          have hca := hlA i (by omega)
          have hcb := hlB k (by omega)
          rw [hq1.out, ha, Nat.zero_add] at hca
          rw [hq2.out, hb, Nat.zero_add] at hcb
          have v1 : IntKind.i64.wrap ((i : Int) - (xm : Int)) = (i : Int) - (xm : Int) := wrap_small _ (by omega) (by omega)
          have v2 : IntKind.i64.wrap ((xm : Int) - (l : Int)) = (xm : Int) - (l : Int) := wrap_small _ (by omega) (by omega)
          have v3 : IntKind.i64.wrap ((i : Int) - (xm : Int) + max 0 ((xm : Int) - (l : Int))) = (k : Int) := by rw [← hkz]; exact wrap_small _ (by omega) (by omega)
          have k0 : (0 : Int) ≤ (k : Int) := by omega
          have k1 : (k : Int) < (n : Int) := by omega
          have j0 : (0 : Int) ≤ (i : Int) := by omega
          have j1 : (i : Int) < (n : Int) := by omega
          have hhdr := hacc.hdr
          clear hp ha hb hf hst hal hbl hkz
          go_wp2_with (go_at_call 65; refine (l00Max_any _ _ _).mono ?_; rintro e w' ⟨rfl, rfl⟩)
          refine region_wx 13 [] (by kernel_rfl) (by kernel_rfl) ?_
          simp only [List.take_succ_cons, List.take_zero, List.drop_succ_cons, List.drop_zero]
          repeat ((first | refine wx_skip rfl ?_ | refine wx_nilCheck rfl rfl _ rfl _ rfl ?_ | (refine wx_float rfl rfl _ _ _ _ _ _ _ rfl rfl rfl rfl ?_; intro r hr) | (refine wx_k rfl rfl rfl (fun K hK => ?_); go_big_quiet_op; refine hK _ ?_; clear hK K) | (refine wx_call rfl rfl 66 _ _ rfl (by kernel_rfl) (by kernel_rfl) (.int .i64 (p : Int)) (fun W hW hF => ?_) ?_; go_simp; (with_reducible refine (callsExt (HDS.out W)).mono ?_); rintro e w' h; exact h) | (refine wx_bs rfl rfl _ _ _ rfl _ rfl (fun Z => bs1 _ Z) ?_; intro H V2 hV2 hcell)); (try simp only [Act.put, List.setIfInBounds_toArray, List.set_cons_zero, List.set_cons_succ]); (try simp only [List.tail_nil]))
          refine wx_nil (fun W hW hF => ?_)
          have hVW : Ext V2 W := hF 12
          have hcell1 := cell_ext hcell hVW
          have hown1 := hacc.own.ext hW
          have hcl := hacc.len
          rw [cells3_length] at hcl
          have hpp := HP.out i l hlt hltl
          have hsz1 := hacc.ext.size
          have hsz2 := hW.size
          have hHl := lt_of_cell hcell1
          clear hF hcell hVW hV2
          refine wpList_append_own _ rfl _ _ _ rfl w4.heap.size 25 i0 (.float .f32 0) 1 4 Try.underlying22 hi hz0 hz1 hz2 rfl (by omega) (.slice A b.length c') b.length (b.map fl) (by rfl) hown1 ⟨H, 0, none⟩ 1 1 [fl (floatOfInt .f32 (p : Int))] (by rfl) rfl (one_new hcell1) (one_word _) (by unfold maxLen; omega) (by omega) (by omega) ?_
          intro v' w2 ho2 hg2 _
          obtain ⟨A', c2', b2', rfl, hacc', ⟨hh2, hf2⟩, hold, holdf⟩ := hacc.push (by decide) hW (rs := [floatOfInt .f32 (p : Int)]) (Xs := [floatOfInt .f32 (p : Int)]) ho2 hg2 (by simp [nrm_of _ (isN_ofInt (p : Int))])
          have hrow := hacc.own.row
          have hgs2 := hg2.size
          have n0 := hold _ _ _ o0 (hacc.ne (by decide)) (by simp)
          have n1 := hold _ _ _ o1 (hacc.ne (by decide)) (by simp)
          have n2 := hold _ _ _ o2 (hacc.ne (by decide)) (by simp)
          have nA : LiesI _ ga 0 la := fun q hq => hold _ _ _ (hlA q hq) (fun g hg => by have := hrow g hg; omega) (fun h => gna h.1)
          have nB : LiesI _ gc 0 lb := fun q hq => hold _ _ _ (hlB q hq) (fun g hg => by have := hrow g hg; omega) (fun h => gnc h.1)
          rw [← HST.out] at hacc'
          clear hold holdf hown1 hhdr hacc ho2 hg2 hW o0 o1 o2 hcell1 hlA hlB hca hcb hcl hrow
          go_wp2
          go_roundw
          case rel => exact ⟨l + 1, A', c2', b2', by omega, by go_num, hacc', n0, n1, n2, nA, nB, by simp only [World.size_setCell]; omega⟩
          case measure => simp [intOf]; omega
        · have e1 : l = dn := by omega
          have hst : cells3 (rkF wn hn r bs bs2) wn dn (i * dn + l) = cells3 (rkF wn hn r bs bs2) wn dn ((i + 1) * dn) := by rw [Nat.succ_mul, e1]
          rw [hst] at hacc
          clear hst e1
          go_wp2
          go_roundw
          case rel => exact ⟨i + 1, A, c', b, by omega, by go_num, hacc, o0, o1, o2, hlA, hlB, hsw⟩
          case measure => simp [intOf]; omega
    · have e1 : i = n := by omega
      have hnn : n * dn = wn * hn * dn := by rw [HMN.out, Nat.mul_comm hn wn]
      have ⟨c0, c1, c2, c3, f0, f1, f2, f3⟩ := hr0.ext hacc.ext
      have hhdr := hacc.hdr
      have hE2 := hE.trans hacc.ext
      have hown := hacc.own
      have hlike := hacc.like
      rw [e1, hnn] at hlike
      have HLK := Lib.hid hlike
      clear hacc hlike hlA hlB hnn e1
      go_wp2
      refine bodyPost_ret (v := .tuple #[.agg #[.int .i64 wn, .int .i64 hn, .int .i64 dn, .slice A b.length c'], .bool true]) (by simp [results, Try.results28, go_sem, *]) rfl ⟨A, c', b, rfl, ?_, HLK.out, ?_⟩
      · refine OwnF.weaken (base := w4.heap.size) ?_ (by omega)
        repeat (first | (with_reducible exact hown) | (with_reducible refine OwnF.set_below ?_ (by dsimp only; omega) _))
      · repeat (first | (with_reducible exact hE2) | (with_reducible refine Ext.setCell ?_ (by dsimp only; omega) _))
set_option maxRecDepth 8000 in
theorem lawRankVolume_any (W : World) (z0 z1 : Int) (_ : -9223372036854775808 ≤ z0 ∧ z0 ≤ 9223372036854775807) (_ : -9223372036854775808 ≤ z1 ∧ z1 ≤ 9223372036854775807) (A : Option Addr) (n m : Nat) (bs : List Nat) (hc : n ≤ m) (hm : m ≤ maxLen) (hr : Reads W A n bs) (hw : Words bs) (y0 y1 : Int) (_ : -9223372036854775808 ≤ y0 ∧ y0 ≤ 9223372036854775807) (_ : -9223372036854775808 ≤ y1 ∧ y1 ≤ 9223372036854775807) (A' : Option Addr) (n' m' : Nat) (bs2 : List Nat) (hc' : n' ≤ m') (hm' : m' ≤ maxLen) (hr' : Reads W A' n' bs2) (hw' : Words bs2) (rr : Int) (_ : IntKind.i64.min ≤ rr ∧ rr ≤ IntKind.i64.max) (d : Int) (_ : IntKind.i64.min ≤ d ∧ d ≤ IntKind.i64.max) :
    Calls Try.prog 5 #[.agg #[.int .i64 z0, .int .i64 z1, .slice A n m], .agg #[.int .i64 y0, .int .i64 y1, .slice A' n' m'], .int .i64 rr, .int .i64 d] W fun e W' => e = .returned (.bool true) ∧ Ext W W' := by
  have hn : n ≤ maxLen := Nat.le_trans hc hm
  have hn' : n' ≤ maxLen := Nat.le_trans hc' hm'
  by_cases hv : (VMap z0 z1 n ∧ VMap y0 y1 n' ∧ z0 = y0 ∧ z1 = y1) ∧ 1 ≤ d ∧ d ≤ 8
  · by_cases hrr : 1 ≤ rr ∧ rr ≤ 2
    · obtain ⟨⟨hv, hv', rfl, rfl⟩, hd⟩ := hv
      obtain ⟨wn, rfl⟩ := Int.eq_ofNat_of_zero_le (show 0 ≤ z0 by have := hv.1.1; omega)
      obtain ⟨hh, rfl⟩ := Int.eq_ofNat_of_zero_le (show 0 ≤ z1 by have := hv.1.2.2.1; omega)
      obtain ⟨dn, rfl⟩ := Int.eq_ofNat_of_zero_le (show 0 ≤ d by omega)
      obtain ⟨r, rfl⟩ := Int.eq_ofNat_of_zero_le (show 0 ≤ rr by omega)
      have hmb := mul_bounds hv.1.1 hv.1.2.1 hv.1.2.2.1 hv.1.2.2.2.1
      have hn1 := hv.2
      have hn2 := hv'.2
      have hle := hv.1.2.2.2.2
      obtain rfl : n' = n := by omega
      have hwh : wn * hh ≤ 256 := by
        have h2 : ((wn * hh : Nat) : Int) = (wn : Int) * (hh : Int) := by simp
        omega
      have h2048 : wn * hh * dn ≤ 256 * 8 := Nat.mul_le_mul hwh (by omega)
      refine lawRankVolume_core W wn hh A n' m bs hn hr wn hh A' n' m' bs2 hn' hr' r dn wn hh dn (cells3 (rkF wn hh r bs bs2) wn dn (wn * hh * dn)) (by rw [cells3_length]; omega) true ?_ ?_
      · intro w D D' hd1 hd2
        obtain ⟨gb, off, rfl, hl⟩ := hd1.2 (by omega)
        obtain ⟨gb2, off2, rfl, hl2⟩ := hd2.2 (by omega)
        exact specRankVolume_yes wn hh dn r gb off n' n' gb2 off2 n' bs bs2 w hl hd1.1 hl2 hd2.1 hv hn (by omega) (by omega)
      · intro w D D' hd1 hd2
        obtain ⟨gb, off, rfl, hl⟩ := hd1.2 (by omega)
        obtain ⟨gb2, off2, rfl, hl2⟩ := hd2.2 (by omega)
        refine implRankVolume_of wn hh _ n' n' wn hh _ n' n' r dn wn hh dn true _ w hrr (fun w0 hx0 hb0 hb1 hb2 => ?_)
        exact pairVolume_yes wn hh dn _ _ n' n' n' n' hn hn hv hv (by omega) 69 #[.pointer (some ⟨w.heap.size, 0, none⟩), .pointer (some ⟨w.heap.size + 1 + 1, 0, none⟩), .pointer (some ⟨w.heap.size + 1, 0, none⟩)] (rkF wn hh r bs bs2) w0 (by kernel_rfl) (fun x y e U' h1 h2 h3 h4 => rk1_any wn hh gb off n' n' gb2 off2 n' bs bs2 _ _ _ x y e r U' (hb0.ext h1) (hb1.ext h1) (cell_ext hb2 h1) ((hl.ext hx0).ext h1) hd1.1 ((hl2.ext hx0).ext h1) hd2.1 hv h2 h3 (by omega) (by omega))
    · exact lawRankVolume_core W z0 z1 A n m bs hn hr y0 y1 A' n' m' bs2 hn' hr' rr d 0 0 0 [] (by simp) false (fun w D D' hd hd' => specRankVolume_no2 z0 z1 D n n y0 y1 D' n' n' rr d hn hn' hv.1.1 hv.1.2.1 hv.1.2.2.1 hv.1.2.2.2 hv.2 (by omega) w) (fun w D D' hd hd' => implRankVolume_no z0 z1 D n n y0 y1 D' n' n' rr d w (by omega))
  · refine lawRankVolume_core W z0 z1 A n m bs hn hr y0 y1 A' n' m' bs2 hn' hr' rr d 0 0 0 [] (by simp) false (fun w D D' hd hd' => specRankVolume_no1 z0 z1 D n n y0 y1 D' n' n' rr d hn hn' hv w) (fun w D D' hd hd' => ?_)
    by_cases hrr : 1 ≤ rr ∧ rr ≤ 2
    · exact implRankVolume_of z0 z1 D n n y0 y1 D' n' n' rr d 0 0 0 false [] w hrr (fun w0 hx0 hb0 hb1 hb2 => pairVolume_no z0 z1 D n n y0 y1 D' n' n' d hn hn' hv _ _ w0)
    · exact implRankVolume_no z0 z1 D n n y0 y1 D' n' n' rr d w (by omega)
end Go.Proofs.Ytgpobhpcbgenoaa
