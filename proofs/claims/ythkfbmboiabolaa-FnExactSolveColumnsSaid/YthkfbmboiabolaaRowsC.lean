/- Contracts: the program's map of rows that cost least. -/
import Derived.Test.YthkfbmboiabolaaRowsM
import Derived.Test.YthkfbmboiabolaaMade
namespace Go.Proofs.Ythkfbmboiabolaa
open Go.RowKit
set_option linter.unusedVariables false

theorem solveRows1_any (go gR k c ga wn ca x y : Nat) (z : Int) (W : World) (hc : W.cell? ⟨go, 0, none⟩ = some (.slice (some ⟨gR, 0, none⟩) k c)) (h1 : W.cell? ⟨gR, y, none⟩ = some (.slice (some ⟨ga, 0, none⟩) wn ca)) (h2 : W.cell? ⟨ga, x, none⟩ = some (it z)) (hx : x < wn) (hy : y < k) :
    Calls Try.prog 58 #[.int .i64 x, .int .i64 y, .pointer (some ⟨go, 0, none⟩)] W fun e W' => e = .returned (.float .f32 (floatOfInt .f32 z)) ∧ W = W' := by
  have x0 : (0 : Int) ≤ (x : Int) := by omega
  have x1 : (x : Int) < (wn : Int) := by omega
  have y0 : (0 : Int) ≤ (y : Int) := by omega
  have y1 : (y : Int) < (k : Int) := by omega
  go_enter Try.func58, Try.ntmps58
  go_wp2
  go_ret
  exact ⟨rfl, rfl⟩
set_option maxHeartbeats 8000000 in
set_option maxRecDepth 8000 in
theorem implSolveRows_any (wn hn dn gb off n c p0 p1 : Nat) (bs : List Nat) (U : World) (R : Ending → World → Prop) (hl : Lies U gb off bs) (hlen : bs.length = n) (hwd : Words bs) (hnc : n ≤ c) (hcm : c ≤ maxLen) (hr : ROk wn hn dn n p0 p1 0)
    (hno : ¬ RowsOk wn hn dn bs → ∀ U', Ext U U' → R (.returned (.tuple #[.agg #[.int .i64 0, .int .i64 0, .slice none 0 0], .bool false])) U')
    (hyes : RowsOk wn hn dn bs → ∀ U' A c' b, OwnF U' U.heap.size 23 (.slice A b.length c') b → b.map nrm = cells (rowsF wn dn p0 p1 bs) wn (wn * hn) → Ext U U' → R (.returned (.tuple #[.agg #[.int .i64 wn, .int .i64 hn, .slice A b.length c'], .bool true])) U') :
    Calls Try.prog 30 #[.agg #[.int .i64 wn, .int .i64 hn, .int .i64 dn, .slice (some ⟨gb, off, none⟩) n c], .agg #[.float .f32 p0, .float .f32 p1]] U R := by
  obtain ⟨t0, ti, tz0, tz1, tz2⟩ := info_parts infoU
  have hv := hr.1
  have HNO := Lib.hid hno
  have HYES := Lib.hid hyes
  have HRO := Lib.hid hr
  have h1 : wn ≤ 24 := by have := hv.1.2.1; omega
  have h2 : hn ≤ 24 := by have := hv.1.2.2.2.1; omega
  have hw1 : 1 ≤ wn := by have := hv.1.1; omega
  have hnm : n ≤ maxLen := Nat.le_trans hnc hcm
  have HROW := Lib.hid (fun (W : World) (hW : Ext U W) (hB : Box4 W U.heap.size (.int .i64 wn) (.int .i64 hn) (.int .i64 dn) (.slice (some ⟨gb, off, none⟩) n c)) (y : Nat) (hy : y < hn) (L : List Int) (X : Nat) (o : Bool) (hs : RowSay (rowC wn dn bs y) p0 p1 dn wn L X o) => solve_say U.heap.size wn hn dn gb off n c y p0 p1 bs L X o W hB (hl.ext hW) hlen hwd hnc hcm hv hy hs)
  obtain ⟨F, hF'⟩ : ∃ F, rowsF wn dn p0 p1 bs = F := ⟨_, rfl⟩
  obtain ⟨Q, hQ'⟩ : ∃ Q : Nat → Nat → Int, Q = fun y x => ((solB (rowC wn dn bs y) p0 p1 dn wn (wn - 1 - x) : Nat) : Int) := ⟨_, rfl⟩
  have HF : Hid (∀ x y, F x y = floatOfInt .f32 (Q y x)) := Lib.hid (fun x y => by rw [← hF', hQ']; rfl)
  have HQ : Hid (∀ x y, x < wn → (solL (rowC wn dn bs y) p0 p1 dn wn).getD x 0 = Q y x) := Lib.hid (fun x y hx => by rw [hQ', solL_getD _ _ _ _ _ hx])
  rw [hF'] at HYES
  clear hno hyes hF' hQ' hl hlen hwd hnc hcm hv hr
  go_enter Try.func30, Try.ntmps30
  go_wp2_with fail
  refine calls_at (X := fun w' => Ext U w' ∧ U.heap.size + 3 ≤ w'.heap.size ∧ Box4 w' U.heap.size (.int .i64 wn) (.int .i64 hn) (.int .i64 dn) (.slice (some ⟨gb, off, none⟩) n c) ∧ Box2 w' (U.heap.size + 1) (fl p0) (fl p1) ∧ Res3 w' (U.heap.size + 2)) ⟨(((Ext.refl _).alloc _).alloc _).alloc _, by simp, ⟨by simp [go_sem], by simp [go_sem], by simp [go_sem], by simp [go_sem]⟩, ⟨by simp [go_sem], by simp [go_sem]⟩, ⟨by simp [go_sem], by simp [go_sem], by simp [go_sem], by simp [go_sem], by simp [go_sem], by simp [go_sem]⟩⟩ ?_
  rintro w0 ⟨hx0, hs0, hb0, hq0, hr0⟩
  refine (rowOk_yes wn hn dn (some ⟨gb, off, none⟩) n c p0 p1 0 hnm HRO.out _).mono ?_
  rintro e w1 ⟨rfl, hx⟩
  replace hx0 := hx0.trans hx
  have HB4 := Lib.hid (fun (W : World) (hW : Ext w1 W) => (hb0.ext hx).ext hW)
  have HQ2 := Lib.hid (fun (W : World) (hW : Ext w1 W) => (hq0.ext hx).ext hW)
  have HR3 := Lib.hid (fun (W : World) (hW : Ext w1 W) => (hr0.ext hx).ext hW)
  have hs1 : U.heap.size + 3 ≤ w1.heap.size := Nat.le_trans hs0 hx.size
  have ⟨p0', p1', p2', p3'⟩ := HB4.out _ (((Ext.refl w1).alloc (.cells #[] 36)).alloc (.cells #[.slice (some ⟨w1.heap.size, 0, none⟩) 0 0] 80))
  clear hx hb0 hq0 hr0 hs0
  go_wp2_with fail
  clear p0' p1' p2' p3'
  go_loopw [19] (fun yv wr => ∃ (y cR : Nat) (A : Option Addr), y ≤ hn ∧ yv = .int .i64 y ∧ Blk wr (w1.heap.size + 1) 80 [.slice A y cR] ∧ OwnU wr w1.heap.size (.slice A y cR) y wn Q ∧ Hid (∀ j, j < y → SolOk (rowC wn dn bs j) wn dn) ∧ Ext w1 wr) (fun yv _ => hn - (intOf yv).toNat)
  case atStart =>
    refine ⟨0, 0, some ⟨w1.heap.size, 0, none⟩, Nat.zero_le _, rfl, ?_, (OwnU.made w1 wn Q _ (Nat.le_refl _)).ext ((Ext.refl _).alloc _), Lib.hid (fun j hj => by omega), ((Ext.refl _).alloc _).alloc _⟩
    have h := Blk.new (w1.alloc (.cells #[] 36)) 80 (.slice (some ⟨w1.heap.size, 0, none⟩) 0 0)
    simpa using h
  case round =>
    obtain ⟨y, cR, A, hyn, rfl, hbk, hO, hok, hE⟩ := hrel
    by_cases hlt : y < hn
    · have ⟨qa, qb⟩ := HQ2.out _ hE
      by_cases hsol : SolOk (rowC wn dn bs y) wn dn
      · have hok2 : Hid (∀ j, j < y + 1 → SolOk (rowC wn dn bs j) wn dn) := Lib.hid (fun j hj => by
          by_cases h : j < y
          · exact hok.out j h
          · obtain rfl : j = y := by omega
            exact hsol)
        have HCALL := Lib.hid (HROW.out _ (hx0.trans hE) (HB4.out _ hE) y hlt _ _ _ (.inl ⟨hsol, rfl, rfl, rfl⟩))
        have HFX : Hid (∀ x, x < wn → (solL (rowC wn dn bs y) p0 p1 dn wn).getD x 0 = Q y x) := Lib.hid (fun x hx => HQ.out x y hx)
        have HLL := Lib.hid (solL_length (rowC wn dn bs y) p0 p1 dn wn)
        generalize solL (rowC wn dn bs y) p0 p1 dn wn = SL at HCALL HFX HLL
        generalize solV (rowC wn dn bs y) p0 p1 dn wn = SV at HCALL
        clear hsol hok
        go_wp2_with fail
        refine HCALL.out.mono ?_
        rintro e w2 ⟨Ar, cr, br, rr, rfl, hOr, hLr, hXr, hx2⟩
        have hbl : br.length = wn := by rw [hLr.out, HLL.out]
        rw [hbl]
        rw [hbl] at hOr
        have HBL := Lib.hid hbl
        have HRR : Hid (∀ x, x < wn → br.getD x 0 = Q y x) := Lib.hid (fun x hx => by rw [hLr.out]; exact HFX.out x hx)
        obtain ⟨gA, rfl⟩ := hOr.at (by omega)
        have hE2 := hE.trans hx2
        have hbk2 := hbk.ext hx2
        have hO2 := hO.ext hx2
        have hoc : w2.cell? ⟨w1.heap.size + 1, 0, none⟩ = some (.slice A y cR) := hbk2.cell 0
        have hol : w1.heap.size + 1 < w2.heap.size := hbk2.lt
        clear hbl hbk hO hE hx2 hXr qa qb
        go_wp2_with (at_builtin; refine sapp_here _ _ _ _ rfl ?_)
        refine Lib.hid ?_
        obtain ⟨xs, hrowT, hcellsT⟩ := hO2
        refine swl_at (X := fun w' => Ext w2 w' ∧ w'.cell? ⟨w2.heap.size, 0, none⟩ = some (.slice (some ⟨gA, 0, none⟩) wn cr)) ⟨(Ext.refl _).alloc _, sfresh _ _ _⟩ ?_
        rintro z ⟨hez, hcz⟩
        have hTz := ownsRow_ext1 hrowT hez
        have hRz := hcellsT.ext hez
        have hOz := hOr.ext hez
        have hbz := hbk2.ext hez
        have hrow := World.ownsRow.lt hTz
        have hEz := hE2.trans hez
        refine wpList_append_own _ rfl _ _ _ rfl w1.heap.size 36 t0 (.slice none 0 0) 1 24 Try.underlying80 ti tz0 tz1 tz2 rfl (by omega) (.slice A y cR) y xs (by rfl) hTz ⟨w2.heap.size, 0, none⟩ 1 1 [.slice (some ⟨gA, 0, none⟩) wn cr] (by rfl) rfl (one_val hcz) (word_slice _ _ _) (by unfold maxLen; omega) (by omega) hEz.size ?_
        intro v' z1 ho2 hg2 _
        have hOT1 := ownU_push hTz hRz hOz HBL.out HRR.out ho2 hg2 (by omega)
        have hb1 := hbz.grownV hTz (by decide) hg2
        have hE1 := Ext.grown hEz hg2 (fun g hg => (hrow g hg).1)
        obtain ⟨A2, c2, rfl⟩ := hOT1.form
        have hoc2 : z1.cell? ⟨w1.heap.size + 1, 0, none⟩ = some (.slice A y cR) := hb1.cell 0
        have hof2 : z1.frozen? ⟨w1.heap.size + 1, 0, none⟩ = false := hb1.frozen 0
        have hO3 := hOT1.set (i := 0) hb1 (by decide) (by decide) (.slice A2 (y + 1) c2)
        have hb2 := hb1.set_ 0 (.slice A2 (y + 1) c2)
        have hE3 := hE1.setCell (p := ⟨w1.heap.size + 1, 0, none⟩) (by dsimp only; omega) (.slice A2 (y + 1) c2)
        clear ho2 hg2 hrow hEz hOz hRz hTz hcz hez hE2 hbk2 hrowT hcellsT hOT1 hb1 hE1 hbz hOr hoc hol
        go_wp2
        go_roundw
        case rel => exact ⟨y + 1, c2, A2, by omega, by go_num, hb2, hO3, hok2, hE3⟩
        case measure => simp [intOf]; omega
      · have HB := Lib.hid (fun h : RowsOk wn hn dn bs => hsol (h y hlt))
        have HCALL := Lib.hid (HROW.out _ (hx0.trans hE) (HB4.out _ hE) y hlt _ _ _ (.inr ⟨hsol, rfl, rfl, rfl⟩))
        clear hsol hok hbk hO
        go_wp2_with fail
        refine HCALL.out.mono ?_
        rintro e w2 ⟨Ar, cr, br, rr, rfl, hOr, hLr, hXr, hx2⟩
        have ⟨c0, c1, c2, f0, f1, f2⟩ := HR3.out _ (hE.trans hx2)
        have hE2 := hx0.trans (hE.trans hx2)
        clear hE hx2 hXr hOr qa qb
        go_wp2
        refine bodyPost_ret (v := .tuple #[.agg #[.int .i64 0, .int .i64 0, .slice none 0 0], .bool false]) (by simp [results, Try.results30, go_sem, *]) rfl (HNO.out HB.out _ ?_)
        repeat (first | (with_reducible exact hE2) | (with_reducible refine Ext.setCell ?_ (by dsimp only; omega) _))
    · obtain rfl : hn = y := by omega
      have HOK : Hid (RowsOk wn hn dn bs) := Lib.hid (fun j hj => hok.out j hj)
      have ⟨p0', p1', p2', p3'⟩ := HB4.out _ hE
      have hn0 : 0 < hn := by have := HRO.out.1.1.2.2.1; omega
      obtain ⟨xs, hrowT, hcellsT⟩ := hO
      obtain ⟨gR, rfl⟩ : ∃ g, A = some ⟨g, 0, none⟩ := by
        rcases hrowT.2 with ⟨_, h0⟩ | ⟨g, cap, cur, hv, r⟩
        · omega
        · simp only [Value.slice.injEq] at hv
          exact ⟨g, hv.1⟩
      have HCLO := Lib.hid (fun (x y : Nat) (W' : World) (hW : Ext wr W') (hx : x < wn) (hy : y < hn) => (by
        obtain ⟨ga, ca, q0, _, q2⟩ := hcellsT y hy
        have hcy : wr.cell? ⟨gR, y, none⟩ = some (.slice (some ⟨ga, 0, none⟩) wn ca) := by rw [World.ownsRow.cellAt hrowT y (by omega), q0]
        refine (solveRows1_any (w1.heap.size + 1) gR hn cR ga wn ca x y (Q y x) W' (cell_ext (hbk.cell 0) hW) (cell_ext hcy hW) (cell_ext (q2 x hx) hW) hx hy).mono ?_
        rintro e w' ⟨rfl, rfl⟩
        exact ⟨_, rfl, ⟨ofInt_lt _, by rw [nrm_ofInt, HF.out]⟩, Ext.refl _⟩ : Calls Try.prog 58 (#[.int .i64 x, .int .i64 y] ++ #[.pointer (some ⟨w1.heap.size + 1, 0, none⟩)]) W' fun e W'' => ∃ r, e = .returned (.float .f32 r) ∧ Is r (F x y) ∧ Ext W' W''))
      clear hok hbk hrowT hcellsT
      go_wp2_with fail
      refine (mapOf_any wn hn h1 h2 58 #[.pointer (some ⟨w1.heap.size + 1, 0, none⟩)] F wr (by kernel_rfl) HCLO.out).mono ?_
      rintro e w2 ⟨A3, c3, b3, rfl, hO3, hL3, hW3, hx3⟩
      have ⟨c0, c1, c2, f0, f1, f2⟩ := HR3.out _ (hE.trans hx3)
      have hE2 := hx0.trans (hE.trans hx3)
      have hsz := hE.size
      have hsz0 := hx0.size
      clear hE hx3 p0' p1' p2' p3'
      go_wp2
      refine bodyPost_ret (v := .tuple #[.agg #[.int .i64 wn, .int .i64 hn, .slice A3 b3.length c3], .bool true]) (by simp [results, Try.results30, go_sem, *]) rfl (HYES.out HOK.out _ A3 c3 b3 ?_ hL3 ?_)
      · refine OwnF.weaken (base := wr.heap.size) ?_ (by omega)
        repeat (first | (with_reducible exact hO3) | (with_reducible refine OwnF.set_below ?_ (by dsimp only; omega) _))
      · repeat (first | (with_reducible exact hE2) | (with_reducible refine Ext.setCell ?_ (by dsimp only; omega) _))
theorem implSolveRows_no (z0 z1 z2 : Int) (A : Option Addr) (n c : Nat) (p0 p1 : Nat) (U : World) (hnm : n ≤ maxLen) (hno : ¬ ROk z0 z1 z2 n p0 p1 0) :
    Calls Try.prog 30 #[.agg #[.int .i64 z0, .int .i64 z1, .int .i64 z2, .slice A n c], .agg #[.float .f32 p0, .float .f32 p1]] U (MapR U 0 0 [] false) := by
  have HN := Lib.hid hno
  clear hno
  go_enter Try.func30, Try.ntmps30
  go_wp2_with fail
  refine calls_at (X := fun w' => Ext U w' ∧ Res3 w' (U.heap.size + 2)) ⟨(((Ext.refl _).alloc _).alloc _).alloc _, ⟨by simp [go_sem], by simp [go_sem], by simp [go_sem], by simp [go_sem], by simp [go_sem], by simp [go_sem]⟩⟩ ?_
  rintro w0 ⟨hE, hr⟩
  refine (rowOk_no z0 z1 z2 A n c p0 p1 0 hnm HN.out _).mono ?_
  rintro e w1 ⟨rfl, hx⟩
  have hE2 := hE.trans hx
  have ⟨c0, c1, c2, f0, f1, f2⟩ := hr.ext hx
  clear hE hx hr
  go_wp2
  refine bodyPost_ret (v := .tuple #[.agg #[.int .i64 0, .int .i64 0, .slice none 0 0], .bool false]) (by simp [results, Try.results30, go_sem, *]) rfl ⟨none, 0, [], rfl, OwnF.nil _ _ _, rfl, ?_⟩
  repeat (first | (with_reducible exact hE2) | (with_reducible refine Ext.setCell ?_ (by dsimp only; omega) _))
end Go.Proofs.Ythkfbmboiabolaa
