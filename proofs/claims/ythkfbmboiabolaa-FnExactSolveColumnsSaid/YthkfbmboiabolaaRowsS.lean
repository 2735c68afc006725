/- Contracts: the reference's map of rows that cost least. -/
import Derived.Test.YthkfbmboiabolaaRowsM
import Derived.Test.YthkfbmboiabolaaTurn
namespace Go.Proofs.Ythkfbmboiabolaa
open Go.RowKit
set_option linter.unusedVariables false

set_option maxHeartbeats 8000000 in
set_option maxRecDepth 8000 in
theorem l04Rows_any (g gp wn hn dn gb off n c p0 p1 : Nat) (bs : List Nat) (U : World) (R : Ending → World → Prop) (hB : Box4 U g (.int .i64 wn) (.int .i64 hn) (.int .i64 dn) (.slice (some ⟨gb, off, none⟩) n c)) (hQ : Box2 U gp (fl p0) (fl p1)) (hl : Lies U gb off bs) (hlen : bs.length = n) (hwd : WordsN bs) (hnc : n ≤ c) (hcm : c ≤ maxLen) (hv : VVol wn hn dn n)
    (hno : ¬ RowsOk wn hn dn bs → ∀ U', Ext U U' → R (.returned (.tuple #[.agg #[.int .i64 0, .int .i64 0, .slice none 0 0], .bool false])) U')
    (hyes : RowsOk wn hn dn bs → ∀ U' A c' b, OwnF U' U.heap.size 23 (.slice A b.length c') b → b.map nrm = cells (rowsF wn dn p0 p1 bs) wn (wn * hn) → Ext U U' → R (.returned (.tuple #[.agg #[.int .i64 wn, .int .i64 hn, .slice A b.length c'], .bool true])) U') :
    Calls Try.prog 56 #[.pointer (some ⟨g, 0, none⟩), .pointer (some ⟨gp, 0, none⟩)] U R := by
  obtain ⟨i0, hi, hz0, hz1, hz2⟩ := info_parts infoF
  have hgl : g < U.heap.size := hB.lt
  have HNO := Lib.hid hno
  have HYES := Lib.hid hyes
  have h1 : wn ≤ 24 := by have := hv.1.2.1; omega
  have h2 : hn ≤ 24 := by have := hv.1.2.2.2.1; omega
  have HROW := Lib.hid (fun (W : World) (hW : Ext U W) (y : Nat) (hy : y < hn) (L : List Int) (X : Nat) (o : Bool) (hs : RowSay (rowC wn dn bs y) p0 p1 dn wn L X o) => l04Row_say g gp wn hn dn gb off n c y p0 p1 bs L X o W (hB.ext hW) (hQ.ext hW) (hl.ext hW) hlen hwd hnc hcm hv hy hs)
  have HB4 := Lib.hid (fun (W : World) (hW : Ext U W) => hB.ext hW)
  have HP := Lib.hid (fun (k j : Nat) (hk : k < hn) (hj : j < wn) => (show k * wn + j < 576 by
    have h3 : k * wn + wn ≤ hn * wn := by rw [← Nat.succ_mul]; exact Nat.mul_le_mul_right _ hk
    have h4 : hn * wn ≤ 24 * 24 := Nat.mul_le_mul h2 h1
    omega))
  obtain ⟨F, hF'⟩ : ∃ F, rowsF wn dn p0 p1 bs = F := ⟨_, rfl⟩
  have HF : Hid (∀ x y, F x y = floatOfInt .f32 ((solB (rowC wn dn bs y) p0 p1 dn wn (wn - 1 - x) : Nat) : Int)) := Lib.hid (fun x y => by rw [← hF']; rfl)
  rw [hF'] at HYES
  clear hno hyes hF' hl hlen hwd hnc hcm hv hB hQ
  go_enter Try.func56, Try.ntmps56
  go_wp2_with fail
  refine wp_at (X := fun w' => Ext U w' ∧ U.heap.size + 1 ≤ w'.heap.size ∧ Res3 w' U.heap.size) ⟨(Ext.refl _).alloc _, by simp, ⟨by simp [go_sem], by simp [go_sem], by simp [go_sem], by simp [go_sem], by simp [go_sem], by simp [go_sem]⟩⟩ ?_
  rintro w0 ⟨hx0, hs0, hres⟩
  have ⟨p0', p1', p2', p3'⟩ := HB4.out _ hx0
  refine region_wx 11 [] (by kernel_rfl) (by kernel_rfl) ?_
  simp only [List.take_succ_cons, List.take_zero, List.drop_succ_cons, List.drop_zero]
  repeat ((first | refine wx_skip rfl ?_ | refine wx_nilCheck rfl rfl _ rfl _ rfl ?_ | (refine wx_float rfl rfl _ _ _ _ _ _ _ rfl rfl rfl rfl ?_; intro r hr) | (refine wx_k rfl rfl rfl (fun K hK => ?_); go_big_quiet_op; refine hK _ ?_; clear hK K) | (refine wx_bs0 rfl rfl _ 23 rfl bs0 ?_; intro H0 V0 hV0 hO0) | (refine wx_alloc rfl rfl 54 rfl #[.int .i64 0, .int .i64 0, .slice none 0 0] (fun Z => by simp [Instr.alloc, go_sem]) ?_; intro Va hVa)); (try simp only [Act.put, List.setIfInBounds_toArray, List.set_cons_zero, List.set_cons_succ]); (try simp only [List.tail_nil]))
  refine wx_nil (fun W hW hF => ?_)
  have hVW : Ext V0 W := hF 8
  have hAW : Ext (Va.alloc (.cells #[.int .i64 0, .int .i64 0, .slice none 0 0] 54)) W := hF 10
  have hAg := hVa.size
  have rB := (⟨by simp [go_sem], by simp [go_sem], by simp [go_sem], by simp [go_sem], by simp [go_sem], by simp [go_sem]⟩ : Res3 (Va.alloc (.cells #[.int .i64 0, .int .i64 0, .slice none 0 0] 54)) Va.heap.size).ext hAW
  have rH : W.heap[Va.heap.size]? = some (.cells #[.int .i64 0, .int .i64 0, .slice none 0 0] 54 (0, 0)) := (hAW.block _ (by simp)).trans (heap_alloc_new _ _)
  clear hAW
  generalize Va.heap.size = go at hAg rB rH ⊢
  have hO1 := hO0.ext hVW
  have hne1 := hO1.ne_block rH (by decide)
  have hne0 := hne1 _ rfl
  have hgo := rB.lt
  clear hF hVW hne1 p0' p1' p2' p3' hO0 hV0 hVa
  have ⟨r0, r1, r2, rf0, rf1, rf2⟩ := rB
  go_wp2_with fail
  go_loopw [7] (fun y wr => ∃ (k : Nat) (A : Option Addr) (c' : Nat) (b : List Nat), k ≤ hn ∧ y = .int .i64 k ∧ Acc2 w0 wr w0.heap.size 23 54 go 2 A c' b (cells F wn (k * wn)) ∧ wr.cell? ⟨go, 0, none⟩ = some (.int .i64 wn) ∧ wr.cell? ⟨go, 1, none⟩ = some (.int .i64 hn) ∧ Hid (∀ j, j < k → SolOk (rowC wn dn bs j) wn dn)) (fun y _ => hn - (intOf y).toNat)
  case atStart =>
    refine ⟨0, some ⟨H0, 0, none⟩, 0, [], Nat.zero_le _, rfl, ⟨?_, ?_, by simp [go_sem, *], by simp [go_sem, *], by simp [cells], ?_, Nat.le_refl _, hAg⟩, by simp [go_sem, *], by first | (simp [go_sem, *]; done) | exact cell_set_eq (v := .int .i64 hn) (by simp [go_sem, *]), Lib.hid (fun j hj => by omega)⟩
    · repeat (first | with_reducible exact hO1 | (with_reducible refine OwnF.set_ne ?_ (fun q hq => by simp [Value.ownBlock] at hq; subst hq; exact hne0) _) | exact hO1)
    · repeat (first | with_reducible exact ⟨_, _, rH⟩ | with_reducible refine blk_set ?_)
    · repeat (first | with_reducible exact hW | (with_reducible refine Ext.setCell ?_ (by dsimp only; omega) _))
  case round =>
    clear r0 r1 r2 rf0 rf1 rf2 rB rH hO1 hne0 hgo hW
    obtain ⟨k, A, c', b, hk, rfl, hacc, o0, o1, hok⟩ := hrel
    have ⟨p0', p1', p2', p3'⟩ := HB4.out _ (hx0.trans hacc.ext)
    by_cases hlt : k < hn
    · by_cases hsol : SolOk (rowC wn dn bs k) wn dn
      · have hok2 : Hid (∀ j, j < k + 1 → SolOk (rowC wn dn bs j) wn dn) := Lib.hid (fun j hj => by
          by_cases h : j < k
          · exact hok.out j h
          · obtain rfl : j = k := by omega
            exact hsol)
        have HCALL := Lib.hid (HROW.out _ (hx0.trans hacc.ext) k hlt _ _ _ (.inl ⟨hsol, rfl, rfl, rfl⟩))
        have HFX : Hid (∀ x, x < wn → floatOfInt .f32 ((solL (rowC wn dn bs k) p0 p1 dn wn).getD x 0) = F x k) := Lib.hid (fun x hx => by rw [HF.out, solL_getD _ _ _ _ _ hx])
        have HLL := Lib.hid (solL_length (rowC wn dn bs k) p0 p1 dn wn)
        generalize solL (rowC wn dn bs k) p0 p1 dn wn = SL at HCALL HFX HLL
        generalize solV (rowC wn dn bs k) p0 p1 dn wn = SV at HCALL
        clear hsol hok
        go_wp2_with fail
        refine HCALL.out.mono ?_
        rintro e w2 ⟨Ar, cr, br, rr, rfl, hOr, hLr, hXr, hx2⟩
        have hbl : br.length = wn := by rw [hLr.out, HLL.out]
        rw [hbl]
        rw [hbl] at hOr
        have HBL := Lib.hid hbl
        have hacc2 := hacc.later hx2
        have o02 := cell_ext o0 hx2
        have o12 := cell_ext o1 hx2
        have HRR : Hid (∀ x, x < wn → floatOfInt .f32 (br.getD x 0) = F x k) := Lib.hid (fun x hx => by rw [hLr.out]; exact HFX.out x hx)
        have hrb := hacc.ext.size
        clear hbl hacc o0 o1 p0' p1' p2' p3' hx2 hXr
        go_wp2_with fail
        go_loopw [11] (fun x wq => ∃ (j : Nat) (A : Option Addr) (c' : Nat) (b : List Nat), j ≤ wn ∧ x = .int .i64 j ∧ Acc2 w0 wq w0.heap.size 23 54 go 2 A c' b (cells F wn (k * wn + j)) ∧ wq.cell? ⟨go, 0, none⟩ = some (.int .i64 wn) ∧ wq.cell? ⟨go, 1, none⟩ = some (.int .i64 hn) ∧ OwnI wq w0.heap.size 2 (.slice Ar wn cr) br) (fun x _ => wn - (intOf x).toNat)
        case atStart => exact ⟨0, A, c', b, Nat.zero_le _, rfl, hacc2, o02, o12, hOr.weaken hrb⟩
        case round =>
          clear hacc2 o02 o12 hOr hrb
          rename_i wq
          obtain ⟨j, A, c', b, hj, rfl, hacc, o0, o1, hOr⟩ := hrel
          by_cases hltj : j < wn
          · obtain ⟨gR, rfl⟩ := hOr.at (by rw [HBL.out]; omega)
            have hcr := hOr.cell (i := j) (by rw [HBL.out]; exact hltj)
            have hzr := HRR.out j hltj
            generalize br.getD j 0 = z at hcr hzr
            have HZR := Lib.hid hzr
            have hhdr := hacc.hdr
            have j0 : (0 : Int) ≤ (j : Int) := by omega
            have j1 : (j : Int) < (wn : Int) := by omega
            clear hzr
            go_wp2_with fail
            refine region_wx 8 [] (by kernel_rfl) (by kernel_rfl) ?_
            simp only [List.take_succ_cons, List.take_zero, List.drop_succ_cons, List.drop_zero]
            repeat ((first | refine wx_skip rfl ?_ | refine wx_nilCheck rfl rfl _ rfl _ rfl ?_ | (refine wx_float rfl rfl _ _ _ _ _ _ _ rfl rfl rfl rfl ?_; intro r hr) | (refine wx_k rfl rfl rfl (fun K hK => ?_); go_big_quiet_op; refine hK _ ?_; clear hK K) | (refine wx_bs rfl rfl _ _ _ rfl _ rfl (fun Z => bs1 _ Z) ?_; intro H V2 hV2 hcell)); (try simp only [Act.put, List.setIfInBounds_toArray, List.set_cons_zero, List.set_cons_succ]); (try simp only [List.tail_nil]))
            refine wx_nil (fun W hW hF => ?_)
            have hVW : Ext V2 W := hF 7
            have hcell1 := cell_ext hcell hVW
            have hcl := hacc.len
            rw [cells_length] at hcl
            have hp := HP.out k j hlt hltj
            have hown1 := hacc.own.ext hW
            have hOr1 := hOr.ext hW
            have hap := kinds_apart hOr1 hown1 (by decide)
            obtain ⟨cs, fz, hgb⟩ := (hacc.later hW).blk
            have hne := hOr1.ne_block hgb (by decide) gR rfl
            have hsz1 := hacc.ext.size
            have hsz2 := hW.size
            clear hF hVW hcell hV2 hgb
            refine wpList_append_own _ rfl _ _ _ rfl w0.heap.size 23 i0 (.float .f32 0) 1 4 Try.underlying22 hi hz0 hz1 hz2 rfl (by omega) (.slice A b.length c') b.length (b.map fl) (by rfl) hown1 ⟨H, 0, none⟩ 1 1 [fl (floatOfInt .f32 z)] (by rfl) rfl (one_new hcell1) (one_word _) (by unfold maxLen; omega) (by omega) (by omega) ?_
            intro v' w3 ho2 hg2 _
            have hOr2 := hOr1.grown hg2 hap
            obtain ⟨A', c2, b', rfl, hacc', ⟨hh2, hf2⟩, hold, holdf⟩ := hacc.push (by decide) hW (rs := [floatOfInt .f32 z]) (Xs := [F j k]) ho2 hg2 (by rw [List.map_cons, List.map_nil, nrm_ofInt, HZR.out])
            have n0 := hold _ _ _ o0 (hacc.ne (by decide)) (by simp)
            have n1 := hold _ _ _ o1 (hacc.ne (by decide)) (by simp)
            have hOr3 := hOr2.set_ne' (g' := go) (i := 2) (u := .slice A' b'.length c2) hne
            rw [← cells_step F wn k j hltj] at hacc'
            clear hold holdf hown1 hhdr hacc ho2 hg2 hW o0 o1 hp hcl hOr hOr1 hOr2 hap hcell1 hcr
            go_wp2
            go_roundw
            case rel => exact ⟨j + 1, A', c2, b', by omega, by go_num, hacc', n0, n1, hOr3⟩
            case measure => simp [intOf]; omega
          · have e1 : j = wn := by omega
            rw [e1, cells_row] at hacc
            go_wp2
            go_roundw
            case rel => exact ⟨k + 1, A, c', b, by omega, by go_num, hacc, o0, o1, hok2⟩
            case measure => simp [intOf]; omega
      · have hbad : ¬ RowsOk wn hn dn bs := fun h => hsol (h k hlt)
        have HB := Lib.hid hbad
        have HCALL := Lib.hid (HROW.out _ (hx0.trans hacc.ext) k hlt _ _ _ (.inr ⟨hsol, rfl, rfl, rfl⟩))
        have hE := hx0.trans hacc.ext
        have hrs := hres.ext hacc.ext
        clear hbad hsol hok hacc o0 o1
        go_wp2_with fail
        refine HCALL.out.mono ?_
        rintro e w2 ⟨Ar, cr, br, rr, rfl, hOr, hLr, hXr, hx2⟩
        have hE2 := hE.trans hx2
        have ⟨c0, c1, c2, f0, f1, f2⟩ := hrs.ext hx2
        clear hE hrs hx2 p0' p1' p2' p3' hXr hOr
        go_wp2
        refine bodyPost_ret (v := .tuple #[.agg #[.int .i64 0, .int .i64 0, .slice none 0 0], .bool false]) (by simp [results, Try.results56, go_sem, *]) rfl (HNO.out HB.out _ ?_)
        repeat (first | (with_reducible exact hE2) | (with_reducible refine Ext.setCell ?_ (by dsimp only; omega) _))
    · have e1 : k = hn := by omega
      have HB : Hid (RowsOk wn hn dn bs) := Lib.hid (fun j hj => hok.out j (by omega))
      rw [e1, Nat.mul_comm hn wn] at hacc
      have ⟨c0, c1, c2, f0, f1, f2⟩ := hres.ext hacc.ext
      have hhdr := hacc.hdr
      have hE := hx0.trans hacc.ext
      have hown := hacc.own
      have hlike := hacc.like
      have hhg := hacc.b1
      clear hacc hok
      go_wp2
      refine bodyPost_ret (v := .tuple #[.agg #[.int .i64 wn, .int .i64 hn, .slice A b.length c'], .bool true]) (by simp [results, Try.results56, go_sem, *]) rfl (HYES.out HB.out _ A c' b ?_ hlike ?_)
      · refine OwnF.weaken (base := w0.heap.size) ?_ (by omega)
        repeat (first | (with_reducible exact hown) | (with_reducible refine OwnF.set_below ?_ (by dsimp only; omega) _))
      · repeat (first | (with_reducible exact hE) | (with_reducible refine Ext.setCell ?_ (by dsimp only; omega) _))
end Go.Proofs.Ythkfbmboiabolaa
