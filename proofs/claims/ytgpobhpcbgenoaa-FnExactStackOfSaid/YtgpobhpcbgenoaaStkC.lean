/- Contracts: the program's stack of pictures. -/
import Derived.Test.YtgpobhpcbgenoaaStkS
import Derived.Test.YtgpobhpcbgenoaaTwo
import Derived.Test.YtgpobhpcbgenoaaBox
import Derived.Test.YtgpobhpcbgenoaaVolOf
namespace Go.Proofs.Ytgpobhpcbgenoaa
open Go.RowKit
set_option linter.unusedVariables false

def stkF (w : Int) (bs : Nat → List Nat) (x y e : Nat) : Nat := nrm ((bs e).getD (cellN w (x : Int) (y : Int)) 0)
theorem cells3_stk (wn hn n : Nat) (bs : Nat → List Nat) (hl : ∀ i, i < n → (bs i).length = wn * hn) (hn0 : 0 < n) : cells3 (stkF wn bs) wn n (wn * hn * n) = stL (fun j => (bs j).map nrm) n (wn * hn * n) := by
  unfold cells3 stL
  refine List.map_congr_left fun m hm => ?_
  have hm := List.mem_range.1 hm
  have h1 : m / n < wn * hn := Nat.div_lt_of_lt_mul (by rw [Nat.mul_comm]; exact hm)
  have h2 : m % n < n := Nat.mod_lt _ hn0
  have h3 := hl _ h2
  unfold stkF
  rw [cellN_nat, Nat.mod_add_div]
  simp [List.getD_eq_getElem?_getD, List.getElem?_eq_getElem (show m / n < (bs (m % n)).length by omega)]
theorem stackOf1_any (gb g off n c d x y : Nat) (w h : Int) (A : Option Addr) (k m : Nat) (bs : List Nat) (W : World) (hs : W.cell? ⟨gb, 0, none⟩ = some (.slice (some ⟨g, off, none⟩) n c)) (hB : BoxO W g (off + d * 3) (.int .i64 w) (.int .i64 h) (.slice A k m)) (hr : Reads W A k bs) (hv : VMap w h k) (hd : d < n) (hx : (x : Int) ≤ w - 1) (hy : (y : Int) ≤ h - 1) :
    Calls Try.prog 87 #[.int .i64 x, .int .i64 y, .int .i64 d, .pointer (some ⟨gb, 0, none⟩)] W fun e W' => e = .returned (.float .f32 (bs.getD (cellN w (x : Int) (y : Int)) 0)) ∧ Ext W W' := by
  have HA := Lib.hid (aboutO_any g (off + d * 3) w h A k m bs (x : Int) (y : Int) W hB hr hv)
  rw [clampI_in (by omega) hx, clampI_in (by omega) hy] at HA
  generalize bs.getD (cellN w (x : Int) (y : Int)) 0 = v at HA ⊢
  have d0 : (0 : Int) ≤ (d : Int) := by omega
  have d1 : (d : Int) < (n : Int) := by omega
  clear hB hr hv
  go_enter Try.func87, Try.ntmps87
  go_wp2_with fail
  refine HA.out.mono ?_
  rintro e w1 ⟨rfl, hx⟩
  go_wp2
  go_ret
  exact ⟨rfl, hx⟩
set_option maxHeartbeats 4000000 in
set_option maxRecDepth 8000 in
theorem implStackOf_any (A : Option Addr) (n c : Nat) (ws hs : Nat → Int) (bs : Nat → List Nat) (Wb : World) (R : Ending → World → Prop) (hn : n ≤ 1048576) (hb : ∀ i, i < n → (bs i).length ≤ maxLen) (hw : ∀ i, i < n → Words (bs i)) (hr : ReadsP Wb A n ws hs bs)
    (hno : ¬ StkOk n ws hs bs → ∀ U', Ext Wb U' → R (.returned (.tuple #[.agg #[.int .i64 0, .int .i64 0, .int .i64 0, .slice none 0 0], .bool false])) U')
    (hyes : StkOk n ws hs bs → ∀ U' A c' b, OwnF U' Wb.heap.size 25 (.slice A b.length c') b → b.map nrm = stkL n bs → Ext Wb U' → R (.returned (.tuple #[.agg #[.int .i64 (ws 0), .int .i64 (hs 0), .int .i64 n, .slice A b.length c'], .bool true])) U') :
    Calls Try.prog 39 #[.slice A n c] Wb R := by
  have HNO := Lib.hid hno
  have HYES := Lib.hid hyes
  have HB := Lib.hid hb
  have HW := Lib.hid hw
  have HR := Lib.hid (fun (W' : World) (hW : Ext Wb W') => hr.ext hW)
  clear hno hyes hb hr hw
  by_cases hlen : 1 ≤ n ∧ n ≤ 8
  rotate_left
  · have HBAD : Hid (¬ StkOk n ws hs bs) := Lib.hid (fun h => hlen h.1)
    have HL := Lib.hid (fun (V : World) => implIn_no (n : Int) 1 8 V (by omega))
    clear hlen
    go_enter Try.func39, Try.ntmps39
    go_wp2_with (go_at_call 67; refine (HL.out _).mono ?_; rintro e w' ⟨rfl, rfl⟩)
    refine bodyPost_ret (v := .tuple #[.agg #[.int .i64 0, .int .i64 0, .int .i64 0, .slice none 0 0], .bool false]) (by simp [results, Try.results39, go_sem, *]) rfl (HNO.out HBAD.out _ ?_)
    repeat (first | with_reducible exact Ext.refl _ | (with_reducible refine Ext.setCell ?_ (by simp; try omega) _) | (with_reducible refine Ext.alloc ?_ _))
  obtain ⟨g, off, hA, hcs0⟩ := HR.out Wb (Ext.refl _) (by omega)
  subst hA
  have HCS := Lib.hid hcs0
  have HIN := Lib.hid (fun (V : World) => implIn_yes (n : Int) 1 8 V (by omega) (by omega))
  clear hcs0
  go_enter Try.func39, Try.ntmps39
  go_wp2_with fail
  refine calls_at (X := fun w' => Ext Wb w' ∧ w'.cell? ⟨Wb.heap.size, 0, none⟩ = some (.slice (some ⟨g, off, none⟩) n c) ∧ Res4 w' (Wb.heap.size + 1) ∧ Wb.heap.size + 2 ≤ w'.heap.size) ⟨((Ext.refl _).alloc _).alloc _, by simp [go_sem], ⟨by simp [go_sem], by simp [go_sem], by simp [go_sem], by simp [go_sem], by simp [go_sem], by simp [go_sem], by simp [go_sem], by simp [go_sem]⟩, by simp⟩ ?_
  rintro w0 ⟨hx0, hbs0, hr0, hs0⟩
  refine (HIN.out _).mono ?_
  rintro e w0' ⟨rfl, rfl⟩
  go_wp2_with fail
  go_loopw [13] (fun iv wr => ∃ i : Nat, i ≤ n ∧ iv = .int .i64 i ∧ Hid (∀ j, j < i → VMap (ws j) (hs j) (bs j).length ∧ ws j = ws 0 ∧ hs j = hs 0) ∧ Ext w0 wr) (fun iv _ => n - (intOf iv).toNat)
  case atStart => exact ⟨0, Nat.zero_le _, rfl, Lib.hid (fun j hj => by omega), Ext.refl _⟩
  case round =>
    obtain ⟨i, hin, rfl, hok, hE⟩ := hrel
    obtain ⟨A0, k0, d0', d1', d2', d3', d4', d5'⟩ := HCS.out 0 (by omega)
    have hb0 := HB.out 0 (by omega)
    by_cases hlt : i < n
    · have hEa := hx0.trans hE
      obtain ⟨Ai, ci, c0', c1', c2', c3, c4, c5⟩ := HCS.out i hlt
      have c0 := cell_ext c0' hEa
      have c1 := cell_ext c1' hEa
      have c2 := cell_ext c2' hEa
      have hbi := HB.out i hlt
      have x0 : (0 : Int) ≤ (i : Int) := by omega
      have x1 : (i : Int) < (n : Int) := by omega
      have z0 : (0 : Int) < (n : Int) := by omega
      have HD := Lib.hid (fun (V : World) (hV : Ext wr V) => (by
        have e0 := cell_ext d0' (hEa.trans hV)
        have e1 := cell_ext d1' (hEa.trans hV)
        have e2 := cell_ext d2' (hEa.trans hV)
        rw [Nat.zero_mul, Nat.add_zero] at e0 e1 e2
        exact ⟨e0, e1, e2⟩ : BoxO V g off (.int .i64 (ws 0)) (.int .i64 (hs 0)) (.slice A0 (bs 0).length k0)))
      have HS1 := Lib.hid (fun (V : World) (hV : Ext wr V) => cell_ext (cell_ext hbs0 hE) hV)
      clear c0' c1' c2' d0' d1' d2' d3' d4' d5' c3 c4 c5
      by_cases hp : VMap (ws i) (hs i) (bs i).length ∧ VMap (ws 0) (hs 0) (bs 0).length ∧ ws i = ws 0 ∧ hs i = hs 0
      · have hok2 : Hid (∀ j, j < i + 1 → VMap (ws j) (hs j) (bs j).length ∧ ws j = ws 0 ∧ hs j = hs 0) := Lib.hid (fun j hj => by
          by_cases h : j < i
          · exact hok.out j h
          · obtain rfl : j = i := by omega
            exact ⟨hp.1, hp.2.2.1, hp.2.2.2⟩)
        have HP := Lib.hid (fun (V : World) => (by
          have h := hp.1
          rw [hp.2.2.1, hp.2.2.2] at h
          exact pairOk_yes (ws 0) (hs 0) Ai A0 (bs i).length (bs 0).length ci k0 V hbi hb0 h hp.2.1 : Calls Try.prog 78 #[.agg #[.int .i64 (ws 0), .int .i64 (hs 0), .slice Ai (bs i).length ci], .agg #[.int .i64 (ws 0), .int .i64 (hs 0), .slice A0 (bs 0).length k0]] V fun e U' => e = .returned (.bool true) ∧ Ext V U'))
        rw [hp.2.2.1] at c0
        rw [hp.2.2.2] at c1
        clear hp hok
        go_wp2_with fail
        refine wp_at (X := fun w' => Ext wr w' ∧ Box3 w' wr.heap.size (.int .i64 (ws 0)) (.int .i64 (hs 0)) (.slice Ai (bs i).length ci)) ⟨(Ext.refl _).alloc _, ⟨by simp [go_sem], by simp [go_sem], by simp [go_sem]⟩⟩ ?_
        rintro V0 ⟨hV0, hpa, hpb, hpc⟩
        have ⟨e0, e1, e2⟩ := HD.out _ hV0
        have hs1 := HS1.out _ hV0
        clear c0 c1 c2
        refine region_wx0 [] (by kernel_rfl) (by kernel_rfl) ?_
        repeat ((first | refine wx_skip rfl ?_ | refine wx_nilCheck rfl rfl _ rfl _ rfl ?_ | (refine wx_float rfl rfl _ _ _ _ _ _ _ rfl rfl rfl rfl ?_; intro r hr) | (refine wx_k rfl rfl rfl (fun K hK => ?_); go_big_quiet_op; refine hK _ ?_; clear hK K) | (refine wx_call rfl rfl 78 _ _ rfl (by kernel_rfl) (by kernel_rfl) (.bool true) (fun W hW hF => ?_) ?_; go_simp; (with_reducible refine (HP.out W).mono ?_); rintro e w' h; exact h)); (try simp only [Act.put, List.setIfInBounds_toArray, List.set_cons_zero, List.set_cons_succ]); (try simp only [List.tail_nil]))
        refine wx_nil (fun W hW hF => ?_)
        have hE2 := hE.trans (hV0.trans hW)
        clear hF hW hV0 hE hEa e0 e1 e2 hs1 hpa hpb hpc
        go_wp2
        go_roundw
        case rel => exact ⟨i + 1, by omega, by go_num, hok2, hE2⟩
        case measure => simp [intOf]; omega
      · have HBAD : Hid (¬ StkOk n ws hs bs) := Lib.hid (fun h => hp ⟨(h.2 i hlt).1, (h.2 0 (by omega)).1, (h.2 i hlt).2⟩)
        have HP := Lib.hid (fun (V : World) => pairOk_no (ws i) (hs i) (ws 0) (hs 0) Ai A0 (bs i).length (bs 0).length ci k0 V hbi hb0 hp)
        clear hp hok
        go_wp2_with fail
        refine wp_at (X := fun w' => Ext wr w' ∧ Box3 w' wr.heap.size (.int .i64 (ws i)) (.int .i64 (hs i)) (.slice Ai (bs i).length ci)) ⟨(Ext.refl _).alloc _, ⟨by simp [go_sem], by simp [go_sem], by simp [go_sem]⟩⟩ ?_
        rintro V0 ⟨hV0, hpa, hpb, hpc⟩
        have ⟨e0, e1, e2⟩ := HD.out _ hV0
        have hs1 := HS1.out _ hV0
        clear c0 c1 c2
        refine region_wx0 [] (by kernel_rfl) (by kernel_rfl) ?_
        repeat ((first | refine wx_skip rfl ?_ | refine wx_nilCheck rfl rfl _ rfl _ rfl ?_ | (refine wx_float rfl rfl _ _ _ _ _ _ _ rfl rfl rfl rfl ?_; intro r hr) | (refine wx_k rfl rfl rfl (fun K hK => ?_); go_big_quiet_op; refine hK _ ?_; clear hK K) | (refine wx_call rfl rfl 78 _ _ rfl (by kernel_rfl) (by kernel_rfl) (.bool false) (fun W hW hF => ?_) ?_; go_simp; (with_reducible refine (HP.out W).mono ?_); rintro e w' h; exact h)); (try simp only [Act.put, List.setIfInBounds_toArray, List.set_cons_zero, List.set_cons_succ]); (try simp only [List.tail_nil]))
        refine wx_nil (fun W hW hF => ?_)
        have hE2 := hEa.trans (hV0.trans hW)
        have ⟨r0, r1, r2, r3, rf0, rf1, rf2, rf3⟩ := hr0.ext (hE.trans (hV0.trans hW))
        clear hF hW hV0 hE hEa e0 e1 e2 hs1 hpa hpb hpc
        go_wp2
        refine bodyPost_ret (v := .tuple #[.agg #[.int .i64 0, .int .i64 0, .int .i64 0, .slice none 0 0], .bool false]) (by simp [results, Try.results39, go_sem, *]) rfl (HNO.out HBAD.out _ ?_)
        repeat (first | (with_reducible exact hE2) | (with_reducible refine Ext.setCell ?_ (by dsimp only; omega) _))
    · obtain rfl : n = i := by omega
      have hgood : StkOk n ws hs bs := ⟨hlen, fun j hj => hok.out j hj⟩
      obtain ⟨⟨hsz, hvl⟩, _, _⟩ := hgood.2 0 (by omega)
      obtain ⟨wn, hwn⟩ := Int.eq_ofNat_of_zero_le (show 0 ≤ ws 0 by have := hsz.1; omega)
      obtain ⟨hn', hhn⟩ := Int.eq_ofNat_of_zero_le (show 0 ≤ hs 0 by have := hsz.2.2.1; omega)
      rw [hwn, hhn] at hsz hvl
      have hl0 : (bs 0).length = wn * hn' := by
        have h : ((wn * hn' : Nat) : Int) = (wn : Int) * (hn' : Int) := by simp
        omega
      have hwh : wn * hn' ≤ 256 := by
        have h : ((wn * hn' : Nat) : Int) = (wn : Int) * (hn' : Int) := by simp
        have := hsz.2.2.2.2
        omega
      have HVOL := Lib.hid (fun (V : World) (hV : Ext w0 V) => (by
        refine (volumeOf_any wn hn' n hwh hlen.2 (by have := hsz.2.1; omega) (by have := hsz.2.2.2.1; omega) 87 #[.pointer (some ⟨Wb.heap.size, 0, none⟩)] (stkF wn bs) V (by kernel_rfl) (fun x y e U' h1 h2 h3 h4 => ?_)).mono ?_
        · obtain ⟨Ae, me, e0, e1, e2, e3, _, _⟩ := HCS.out e h4
          obtain ⟨hve, hwe, hhe⟩ := hgood.2 e h4
          have hx := (hx0.trans hV).trans h1
          rw [hwe, hwn] at e0 hve
          rw [hhe, hhn] at e1 hve
          refine (stackOf1_any Wb.heap.size g off n c e x y wn hn' Ae (bs e).length me (bs e) U' (cell_ext hbs0 (hV.trans h1)) ⟨cell_ext e0 hx, cell_ext e1 hx, cell_ext e2 hx⟩ (e3.ext hx) hve h4 (by omega) (by omega)).mono ?_
          rintro e' w' ⟨rfl, hxx⟩
          exact ⟨_, rfl, ⟨wd_at (HW.out e h4) _, rfl⟩, hxx⟩
        · rintro e' w' ⟨A', c', b', rfl, hO, hL, _, hx⟩
          refine ⟨A', c', b', rfl, hO, ?_, hx⟩
          rw [hL, cells3_stk wn hn' n bs (fun i hi => by rw [hgood.len hi, hl0]) (by omega)]
          unfold stkL
          rw [hl0] : Calls Try.prog 86 #[.int .i64 wn, .int .i64 hn', .int .i64 n, .func (.func 87) #[] #[.pointer (some ⟨Wb.heap.size, 0, none⟩)]] V fun e U' => ∃ A' c' b', e = .returned (.agg #[.int .i64 wn, .int .i64 hn', .int .i64 n, .slice A' b'.length c']) ∧ OwnF U' V.heap.size 25 (.slice A' b'.length c') b' ∧ b'.map nrm = stkL n bs ∧ Ext V U'))
      have HG := Lib.hid hgood
      have hEa := hx0.trans hE
      have e0 := cell_ext d0' hEa
      have e1 := cell_ext d1' hEa
      rw [Nat.zero_mul, Nat.add_zero] at e0 e1
      rw [hwn] at e0 HYES
      rw [hhn] at e1 HYES
      have hs1 := cell_ext hbs0 hE
      have z0 : (0 : Int) < (n : Int) := by omega
      clear hgood hok hsz hvl hwn hhn hl0 hwh d0' d1' d2' d3' d4' d5' hb0
      go_wp2_with fail
      refine region_wx 11 [] (by kernel_rfl) (by kernel_rfl) ?_
      simp only [List.take_succ_cons, List.take_zero, List.drop_succ_cons, List.drop_zero]
      repeat ((first | refine wx_skip rfl ?_ | refine wx_nilCheck rfl rfl _ rfl _ rfl ?_ | (refine wx_float rfl rfl _ _ _ _ _ _ _ rfl rfl rfl rfl ?_; intro r hr) | (refine wx_k rfl rfl rfl (fun K hK => ?_); go_big_quiet_op; refine hK _ ?_; clear hK K) | (refine wx_new (fun u W' => u = .func (.func 87) #[] #[.pointer (some ⟨Wb.heap.size, 0, none⟩)]) rfl rfl (fun Wc hWc => ⟨_, Wc, by simp [execOp, go_sem], Ext.refl _, rfl⟩) ?_; rintro u VF hVF rfl)); (try simp only [Act.put, List.setIfInBounds_toArray, List.set_cons_zero, List.set_cons_succ]); (try simp only [List.tail_nil]))
      refine wx_nil (fun W hW hF => ?_)
      have hE9 := hE.trans hW
      clear hF hW e0 e1 hs1 hEa
      go_wp2_with fail
      refine (HVOL.out _ hE9).mono ?_
      rintro e w2 ⟨A2, c2, b2, rfl, hO2, hL2, hx2⟩
      have ⟨r0, r1, r2, r3, rf0, rf1, rf2, rf3⟩ := hr0.ext (hE9.trans hx2)
      have hE2 := hx0.trans (hE9.trans hx2)
      have hs9 := Nat.le_trans hs0 hE9.size
      clear hx2 hE9 hE
      go_wp2
      refine bodyPost_ret (v := .tuple #[.agg #[.int .i64 wn, .int .i64 hn', .int .i64 n, .slice A2 b2.length c2], .bool true]) (by simp [results, Try.results39, go_sem, *]) rfl (HYES.out HG.out _ A2 c2 b2 ?_ hL2 ?_)
      · refine OwnF.weaken (base := W.heap.size) ?_ (by omega)
        repeat (first | (with_reducible exact hO2) | (with_reducible refine OwnF.set_below ?_ (by dsimp only; omega) _))
      · repeat (first | (with_reducible exact hE2) | (with_reducible refine Ext.setCell ?_ (by dsimp only; omega) _))
end Go.Proofs.Ytgpobhpcbgenoaa
