/- The law on WinnersOf holds. -/
import Derived.Test.YtppahlkmemngeaaSpecV
import Derived.Test.YtppahlkmemngeaaWin2
import Derived.Test.YtppahlkmemngeaaCWinnersOf
namespace Go.Proofs.Ytppahlkmemngeaa
open Go.RowKit
set_option linter.unusedVariables false

theorem cell_words (wn hn dn gb off n : Nat) (bs : List Nat) (x y : Nat) (U : World) (hl : Lies U gb off bs) (hlen : bs.length = n) (hv : VVol wn hn dn n) (hx : x < wn) (hy : y < hn) :
    ∀ i, i < dn → U.cell? ⟨gb, off + cellN wn (x : Int) (y : Int) * dn + i, none⟩ = some (fl (bs.getD (cellN wn (x : Int) (y : Int) * dn + i) 0)) := by
  intro i hi
  have hkn := cell_k hv (⟨by omega, by omega⟩ : 0 ≤ (x : Int) ∧ (x : Int) ≤ (wn : Int) - 1) (⟨by omega, by omega⟩ : 0 ≤ (y : Int) ∧ (y : Int) ≤ (hn : Int) - 1)
  have := hl (cellN wn (x : Int) (y : Int) * dn + i) (by omega)
  rw [← Nat.add_assoc] at this
  exact this
theorem winnersOf1_any (gb off n c : Nat) (F : Nat → Nat) (U : World) (hn : n ≤ 8) (hl : ∀ i, i < n → U.cell? ⟨gb, off + i, none⟩ = some (fl (F i))) :
    Calls Try.prog 85 #[.slice (some ⟨gb, off, none⟩) n c] U fun e U' => e = .returned (.float .f32 (floatOfInt .f32 (winTo F (-1) n))) ∧ U = U' := by
  have HW := Lib.hid (winner_any gb off n c F (-1) U hn hl)
  clear hl
  go_enter Try.func85, Try.ntmps85
  go_wp2_with fail
  refine HW.out.mono ?_
  rintro e w1 ⟨rfl, rfl⟩
  go_wp2
  go_ret
  exact ⟨rfl, rfl⟩
theorem implWinnersOf_of (z0 z1 z2 : Int) (A0 : Option Addr) (n0 m0 : Nat) (o0 o1 : Int) (ok : Bool) (L : List Nat) (U : World)
    (hcall : ∀ w0, Ext U w0 → Calls Try.prog 84 #[.agg #[.int .i64 z0, .int .i64 z1, .int .i64 z2, .slice A0 n0 m0], .func (.func 85) #[] #[]] w0 fun e U' => ∃ A c' b, e = .returned (.tuple #[.agg #[.int .i64 o0, .int .i64 o1, .slice A b.length c'], .bool ok]) ∧ OwnF U' w0.heap.size 25 (.slice A b.length c') b ∧ b.map nrm = L ∧ Ext w0 U') :
    Calls Try.prog 44 #[.agg #[.int .i64 z0, .int .i64 z1, .int .i64 z2, .slice A0 n0 m0]] U fun e U' => ∃ A c' b, e = .returned (.tuple #[.agg #[.int .i64 o0, .int .i64 o1, .slice A b.length c'], .bool ok]) ∧ OwnF U' U.heap.size 25 (.slice A b.length c') b ∧ b.map nrm = L ∧ Ext U U' := by
  have HK := Lib.hid hcall
  clear hcall
  go_enter Try.func44, Try.ntmps44
  go_wp2_with fail
  refine calls_at (X := fun w' => Ext U w' ∧ Res3 w' (U.heap.size + 1) ∧ U.heap.size + 1 + 1 ≤ w'.heap.size) ⟨((Ext.refl _).alloc _).alloc _, ⟨by simp [go_sem], by simp [go_sem], by simp [go_sem], by simp [go_sem], by simp [go_sem], by simp [go_sem]⟩, by simp⟩ ?_
  rintro w0 ⟨hx0, hr0, hs0⟩
  refine (HK.out w0 hx0).mono ?_
  rintro e w1 ⟨A, c', b, rfl, ho, hm, hx⟩
  have ⟨c0, c1, c2, f0, f1, f2⟩ := hr0.ext hx
  have hE2 := hx0.trans hx
  clear hx hx0 hr0
  go_wp2
  refine bodyPost_ret (v := .tuple #[.agg #[.int .i64 o0, .int .i64 o1, .slice A b.length c'], .bool ok]) (by simp [results, Try.results44, go_sem, *]) rfl ⟨A, c', b, rfl, ?_, hm, ?_⟩
  · refine OwnF.weaken (base := w0.heap.size) ?_ (by omega)
    repeat (first | (with_reducible exact ho) | (with_reducible refine OwnF.set_below ?_ (by dsimp only; omega) _))
  · repeat (first | (with_reducible exact hE2) | (with_reducible refine Ext.setCell ?_ (by dsimp only; omega) _))
theorem specWinnersOf_no (z0 z1 z2 : Int) (A0 : Option Addr) (n0 m0 : Nat)  (hn0 : n0 ≤ maxLen) (hv : ¬ VVol z0 z1 z2 n0) (U : World) :
    Calls Try.prog 43 #[.agg #[.int .i64 z0, .int .i64 z1, .int .i64 z2, .slice A0 n0 m0]] U fun e U' => ∃ A c' b, e = .returned (.tuple #[.agg #[.int .i64 0, .int .i64 0, .slice A b.length c'], .bool false]) ∧ OwnF U' U.heap.size 25 (.slice A b.length c') b ∧ b.map nrm = [] ∧ Ext U U' := by
  have HV := Lib.hid hv
  clear hv
  go_enter Try.func43, Try.ntmps43
  go_wp2_with fail
  refine calls_at (X := fun w' => Ext U w' ∧ Box4 w' U.heap.size (.int .i64 z0) (.int .i64 z1) (.int .i64 z2) (.slice A0 n0 m0) ∧ Res3 w' (U.heap.size + 1) ∧ U.heap.size + 1 + 1 ≤ w'.heap.size) ⟨((Ext.refl _).alloc _).alloc _, ⟨by simp [go_sem], by simp [go_sem], by simp [go_sem], by simp [go_sem]⟩, ⟨by simp [go_sem], by simp [go_sem], by simp [go_sem], by simp [go_sem], by simp [go_sem], by simp [go_sem]⟩, by simp⟩ ?_
  rintro w0 ⟨hx0, hb0, hr0, hs0⟩
  refine (l03Is_not _ _ _ _ A0 n0 m0 _ hn0 hb0.1 hb0.2.1 hb0.2.2.1 hb0.2.2.2 HV.out).mono ?_
  rintro e w1 ⟨rfl, hx⟩
  have ⟨c0, c1, c2, f0, f1, f2⟩ := hr0.ext hx
  have hE := hx0.trans hx
  clear hx hx0 hb0 hr0
  go_wp2
  refine bodyPost_ret (v := .tuple #[.agg #[.int .i64 0, .int .i64 0, .slice none 0 0], .bool false]) (by simp [results, Try.results43, go_sem, *]) rfl ⟨none, 0, [], rfl, OwnF.nil _ _ _, rfl, ?_⟩
  repeat (first | (with_reducible exact hE) | (with_reducible refine Ext.setCell ?_ (by dsimp only; omega) _))
theorem specWinnersOf_of (wn hn dn gb off n c : Nat) (o0 o1 : Int) (L : List Nat) (U : World) (hcm : c ≤ maxLen) (hnc : n ≤ c) (hv : VVol wn hn dn n)
    (hcall : ∀ w0, Ext U w0 → Box4 w0 U.heap.size (.int .i64 wn) (.int .i64 hn) (.int .i64 dn) (.slice (some ⟨gb, off, none⟩) n c) → Calls Try.prog 83 #[.pointer (some ⟨U.heap.size, 0, none⟩)] w0 fun e U' => ∃ A c' b, e = .returned (.agg #[.int .i64 o0, .int .i64 o1, .slice A b.length c']) ∧ OwnF U' w0.heap.size 25 (.slice A b.length c') b ∧ b.map nrm = L ∧ Ext w0 U') :
    Calls Try.prog 43 #[.agg #[.int .i64 wn, .int .i64 hn, .int .i64 dn, .slice (some ⟨gb, off, none⟩) n c]] U fun e U' => ∃ A c' b, e = .returned (.tuple #[.agg #[.int .i64 o0, .int .i64 o1, .slice A b.length c'], .bool true]) ∧ OwnF U' U.heap.size 25 (.slice A b.length c') b ∧ b.map nrm = L ∧ Ext U U' := by
  have HK := Lib.hid hcall
  have HV := Lib.hid hv
  clear hcall hv
  go_enter Try.func43, Try.ntmps43
  go_wp2_with fail
  refine calls_at (X := fun w' => Ext U w' ∧ Box4 w' U.heap.size (.int .i64 wn) (.int .i64 hn) (.int .i64 dn) (.slice (some ⟨gb, off, none⟩) n c) ∧ Res3 w' (U.heap.size + 1) ∧ U.heap.size + 1 + 1 ≤ w'.heap.size) ⟨((Ext.refl _).alloc _).alloc _, ⟨by simp [go_sem], by simp [go_sem], by simp [go_sem], by simp [go_sem]⟩, ⟨by simp [go_sem], by simp [go_sem], by simp [go_sem], by simp [go_sem], by simp [go_sem], by simp [go_sem]⟩, by simp⟩ ?_
  rintro w0 ⟨hx0, hb0, hr0, hs0⟩
  refine (l03Is_yes _ wn hn dn _ n c _ (Nat.le_trans hnc hcm) hb0.1 hb0.2.1 hb0.2.2.1 hb0.2.2.2 HV.out).mono ?_
  rintro e w1 ⟨rfl, hx⟩
  have hb1 := hb0.ext hx
  have hr1 := hr0.ext hx
  have hE := hx0.trans hx
  have hs1 := Nat.le_trans hs0 hx.size
  clear hx hx0 hb0 hr0 hs0
  go_wp2_with fail
  refine (HK.out w1 hE hb1).mono ?_
  rintro e w2 ⟨A, c', b, rfl, ho, hm, hx⟩
  have ⟨c0, c1, c2, f0, f1, f2⟩ := hr1.ext hx
  have hE2 := hE.trans hx
  clear hx hE hb1 hr1
  go_wp2
  refine bodyPost_ret (v := .tuple #[.agg #[.int .i64 o0, .int .i64 o1, .slice A b.length c'], .bool true]) (by simp [results, Try.results43, go_sem, *]) rfl ⟨A, c', b, rfl, ?_, hm, ?_⟩
  · refine OwnF.weaken (base := w1.heap.size) ?_ (by omega)
    repeat (first | (with_reducible exact ho) | (with_reducible refine OwnF.set_below ?_ (by dsimp only; omega) _))
  · repeat (first | (with_reducible exact hE2) | (with_reducible refine Ext.setCell ?_ (by dsimp only; omega) _))
set_option maxRecDepth 8000 in
theorem lawWinnersOf_any (W : World) (z0 z1 z2 : Int) (_ : -9223372036854775808 ≤ z0 ∧ z0 ≤ 9223372036854775807) (_ : -9223372036854775808 ≤ z1 ∧ z1 ≤ 9223372036854775807) (_ : -9223372036854775808 ≤ z2 ∧ z2 ≤ 9223372036854775807) (A : Option Addr) (n m : Nat) (bs : List Nat) (hc : n ≤ m) (hm : m ≤ maxLen) (hr : Reads W A n bs) (hw : Words bs) :
    Calls Try.prog 13 #[.agg #[.int .i64 z0, .int .i64 z1, .int .i64 z2, .slice A n m]] W fun e W' => e = .returned (.bool true) ∧ Ext W W' := by
  have hn : n ≤ maxLen := Nat.le_trans hc hm
  by_cases hv : VVol z0 z1 z2 n
  · obtain ⟨wn, rfl⟩ := Int.eq_ofNat_of_zero_le (show 0 ≤ z0 by have := hv.1.1; omega)
    obtain ⟨hn', rfl⟩ := Int.eq_ofNat_of_zero_le (show 0 ≤ z1 by have := hv.1.2.2.1; omega)
    obtain ⟨dn, rfl⟩ := Int.eq_ofNat_of_zero_le (show 0 ≤ z2 by have := hv.2.1; omega)
    obtain ⟨hnn, h0, hn2⟩ := vol_n hv
    refine lawWinnersOf_core W wn hn' dn A n m bs hn hr wn hn' ((List.range (wn * hn')).map (fun i => floatOfInt .f32 (winTo (fun e => bs.getD (i * dn + e) 0) (-1) dn))) (by simp; have := vol_wh hv; omega) true ?_ ?_
    · intro w D hd
      obtain ⟨gb, off, rfl, hl⟩ := hd.2 (by omega)
      exact specWinnersOf_of wn hn' dn gb off n n wn hn' _ w hn (Nat.le_refl _) hv (fun w0 hx0 hb0 => l03Winners_any w.heap.size wn hn' dn gb off n n bs w0 hb0 (hl.ext hx0) hd.1 hw (Nat.le_refl _) hn hv)
    · intro w D hd
      obtain ⟨gb, off, rfl, hl⟩ := hd.2 (by omega)
      refine implWinnersOf_of wn hn' dn _ n n wn hn' true _ w (fun w0 hx0 => ?_)
      refine (cellMap_yes wn hn' dn gb off n n 85 (fun (x y : Nat) => floatOfInt .f32 (winTo (fun e => bs.getD (cellN wn (x : Int) (y : Int) * dn + e) 0) (-1) dn)) w0 (Nat.le_refl _) hn hv (by kernel_rfl) (fun x y U' h1 h2 h3 => (winnersOf1_any gb _ dn dn (fun e => bs.getD (cellN wn (x : Int) (y : Int) * dn + e) 0) U' (by have := hv.2.2.1; omega) (cell_words wn hn' dn gb off n bs x y U' ((hl.ext hx0).ext h1) hd.1 hv h2 h3)).mono (by rintro e w2 ⟨rfl, rfl⟩; exact ⟨_, rfl, ⟨ofInt_lt _, nrm_of _ (isN_ofInt _)⟩, Ext.refl _⟩))).mono ?_
      rintro e w1 ⟨A1, c1, b1, rfl, ho, hm1, hx1⟩
      refine ⟨A1, c1, b1, rfl, ho, hm1.trans ?_, hx1⟩
      exact cells_flat (fun x y h1 h2 => by simp only [cellN_nat])

  · exact lawWinnersOf_core W z0 z1 z2 A n m bs hn hr 0 0 [] (by simp) false (fun w D hd => specWinnersOf_no z0 z1 z2 D n n hn hv w) (fun w D hd => implWinnersOf_of z0 z1 z2 D n n 0 0 false [] w (fun w0 hx0 => cellMap_no z0 z1 z2 D n n _ hn hv w0))
end Go.Proofs.Ytppahlkmemngeaa
