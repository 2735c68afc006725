/- The law on CropPicture holds. -/
import Derived.Test.YtcekofioiofjbaaOwn3
import Derived.Test.YtcekofioiofjbaaAcc2
import Derived.Test.YtcekofioiofjbaaCCropPicture
namespace Go.Proofs.Ytcekofioiofjbaa
open Go.RowKit
set_option linter.unusedVariables false

/-- A grey of the part. -/
def cropF (wn : Nat) (bs : List Nat) (xn yn u v : Nat) : Nat := nrm (bs.getD (cellN wn ((xn + u : Nat) : Int) ((yn + v : Nat) : Int)) 0)
theorem crop_sz {wn hn ww hh n : Nat} (hv : VMap wn hn n) (h1w : 1 ≤ ww) (h1h : 1 ≤ hh) (hw : ww ≤ wn) (hh' : hh ≤ hn) : Sz ww hh ∧ ww * hh ≤ 256 := by
  have h1 := hv.1.2.1
  have h2 := hv.1.2.2.2.1
  have h3 := hv.1.2.2.2.2
  have h4 : ww * hh ≤ wn * hn := Nat.mul_le_mul hw hh'
  have h5 : ((wn * hn : Nat) : Int) = (wn : Int) * (hn : Int) := by simp
  have h6 : ((ww * hh : Nat) : Int) = (ww : Int) * (hh : Int) := by simp
  exact ⟨⟨by omega, by omega, by omega, by omega, by omega⟩, by omega⟩
set_option maxHeartbeats 1000000 in
theorem crop1_any (wn hn gb off n c : Nat) (bs : List Nat) (gv gx gy xn yn : Nat) (u v : Nat) (U : World) (hB : Box3 U gv (.int .i64 wn) (.int .i64 hn) (.slice (some ⟨gb, off, none⟩) n c)) (hl : Lies U gb off bs) (hlen : bs.length = n) (hwd : Words bs) (hv : VMap wn hn n)
    (hcx : U.cell? ⟨gx, 0, none⟩ = some (.int .i64 xn)) (hcy : U.cell? ⟨gy, 0, none⟩ = some (.int .i64 yn)) (hu : xn + u < wn) (hvv : yn + v < hn) :
    Calls Try.prog 100 #[.int .i64 u, .int .i64 v, .pointer (some ⟨gv, 0, none⟩), .pointer (some ⟨gx, 0, none⟩), .pointer (some ⟨gy, 0, none⟩)] U fun e' U' => ∃ r, e' = .returned (.float .f32 r) ∧ Is r (cropF wn bs xn yn u v) ∧ Ext U U' := by
  have h1 := hv.1.2.1
  have h2 := hv.1.2.2.2.1
  unfold cropF
  obtain ⟨a, ha⟩ : ∃ a, xn + u = a := ⟨_, rfl⟩
  obtain ⟨b, hb⟩ : ∃ b, yn + v = b := ⟨_, rfl⟩
  rw [ha, hb]
  have hw1 : IntKind.i64.wrap ((xn : Int) + (u : Int)) = (a : Int) := by rw [show (xn : Int) + (u : Int) = (a : Int) by omega]; exact wrap_small _ (by omega) (by omega)
  have hw2 : IntKind.i64.wrap ((yn : Int) + (v : Int)) = (b : Int) := by rw [show (yn : Int) + (v : Int) = (b : Int) by omega]; exact wrap_small _ (by omega) (by omega)
  have hab := fun (W : World) (hx' : Ext U W) => about_any gv wn hn (some ⟨gb, off, none⟩) n c bs (a : Int) (b : Int) W (hB.ext hx') ⟨hlen, fun _ => ⟨gb, off, rfl, hl.ext hx'⟩⟩ hv
  rw [clampI_in (show (0 : Int) ≤ (a : Int) by omega) (show (a : Int) ≤ (wn : Int) - 1 by omega), clampI_in (show (0 : Int) ≤ (b : Int) by omega) (show (b : Int) ≤ (hn : Int) - 1 by omega)] at hab
  have hw := wd_at hwd (cellN wn (a : Int) (b : Int))
  generalize bs.getD (cellN wn (a : Int) (b : Int)) 0 = q at hab hw ⊢
  have HA := Lib.hid hab
  clear hab hl hlen hwd hv hB ha hb
  go_enter Try.func100, Try.ntmps100
  go_wp2_with fail
  refine (HA.out _ (Ext.refl _)).mono ?_
  rintro e w1 ⟨rfl, hx⟩
  go_wp2
  go_ret
  exact ⟨_, rfl, ⟨hw, rfl⟩, hx⟩
theorem implCropPicture_no1 (z0 z1 : Int) (A0 : Option Addr) (n0 m0 : Nat) (x y wi hi : Int) (hn0 : n0 ≤ maxLen) (hv : ¬ VMap z0 z1 n0) (U : World) :
    Calls Try.prog 50 #[.agg #[.int .i64 z0, .int .i64 z1, .slice A0 n0 m0], .int .i64 x, .int .i64 y, .int .i64 wi, .int .i64 hi] U fun e U' => ∃ A c' b, e = .returned (.tuple #[.agg #[.int .i64 0, .int .i64 0, .slice A b.length c'], .bool false]) ∧ OwnF U' U.heap.size 37 (.slice A b.length c') b ∧ b.map nrm = [] ∧ Ext U U' := by
  have HV := Lib.hid hv
  clear hv
  go_enter Try.func50, Try.ntmps50
  go_wp2_with fail
  refine calls_at (X := fun w' => Ext U w' ∧ Box3 w' U.heap.size (.int .i64 z0) (.int .i64 z1) (.slice A0 n0 m0) ∧ w'.cell? ⟨U.heap.size + 1, 0, none⟩ = some (.int .i64 x) ∧ w'.cell? ⟨U.heap.size + 1 + 1, 0, none⟩ = some (.int .i64 y) ∧ Res3 w' (U.heap.size + 1 + 1 + 1) ∧ U.heap.size + 1 + 1 + 1 + 1 ≤ w'.heap.size) ⟨((((Ext.refl _).alloc _).alloc _).alloc _).alloc _, ⟨by simp [go_sem], by simp [go_sem], by simp [go_sem]⟩, by simp [go_sem], by simp [go_sem], ⟨by simp [go_sem], by simp [go_sem], by simp [go_sem], by simp [go_sem], by simp [go_sem], by simp [go_sem]⟩, by simp⟩ ?_
  rintro w0 ⟨hx0, hb0, hx1, hy1, hr0, hs0⟩
  refine (ValidPicture_not z0 z1 A0 n0 m0 _ hn0 HV.out).mono ?_
  rintro e w1 ⟨rfl, hx⟩
  have ⟨c0, c1, c2, f0, f1, f2⟩ := hr0.ext hx
  have hE := hx0.trans hx
  clear hx hx0 hb0 hr0 hx1 hy1
  go_wp2
  refine bodyPost_ret (v := .tuple #[.agg #[.int .i64 0, .int .i64 0, .slice none 0 0], .bool false]) (by simp [results, Try.results50, go_sem, *]) rfl ⟨none, 0, [], rfl, OwnF.nil _ _ _, rfl, ?_⟩
  repeat (first | (with_reducible exact hE) | (with_reducible refine Ext.setCell ?_ (by dsimp only; omega) _))
theorem implCropPicture_no2 (z0 z1 : Int) (A0 : Option Addr) (n0 m0 : Nat) (x y wi hi : Int) (hn0 : n0 ≤ maxLen) (hv : VMap z0 z1 n0) (hs : ¬ Sz wi hi) (U : World) :
    Calls Try.prog 50 #[.agg #[.int .i64 z0, .int .i64 z1, .slice A0 n0 m0], .int .i64 x, .int .i64 y, .int .i64 wi, .int .i64 hi] U fun e U' => ∃ A c' b, e = .returned (.tuple #[.agg #[.int .i64 0, .int .i64 0, .slice A b.length c'], .bool false]) ∧ OwnF U' U.heap.size 37 (.slice A b.length c') b ∧ b.map nrm = [] ∧ Ext U U' := by
  have HV := Lib.hid hv
  have HSS := Lib.hid hs
  clear hv hs
  go_enter Try.func50, Try.ntmps50
  go_wp2_with fail
  refine calls_at (X := fun w' => Ext U w' ∧ Box3 w' U.heap.size (.int .i64 z0) (.int .i64 z1) (.slice A0 n0 m0) ∧ w'.cell? ⟨U.heap.size + 1, 0, none⟩ = some (.int .i64 x) ∧ w'.cell? ⟨U.heap.size + 1 + 1, 0, none⟩ = some (.int .i64 y) ∧ Res3 w' (U.heap.size + 1 + 1 + 1) ∧ U.heap.size + 1 + 1 + 1 + 1 ≤ w'.heap.size) ⟨((((Ext.refl _).alloc _).alloc _).alloc _).alloc _, ⟨by simp [go_sem], by simp [go_sem], by simp [go_sem]⟩, by simp [go_sem], by simp [go_sem], ⟨by simp [go_sem], by simp [go_sem], by simp [go_sem], by simp [go_sem], by simp [go_sem], by simp [go_sem]⟩, by simp⟩ ?_
  rintro w0 ⟨hx0, hb0, hx1, hy1, hr0, hs0⟩
  refine (ValidPicture_yes z0 z1 A0 n0 m0 _ hn0 HV.out).mono ?_
  rintro e w1 ⟨rfl, hx⟩
  have ⟨c0, c1, c2, f0, f1, f2⟩ := hr0.ext hx
  have ⟨p0, p1, p2⟩ := hb0.ext hx
  have hx2 := cell_ext hx1 hx; have hy2 := cell_ext hy1 hx
  have hE := hx0.trans hx
  clear hx hx0 hb0 hr0 hx1 hy1
  go_wp2_with (go_at_call 98; with_reducible refine (sizeOk_no _ _ _ HSS.out).mono ?_; rintro e w' ⟨rfl, rfl⟩)
  refine bodyPost_ret (v := .tuple #[.agg #[.int .i64 0, .int .i64 0, .slice none 0 0], .bool false]) (by simp [results, Try.results50, go_sem, *]) rfl ⟨none, 0, [], rfl, OwnF.nil _ _ _, rfl, ?_⟩
  repeat (first | (with_reducible exact hE) | (with_reducible refine Ext.setCell ?_ (by dsimp only; omega) _))
theorem implCropPicture_no3 (z0 z1 : Int) (A0 : Option Addr) (n0 m0 : Nat) (x y wi hi : Int) (hn0 : n0 ≤ maxLen) (hv : VMap z0 z1 n0) (hs : Sz wi hi) (hxy : ¬ ((0 ≤ x ∧ x ≤ z0 - 1) ∧ 0 ≤ y ∧ y ≤ z1 - 1)) (U : World) :
    Calls Try.prog 50 #[.agg #[.int .i64 z0, .int .i64 z1, .slice A0 n0 m0], .int .i64 x, .int .i64 y, .int .i64 wi, .int .i64 hi] U fun e U' => ∃ A c' b, e = .returned (.tuple #[.agg #[.int .i64 0, .int .i64 0, .slice A b.length c'], .bool false]) ∧ OwnF U' U.heap.size 37 (.slice A b.length c') b ∧ b.map nrm = [] ∧ Ext U U' := by
  have HV := Lib.hid hv
  have HSS := Lib.hid hs
  have HXY := Lib.hid hxy
  have HSz := Lib.hid hv.1
  clear hv hs hxy
  go_enter Try.func50, Try.ntmps50
  go_wp2_with fail
  refine calls_at (X := fun w' => Ext U w' ∧ Box3 w' U.heap.size (.int .i64 z0) (.int .i64 z1) (.slice A0 n0 m0) ∧ w'.cell? ⟨U.heap.size + 1, 0, none⟩ = some (.int .i64 x) ∧ w'.cell? ⟨U.heap.size + 1 + 1, 0, none⟩ = some (.int .i64 y) ∧ Res3 w' (U.heap.size + 1 + 1 + 1) ∧ U.heap.size + 1 + 1 + 1 + 1 ≤ w'.heap.size) ⟨((((Ext.refl _).alloc _).alloc _).alloc _).alloc _, ⟨by simp [go_sem], by simp [go_sem], by simp [go_sem]⟩, by simp [go_sem], by simp [go_sem], ⟨by simp [go_sem], by simp [go_sem], by simp [go_sem], by simp [go_sem], by simp [go_sem], by simp [go_sem]⟩, by simp⟩ ?_
  rintro w0 ⟨hx0, hb0, hx1, hy1, hr0, hs0⟩
  refine (ValidPicture_yes z0 z1 A0 n0 m0 _ hn0 HV.out).mono ?_
  rintro e w1 ⟨rfl, hx⟩
  have ⟨c0, c1, c2, f0, f1, f2⟩ := hr0.ext hx
  have ⟨p0, p1, p2⟩ := hb0.ext hx
  have hx2 := cell_ext hx1 hx; have hy2 := cell_ext hy1 hx
  have hE := hx0.trans hx
  clear hx hx0 hb0 hr0 hx1 hy1
  go_wp2_with (first | (go_at_call 98; with_reducible refine (sizeOk_yes _ _ _ HSS.out).mono ?_; rintro e w' ⟨rfl, rfl⟩) | (go_at_call 90; with_reducible refine (picHas_no _ z0 z1 x y _ p0 p1 HSz.out HXY.out).mono ?_; rintro e w' ⟨rfl, rfl⟩))
  refine bodyPost_ret (v := .tuple #[.agg #[.int .i64 0, .int .i64 0, .slice none 0 0], .bool false]) (by simp [results, Try.results50, go_sem, *]) rfl ⟨none, 0, [], rfl, OwnF.nil _ _ _, rfl, ?_⟩
  repeat (first | (with_reducible exact hE) | (with_reducible refine Ext.setCell ?_ (by dsimp only; omega) _))
theorem implCropPicture_no4 (z0 z1 : Int) (A0 : Option Addr) (n0 m0 : Nat) (x y wi hi : Int) (hn0 : n0 ≤ maxLen) (hv : VMap z0 z1 n0) (hs : Sz wi hi) (hxy : ((0 ≤ x ∧ x ≤ z0 - 1) ∧ 0 ≤ y ∧ y ≤ z1 - 1)) (hno : ¬ ((0 ≤ x + wi - 1 ∧ x + wi - 1 ≤ z0 - 1) ∧ 0 ≤ y + hi - 1 ∧ y + hi - 1 ≤ z1 - 1)) (U : World) :
    Calls Try.prog 50 #[.agg #[.int .i64 z0, .int .i64 z1, .slice A0 n0 m0], .int .i64 x, .int .i64 y, .int .i64 wi, .int .i64 hi] U fun e U' => ∃ A c' b, e = .returned (.tuple #[.agg #[.int .i64 0, .int .i64 0, .slice A b.length c'], .bool false]) ∧ OwnF U' U.heap.size 37 (.slice A b.length c') b ∧ b.map nrm = [] ∧ Ext U U' := by
  have HV := Lib.hid hv
  have hq1 : 1 ≤ z0 ∧ z0 ≤ 24 ∧ 1 ≤ z1 ∧ z1 ≤ 24 := ⟨hv.1.1, hv.1.2.1, hv.1.2.2.1, hv.1.2.2.2.1⟩
  have hq2 : 1 ≤ wi ∧ wi ≤ 24 ∧ 1 ≤ hi ∧ hi ≤ 24 := ⟨hs.1, hs.2.1, hs.2.2.1, hs.2.2.2.1⟩
  have hw1 : IntKind.i64.wrap (x + wi) = x + wi := wrap_small _ (by omega) (by omega)
  have hw2 : IntKind.i64.wrap (x + wi - 1) = x + wi - 1 := wrap_small _ (by omega) (by omega)
  have hw3 : IntKind.i64.wrap (y + hi) = y + hi := wrap_small _ (by omega) (by omega)
  have hw4 : IntKind.i64.wrap (y + hi - 1) = y + hi - 1 := wrap_small _ (by omega) (by omega)
  have HSS := Lib.hid hs
  have HXY := Lib.hid hxy
  have HN := Lib.hid hno
  have HSz := Lib.hid hv.1
  clear hv hs hxy hno hq1 hq2
  go_enter Try.func50, Try.ntmps50
  go_wp2_with fail
  refine calls_at (X := fun w' => Ext U w' ∧ Box3 w' U.heap.size (.int .i64 z0) (.int .i64 z1) (.slice A0 n0 m0) ∧ w'.cell? ⟨U.heap.size + 1, 0, none⟩ = some (.int .i64 x) ∧ w'.cell? ⟨U.heap.size + 1 + 1, 0, none⟩ = some (.int .i64 y) ∧ Res3 w' (U.heap.size + 1 + 1 + 1) ∧ U.heap.size + 1 + 1 + 1 + 1 ≤ w'.heap.size) ⟨((((Ext.refl _).alloc _).alloc _).alloc _).alloc _, ⟨by simp [go_sem], by simp [go_sem], by simp [go_sem]⟩, by simp [go_sem], by simp [go_sem], ⟨by simp [go_sem], by simp [go_sem], by simp [go_sem], by simp [go_sem], by simp [go_sem], by simp [go_sem]⟩, by simp⟩ ?_
  rintro w0 ⟨hx0, hb0, hx1, hy1, hr0, hs0⟩
  refine (ValidPicture_yes z0 z1 A0 n0 m0 _ hn0 HV.out).mono ?_
  rintro e w1 ⟨rfl, hx⟩
  have ⟨c0, c1, c2, f0, f1, f2⟩ := hr0.ext hx
  have ⟨p0, p1, p2⟩ := hb0.ext hx
  have hx2 := cell_ext hx1 hx; have hy2 := cell_ext hy1 hx
  have hE := hx0.trans hx
  clear hx hx0 hb0 hr0 hx1 hy1
  go_wp2_with (first | (go_at_call 98; with_reducible refine (sizeOk_yes _ _ _ HSS.out).mono ?_; rintro e w' ⟨rfl, rfl⟩) | (go_at_call 90; with_reducible refine (picHas_yes _ z0 z1 x y _ p0 p1 HSz.out HXY.out.1 HXY.out.2).mono ?_; rintro e w' ⟨rfl, rfl⟩) | (go_at_call 90; with_reducible refine (picHas_no _ z0 z1 (x + wi - 1) (y + hi - 1) _ p0 p1 HSz.out HN.out).mono ?_; rintro e w' ⟨rfl, rfl⟩))
  refine bodyPost_ret (v := .tuple #[.agg #[.int .i64 0, .int .i64 0, .slice none 0 0], .bool false]) (by simp [results, Try.results50, go_sem, *]) rfl ⟨none, 0, [], rfl, OwnF.nil _ _ _, rfl, ?_⟩
  repeat (first | (with_reducible exact hE) | (with_reducible refine Ext.setCell ?_ (by dsimp only; omega) _))
theorem implCropPicture_no (z0 z1 : Int) (A0 : Option Addr) (n0 m0 : Nat) (x y wi hi : Int) (hn0 : n0 ≤ maxLen) (hv : ¬ (VMap z0 z1 n0 ∧ ((0 ≤ x ∧ x ≤ z0 - 1) ∧ 0 ≤ y ∧ y ≤ z1 - 1) ∧ (1 ≤ wi ∧ wi ≤ z0 - x) ∧ 1 ≤ hi ∧ hi ≤ z1 - y)) (U : World) :
    Calls Try.prog 50 #[.agg #[.int .i64 z0, .int .i64 z1, .slice A0 n0 m0], .int .i64 x, .int .i64 y, .int .i64 wi, .int .i64 hi] U fun e U' => ∃ A c' b, e = .returned (.tuple #[.agg #[.int .i64 0, .int .i64 0, .slice A b.length c'], .bool false]) ∧ OwnF U' U.heap.size 37 (.slice A b.length c') b ∧ b.map nrm = [] ∧ Ext U U' := by
  by_cases h : VMap z0 z1 n0
  · by_cases hs : Sz wi hi
    · by_cases hxy : ((0 ≤ x ∧ x ≤ z0 - 1) ∧ 0 ≤ y ∧ y ≤ z1 - 1)
      · refine implCropPicture_no4 z0 z1 A0 n0 m0 x y wi hi hn0 h hs hxy (fun h2 => hv ⟨h, hxy, ?_, ?_⟩) U
        · have := hs.1; omega
        · have := hs.2.2.1; omega
      · exact implCropPicture_no3 z0 z1 A0 n0 m0 x y wi hi hn0 h hs hxy U
    · exact implCropPicture_no2 z0 z1 A0 n0 m0 x y wi hi hn0 h hs U
  · exact implCropPicture_no1 z0 z1 A0 n0 m0 x y wi hi hn0 h U
theorem specCropPicture_no1 (z0 z1 : Int) (A0 : Option Addr) (n0 m0 : Nat) (x y wi hi : Int) (hn0 : n0 ≤ maxLen) (hv : ¬ VMap z0 z1 n0) (U : World) :
    Calls Try.prog 49 #[.agg #[.int .i64 z0, .int .i64 z1, .slice A0 n0 m0], .int .i64 x, .int .i64 y, .int .i64 wi, .int .i64 hi] U fun e U' => ∃ A c' b, e = .returned (.tuple #[.agg #[.int .i64 0, .int .i64 0, .slice A b.length c'], .bool false]) ∧ OwnF U' U.heap.size 37 (.slice A b.length c') b ∧ b.map nrm = [] ∧ Ext U U' := by
  have HV := Lib.hid hv
  clear hv
  go_enter Try.func49, Try.ntmps49
  go_wp2_with fail
  refine calls_at (X := fun w' => Ext U w' ∧ Box3 w' U.heap.size (.int .i64 z0) (.int .i64 z1) (.slice A0 n0 m0) ∧ Res3 w' (U.heap.size + 1) ∧ U.heap.size + 1 + 1 ≤ w'.heap.size) ⟨((Ext.refl _).alloc _).alloc _, ⟨by simp [go_sem], by simp [go_sem], by simp [go_sem]⟩, ⟨by simp [go_sem], by simp [go_sem], by simp [go_sem], by simp [go_sem], by simp [go_sem], by simp [go_sem]⟩, by simp⟩ ?_
  rintro w0 ⟨hx0, hb0, hr0, hs0⟩
  refine (l02Is_not _ z0 z1 A0 n0 m0 _ hn0 hb0.1 hb0.2.1 hb0.2.2 HV.out).mono ?_
  rintro e w1 ⟨rfl, hx⟩
  have ⟨c0, c1, c2, f0, f1, f2⟩ := hr0.ext hx
  have hE := hx0.trans hx
  clear hx hx0 hb0 hr0
  go_wp2
  refine bodyPost_ret (v := .tuple #[.agg #[.int .i64 0, .int .i64 0, .slice none 0 0], .bool false]) (by simp [results, Try.results49, go_sem, *]) rfl ⟨none, 0, [], rfl, OwnF.nil _ _ _, rfl, ?_⟩
  repeat (first | (with_reducible exact hE) | (with_reducible refine Ext.setCell ?_ (by dsimp only; omega) _))
theorem specCropPicture_no2 (z0 z1 : Int) (A0 : Option Addr) (n0 m0 : Nat) (x y wi hi : Int) (hn0 : n0 ≤ maxLen) (hv : VMap z0 z1 n0) (hxy : ¬ ((0 ≤ x ∧ x ≤ z0 - 1) ∧ 0 ≤ y ∧ y ≤ z1 - 1)) (U : World) :
    Calls Try.prog 49 #[.agg #[.int .i64 z0, .int .i64 z1, .slice A0 n0 m0], .int .i64 x, .int .i64 y, .int .i64 wi, .int .i64 hi] U fun e U' => ∃ A c' b, e = .returned (.tuple #[.agg #[.int .i64 0, .int .i64 0, .slice A b.length c'], .bool false]) ∧ OwnF U' U.heap.size 37 (.slice A b.length c') b ∧ b.map nrm = [] ∧ Ext U U' := by
  have HV := Lib.hid hv
  have HXY := Lib.hid hxy
  have HSz := Lib.hid hv.1
  clear hv hxy
  go_enter Try.func49, Try.ntmps49
  go_wp2_with fail
  refine calls_at (X := fun w' => Ext U w' ∧ Box3 w' U.heap.size (.int .i64 z0) (.int .i64 z1) (.slice A0 n0 m0) ∧ Res3 w' (U.heap.size + 1) ∧ U.heap.size + 1 + 1 ≤ w'.heap.size) ⟨((Ext.refl _).alloc _).alloc _, ⟨by simp [go_sem], by simp [go_sem], by simp [go_sem]⟩, ⟨by simp [go_sem], by simp [go_sem], by simp [go_sem], by simp [go_sem], by simp [go_sem], by simp [go_sem]⟩, by simp⟩ ?_
  rintro w0 ⟨hx0, hb0, hr0, hs0⟩
  refine (l02Is_yes _ z0 z1 A0 n0 m0 _ hn0 hb0.1 hb0.2.1 hb0.2.2 HV.out).mono ?_
  rintro e w1 ⟨rfl, hx⟩
  have ⟨c0, c1, c2, f0, f1, f2⟩ := hr0.ext hx
  have ⟨p0, p1, p2⟩ := hb0.ext hx
  skip
  have hE := hx0.trans hx
  clear hx hx0 hb0 hr0
  go_wp2_with (go_at_call 87; with_reducible refine (l02Cell_no _ z0 z1 x y _ p0 p1 HSz.out HXY.out).mono ?_; rintro e w' ⟨rfl, rfl⟩)
  refine bodyPost_ret (v := .tuple #[.agg #[.int .i64 0, .int .i64 0, .slice none 0 0], .bool false]) (by simp [results, Try.results49, go_sem, *]) rfl ⟨none, 0, [], rfl, OwnF.nil _ _ _, rfl, ?_⟩
  repeat (first | (with_reducible exact hE) | (with_reducible refine Ext.setCell ?_ (by dsimp only; omega) _))
theorem specCropPicture_no3 (z0 z1 : Int) (A0 : Option Addr) (n0 m0 : Nat) (x y wi hi : Int) (hn0 : n0 ≤ maxLen) (hv : VMap z0 z1 n0) (hxy : ((0 ≤ x ∧ x ≤ z0 - 1) ∧ 0 ≤ y ∧ y ≤ z1 - 1)) (hwi : wi < 1 ∨ z0 - x < wi) (U : World) :
    Calls Try.prog 49 #[.agg #[.int .i64 z0, .int .i64 z1, .slice A0 n0 m0], .int .i64 x, .int .i64 y, .int .i64 wi, .int .i64 hi] U fun e U' => ∃ A c' b, e = .returned (.tuple #[.agg #[.int .i64 0, .int .i64 0, .slice A b.length c'], .bool false]) ∧ OwnF U' U.heap.size 37 (.slice A b.length c') b ∧ b.map nrm = [] ∧ Ext U U' := by
  have HV := Lib.hid hv
  have hq1 : 1 ≤ z0 ∧ z0 ≤ 24 ∧ 1 ≤ z1 ∧ z1 ≤ 24 := ⟨hv.1.1, hv.1.2.1, hv.1.2.2.1, hv.1.2.2.2.1⟩
  have hw1 : IntKind.i64.wrap (z0 - x) = z0 - x := wrap_small _ (by omega) (by omega)
  have hw2 : IntKind.i64.wrap (z1 - y) = z1 - y := wrap_small _ (by omega) (by omega)
  have HXY := Lib.hid hxy
  have HSz := Lib.hid hv.1
  have HWI := Lib.hid hwi
  clear hv hxy hwi hq1
  go_enter Try.func49, Try.ntmps49
  go_wp2_with fail
  refine calls_at (X := fun w' => Ext U w' ∧ Box3 w' U.heap.size (.int .i64 z0) (.int .i64 z1) (.slice A0 n0 m0) ∧ Res3 w' (U.heap.size + 1) ∧ U.heap.size + 1 + 1 ≤ w'.heap.size) ⟨((Ext.refl _).alloc _).alloc _, ⟨by simp [go_sem], by simp [go_sem], by simp [go_sem]⟩, ⟨by simp [go_sem], by simp [go_sem], by simp [go_sem], by simp [go_sem], by simp [go_sem], by simp [go_sem]⟩, by simp⟩ ?_
  rintro w0 ⟨hx0, hb0, hr0, hs0⟩
  refine (l02Is_yes _ z0 z1 A0 n0 m0 _ hn0 hb0.1 hb0.2.1 hb0.2.2 HV.out).mono ?_
  rintro e w1 ⟨rfl, hx⟩
  have ⟨c0, c1, c2, f0, f1, f2⟩ := hr0.ext hx
  have ⟨p0, p1, p2⟩ := hb0.ext hx
  skip
  have hE := hx0.trans hx
  clear hx hx0 hb0 hr0
  go_wp2_with (first | (go_at_call 87; with_reducible refine (l02Cell_yes _ z0 z1 x y _ p0 p1 HSz.out HXY.out.1 HXY.out.2).mono ?_; rintro e w' ⟨rfl, rfl⟩) | (go_at_call 60; with_reducible refine (l00In_no wi 1 (z0 - x) _ HWI.out).mono ?_; rintro e w' ⟨rfl, rfl⟩))
  refine bodyPost_ret (v := .tuple #[.agg #[.int .i64 0, .int .i64 0, .slice none 0 0], .bool false]) (by simp [results, Try.results49, go_sem, *]) rfl ⟨none, 0, [], rfl, OwnF.nil _ _ _, rfl, ?_⟩
  repeat (first | (with_reducible exact hE) | (with_reducible refine Ext.setCell ?_ (by dsimp only; omega) _))
theorem specCropPicture_no4 (z0 z1 : Int) (A0 : Option Addr) (n0 m0 : Nat) (x y wi hi : Int) (hn0 : n0 ≤ maxLen) (hv : VMap z0 z1 n0) (hxy : ((0 ≤ x ∧ x ≤ z0 - 1) ∧ 0 ≤ y ∧ y ≤ z1 - 1)) (hwi : 1 ≤ wi ∧ wi ≤ z0 - x) (hhi : hi < 1 ∨ z1 - y < hi) (U : World) :
    Calls Try.prog 49 #[.agg #[.int .i64 z0, .int .i64 z1, .slice A0 n0 m0], .int .i64 x, .int .i64 y, .int .i64 wi, .int .i64 hi] U fun e U' => ∃ A c' b, e = .returned (.tuple #[.agg #[.int .i64 0, .int .i64 0, .slice A b.length c'], .bool false]) ∧ OwnF U' U.heap.size 37 (.slice A b.length c') b ∧ b.map nrm = [] ∧ Ext U U' := by
  have HV := Lib.hid hv
  have hq1 : 1 ≤ z0 ∧ z0 ≤ 24 ∧ 1 ≤ z1 ∧ z1 ≤ 24 := ⟨hv.1.1, hv.1.2.1, hv.1.2.2.1, hv.1.2.2.2.1⟩
  have hw1 : IntKind.i64.wrap (z0 - x) = z0 - x := wrap_small _ (by omega) (by omega)
  have hw2 : IntKind.i64.wrap (z1 - y) = z1 - y := wrap_small _ (by omega) (by omega)
  have HXY := Lib.hid hxy
  have HSz := Lib.hid hv.1
  have HWI := Lib.hid hwi
  have HHI := Lib.hid hhi
  clear hv hxy hwi hhi hq1
  go_enter Try.func49, Try.ntmps49
  go_wp2_with fail
  refine calls_at (X := fun w' => Ext U w' ∧ Box3 w' U.heap.size (.int .i64 z0) (.int .i64 z1) (.slice A0 n0 m0) ∧ Res3 w' (U.heap.size + 1) ∧ U.heap.size + 1 + 1 ≤ w'.heap.size) ⟨((Ext.refl _).alloc _).alloc _, ⟨by simp [go_sem], by simp [go_sem], by simp [go_sem]⟩, ⟨by simp [go_sem], by simp [go_sem], by simp [go_sem], by simp [go_sem], by simp [go_sem], by simp [go_sem]⟩, by simp⟩ ?_
  rintro w0 ⟨hx0, hb0, hr0, hs0⟩
  refine (l02Is_yes _ z0 z1 A0 n0 m0 _ hn0 hb0.1 hb0.2.1 hb0.2.2 HV.out).mono ?_
  rintro e w1 ⟨rfl, hx⟩
  have ⟨c0, c1, c2, f0, f1, f2⟩ := hr0.ext hx
  have ⟨p0, p1, p2⟩ := hb0.ext hx
  skip
  have hE := hx0.trans hx
  clear hx hx0 hb0 hr0
  go_wp2_with (first | (go_at_call 87; with_reducible refine (l02Cell_yes _ z0 z1 x y _ p0 p1 HSz.out HXY.out.1 HXY.out.2).mono ?_; rintro e w' ⟨rfl, rfl⟩) | (go_at_call 60; with_reducible refine (l00In_yes wi 1 (z0 - x) _ HWI.out.1 HWI.out.2).mono ?_; rintro e w' ⟨rfl, rfl⟩) | (go_at_call 60; with_reducible refine (l00In_no hi 1 (z1 - y) _ HHI.out).mono ?_; rintro e w' ⟨rfl, rfl⟩))
  refine bodyPost_ret (v := .tuple #[.agg #[.int .i64 0, .int .i64 0, .slice none 0 0], .bool false]) (by simp [results, Try.results49, go_sem, *]) rfl ⟨none, 0, [], rfl, OwnF.nil _ _ _, rfl, ?_⟩
  repeat (first | (with_reducible exact hE) | (with_reducible refine Ext.setCell ?_ (by dsimp only; omega) _))
theorem specCropPicture_no (z0 z1 : Int) (A0 : Option Addr) (n0 m0 : Nat) (x y wi hi : Int) (hn0 : n0 ≤ maxLen) (hv : ¬ (VMap z0 z1 n0 ∧ ((0 ≤ x ∧ x ≤ z0 - 1) ∧ 0 ≤ y ∧ y ≤ z1 - 1) ∧ (1 ≤ wi ∧ wi ≤ z0 - x) ∧ 1 ≤ hi ∧ hi ≤ z1 - y)) (U : World) :
    Calls Try.prog 49 #[.agg #[.int .i64 z0, .int .i64 z1, .slice A0 n0 m0], .int .i64 x, .int .i64 y, .int .i64 wi, .int .i64 hi] U fun e U' => ∃ A c' b, e = .returned (.tuple #[.agg #[.int .i64 0, .int .i64 0, .slice A b.length c'], .bool false]) ∧ OwnF U' U.heap.size 37 (.slice A b.length c') b ∧ b.map nrm = [] ∧ Ext U U' := by
  by_cases h : VMap z0 z1 n0
  · by_cases hxy : ((0 ≤ x ∧ x ≤ z0 - 1) ∧ 0 ≤ y ∧ y ≤ z1 - 1)
    · by_cases hwi : 1 ≤ wi ∧ wi ≤ z0 - x
      · exact specCropPicture_no4 z0 z1 A0 n0 m0 x y wi hi hn0 h hxy hwi (Decidable.byContradiction fun h2 => hv ⟨h, hxy, hwi, by omega, by omega⟩) U
      · exact specCropPicture_no3 z0 z1 A0 n0 m0 x y wi hi hn0 h hxy (by omega) U
    · exact specCropPicture_no2 z0 z1 A0 n0 m0 x y wi hi hn0 h hxy U
  · exact specCropPicture_no1 z0 z1 A0 n0 m0 x y wi hi hn0 h U
set_option maxHeartbeats 1000000 in
set_option maxRecDepth 8000 in
theorem implCropPicture_yes (wn hn gb off n c : Nat) (bs : List Nat) (xn yn ww hh : Nat) (U : World) (hl : Lies U gb off bs) (hlen : bs.length = n) (hwd : Words bs) (hnc : n ≤ c) (hcm : c ≤ maxLen) (hv : VMap wn hn n) (h1w : 1 ≤ ww) (h1h : 1 ≤ hh) (hxw : xn + ww ≤ wn) (hyh : yn + hh ≤ hn) :
    Calls Try.prog 50 #[.agg #[.int .i64 wn, .int .i64 hn, .slice (some ⟨gb, off, none⟩) n c], .int .i64 xn, .int .i64 yn, .int .i64 ww, .int .i64 hh] U fun e U' => ∃ A c' b, e = .returned (.tuple #[.agg #[.int .i64 ww, .int .i64 hh, .slice A b.length c'], .bool true]) ∧ OwnF U' U.heap.size 37 (.slice A b.length c') b ∧ b.map nrm = cells (cropF wn bs xn yn) ww (ww * hh) ∧ Ext U U' := by
  have HV := Lib.hid hv
  have hcn := Nat.le_trans hnc hcm
  have h1 := hv.1.2.1
  have h2 := hv.1.2.2.2.1
  obtain ⟨hsz, _⟩ := crop_sz hv h1w h1h (show ww ≤ wn by omega) (show hh ≤ hn by omega)
  have HSS := Lib.hid hsz
  obtain ⟨a, ha⟩ : ∃ a, xn + ww = a := ⟨_, rfl⟩
  obtain ⟨b', hb⟩ : ∃ b, yn + hh = b := ⟨_, rfl⟩
  obtain ⟨a1, ha1⟩ : ∃ a1, a - 1 = a1 := ⟨_, rfl⟩
  obtain ⟨b1, hb1⟩ : ∃ b1, b' - 1 = b1 := ⟨_, rfl⟩
  have hw1 : IntKind.i64.wrap ((xn : Int) + (ww : Int)) = (a : Int) := by rw [show (xn : Int) + (ww : Int) = (a : Int) by omega]; exact wrap_small _ (by omega) (by omega)
  have hw2 : IntKind.i64.wrap ((yn : Int) + (hh : Int)) = (b' : Int) := by rw [show (yn : Int) + (hh : Int) = (b' : Int) by omega]; exact wrap_small _ (by omega) (by omega)
  have hw3 : IntKind.i64.wrap ((a : Int) - 1) = (a1 : Int) := by rw [show (a : Int) - 1 = (a1 : Int) by omega]; exact wrap_small _ (by omega) (by omega)
  have hw4 : IntKind.i64.wrap ((b' : Int) - 1) = (b1 : Int) := by rw [show (b' : Int) - 1 = (b1 : Int) by omega]; exact wrap_small _ (by omega) (by omega)
  have hxy : (0 ≤ (xn : Int) ∧ (xn : Int) ≤ (wn : Int) - 1) ∧ 0 ≤ (yn : Int) ∧ (yn : Int) ≤ (hn : Int) - 1 := ⟨⟨by omega, by omega⟩, by omega, by omega⟩
  have hxy2 : (0 ≤ (a1 : Int) ∧ (a1 : Int) ≤ (wn : Int) - 1) ∧ 0 ≤ (b1 : Int) ∧ (b1 : Int) ≤ (hn : Int) - 1 := ⟨⟨by omega, by omega⟩, by omega, by omega⟩
  have HXY := Lib.hid hxy
  have HXY2 := Lib.hid hxy2
  have HSz := Lib.hid hv.1
  have HK := Lib.hid (fun (w0 : World) (hx0 : Ext U w0) (hb0 : Box3 w0 U.heap.size (.int .i64 wn) (.int .i64 hn) (.slice (some ⟨gb, off, none⟩) n c)) (hx1 : w0.cell? ⟨U.heap.size + 1, 0, none⟩ = some (.int .i64 xn)) (hy1 : w0.cell? ⟨U.heap.size + 1 + 1, 0, none⟩ = some (.int .i64 yn)) =>
    made_any ww hh (by omega) (by omega) 100 #[.pointer (some ⟨U.heap.size, 0, none⟩), .pointer (some ⟨U.heap.size + 1, 0, none⟩), .pointer (some ⟨U.heap.size + 1 + 1, 0, none⟩)] (cropF wn bs xn yn) w0 (by kernel_rfl)
      (fun u v U' h1 h2 h3 => crop1_any wn hn gb off n c bs _ _ _ xn yn u v U' (hb0.ext h1) ((hl.ext hx0).ext h1) hlen hwd hv (cell_ext hx1 h1) (cell_ext hy1 h1) (by omega) (by omega)))
  clear hv hl hlen hwd hnc hcm hxw hyh hxy hxy2 hsz ha hb ha1 hb1 h1w h1h h1 h2
  go_enter Try.func50, Try.ntmps50
  go_wp2_with fail
  refine calls_at (X := fun w' => Ext U w' ∧ Box3 w' U.heap.size (.int .i64 wn) (.int .i64 hn) (.slice (some ⟨gb, off, none⟩) n c) ∧ w'.cell? ⟨U.heap.size + 1, 0, none⟩ = some (.int .i64 xn) ∧ w'.cell? ⟨U.heap.size + 1 + 1, 0, none⟩ = some (.int .i64 yn) ∧ Res3 w' (U.heap.size + 1 + 1 + 1) ∧ U.heap.size + 1 + 1 + 1 + 1 ≤ w'.heap.size) ⟨((((Ext.refl _).alloc _).alloc _).alloc _).alloc _, ⟨by simp [go_sem], by simp [go_sem], by simp [go_sem]⟩, by simp [go_sem], by simp [go_sem], ⟨by simp [go_sem], by simp [go_sem], by simp [go_sem], by simp [go_sem], by simp [go_sem], by simp [go_sem]⟩, by simp⟩ ?_
  rintro w0 ⟨hx0, hb0, hx1, hy1, hr0, hs0⟩
  refine (ValidPicture_yes _ _ _ n c _ hcn HV.out).mono ?_
  rintro e w1 ⟨rfl, hx⟩
  have hb1 := hb0.ext hx
  have hx2 := cell_ext hx1 hx
  have hy2 := cell_ext hy1 hx
  have hr1 := hr0.ext hx
  have hE := hx0.trans hx
  have hs1 := Nat.le_trans hs0 hx.size
  clear hx hx0 hb0 hr0 hs0 hx1 hy1
  have ⟨p0, p1, p2⟩ := hb1
  go_wp2_with (first | (go_at_call 98; with_reducible refine (sizeOk_yes _ _ _ HSS.out).mono ?_; rintro e w' ⟨rfl, rfl⟩) | (go_at_call 90; with_reducible refine (picHas_yes _ (wn : Int) (hn : Int) (xn : Int) (yn : Int) _ p0 p1 HSz.out HXY.out.1 HXY.out.2).mono ?_; rintro e w' ⟨rfl, rfl⟩) | (go_at_call 90; with_reducible refine (picHas_yes _ (wn : Int) (hn : Int) (a1 : Int) (b1 : Int) _ p0 p1 HSz.out HXY2.out.1 HXY2.out.2).mono ?_; rintro e w' ⟨rfl, rfl⟩))
  clear p0 p1 p2
  refine (HK.out _ hE hb1 hx2 hy2).mono ?_
  rintro e w2 ⟨A, c', b, rfl, ho, hm, hwd, hx⟩
  have ⟨c0, c1, c2, f0, f1, f2⟩ := hr1.ext hx
  have hE2 := hE.trans hx
  clear hx hE hb1 hr1 hx2 hy2
  go_wp2
  refine bodyPost_ret (v := .tuple #[.agg #[.int .i64 ww, .int .i64 hh, .slice A b.length c'], .bool true]) (by simp [results, Try.results50, go_sem, *]) rfl ⟨A, c', b, rfl, ?_, hm, ?_⟩
  · refine OwnF.weaken (base := w1.heap.size) ?_ (by omega)
    repeat (first | (with_reducible exact ho) | (with_reducible refine OwnF.set_below ?_ (by dsimp only; omega) _))
  · repeat (first | (with_reducible exact hE2) | (with_reducible refine Ext.setCell ?_ (by dsimp only; omega) _))
set_option maxHeartbeats 1000000 in
theorem l02New_any (w h : Int) (U : World) :
    Calls Try.prog 96 #[.int .i64 w, .int .i64 h] U fun e U' => ∃ H, e = .returned (.agg #[.int .i64 w, .int .i64 h, .slice (some ⟨H, 0, none⟩) 0 0]) ∧ OwnF U' U.heap.size 37 (.slice (some ⟨H, 0, none⟩) 0 0) [] ∧ Ext U U' := by
  go_enter Try.func96, Try.ntmps96
  go_wp2_with fail
  go_wp2
  refine bodyPost_ret (v := .agg #[.int .i64 w, .int .i64 h, .slice (some ⟨U.heap.size + 1, 0, none⟩) 0 0]) (by simp [results, Try.results96, go_sem, *]) rfl ⟨U.heap.size + 1, rfl, ?_, ?_⟩
  · repeat (first | (with_reducible refine OwnF.set_ne ?_ (fun q hq => by simp [Value.ownBlock] at hq; subst hq; dsimp only; omega) _))
    have h := World.ownsRow_made (size := 1) (base := U.heap.size) (e := 37) (U.alloc (.cells #[.int .i64 w, .int .i64 h, .slice (some ⟨U.heap.size + 1, 0, none⟩) 0 0] 60)) #[] 0 (by simp) (by unfold maxLen; omega) rfl
    simpa [OwnF] using h
  · repeat (first | with_reducible exact Ext.refl _ | (with_reducible refine Ext.setCell ?_ (by simp; try omega) _) | (with_reducible refine Ext.alloc ?_ _))

set_option maxHeartbeats 4000000 in
set_option maxRecDepth 8000 in
theorem specCropPicture_yes (wn hn gb off n c : Nat) (bs : List Nat) (xn yn ww hh : Nat) (U : World) (hl : Lies U gb off bs) (hlen : bs.length = n) (hwd : Words bs) (hnc : n ≤ c) (hcm : c ≤ maxLen) (hv : VMap wn hn n) (h1w : 1 ≤ ww) (h1h : 1 ≤ hh) (hxw : xn + ww ≤ wn) (hyh : yn + hh ≤ hn) :
    Calls Try.prog 49 #[.agg #[.int .i64 wn, .int .i64 hn, .slice (some ⟨gb, off, none⟩) n c], .int .i64 xn, .int .i64 yn, .int .i64 ww, .int .i64 hh] U fun e U' => ∃ A c' b, e = .returned (.tuple #[.agg #[.int .i64 ww, .int .i64 hh, .slice A b.length c'], .bool true]) ∧ OwnF U' U.heap.size 37 (.slice A b.length c') b ∧ b.map nrm = cells (cropF wn bs xn yn) ww (ww * hh) ∧ Ext U U' := by
  obtain ⟨i0, hi, hz0, hz1, hz2⟩ := info_parts infoF
  have HV := Lib.hid hv
  have hcn := Nat.le_trans hnc hcm
  have h1 := hv.1.2.1
  have h2 := hv.1.2.2.2.1
  obtain ⟨_, h256⟩ := crop_sz hv h1w h1h (show ww ≤ wn by omega) (show hh ≤ hn by omega)
  have hxy : (0 ≤ (xn : Int) ∧ (xn : Int) ≤ (wn : Int) - 1) ∧ 0 ≤ (yn : Int) ∧ (yn : Int) ≤ (hn : Int) - 1 := ⟨⟨by omega, by omega⟩, by omega, by omega⟩
  have HXY := Lib.hid hxy
  have HSz := Lib.hid hv.1
  have hw1 : IntKind.i64.wrap ((wn : Int) - (xn : Int)) = (wn : Int) - (xn : Int) := wrap_small _ (by omega) (by omega)
  have hw2 : IntKind.i64.wrap ((hn : Int) - (yn : Int)) = (hn : Int) - (yn : Int) := wrap_small _ (by omega) (by omega)
  have HWI : Hid ((1 : Int) ≤ (ww : Int) ∧ (ww : Int) ≤ (wn : Int) - (xn : Int)) := Lib.hid (by omega)
  have HHI : Hid ((1 : Int) ≤ (hh : Int) ∧ (hh : Int) ≤ (hn : Int) - (yn : Int)) := Lib.hid (by omega)
  have hw3 : IntKind.i64.wrap ((xn : Int) + (ww : Int)) = (xn : Int) + (ww : Int) := wrap_small _ (by omega) (by omega)
  have hw4 : IntKind.i64.wrap ((yn : Int) + (hh : Int)) = (yn : Int) + (hh : Int) := wrap_small _ (by omega) (by omega)
  have HP := Lib.hid (fun k (hk : k < hh) => (Nat.le_trans (Nat.mul_le_mul_right ww (show k + 1 ≤ hh from hk)) (by rw [Nat.mul_comm]; exact h256) : (k + 1) * ww ≤ 256))
  have HA := Lib.hid (fun (g : Nat) (W : World) (hx' : Ext U W) (hB : Box3 W g (.int .i64 wn) (.int .i64 hn) (.slice (some ⟨gb, off, none⟩) n c)) (j k : Nat) (hj : j < ww) (hk : k < hh) (x y : Int) (ex : x = ((xn + j : Nat) : Int)) (ey : y = ((yn + k : Nat) : Int)) => (by
    have h3 := l02At_any g wn hn (some ⟨gb, off, none⟩) n c bs ((xn + j : Nat) : Int) ((yn + k : Nat) : Int) W hB ⟨hlen, fun _ => ⟨gb, off, rfl, hl.ext hx'⟩⟩ hv
    rw [clampI_in (by omega) (by omega), clampI_in (by omega) (by omega)] at h3
    rw [ex, ey]; exact h3 : Calls Try.prog 97 #[.pointer (some ⟨g, 0, none⟩), .int .i64 x, .int .i64 y] W fun e W' => e = .returned (.float .f32 (bs.getD (cellN wn ((xn + j : Nat) : Int) ((yn + k : Nat) : Int)) 0)) ∧ Ext W W'))
  have HQ := Lib.hid (fun (j k : Nat) => (⟨wd_at hwd _, rfl⟩ : Is (bs.getD (cellN wn ((xn + j : Nat) : Int) ((yn + k : Nat) : Int)) 0) (cropF wn bs xn yn j k)))
  have HB := Lib.hid (⟨h1, h2, hxw, hyh⟩ : (wn : Int) ≤ 24 ∧ (hn : Int) ≤ 24 ∧ xn + ww ≤ wn ∧ yn + hh ≤ hn)
  clear hv hl hlen hwd hnc hcm hxw hyh hxy h1w h1h h256 h1 h2
  go_enter Try.func49, Try.ntmps49
  go_wp2_with fail
  refine calls_at (X := fun w' => Ext U w' ∧ Box3 w' U.heap.size (.int .i64 wn) (.int .i64 hn) (.slice (some ⟨gb, off, none⟩) n c) ∧ Res3 w' (U.heap.size + 1) ∧ U.heap.size + 1 + 1 ≤ w'.heap.size) ⟨((Ext.refl _).alloc _).alloc _, ⟨by simp [go_sem], by simp [go_sem], by simp [go_sem]⟩, ⟨by simp [go_sem], by simp [go_sem], by simp [go_sem], by simp [go_sem], by simp [go_sem], by simp [go_sem]⟩, by simp⟩ ?_
  rintro w0 ⟨hx0, hb0, hr0, hs0⟩
  refine (l02Is_yes _ wn hn _ n c _ hcn hb0.1 hb0.2.1 hb0.2.2 HV.out).mono ?_
  rintro e w1 ⟨rfl, hx⟩
  have hb1 := hb0.ext hx
  have hr1 := hr0.ext hx
  have hE := hx0.trans hx
  have hs1 := Nat.le_trans hs0 hx.size
  clear hx hx0 hb0 hr0 hs0
  have ⟨p0, p1, p2⟩ := hb1
  go_wp2_with (first | (go_at_call 87; with_reducible refine (l02Cell_yes _ (wn : Int) (hn : Int) (xn : Int) (yn : Int) _ p0 p1 HSz.out HXY.out.1 HXY.out.2).mono ?_; rintro e w' ⟨rfl, rfl⟩) | (go_at_call 60; with_reducible refine (l00In_yes (ww : Int) 1 ((wn : Int) - (xn : Int)) _ HWI.out.1 HWI.out.2).mono ?_; rintro e w' ⟨rfl, rfl⟩) | (go_at_call 60; with_reducible refine (l00In_yes (hh : Int) 1 ((hn : Int) - (yn : Int)) _ HHI.out.1 HHI.out.2).mono ?_; rintro e w' ⟨rfl, rfl⟩))
  clear p0 p1 p2 HWI HHI HXY HSz HV hw1 hw2
  refine (l02New_any (ww : Int) (hh : Int) w1).mono ?_
  rintro e w2 ⟨H0, rfl, hO0, hx⟩
  have hs2 := hx.size
  go_wp2_with fail
  go_loopw [13] (fun y wr => ∃ (k : Nat) (A : Option Addr) (c' : Nat) (b : List Nat) (yv : Int), k ≤ hh ∧ yv = (yn : Int) + (k : Int) ∧ y = .int .i64 yv ∧ Acc2 w1 wr w1.heap.size 37 60 w2.heap.size 2 A c' b (cells (cropF wn bs xn yn) ww (k * ww)) ∧ wr.cell? ⟨w2.heap.size, 0, none⟩ = some (.int .i64 ww) ∧ wr.cell? ⟨w2.heap.size, 1, none⟩ = some (.int .i64 hh)) (fun y _ => ((yn : Int) + (hh : Int) - intOf y).toNat)
  case atStart =>
    refine ⟨0, some ⟨H0, 0, none⟩, 0, [], (yn : Int), Nat.zero_le _, by simp, rfl, ⟨hO0.ext ((Ext.refl _).alloc _), ⟨_, _, heap_alloc_new _ _⟩, by simp [go_sem], by simp [go_sem], by simp [cells], hx.alloc _, Nat.le_refl _, hs2⟩, by simp [go_sem], by simp [go_sem]⟩
  case round =>
    clear hO0 hx
    obtain ⟨k, A, c', b, yv, hk, hyv, rfl, hacc, o0, o1⟩ := hrel
    have ⟨q1, q2, q3, q4⟩ := HB.out
    have hv1 : IntKind.i64.wrap (yv + 1) = yv + 1 := wrap_small _ (by omega) (by omega)
    by_cases hlt : k < hh
    · have hyl : yv < (yn : Int) + (hh : Int) := by omega
      have HVV := Lib.hid hyv
      clear hyv q1 q2 q3 q4
      go_wp2_with fail
      go_loopw [14] (fun x wq => ∃ (j : Nat) (A : Option Addr) (c' : Nat) (b : List Nat) (xv : Int), j ≤ ww ∧ xv = (xn : Int) + (j : Int) ∧ x = .int .i64 xv ∧ Acc2 w1 wq w1.heap.size 37 60 w2.heap.size 2 A c' b (cells (cropF wn bs xn yn) ww (k * ww + j)) ∧ wq.cell? ⟨w2.heap.size, 0, none⟩ = some (.int .i64 ww) ∧ wq.cell? ⟨w2.heap.size, 1, none⟩ = some (.int .i64 hh)) (fun x _ => ((xn : Int) + (ww : Int) - intOf x).toNat)
      case atStart => exact ⟨0, A, c', b, (xn : Int), Nat.zero_le _, by simp, rfl, hacc, o0, o1⟩
      case round =>
        clear hacc o0 o1
        rename_i wq
        obtain ⟨j, A, c', b, xv, hj, hxv, rfl, hacc, o0, o1⟩ := hrel
        have ⟨q1, q2, q3, q4⟩ := HB.out
        have hu1 : IntKind.i64.wrap (xv + 1) = xv + 1 := wrap_small _ (by omega) (by omega)
        by_cases hltj : j < ww
        · have hxl : xv < (xn : Int) + (ww : Int) := by omega
          have HXV := Lib.hid hxv
          have hhdr := hacc.hdr
          clear hxv q1 q2 q3 q4
          go_wp2_with fail
          refine region_wx 6 [] (by kernel_rfl) (by kernel_rfl) ?_
          simp only [List.take_succ_cons, List.take_zero, List.drop_succ_cons, List.drop_zero]
          repeat ((first | refine wx_skip rfl ?_ | refine wx_nilCheck rfl rfl _ rfl _ rfl ?_ | (refine wx_float rfl rfl _ _ _ _ _ _ _ rfl rfl rfl rfl ?_; intro r hr) | (refine wx_k rfl rfl rfl (fun K hK => ?_); go_big_quiet_op; refine hK _ ?_; clear hK K) | (refine wx_call rfl rfl 97 _ _ rfl (by kernel_rfl) (by kernel_rfl) (.float .f32 (bs.getD (cellN wn ((xn + j : Nat) : Int) ((yn + k : Nat) : Int)) 0)) (fun W hW hF => ?_) ?_; go_simp; (with_reducible refine (HA.out _ W (hE.trans (hacc.ext.trans hW)) ((hb1.ext hacc.ext).ext hW) j k hltj hlt xv yv (by rw [HXV.out]; simp) (by rw [HVV.out]; simp)).mono ?_); rintro e w' h; exact h) | (refine wx_bs rfl rfl _ _ _ rfl _ rfl (fun Z => bs1 _ Z) ?_; intro H V2 hV2 hcell)); (try simp only [Act.put, List.setIfInBounds_toArray, List.set_cons_zero, List.set_cons_succ]); (try simp only [List.tail_nil]))
          refine wx_nil (fun W hW hF => ?_)
          have hVW : Ext V2 W := hF 5
          clear hF
          have hcell1 := cell_ext hcell hVW
          have hown1 := hacc.own.ext hW
          have hlen := hacc.len
          rw [cells_length] at hlen
          have hp := HP.out k hlt
          rw [Nat.succ_mul] at hp
          have hsz1 := hacc.ext.size
          have hsz2 := hW.size
          have hq := HQ.out j k
          generalize bs.getD (cellN wn ((xn + j : Nat) : Int) ((yn + k : Nat) : Int)) 0 = r at hcell hcell1 hq ⊢
          refine wpList_append_own _ rfl _ _ _ rfl w1.heap.size 37 i0 (.float .f32 0) 1 4 Try.underlying22 hi hz0 hz1 hz2 rfl (by omega) (.slice A b.length c') b.length (b.map fl) (by rfl) hown1 ⟨H, 0, none⟩ 1 1 [fl r] (by rfl) rfl (one_new hcell1) (one_word r) (by unfold maxLen; omega) (by omega) (by omega) ?_
          intro v' w2' ho2 hg2 _
          obtain ⟨A', c2, b', rfl, hacc', ⟨hh2, hf2⟩, hold, holdf⟩ := hacc.push (by decide) hW (rs := [r]) (Xs := [cropF wn bs xn yn j k]) ho2 hg2 (by simp [hq.2])
          have n0 := hold _ _ _ o0 (hacc.ne (by decide)) (by simp)
          have n1 := hold _ _ _ o1 (hacc.ne (by decide)) (by simp)
          rw [← cells_step (cropF wn bs xn yn) ww k j hltj] at hacc'
          clear hold holdf hown1 hhdr hacc ho2 hg2 hW o0 o1 hp hlen hcell hcell1 hV2 hVW hq
          go_wp2
          go_roundw
          case rel => exact ⟨j + 1, A', c2, b', xv + 1, by omega, by rw [HXV.out]; omega, rfl, hacc', n0, n1⟩
          case measure => simp [intOf]; omega
        · have hxl : ¬ xv < (xn : Int) + (ww : Int) := by omega
          have e1 : j = ww := by omega
          rw [e1, cells_row] at hacc
          clear hxv e1 q1 q2 q3 q4
          go_wp2
          go_roundw
          case rel => exact ⟨k + 1, A, c', b, yv + 1, by omega, by rw [HVV.out]; omega, rfl, hacc, o0, o1⟩
          case measure => simp [intOf]; omega
    · have hyl : ¬ yv < (yn : Int) + (hh : Int) := by omega
      have e1 : k = hh := by omega
      rw [e1, Nat.mul_comm hh ww] at hacc
      clear hyv e1 q1 q2 q3 q4
      have ⟨c0, c1, c2, f0, f1, f2⟩ := hr1.ext hacc.ext
      have hhdr := hacc.hdr
      have hE2 := hE.trans hacc.ext
      have hown := hacc.own
      have hlike := hacc.like
      clear hacc
      go_wp2
      refine bodyPost_ret (v := .tuple #[.agg #[.int .i64 ww, .int .i64 hh, .slice A b.length c'], .bool true]) (by simp [results, Try.results49, go_sem, *]) rfl ⟨A, c', b, rfl, ?_, hlike, ?_⟩
      · refine OwnF.weaken (base := w1.heap.size) ?_ (by omega)
        repeat (first | (with_reducible exact hown) | (with_reducible refine OwnF.set_below ?_ (by dsimp only; omega) _))
      · repeat (first | (with_reducible exact hE2) | (with_reducible refine Ext.setCell ?_ (by dsimp only; omega) _))
set_option maxRecDepth 8000 in
theorem lawCropPicture_any (W : World) (z0 z1 : Int) (_ : -9223372036854775808 ≤ z0 ∧ z0 ≤ 9223372036854775807) (_ : -9223372036854775808 ≤ z1 ∧ z1 ≤ 9223372036854775807) (A : Option Addr) (n m : Nat) (bs : List Nat) (hc : n ≤ m) (hm : m ≤ maxLen) (hr : Reads W A n bs) (hw : Words bs) (x : Int) (_ : IntKind.i64.min ≤ x ∧ x ≤ IntKind.i64.max) (y : Int) (_ : IntKind.i64.min ≤ y ∧ y ≤ IntKind.i64.max) (wi : Int) (_ : IntKind.i64.min ≤ wi ∧ wi ≤ IntKind.i64.max) (hi : Int) (_ : IntKind.i64.min ≤ hi ∧ hi ≤ IntKind.i64.max) :
    Calls Try.prog 13 #[.agg #[.int .i64 z0, .int .i64 z1, .slice A n m], .int .i64 x, .int .i64 y, .int .i64 wi, .int .i64 hi] W fun e W' => e = .returned (.bool true) ∧ Ext W W' := by
  have hn : n ≤ maxLen := Nat.le_trans hc hm
  by_cases hv : VMap z0 z1 n ∧ ((0 ≤ x ∧ x ≤ z0 - 1) ∧ 0 ≤ y ∧ y ≤ z1 - 1) ∧ (1 ≤ wi ∧ wi ≤ z0 - x) ∧ 1 ≤ hi ∧ hi ≤ z1 - y
  · obtain ⟨hv, ⟨hx, hy⟩, hwi, hhi⟩ := hv
    obtain ⟨wn, rfl⟩ := Int.eq_ofNat_of_zero_le (show 0 ≤ z0 by have := hv.1.1; omega)
    obtain ⟨hn', rfl⟩ := Int.eq_ofNat_of_zero_le (show 0 ≤ z1 by have := hv.1.2.2.1; omega)
    obtain ⟨xn, rfl⟩ := Int.eq_ofNat_of_zero_le hx.1
    obtain ⟨yn, rfl⟩ := Int.eq_ofNat_of_zero_le hy.1
    obtain ⟨ww, rfl⟩ := Int.eq_ofNat_of_zero_le (show 0 ≤ wi by omega)
    obtain ⟨hh, rfl⟩ := Int.eq_ofNat_of_zero_le (show 0 ≤ hi by omega)
    obtain ⟨hnn, h0, hn2⟩ := map_n hv
    obtain ⟨_, h256⟩ := crop_sz hv (show 1 ≤ ww by omega) (show 1 ≤ hh by omega) (show ww ≤ wn by omega) (show hh ≤ hn' by omega)
    refine lawCropPicture_core W wn hn' A n m bs hn hr xn yn ww hh ww hh (cells (cropF wn bs xn yn) ww (ww * hh)) (by rw [cells_length]; omega) true ?_ ?_
    · intro w D hd
      obtain ⟨gb, off, rfl, hl⟩ := hd.2 h0
      exact specCropPicture_yes wn hn' gb off n n bs xn yn ww hh w hl hd.1 hw (Nat.le_refl _) hn hv (by omega) (by omega) (by omega) (by omega)
    · intro w D hd
      obtain ⟨gb, off, rfl, hl⟩ := hd.2 h0
      exact implCropPicture_yes wn hn' gb off n n bs xn yn ww hh w hl hd.1 hw (Nat.le_refl _) hn hv (by omega) (by omega) (by omega) (by omega)
  · exact lawCropPicture_core W z0 z1 A n m bs hn hr x y wi hi 0 0 [] (by simp) false (fun w D hd => specCropPicture_no z0 z1 D n n x y wi hi hn hv w) (fun w D hd => implCropPicture_no z0 z1 D n n x y wi hi hn hv w)
end Go.Proofs.Ytcekofioiofjbaa
