/- The law on PutGrey holds. -/
import Derived.Test.YtcekofioiofjbaaOwn3
import Derived.Test.YtcekofioiofjbaaCPutGrey
namespace Go.Proofs.Ytcekofioiofjbaa
open Go.RowKit
set_option linter.unusedVariables false

theorem set_list (bs : List Nat) (k g : Nat) : (bs.set k g).map nrm = (List.range bs.length).map (fun i => if i = k then nrm g else nrm (bs.getD i 0)) := by
  refine List.ext_getElem (by simp) (fun i h1 h2 => ?_)
  simp at h1 h2
  simp only [List.getElem_map, List.getElem_range, List.getElem_set]
  by_cases h : i = k
  · subst h; simp
  · rw [if_neg (Ne.symm h), if_neg h]
    simp [List.getD_eq_getElem?_getD, List.getElem?_eq_getElem h1]
theorem same_cell {wn u v x y : Nat} (hu : u < wn) (hx : x < wn) : u + wn * v = x + wn * y ↔ u = x ∧ v = y := by
  constructor
  · intro h
    have h1 := congrArg (· % wn) h
    have h2 := congrArg (· / wn) h
    simp only [Nat.add_mul_mod_self_left, Nat.mod_eq_of_lt hu, Nat.mod_eq_of_lt hx] at h1
    subst h1
    have h3 : wn * v = wn * y := by omega
    exact ⟨rfl, Nat.eq_of_mul_eq_mul_left (by omega) h3⟩
  · rintro ⟨rfl, rfl⟩; rfl
set_option maxHeartbeats 1000000 in
theorem put1_any (wn hn gb off n c : Nat) (bs : List Nat) (gx gy gg gv xn yn gr : Nat) (hgr : gr < 4294967296) (u v : Nat) (U : World) (hB : Box3 U gv (.int .i64 wn) (.int .i64 hn) (.slice (some ⟨gb, off, none⟩) n c)) (hl : Lies U gb off bs) (hlen : bs.length = n) (hwd : Words bs) (hv : VMap wn hn n)
    (hcx : U.cell? ⟨gx, 0, none⟩ = some (.int .i64 xn)) (hcy : U.cell? ⟨gy, 0, none⟩ = some (.int .i64 yn)) (hcg : U.cell? ⟨gg, 0, none⟩ = some (fl gr)) (hu : u < wn) (hvv : v < hn) :
    Calls Try.prog 94 #[.int .i64 u, .int .i64 v, .pointer (some ⟨gx, 0, none⟩), .pointer (some ⟨gy, 0, none⟩), .pointer (some ⟨gg, 0, none⟩), .pointer (some ⟨gv, 0, none⟩)] U fun e' U' => ∃ r, e' = .returned (.float .f32 r) ∧ Is r (if u = xn ∧ v = yn then nrm gr else nrm (bs.getD (cellN wn (u : Int) (v : Int)) 0)) ∧ Ext U U' := by
  have hab := fun (W : World) (hx' : Ext U W) => about_any gv wn hn (some ⟨gb, off, none⟩) n c bs (u : Int) (v : Int) W (hB.ext hx') ⟨hlen, fun _ => ⟨gb, off, rfl, hl.ext hx'⟩⟩ hv
  rw [clampI_in (show (0 : Int) ≤ (u : Int) by omega) (show (u : Int) ≤ (wn : Int) - 1 by omega), clampI_in (show (0 : Int) ≤ (v : Int) by omega) (show (v : Int) ≤ (hn : Int) - 1 by omega)] at hab
  have hw := wd_at hwd (cellN wn (u : Int) (v : Int))
  generalize bs.getD (cellN wn (u : Int) (v : Int)) 0 = q at hab hw ⊢
  have HA := Lib.hid hab
  clear hab hl hlen hwd hv hB
  by_cases h1 : u = xn
  · by_cases h2 : v = yn
    · have e1 : ((u : Int) == (xn : Int)) = true := by simp [h1]
      have e2 : ((v : Int) == (yn : Int)) = true := by simp [h2]
      rw [if_pos ⟨h1, h2⟩]
      clear h1 h2
      go_enter Try.func94, Try.ntmps94
      go_wp2
      go_ret
      exact ⟨_, rfl, ⟨hgr, rfl⟩, Ext.refl _⟩
    · have e1 : ((u : Int) == (xn : Int)) = true := by simp [h1]
      have e2 : ((v : Int) == (yn : Int)) = false := by simp; omega
      rw [if_neg (fun h => h2 h.2)]
      clear h1 h2
      go_enter Try.func94, Try.ntmps94
      go_wp2_with fail
      refine (HA.out _ (Ext.refl _)).mono ?_
      rintro e w1 ⟨rfl, hx⟩
      go_wp2
      go_ret
      exact ⟨_, rfl, ⟨hw, rfl⟩, hx⟩
  · have e1 : ((u : Int) == (xn : Int)) = false := by simp; omega
    rw [if_neg (fun h => h1 h.1)]
    clear h1
    go_enter Try.func94, Try.ntmps94
    go_wp2_with fail
    refine (HA.out _ (Ext.refl _)).mono ?_
    rintro e w1 ⟨rfl, hx⟩
    go_wp2
    go_ret
    exact ⟨_, rfl, ⟨hw, rfl⟩, hx⟩
theorem implPutGrey_no1 (z0 z1 : Int) (A0 : Option Addr) (n0 m0 : Nat) (x y : Int) (gr : Nat) (hn0 : n0 ≤ maxLen) (hv : ¬ VMap z0 z1 n0) (U : World) :
    Calls Try.prog 46 #[.agg #[.int .i64 z0, .int .i64 z1, .slice A0 n0 m0], .int .i64 x, .int .i64 y, .float .f32 gr] U fun e U' => ∃ A c' b, e = .returned (.tuple #[.agg #[.int .i64 0, .int .i64 0, .slice A b.length c'], .bool false]) ∧ OwnF U' U.heap.size 37 (.slice A b.length c') b ∧ b.map nrm = [] ∧ Ext U U' := by
  have HV := Lib.hid hv
  clear hv
  go_enter Try.func46, Try.ntmps46
  go_wp2_with fail
  refine calls_at (X := fun w' => Ext U w' ∧ Box3 w' U.heap.size (.int .i64 z0) (.int .i64 z1) (.slice A0 n0 m0) ∧ w'.cell? ⟨U.heap.size + 1, 0, none⟩ = some (.int .i64 x) ∧ w'.cell? ⟨U.heap.size + 1 + 1, 0, none⟩ = some (.int .i64 y) ∧ Res3 w' (U.heap.size + 1 + 1 + 1 + 1) ∧ U.heap.size + 1 + 1 + 1 + 1 + 1 ≤ w'.heap.size) ⟨(((((Ext.refl _).alloc _).alloc _).alloc _).alloc _).alloc _, ⟨by simp [go_sem], by simp [go_sem], by simp [go_sem]⟩, by simp [go_sem], by simp [go_sem], ⟨by simp [go_sem], by simp [go_sem], by simp [go_sem], by simp [go_sem], by simp [go_sem], by simp [go_sem]⟩, by simp⟩ ?_
  rintro w0 ⟨hx0, hb0, hx1, hy1, hr0, hs0⟩
  refine (ValidPicture_not z0 z1 A0 n0 m0 _ hn0 HV.out).mono ?_
  rintro e w1 ⟨rfl, hx⟩
  have ⟨c0, c1, c2, f0, f1, f2⟩ := hr0.ext hx
  have hE := hx0.trans hx
  clear hx hx0 hb0 hr0 hx1 hy1
  go_wp2
  refine bodyPost_ret (v := .tuple #[.agg #[.int .i64 0, .int .i64 0, .slice none 0 0], .bool false]) (by simp [results, Try.results46, go_sem, *]) rfl ⟨none, 0, [], rfl, OwnF.nil _ _ _, rfl, ?_⟩
  repeat (first | (with_reducible exact hE) | (with_reducible refine Ext.setCell ?_ (by dsimp only; omega) _))
theorem implPutGrey_no2 (z0 z1 : Int) (A0 : Option Addr) (n0 m0 : Nat) (x y : Int) (gr : Nat) (hn0 : n0 ≤ maxLen) (hv : VMap z0 z1 n0) (hxy : ¬ ((0 ≤ x ∧ x ≤ z0 - 1) ∧ 0 ≤ y ∧ y ≤ z1 - 1)) (U : World) :
    Calls Try.prog 46 #[.agg #[.int .i64 z0, .int .i64 z1, .slice A0 n0 m0], .int .i64 x, .int .i64 y, .float .f32 gr] U fun e U' => ∃ A c' b, e = .returned (.tuple #[.agg #[.int .i64 0, .int .i64 0, .slice A b.length c'], .bool false]) ∧ OwnF U' U.heap.size 37 (.slice A b.length c') b ∧ b.map nrm = [] ∧ Ext U U' := by
  have HV := Lib.hid hv
  have HXY := Lib.hid hxy
  have HSz := Lib.hid hv.1
  clear hv hxy
  go_enter Try.func46, Try.ntmps46
  go_wp2_with fail
  refine calls_at (X := fun w' => Ext U w' ∧ Box3 w' U.heap.size (.int .i64 z0) (.int .i64 z1) (.slice A0 n0 m0) ∧ w'.cell? ⟨U.heap.size + 1, 0, none⟩ = some (.int .i64 x) ∧ w'.cell? ⟨U.heap.size + 1 + 1, 0, none⟩ = some (.int .i64 y) ∧ Res3 w' (U.heap.size + 1 + 1 + 1 + 1) ∧ U.heap.size + 1 + 1 + 1 + 1 + 1 ≤ w'.heap.size) ⟨(((((Ext.refl _).alloc _).alloc _).alloc _).alloc _).alloc _, ⟨by simp [go_sem], by simp [go_sem], by simp [go_sem]⟩, by simp [go_sem], by simp [go_sem], ⟨by simp [go_sem], by simp [go_sem], by simp [go_sem], by simp [go_sem], by simp [go_sem], by simp [go_sem]⟩, by simp⟩ ?_
  rintro w0 ⟨hx0, hb0, hx1, hy1, hr0, hs0⟩
  refine (ValidPicture_yes z0 z1 A0 n0 m0 _ hn0 HV.out).mono ?_
  rintro e w1 ⟨rfl, hx⟩
  have ⟨c0, c1, c2, f0, f1, f2⟩ := hr0.ext hx
  have ⟨p0, p1, p2⟩ := hb0.ext hx
  have hx2 := cell_ext hx1 hx; have hy2 := cell_ext hy1 hx
  have hE := hx0.trans hx
  clear hx hx0 hb0 hr0 hx1 hy1
  go_wp2_with (go_at_call 90; with_reducible refine (picHas_no _ z0 z1 x y _ p0 p1 HSz.out HXY.out).mono ?_; rintro e w' ⟨rfl, rfl⟩)
  refine bodyPost_ret (v := .tuple #[.agg #[.int .i64 0, .int .i64 0, .slice none 0 0], .bool false]) (by simp [results, Try.results46, go_sem, *]) rfl ⟨none, 0, [], rfl, OwnF.nil _ _ _, rfl, ?_⟩
  repeat (first | (with_reducible exact hE) | (with_reducible refine Ext.setCell ?_ (by dsimp only; omega) _))
theorem implPutGrey_no (z0 z1 : Int) (A0 : Option Addr) (n0 m0 : Nat) (x y : Int) (gr : Nat) (hn0 : n0 ≤ maxLen) (hv : ¬ (VMap z0 z1 n0 ∧ (0 ≤ x ∧ x ≤ z0 - 1) ∧ 0 ≤ y ∧ y ≤ z1 - 1)) (U : World) :
    Calls Try.prog 46 #[.agg #[.int .i64 z0, .int .i64 z1, .slice A0 n0 m0], .int .i64 x, .int .i64 y, .float .f32 gr] U fun e U' => ∃ A c' b, e = .returned (.tuple #[.agg #[.int .i64 0, .int .i64 0, .slice A b.length c'], .bool false]) ∧ OwnF U' U.heap.size 37 (.slice A b.length c') b ∧ b.map nrm = [] ∧ Ext U U' := by
  by_cases h : VMap z0 z1 n0
  · exact implPutGrey_no2 z0 z1 A0 n0 m0 x y gr hn0 h (fun h2 => hv ⟨h, h2⟩) U
  · exact implPutGrey_no1 z0 z1 A0 n0 m0 x y gr hn0 h U
theorem specPutGrey_no1 (z0 z1 : Int) (A0 : Option Addr) (n0 m0 : Nat) (x y : Int) (gr : Nat) (hn0 : n0 ≤ maxLen) (hv : ¬ VMap z0 z1 n0) (U : World) :
    Calls Try.prog 45 #[.agg #[.int .i64 z0, .int .i64 z1, .slice A0 n0 m0], .int .i64 x, .int .i64 y, .float .f32 gr] U fun e U' => ∃ A c' b, e = .returned (.tuple #[.agg #[.int .i64 0, .int .i64 0, .slice A b.length c'], .bool false]) ∧ OwnF U' U.heap.size 37 (.slice A b.length c') b ∧ b.map nrm = [] ∧ Ext U U' := by
  have HV := Lib.hid hv
  clear hv
  go_enter Try.func45, Try.ntmps45
  go_wp2_with fail
  refine calls_at (X := fun w' => Ext U w' ∧ Box3 w' U.heap.size (.int .i64 z0) (.int .i64 z1) (.slice A0 n0 m0) ∧ Res3 w' (U.heap.size + 1) ∧ U.heap.size + 1 + 1 ≤ w'.heap.size) ⟨((Ext.refl _).alloc _).alloc _, ⟨by simp [go_sem], by simp [go_sem], by simp [go_sem]⟩, ⟨by simp [go_sem], by simp [go_sem], by simp [go_sem], by simp [go_sem], by simp [go_sem], by simp [go_sem]⟩, by simp⟩ ?_
  rintro w0 ⟨hx0, hb0, hr0, hs0⟩
  refine (l02Is_not _ z0 z1 A0 n0 m0 _ hn0 hb0.1 hb0.2.1 hb0.2.2 HV.out).mono ?_
  rintro e w1 ⟨rfl, hx⟩
  have ⟨c0, c1, c2, f0, f1, f2⟩ := hr0.ext hx
  have hE := hx0.trans hx
  clear hx hx0 hb0 hr0
  go_wp2
  refine bodyPost_ret (v := .tuple #[.agg #[.int .i64 0, .int .i64 0, .slice none 0 0], .bool false]) (by simp [results, Try.results45, go_sem, *]) rfl ⟨none, 0, [], rfl, OwnF.nil _ _ _, rfl, ?_⟩
  repeat (first | (with_reducible exact hE) | (with_reducible refine Ext.setCell ?_ (by dsimp only; omega) _))
theorem specPutGrey_no2 (z0 z1 : Int) (A0 : Option Addr) (n0 m0 : Nat) (x y : Int) (gr : Nat) (hn0 : n0 ≤ maxLen) (hv : VMap z0 z1 n0) (hxy : ¬ ((0 ≤ x ∧ x ≤ z0 - 1) ∧ 0 ≤ y ∧ y ≤ z1 - 1)) (U : World) :
    Calls Try.prog 45 #[.agg #[.int .i64 z0, .int .i64 z1, .slice A0 n0 m0], .int .i64 x, .int .i64 y, .float .f32 gr] U fun e U' => ∃ A c' b, e = .returned (.tuple #[.agg #[.int .i64 0, .int .i64 0, .slice A b.length c'], .bool false]) ∧ OwnF U' U.heap.size 37 (.slice A b.length c') b ∧ b.map nrm = [] ∧ Ext U U' := by
  have HV := Lib.hid hv
  have HXY := Lib.hid hxy
  have HSz := Lib.hid hv.1
  clear hv hxy
  go_enter Try.func45, Try.ntmps45
  go_wp2_with fail
  refine calls_at (X := fun w' => Ext U w' ∧ Box3 w' U.heap.size (.int .i64 z0) (.int .i64 z1) (.slice A0 n0 m0) ∧ Res3 w' (U.heap.size + 1) ∧ U.heap.size + 1 + 1 ≤ w'.heap.size) ⟨((Ext.refl _).alloc _).alloc _, ⟨by simp [go_sem], by simp [go_sem], by simp [go_sem]⟩, ⟨by simp [go_sem], by simp [go_sem], by simp [go_sem], by simp [go_sem], by simp [go_sem], by simp [go_sem]⟩, by simp⟩ ?_
  rintro w0 ⟨hx0, hb0, hr0, hs0⟩
  refine (l02Is_yes _ z0 z1 A0 n0 m0 _ hn0 hb0.1 hb0.2.1 hb0.2.2 HV.out).mono ?_
  rintro e w1 ⟨rfl, hx⟩
  have ⟨c0, c1, c2, f0, f1, f2⟩ := hr0.ext hx
  have ⟨p0, p1, p2⟩ := hb0.ext hx
  skip
  have hE := hx0.trans hx
  clear hx hx0 hb0 hr0
  go_wp2_with (go_at_call 87; with_reducible refine (l02Cell_no _ z0 z1 x y _ p0 p1 HSz.out HXY.out).mono ?_; rintro e w' ⟨rfl, rfl⟩)
  refine bodyPost_ret (v := .tuple #[.agg #[.int .i64 0, .int .i64 0, .slice none 0 0], .bool false]) (by simp [results, Try.results45, go_sem, *]) rfl ⟨none, 0, [], rfl, OwnF.nil _ _ _, rfl, ?_⟩
  repeat (first | (with_reducible exact hE) | (with_reducible refine Ext.setCell ?_ (by dsimp only; omega) _))
theorem specPutGrey_no (z0 z1 : Int) (A0 : Option Addr) (n0 m0 : Nat) (x y : Int) (gr : Nat) (hn0 : n0 ≤ maxLen) (hv : ¬ (VMap z0 z1 n0 ∧ (0 ≤ x ∧ x ≤ z0 - 1) ∧ 0 ≤ y ∧ y ≤ z1 - 1)) (U : World) :
    Calls Try.prog 45 #[.agg #[.int .i64 z0, .int .i64 z1, .slice A0 n0 m0], .int .i64 x, .int .i64 y, .float .f32 gr] U fun e U' => ∃ A c' b, e = .returned (.tuple #[.agg #[.int .i64 0, .int .i64 0, .slice A b.length c'], .bool false]) ∧ OwnF U' U.heap.size 37 (.slice A b.length c') b ∧ b.map nrm = [] ∧ Ext U U' := by
  by_cases h : VMap z0 z1 n0
  · exact specPutGrey_no2 z0 z1 A0 n0 m0 x y gr hn0 h (fun h2 => hv ⟨h, h2⟩) U
  · exact specPutGrey_no1 z0 z1 A0 n0 m0 x y gr hn0 h U
set_option maxHeartbeats 1000000 in
set_option maxRecDepth 8000 in
theorem implPutGrey_yes (wn hn gb off n c : Nat) (bs : List Nat) (xn yn gr : Nat) (hgr : gr < 4294967296) (U : World) (hl : Lies U gb off bs) (hlen : bs.length = n) (hwd : Words bs) (hnc : n ≤ c) (hcm : c ≤ maxLen) (hv : VMap wn hn n) (hx : xn < wn) (hy : yn < hn) :
    Calls Try.prog 46 #[.agg #[.int .i64 wn, .int .i64 hn, .slice (some ⟨gb, off, none⟩) n c], .int .i64 xn, .int .i64 yn, .float .f32 gr] U fun e U' => ∃ A c' b, e = .returned (.tuple #[.agg #[.int .i64 wn, .int .i64 hn, .slice A b.length c'], .bool true]) ∧ OwnF U' U.heap.size 37 (.slice A b.length c') b ∧ b.map nrm = cells (fun (u v : Nat) => if u = xn ∧ v = yn then nrm gr else nrm (bs.getD (cellN wn (u : Int) (v : Int)) 0)) wn (wn * hn) ∧ Ext U U' := by
  have HV := Lib.hid hv
  have hcn := Nat.le_trans hnc hcm
  have hxy : (0 ≤ (xn : Int) ∧ (xn : Int) ≤ (wn : Int) - 1) ∧ 0 ≤ (yn : Int) ∧ (yn : Int) ≤ (hn : Int) - 1 := ⟨⟨by omega, by omega⟩, by omega, by omega⟩
  have HXY := Lib.hid hxy
  have HSz := Lib.hid hv.1
  have HK := Lib.hid (fun (w0 : World) (hx0 : Ext U w0) (hb0 : Box3 w0 U.heap.size (.int .i64 wn) (.int .i64 hn) (.slice (some ⟨gb, off, none⟩) n c)) (hx1 : w0.cell? ⟨U.heap.size + 1, 0, none⟩ = some (.int .i64 xn)) (hy1 : w0.cell? ⟨U.heap.size + 1 + 1, 0, none⟩ = some (.int .i64 yn)) (hg1 : w0.cell? ⟨U.heap.size + 1 + 1 + 1, 0, none⟩ = some (.float .f32 gr)) =>
    remade_yes wn hn (some ⟨gb, off, none⟩) n c hcn hv 94 #[.pointer (some ⟨U.heap.size + 1, 0, none⟩), .pointer (some ⟨U.heap.size + 1 + 1, 0, none⟩), .pointer (some ⟨U.heap.size + 1 + 1 + 1, 0, none⟩), .pointer (some ⟨U.heap.size, 0, none⟩)] (fun (u v : Nat) => if u = xn ∧ v = yn then nrm gr else nrm (bs.getD (cellN wn (u : Int) (v : Int)) 0)) w0 (by kernel_rfl)
      (fun u v U' h1 h2 h3 => put1_any wn hn gb off n c bs _ _ _ _ xn yn gr hgr u v U' (hb0.ext h1) ((hl.ext hx0).ext h1) hlen hwd hv (cell_ext hx1 h1) (cell_ext hy1 h1) (cell_ext hg1 h1) h2 h3))
  clear hv hl hlen hwd hnc hcm hx hy hxy
  go_enter Try.func46, Try.ntmps46
  go_wp2_with fail
  refine calls_at (X := fun w' => Ext U w' ∧ Box3 w' U.heap.size (.int .i64 wn) (.int .i64 hn) (.slice (some ⟨gb, off, none⟩) n c) ∧ w'.cell? ⟨U.heap.size + 1, 0, none⟩ = some (.int .i64 xn) ∧ w'.cell? ⟨U.heap.size + 1 + 1, 0, none⟩ = some (.int .i64 yn) ∧ w'.cell? ⟨U.heap.size + 1 + 1 + 1, 0, none⟩ = some (.float .f32 gr) ∧ Res3 w' (U.heap.size + 1 + 1 + 1 + 1) ∧ U.heap.size + 1 + 1 + 1 + 1 + 1 ≤ w'.heap.size) ⟨(((((Ext.refl _).alloc _).alloc _).alloc _).alloc _).alloc _, ⟨by simp [go_sem], by simp [go_sem], by simp [go_sem]⟩, by simp [go_sem], by simp [go_sem], by simp [go_sem], ⟨by simp [go_sem], by simp [go_sem], by simp [go_sem], by simp [go_sem], by simp [go_sem], by simp [go_sem]⟩, by simp⟩ ?_
  rintro w0 ⟨hx0, hb0, hx1, hy1, hg1, hr0, hs0⟩
  refine (ValidPicture_yes _ _ _ n c _ hcn HV.out).mono ?_
  rintro e w1 ⟨rfl, hx⟩
  have hb1 := hb0.ext hx
  have hx2 := cell_ext hx1 hx
  have hy2 := cell_ext hy1 hx
  have hg2 := cell_ext hg1 hx
  have hr1 := hr0.ext hx
  have hE := hx0.trans hx
  have hs1 := Nat.le_trans hs0 hx.size
  clear hx hx0 hb0 hr0 hs0 hx1 hy1 hg1
  have ⟨p0, p1, p2⟩ := hb1
  go_wp2_with (go_at_call 90; with_reducible refine (picHas_yes _ (wn : Int) (hn : Int) (xn : Int) (yn : Int) _ p0 p1 HSz.out HXY.out.1 HXY.out.2).mono ?_; rintro e w' ⟨rfl, rfl⟩)
  clear p0 p1 p2
  refine (HK.out _ hE hb1 hx2 hy2 hg2).mono ?_
  rintro e w2 ⟨A, c', b, rfl, ho, hm, hx⟩
  have ⟨c0, c1, c2, f0, f1, f2⟩ := hr1.ext hx
  have hE2 := hE.trans hx
  clear hx hE hb1 hr1 hx2 hy2 hg2
  go_wp2
  refine bodyPost_ret (v := .tuple #[.agg #[.int .i64 wn, .int .i64 hn, .slice A b.length c'], .bool true]) (by simp [results, Try.results46, go_sem, *]) rfl ⟨A, c', b, rfl, ?_, hm, ?_⟩
  · refine OwnF.weaken (base := w1.heap.size) ?_ (by omega)
    repeat (first | (with_reducible exact ho) | (with_reducible refine OwnF.set_below ?_ (by dsimp only; omega) _))
  · repeat (first | (with_reducible exact hE2) | (with_reducible refine Ext.setCell ?_ (by dsimp only; omega) _))
set_option maxHeartbeats 1000000 in
set_option maxRecDepth 8000 in
theorem specPutGrey_yes (wn hn gb off n c : Nat) (bs : List Nat) (xn yn gr : Nat) (hgr : gr < 4294967296) (U : World) (hl : Lies U gb off bs) (hlen : bs.length = n) (hwd : Words bs) (hnc : n ≤ c) (hcm : c ≤ maxLen) (hv : VMap wn hn n) (hx : xn < wn) (hy : yn < hn) :
    Calls Try.prog 45 #[.agg #[.int .i64 wn, .int .i64 hn, .slice (some ⟨gb, off, none⟩) n c], .int .i64 xn, .int .i64 yn, .float .f32 gr] U fun e U' => ∃ A c' b, e = .returned (.tuple #[.agg #[.int .i64 wn, .int .i64 hn, .slice A b.length c'], .bool true]) ∧ OwnF U' U.heap.size 37 (.slice A b.length c') b ∧ b.map nrm = (bs.set (xn + wn * yn) gr).map nrm ∧ Ext U U' := by
  obtain ⟨hnn0, h0, hn2⟩ := map_n hv
  have HV := Lib.hid hv
  have hcn := Nat.le_trans hnc hcm
  have hxy : (0 ≤ (xn : Int) ∧ (xn : Int) ≤ (wn : Int) - 1) ∧ 0 ≤ (yn : Int) ∧ (yn : Int) ≤ (hn : Int) - 1 := ⟨⟨by omega, by omega⟩, by omega, by omega⟩
  obtain ⟨e1, e2, e3⟩ := cellN_eq hv hxy.1.1 hxy.1.2 hxy.2.1 hxy.2.2
  rw [cellN_nat] at e1 e2
  obtain ⟨k, hk⟩ : ∃ k, xn + wn * yn = k := ⟨_, rfl⟩
  rw [hk] at e1 e2 ⊢
  have e4 : IntKind.i64.wrap ((xn : Int) + (wn : Int) * (yn : Int)) = (k : Int) := by rw [e1]; exact wrap_small _ (by omega) (by omega)
  have HXY := Lib.hid hxy
  have HSz := Lib.hid hv.1
  have HLEN := Lib.hid hlen
  have hk0 : (0 : Int) ≤ (k : Int) := by omega
  have hk1 : (k : Int) < (n : Int) := by omega
  unfold maxLen at hcm
  clear hv hwd hx hy hxy hnn0 hk e1 hlen
  go_enter Try.func45, Try.ntmps45
  go_wp2_with fail
  refine calls_at (X := fun w' => Ext U w' ∧ Box3 w' U.heap.size (.int .i64 wn) (.int .i64 hn) (.slice (some ⟨gb, off, none⟩) n c) ∧ Res3 w' (U.heap.size + 1) ∧ U.heap.size + 1 + 1 ≤ w'.heap.size) ⟨((Ext.refl _).alloc _).alloc _, ⟨by simp [go_sem], by simp [go_sem], by simp [go_sem]⟩, ⟨by simp [go_sem], by simp [go_sem], by simp [go_sem], by simp [go_sem], by simp [go_sem], by simp [go_sem]⟩, by simp⟩ ?_
  rintro w0 ⟨hx0, hb0, hr0, hs0⟩
  refine (l02Is_yes _ wn hn _ n c _ hcn hb0.1 hb0.2.1 hb0.2.2 HV.out).mono ?_
  rintro e w1 ⟨rfl, hx⟩
  have hb1 := hb0.ext hx
  have hr1 := hr0.ext hx
  have hE := hx0.trans hx
  have hs1 := Nat.le_trans hs0 hx.size
  have hl1 := hl.ext hE
  clear hx hx0 hb0 hr0 hs0 hl
  have ⟨p0, p1, p2⟩ := hb1
  go_wp2_with (go_at_call 87; with_reducible refine (l02Cell_yes _ (wn : Int) (hn : Int) (xn : Int) (yn : Int) _ p0 p1 HSz.out HXY.out.1 HXY.out.2).mono ?_; rintro e w' ⟨rfl, rfl⟩)
  clear p0 p1 p2
  refine (l02Own_any U.heap.size wn hn gb off n c bs w1 hl1 HLEN.out hb1 h0 (by omega)).mono ?_
  rintro e w2 ⟨H, cH, rfl, hO, hx⟩
  have hH := hO.ge
  have hE2 := hE.trans hx
  have hs2 := Nat.le_trans hs1 hx.size
  have hb2 := hb1.ext hx
  have ⟨p0, p1, p2⟩ := hb2
  have hul := hb2.lt
  have hr2 := hr1.ext hx
  have ⟨c0, c1, c2, f0, f1, f2⟩ := hr2
  have hct := hO.cell (i := k) (by rw [HLEN.out]; exact e2)
  have hcf := hO.cool k
  have g1 : ¬ (H = w2.heap.size) := by omega
  have g2 : ¬ (w2.heap.size = H) := by omega
  have g3 : ¬ (U.heap.size = w2.heap.size) := by omega
  have g4 : ¬ (U.heap.size + 1 = w2.heap.size) := by have := hr2.lt; omega
  have g5 : ¬ (U.heap.size + 1 = H) := by omega
  have g6 : ¬ (w2.heap.size = U.heap.size + 1) := by have := hr2.lt; omega
  have g7 : ¬ (H = U.heap.size + 1) := by omega
  have hr3 := (hr2.set_ne (g := H) (i := k) (u := fl gr) (by omega)).ext ((Ext.refl _).alloc (.cells #[.int .i64 wn, .int .i64 hn, .slice (some ⟨H, 0, none⟩) n cH] 60))
  have ⟨d0, d1, d2, i0', i1, i2⟩ := hr3
  have hbl2 : (bs.set k gr).length = n := by rw [List.length_set]; exact HLEN.out
  clear hx hE hb1 hr1 hl1
  go_wp2
  refine bodyPost_ret (v := .tuple #[.agg #[.int .i64 wn, .int .i64 hn, .slice (some ⟨H, 0, none⟩) (bs.set k gr).length cH], .bool true]) (by rw [hbl2]; simp [results, Try.results45, go_sem, *]) rfl ⟨_, cH, bs.set k gr, rfl, ?_, rfl, ?_⟩
  · refine OwnF.weaken (base := w1.heap.size) ?_ (by omega)
    rw [hbl2]
    repeat (first | (with_reducible refine OwnF.set_below ?_ (by dsimp only; omega) _))
    exact (hO.put k gr).ext ((Ext.refl _).alloc _)
  · repeat (first | (with_reducible exact hE2) | (with_reducible refine Ext.setCell ?_ (by dsimp only; omega) _) | (with_reducible refine Ext.alloc ?_ _))
set_option maxRecDepth 8000 in
theorem lawPutGrey_any (W : World) (z0 z1 : Int) (_ : -9223372036854775808 ≤ z0 ∧ z0 ≤ 9223372036854775807) (_ : -9223372036854775808 ≤ z1 ∧ z1 ≤ 9223372036854775807) (A : Option Addr) (n m : Nat) (bs : List Nat) (hc : n ≤ m) (hm : m ≤ maxLen) (hr : Reads W A n bs) (hw : Words bs) (x : Int) (_ : IntKind.i64.min ≤ x ∧ x ≤ IntKind.i64.max) (y : Int) (_ : IntKind.i64.min ≤ y ∧ y ≤ IntKind.i64.max) (gr : Nat) (hgr : gr < 4294967296) :
    Calls Try.prog 12 #[.agg #[.int .i64 z0, .int .i64 z1, .slice A n m], .int .i64 x, .int .i64 y, .float .f32 gr] W fun e W' => e = .returned (.bool true) ∧ Ext W W' := by
  have hn : n ≤ maxLen := Nat.le_trans hc hm
  by_cases hv : VMap z0 z1 n ∧ (0 ≤ x ∧ x ≤ z0 - 1) ∧ 0 ≤ y ∧ y ≤ z1 - 1
  · obtain ⟨hv, hx, hy⟩ := hv
    obtain ⟨wn, rfl⟩ := Int.eq_ofNat_of_zero_le (show 0 ≤ z0 by have := hv.1.1; omega)
    obtain ⟨hn', rfl⟩ := Int.eq_ofNat_of_zero_le (show 0 ≤ z1 by have := hv.1.2.2.1; omega)
    obtain ⟨xn, rfl⟩ := Int.eq_ofNat_of_zero_le hx.1
    obtain ⟨yn, rfl⟩ := Int.eq_ofNat_of_zero_le hy.1
    obtain ⟨hnn, h0, hn2⟩ := map_n hv
    have hlb : bs.length = n := hr.1
    refine lawPutGrey_core W wn hn' A n m bs hn hr xn yn gr wn hn' ((bs.set (xn + wn * yn) gr).map nrm) (by simp; omega) true ?_ ?_
    · intro w D hd
      obtain ⟨gb, off, rfl, hl⟩ := hd.2 h0
      exact specPutGrey_yes wn hn' gb off n n bs xn yn gr hgr w hl hd.1 hw (Nat.le_refl _) hn hv (by omega) (by omega)
    · intro w D hd
      obtain ⟨gb, off, rfl, hl⟩ := hd.2 h0
      refine (implPutGrey_yes wn hn' gb off n n bs xn yn gr hgr w hl hd.1 hw (Nat.le_refl _) hn hv (by omega) (by omega)).mono ?_
      rintro e w1 ⟨A1, c1, b1, rfl, ho, hm1, hx1⟩
      refine ⟨A1, c1, b1, rfl, ho, hm1.trans ?_, hx1⟩
      rw [set_list, hlb, hnn]
      refine cells_flat (fun u v h1 h2 => ?_)
      rw [cellN_nat]
      by_cases h : u = xn ∧ v = yn
      · rw [if_pos h, if_pos ((same_cell h1 (by omega)).2 h)]
      · rw [if_neg h, if_neg (fun h3 => h ((same_cell h1 (by omega)).1 h3))]
  · exact lawPutGrey_core W z0 z1 A n m bs hn hr x y gr 0 0 [] (by simp) false (fun w D hd => specPutGrey_no z0 z1 D n n x y gr hn hv w) (fun w D hd => implPutGrey_no z0 z1 D n n x y gr hn hv w)
end Go.Proofs.Ytcekofioiofjbaa
