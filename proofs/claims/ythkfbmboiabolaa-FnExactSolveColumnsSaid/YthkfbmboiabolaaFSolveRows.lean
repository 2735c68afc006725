/- Contracts: the map of rows that cost least; the law. -/
import Derived.Test.YthkfbmboiabolaaRowsS
import Derived.Test.YthkfbmboiabolaaRowsC
namespace Go.Proofs.Ythkfbmboiabolaa
open Go.RowKit
set_option linter.unusedVariables false

theorem MapR.no (W U' : World) (h : Ext W U') : MapR W 0 0 [] false (.returned (.tuple #[.agg #[.int .i64 0, .int .i64 0, .slice none 0 0], .bool false])) U' := ⟨none, 0, [], rfl, OwnF.nil _ _ _, rfl, h⟩
theorem l04Rows_say (g gp wn hn dn gb off n c p0 p1 : Nat) (bs : List Nat) (U : World) (w h : Int) (L : List Nat) (o : Bool) (hB : Box4 U g (.int .i64 wn) (.int .i64 hn) (.int .i64 dn) (.slice (some ⟨gb, off, none⟩) n c)) (hQ : Box2 U gp (fl p0) (fl p1)) (hl : Lies U gb off bs) (hlen : bs.length = n) (hwd : WordsN bs) (hnc : n ≤ c) (hcm : c ≤ maxLen) (hv : VVol wn hn dn n) (hs : RowsSay wn hn dn p0 p1 bs w h L o) :
    Calls Try.prog 56 #[.pointer (some ⟨g, 0, none⟩), .pointer (some ⟨gp, 0, none⟩)] U (MapR U w h L o) := by
  refine l04Rows_any g gp wn hn dn gb off n c p0 p1 bs U _ hB hQ hl hlen hwd hnc hcm hv (fun hno U' hx => ?_) (fun hok U' A c' b h1 h2 h3 => ?_)
  · rcases hs with ⟨hok, rfl, rfl, rfl, rfl⟩ | ⟨_, rfl, rfl, rfl, rfl⟩
    · exact absurd hok hno
    · exact MapR.no _ _ hx
  · rcases hs with ⟨_, rfl, rfl, rfl, rfl⟩ | ⟨hno, rfl, rfl, rfl, rfl⟩
    · exact ⟨A, c', b, rfl, h1, h2, h3⟩
    · exact absurd hok hno
theorem implSolveRows_say (wn hn dn gb off n c p0 p1 : Nat) (bs : List Nat) (U : World) (w h : Int) (L : List Nat) (o : Bool) (hl : Lies U gb off bs) (hlen : bs.length = n) (hwd : Words bs) (hnc : n ≤ c) (hcm : c ≤ maxLen) (hr : ROk wn hn dn n p0 p1 0) (hs : RowsSay wn hn dn p0 p1 bs w h L o) :
    Calls Try.prog 30 #[.agg #[.int .i64 wn, .int .i64 hn, .int .i64 dn, .slice (some ⟨gb, off, none⟩) n c], .agg #[.float .f32 p0, .float .f32 p1]] U (MapR U w h L o) := by
  refine implSolveRows_any wn hn dn gb off n c p0 p1 bs U _ hl hlen hwd hnc hcm hr (fun hno U' hx => ?_) (fun hok U' A c' b h1 h2 h3 => ?_)
  · rcases hs with ⟨hok, rfl, rfl, rfl, rfl⟩ | ⟨_, rfl, rfl, rfl, rfl⟩
    · exact absurd hok hno
    · exact MapR.no _ _ hx
  · rcases hs with ⟨_, rfl, rfl, rfl, rfl⟩ | ⟨hno, rfl, rfl, rfl, rfl⟩
    · exact ⟨A, c', b, rfl, h1, h2, h3⟩
    · exact absurd hok hno
theorem rok0 {z0 z1 z2 : Int} {n p0 p1 : Nat} : ROk z0 z1 z2 n p0 p1 0 ↔ VVol z0 z1 z2 n ∧ PV p0 p1 :=
  ⟨fun h => ⟨h.1, h.2.1⟩, fun h => ⟨h.1, h.2, by omega, by have := h.1.1.2.2.1; omega⟩⟩
theorem rows_576 {wn hn dn n : Nat} (hv : VVol wn hn dn n) (F : Nat → Nat → Nat) : (cells F wn (wn * hn)).length ≤ 4096 := by
  rw [cells_length]
  exact Nat.le_trans (Nat.mul_le_mul (show wn ≤ 24 by have := hv.1.2.1; omega) (show hn ≤ 24 by have := hv.1.2.2.2.1; omega)) (by omega)
theorem specSolveRows_no1 (z0 z1 z2 : Int) (A : Option Addr) (n c : Nat) (p0 p1 : Nat) (U : World) (hnm : n ≤ maxLen) (hv : ¬ VVol z0 z1 z2 n) :
    Calls Try.prog 29 #[.agg #[.int .i64 z0, .int .i64 z1, .int .i64 z2, .slice A n c], .agg #[.float .f32 p0, .float .f32 p1]] U (MapR U 0 0 [] false) := by
  have HV := Lib.hid hv
  clear hv
  go_enter Try.func29, Try.ntmps29
  go_wp2_with fail
  refine calls_at (X := fun w' => Ext U w' ∧ Box4 w' U.heap.size (.int .i64 z0) (.int .i64 z1) (.int .i64 z2) (.slice A n c) ∧ Res3 w' (U.heap.size + 2)) ⟨(((Ext.refl _).alloc _).alloc _).alloc _, ⟨by simp [go_sem], by simp [go_sem], by simp [go_sem], by simp [go_sem]⟩, ⟨by simp [go_sem], by simp [go_sem], by simp [go_sem], by simp [go_sem], by simp [go_sem], by simp [go_sem]⟩⟩ ?_
  rintro w0 ⟨hE, hb, hr⟩
  refine (l03Is_not _ _ _ _ _ _ _ _ hnm hb.1 hb.2.1 hb.2.2.1 hb.2.2.2 HV.out).mono ?_
  rintro e w1 ⟨rfl, hx⟩
  have hE2 := hE.trans hx
  have ⟨c0, c1, c2, f0, f1, f2⟩ := hr.ext hx
  clear hx hb hr hE
  go_wp2
  refine bodyPost_ret (v := .tuple #[.agg #[.int .i64 0, .int .i64 0, .slice none 0 0], .bool false]) (by simp [results, Try.results29, go_sem, *]) rfl (MapR.no _ _ ?_)
  repeat (first | (with_reducible exact hE2) | (with_reducible refine Ext.setCell ?_ (by dsimp only; omega) _))
theorem specSolveRows_no2 (z0 z1 z2 : Int) (A : Option Addr) (n c : Nat) (p0 p1 : Nat) (U : World) (hnm : n ≤ maxLen) (hv : VVol z0 z1 z2 n) (hp : ¬ PV p0 p1) :
    Calls Try.prog 29 #[.agg #[.int .i64 z0, .int .i64 z1, .int .i64 z2, .slice A n c], .agg #[.float .f32 p0, .float .f32 p1]] U (MapR U 0 0 [] false) := by
  have HV := Lib.hid hv
  have HP := Lib.hid hp
  clear hv hp
  go_enter Try.func29, Try.ntmps29
  go_wp2_with fail
  refine calls_at (X := fun w' => Ext U w' ∧ Box4 w' U.heap.size (.int .i64 z0) (.int .i64 z1) (.int .i64 z2) (.slice A n c) ∧ Box2 w' (U.heap.size + 1) (fl p0) (fl p1) ∧ Res3 w' (U.heap.size + 2)) ⟨(((Ext.refl _).alloc _).alloc _).alloc _, ⟨by simp [go_sem], by simp [go_sem], by simp [go_sem], by simp [go_sem]⟩, ⟨by simp [go_sem], by simp [go_sem]⟩, ⟨by simp [go_sem], by simp [go_sem], by simp [go_sem], by simp [go_sem], by simp [go_sem], by simp [go_sem]⟩⟩ ?_
  rintro w0 ⟨hE, hb, hq, hr⟩
  refine (l03Is_yes _ _ _ _ _ _ _ _ hnm hb.1 hb.2.1 hb.2.2.1 hb.2.2.2 HV.out).mono ?_
  rintro e w1 ⟨rfl, hx⟩
  replace hE := hE.trans hx
  replace hq := hq.ext hx
  replace hr := hr.ext hx
  clear hx hb
  go_wp2_with fail
  refine (l04Is_no _ p0 p1 _ hq.1 hq.2 HP.out).mono ?_
  rintro e w2 ⟨rfl, hx⟩
  have hE2 := hE.trans hx
  have ⟨c0, c1, c2, f0, f1, f2⟩ := hr.ext hx
  clear hx hq hr hE
  go_wp2
  refine bodyPost_ret (v := .tuple #[.agg #[.int .i64 0, .int .i64 0, .slice none 0 0], .bool false]) (by simp [results, Try.results29, go_sem, *]) rfl (MapR.no _ _ ?_)
  repeat (first | (with_reducible exact hE2) | (with_reducible refine Ext.setCell ?_ (by dsimp only; omega) _))
theorem specSolveRows_yes (wn hn dn gb off n c : Nat) (bs : List Nat) (p0 p1 : Nat) (w h : Int) (L : List Nat) (o : Bool) (U : World) (hl : Lies U gb off bs) (hlen : bs.length = n) (hw : Words bs) (hnc : n ≤ c) (hcm : c ≤ maxLen) (hv : VVol wn hn dn n) (hp : PV p0 p1) (hs : RowsSay wn hn dn p0 p1 bs w h L o) :
    Calls Try.prog 29 #[.agg #[.int .i64 wn, .int .i64 hn, .int .i64 dn, .slice (some ⟨gb, off, none⟩) n c], .agg #[.float .f32 p0, .float .f32 p1]] U (MapR U w h L o) := by
  have HC := Lib.hid (fun (W : World) (hE : Ext U W) (hB : Box4 W U.heap.size (.int .i64 wn) (.int .i64 hn) (.int .i64 dn) (.slice (some ⟨gb, off, none⟩) n c)) (hQ : Box2 W (U.heap.size + 1) (fl p0) (fl p1)) => l04Rows_say U.heap.size (U.heap.size + 1) wn hn dn gb off n c p0 p1 bs W w h L o hB hQ (hl.ext hE) hlen hw.n hnc hcm hv hs)
  have HV := Lib.hid hv
  have HP := Lib.hid hp
  have hnm : n ≤ maxLen := Nat.le_trans hnc hcm
  clear hv hp hs hl hlen hw
  go_enter Try.func29, Try.ntmps29
  go_wp2_with fail
  refine calls_at (X := fun w' => Ext U w' ∧ Box4 w' U.heap.size (.int .i64 wn) (.int .i64 hn) (.int .i64 dn) (.slice (some ⟨gb, off, none⟩) n c) ∧ Box2 w' (U.heap.size + 1) (fl p0) (fl p1) ∧ Res3 w' (U.heap.size + 2) ∧ U.heap.size + 3 ≤ w'.heap.size) ⟨(((Ext.refl _).alloc _).alloc _).alloc _, ⟨by simp [go_sem], by simp [go_sem], by simp [go_sem], by simp [go_sem]⟩, ⟨by simp [go_sem], by simp [go_sem]⟩, ⟨by simp [go_sem], by simp [go_sem], by simp [go_sem], by simp [go_sem], by simp [go_sem], by simp [go_sem]⟩, by simp⟩ ?_
  rintro w0 ⟨hE, hb, hq, hr, hs⟩
  refine (l03Is_yes _ _ _ _ _ _ _ _ hnm hb.1 hb.2.1 hb.2.2.1 hb.2.2.2 HV.out).mono ?_
  rintro e w1 ⟨rfl, hx⟩
  replace hE := hE.trans hx
  replace hb := hb.ext hx
  replace hq := hq.ext hx
  replace hr := hr.ext hx
  replace hs := Nat.le_trans hs hx.size
  clear hx
  go_wp2_with fail
  refine (l04Is_yes _ p0 p1 _ hq.1 hq.2 HP.out).mono ?_
  rintro e w2 ⟨rfl, hx⟩
  replace hE := hE.trans hx
  replace hb := hb.ext hx
  replace hq := hq.ext hx
  replace hr := hr.ext hx
  replace hs := Nat.le_trans hs hx.size
  clear hx
  go_wp2_with fail
  refine (HC.out _ hE hb hq).mono ?_
  rintro e w3 ⟨A, c', b, rfl, hO, hL, hx⟩
  have hs1 := hE.size
  have hE2 := hE.trans hx
  have ⟨c0, c1, c2, f0, f1, f2⟩ := hr.ext hx
  clear hE hx hb hq hr
  go_wp2
  refine bodyPost_ret (v := .tuple #[.agg #[.int .i64 w, .int .i64 h, .slice A b.length c'], .bool o]) (by simp [results, Try.results29, go_sem, *]) rfl ⟨A, c', b, rfl, ?_, hL, ?_⟩
  · refine OwnF.weaken (base := w2.heap.size) ?_ (by omega)
    repeat (first | (with_reducible exact hO) | (with_reducible refine OwnF.set_below ?_ (by dsimp only; omega) _))
  · repeat (first | (with_reducible exact hE2) | (with_reducible refine Ext.setCell ?_ (by dsimp only; omega) _))
end Go.Proofs.Ythkfbmboiabolaa
