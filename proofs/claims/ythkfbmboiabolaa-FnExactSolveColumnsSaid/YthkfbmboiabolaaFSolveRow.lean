/- Contracts: the row that costs least. -/
import Derived.Test.YthkfbmboiabolaaSolveC
import Derived.Test.YthkfbmboiabolaaSolveR
import Derived.Test.YthkfbmboiabolaaRowOk
import Derived.Test.YthkfbmboiabolaaVols
namespace Go.Proofs.Ythkfbmboiabolaa
open Go.RowKit
set_option linter.unusedVariables false

/-- What a solved row hands back. -/
def RowR (W : World) (L : List Int) (X : Nat) (o : Bool) (e : Ending) (U' : World) : Prop := ∃ A c b r, e = .returned (.tuple #[.slice A b.length c, .float .f32 r, .bool o]) ∧ OwnI U' W.heap.size 2 (.slice A b.length c) b ∧ Eqi b L ∧ Is r X ∧ Ext W U'
def RowSay (C : Nat → Nat → Nat) (p0 p1 dn wn : Nat) (L : List Int) (X : Nat) (o : Bool) : Prop := (SolOk C wn dn ∧ o = true ∧ L = solL C p0 p1 dn wn ∧ X = solV C p0 p1 dn wn) ∨ (¬ SolOk C wn dn ∧ o = false ∧ L = [] ∧ X = 0)
theorem RowR.no (W U' : World) (h : Ext W U') : RowR W [] 0 false (.returned (.tuple #[.slice none 0 0, .float .f32 0, .bool false])) U' := ⟨none, 0, [], 0, rfl, OwnI.nil _ _ _, Eqi.refl _, Is.zero, h⟩
theorem l04Row_say (g gp wn hn dn gb off n c y p0 p1 : Nat) (bs : List Nat) (L : List Int) (X : Nat) (o : Bool) (U : World) (hB : Box4 U g (.int .i64 wn) (.int .i64 hn) (.int .i64 dn) (.slice (some ⟨gb, off, none⟩) n c)) (hQ : Box2 U gp (fl p0) (fl p1)) (hl : Lies U gb off bs) (hlen : bs.length = n) (hwd : WordsN bs) (hnc : n ≤ c) (hcm : c ≤ maxLen) (hv : VVol wn hn dn n) (hy : y < hn) (hs : RowSay (rowC wn dn bs y) p0 p1 dn wn L X o) :
    Calls Try.prog 54 #[.pointer (some ⟨g, 0, none⟩), .pointer (some ⟨gp, 0, none⟩), .int .i64 y] U (RowR U L X o) := by
  rcases hs with ⟨hok, rfl, rfl, rfl⟩ | ⟨hno, rfl, rfl, rfl⟩
  · refine (l04Row_yes g gp wn hn dn gb off n c y p0 p1 bs U hB hQ hl hlen hwd hnc hcm hv hy hok).mono ?_
    exact fun e U' h => h
  · refine (l04Row_no g gp wn hn dn gb off n c y bs U hB hl hlen hv hy hno).mono ?_
    rintro e U' ⟨rfl, hx⟩
    exact RowR.no _ _ hx
theorem solve_say (g wn hn dn gb off n c y p0 p1 : Nat) (bs : List Nat) (L : List Int) (X : Nat) (o : Bool) (U : World) (hB : Box4 U g (.int .i64 wn) (.int .i64 hn) (.int .i64 dn) (.slice (some ⟨gb, off, none⟩) n c)) (hl : Lies U gb off bs) (hlen : bs.length = n) (hwd : Words bs) (hnc : n ≤ c) (hcm : c ≤ maxLen) (hv : VVol wn hn dn n) (hy : y < hn) (hs : RowSay (rowC wn dn bs y) p0 p1 dn wn L X o) :
    Calls Try.prog 55 #[.pointer (some ⟨g, 0, none⟩), .agg #[.float .f32 p0, .float .f32 p1], .int .i64 y] U (RowR U L X o) := by
  refine solve_any g wn hn dn gb off n c y p0 p1 bs U _ hB hl hlen hwd hnc hcm hv hy (fun hno U' hx => ?_) (fun hok U' A c' b r h1 h2 h3 h4 => ?_)
  · rcases hs with ⟨hok, rfl, rfl, rfl⟩ | ⟨_, rfl, rfl, rfl⟩
    · exact absurd hok hno
    · exact RowR.no _ _ hx
  · rcases hs with ⟨_, rfl, rfl, rfl⟩ | ⟨hno, rfl, rfl, rfl⟩
    · exact ⟨A, c', b, r, rfl, h1, h2, h3, h4⟩
    · exact absurd hok hno
theorem implSolveRow_no (z0 z1 z2 : Int) (A : Option Addr) (n c : Nat) (p0 p1 : Nat) (y : Int) (U : World) (hnm : n ≤ maxLen) (hno : ¬ ROk z0 z1 z2 n p0 p1 y) :
    Calls Try.prog 25 #[.agg #[.int .i64 z0, .int .i64 z1, .int .i64 z2, .slice A n c], .agg #[.float .f32 p0, .float .f32 p1], .int .i64 y] U (RowR U [] 0 false) := by
  have HN := Lib.hid hno
  clear hno
  go_enter Try.func25, Try.ntmps25
  go_wp2_with fail
  refine calls_at (X := fun w' => Ext U w') (((Ext.refl _).alloc _).alloc _) ?_
  intro w0 hE
  refine (rowOk_no z0 z1 z2 A n c p0 p1 y hnm HN.out _).mono ?_
  rintro e w1 ⟨rfl, hx⟩
  have hE2 := hE.trans hx
  clear hE hx
  go_wp2
  go_ret3
  exact RowR.no _ _ hE2
theorem implSolveRow_yes (wn hn dn gb off n c : Nat) (bs : List Nat) (p0 p1 y : Nat) (L : List Int) (X : Nat) (o : Bool) (U : World) (hl : Lies U gb off bs) (hlen : bs.length = n) (hw : Words bs) (hnc : n ≤ c) (hcm : c ≤ maxLen) (hok : ROk wn hn dn n p0 p1 y) (hs : RowSay (rowC wn dn bs y) p0 p1 dn wn L X o) :
    Calls Try.prog 25 #[.agg #[.int .i64 wn, .int .i64 hn, .int .i64 dn, .slice (some ⟨gb, off, none⟩) n c], .agg #[.float .f32 p0, .float .f32 p1], .int .i64 y] U (RowR U L X o) := by
  have HC := Lib.hid (fun (W : World) (hE : Ext U W) (hB : Box4 W U.heap.size (.int .i64 wn) (.int .i64 hn) (.int .i64 dn) (.slice (some ⟨gb, off, none⟩) n c)) => solve_say U.heap.size wn hn dn gb off n c y p0 p1 bs L X o W hB (hl.ext hE) hlen hw hnc hcm hok.1 (by have := hok.2.2.2; omega) hs)
  have HN := Lib.hid hok
  have hnm : n ≤ maxLen := Nat.le_trans hnc hcm
  clear hok hs hl hlen hw
  go_enter Try.func25, Try.ntmps25
  go_wp2_with fail
  refine calls_at (X := fun w' => Ext U w' ∧ Box4 w' U.heap.size (.int .i64 wn) (.int .i64 hn) (.int .i64 dn) (.slice (some ⟨gb, off, none⟩) n c) ∧ Box2 w' (U.heap.size + 1) (fl p0) (fl p1)) ⟨((Ext.refl _).alloc _).alloc _, ⟨by simp [go_sem], by simp [go_sem], by simp [go_sem], by simp [go_sem]⟩, ⟨by simp [go_sem], by simp [go_sem]⟩⟩ ?_
  rintro w0 ⟨hE, hb, hq⟩
  refine (rowOk_yes wn hn dn (some ⟨gb, off, none⟩) n c p0 p1 y hnm HN.out _).mono ?_
  rintro e w1 ⟨rfl, hx⟩
  replace hE := hE.trans hx
  replace hb := hb.ext hx
  have ⟨qa, qb⟩ := hq.ext hx
  clear hx hq
  go_wp2_with fail
  refine (HC.out _ hE hb).mono ?_
  rintro e w2 ⟨A, c', b, r, rfl, hO, hL, hX, hx⟩
  have hs1 := hE.size
  have hE2 := hE.trans hx
  clear hE hx hb qa qb
  go_wp2
  go_ret3
  exact ⟨A, c', b, r, rfl, hO.weaken hs1, hL, hX, hE2⟩
theorem specSolveRow_no1 (z0 z1 z2 : Int) (A : Option Addr) (n c : Nat) (p0 p1 : Nat) (y : Int) (U : World) (hnm : n ≤ maxLen) (hv : ¬ VVol z0 z1 z2 n) :
    Calls Try.prog 24 #[.agg #[.int .i64 z0, .int .i64 z1, .int .i64 z2, .slice A n c], .agg #[.float .f32 p0, .float .f32 p1], .int .i64 y] U (RowR U [] 0 false) := by
  have HV := Lib.hid hv
  clear hv
  go_enter Try.func24, Try.ntmps24
  go_wp2_with fail
  refine calls_at (X := fun w' => Ext U w' ∧ Box4 w' U.heap.size (.int .i64 z0) (.int .i64 z1) (.int .i64 z2) (.slice A n c) ∧ Box2 w' (U.heap.size + 1) (fl p0) (fl p1)) ⟨((Ext.refl _).alloc _).alloc _, ⟨by simp [go_sem], by simp [go_sem], by simp [go_sem], by simp [go_sem]⟩, ⟨by simp [go_sem], by simp [go_sem]⟩⟩ ?_
  rintro w0 ⟨hE, hb, hq⟩
  refine (l03Is_not _ _ _ _ _ _ _ _ hnm hb.1 hb.2.1 hb.2.2.1 hb.2.2.2 HV.out).mono ?_
  rintro e w1 ⟨rfl, hx⟩
  replace hE := hE.trans hx
  clear hx hb hq
  go_wp2
  go_ret3
  exact RowR.no _ _ hE
theorem specSolveRow_no2 (z0 z1 z2 : Int) (A : Option Addr) (n c : Nat) (p0 p1 : Nat) (y : Int) (U : World) (hnm : n ≤ maxLen) (hv : VVol z0 z1 z2 n) (hp : ¬ PV p0 p1) :
    Calls Try.prog 24 #[.agg #[.int .i64 z0, .int .i64 z1, .int .i64 z2, .slice A n c], .agg #[.float .f32 p0, .float .f32 p1], .int .i64 y] U (RowR U [] 0 false) := by
  have HV := Lib.hid hv
  have a1 : IntKind.i64.wrap (z1 - 1) = z1 - 1 := wrap_small _ (by have := hv.1.2.2.1; omega) (by have := hv.1.2.2.2.1; omega)
  have HP := Lib.hid hp
  clear hv hp
  go_enter Try.func24, Try.ntmps24
  go_wp2_with fail
  refine calls_at (X := fun w' => Ext U w' ∧ Box4 w' U.heap.size (.int .i64 z0) (.int .i64 z1) (.int .i64 z2) (.slice A n c) ∧ Box2 w' (U.heap.size + 1) (fl p0) (fl p1)) ⟨((Ext.refl _).alloc _).alloc _, ⟨by simp [go_sem], by simp [go_sem], by simp [go_sem], by simp [go_sem]⟩, ⟨by simp [go_sem], by simp [go_sem]⟩⟩ ?_
  rintro w0 ⟨hE, hb, hq⟩
  refine (l03Is_yes _ _ _ _ _ _ _ _ hnm hb.1 hb.2.1 hb.2.2.1 hb.2.2.2 HV.out).mono ?_
  rintro e w1 ⟨rfl, hx⟩
  replace hE := hE.trans hx
  replace hb := hb.ext hx
  replace hq := hq.ext hx
  clear hx
  have ⟨p0', p1', p2', p3'⟩ := hb
  have ⟨q0', q1'⟩ := hq
  go_wp2_with fail
  clear p0' p1' p2' p3' q0' q1'
  refine (l04Is_no _ p0 p1 _ hq.1 hq.2 HP.out).mono ?_
  rintro e w2 ⟨rfl, hx⟩
  replace hE := hE.trans hx
  clear hx hb hq
  go_wp2
  go_ret3
  exact RowR.no _ _ hE
theorem specSolveRow_no3 (z0 z1 z2 : Int) (A : Option Addr) (n c : Nat) (p0 p1 : Nat) (y : Int) (U : World) (hnm : n ≤ maxLen) (hv : VVol z0 z1 z2 n) (hp : PV p0 p1) (hy : y < 0 ∨ z1 - 1 < y) :
    Calls Try.prog 24 #[.agg #[.int .i64 z0, .int .i64 z1, .int .i64 z2, .slice A n c], .agg #[.float .f32 p0, .float .f32 p1], .int .i64 y] U (RowR U [] 0 false) := by
  have HV := Lib.hid hv
  have a1 : IntKind.i64.wrap (z1 - 1) = z1 - 1 := wrap_small _ (by have := hv.1.2.2.1; omega) (by have := hv.1.2.2.2.1; omega)
  have HP := Lib.hid hp
  have HY := Lib.hid hy
  clear hv hp hy
  go_enter Try.func24, Try.ntmps24
  go_wp2_with fail
  refine calls_at (X := fun w' => Ext U w' ∧ Box4 w' U.heap.size (.int .i64 z0) (.int .i64 z1) (.int .i64 z2) (.slice A n c) ∧ Box2 w' (U.heap.size + 1) (fl p0) (fl p1)) ⟨((Ext.refl _).alloc _).alloc _, ⟨by simp [go_sem], by simp [go_sem], by simp [go_sem], by simp [go_sem]⟩, ⟨by simp [go_sem], by simp [go_sem]⟩⟩ ?_
  rintro w0 ⟨hE, hb, hq⟩
  refine (l03Is_yes _ _ _ _ _ _ _ _ hnm hb.1 hb.2.1 hb.2.2.1 hb.2.2.2 HV.out).mono ?_
  rintro e w1 ⟨rfl, hx⟩
  replace hE := hE.trans hx
  replace hb := hb.ext hx
  replace hq := hq.ext hx
  clear hx
  have ⟨p0', p1', p2', p3'⟩ := hb
  have ⟨q0', q1'⟩ := hq
  go_wp2_with fail
  clear p0' p1' p2' p3' q0' q1'
  refine (l04Is_yes _ p0 p1 _ hq.1 hq.2 HP.out).mono ?_
  rintro e w2 ⟨rfl, hx⟩
  replace hE := hE.trans hx
  replace hb := hb.ext hx
  replace hq := hq.ext hx
  clear hx
  have ⟨p0', p1', p2', p3'⟩ := hb
  have ⟨q0', q1'⟩ := hq
  go_wp2_with fail
  refine (l00In_no y 0 (z1 - 1) _ HY.out).mono ?_
  rintro e w3 ⟨rfl, rfl⟩
  go_wp2
  go_ret3
  exact RowR.no _ _ hE
theorem specSolveRow_yes (wn hn dn gb off n c : Nat) (bs : List Nat) (p0 p1 y : Nat) (L : List Int) (X : Nat) (o : Bool) (U : World) (hl : Lies U gb off bs) (hlen : bs.length = n) (hw : Words bs) (hnc : n ≤ c) (hcm : c ≤ maxLen) (hok : ROk wn hn dn n p0 p1 y) (hs : RowSay (rowC wn dn bs y) p0 p1 dn wn L X o) :
    Calls Try.prog 24 #[.agg #[.int .i64 wn, .int .i64 hn, .int .i64 dn, .slice (some ⟨gb, off, none⟩) n c], .agg #[.float .f32 p0, .float .f32 p1], .int .i64 y] U (RowR U L X o) := by
  have HC := Lib.hid (fun (W : World) (hE : Ext U W) (hB : Box4 W U.heap.size (.int .i64 wn) (.int .i64 hn) (.int .i64 dn) (.slice (some ⟨gb, off, none⟩) n c)) (hQ : Box2 W (U.heap.size + 1) (fl p0) (fl p1)) => l04Row_say U.heap.size (U.heap.size + 1) wn hn dn gb off n c y p0 p1 bs L X o W hB hQ (hl.ext hE) hlen hw.n hnc hcm hok.1 (by have := hok.2.2.2; omega) hs)
  have HN := Lib.hid hok
  have hnm : n ≤ maxLen := Nat.le_trans hnc hcm
  have a1 : IntKind.i64.wrap ((hn : Int) - 1) = (hn : Int) - 1 := wrap_small _ (by have := hok.1.1.2.2.1; omega) (by have := hok.1.1.2.2.2.1; omega)
  clear hok hs hl hlen hw
  go_enter Try.func24, Try.ntmps24
  go_wp2_with fail
  refine calls_at (X := fun w' => Ext U w' ∧ Box4 w' U.heap.size (.int .i64 wn) (.int .i64 hn) (.int .i64 dn) (.slice (some ⟨gb, off, none⟩) n c) ∧ Box2 w' (U.heap.size + 1) (fl p0) (fl p1)) ⟨((Ext.refl _).alloc _).alloc _, ⟨by simp [go_sem], by simp [go_sem], by simp [go_sem], by simp [go_sem]⟩, ⟨by simp [go_sem], by simp [go_sem]⟩⟩ ?_
  rintro w0 ⟨hE, hb, hq⟩
  refine (l03Is_yes _ _ _ _ _ _ _ _ hnm hb.1 hb.2.1 hb.2.2.1 hb.2.2.2 HN.out.1).mono ?_
  rintro e w1 ⟨rfl, hx⟩
  replace hE := hE.trans hx
  replace hb := hb.ext hx
  replace hq := hq.ext hx
  clear hx
  have ⟨p0', p1', p2', p3'⟩ := hb
  have ⟨q0', q1'⟩ := hq
  go_wp2_with fail
  clear p0' p1' p2' p3' q0' q1'
  refine (l04Is_yes _ p0 p1 _ hq.1 hq.2 HN.out.2.1).mono ?_
  rintro e w2 ⟨rfl, hx⟩
  replace hE := hE.trans hx
  replace hb := hb.ext hx
  replace hq := hq.ext hx
  clear hx
  have ⟨p0', p1', p2', p3'⟩ := hb
  have ⟨q0', q1'⟩ := hq
  go_wp2_with fail
  refine (l00In_yes (y : Int) 0 ((hn : Int) - 1) _ HN.out.2.2.1 HN.out.2.2.2).mono ?_
  rintro e w3 ⟨rfl, rfl⟩
  clear p0' p1' p2' p3' q0' q1'
  go_wp2_with fail
  refine (HC.out _ hE hb hq).mono ?_
  rintro e w4 ⟨A, c', b, r, rfl, hO, hL, hX, hx⟩
  have hs1 := hE.size
  have hE2 := hE.trans hx
  clear hE hx hb hq
  go_wp2
  go_ret3
  exact ⟨A, c', b, r, rfl, hO.weaken hs1, hL, hX, hE2⟩
end Go.Proofs.Ythkfbmboiabolaa
