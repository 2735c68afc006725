/- The law on SumPaths holds. -/
import Derived.Test.YtpjlfgaflbghmaaPathOk
import Derived.Test.YtpjlfgaflbghmaaSums
import Derived.Test.YtpjlfgaflbghmaaPathSP
import Derived.Test.YtpjlfgaflbghmaaCSumPaths
namespace Go.Proofs.Ytpjlfgaflbghmaa
open Go.RowKit
set_option linter.unusedVariables false

/-- Sums of paths may be told. -/
def SOk (z0 z1 z2 : Int) (n p0 p1 : Nat) (d : Int) : Prop := VVol z0 z1 z2 n ∧ PV p0 p1 ∧ 1 ≤ d ∧ d ≤ 8
set_option maxRecDepth 8000 in
theorem implSumPaths_yes (z0 z1 z2 : Int) (A0 : Option Addr) (n0 m0 : Nat) (p0 p1 : Nat) (d : Int) (hn0 : n0 ≤ maxLen) (hok : SOk z0 z1 z2 n0 p0 p1 d) (o0 o1 o2 : Int) (L : List Nat) (U : World)
    (hcall : ∀ w0, Ext U w0 → Calls Try.prog 76 #[.agg #[.int .i64 z0, .int .i64 z1, .int .i64 z2, .slice A0 n0 m0], .int .i64 d, .func (.func 92) #[.agg #[.float .f32 p0, .float .f32 p1]] #[]] w0 fun e U' => ∃ A c' b, e = .returned (.agg #[.int .i64 o0, .int .i64 o1, .int .i64 o2, .slice A b.length c']) ∧ OwnF U' w0.heap.size 25 (.slice A b.length c') b ∧ b.map nrm = L ∧ Ext w0 U') :
    Calls Try.prog 57 #[.agg #[.int .i64 z0, .int .i64 z1, .int .i64 z2, .slice A0 n0 m0], .agg #[.float .f32 p0, .float .f32 p1], .int .i64 d] U fun e U' => ∃ A c' b, e = .returned (.tuple #[.agg #[.int .i64 o0, .int .i64 o1, .int .i64 o2, .slice A b.length c'], .bool true]) ∧ OwnF U' U.heap.size 25 (.slice A b.length c') b ∧ b.map nrm = L ∧ Ext U U' := by
  have HK := Lib.hid hcall
  have hd1 : ¬ d < 1 := by have := hok.2.2.1; omega
  obtain ⟨q, hq⟩ : ∃ q, IntKind.i64.wrap (d - 1) = q := ⟨_, rfl⟩
  have HV := Lib.hid (⟨hok.1, hok.2.1, by rw [← hq, wrap_small _ (by have := hok.2.2.1; omega) (by have := hok.2.2.2; omega)]; have := hok.2.2; omega⟩ : POk z0 z1 z2 n0 p0 p1 q)
  clear hcall hok
  go_enter Try.func57, Try.ntmps57
  go_wp2_with fail
  refine calls_at (X := fun w' => Ext U w' ∧ Box4 w' U.heap.size (.int .i64 z0) (.int .i64 z1) (.int .i64 z2) (.slice A0 n0 m0) ∧ Box2 w' (U.heap.size + 1) (fl p0) (fl p1) ∧ Res4 w' (U.heap.size + 1 + 1) ∧ U.heap.size + 1 + 1 + 1 ≤ w'.heap.size) ⟨(((Ext.refl _).alloc _).alloc _).alloc _, ⟨by simp [go_sem], by simp [go_sem], by simp [go_sem], by simp [go_sem]⟩, ⟨by simp [go_sem], by simp [go_sem]⟩, ⟨by simp [go_sem], by simp [go_sem], by simp [go_sem], by simp [go_sem], by simp [go_sem], by simp [go_sem], by simp [go_sem], by simp [go_sem]⟩, by simp⟩ ?_
  rintro w0 ⟨hx0, hb0, hq0, hr0, hs0⟩
  have ⟨p0', p1', p2', p3'⟩ := hb0
  have ⟨q0', q1'⟩ := hq0
  go_wp2_with fail
  clear p0' p1' p2' p3' q0' q1'
  refine (pathOk_yes z0 z1 z2 A0 n0 m0 p0 p1 q hn0 HV.out _).mono ?_
  rintro e w1 ⟨rfl, hx⟩
  have hb1 := hb0.ext hx
  have hq1 := hq0.ext hx
  have hr1 := hr0.ext hx
  have hE := hx0.trans hx
  have hs1 := Nat.le_trans hs0 hx.size
  clear hx hx0 hb0 hq0 hr0 hs0
  have ⟨p0', p1', p2', p3'⟩ := hb1
  have ⟨q0', q1'⟩ := hq1
  go_wp2_with fail
  clear p0' p1' p2' p3' q0' q1'
  refine (HK.out w1 hE).mono ?_
  rintro e w2 ⟨A, c', b, rfl, ho, hm, hx⟩
  have ⟨c0, c1, c2, c3, f0, f1, f2, f3⟩ := hr1.ext hx
  have hE2 := hE.trans hx
  clear hx hE hb1 hq1 hr1
  go_wp2
  refine bodyPost_ret (v := .tuple #[.agg #[.int .i64 o0, .int .i64 o1, .int .i64 o2, .slice A b.length c'], .bool true]) (by simp [results, Try.results57, go_sem, *]) rfl ⟨A, c', b, rfl, ?_, hm, ?_⟩
  · refine OwnF.weaken (base := w1.heap.size) ?_ (by omega)
    repeat (first | (with_reducible exact ho) | (with_reducible refine OwnF.set_below ?_ (by dsimp only; omega) _))
  · repeat (first | (with_reducible exact hE2) | (with_reducible refine Ext.setCell ?_ (by dsimp only; omega) _))
set_option maxRecDepth 8000 in
theorem implSumPaths_no (z0 z1 z2 : Int) (A0 : Option Addr) (n0 m0 : Nat) (p0 p1 : Nat) (d : Int) (hn0 : n0 ≤ maxLen) (hi : IntKind.i64.min ≤ d ∧ d ≤ IntKind.i64.max) (hok : ¬ SOk z0 z1 z2 n0 p0 p1 d) (U : World) :
    Calls Try.prog 57 #[.agg #[.int .i64 z0, .int .i64 z1, .int .i64 z2, .slice A0 n0 m0], .agg #[.float .f32 p0, .float .f32 p1], .int .i64 d] U fun e U' => ∃ A c' b, e = .returned (.tuple #[.agg #[.int .i64 0, .int .i64 0, .int .i64 0, .slice A b.length c'], .bool false]) ∧ OwnF U' U.heap.size 25 (.slice A b.length c') b ∧ b.map nrm = [] ∧ Ext U U' := by
  obtain ⟨q, hq⟩ : ∃ q, IntKind.i64.wrap (d - 1) = q := ⟨_, rfl⟩
  have HV := Lib.hid (fun h => hok (by
    obtain ⟨h1, h2, h3, h4⟩ := h
    have hmin : IntKind.i64.min = -9223372036854775808 := rfl
    have hmax : IntKind.i64.max = 9223372036854775807 := rfl
    by_cases hd : d = -9223372036854775808
    · subst hd
      have : IntKind.i64.wrap (-9223372036854775808 - 1) = 9223372036854775807 := by decide +kernel
      rw [this] at hq
      omega
    · rw [IntWalk.i64_in _ (by omega)] at hq
      exact ⟨h1, h2, by omega, by omega⟩) : ¬ POk z0 z1 z2 n0 p0 p1 q)
  clear hok hi
  go_enter Try.func57, Try.ntmps57
  go_wp2_with fail
  refine calls_at (X := fun w' => Ext U w' ∧ Box4 w' U.heap.size (.int .i64 z0) (.int .i64 z1) (.int .i64 z2) (.slice A0 n0 m0) ∧ Box2 w' (U.heap.size + 1) (fl p0) (fl p1) ∧ Res4 w' (U.heap.size + 1 + 1) ∧ U.heap.size + 1 + 1 + 1 ≤ w'.heap.size) ⟨(((Ext.refl _).alloc _).alloc _).alloc _, ⟨by simp [go_sem], by simp [go_sem], by simp [go_sem], by simp [go_sem]⟩, ⟨by simp [go_sem], by simp [go_sem]⟩, ⟨by simp [go_sem], by simp [go_sem], by simp [go_sem], by simp [go_sem], by simp [go_sem], by simp [go_sem], by simp [go_sem], by simp [go_sem]⟩, by simp⟩ ?_
  rintro w0 ⟨hx0, hb0, hq0, hr0, hs0⟩
  have ⟨p0', p1', p2', p3'⟩ := hb0
  have ⟨q0', q1'⟩ := hq0
  go_wp2_with fail
  clear p0' p1' p2' p3' q0' q1'
  refine (pathOk_no z0 z1 z2 A0 n0 m0 p0 p1 q hn0 HV.out _).mono ?_
  rintro e w1 ⟨rfl, hx⟩
  have hb1 := hb0.ext hx
  have hq1 := hq0.ext hx
  have hr1 := hr0.ext hx
  have hE := hx0.trans hx
  have hs1 := Nat.le_trans hs0 hx.size
  clear hx hx0 hb0 hq0 hr0 hs0
  have ⟨c0, c1, c2, c3, f0, f1, f2, f3⟩ := hr1
  clear hr1 hb1 hq1
  go_wp2
  refine bodyPost_ret (v := .tuple #[.agg #[.int .i64 0, .int .i64 0, .int .i64 0, .slice none 0 0], .bool false]) (by simp [results, Try.results57, go_sem, *]) rfl ⟨none, 0, [], rfl, OwnF.nil _ _ _, rfl, ?_⟩
  repeat (first | (with_reducible exact hE) | (with_reducible refine Ext.setCell ?_ (by dsimp only; omega) _))
set_option maxRecDepth 8000 in
theorem specSumPaths_of (wn hn dn gb off n c p0 p1 : Nat) (d : Int) (o0 o1 o2 : Int) (L : List Nat) (U : World) (hcm : c ≤ maxLen) (hnc : n ≤ c) (hok : SOk wn hn dn n p0 p1 d)
    (hcall : ∀ w0 gq, Ext U w0 → Box4 w0 U.heap.size (.int .i64 wn) (.int .i64 hn) (.int .i64 dn) (.slice (some ⟨gb, off, none⟩) n c) → Box2 w0 (U.heap.size + 1) (fl p0) (fl p1) → w0.cell? ⟨gq, 0, none⟩ = some (.int .i64 0) → Calls Try.prog 75 #[.pointer (some ⟨U.heap.size, 0, none⟩), .pointer (some ⟨U.heap.size + 1, 0, none⟩), .int .i64 d, .pointer (some ⟨gq, 0, none⟩)] w0 fun e U' => ∃ A c' b, e = .returned (.agg #[.int .i64 o0, .int .i64 o1, .int .i64 o2, .slice A b.length c']) ∧ OwnF U' w0.heap.size 25 (.slice A b.length c') b ∧ b.map nrm = L ∧ Ext w0 U') :
    Calls Try.prog 56 #[.agg #[.int .i64 wn, .int .i64 hn, .int .i64 dn, .slice (some ⟨gb, off, none⟩) n c], .agg #[.float .f32 p0, .float .f32 p1], .int .i64 d] U fun e U' => ∃ A c' b, e = .returned (.tuple #[.agg #[.int .i64 o0, .int .i64 o1, .int .i64 o2, .slice A b.length c'], .bool true]) ∧ OwnF U' U.heap.size 25 (.slice A b.length c') b ∧ b.map nrm = L ∧ Ext U U' := by
  have HK := Lib.hid hcall
  have HV := Lib.hid hok
  have hd0 := hok.2.2.1
  have hd7 := hok.2.2.2
  clear hcall hok
  go_enter Try.func56, Try.ntmps56
  go_wp2_with fail
  refine calls_at (X := fun w' => Ext U w' ∧ Box4 w' U.heap.size (.int .i64 wn) (.int .i64 hn) (.int .i64 dn) (.slice (some ⟨gb, off, none⟩) n c) ∧ Box2 w' (U.heap.size + 1) (fl p0) (fl p1) ∧ Res4 w' (U.heap.size + 1 + 1) ∧ U.heap.size + 1 + 1 + 1 ≤ w'.heap.size) ⟨(((Ext.refl _).alloc _).alloc _).alloc _, ⟨by simp [go_sem], by simp [go_sem], by simp [go_sem], by simp [go_sem]⟩, ⟨by simp [go_sem], by simp [go_sem]⟩, ⟨by simp [go_sem], by simp [go_sem], by simp [go_sem], by simp [go_sem], by simp [go_sem], by simp [go_sem], by simp [go_sem], by simp [go_sem]⟩, by simp⟩ ?_
  rintro w0 ⟨hx0, hb0, hq0, hr0, hs0⟩
  refine (l03Is_yes _ wn hn dn _ n c _ (Nat.le_trans hnc hcm) hb0.1 hb0.2.1 hb0.2.2.1 hb0.2.2.2 HV.out.1).mono ?_
  rintro e w1' ⟨rfl, hx⟩
  replace hb0 := hb0.ext hx
  replace hq0 := hq0.ext hx
  replace hr0 := hr0.ext hx
  replace hx0 := hx0.trans hx
  replace hs0 := Nat.le_trans hs0 hx.size
  clear hx
  go_wp2_with fail
  refine (l04Is_yes _ p0 p1 _ hq0.1 hq0.2 HV.out.2.1).mono ?_
  rintro e w2' ⟨rfl, hx⟩
  replace hb0 := hb0.ext hx
  replace hq0 := hq0.ext hx
  replace hr0 := hr0.ext hx
  replace hx0 := hx0.trans hx
  replace hs0 := Nat.le_trans hs0 hx.size
  clear hx
  go_wp2_with (go_at_call 74; refine (l00In_yes d 1 8 _ hd0 hd7).mono ?_; rintro e w' ⟨rfl, rfl⟩)
  refine calls_at (X := fun w' => Ext w2' w' ∧ w'.cell? ⟨w2'.heap.size, 0, none⟩ = some (.int .i64 0)) ⟨(Ext.refl _).alloc _, by simp [go_sem]⟩ ?_
  rintro w1 ⟨hx, hz⟩
  have hb1 := hb0.ext hx
  have hq1 := hq0.ext hx
  have hr1 := hr0.ext hx
  have hE := hx0.trans hx
  have hs1 := Nat.le_trans hs0 hx.size
  clear hx hx0 hb0 hq0 hr0 hs0
  refine (HK.out w1 _ hE hb1 hq1 hz).mono ?_
  rintro e w2 ⟨A, c', b, rfl, ho, hm, hx⟩
  have ⟨c0, c1, c2, c3, f0, f1, f2, f3⟩ := hr1.ext hx
  have hE2 := hE.trans hx
  clear hx hE hb1 hq1 hr1
  go_wp2
  refine bodyPost_ret (v := .tuple #[.agg #[.int .i64 o0, .int .i64 o1, .int .i64 o2, .slice A b.length c'], .bool true]) (by simp [results, Try.results56, go_sem, *]) rfl ⟨A, c', b, rfl, ?_, hm, ?_⟩
  · refine OwnF.weaken (base := w1.heap.size) ?_ (by omega)
    repeat (first | (with_reducible exact ho) | (with_reducible refine OwnF.set_below ?_ (by dsimp only; omega) _))
  · repeat (first | (with_reducible exact hE2) | (with_reducible refine Ext.setCell ?_ (by dsimp only; omega) _))
set_option maxRecDepth 8000 in
theorem specSumPaths_no1 (z0 z1 z2 : Int) (A0 : Option Addr) (n0 m0 : Nat) (p0 p1 : Nat) (d : Int) (hn0 : n0 ≤ maxLen) (hv : ¬ VVol z0 z1 z2 n0) (U : World) :
    Calls Try.prog 56 #[.agg #[.int .i64 z0, .int .i64 z1, .int .i64 z2, .slice A0 n0 m0], .agg #[.float .f32 p0, .float .f32 p1], .int .i64 d] U fun e U' => ∃ A c' b, e = .returned (.tuple #[.agg #[.int .i64 0, .int .i64 0, .int .i64 0, .slice A b.length c'], .bool false]) ∧ OwnF U' U.heap.size 25 (.slice A b.length c') b ∧ b.map nrm = [] ∧ Ext U U' := by
  have HVX := Lib.hid hv
  clear hv
  go_enter Try.func56, Try.ntmps56
  go_wp2_with fail
  refine calls_at (X := fun w' => Ext U w' ∧ Box4 w' U.heap.size (.int .i64 z0) (.int .i64 z1) (.int .i64 z2) (.slice A0 n0 m0) ∧ Box2 w' (U.heap.size + 1) (fl p0) (fl p1) ∧ Res4 w' (U.heap.size + 1 + 1) ∧ U.heap.size + 1 + 1 + 1 ≤ w'.heap.size) ⟨(((Ext.refl _).alloc _).alloc _).alloc _, ⟨by simp [go_sem], by simp [go_sem], by simp [go_sem], by simp [go_sem]⟩, ⟨by simp [go_sem], by simp [go_sem]⟩, ⟨by simp [go_sem], by simp [go_sem], by simp [go_sem], by simp [go_sem], by simp [go_sem], by simp [go_sem], by simp [go_sem], by simp [go_sem]⟩, by simp⟩ ?_
  rintro w0 ⟨hx0, hb0, hq0, hr0, hs0⟩
  refine (l03Is_not _ _ _ _ A0 n0 m0 _ hn0 hb0.1 hb0.2.1 hb0.2.2.1 hb0.2.2.2 HVX.out).mono ?_
  rintro e w1' ⟨rfl, hx⟩
  replace hb0 := hb0.ext hx
  replace hq0 := hq0.ext hx
  replace hr0 := hr0.ext hx
  replace hx0 := hx0.trans hx
  replace hs0 := Nat.le_trans hs0 hx.size
  clear hx
  have hr1 := hr0
  have hb1 := hb0
  have hq1 := hq0
  have hE := hx0
  clear hr0 hb0 hq0 hx0
  have ⟨c0, c1, c2, c3, f0, f1, f2, f3⟩ := hr1
  clear hr1 hb1 hq1
  go_wp2
  refine bodyPost_ret (v := .tuple #[.agg #[.int .i64 0, .int .i64 0, .int .i64 0, .slice none 0 0], .bool false]) (by simp [results, Try.results56, go_sem, *]) rfl ⟨none, 0, [], rfl, OwnF.nil _ _ _, rfl, ?_⟩
  repeat (first | (with_reducible exact hE) | (with_reducible refine Ext.setCell ?_ (by dsimp only; omega) _))
set_option maxRecDepth 8000 in
theorem specSumPaths_no2 (z0 z1 z2 : Int) (A0 : Option Addr) (n0 m0 : Nat) (p0 p1 : Nat) (d : Int) (hn0 : n0 ≤ maxLen) (hv : VVol z0 z1 z2 n0) (hp : ¬ PV p0 p1) (U : World) :
    Calls Try.prog 56 #[.agg #[.int .i64 z0, .int .i64 z1, .int .i64 z2, .slice A0 n0 m0], .agg #[.float .f32 p0, .float .f32 p1], .int .i64 d] U fun e U' => ∃ A c' b, e = .returned (.tuple #[.agg #[.int .i64 0, .int .i64 0, .int .i64 0, .slice A b.length c'], .bool false]) ∧ OwnF U' U.heap.size 25 (.slice A b.length c') b ∧ b.map nrm = [] ∧ Ext U U' := by
  have HVX := Lib.hid hv
  have HPX := Lib.hid hp
  clear hv hp
  go_enter Try.func56, Try.ntmps56
  go_wp2_with fail
  refine calls_at (X := fun w' => Ext U w' ∧ Box4 w' U.heap.size (.int .i64 z0) (.int .i64 z1) (.int .i64 z2) (.slice A0 n0 m0) ∧ Box2 w' (U.heap.size + 1) (fl p0) (fl p1) ∧ Res4 w' (U.heap.size + 1 + 1) ∧ U.heap.size + 1 + 1 + 1 ≤ w'.heap.size) ⟨(((Ext.refl _).alloc _).alloc _).alloc _, ⟨by simp [go_sem], by simp [go_sem], by simp [go_sem], by simp [go_sem]⟩, ⟨by simp [go_sem], by simp [go_sem]⟩, ⟨by simp [go_sem], by simp [go_sem], by simp [go_sem], by simp [go_sem], by simp [go_sem], by simp [go_sem], by simp [go_sem], by simp [go_sem]⟩, by simp⟩ ?_
  rintro w0 ⟨hx0, hb0, hq0, hr0, hs0⟩
  refine (l03Is_yes _ _ _ _ A0 n0 m0 _ hn0 hb0.1 hb0.2.1 hb0.2.2.1 hb0.2.2.2 HVX.out).mono ?_
  rintro e w1' ⟨rfl, hx⟩
  replace hb0 := hb0.ext hx
  replace hq0 := hq0.ext hx
  replace hr0 := hr0.ext hx
  replace hx0 := hx0.trans hx
  replace hs0 := Nat.le_trans hs0 hx.size
  clear hx
  go_wp2_with fail
  refine (l04Is_no _ p0 p1 _ hq0.1 hq0.2 HPX.out).mono ?_
  rintro e w2' ⟨rfl, hx⟩
  replace hb0 := hb0.ext hx
  replace hq0 := hq0.ext hx
  replace hr0 := hr0.ext hx
  replace hx0 := hx0.trans hx
  replace hs0 := Nat.le_trans hs0 hx.size
  clear hx
  have hr1 := hr0
  have hb1 := hb0
  have hq1 := hq0
  have hE := hx0
  clear hr0 hb0 hq0 hx0
  have ⟨c0, c1, c2, c3, f0, f1, f2, f3⟩ := hr1
  clear hr1 hb1 hq1
  go_wp2
  refine bodyPost_ret (v := .tuple #[.agg #[.int .i64 0, .int .i64 0, .int .i64 0, .slice none 0 0], .bool false]) (by simp [results, Try.results56, go_sem, *]) rfl ⟨none, 0, [], rfl, OwnF.nil _ _ _, rfl, ?_⟩
  repeat (first | (with_reducible exact hE) | (with_reducible refine Ext.setCell ?_ (by dsimp only; omega) _))
set_option maxRecDepth 8000 in
theorem specSumPaths_no3 (z0 z1 z2 : Int) (A0 : Option Addr) (n0 m0 : Nat) (p0 p1 : Nat) (d : Int) (hn0 : n0 ≤ maxLen) (hv : VVol z0 z1 z2 n0) (hp : PV p0 p1) (hd : d < 1 ∨ 8 < d) (U : World) :
    Calls Try.prog 56 #[.agg #[.int .i64 z0, .int .i64 z1, .int .i64 z2, .slice A0 n0 m0], .agg #[.float .f32 p0, .float .f32 p1], .int .i64 d] U fun e U' => ∃ A c' b, e = .returned (.tuple #[.agg #[.int .i64 0, .int .i64 0, .int .i64 0, .slice A b.length c'], .bool false]) ∧ OwnF U' U.heap.size 25 (.slice A b.length c') b ∧ b.map nrm = [] ∧ Ext U U' := by
  have HVX := Lib.hid hv
  have HPX := Lib.hid hp
  have HDX := Lib.hid hd
  clear hv hp hd
  go_enter Try.func56, Try.ntmps56
  go_wp2_with fail
  refine calls_at (X := fun w' => Ext U w' ∧ Box4 w' U.heap.size (.int .i64 z0) (.int .i64 z1) (.int .i64 z2) (.slice A0 n0 m0) ∧ Box2 w' (U.heap.size + 1) (fl p0) (fl p1) ∧ Res4 w' (U.heap.size + 1 + 1) ∧ U.heap.size + 1 + 1 + 1 ≤ w'.heap.size) ⟨(((Ext.refl _).alloc _).alloc _).alloc _, ⟨by simp [go_sem], by simp [go_sem], by simp [go_sem], by simp [go_sem]⟩, ⟨by simp [go_sem], by simp [go_sem]⟩, ⟨by simp [go_sem], by simp [go_sem], by simp [go_sem], by simp [go_sem], by simp [go_sem], by simp [go_sem], by simp [go_sem], by simp [go_sem]⟩, by simp⟩ ?_
  rintro w0 ⟨hx0, hb0, hq0, hr0, hs0⟩
  refine (l03Is_yes _ _ _ _ A0 n0 m0 _ hn0 hb0.1 hb0.2.1 hb0.2.2.1 hb0.2.2.2 HVX.out).mono ?_
  rintro e w1' ⟨rfl, hx⟩
  replace hb0 := hb0.ext hx
  replace hq0 := hq0.ext hx
  replace hr0 := hr0.ext hx
  replace hx0 := hx0.trans hx
  replace hs0 := Nat.le_trans hs0 hx.size
  clear hx
  go_wp2_with fail
  refine (l04Is_yes _ p0 p1 _ hq0.1 hq0.2 HPX.out).mono ?_
  rintro e w2' ⟨rfl, hx⟩
  replace hb0 := hb0.ext hx
  replace hq0 := hq0.ext hx
  replace hr0 := hr0.ext hx
  replace hx0 := hx0.trans hx
  replace hs0 := Nat.le_trans hs0 hx.size
  clear hx
  have hr1 := hr0
  have hb1 := hb0
  have hq1 := hq0
  have hE := hx0
  clear hr0 hb0 hq0 hx0
  have ⟨c0, c1, c2, c3, f0, f1, f2, f3⟩ := hr1
  clear hr1 hb1 hq1
  go_wp2_with (go_at_call 74; refine (l00In_no d 1 8 _ HDX.out).mono ?_; rintro e w' ⟨rfl, rfl⟩)
  refine bodyPost_ret (v := .tuple #[.agg #[.int .i64 0, .int .i64 0, .int .i64 0, .slice none 0 0], .bool false]) (by simp [results, Try.results56, go_sem, *]) rfl ⟨none, 0, [], rfl, OwnF.nil _ _ _, rfl, ?_⟩
  repeat (first | (with_reducible exact hE) | (with_reducible refine Ext.setCell ?_ (by dsimp only; omega) _))
theorem specSumPaths_no (z0 z1 z2 : Int) (A0 : Option Addr) (n0 m0 : Nat) (p0 p1 : Nat) (d : Int) (hn0 : n0 ≤ maxLen) (hno : ¬ SOk z0 z1 z2 n0 p0 p1 d) (U : World) :
    Calls Try.prog 56 #[.agg #[.int .i64 z0, .int .i64 z1, .int .i64 z2, .slice A0 n0 m0], .agg #[.float .f32 p0, .float .f32 p1], .int .i64 d] U fun e U' => ∃ A c' b, e = .returned (.tuple #[.agg #[.int .i64 0, .int .i64 0, .int .i64 0, .slice A b.length c'], .bool false]) ∧ OwnF U' U.heap.size 25 (.slice A b.length c') b ∧ b.map nrm = [] ∧ Ext U U' := by
  by_cases hv : VVol z0 z1 z2 n0
  · by_cases hp : PV p0 p1
    · exact specSumPaths_no3 z0 z1 z2 A0 n0 m0 p0 p1 d hn0 hv hp (Decidable.byContradiction fun h => hno ⟨hv, hp, by omega, by omega⟩) U
    · exact specSumPaths_no2 z0 z1 z2 A0 n0 m0 p0 p1 d hn0 hv hp U
  · exact specSumPaths_no1 z0 z1 z2 A0 n0 m0 p0 p1 d hn0 hv U
set_option maxRecDepth 8000 in
theorem lawSumPaths_any (W : World) (z0 z1 z2 : Int) (_ : -9223372036854775808 ≤ z0 ∧ z0 ≤ 9223372036854775807) (_ : -9223372036854775808 ≤ z1 ∧ z1 ≤ 9223372036854775807) (_ : -9223372036854775808 ≤ z2 ∧ z2 ≤ 9223372036854775807) (A : Option Addr) (n m : Nat) (bs : List Nat) (hc : n ≤ m) (hm : m ≤ maxLen) (hr : Reads W A n bs) (hw : Words bs) (p0 p1 : Nat) (h0 : p0 < 4294967296) (h1 : p1 < 4294967296) (d : Int) (hi : IntKind.i64.min ≤ d ∧ d ≤ IntKind.i64.max) :
    Calls Try.prog 13 #[.agg #[.int .i64 z0, .int .i64 z1, .int .i64 z2, .slice A n m], .agg #[.float .f32 p0, .float .f32 p1], .int .i64 d] W fun e W' => e = .returned (.bool true) ∧ Ext W W' := by
  have hn : n ≤ maxLen := Nat.le_trans hc hm
  by_cases hok : SOk z0 z1 z2 n p0 p1 d
  · obtain ⟨hv, hp, hd0, hd7⟩ := hok
    obtain ⟨k, rfl⟩ := Int.eq_ofNat_of_zero_le (show 0 ≤ d by omega)
    obtain ⟨wn, rfl⟩ := Int.eq_ofNat_of_zero_le (show 0 ≤ z0 by have := hv.1.1; omega)
    obtain ⟨hn', rfl⟩ := Int.eq_ofNat_of_zero_le (show 0 ≤ z1 by have := hv.1.2.2.1; omega)
    obtain ⟨dn, rfl⟩ := Int.eq_ofNat_of_zero_le (show 0 ≤ z2 by have := hv.2.1; omega)
    obtain ⟨hnn, hn0, hn2⟩ := vol_n hv
    have hPl : ∀ i : Nat, (cells3 (fun x y e => ((pathT (fun _ _ _ _ => pathG (nrm p0) (nrm p1)) (ownC bs wn dn) wn hn' (wayX (i : Int)) (wayY (i : Int))) x y).getD e 0) wn dn (wn * hn' * dn)).length = n := fun i => by rw [cells3_length]; omega
    refine lawSumPaths_core W wn hn' dn A n m bs hn hr p0 p1 k wn hn' dn (sumL (fun i => cells3 (fun x y e => ((pathT (fun _ _ _ _ => pathG (nrm p0) (nrm p1)) (ownC bs wn dn) wn hn' (wayX (i : Int)) (wayY (i : Int))) x y).getD e 0) wn dn (wn * hn' * dn)) n k) (by rw [sumL_len]; omega) true ?_ ?_
    · intro w D hd
      obtain ⟨gb, off, rfl, hl⟩ := hd.2 (by omega)
      refine specSumPaths_of wn hn' dn gb off n n p0 p1 k wn hn' dn _ w hn (Nat.le_refl _) ⟨hv, hp, hd0, hd7⟩ (fun w0 gq hx0 hb0 hq0 hz => ?_)
      exact (l04Sums_any w.heap.size (w.heap.size + 1) gq wn hn' dn gb off n n k (by omega) _ w0 hb0 hv hPl (fun W1 i hW1 hi => l04PathP_any w.heap.size (w.heap.size + 1) gq wn hn' dn gb off n n bs i (by omega) (by omega) p0 p1 _ _ ⟨h0, rfl⟩ ⟨h1, rfl⟩ W1 (hb0.ext hW1) (hq0.ext hW1) (cell_ext hz hW1) ((hl.ext hx0).ext hW1) hd.1 hw (Nat.le_refl _) hn hv)).mono (fun e w1 h => by
        obtain ⟨H, c1, b1, rfl, ho, hm1, hx1⟩ := h
        have hbl : b1.length = n := len_of_map hm1 (sumL_len _ _ _)
        subst hbl
        exact ⟨_, c1, b1, rfl, ho, hm1, hx1⟩)
    · intro w D hd
      obtain ⟨gb, off, rfl, hl⟩ := hd.2 (by omega)
      refine implSumPaths_yes wn hn' dn _ n n p0 p1 k hn ⟨hv, hp, hd0, hd7⟩ wn hn' dn _ w (fun w0 hx0 => ?_)
      exact (sums_any wn hn' dn gb off n n k (by omega) 92 #[.agg #[.float .f32 p0, .float .f32 p1]] #[] _ w0 hv hPl (fun W1 i hW1 hi => path_any wn hn' dn gb off n n bs i (by omega) (by omega) 92 #[.agg #[.float .f32 p0, .float .f32 p1]] #[] (fun _ _ _ _ => nrm p0) (fun _ _ _ _ => nrm p1) (by kernel_rfl) W1 ((hl.ext hx0).ext hW1) hd.1 hw (Nat.le_refl _) hn hv (fun W2 x y u v _ _ _ _ _ => (same_any p0 p1 x y u v W2).mono (fun e w' h => by
        obtain ⟨rfl, hx⟩ := h
        exact ⟨p0, p1, rfl, ⟨h0, rfl⟩, ⟨h1, rfl⟩, hx⟩)))).mono (fun e w1 h => by
        obtain ⟨H, c1, b1, rfl, ho, hm1, hw1, hx1⟩ := h
        have hbl : b1.length = n := len_of_map hm1 (sumL_len _ _ _)
        subst hbl
        exact ⟨_, c1, b1, rfl, ho, hm1, hx1⟩)
  · exact lawSumPaths_core W z0 z1 z2 A n m bs hn hr p0 p1 d 0 0 0 [] (by simp) false (fun w D hd => specSumPaths_no z0 z1 z2 D n n p0 p1 d hn hok w) (fun w D hd => implSumPaths_no z0 z1 z2 D n n p0 p1 d hn hi hok w)
end Go.Proofs.Ytpjlfgaflbghmaa
