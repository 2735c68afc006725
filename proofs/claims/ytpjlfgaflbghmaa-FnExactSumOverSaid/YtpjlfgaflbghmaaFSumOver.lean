/- The law on SumOver holds. -/
import Derived.Test.YtpjlfgaflbghmaaOverOk
import Derived.Test.YtpjlfgaflbghmaaOver
import Derived.Test.YtpjlfgaflbghmaaSums
import Derived.Test.YtpjlfgaflbghmaaPathSO
import Derived.Test.YtpjlfgaflbghmaaCSumOver
namespace Go.Proofs.Ytpjlfgaflbghmaa
open Go.RowKit
set_option linter.unusedVariables false

/-- Sums of paths may be told. -/
def SOk (z0 z1 z2 : Int) (n p0 p1 : Nat) (d : Int) : Prop := VVol z0 z1 z2 n ∧ PV p0 p1 ∧ 1 ≤ d ∧ d ≤ 8
set_option maxHeartbeats 2000000 in
set_option maxRecDepth 8000 in
theorem implSumOver_yes (z0 z1 z2 : Int) (A0 : Option Addr) (n0 m0 : Nat) (p0 p1 : Nat) (y0 y1 : Int) (A1 : Option Addr) (n1 m1 : Nat) (d : Int) (hn0 : n0 ≤ maxLen) (hn1 : n1 ≤ maxLen) (hok : SOk z0 z1 z2 n0 p0 p1 d) (hf : Fit z0 z1 y0 y1 n1) (o0 o1 o2 : Int) (L : List Nat) (U : World)
    (hcall : ∀ w0 b1 b2, Ext U w0 → Box3 w0 (U.heap.size + 1 + 1) (.int .i64 y0) (.int .i64 y1) (.slice A1 n1 m1) → Box2 w0 b1 (fl p0) (fl p1) → w0.cell? ⟨b2, 0, none⟩ = some (.pointer (some ⟨U.heap.size + 1 + 1, 0, none⟩)) → Calls Try.prog 76 #[.agg #[.int .i64 z0, .int .i64 z1, .int .i64 z2, .slice A0 n0 m0], .int .i64 d, (.func (.func 112) #[] #[.pointer (some ⟨b1, 0, none⟩), .pointer (some ⟨b2, 0, none⟩)])] w0 fun e U' => ∃ A c' b, e = .returned (.agg #[.int .i64 o0, .int .i64 o1, .int .i64 o2, .slice A b.length c']) ∧ OwnF U' w0.heap.size 25 (.slice A b.length c') b ∧ b.map nrm = L ∧ Ext w0 U') :
    Calls Try.prog 32 #[.agg #[.int .i64 z0, .int .i64 z1, .int .i64 z2, .slice A0 n0 m0], .agg #[.float .f32 p0, .float .f32 p1], .agg #[.int .i64 y0, .int .i64 y1, .slice A1 n1 m1], .int .i64 d] U fun e U' => ∃ A c' b, e = .returned (.tuple #[.agg #[.int .i64 o0, .int .i64 o1, .int .i64 o2, .slice A b.length c'], .bool true]) ∧ OwnF U' U.heap.size 25 (.slice A b.length c') b ∧ b.map nrm = L ∧ Ext U U' := by
  have HK := Lib.hid hcall
  have hd1 : ¬ d < 1 := by have := hok.2.2.1; omega
  obtain ⟨q, hq⟩ : ∃ q, IntKind.i64.wrap (d - 1) = q := ⟨_, rfl⟩
  have HV := Lib.hid (⟨hok.1, hok.2.1, by rw [← hq, wrap_small _ (by have := hok.2.2.1; omega) (by have := hok.2.2.2; omega)]; have := hok.2.2; omega⟩ : POk z0 z1 z2 n0 p0 p1 q)
  have HFT := Lib.hid hf
  clear hcall hok hf
  go_enter Try.func32, Try.ntmps32
  go_wp2_with fail
  refine calls_at (X := fun w' => Ext U w' ∧ Box4 w' U.heap.size (.int .i64 z0) (.int .i64 z1) (.int .i64 z2) (.slice A0 n0 m0) ∧ Box2 w' (U.heap.size + 1) (fl p0) (fl p1) ∧ Box3 w' (U.heap.size + 1 + 1) (.int .i64 y0) (.int .i64 y1) (.slice A1 n1 m1) ∧ Res4 w' (U.heap.size + 1 + 1 + 1) ∧ U.heap.size + 1 + 1 + 1 + 1 ≤ w'.heap.size) ⟨((((Ext.refl _).alloc _).alloc _).alloc _).alloc _, ⟨by simp [go_sem], by simp [go_sem], by simp [go_sem], by simp [go_sem]⟩, ⟨by simp [go_sem], by simp [go_sem]⟩, ⟨by simp [go_sem], by simp [go_sem], by simp [go_sem]⟩, ⟨by simp [go_sem], by simp [go_sem], by simp [go_sem], by simp [go_sem], by simp [go_sem], by simp [go_sem], by simp [go_sem], by simp [go_sem]⟩, by simp⟩ ?_
  rintro w0 ⟨hx0, hb0, hq0, ho0, hr0, hs0⟩
  have ⟨p0', p1', p2', p3'⟩ := hb0
  have ⟨q0', q1'⟩ := hq0
  have ⟨r0', r1', r2'⟩ := ho0
  go_wp2_with fail
  clear p0' p1' p2' p3' q0' q1' r0' r1' r2'
  refine (pathOk_yes z0 z1 z2 A0 n0 m0 p0 p1 q hn0 HV.out _).mono ?_
  rintro e w1 ⟨rfl, hx⟩
  replace hb0 := hb0.ext hx
  replace hq0 := hq0.ext hx
  replace ho0 := ho0.ext hx
  replace hr0 := hr0.ext hx
  replace hx0 := hx0.trans hx
  replace hs0 := Nat.le_trans hs0 hx.size
  clear hx
  have ⟨p0', p1', p2', p3'⟩ := hb0
  have ⟨q0', q1'⟩ := hq0
  have ⟨r0', r1', r2'⟩ := ho0
  go_wp2_with fail
  clear p0' p1' p2' p3' q0' q1' r0' r1' r2'
  refine (overOk_yes z0 z1 z2 A0 n0 m0 y0 y1 A1 n1 m1 hn1 HFT.out _).mono ?_
  rintro e w2 ⟨rfl, hx⟩
  replace hb0 := hb0.ext hx
  replace hq0 := hq0.ext hx
  replace ho0 := ho0.ext hx
  replace hr0 := hr0.ext hx
  replace hx0 := hx0.trans hx
  replace hs0 := Nat.le_trans hs0 hx.size
  clear hx
  have ⟨p0', p1', p2', p3'⟩ := hb0
  have ⟨q0', q1'⟩ := hq0
  have ⟨r0', r1', r2'⟩ := ho0
  go_wp2_with fail
  refine region_wx 5 [none, none, none, some (fun u W => ∃ b1 b2 : Nat, u = .func (.func 112) #[] #[.pointer (some ⟨b1, 0, none⟩), .pointer (some ⟨b2, 0, none⟩)] ∧ Box2 W b1 (fl p0) (fl p1) ∧ W.cell? ⟨b2, 0, none⟩ = some (.pointer (some ⟨U.heap.size + 1 + 1, 0, none⟩))), some (fun u W => (∃ (A : Option Addr) (c' : Nat) (b : List Nat), u = .agg #[.int .i64 o0, .int .i64 o1, .int .i64 o2, .slice A b.length c'] ∧ OwnF W w2.heap.size 25 (.slice A b.length c') b ∧ b.map nrm = L))] (by kernel_rfl) (by kernel_rfl) ?_
  simp only [List.take_succ_cons, List.take_zero, List.drop_succ_cons, List.drop_zero]
  repeat ((first | refine wx_skip rfl ?_ | refine wx_nilCheck rfl rfl _ rfl _ rfl ?_ | (refine wx_float rfl rfl _ _ _ _ _ _ _ rfl rfl rfl rfl ?_; intro r hr) | (refine wx_k rfl rfl rfl (fun K hK => ?_); go_big_quiet_op; refine hK _ ?_; clear hK K) | (refine wx_callR _ rfl rfl 73 _ _ rfl (by kernel_rfl) (fun W hW hF => ?_) ?_; (· go_simp; (with_reducible refine (over_any p0 p1 (U.heap.size + 1 + 1) W).mono ?_); rintro e w' ⟨b1, b2, rfl, hb, hc, hx⟩; exact ⟨_, rfl, ⟨b1, b2, rfl, hb, hc⟩, hx⟩); rintro u V0 hV0 ⟨b1, b2, rfl, hbb, hbc⟩) | (refine wx_callR _ rfl rfl 76 _ _ rfl (by kernel_rfl) (fun W hW hF => ?_) ?_; (· go_simp; have hVW : Ext V0 W := hF 3 (by kernel_rfl); (with_reducible refine (HK.out W b1 b2 (hx0.trans hW) (ho0.ext hW) (hbb.ext hVW) (cell_ext hbc hVW)).mono ?_); rintro e w' ⟨A, c', b, rfl, ho, hm, hx⟩; exact ⟨_, rfl, ⟨A, c', b, rfl, ho.weaken hW.size, hm⟩, hx⟩); rintro u V1 hV1 ⟨A, c', b, rfl, ho, hm⟩)); (try simp only [Act.put, List.setIfInBounds_toArray, List.set_cons_zero, List.set_cons_succ]); (try simp only [List.tail_cons]))
  refine wx_nil (fun W hW hF => ?_)
  have hFW : Ext V1 W := hF 4
  replace ho := ho.ext hFW
  have ⟨c0, c1, c2, c3, f0, f1, f2, f3⟩ := hr0.ext hW
  have hE2 := hx0.trans hW
  clear p0' p1' p2' p3' q0' q1' r0' r1' r2' hF hFW hr0 hb0 hq0 ho0 hbb hbc
  go_wp2
  refine bodyPost_ret (v := .tuple #[.agg #[.int .i64 o0, .int .i64 o1, .int .i64 o2, .slice A b.length c'], .bool true]) (by simp [results, Try.results32, go_sem, *]) rfl ⟨A, c', b, rfl, ?_, hm, ?_⟩
  · refine OwnF.weaken (base := w2.heap.size) ?_ (by omega)
    repeat (first | (with_reducible exact ho) | (with_reducible refine OwnF.set_below ?_ (by dsimp only; omega) _))
  · repeat (first | (with_reducible exact hE2) | (with_reducible refine Ext.setCell ?_ (by dsimp only; omega) _))
set_option maxRecDepth 8000 in
theorem implSumOver_no1 (z0 z1 z2 : Int) (A0 : Option Addr) (n0 m0 : Nat) (p0 p1 : Nat) (y0 y1 : Int) (A1 : Option Addr) (n1 m1 : Nat) (d : Int) (hn0 : n0 ≤ maxLen) (hi : IntKind.i64.min ≤ d ∧ d ≤ IntKind.i64.max) (hok : ¬ SOk z0 z1 z2 n0 p0 p1 d) (U : World) :
    Calls Try.prog 32 #[.agg #[.int .i64 z0, .int .i64 z1, .int .i64 z2, .slice A0 n0 m0], .agg #[.float .f32 p0, .float .f32 p1], .agg #[.int .i64 y0, .int .i64 y1, .slice A1 n1 m1], .int .i64 d] U fun e U' => ∃ A c' b, e = .returned (.tuple #[.agg #[.int .i64 0, .int .i64 0, .int .i64 0, .slice A b.length c'], .bool false]) ∧ OwnF U' U.heap.size 25 (.slice A b.length c') b ∧ b.map nrm = [] ∧ Ext U U' := by
  obtain ⟨q, hq⟩ : ∃ q, IntKind.i64.wrap (d - 1) = q := ⟨_, rfl⟩
  have HV := Lib.hid (fun h => hok (by
    obtain ⟨h1, h2, h3, h4⟩ := h
    have hmin : IntKind.i64.min = -9223372036854775808 := rfl
    have hmax : IntKind.i64.max = 9223372036854775807 := rfl
    by_cases hd : d = -9223372036854775808
    · subst hd
      have : IntKind.i64.wrap (-9223372036854775808 - 1) = 9223372036854775807 := by decide +kernel
      rw [this] at hq
      omega
    · rw [IntWalk.i64_in _ (by omega)] at hq
      exact ⟨h1, h2, by omega, by omega⟩) : ¬ POk z0 z1 z2 n0 p0 p1 q)
  clear hok hi
  go_enter Try.func32, Try.ntmps32
  go_wp2_with fail
  refine calls_at (X := fun w' => Ext U w' ∧ Box4 w' U.heap.size (.int .i64 z0) (.int .i64 z1) (.int .i64 z2) (.slice A0 n0 m0) ∧ Box2 w' (U.heap.size + 1) (fl p0) (fl p1) ∧ Box3 w' (U.heap.size + 1 + 1) (.int .i64 y0) (.int .i64 y1) (.slice A1 n1 m1) ∧ Res4 w' (U.heap.size + 1 + 1 + 1) ∧ U.heap.size + 1 + 1 + 1 + 1 ≤ w'.heap.size) ⟨((((Ext.refl _).alloc _).alloc _).alloc _).alloc _, ⟨by simp [go_sem], by simp [go_sem], by simp [go_sem], by simp [go_sem]⟩, ⟨by simp [go_sem], by simp [go_sem]⟩, ⟨by simp [go_sem], by simp [go_sem], by simp [go_sem]⟩, ⟨by simp [go_sem], by simp [go_sem], by simp [go_sem], by simp [go_sem], by simp [go_sem], by simp [go_sem], by simp [go_sem], by simp [go_sem]⟩, by simp⟩ ?_
  rintro w0 ⟨hx0, hb0, hq0, ho0, hr0, hs0⟩
  have ⟨p0', p1', p2', p3'⟩ := hb0
  have ⟨q0', q1'⟩ := hq0
  have ⟨r0', r1', r2'⟩ := ho0
  go_wp2_with fail
  clear p0' p1' p2' p3' q0' q1' r0' r1' r2'
  refine (pathOk_no z0 z1 z2 A0 n0 m0 p0 p1 q hn0 HV.out _).mono ?_
  rintro e w1 ⟨rfl, hx⟩
  replace hb0 := hb0.ext hx
  replace hq0 := hq0.ext hx
  replace ho0 := ho0.ext hx
  replace hr0 := hr0.ext hx
  replace hx0 := hx0.trans hx
  replace hs0 := Nat.le_trans hs0 hx.size
  clear hx
  have ⟨c0, c1, c2, c3, f0, f1, f2, f3⟩ := hr0
  have hE := hx0
  clear hr0 hb0 hq0 ho0 hx0
  go_wp2
  refine bodyPost_ret (v := .tuple #[.agg #[.int .i64 0, .int .i64 0, .int .i64 0, .slice none 0 0], .bool false]) (by simp [results, Try.results32, go_sem, *]) rfl ⟨none, 0, [], rfl, OwnF.nil _ _ _, rfl, ?_⟩
  repeat (first | (with_reducible exact hE) | (with_reducible refine Ext.setCell ?_ (by dsimp only; omega) _))
set_option maxRecDepth 8000 in
theorem implSumOver_no2 (z0 z1 z2 : Int) (A0 : Option Addr) (n0 m0 : Nat) (p0 p1 : Nat) (y0 y1 : Int) (A1 : Option Addr) (n1 m1 : Nat) (d : Int) (hn0 : n0 ≤ maxLen) (hn1 : n1 ≤ maxLen) (hok : SOk z0 z1 z2 n0 p0 p1 d) (hf : ¬ Fit z0 z1 y0 y1 n1) (U : World) :
    Calls Try.prog 32 #[.agg #[.int .i64 z0, .int .i64 z1, .int .i64 z2, .slice A0 n0 m0], .agg #[.float .f32 p0, .float .f32 p1], .agg #[.int .i64 y0, .int .i64 y1, .slice A1 n1 m1], .int .i64 d] U fun e U' => ∃ A c' b, e = .returned (.tuple #[.agg #[.int .i64 0, .int .i64 0, .int .i64 0, .slice A b.length c'], .bool false]) ∧ OwnF U' U.heap.size 25 (.slice A b.length c') b ∧ b.map nrm = [] ∧ Ext U U' := by
  have hd1 : ¬ d < 1 := by have := hok.2.2.1; omega
  obtain ⟨q, hq⟩ : ∃ q, IntKind.i64.wrap (d - 1) = q := ⟨_, rfl⟩
  have HV := Lib.hid (⟨hok.1, hok.2.1, by rw [← hq, wrap_small _ (by have := hok.2.2.1; omega) (by have := hok.2.2.2; omega)]; have := hok.2.2; omega⟩ : POk z0 z1 z2 n0 p0 p1 q)
  have HFT := Lib.hid hf
  clear hok hf
  go_enter Try.func32, Try.ntmps32
  go_wp2_with fail
  refine calls_at (X := fun w' => Ext U w' ∧ Box4 w' U.heap.size (.int .i64 z0) (.int .i64 z1) (.int .i64 z2) (.slice A0 n0 m0) ∧ Box2 w' (U.heap.size + 1) (fl p0) (fl p1) ∧ Box3 w' (U.heap.size + 1 + 1) (.int .i64 y0) (.int .i64 y1) (.slice A1 n1 m1) ∧ Res4 w' (U.heap.size + 1 + 1 + 1) ∧ U.heap.size + 1 + 1 + 1 + 1 ≤ w'.heap.size) ⟨((((Ext.refl _).alloc _).alloc _).alloc _).alloc _, ⟨by simp [go_sem], by simp [go_sem], by simp [go_sem], by simp [go_sem]⟩, ⟨by simp [go_sem], by simp [go_sem]⟩, ⟨by simp [go_sem], by simp [go_sem], by simp [go_sem]⟩, ⟨by simp [go_sem], by simp [go_sem], by simp [go_sem], by simp [go_sem], by simp [go_sem], by simp [go_sem], by simp [go_sem], by simp [go_sem]⟩, by simp⟩ ?_
  rintro w0 ⟨hx0, hb0, hq0, ho0, hr0, hs0⟩
  have ⟨p0', p1', p2', p3'⟩ := hb0
  have ⟨q0', q1'⟩ := hq0
  have ⟨r0', r1', r2'⟩ := ho0
  go_wp2_with fail
  clear p0' p1' p2' p3' q0' q1' r0' r1' r2'
  refine (pathOk_yes z0 z1 z2 A0 n0 m0 p0 p1 q hn0 HV.out _).mono ?_
  rintro e w1 ⟨rfl, hx⟩
  replace hb0 := hb0.ext hx
  replace hq0 := hq0.ext hx
  replace ho0 := ho0.ext hx
  replace hr0 := hr0.ext hx
  replace hx0 := hx0.trans hx
  replace hs0 := Nat.le_trans hs0 hx.size
  clear hx
  have ⟨p0', p1', p2', p3'⟩ := hb0
  have ⟨q0', q1'⟩ := hq0
  have ⟨r0', r1', r2'⟩ := ho0
  go_wp2_with fail
  clear p0' p1' p2' p3' q0' q1' r0' r1' r2'
  refine (overOk_no z0 z1 z2 A0 n0 m0 y0 y1 A1 n1 m1 hn1 HFT.out _).mono ?_
  rintro e w2 ⟨rfl, hx⟩
  replace hb0 := hb0.ext hx
  replace hq0 := hq0.ext hx
  replace ho0 := ho0.ext hx
  replace hr0 := hr0.ext hx
  replace hx0 := hx0.trans hx
  replace hs0 := Nat.le_trans hs0 hx.size
  clear hx
  have ⟨c0, c1, c2, c3, f0, f1, f2, f3⟩ := hr0
  have hE := hx0
  clear hr0 hb0 hq0 ho0 hx0
  go_wp2
  refine bodyPost_ret (v := .tuple #[.agg #[.int .i64 0, .int .i64 0, .int .i64 0, .slice none 0 0], .bool false]) (by simp [results, Try.results32, go_sem, *]) rfl ⟨none, 0, [], rfl, OwnF.nil _ _ _, rfl, ?_⟩
  repeat (first | (with_reducible exact hE) | (with_reducible refine Ext.setCell ?_ (by dsimp only; omega) _))
set_option maxRecDepth 8000 in
theorem specSumOver_of (z0 z1 z2 : Int) (A0 : Option Addr) (n0 m0 : Nat) (p0 p1 : Nat) (y0 y1 : Int) (A1 : Option Addr) (n1 m1 : Nat) (d : Int) (hn0 : n0 ≤ maxLen) (hn1 : n1 ≤ maxLen) (hv : VVol z0 z1 z2 n0) (hp : PV p0 p1) (hd0 : 1 ≤ d) (hd7 : d ≤ 8) (hf : Fit z0 z1 y0 y1 n1) (o0 o1 o2 : Int) (L : List Nat) (U : World)
    (hcall : ∀ w0, Ext U w0 → Box4 w0 U.heap.size (.int .i64 z0) (.int .i64 z1) (.int .i64 z2) (.slice A0 n0 m0) → Box2 w0 (U.heap.size + 1) (fl p0) (fl p1) → Box3 w0 (U.heap.size + 1 + 1) (.int .i64 y0) (.int .i64 y1) (.slice A1 n1 m1) → Calls Try.prog 75 #[.pointer (some ⟨U.heap.size, 0, none⟩), .pointer (some ⟨U.heap.size + 1, 0, none⟩), .int .i64 d, .pointer (some ⟨U.heap.size + 1 + 1, 0, none⟩)] w0 fun e U' => ∃ A c' b, e = .returned (.agg #[.int .i64 o0, .int .i64 o1, .int .i64 o2, .slice A b.length c']) ∧ OwnF U' w0.heap.size 25 (.slice A b.length c') b ∧ b.map nrm = L ∧ Ext w0 U') :
    Calls Try.prog 31 #[.agg #[.int .i64 z0, .int .i64 z1, .int .i64 z2, .slice A0 n0 m0], .agg #[.float .f32 p0, .float .f32 p1], .agg #[.int .i64 y0, .int .i64 y1, .slice A1 n1 m1], .int .i64 d] U fun e U' => ∃ A c' b, e = .returned (.tuple #[.agg #[.int .i64 o0, .int .i64 o1, .int .i64 o2, .slice A b.length c'], .bool true]) ∧ OwnF U' U.heap.size 25 (.slice A b.length c') b ∧ b.map nrm = L ∧ Ext U U' := by
  have HK := Lib.hid hcall
  have HV := Lib.hid hv
  have HPX := Lib.hid hp
  have HFT := Lib.hid hf
  clear hcall hv hp hf
  go_enter Try.func31, Try.ntmps31
  go_wp2_with fail
  refine calls_at (X := fun w' => Ext U w' ∧ Box4 w' U.heap.size (.int .i64 z0) (.int .i64 z1) (.int .i64 z2) (.slice A0 n0 m0) ∧ Box2 w' (U.heap.size + 1) (fl p0) (fl p1) ∧ Box3 w' (U.heap.size + 1 + 1) (.int .i64 y0) (.int .i64 y1) (.slice A1 n1 m1) ∧ Res4 w' (U.heap.size + 1 + 1 + 1) ∧ U.heap.size + 1 + 1 + 1 + 1 ≤ w'.heap.size) ⟨((((Ext.refl _).alloc _).alloc _).alloc _).alloc _, ⟨by simp [go_sem], by simp [go_sem], by simp [go_sem], by simp [go_sem]⟩, ⟨by simp [go_sem], by simp [go_sem]⟩, ⟨by simp [go_sem], by simp [go_sem], by simp [go_sem]⟩, ⟨by simp [go_sem], by simp [go_sem], by simp [go_sem], by simp [go_sem], by simp [go_sem], by simp [go_sem], by simp [go_sem], by simp [go_sem]⟩, by simp⟩ ?_
  rintro w0 ⟨hx0, hb0, hq0, ho0, hr0, hs0⟩
  refine (l04Fits_yes _ _ z0 z1 z2 A0 n0 m0 y0 y1 A1 n1 m1 hn0 hn1 _ hb0 ho0 HV.out HFT.out).mono ?_
  rintro e w1 ⟨rfl, hx⟩
  replace hb0 := hb0.ext hx
  replace hq0 := hq0.ext hx
  replace ho0 := ho0.ext hx
  replace hr0 := hr0.ext hx
  replace hx0 := hx0.trans hx
  replace hs0 := Nat.le_trans hs0 hx.size
  clear hx
  go_wp2_with fail
  refine (l04Is_yes _ p0 p1 _ hq0.1 hq0.2 HPX.out).mono ?_
  rintro e w2 ⟨rfl, hx⟩
  replace hb0 := hb0.ext hx
  replace hq0 := hq0.ext hx
  replace ho0 := ho0.ext hx
  replace hr0 := hr0.ext hx
  replace hx0 := hx0.trans hx
  replace hs0 := Nat.le_trans hs0 hx.size
  clear hx
  go_wp2_with (go_at_call 74; refine (l00In_yes d 1 8 _ hd0 hd7).mono ?_; rintro e w' ⟨rfl, rfl⟩)
  refine (HK.out w2 hx0 hb0 hq0 ho0).mono ?_
  rintro e w3 ⟨A, c', b, rfl, ho, hm, hx⟩
  have ⟨c0, c1, c2, c3, f0, f1, f2, f3⟩ := hr0.ext hx
  have hE2 := hx0.trans hx
  clear hx hx0 hb0 hq0 ho0 hr0
  go_wp2
  refine bodyPost_ret (v := .tuple #[.agg #[.int .i64 o0, .int .i64 o1, .int .i64 o2, .slice A b.length c'], .bool true]) (by simp [results, Try.results31, go_sem, *]) rfl ⟨A, c', b, rfl, ?_, hm, ?_⟩
  · refine OwnF.weaken (base := w2.heap.size) ?_ (by omega)
    repeat (first | (with_reducible exact ho) | (with_reducible refine OwnF.set_below ?_ (by dsimp only; omega) _))
  · repeat (first | (with_reducible exact hE2) | (with_reducible refine Ext.setCell ?_ (by dsimp only; omega) _))
set_option maxRecDepth 8000 in
theorem specSumOver_no1 (z0 z1 z2 : Int) (A0 : Option Addr) (n0 m0 : Nat) (p0 p1 : Nat) (y0 y1 : Int) (A1 : Option Addr) (n1 m1 : Nat) (d : Int) (hn0 : n0 ≤ maxLen) (hn1 : n1 ≤ maxLen) (hno : ¬ (VVol z0 z1 z2 n0 ∧ Fit z0 z1 y0 y1 n1)) (U : World) :
    Calls Try.prog 31 #[.agg #[.int .i64 z0, .int .i64 z1, .int .i64 z2, .slice A0 n0 m0], .agg #[.float .f32 p0, .float .f32 p1], .agg #[.int .i64 y0, .int .i64 y1, .slice A1 n1 m1], .int .i64 d] U fun e U' => ∃ A c' b, e = .returned (.tuple #[.agg #[.int .i64 0, .int .i64 0, .int .i64 0, .slice A b.length c'], .bool false]) ∧ OwnF U' U.heap.size 25 (.slice A b.length c') b ∧ b.map nrm = [] ∧ Ext U U' := by
  have HhnoX := Lib.hid hno
  clear hno
  go_enter Try.func31, Try.ntmps31
  go_wp2_with fail
  refine calls_at (X := fun w' => Ext U w' ∧ Box4 w' U.heap.size (.int .i64 z0) (.int .i64 z1) (.int .i64 z2) (.slice A0 n0 m0) ∧ Box2 w' (U.heap.size + 1) (fl p0) (fl p1) ∧ Box3 w' (U.heap.size + 1 + 1) (.int .i64 y0) (.int .i64 y1) (.slice A1 n1 m1) ∧ Res4 w' (U.heap.size + 1 + 1 + 1) ∧ U.heap.size + 1 + 1 + 1 + 1 ≤ w'.heap.size) ⟨((((Ext.refl _).alloc _).alloc _).alloc _).alloc _, ⟨by simp [go_sem], by simp [go_sem], by simp [go_sem], by simp [go_sem]⟩, ⟨by simp [go_sem], by simp [go_sem]⟩, ⟨by simp [go_sem], by simp [go_sem], by simp [go_sem]⟩, ⟨by simp [go_sem], by simp [go_sem], by simp [go_sem], by simp [go_sem], by simp [go_sem], by simp [go_sem], by simp [go_sem], by simp [go_sem]⟩, by simp⟩ ?_
  rintro w0 ⟨hx0, hb0, hq0, ho0, hr0, hs0⟩
  refine (l04Fits_no _ _ z0 z1 z2 A0 n0 m0 y0 y1 A1 n1 m1 hn0 hn1 _ hb0 ho0 HhnoX.out).mono ?_
  rintro e w1 ⟨rfl, hx⟩
  replace hb0 := hb0.ext hx
  replace hq0 := hq0.ext hx
  replace ho0 := ho0.ext hx
  replace hr0 := hr0.ext hx
  replace hx0 := hx0.trans hx
  replace hs0 := Nat.le_trans hs0 hx.size
  clear hx
  have ⟨c0, c1, c2, c3, f0, f1, f2, f3⟩ := hr0
  have hE := hx0
  clear hr0 hb0 hq0 ho0 hx0
  go_wp2
  refine bodyPost_ret (v := .tuple #[.agg #[.int .i64 0, .int .i64 0, .int .i64 0, .slice none 0 0], .bool false]) (by simp [results, Try.results31, go_sem, *]) rfl ⟨none, 0, [], rfl, OwnF.nil _ _ _, rfl, ?_⟩
  repeat (first | (with_reducible exact hE) | (with_reducible refine Ext.setCell ?_ (by dsimp only; omega) _))
set_option maxRecDepth 8000 in
theorem specSumOver_no2 (z0 z1 z2 : Int) (A0 : Option Addr) (n0 m0 : Nat) (p0 p1 : Nat) (y0 y1 : Int) (A1 : Option Addr) (n1 m1 : Nat) (d : Int) (hn0 : n0 ≤ maxLen) (hn1 : n1 ≤ maxLen) (hv : VVol z0 z1 z2 n0) (hf : Fit z0 z1 y0 y1 n1) (hp : ¬ PV p0 p1) (U : World) :
    Calls Try.prog 31 #[.agg #[.int .i64 z0, .int .i64 z1, .int .i64 z2, .slice A0 n0 m0], .agg #[.float .f32 p0, .float .f32 p1], .agg #[.int .i64 y0, .int .i64 y1, .slice A1 n1 m1], .int .i64 d] U fun e U' => ∃ A c' b, e = .returned (.tuple #[.agg #[.int .i64 0, .int .i64 0, .int .i64 0, .slice A b.length c'], .bool false]) ∧ OwnF U' U.heap.size 25 (.slice A b.length c') b ∧ b.map nrm = [] ∧ Ext U U' := by
  have HhvX := Lib.hid hv
  have HhfX := Lib.hid hf
  have HhpX := Lib.hid hp
  clear hv hf hp
  go_enter Try.func31, Try.ntmps31
  go_wp2_with fail
  refine calls_at (X := fun w' => Ext U w' ∧ Box4 w' U.heap.size (.int .i64 z0) (.int .i64 z1) (.int .i64 z2) (.slice A0 n0 m0) ∧ Box2 w' (U.heap.size + 1) (fl p0) (fl p1) ∧ Box3 w' (U.heap.size + 1 + 1) (.int .i64 y0) (.int .i64 y1) (.slice A1 n1 m1) ∧ Res4 w' (U.heap.size + 1 + 1 + 1) ∧ U.heap.size + 1 + 1 + 1 + 1 ≤ w'.heap.size) ⟨((((Ext.refl _).alloc _).alloc _).alloc _).alloc _, ⟨by simp [go_sem], by simp [go_sem], by simp [go_sem], by simp [go_sem]⟩, ⟨by simp [go_sem], by simp [go_sem]⟩, ⟨by simp [go_sem], by simp [go_sem], by simp [go_sem]⟩, ⟨by simp [go_sem], by simp [go_sem], by simp [go_sem], by simp [go_sem], by simp [go_sem], by simp [go_sem], by simp [go_sem], by simp [go_sem]⟩, by simp⟩ ?_
  rintro w0 ⟨hx0, hb0, hq0, ho0, hr0, hs0⟩
  refine (l04Fits_yes _ _ z0 z1 z2 A0 n0 m0 y0 y1 A1 n1 m1 hn0 hn1 _ hb0 ho0 HhvX.out HhfX.out).mono ?_
  rintro e w1 ⟨rfl, hx⟩
  replace hb0 := hb0.ext hx
  replace hq0 := hq0.ext hx
  replace ho0 := ho0.ext hx
  replace hr0 := hr0.ext hx
  replace hx0 := hx0.trans hx
  replace hs0 := Nat.le_trans hs0 hx.size
  clear hx
  go_wp2_with fail
  refine (l04Is_no _ p0 p1 _ hq0.1 hq0.2 HhpX.out).mono ?_
  rintro e w2 ⟨rfl, hx⟩
  replace hb0 := hb0.ext hx
  replace hq0 := hq0.ext hx
  replace ho0 := ho0.ext hx
  replace hr0 := hr0.ext hx
  replace hx0 := hx0.trans hx
  replace hs0 := Nat.le_trans hs0 hx.size
  clear hx
  have ⟨c0, c1, c2, c3, f0, f1, f2, f3⟩ := hr0
  have hE := hx0
  clear hr0 hb0 hq0 ho0 hx0
  go_wp2
  refine bodyPost_ret (v := .tuple #[.agg #[.int .i64 0, .int .i64 0, .int .i64 0, .slice none 0 0], .bool false]) (by simp [results, Try.results31, go_sem, *]) rfl ⟨none, 0, [], rfl, OwnF.nil _ _ _, rfl, ?_⟩
  repeat (first | (with_reducible exact hE) | (with_reducible refine Ext.setCell ?_ (by dsimp only; omega) _))
set_option maxRecDepth 8000 in
theorem specSumOver_no3 (z0 z1 z2 : Int) (A0 : Option Addr) (n0 m0 : Nat) (p0 p1 : Nat) (y0 y1 : Int) (A1 : Option Addr) (n1 m1 : Nat) (d : Int) (hn0 : n0 ≤ maxLen) (hn1 : n1 ≤ maxLen) (hv : VVol z0 z1 z2 n0) (hf : Fit z0 z1 y0 y1 n1) (hp : PV p0 p1) (hd : d < 1 ∨ 8 < d) (U : World) :
    Calls Try.prog 31 #[.agg #[.int .i64 z0, .int .i64 z1, .int .i64 z2, .slice A0 n0 m0], .agg #[.float .f32 p0, .float .f32 p1], .agg #[.int .i64 y0, .int .i64 y1, .slice A1 n1 m1], .int .i64 d] U fun e U' => ∃ A c' b, e = .returned (.tuple #[.agg #[.int .i64 0, .int .i64 0, .int .i64 0, .slice A b.length c'], .bool false]) ∧ OwnF U' U.heap.size 25 (.slice A b.length c') b ∧ b.map nrm = [] ∧ Ext U U' := by
  have HhvX := Lib.hid hv
  have HhfX := Lib.hid hf
  have HhpX := Lib.hid hp
  have HhdX := Lib.hid hd
  clear hv hf hp hd
  go_enter Try.func31, Try.ntmps31
  go_wp2_with fail
  refine calls_at (X := fun w' => Ext U w' ∧ Box4 w' U.heap.size (.int .i64 z0) (.int .i64 z1) (.int .i64 z2) (.slice A0 n0 m0) ∧ Box2 w' (U.heap.size + 1) (fl p0) (fl p1) ∧ Box3 w' (U.heap.size + 1 + 1) (.int .i64 y0) (.int .i64 y1) (.slice A1 n1 m1) ∧ Res4 w' (U.heap.size + 1 + 1 + 1) ∧ U.heap.size + 1 + 1 + 1 + 1 ≤ w'.heap.size) ⟨((((Ext.refl _).alloc _).alloc _).alloc _).alloc _, ⟨by simp [go_sem], by simp [go_sem], by simp [go_sem], by simp [go_sem]⟩, ⟨by simp [go_sem], by simp [go_sem]⟩, ⟨by simp [go_sem], by simp [go_sem], by simp [go_sem]⟩, ⟨by simp [go_sem], by simp [go_sem], by simp [go_sem], by simp [go_sem], by simp [go_sem], by simp [go_sem], by simp [go_sem], by simp [go_sem]⟩, by simp⟩ ?_
  rintro w0 ⟨hx0, hb0, hq0, ho0, hr0, hs0⟩
  refine (l04Fits_yes _ _ z0 z1 z2 A0 n0 m0 y0 y1 A1 n1 m1 hn0 hn1 _ hb0 ho0 HhvX.out HhfX.out).mono ?_
  rintro e w1 ⟨rfl, hx⟩
  replace hb0 := hb0.ext hx
  replace hq0 := hq0.ext hx
  replace ho0 := ho0.ext hx
  replace hr0 := hr0.ext hx
  replace hx0 := hx0.trans hx
  replace hs0 := Nat.le_trans hs0 hx.size
  clear hx
  go_wp2_with fail
  refine (l04Is_yes _ p0 p1 _ hq0.1 hq0.2 HhpX.out).mono ?_
  rintro e w2 ⟨rfl, hx⟩
  replace hb0 := hb0.ext hx
  replace hq0 := hq0.ext hx
  replace ho0 := ho0.ext hx
  replace hr0 := hr0.ext hx
  replace hx0 := hx0.trans hx
  replace hs0 := Nat.le_trans hs0 hx.size
  clear hx
  have ⟨c0, c1, c2, c3, f0, f1, f2, f3⟩ := hr0
  have hE := hx0
  clear hr0 hb0 hq0 ho0 hx0
  go_wp2_with (go_at_call 74; refine (l00In_no d 1 8 _ HhdX.out).mono ?_; rintro e w' ⟨rfl, rfl⟩)
  refine bodyPost_ret (v := .tuple #[.agg #[.int .i64 0, .int .i64 0, .int .i64 0, .slice none 0 0], .bool false]) (by simp [results, Try.results31, go_sem, *]) rfl ⟨none, 0, [], rfl, OwnF.nil _ _ _, rfl, ?_⟩
  repeat (first | (with_reducible exact hE) | (with_reducible refine Ext.setCell ?_ (by dsimp only; omega) _))
theorem specSumOver_no (z0 z1 z2 : Int) (A0 : Option Addr) (n0 m0 : Nat) (p0 p1 : Nat) (y0 y1 : Int) (A1 : Option Addr) (n1 m1 : Nat) (d : Int) (hn0 : n0 ≤ maxLen) (hn1 : n1 ≤ maxLen) (hno : ¬ (SOk z0 z1 z2 n0 p0 p1 d ∧ Fit z0 z1 y0 y1 n1)) (U : World) :
    Calls Try.prog 31 #[.agg #[.int .i64 z0, .int .i64 z1, .int .i64 z2, .slice A0 n0 m0], .agg #[.float .f32 p0, .float .f32 p1], .agg #[.int .i64 y0, .int .i64 y1, .slice A1 n1 m1], .int .i64 d] U fun e U' => ∃ A c' b, e = .returned (.tuple #[.agg #[.int .i64 0, .int .i64 0, .int .i64 0, .slice A b.length c'], .bool false]) ∧ OwnF U' U.heap.size 25 (.slice A b.length c') b ∧ b.map nrm = [] ∧ Ext U U' := by
  by_cases h1 : VVol z0 z1 z2 n0 ∧ Fit z0 z1 y0 y1 n1
  · by_cases hp : PV p0 p1
    · exact specSumOver_no3 z0 z1 z2 A0 n0 m0 p0 p1 y0 y1 A1 n1 m1 d hn0 hn1 h1.1 h1.2 hp (Decidable.byContradiction fun h => hno ⟨⟨h1.1, hp, by omega, by omega⟩, h1.2⟩) U
    · exact specSumOver_no2 z0 z1 z2 A0 n0 m0 p0 p1 y0 y1 A1 n1 m1 d hn0 hn1 h1.1 h1.2 hp U
  · exact specSumOver_no1 z0 z1 z2 A0 n0 m0 p0 p1 y0 y1 A1 n1 m1 d hn0 hn1 h1 U
theorem implSumOver_no (z0 z1 z2 : Int) (A0 : Option Addr) (n0 m0 : Nat) (p0 p1 : Nat) (y0 y1 : Int) (A1 : Option Addr) (n1 m1 : Nat) (d : Int) (hn0 : n0 ≤ maxLen) (hn1 : n1 ≤ maxLen) (hi : IntKind.i64.min ≤ d ∧ d ≤ IntKind.i64.max) (hno : ¬ (SOk z0 z1 z2 n0 p0 p1 d ∧ Fit z0 z1 y0 y1 n1)) (U : World) :
    Calls Try.prog 32 #[.agg #[.int .i64 z0, .int .i64 z1, .int .i64 z2, .slice A0 n0 m0], .agg #[.float .f32 p0, .float .f32 p1], .agg #[.int .i64 y0, .int .i64 y1, .slice A1 n1 m1], .int .i64 d] U fun e U' => ∃ A c' b, e = .returned (.tuple #[.agg #[.int .i64 0, .int .i64 0, .int .i64 0, .slice A b.length c'], .bool false]) ∧ OwnF U' U.heap.size 25 (.slice A b.length c') b ∧ b.map nrm = [] ∧ Ext U U' := by
  by_cases hok : SOk z0 z1 z2 n0 p0 p1 d
  · exact implSumOver_no2 z0 z1 z2 A0 n0 m0 p0 p1 y0 y1 A1 n1 m1 d hn0 hn1 hok (fun h => hno ⟨hok, h⟩) U
  · exact implSumOver_no1 z0 z1 z2 A0 n0 m0 p0 p1 y0 y1 A1 n1 m1 d hn0 hi hok U
set_option maxRecDepth 8000 in
theorem lawSumOver_any (W : World) (z0 z1 z2 : Int) (_ : -9223372036854775808 ≤ z0 ∧ z0 ≤ 9223372036854775807) (_ : -9223372036854775808 ≤ z1 ∧ z1 ≤ 9223372036854775807) (_ : -9223372036854775808 ≤ z2 ∧ z2 ≤ 9223372036854775807) (A : Option Addr) (n m : Nat) (bs : List Nat) (hc : n ≤ m) (hm : m ≤ maxLen) (hr : Reads W A n bs) (hw : Words bs) (p0 p1 : Nat) (h0 : p0 < 4294967296) (h1 : p1 < 4294967296) (y0 y1 : Int) (_ : -9223372036854775808 ≤ y0 ∧ y0 ≤ 9223372036854775807) (_ : -9223372036854775808 ≤ y1 ∧ y1 ≤ 9223372036854775807) (A2 : Option Addr) (n2 m2 : Nat) (bs2 : List Nat) (hc2 : n2 ≤ m2) (hm2 : m2 ≤ maxLen) (hr2 : Reads W A2 n2 bs2) (hw2 : Words bs2) (d : Int) (hi : IntKind.i64.min ≤ d ∧ d ≤ IntKind.i64.max) :
    Calls Try.prog 5 #[.agg #[.int .i64 z0, .int .i64 z1, .int .i64 z2, .slice A n m], .agg #[.float .f32 p0, .float .f32 p1], .agg #[.int .i64 y0, .int .i64 y1, .slice A2 n2 m2], .int .i64 d] W fun e W' => e = .returned (.bool true) ∧ Ext W W' := by
  have hn : n ≤ maxLen := Nat.le_trans hc hm
  have hn2 : n2 ≤ maxLen := Nat.le_trans hc2 hm2
  by_cases hok : SOk z0 z1 z2 n p0 p1 d ∧ Fit z0 z1 y0 y1 n2
  · obtain ⟨⟨hv, hp, hd0, hd7⟩, hv2, rfl, rfl⟩ := hok
    obtain ⟨wn, rfl⟩ := Int.eq_ofNat_of_zero_le (show 0 ≤ y0 by have := hv.1.1; omega)
    obtain ⟨hn', rfl⟩ := Int.eq_ofNat_of_zero_le (show 0 ≤ y1 by have := hv.1.2.2.1; omega)
    obtain ⟨dn, rfl⟩ := Int.eq_ofNat_of_zero_le (show 0 ≤ z2 by have := hv.2.1; omega)
    obtain ⟨hnn, hnp, hnx⟩ := vol_n hv
    obtain ⟨k, rfl⟩ := Int.eq_ofNat_of_zero_le (show 0 ≤ d by omega)
    have hPl : ∀ i : Nat, (cells3 (fun x y e => ((pathT (fun x y u w => pathG (nrm p0) ((fun x y u w : Nat => overM (nrm p0) (nrm p1) (fop .sub (bs2.getD (cellN wn (clampI ((x : Int)) wn) (clampI ((y : Int)) hn')) 0) (bs2.getD (cellN wn (clampI ((u : Int)) wn) (clampI ((w : Int)) hn')) 0))) x y u w)) (ownC bs wn dn) wn hn' (wayX (i : Int)) (wayY (i : Int))) x y).getD e 0) wn dn (wn * hn' * dn)).length = n := fun i => by rw [cells3_length]; omega
    refine lawSumOver_core W wn hn' dn A n m bs hn hr p0 p1 wn hn' A2 n2 m2 bs2 hn2 hr2 k wn hn' dn (sumL (fun i => cells3 (fun x y e => ((pathT (fun x y u w => pathG (nrm p0) ((fun x y u w : Nat => overM (nrm p0) (nrm p1) (fop .sub (bs2.getD (cellN wn (clampI ((x : Int)) wn) (clampI ((y : Int)) hn')) 0) (bs2.getD (cellN wn (clampI ((u : Int)) wn) (clampI ((w : Int)) hn')) 0))) x y u w)) (ownC bs wn dn) wn hn' (wayX (i : Int)) (wayY (i : Int))) x y).getD e 0) wn dn (wn * hn' * dn)) n k) (by rw [sumL_len]; omega) true ?_ ?_
    · intro w D D2 hd hd2
      obtain ⟨gb, off, rfl, hl⟩ := hd.2 (by omega)
      refine specSumOver_of wn hn' dn _ n n p0 p1 wn hn' D2 n2 n2 k hn hn2 hv hp hd0 hd7 ⟨hv2, rfl, rfl⟩ wn hn' dn _ w (fun w0 hx0 hb0 hq0 hpb => ?_)
      exact (l04Sums_any w.heap.size (w.heap.size + 1) (w.heap.size + 1 + 1) wn hn' dn gb off n n k (by omega) _ w0 hb0 hv hPl (fun W0 i hW0 hi => l04PathO_any w.heap.size (w.heap.size + 1) (w.heap.size + 1 + 1) wn hn' dn gb off n n bs i (by omega) (by omega) p0 p1 (nrm p0) (fun x y u w : Nat => overM (nrm p0) (nrm p1) (fop .sub (bs2.getD (cellN wn (clampI ((x : Int)) wn) (clampI ((y : Int)) hn')) 0) (bs2.getD (cellN wn (clampI ((u : Int)) wn) (clampI ((w : Int)) hn')) 0))) W0 (hb0.ext hW0) (hq0.ext hW0) (hpb.ext hW0).1 (fun W1 x y u v hW1 _ _ _ _ => l04Over_any (w.heap.size + 1) p0 p1 (w.heap.size + 1 + 1) wn hn' n2 n2 D2 bs2 x y u v W1 ((hq0.ext hW0).ext hW1) ((hpb.ext hW0).ext hW1) (((hd2.ext hx0).ext hW0).ext hW1) hv2 h0 h1) ((hl.ext hx0).ext hW0) hd.1 hw (Nat.le_refl _) hn hv)).mono (fun e w1 h => by
        obtain ⟨H, c1, b1', rfl, ho, hm1, hx1⟩ := h
        have hbl : b1'.length = n := len_of_map hm1 (sumL_len _ _ _)
        subst hbl
        exact ⟨_, c1, b1', rfl, ho, hm1, hx1⟩)
    · intro w D D2 hd hd2
      obtain ⟨gb, off, rfl, hl⟩ := hd.2 (by omega)
      refine implSumOver_yes wn hn' dn _ n n p0 p1 wn hn' D2 n2 n2 k hn hn2 ⟨hv, hp, hd0, hd7⟩ ⟨hv2, rfl, rfl⟩ wn hn' dn _ w (fun w0 b1 b2 hx0 hpb hbb hbc => ?_)
      exact (sums_any wn hn' dn gb off n n k (by omega) 112 #[] #[.pointer (some ⟨b1, 0, none⟩), .pointer (some ⟨b2, 0, none⟩)] _ w0 hv hPl (fun W0 i hW0 hi => path_any wn hn' dn gb off n n bs i (by omega) (by omega) 112 #[] #[.pointer (some ⟨b1, 0, none⟩), .pointer (some ⟨b2, 0, none⟩)] (fun _ _ _ _ => nrm p0) (fun x y u w : Nat => overM (nrm p0) (nrm p1) (fop .sub (bs2.getD (cellN wn (clampI ((x : Int)) wn) (clampI ((y : Int)) hn')) 0) (bs2.getD (cellN wn (clampI ((u : Int)) wn) (clampI ((w : Int)) hn')) 0))) (by kernel_rfl) W0 ((hl.ext hx0).ext hW0) hd.1 hw (Nat.le_refl _) hn hv (fun W1 x y u v hW1 _ _ _ _ => over1_any b1 p0 p1 b2 (w.heap.size + 1 + 1) wn hn' n2 n2 D2 bs2 x y u v W1 ((hbb.ext hW0).ext hW1) (cell_ext (cell_ext hbc hW0) hW1) ((hpb.ext hW0).ext hW1) (((hd2.ext hx0).ext hW0).ext hW1) hv2 h0 h1))).mono (fun e w1 h => by
        obtain ⟨H, c1, b1', rfl, ho, hm1, hw1, hx1⟩ := h
        have hbl : b1'.length = n := len_of_map hm1 (sumL_len _ _ _)
        subst hbl
        exact ⟨_, c1, b1', rfl, ho, hm1, hx1⟩)
  · exact lawSumOver_core W z0 z1 z2 A n m bs hn hr p0 p1 y0 y1 A2 n2 m2 bs2 hn2 hr2 d 0 0 0 [] (by simp) false (fun w D D2 hd hd2 => specSumOver_no z0 z1 z2 D n n p0 p1 y0 y1 D2 n2 n2 d hn hn2 hok w) (fun w D D2 hd hd2 => implSumOver_no z0 z1 z2 D n n p0 p1 y0 y1 D2 n2 n2 d hn hn2 hi hok w)
end Go.Proofs.Ytpjlfgaflbghmaa
