/- Contracts: copies of maps and pictures; maps and pictures of the size of a right one. -/
import Derived.Test.YtcekofioiofjbaaNew
import Derived.Test.YtcekofioiofjbaaMade
import Derived.Test.YtcekofioiofjbaaCell
namespace Go.Proofs.Ytcekofioiofjbaa
open Go.RowKit
set_option linter.unusedVariables false

theorem map_n {wn hn n : Nat} (hv : VMap wn hn n) : n = wn * hn ∧ 0 < n ∧ n ≤ 256 := by
  have h1 := hv.2
  have h2 := mul_bounds hv.1.1 hv.1.2.1 hv.1.2.2.1 hv.1.2.2.2.1
  have h3 := hv.1.2.2.2.2
  have h4 : ((wn * hn : Nat) : Int) = (wn : Int) * (hn : Int) := by simp
  omega
set_option maxHeartbeats 1000000 in
theorem l05Own_any (g wn hn gb off n c : Nat) (bs : List Nat) (U : World) (hl : Lies U gb off bs) (hlen : bs.length = n) (hB : Box3 U g (.int .i64 wn) (.int .i64 hn) (.slice (some ⟨gb, off, none⟩) n c)) (h0 : 0 < n) (hn2 : n ≤ 2048) :
    Calls Try.prog 77 #[.pointer (some ⟨g, 0, none⟩)] U fun e U' => ∃ H c', e = .returned (.agg #[.int .i64 wn, .int .i64 hn, .slice (some ⟨H, 0, none⟩) n c']) ∧ OwnF U' U.heap.size 37 (.slice (some ⟨H, 0, none⟩) n c') bs ∧ Ext U U' := by
  obtain ⟨i0, hi, hz0, hz1, hz2⟩ := info_parts infoF
  go_enter Try.func77, Try.ntmps77
  go_wp2_with fail
  refine wp_at (X := fun w' => Ext U w' ∧ U.heap.size + 1 ≤ w'.heap.size ∧ Box3 w' g (.int .i64 wn) (.int .i64 hn) (.slice (some ⟨gb, off, none⟩) n c) ∧ Res3 w' U.heap.size) ⟨(Ext.refl _).alloc _, by simp, hB.ext ((Ext.refl _).alloc _), ⟨by simp [go_sem], by simp [go_sem], by simp [go_sem], by simp [go_sem], by simp [go_sem], by simp [go_sem]⟩⟩ ?_
  rintro w0 ⟨hx0, hs0, ⟨p0, p1, p2⟩, hr⟩
  replace hl := hl.ext hx0
  clear hB
  refine region_wx 14 [] (by kernel_rfl) (by kernel_rfl) ?_
  simp only [List.take_succ_cons, List.take_zero, List.drop_succ_cons, List.drop_zero]
  repeat ((first | refine wx_skip rfl ?_ | refine wx_nilCheck rfl rfl _ rfl _ rfl ?_ | (refine wx_float rfl rfl _ _ _ _ _ _ _ rfl rfl rfl rfl ?_; intro r hr) | (refine wx_k rfl rfl rfl (fun K hK => ?_); go_big_quiet_op; refine hK _ ?_; clear hK K) | (refine wx_bs0 rfl rfl _ 37 rfl bs0 ?_; intro H0 V0 hV0 hO0) | (refine wx_app rfl rfl _ 37 i0 _ _ rfl Try.underlying22 hi hz0 hz1 hz2 _ n c gb off bs hlen h0 (by omega) rfl rfl hl ?_; intro H cH VO hVO hO)); (try simp only [Act.put, List.setIfInBounds_toArray, List.set_cons_zero, List.set_cons_succ]); (try simp only [List.tail_nil]))
  refine wx_nil (fun W hW hF => ?_)
  have hVW : Ext VO W := hF 13
  have hO2 := hO.ext hVW
  have ⟨c0, c1, c2, f0, f1, f2⟩ := hr.ext hW
  have hE := hx0.trans hW
  clear hF hO hVW hr hx0 hW
  go_wp2
  refine bodyPost_ret (v := .agg #[.int .i64 wn, .int .i64 hn, .slice (some ⟨H, 0, none⟩) n _]) (by simp [results, Try.results77, go_sem, *]; rfl) rfl ⟨H, _, rfl, ?_, ?_⟩
  · refine OwnF.weaken (base := w0.heap.size) ?_ (by omega)
    repeat (first | (with_reducible exact hO2) | (with_reducible refine OwnF.set_below ?_ (by dsimp only; omega) _))
  · repeat (first | (with_reducible exact hE) | (with_reducible refine Ext.setCell ?_ (by dsimp only; omega) _))
set_option maxHeartbeats 1000000 in
theorem l02Own_any (g wn hn gb off n c : Nat) (bs : List Nat) (U : World) (hl : Lies U gb off bs) (hlen : bs.length = n) (hB : Box3 U g (.int .i64 wn) (.int .i64 hn) (.slice (some ⟨gb, off, none⟩) n c)) (h0 : 0 < n) (hn2 : n ≤ 2048) :
    Calls Try.prog 92 #[.pointer (some ⟨g, 0, none⟩)] U fun e U' => ∃ H c', e = .returned (.agg #[.int .i64 wn, .int .i64 hn, .slice (some ⟨H, 0, none⟩) n c']) ∧ OwnF U' U.heap.size 37 (.slice (some ⟨H, 0, none⟩) n c') bs ∧ Ext U U' := by
  obtain ⟨i0, hi, hz0, hz1, hz2⟩ := info_parts infoF
  go_enter Try.func92, Try.ntmps92
  go_wp2_with fail
  refine wp_at (X := fun w' => Ext U w' ∧ U.heap.size + 1 ≤ w'.heap.size ∧ Box3 w' g (.int .i64 wn) (.int .i64 hn) (.slice (some ⟨gb, off, none⟩) n c) ∧ Res3 w' U.heap.size) ⟨(Ext.refl _).alloc _, by simp, hB.ext ((Ext.refl _).alloc _), ⟨by simp [go_sem], by simp [go_sem], by simp [go_sem], by simp [go_sem], by simp [go_sem], by simp [go_sem]⟩⟩ ?_
  rintro w0 ⟨hx0, hs0, ⟨p0, p1, p2⟩, hr⟩
  replace hl := hl.ext hx0
  clear hB
  refine region_wx 14 [] (by kernel_rfl) (by kernel_rfl) ?_
  simp only [List.take_succ_cons, List.take_zero, List.drop_succ_cons, List.drop_zero]
  repeat ((first | refine wx_skip rfl ?_ | refine wx_nilCheck rfl rfl _ rfl _ rfl ?_ | (refine wx_float rfl rfl _ _ _ _ _ _ _ rfl rfl rfl rfl ?_; intro r hr) | (refine wx_k rfl rfl rfl (fun K hK => ?_); go_big_quiet_op; refine hK _ ?_; clear hK K) | (refine wx_bs0 rfl rfl _ 37 rfl bs0 ?_; intro H0 V0 hV0 hO0) | (refine wx_app rfl rfl _ 37 i0 _ _ rfl Try.underlying22 hi hz0 hz1 hz2 _ n c gb off bs hlen h0 (by omega) rfl rfl hl ?_; intro H cH VO hVO hO)); (try simp only [Act.put, List.setIfInBounds_toArray, List.set_cons_zero, List.set_cons_succ]); (try simp only [List.tail_nil]))
  refine wx_nil (fun W hW hF => ?_)
  have hVW : Ext VO W := hF 13
  have hO2 := hO.ext hVW
  have ⟨c0, c1, c2, f0, f1, f2⟩ := hr.ext hW
  have hE := hx0.trans hW
  clear hF hO hVW hr hx0 hW
  go_wp2
  refine bodyPost_ret (v := .agg #[.int .i64 wn, .int .i64 hn, .slice (some ⟨H, 0, none⟩) n _]) (by simp [results, Try.results92, go_sem, *]; rfl) rfl ⟨H, _, rfl, ?_, ?_⟩
  · refine OwnF.weaken (base := w0.heap.size) ?_ (by omega)
    repeat (first | (with_reducible exact hO2) | (with_reducible refine OwnF.set_below ?_ (by dsimp only; omega) _))
  · repeat (first | (with_reducible exact hE) | (with_reducible refine Ext.setCell ?_ (by dsimp only; omega) _))
set_option maxRecDepth 8000 in
theorem remap_yes (wn hn : Nat) (A0 : Option Addr) (n0 m0 : Nat) (hn0 : n0 ≤ maxLen) (hv : VMap wn hn n0) (g : FuncId) (lb : Array Value) (F : Nat → Nat → Nat) (U : World)
    (hg : (Try.prog.funcs[g]?).any (fun fn => !(fn.name == "runtime.NumGoroutine") && fn.body.isSome) = true)
    (hof : ∀ (x y : Nat) (U' : World), Ext U U' → x < wn → y < hn → Calls Try.prog g (#[.int .i64 x, .int .i64 y] ++ lb) U' fun e' U'' => ∃ r, e' = .returned (.float .f32 r) ∧ Is r (F x y) ∧ Ext U' U'') :
    Calls Try.prog 78 #[.agg #[.int .i64 wn, .int .i64 hn, .slice A0 n0 m0], .func (.func g) #[] lb] U fun e U' => ∃ A c' b, e = .returned (.tuple #[.agg #[.int .i64 wn, .int .i64 hn, .slice A b.length c'], .bool true]) ∧ OwnF U' U.heap.size 37 (.slice A b.length c') b ∧ b.map nrm = cells F wn (wn * hn) ∧ Ext U U' := by
  have HV := Lib.hid hv
  have HK := Lib.hid (fun (U1 : World) (hx : Ext U U1) => mapOf_any wn hn (by have := hv.1.2.1; omega) (by have := hv.1.2.2.2.1; omega) g lb F U1 hg (fun x y W' h1 h2 h3 => hof x y W' (hx.trans h1) h2 h3))
  clear hv hof hg
  go_enter Try.func78, Try.ntmps78
  go_wp2_with fail
  refine calls_at (X := fun w' => Ext U w' ∧ Box3 w' U.heap.size (.int .i64 wn) (.int .i64 hn) (.slice A0 n0 m0) ∧ Res3 w' (U.heap.size + 1) ∧ U.heap.size + 1 + 1 ≤ w'.heap.size) ⟨((Ext.refl _).alloc _).alloc _, ⟨by simp [go_sem], by simp [go_sem], by simp [go_sem]⟩, ⟨by simp [go_sem], by simp [go_sem], by simp [go_sem], by simp [go_sem], by simp [go_sem], by simp [go_sem]⟩, by simp⟩ ?_
  rintro w0 ⟨hx0, hb0, hr0, hs0⟩
  refine (ValidMap_yes _ _ A0 n0 m0 _ hn0 HV.out).mono ?_
  rintro e w1 ⟨rfl, hx⟩
  have ⟨p0, p1, p2⟩ := hb0.ext hx
  have hr := hr0.ext hx
  have hE := hx0.trans hx
  have hs := Nat.le_trans hs0 hx.size
  clear hx hx0 hb0 hr0 hs0
  go_wp2_with fail
  refine (HK.out w1 hE).mono ?_
  rintro e w2 ⟨A, c', b, rfl, ho, hm, hwd, hx⟩
  have ⟨c0, c1, c2, f0, f1, f2⟩ := hr.ext hx
  have hE2 := hE.trans hx
  clear hr hx hE p0 p1 p2
  go_wp2
  refine bodyPost_ret (v := .tuple #[.agg #[.int .i64 wn, .int .i64 hn, .slice A b.length c'], .bool true]) (by simp [results, Try.results78, go_sem, *]) rfl ⟨A, c', b, rfl, ?_, hm, ?_⟩
  · refine OwnF.weaken (base := w1.heap.size) ?_ (by omega)
    repeat (first | (with_reducible exact ho) | (with_reducible refine OwnF.set_below ?_ (by dsimp only; omega) _))
  · repeat (first | (with_reducible exact hE2) | (with_reducible refine Ext.setCell ?_ (by dsimp only; omega) _))
theorem remap_no (w h : Int) (A0 : Option Addr) (n0 m0 : Nat) (hn0 : n0 ≤ maxLen) (hv : ¬ VMap w h n0) (g : FuncId) (lb : Array Value) (U : World) :
    Calls Try.prog 78 #[.agg #[.int .i64 w, .int .i64 h, .slice A0 n0 m0], .func (.func g) #[] lb] U fun e U' => ∃ A c' b, e = .returned (.tuple #[.agg #[.int .i64 0, .int .i64 0, .slice A b.length c'], .bool false]) ∧ OwnF U' U.heap.size 37 (.slice A b.length c') b ∧ b.map nrm = [] ∧ Ext U U' := by
  have HV := Lib.hid hv
  clear hv
  go_enter Try.func78, Try.ntmps78
  go_wp2_with fail
  refine calls_at (X := fun w' => Ext U w' ∧ Res3 w' (U.heap.size + 1) ∧ U.heap.size + 1 + 1 ≤ w'.heap.size) ⟨((Ext.refl _).alloc _).alloc _, ⟨by simp [go_sem], by simp [go_sem], by simp [go_sem], by simp [go_sem], by simp [go_sem], by simp [go_sem]⟩, by simp⟩ ?_
  rintro w0 ⟨hx0, hr0, hs0⟩
  refine (ValidMap_not _ _ A0 n0 m0 _ hn0 HV.out).mono ?_
  rintro e w1 ⟨rfl, hx⟩
  have ⟨c0, c1, c2, f0, f1, f2⟩ := hr0.ext hx
  have hE := hx0.trans hx
  clear hx hx0 hr0
  go_wp2
  refine bodyPost_ret (v := .tuple #[.agg #[.int .i64 0, .int .i64 0, .slice none 0 0], .bool false]) (by simp [results, Try.results78, go_sem, *]) rfl ⟨none, 0, [], rfl, OwnF.nil _ _ _, rfl, ?_⟩
  repeat (first | (with_reducible exact hE) | (with_reducible refine Ext.setCell ?_ (by dsimp only; omega) _))
set_option maxRecDepth 8000 in
theorem remade_yes (wn hn : Nat) (A0 : Option Addr) (n0 m0 : Nat) (hn0 : n0 ≤ maxLen) (hv : VMap wn hn n0) (g : FuncId) (lb : Array Value) (F : Nat → Nat → Nat) (U : World)
    (hg : (Try.prog.funcs[g]?).any (fun fn => !(fn.name == "runtime.NumGoroutine") && fn.body.isSome) = true)
    (hof : ∀ (x y : Nat) (U' : World), Ext U U' → x < wn → y < hn → Calls Try.prog g (#[.int .i64 x, .int .i64 y] ++ lb) U' fun e' U'' => ∃ r, e' = .returned (.float .f32 r) ∧ Is r (F x y) ∧ Ext U' U'') :
    Calls Try.prog 93 #[.agg #[.int .i64 wn, .int .i64 hn, .slice A0 n0 m0], .func (.func g) #[] lb] U fun e U' => ∃ A c' b, e = .returned (.tuple #[.agg #[.int .i64 wn, .int .i64 hn, .slice A b.length c'], .bool true]) ∧ OwnF U' U.heap.size 37 (.slice A b.length c') b ∧ b.map nrm = cells F wn (wn * hn) ∧ Ext U U' := by
  have HV := Lib.hid hv
  have HK := Lib.hid (fun (U1 : World) (hx : Ext U U1) => made_any wn hn (by have := hv.1.2.1; omega) (by have := hv.1.2.2.2.1; omega) g lb F U1 hg (fun x y W' h1 h2 h3 => hof x y W' (hx.trans h1) h2 h3))
  clear hv hof hg
  go_enter Try.func93, Try.ntmps93
  go_wp2_with fail
  refine calls_at (X := fun w' => Ext U w' ∧ Box3 w' U.heap.size (.int .i64 wn) (.int .i64 hn) (.slice A0 n0 m0) ∧ Res3 w' (U.heap.size + 1) ∧ U.heap.size + 1 + 1 ≤ w'.heap.size) ⟨((Ext.refl _).alloc _).alloc _, ⟨by simp [go_sem], by simp [go_sem], by simp [go_sem]⟩, ⟨by simp [go_sem], by simp [go_sem], by simp [go_sem], by simp [go_sem], by simp [go_sem], by simp [go_sem]⟩, by simp⟩ ?_
  rintro w0 ⟨hx0, hb0, hr0, hs0⟩
  refine (ValidPicture_yes _ _ A0 n0 m0 _ hn0 HV.out).mono ?_
  rintro e w1 ⟨rfl, hx⟩
  have ⟨p0, p1, p2⟩ := hb0.ext hx
  have hr := hr0.ext hx
  have hE := hx0.trans hx
  have hs := Nat.le_trans hs0 hx.size
  clear hx hx0 hb0 hr0 hs0
  go_wp2_with fail
  refine (HK.out w1 hE).mono ?_
  rintro e w2 ⟨A, c', b, rfl, ho, hm, hwd, hx⟩
  have ⟨c0, c1, c2, f0, f1, f2⟩ := hr.ext hx
  have hE2 := hE.trans hx
  clear hr hx hE p0 p1 p2
  go_wp2
  refine bodyPost_ret (v := .tuple #[.agg #[.int .i64 wn, .int .i64 hn, .slice A b.length c'], .bool true]) (by simp [results, Try.results93, go_sem, *]) rfl ⟨A, c', b, rfl, ?_, hm, ?_⟩
  · refine OwnF.weaken (base := w1.heap.size) ?_ (by omega)
    repeat (first | (with_reducible exact ho) | (with_reducible refine OwnF.set_below ?_ (by dsimp only; omega) _))
  · repeat (first | (with_reducible exact hE2) | (with_reducible refine Ext.setCell ?_ (by dsimp only; omega) _))
theorem remade_no (w h : Int) (A0 : Option Addr) (n0 m0 : Nat) (hn0 : n0 ≤ maxLen) (hv : ¬ VMap w h n0) (g : FuncId) (lb : Array Value) (U : World) :
    Calls Try.prog 93 #[.agg #[.int .i64 w, .int .i64 h, .slice A0 n0 m0], .func (.func g) #[] lb] U fun e U' => ∃ A c' b, e = .returned (.tuple #[.agg #[.int .i64 0, .int .i64 0, .slice A b.length c'], .bool false]) ∧ OwnF U' U.heap.size 37 (.slice A b.length c') b ∧ b.map nrm = [] ∧ Ext U U' := by
  have HV := Lib.hid hv
  clear hv
  go_enter Try.func93, Try.ntmps93
  go_wp2_with fail
  refine calls_at (X := fun w' => Ext U w' ∧ Res3 w' (U.heap.size + 1) ∧ U.heap.size + 1 + 1 ≤ w'.heap.size) ⟨((Ext.refl _).alloc _).alloc _, ⟨by simp [go_sem], by simp [go_sem], by simp [go_sem], by simp [go_sem], by simp [go_sem], by simp [go_sem]⟩, by simp⟩ ?_
  rintro w0 ⟨hx0, hr0, hs0⟩
  refine (ValidPicture_not _ _ A0 n0 m0 _ hn0 HV.out).mono ?_
  rintro e w1 ⟨rfl, hx⟩
  have ⟨c0, c1, c2, f0, f1, f2⟩ := hr0.ext hx
  have hE := hx0.trans hx
  clear hx hx0 hr0
  go_wp2
  refine bodyPost_ret (v := .tuple #[.agg #[.int .i64 0, .int .i64 0, .slice none 0 0], .bool false]) (by simp [results, Try.results93, go_sem, *]) rfl ⟨none, 0, [], rfl, OwnF.nil _ _ _, rfl, ?_⟩
  repeat (first | (with_reducible exact hE) | (with_reducible refine Ext.setCell ?_ (by dsimp only; omega) _))
end Go.Proofs.Ytcekofioiofjbaa
