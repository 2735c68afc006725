/- The law on FlatMap holds. -/
import Derived.Test.YthcpnbjlgbobaaaMade
import Derived.Test.YthcpnbjlgbobaaaMaps
import Derived.Test.YthcpnbjlgbobaaaCFlatMap
namespace Go.Proofs.Ythcpnbjlgbobaaa
open Go.RowKit
set_option linter.unusedVariables false

theorem cells_const (X w n : Nat) : cells (fun _ _ => X) w n = List.replicate n X := by
  unfold cells
  rw [List.map_const']; simp

set_option maxHeartbeats 4000000 in
set_option maxRecDepth 8000 in
theorem l03Flat_any (wn hn : Nat) (hw : wn ≤ 24) (hh : hn ≤ 24) (v X : Nat) (hv : Is v X) (U : World) :
    Calls Try.prog 73 #[.int .i64 wn, .int .i64 hn, .float .f32 v] U fun e U' => ∃ A c bs, e = .returned (.agg #[.int .i64 wn, .int .i64 hn, .slice A bs.length c]) ∧
      OwnF U' U.heap.size 22 (.slice A bs.length c) bs ∧ bs.map nrm = List.replicate (wn * hn) X ∧ Ext U U' := by
  obtain ⟨i0, hi, hz0, hz1, hz2⟩ := info_parts infoF
  have hp : wn * hn ≤ 576 := Nat.le_trans (Nat.mul_le_mul hw hh) (by omega)
  obtain ⟨N, hN⟩ : ∃ N, wn * hn = N := ⟨_, rfl⟩
  have hmul : IntKind.i64.wrap ((wn : Int) * (hn : Int)) = (N : Int) := by
    rw [← hN]; have : ((wn : Int) * (hn : Int)) = ((wn * hn : Nat) : Int) := by simp
    rw [this]; exact IntWalk.i64_in _ (by omega)
  rw [hN] at hp ⊢
  clear hN
  go_enter Try.func73, Try.ntmps73
  go_wp2_with fail
  go_loopw [8] (fun y wr => ∃ (k : Nat) (A : Option Addr) (c : Nat) (bs : List Nat), k ≤ N ∧ y = .int .i64 k ∧ Acc U wr (U.heap.size + 1 + 1) 22 (U.heap.size + 1) 2 A c bs (List.replicate k X) ∧ MadeR U wr wn hn) (fun y _ => N - (intOf y).toNat)
  case atStart =>
    refine ⟨0, none, 0, [], Nat.zero_le _, rfl, ⟨OwnF.nil _ _ _, by simp [go_sem], by simp [go_sem], by simp, (fun b hb => by cases hb), ?_⟩, ⟨?_, ?_, ?_, ?_, ?_, ?_, ?_, ?_⟩⟩
    · repeat (first | with_reducible exact Ext.refl _ | (with_reducible refine Ext.setCell ?_ (by simp; try omega) _) | (with_reducible refine Ext.alloc ?_ _))
    all_goals simp [go_sem]
  case round =>
    obtain ⟨k, A, c, bs, hk, rfl, hacc, hR⟩ := hrel
    by_cases hlt : k < N
    · have hhdr := hacc.hdr
      have hfr := hacc.fr
      have hHl := lt_of_cell hhdr
      have hbl : bs.length < 577 := by have := hacc.len; rw [List.length_replicate] at this; omega
      have hown1 := hacc.own.ext ((Ext.refl wr).alloc (.cells #[fl v] 22))
      have hun := hacc.ext.size
      go_wp2_with (at_builtin; refine wpList_append_own _ rfl _ _ _ rfl (U.heap.size + 1 + 1) 22 i0 (.float .f32 0) 1 4 Try.underlying37 hi hz0 hz1 hz2 rfl (by omega) (.slice A bs.length c) bs.length (bs.map fl) (by rfl) hown1 ⟨wr.heap.size, 0, none⟩ 1 1 [fl v] (by rfl) rfl (one_new (by simp [go_sem])) (one_word v) (by unfold maxLen; omega) (by omega) (by simp; omega) ?_)
      intro v' w2 ho2 hg2 _
      obtain ⟨A', c', bs', rfl, hacc', hold, holdf⟩ := hacc.push ((Ext.refl wr).alloc _) (by omega) (by omega) ho2 hg2 hv
      have hrow := (hacc.own.ext ((Ext.refl wr).alloc (.cells #[fl v] 22))).row
      have hhdr2 : w2.cell? ⟨U.heap.size + 1, 2, none⟩ = some (.slice A bs.length c) := hg2.cell (cell_ext hhdr ((Ext.refl wr).alloc _)) (fun he => by have := hrow (U.heap.size + 1) he.symm; omega)
      have hfr2 : w2.frozen? ⟨U.heap.size + 1, 2, none⟩ = false := (World.frozen?_of_block (a := ⟨U.heap.size + 1, 2, none⟩) (hg2.block _ (lt_of_cell (cell_ext hhdr ((Ext.refl wr).alloc _))) (fun he => by have := hrow (U.heap.size + 1) he.symm; omega))).trans ((((Ext.refl wr).alloc _).marks _ _ (by rw [hhdr]; rfl)).trans hfr)
      have hR' : MadeR U _ wn hn := ⟨hold _ _ _ hR.a0 (by omega) (by omega), hold _ _ _ hR.a1 (by omega) (by omega), hold _ _ _ hR.a2 (by omega) (by omega), hold _ _ _ hR.b0 (by omega) (by omega), hold _ _ _ hR.b1 (by omega) (by omega),
        (holdf _ _ (by rw [hR.a0]; rfl) (by omega)).trans hR.f0, (holdf _ _ (by rw [hR.a1]; rfl) (by omega)).trans hR.f1, (holdf _ _ (by rw [hR.a2]; rfl) (by omega)).trans hR.f2⟩
      rw [← List.replicate_succ'] at hacc'
      clear hold holdf hrow hhdr hfr ho2 hg2 hacc hR hown1
      go_wp2
      go_roundw
      case rel => exact ⟨k + 1, A', c', bs', by omega, by go_num, hacc', hR'⟩
      case measure => simp [intOf]; omega
    · have e1 : k = N := by omega
      subst e1
      obtain ⟨a0, a1, a2, b0, b1, f0, f1, f2⟩ := hR
      have hhdr := hacc.hdr
      go_wp2
      refine bodyPost_ret (v := .agg #[.int .i64 wn, .int .i64 hn, .slice A bs.length c]) (by simp [results, Try.results73, go_sem, *]) rfl ⟨A, c, bs, rfl, ?_, hacc.like, ?_⟩
      · refine OwnF.weaken (base := U.heap.size + 1 + 1) ?_ (by omega)
        repeat (first | (with_reducible exact hacc.own) | (with_reducible refine OwnF.set_below ?_ (by dsimp only; omega) _))
      · repeat (first | (with_reducible exact hacc.ext) | (with_reducible refine Ext.setCell ?_ (by dsimp only; omega) _))
set_option maxRecDepth 8000 in
theorem specFlatMap_yes (wn hn : Nat) (hs : Sz wn hn) (v X : Nat) (hv : Is v X) (U : World) :
    Calls Try.prog 37 #[.int .i64 wn, .int .i64 hn, .float .f32 v] U fun e U' => ∃ A c bs, e = .returned (.tuple #[.agg #[.int .i64 wn, .int .i64 hn, .slice A bs.length c], .bool true]) ∧
      (OwnF U' U.heap.size 22 (.slice A bs.length c) bs ∧ bs.map nrm = List.replicate (wn * hn) X) ∧ Ext U U' := by
  have HS := Lib.hid hs
  have hw : wn ≤ 24 := by have := hs.2.1; omega
  have hh : hn ≤ 24 := by have := hs.2.2.2.1; omega
  clear hs
  go_enter Try.func37, Try.ntmps37
  go_wp2_with (go_at_call 72; with_reducible refine (l02Size_yes _ _ _ HS.out).mono ?_; rintro e w' ⟨rfl, rfl⟩)
  refine calls_at (X := fun w' => Ext U w' ∧ U.heap.size + 1 ≤ w'.heap.size ∧ Box3 w' U.heap.size (.int .i64 0) (.int .i64 0) (.slice none 0 0) ∧ (∀ i, w'.frozen? ⟨U.heap.size, i, none⟩ = false)) ⟨(Ext.refl _).alloc _, by simp, ⟨by simp [go_sem], by simp [go_sem], by simp [go_sem]⟩, fun i => by simp [go_sem]⟩ ?_
  rintro w0 ⟨hx0, hs0, hb0, hf0⟩
  refine (l03Flat_any wn hn hw hh v X hv _).mono ?_
  rintro e w1 ⟨A, c, bs, rfl, ho, hm, hx⟩
  have ⟨c0, c1, c2⟩ := hb0.ext hx
  have f0 : w1.frozen? ⟨U.heap.size, 0, none⟩ = false := (hx.marks _ _ (by rw [hb0.1]; rfl)).trans (hf0 0)
  have f1 : w1.frozen? ⟨U.heap.size, 1, none⟩ = false := (hx.marks _ _ (by rw [hb0.2.1]; rfl)).trans (hf0 1)
  have f2 : w1.frozen? ⟨U.heap.size, 2, none⟩ = false := (hx.marks _ _ (by rw [hb0.2.2]; rfl)).trans (hf0 2)
  have hE := hx0.trans hx
  clear hx0 hb0 hf0 hx
  go_wp2
  refine bodyPost_ret (v := .tuple #[.agg #[.int .i64 wn, .int .i64 hn, .slice A bs.length c], .bool true]) (by simp [results, Try.results37, go_sem, *]) rfl ⟨A, c, bs, rfl, ⟨?_, hm⟩, ?_⟩
  · refine OwnF.weaken (base := w0.heap.size) ?_ (by omega)
    repeat (first | (with_reducible exact ho) | (with_reducible refine OwnF.set_below ?_ (by dsimp only; omega) _))
  · repeat (first | (with_reducible exact hE) | (with_reducible refine Ext.setCell ?_ (by dsimp only; omega) _))
theorem specFlatMap_no (w h : Int) (hs : ¬ Sz w h) (v : Nat) (U : World) :
    Calls Try.prog 37 #[.int .i64 w, .int .i64 h, .float .f32 v] U fun e U' => ∃ A c bs, e = .returned (.tuple #[.agg #[.int .i64 0, .int .i64 0, .slice A bs.length c], .bool false]) ∧
      (OwnF U' U.heap.size 22 (.slice A bs.length c) bs ∧ bs.map nrm = []) ∧ Ext U U' := by
  have HS := Lib.hid hs
  clear hs
  go_enter Try.func37, Try.ntmps37
  go_wp2_with (go_at_call 72; with_reducible refine (l02Size_no _ _ _ HS.out).mono ?_; rintro e w' ⟨rfl, rfl⟩)
  refine bodyPost_ret (v := .tuple #[.agg #[.int .i64 0, .int .i64 0, .slice none 0 0], .bool false]) (by simp [results, Try.results37, go_sem, *]) rfl ⟨none, 0, [], rfl, ⟨OwnF.nil _ _ _, rfl⟩, ?_⟩
  repeat (first | with_reducible exact Ext.refl _ | (with_reducible refine Ext.setCell ?_ (by simp; try omega) _) | (with_reducible refine Ext.alloc ?_ _))
theorem flat1_any (g : Nat) (v : Nat) (x y : Int) (U : World) (hc : U.cell? ⟨g, 0, none⟩ = some (.float .f32 v)) :
    Calls Try.prog 75 #[.int .i64 x, .int .i64 y, .pointer (some ⟨g, 0, none⟩)] U fun e U' => e = .returned (.float .f32 v) ∧ U = U' := by
  go_enter Try.func75, Try.ntmps75
  go_wp2
  go_ret
  exact ⟨rfl, rfl⟩
set_option maxRecDepth 8000 in
theorem implFlatMap_yes (wn hn : Nat) (hs : Sz wn hn) (v X : Nat) (hv : Is v X) (U : World) :
    Calls Try.prog 38 #[.int .i64 wn, .int .i64 hn, .float .f32 v] U fun e U' => ∃ A c bs, e = .returned (.tuple #[.agg #[.int .i64 wn, .int .i64 hn, .slice A bs.length c], .bool true]) ∧
      (OwnF U' U.heap.size 22 (.slice A bs.length c) bs ∧ bs.map nrm = List.replicate (wn * hn) X) ∧ Ext U U' := by
  have HS := Lib.hid hs
  have hw : wn ≤ 24 := by have := hs.2.1; omega
  have hh : hn ≤ 24 := by have := hs.2.2.2.1; omega
  clear hs
  go_enter Try.func38, Try.ntmps38
  go_wp2_with (go_at_call 64; with_reducible refine (sizeOk_yes _ _ _ HS.out).mono ?_; rintro e w' ⟨rfl, rfl⟩)
  refine calls_at (X := fun w' => Ext U w' ∧ U.heap.size + 1 + 1 ≤ w'.heap.size ∧ w'.cell? ⟨U.heap.size, 0, none⟩ = some (fl v) ∧ Box3 w' (U.heap.size + 1) (.int .i64 0) (.int .i64 0) (.slice none 0 0) ∧ (∀ i, w'.frozen? ⟨U.heap.size + 1, i, none⟩ = false)) ⟨((Ext.refl _).alloc _).alloc _, by simp, by simp [go_sem], ⟨by simp [go_sem], by simp [go_sem], by simp [go_sem]⟩, fun i => by simp [go_sem]⟩ ?_
  rintro w0 ⟨hx0, hs0, hv0, hb0, hf0⟩
  refine (mapOf_any wn hn hw hh 75 #[.pointer (some ⟨U.heap.size, 0, none⟩)] (fun _ _ => X) w0 (by kernel_rfl) (fun x y W' hx _ _ => (flat1_any U.heap.size v x y W' (cell_ext hv0 hx)).mono (by rintro e w' ⟨rfl, rfl⟩; exact ⟨v, rfl, hv, Ext.refl _⟩))).mono ?_
  rintro e w1 ⟨A, c, bs, rfl, ho, hm, hwd, hx⟩
  rw [cells_const] at hm
  have ⟨c0, c1, c2⟩ := hb0.ext hx
  have f0 : w1.frozen? ⟨U.heap.size + 1, 0, none⟩ = false := (hx.marks _ _ (by rw [hb0.1]; rfl)).trans (hf0 0)
  have f1 : w1.frozen? ⟨U.heap.size + 1, 1, none⟩ = false := (hx.marks _ _ (by rw [hb0.2.1]; rfl)).trans (hf0 1)
  have f2 : w1.frozen? ⟨U.heap.size + 1, 2, none⟩ = false := (hx.marks _ _ (by rw [hb0.2.2]; rfl)).trans (hf0 2)
  have hE := hx0.trans hx
  clear hx0 hb0 hf0 hx
  go_wp2
  refine bodyPost_ret (v := .tuple #[.agg #[.int .i64 wn, .int .i64 hn, .slice A bs.length c], .bool true]) (by simp [results, Try.results38, go_sem, *]) rfl ⟨A, c, bs, rfl, ⟨?_, hm⟩, ?_⟩
  · refine OwnF.weaken (base := w0.heap.size) ?_ (by omega)
    repeat (first | (with_reducible exact ho) | (with_reducible refine OwnF.set_below ?_ (by dsimp only; omega) _))
  · repeat (first | (with_reducible exact hE) | (with_reducible refine Ext.setCell ?_ (by dsimp only; omega) _))
theorem implFlatMap_no (w h : Int) (hs : ¬ Sz w h) (v : Nat) (U : World) :
    Calls Try.prog 38 #[.int .i64 w, .int .i64 h, .float .f32 v] U fun e U' => ∃ A c bs, e = .returned (.tuple #[.agg #[.int .i64 0, .int .i64 0, .slice A bs.length c], .bool false]) ∧
      (OwnF U' U.heap.size 22 (.slice A bs.length c) bs ∧ bs.map nrm = []) ∧ Ext U U' := by
  have HS := Lib.hid hs
  clear hs
  go_enter Try.func38, Try.ntmps38
  go_wp2_with (go_at_call 64; with_reducible refine (sizeOk_no _ _ _ HS.out).mono ?_; rintro e w' ⟨rfl, rfl⟩)
  refine bodyPost_ret (v := .tuple #[.agg #[.int .i64 0, .int .i64 0, .slice none 0 0], .bool false]) (by simp [results, Try.results38, go_sem, *]) rfl ⟨none, 0, [], rfl, ⟨OwnF.nil _ _ _, rfl⟩, ?_⟩
  repeat (first | with_reducible exact Ext.refl _ | (with_reducible refine Ext.setCell ?_ (by simp; try omega) _) | (with_reducible refine Ext.alloc ?_ _))
theorem lawFlatMap_any (W : World) (w : Int) (_ : IntKind.i64.min ≤ w ∧ w ≤ IntKind.i64.max) (h : Int) (_ : IntKind.i64.min ≤ h ∧ h ≤ IntKind.i64.max) (v : Nat) (hv : v < 4294967296) :
    Calls Try.prog 10 #[.int .i64 w, .int .i64 h, .float .f32 v] W fun e W' => e = .returned (.bool true) ∧ Ext W W' := by
  by_cases hs : Sz w h
  · obtain ⟨wn, rfl⟩ := Int.eq_ofNat_of_zero_le (show 0 ≤ w by have := hs.1; omega)
    obtain ⟨hn, rfl⟩ := Int.eq_ofNat_of_zero_le (show 0 ≤ h by have := hs.2.2.1; omega)
    have hp : wn * hn ≤ 576 := Nat.le_trans (Nat.mul_le_mul (show wn ≤ 24 by have := hs.2.1; omega) (show hn ≤ 24 by have := hs.2.2.2.1; omega)) (by omega)
    exact lawFlatMap_core W wn hn v wn hn (List.replicate (wn * hn) (nrm v)) (by simp; omega) true (fun w' => (specFlatMap_yes wn hn hs v _ ⟨hv, rfl⟩ w').mono (by rintro e w1 ⟨A, c, bs, rfl, ⟨h1, h2⟩, h3⟩; exact ⟨A, c, bs, rfl, h1, h2, h3⟩)) (fun w' => (implFlatMap_yes wn hn hs v _ ⟨hv, rfl⟩ w').mono (by rintro e w1 ⟨A, c, bs, rfl, ⟨h1, h2⟩, h3⟩; exact ⟨A, c, bs, rfl, h1, h2, h3⟩))
  · exact lawFlatMap_core W w h v 0 0 [] (by simp) false (fun w' => (specFlatMap_no w h hs v w').mono (by rintro e w1 ⟨A, c, bs, rfl, ⟨h1, h2⟩, h3⟩; exact ⟨A, c, bs, rfl, h1, h2, h3⟩)) (fun w' => (implFlatMap_no w h hs v w').mono (by rintro e w1 ⟨A, c, bs, rfl, ⟨h1, h2⟩, h3⟩; exact ⟨A, c, bs, rfl, h1, h2, h3⟩))
end Go.Proofs.Ythcpnbjlgbobaaa
