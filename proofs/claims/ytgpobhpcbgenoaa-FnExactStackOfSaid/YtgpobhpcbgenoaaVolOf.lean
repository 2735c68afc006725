/- The contract of volumeOf: a volume whose costs are told by a function value. -/
import Derived.Test.YtgpobhpcbgenoaaHarA
import Derived.Lib.Hide
import Derived.Test.YtgpobhpcbgenoaaCube
import Derived.Test.YtgpobhpcbgenoaaMade
import Derived.Test.YtgpobhpcbgenoaaValid
namespace Go.Proofs.Ytgpobhpcbgenoaa
open Go.RowKit
set_option linter.unusedVariables false

theorem vol_wh {wn hn dn n : Nat} (hv : VVol wn hn dn n) : wn * hn ≤ 256 := by
  have h1 := hv.1.2.2.2.2
  have h2 : ((wn * hn : Nat) : Int) = (wn : Int) * (hn : Int) := by simp
  omega
theorem vol_n {wn hn dn n : Nat} (hv : VVol wn hn dn n) : n = wn * hn * dn ∧ 0 < n ∧ n ≤ 2048 := by
  have h1 := hv.2.2.2
  have h2 := vol_bounds hv.1 hv.2.1 hv.2.2.1
  have h3 : ((wn * hn * dn : Nat) : Int) = (wn : Int) * (hn : Int) * (dn : Int) := by simp
  omega
/-- What else lies in the boxes of volumeOf. -/
structure VolR (U wr : World) (wn hn dn : Nat) : Prop where
  a0 : wr.cell? ⟨U.heap.size, 0, none⟩ = some (.int .i64 0)
  a1 : wr.cell? ⟨U.heap.size, 1, none⟩ = some (.int .i64 0)
  a2 : wr.cell? ⟨U.heap.size, 2, none⟩ = some (.int .i64 0)
  a3 : wr.cell? ⟨U.heap.size, 3, none⟩ = some (.slice none 0 0)
  b0 : wr.cell? ⟨U.heap.size + 1, 0, none⟩ = some (.int .i64 wn)
  b1 : wr.cell? ⟨U.heap.size + 1, 1, none⟩ = some (.int .i64 hn)
  b2 : wr.cell? ⟨U.heap.size + 1, 2, none⟩ = some (.int .i64 dn)
  f0 : wr.frozen? ⟨U.heap.size, 0, none⟩ = false
  f1 : wr.frozen? ⟨U.heap.size, 1, none⟩ = false
  f2 : wr.frozen? ⟨U.heap.size, 2, none⟩ = false
  f3 : wr.frozen? ⟨U.heap.size, 3, none⟩ = false

set_option maxHeartbeats 8000000 in
set_option maxRecDepth 8000 in
theorem volumeOf_any (wn hn dn : Nat) (hwh : wn * hn ≤ 256) (hd : dn ≤ 8) (hw : wn ≤ 24) (hh : hn ≤ 24) (g : FuncId) (lb : Array Value) (F : Nat → Nat → Nat → Nat) (U : World)
    (hg : (Try.prog.funcs[g]?).any (fun fn => !(fn.name == "runtime.NumGoroutine") && fn.body.isSome) = true)
    (hof : ∀ (x y e : Nat) (U' : World), Ext U U' → x < wn → y < hn → e < dn → Calls Try.prog g (#[.int .i64 x, .int .i64 y, .int .i64 e] ++ lb) U' fun e' U'' => ∃ r, e' = .returned (.float .f32 r) ∧ Is r (F x y e) ∧ Ext U' U'') :
    Calls Try.prog 86 #[.int .i64 wn, .int .i64 hn, .int .i64 dn, .func (.func g) #[] lb] U fun e U' => ∃ A c bs, e = .returned (.agg #[.int .i64 wn, .int .i64 hn, .int .i64 dn, .slice A bs.length c]) ∧
      OwnF U' U.heap.size 25 (.slice A bs.length c) bs ∧ bs.map nrm = cells3 F wn dn (wn * hn * dn) ∧ Words bs ∧ Ext U U' := by
  obtain ⟨i0, hi, hz0, hz1, hz2⟩ := info_parts infoF
  have HG := Lib.hid hg
  have HOF := Lib.hid hof
  clear hg hof
  have HP := Lib.hid (fun k j l (hk : k < hn) (hj : j < wn) (hl : l < dn) => cube_le hwh hd hk hj hl)
  have HWH := Lib.hid hwh
  clear hwh
  go_enter Try.func86, Try.ntmps86
  go_wp2_with fail
  go_loopw [18] (fun y wr => ∃ (k : Nat) (A : Option Addr) (c : Nat) (bs : List Nat), k ≤ hn ∧ y = .int .i64 k ∧ Acc U wr (U.heap.size + 1 + 1) 25 (U.heap.size + 1) 3 A c bs (cells3 F wn dn (k * wn * dn)) ∧ VolR U wr wn hn dn) (fun y _ => hn - (intOf y).toNat)
  case atStart =>
    refine ⟨0, none, 0, [], Nat.zero_le _, rfl, ⟨OwnF.nil _ _ _, by simp [go_sem], by simp [go_sem], by simp [cells3], (fun b hb => by cases hb), ?_⟩, ⟨?_, ?_, ?_, ?_, ?_, ?_, ?_, ?_, ?_, ?_, ?_⟩⟩
    · repeat (first | with_reducible exact Ext.refl _ | (with_reducible refine Ext.setCell ?_ (by simp; try omega) _) | (with_reducible refine Ext.alloc ?_ _))
    all_goals simp [go_sem]
  case round =>
    obtain ⟨k, A, c, bs, hk, rfl, hacc, hR⟩ := hrel
    by_cases hlt : k < hn
    · go_wp2_with fail
      go_loopw [22] (fun x wq => ∃ (j : Nat) (A : Option Addr) (c : Nat) (bs : List Nat), j ≤ wn ∧ x = .int .i64 j ∧ Acc U wq (U.heap.size + 1 + 1) 25 (U.heap.size + 1) 3 A c bs (cells3 F wn dn ((k * wn + j) * dn)) ∧ VolR U wq wn hn dn) (fun x _ => wn - (intOf x).toNat)
      case atStart => exact ⟨0, A, c, bs, Nat.zero_le _, rfl, hacc, hR⟩
      case round =>
        clear hacc hR
        rename_i wq
        obtain ⟨j, A, c, bs, hj, rfl, hacc, hR⟩ := hrel
        by_cases hltj : j < wn
        · go_wp2_with fail
          go_loopw [26] (fun x wp => ∃ (l : Nat) (A : Option Addr) (c : Nat) (bs : List Nat), l ≤ dn ∧ x = .int .i64 l ∧ Acc U wp (U.heap.size + 1 + 1) 25 (U.heap.size + 1) 3 A c bs (cells3 F wn dn ((k * wn + j) * dn + l)) ∧ VolR U wp wn hn dn) (fun x _ => dn - (intOf x).toNat)
          case atStart => exact ⟨0, A, c, bs, Nat.zero_le _, rfl, hacc, hR⟩
          case round =>
            clear hacc hR
            rename_i wp
            obtain ⟨l, A, c, bs, hl, rfl, hacc, hR⟩ := hrel
            by_cases hltl : l < dn
            · have hhdr := hacc.hdr
              have hfr := hacc.fr
              go_wp2_with fail
              refine region_wx 8 [none, none, none, none, none, none, some (fun u U' => ∃ r, u = .float .f32 r ∧ Is r (F j k l))] (by kernel_rfl) (by kernel_rfl) ?_
              simp only [List.take_succ_cons, List.take_zero, List.drop_succ_cons, List.drop_zero]
              repeat ((first | refine wx_skip rfl ?_ | refine wx_nilCheck rfl rfl _ rfl _ rfl ?_ | (refine wx_float rfl rfl _ _ _ _ _ _ _ rfl rfl rfl rfl ?_; intro r hr) | (refine wx_k rfl rfl rfl (fun K hK => ?_); go_big_quiet_op; refine hK _ ?_; clear hK K) | (refine wx_callV _ rfl rfl _ _ _ rfl g lb rfl HG.out (fun Wc hWc hFc => ?_) ?_; (· go_simp; refine (HOF.out j k l Wc (hacc.ext.trans hWc) hltj hlt hltl).mono ?_; rintro e w' ⟨r, rfl, hr, hx⟩; exact ⟨_, rfl, ⟨r, rfl, hr⟩, hx⟩); rintro u V hV ⟨r, rfl, hr⟩) | (refine wx_bs rfl rfl _ _ _ rfl _ rfl (fun Z => bs1 _ Z) ?_; intro H V2 hV2 hcell)); (try simp only [Act.put, List.setIfInBounds_toArray, List.set_cons_zero, List.set_cons_succ]); (try simp only [List.tail_cons]))
              refine wx_nil (fun W hW hF => ?_)
              have hVW : Ext V2 W := hF 7
              clear hF
              have hcell1 := cell_ext hcell hVW
              have hown1 := hacc.own.ext hW
              have hrow := hown1.row
              have hlen := hacc.len
              rw [cells3_length] at hlen
              have hp := HP.out k j l hlt hltj hltl
              refine wpList_append_own _ rfl _ _ _ rfl (U.heap.size + 1 + 1) 25 i0 (.float .f32 0) 1 4 Try.underlying22 hi hz0 hz1 hz2 rfl (by omega) (.slice A bs.length c) bs.length (bs.map fl) (by rfl) hown1 ⟨H, 0, none⟩ 1 1 [fl r] (by rfl) rfl (one_new hcell1) (one_word r) (by unfold maxLen; omega) (by omega) (by have := hW.size; have := hacc.ext.size; have := lt_of_cell hhdr; omega) ?_
              intro v' w2 ho2 hg2 _
              obtain ⟨A', c', bs', rfl, hacc', hold, holdf⟩ := hacc.push hW (by omega) (by omega) ho2 hg2 hr
              rw [← cells3_step F wn dn k j l hltj hltl] at hacc'
              have hhdr2 : w2.cell? ⟨U.heap.size + 1, 3, none⟩ = some (.slice A bs.length c) := hg2.cell (cell_ext hhdr hW) (fun he => by have := hrow (U.heap.size + 1) he.symm; omega)
              have hfr2 : w2.frozen? ⟨U.heap.size + 1, 3, none⟩ = false := (World.frozen?_of_block (a := ⟨U.heap.size + 1, 3, none⟩) (hg2.block _ (lt_of_cell (cell_ext hhdr hW)) (fun he => by have := hrow (U.heap.size + 1) he.symm; omega))).trans ((hW.marks _ _ (by rw [hhdr]; rfl)).trans hfr)
              have hR' : VolR U _ wn hn dn := ⟨hold _ _ _ hR.a0 (by omega) (by omega), hold _ _ _ hR.a1 (by omega) (by omega), hold _ _ _ hR.a2 (by omega) (by omega), hold _ _ _ hR.a3 (by omega) (by omega), hold _ _ _ hR.b0 (by omega) (by omega), hold _ _ _ hR.b1 (by omega) (by omega), hold _ _ _ hR.b2 (by omega) (by omega),
                (holdf _ _ (by rw [hR.a0]; rfl) (by omega)).trans hR.f0, (holdf _ _ (by rw [hR.a1]; rfl) (by omega)).trans hR.f1, (holdf _ _ (by rw [hR.a2]; rfl) (by omega)).trans hR.f2, (holdf _ _ (by rw [hR.a3]; rfl) (by omega)).trans hR.f3⟩
              clear hold holdf hcell1 hown1 hrow hcell hVW hW hV2 hV hhdr hfr ho2 hg2 hacc hR
              go_wp2
              go_roundw
              case rel => exact ⟨l + 1, A', c', bs', by omega, by go_num, hacc', hR'⟩
              case measure => simp [intOf]; omega
            · have e1 : l = dn := by omega
              subst e1
              rw [cells3_cell] at hacc
              go_wp2
              go_roundw
              case rel => exact ⟨j + 1, A, c, bs, by omega, by go_num, hacc, hR⟩
              case measure => simp [intOf]; omega
        · have e1 : j = wn := by omega
          subst e1
          rw [cells3_row] at hacc
          go_wp2
          go_roundw
          case rel => exact ⟨k + 1, A, c, bs, by omega, by go_num, hacc, hR⟩
          case measure => simp [intOf]; omega
    · have e1 : k = hn := by omega
      subst e1
      rw [Nat.mul_comm k wn] at hacc
      obtain ⟨a0, a1, a2, a3, b0, b1, b2, f0, f1, f2, f3⟩ := hR
      have hhdr := hacc.hdr
      go_wp2
      refine bodyPost_ret (v := .agg #[.int .i64 wn, .int .i64 k, .int .i64 dn, .slice A bs.length c]) (by simp [results, Try.results86, go_sem, *]) rfl ⟨A, c, bs, rfl, ?_, hacc.like, hacc.wd, ?_⟩
      · refine OwnF.weaken (base := U.heap.size + 1 + 1) ?_ (by omega)
        repeat (first | (with_reducible exact hacc.own) | (with_reducible refine OwnF.set_below ?_ (by dsimp only; omega) _))
      · repeat (first | (with_reducible exact hacc.ext) | (with_reducible refine Ext.setCell ?_ (by dsimp only; omega) _))
set_option maxRecDepth 8000 in
theorem revolume_yes (wn hn dn : Nat) (A0 : Option Addr) (n0 m0 : Nat) (hn0 : n0 ≤ maxLen) (hv : VVol wn hn dn n0) (g : FuncId) (lb : Array Value) (F : Nat → Nat → Nat → Nat) (U : World)
    (hg : (Try.prog.funcs[g]?).any (fun fn => !(fn.name == "runtime.NumGoroutine") && fn.body.isSome) = true)
    (hof : ∀ (x y e : Nat) (U' : World), Ext U U' → x < wn → y < hn → e < dn → Calls Try.prog g (#[.int .i64 x, .int .i64 y, .int .i64 e] ++ lb) U' fun e' U'' => ∃ r, e' = .returned (.float .f32 r) ∧ Is r (F x y e) ∧ Ext U' U'') :
    Calls Try.prog 92 #[.agg #[.int .i64 wn, .int .i64 hn, .int .i64 dn, .slice A0 n0 m0], .func (.func g) #[] lb] U fun e U' => ∃ A c bs, e = .returned (.tuple #[.agg #[.int .i64 wn, .int .i64 hn, .int .i64 dn, .slice A bs.length c], .bool true]) ∧
      OwnF U' U.heap.size 25 (.slice A bs.length c) bs ∧ bs.map nrm = cells3 F wn dn (wn * hn * dn) ∧ Ext U U' := by
  have hwh : wn * hn ≤ 256 := vol_wh hv
  have HV := Lib.hid hv
  have HK := Lib.hid (fun (U1 : World) (hx : Ext U U1) => volumeOf_any wn hn dn hwh (by have := hv.2.2.1; omega) (by have := hv.1.2.1; omega) (by have := hv.1.2.2.2.1; omega) g lb F U1 hg (fun x y e W' h1 h2 h3 h4 => hof x y e W' (hx.trans h1) h2 h3 h4))
  clear hv hwh hof hg
  go_enter Try.func92, Try.ntmps92
  go_wp2_with fail
  refine calls_at (X := fun w' => Ext U w' ∧ Box4 w' U.heap.size (.int .i64 wn) (.int .i64 hn) (.int .i64 dn) (.slice A0 n0 m0) ∧ Res4 w' (U.heap.size + 1) ∧ U.heap.size + 1 + 1 ≤ w'.heap.size) ⟨((Ext.refl _).alloc _).alloc _, ⟨by simp [go_sem], by simp [go_sem], by simp [go_sem], by simp [go_sem]⟩, ⟨by simp [go_sem], by simp [go_sem], by simp [go_sem], by simp [go_sem], by simp [go_sem], by simp [go_sem], by simp [go_sem], by simp [go_sem]⟩, by simp⟩ ?_
  rintro w0 ⟨hx0, hb0, hr0, hs0⟩
  refine (ValidVolume_yes _ _ _ A0 n0 m0 _ hn0 HV.out).mono ?_
  rintro e w1 ⟨rfl, hx⟩
  have ⟨p0, p1, p2, p3⟩ := hb0.ext hx
  have hr := hr0.ext hx
  have hE := hx0.trans hx
  have hs := Nat.le_trans hs0 hx.size
  clear hx hx0 hb0 hr0 hs0
  go_wp2_with fail
  refine (HK.out w1 hE).mono ?_
  rintro e w2 ⟨A, c, bs, rfl, ho, hm, hwd, hx⟩
  have ⟨c0, c1, c2, c3, f0, f1, f2, f3⟩ := hr.ext hx
  have hE2 := hE.trans hx
  clear hr hx hE p0 p1 p2 p3
  go_wp2
  refine bodyPost_ret (v := .tuple #[.agg #[.int .i64 wn, .int .i64 hn, .int .i64 dn, .slice A bs.length c], .bool true]) (by simp [results, Try.results92, go_sem, *]) rfl ⟨A, c, bs, rfl, ?_, hm, ?_⟩
  · refine OwnF.weaken (base := w1.heap.size) ?_ (by omega)
    repeat (first | (with_reducible exact ho) | (with_reducible refine OwnF.set_below ?_ (by dsimp only; omega) _))
  · repeat (first | (with_reducible exact hE2) | (with_reducible refine Ext.setCell ?_ (by dsimp only; omega) _))
theorem revolume_no (w h d : Int) (A0 : Option Addr) (n0 m0 : Nat) (hn0 : n0 ≤ maxLen) (hv : ¬ VVol w h d n0) (g : FuncId) (lb : Array Value) (U : World) :
    Calls Try.prog 92 #[.agg #[.int .i64 w, .int .i64 h, .int .i64 d, .slice A0 n0 m0], .func (.func g) #[] lb] U fun e U' => ∃ A c bs, e = .returned (.tuple #[.agg #[.int .i64 0, .int .i64 0, .int .i64 0, .slice A bs.length c], .bool false]) ∧
      OwnF U' U.heap.size 25 (.slice A bs.length c) bs ∧ bs.map nrm = [] ∧ Ext U U' := by
  have HV := Lib.hid hv
  clear hv
  go_enter Try.func92, Try.ntmps92
  go_wp2_with fail
  refine calls_at (X := fun w' => Ext U w' ∧ Box4 w' U.heap.size (.int .i64 w) (.int .i64 h) (.int .i64 d) (.slice A0 n0 m0) ∧ Res4 w' (U.heap.size + 1) ∧ U.heap.size + 1 + 1 ≤ w'.heap.size) ⟨((Ext.refl _).alloc _).alloc _, ⟨by simp [go_sem], by simp [go_sem], by simp [go_sem], by simp [go_sem]⟩, ⟨by simp [go_sem], by simp [go_sem], by simp [go_sem], by simp [go_sem], by simp [go_sem], by simp [go_sem], by simp [go_sem], by simp [go_sem]⟩, by simp⟩ ?_
  rintro w0 ⟨hx0, hb0, hr0, hs0⟩
  refine (ValidVolume_not _ _ _ A0 n0 m0 _ hn0 HV.out).mono ?_
  rintro e w1 ⟨rfl, hx⟩
  have ⟨c0, c1, c2, c3, f0, f1, f2, f3⟩ := hr0.ext hx
  have hE := hx0.trans hx
  clear hx hx0 hb0 hr0
  go_wp2
  refine bodyPost_ret (v := .tuple #[.agg #[.int .i64 0, .int .i64 0, .int .i64 0, .slice none 0 0], .bool false]) (by simp [results, Try.results92, go_sem, *]) rfl ⟨none, 0, [], rfl, OwnF.nil _ _ _, rfl, ?_⟩
  repeat (first | (with_reducible exact hE) | (with_reducible refine Ext.setCell ?_ (by dsimp only; omega) _))
end Go.Proofs.Ytgpobhpcbgenoaa
