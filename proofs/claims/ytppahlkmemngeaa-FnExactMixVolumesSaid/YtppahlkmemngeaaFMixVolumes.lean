/- The law on MixVolumes holds. -/
import Derived.Test.YtppahlkmemngeaaSpecV
import Derived.Test.YtppahlkmemngeaaAlike
import Derived.Test.YtppahlkmemngeaaCMixVolumes
namespace Go.Proofs.Ytppahlkmemngeaa
open Go.RowKit
set_option linter.unusedVariables false

theorem mix_is {v w p P a s q r : Nat} (hv : v < 4294967296) (hw : w < 4294967296) (hp : Is p P) (ha : Is a (fop .mul v p)) (hs : Is s (fop .sub 1065353216 p)) (hq : Is q (fop .mul w s)) (hr : Is r (fop .add a q)) :
    Is r (fop .add (fop .mul v P) (fop .mul w (fop .sub 1065353216 P))) := by
  have h1 := is_l hv hp ha
  have h2 : Is s (fop .sub 1065353216 P) := is_l (by omega) hp hs
  have h3 := is_l hw h2 hq
  exact Is.op h1 h3 hr
set_option maxHeartbeats 4000000 in
set_option maxRecDepth 8000 in
theorem specMixVolumes_yes (wn hn dn gb off n c : Nat) (bs : List Nat) (gb2 off2 c2 : Nat) (bs2 : List Nat) (p P : Nat) (hp : Is p P) (U : World) (hl : Lies U gb off bs) (hlen : bs.length = n) (hwd : Words bs) (hnc : n ≤ c) (hcm : c ≤ maxLen) (hl2 : Lies U gb2 off2 bs2) (hlen2 : bs2.length = n) (hwd2 : Words bs2) (hnc2 : n ≤ c2) (hcm2 : c2 ≤ maxLen) (hv : VVol wn hn dn n) (hv2 : VVol wn hn dn n) :
    Calls Try.prog 31 #[.agg #[.int .i64 wn, .int .i64 hn, .int .i64 dn, .slice (some ⟨gb, off, none⟩) n c], .agg #[.int .i64 wn, .int .i64 hn, .int .i64 dn, .slice (some ⟨gb2, off2, none⟩) n c2], .float .f32 p] U fun e U' => ∃ A c' b, e = .returned (.tuple #[.agg #[.int .i64 wn, .int .i64 hn, .int .i64 dn, .slice A b.length c'], .bool true]) ∧ OwnF U' U.heap.size 25 (.slice A b.length c') b ∧ b.map nrm = (List.range n).map (fun i => fop .add (fop .mul (bs.getD i 0) P) (fop .mul (bs2.getD i 0) (fop .sub 1065353216 P))) ∧ Ext U U' := by
  obtain ⟨hnn0, h0, hn2⟩ := vol_n hv
  clear hnn0
  have hbl : gb < U.heap.size := hl.lt (by omega)
  have hbl2 : gb2 < U.heap.size := hl2.lt (by omega)
  have HV := Lib.hid hv
  have HLEN := Lib.hid hlen
  have HWD := Lib.hid hwd
  have HLEN2 := Lib.hid hlen2
  have HWD2 := Lib.hid hwd2
  clear hv hlen hwd hlen2 hwd2 hv2
  have hcn := Nat.le_trans hnc hcm
  have hcn2 := Nat.le_trans hnc2 hcm2
  unfold maxLen at hcm hcm2
  go_enter Try.func31, Try.ntmps31
  go_wp2_with fail
  refine calls_at (X := fun w' => Ext U w' ∧ Box4 w' U.heap.size (.int .i64 wn) (.int .i64 hn) (.int .i64 dn) (.slice (some ⟨gb, off, none⟩) n c) ∧ Box4 w' (U.heap.size + 1) (.int .i64 wn) (.int .i64 hn) (.int .i64 dn) (.slice (some ⟨gb2, off2, none⟩) n c2) ∧ Res4 w' (U.heap.size + 1 + 1) ∧ U.heap.size + 1 + 1 + 1 ≤ w'.heap.size) ⟨(((Ext.refl _).alloc _).alloc _).alloc _, ⟨by simp [go_sem], by simp [go_sem], by simp [go_sem], by simp [go_sem]⟩, ⟨by simp [go_sem], by simp [go_sem], by simp [go_sem], by simp [go_sem]⟩, ⟨by simp [go_sem], by simp [go_sem], by simp [go_sem], by simp [go_sem], by simp [go_sem], by simp [go_sem], by simp [go_sem], by simp [go_sem]⟩, by simp⟩ ?_
  rintro w0 ⟨hx0, hb0, hd0, hr0, hs0⟩
  refine (l03Alike_yes _ _ _ _ _ _ _ n n c c2 _ hcn hcn2 hb0 hd0 HV.out HV.out).mono ?_
  rintro e w1 ⟨rfl, hx⟩
  have hb1 := hb0.ext hx
  have hd1 := hd0.ext hx
  have hr1 := hr0.ext hx
  have hE := hx0.trans hx
  have hs1 := Nat.le_trans hs0 hx.size
  have hl1 := hl.ext hE
  have hl21 := hl2.ext hE
  clear hx hx0 hb0 hr0 hs0 hl hd0 hl2
  go_wp2_with fail
  refine (l03Own_any U.heap.size wn hn dn gb off n c bs w1 hl1 HLEN.out hb1 h0 hn2).mono ?_
  rintro e w2 ⟨H, cH, rfl, hO, hx⟩
  have hH := hO.ge
  replace hE := hE.trans hx
  have hs2 := Nat.le_trans hs1 hx.size
  replace hb1 := hb1.ext hx
  replace hd1 := hd1.ext hx
  replace hr1 := hr1.ext hx
  replace hl1 := hl1.ext hx
  replace hl21 := hl21.ext hx
  clear hx
  go_wp2_with fail
  go_loopw [17] (fun i wr => ∃ k : Nat, k ≤ n ∧ i = .int .i64 k ∧ Fil U wr w1.heap.size 25 H n cH (bs) k (fun i => fop .add (fop .mul (bs.getD i 0) P) (fop .mul (bs2.getD i 0) (fop .sub 1065353216 P))) ∧ Box4 wr U.heap.size (.int .i64 wn) (.int .i64 hn) (.int .i64 dn) (.slice (some ⟨gb, off, none⟩) n c) ∧ Box4 wr (U.heap.size + 1) (.int .i64 wn) (.int .i64 hn) (.int .i64 dn) (.slice (some ⟨gb2, off2, none⟩) n c2) ∧ Lies wr gb off bs ∧ Lies wr gb2 off2 bs2 ∧ Res4 wr (U.heap.size + 1 + 1) ∧ Box4 wr w2.heap.size (.int .i64 wn) (.int .i64 hn) (.int .i64 dn) (.slice (some ⟨H, 0, none⟩) n cH)) (fun i _ => n - (intOf i).toNat)
  case atStart =>
    refine ⟨0, Nat.zero_le _, rfl, Fil.start (hO.ext ?e) (hE.trans ?e), hb1.ext ?e, hd1.ext ?e, hl1.ext ?e, hl21.ext ?e, hr1.ext ?e, ⟨by simp [go_sem], by simp [go_sem], by simp [go_sem], by simp [go_sem]⟩⟩
    case e => repeat (first | with_reducible exact Ext.refl _ | (with_reducible refine Ext.setCell ?_ (by simp; try omega) _) | (with_reducible refine Ext.alloc ?_ _))
  case round =>
    clear hO hE hb1 hr1 hl1 hd1 hl21
    obtain ⟨k, hk, rfl, hfil, hb, hd, hl, hl2, hres, ho⟩ := hrel
    by_cases hlt : k < n
    · have hc1 := hl k (by have := HLEN.out; omega)
      have hw1 := wd_at HWD.out k
      have hc2 := hl2 k (by have := HLEN2.out; omega)
      have hw2 := wd_at HWD2.out k
      have ⟨p0, p1, p2, p3⟩ := hb
      have ⟨q0, q1, q2, q3⟩ := hd
      have ⟨o0, o1, o2, o3⟩ := ho
      have hk0 : (0 : Int) ≤ (k : Int) := by omega
      have hk1 : (k : Int) < (n : Int) := by omega
      go_wp2_with fail
      refine region_wx 20 [] (by kernel_rfl) (by kernel_rfl) ?_
      simp only [List.take_succ_cons, List.take_zero, List.drop_succ_cons, List.drop_zero]
      repeat ((first | refine wx_skip rfl ?_ | refine wx_nilCheck rfl rfl _ rfl _ rfl ?_ | (refine wx_float rfl rfl _ _ _ _ _ _ _ rfl rfl rfl rfl ?_; intro r hr) | (refine wx_k rfl rfl rfl (fun K hK => ?_); go_big_quiet_op; refine hK _ ?_; clear hK K) ); (try simp only [Act.put, List.setIfInBounds_toArray, List.set_cons_zero, List.set_cons_succ]); (try simp only [List.tail_nil]))
      refine wx_nil (fun W hW hF => ?_)
      have hct := (hfil.later hW).cell hlt (Nat.le_refl _)
      have hcf := (hfil.later hW).cool k
      have hfil' := (hfil.later hW).put hlt (by omega) (r := r) (mix_is hw1 hw2 hp (by assumption) (by assumption) (by assumption) (by assumption))
      have hb' := (hb.ext hW).set_ne (g := H) (i := k) (u := fl r) (by omega)
      have hd' := (hd.ext hW).set_ne (g := H) (i := k) (u := fl r) (by omega)
      have hl' := (hl.ext hW).set_ne (g := H) (i := k) (u := fl r) (by omega)
      have hl2' := (hl2.ext hW).set_ne (g := H) (i := k) (u := fl r) (by omega)
      have hres' := (hres.ext hW).set_ne (g := H) (i := k) (u := fl r) (by omega)
      have ho' := (ho.ext hW).set_ne (g := H) (i := k) (u := fl r) (by omega)
      clear p0 p1 p2 p3 q0 q1 q2 q3 o0 o1 o2 o3 hb hd hl hl2 hres ho hfil hc1 hc2 hF
      go_wp2
      go_roundw
      case rel => exact ⟨k + 1, by omega, by go_num, hfil', hb', hd', hl', hl2', hres', ho'⟩
      case measure => simp [intOf]; omega
    · have e1 : k = n := by omega
      subst e1
      obtain ⟨b, hbl3, hb1, hb2⟩ := hfil.done
      have hE := hfil.ext
      have ⟨o0, o1, o2, o3⟩ := ho
      have ⟨p0, p1, p2, p3⟩ := hb
      have ⟨c0, c1, c2, c3, f0, f1, f2, f3⟩ := hres
      clear hb hd hl hl2 hres ho hfil
      have hbb := hbl3
      subst hbb
      go_wp2
      refine bodyPost_ret (v := .tuple #[.agg #[.int .i64 wn, .int .i64 hn, .int .i64 dn, .slice (some ⟨H, 0, none⟩) b.length cH], .bool true]) (by simp [results, Try.results31, go_sem, *]) rfl ⟨_, cH, b, rfl, ?_, hb2, ?_⟩
      · refine OwnF.weaken (base := w1.heap.size) ?_ (by omega)
        repeat (first | (with_reducible exact hb1) | (with_reducible refine OwnF.set_below ?_ (by dsimp only; omega) _))
      · repeat (first | (with_reducible exact hE) | (with_reducible refine Ext.setCell ?_ (by dsimp only; omega) _))
set_option maxHeartbeats 1000000 in
theorem implMixVolumes_yes (wn hn dn gb off n c : Nat) (bs : List Nat) (gb2 off2 c2 : Nat) (bs2 : List Nat) (p P : Nat) (hp : Is p P) (U : World) (hl : Lies U gb off bs) (hlen : bs.length = n) (hwd : Words bs) (hnc : n ≤ c) (hcm : c ≤ maxLen) (hl2 : Lies U gb2 off2 bs2) (hlen2 : bs2.length = n) (hwd2 : Words bs2) (hnc2 : n ≤ c2) (hcm2 : c2 ≤ maxLen) (hv : VVol wn hn dn n) (hv2 : VVol wn hn dn n) :
    Calls Try.prog 32 #[.agg #[.int .i64 wn, .int .i64 hn, .int .i64 dn, .slice (some ⟨gb, off, none⟩) n c], .agg #[.int .i64 wn, .int .i64 hn, .int .i64 dn, .slice (some ⟨gb2, off2, none⟩) n c2], .float .f32 p] U fun e U' => ∃ A c' b, e = .returned (.tuple #[.agg #[.int .i64 wn, .int .i64 hn, .int .i64 dn, .slice A b.length c'], .bool true]) ∧ OwnF U' U.heap.size 25 (.slice A b.length c') b ∧ b.map nrm = cells3 (fun x y e => fop .add (fop .mul (bs.getD (cellN wn (x : Int) (y : Int) * dn + e) 0) P) (fop .mul (bs2.getD (cellN wn (x : Int) (y : Int) * dn + e) 0) (fop .sub 1065353216 P))) wn dn (wn * hn * dn) ∧ Ext U U' := by
  have hcn := Nat.le_trans hnc hcm
  have hcn2 := Nat.le_trans hnc2 hcm2
  have HV := Lib.hid hv
  have HK := Lib.hid (fun (w0 : World) (hx0 : Ext U w0) (hb0 : Box4 w0 U.heap.size (.int .i64 wn) (.int .i64 hn) (.int .i64 dn) (.slice (some ⟨gb, off, none⟩) n c)) (hd0 : Box4 w0 (U.heap.size + 1) (.int .i64 wn) (.int .i64 hn) (.int .i64 dn) (.slice (some ⟨gb2, off2, none⟩) n c2)) (hp0 : w0.cell? ⟨U.heap.size + 1 + 1, 0, none⟩ = some (fl p)) (g s : Nat) (hs : Is s (fop .sub 1065353216 P)) (hg0 : w0.cell? ⟨g, 0, none⟩ = some (fl s)) => revolume_yes wn hn dn (some ⟨gb, off, none⟩) n c hcn hv 73 #[.pointer (some ⟨U.heap.size, 0, none⟩), .pointer (some ⟨U.heap.size + 1 + 1, 0, none⟩), .pointer (some ⟨U.heap.size + 1, 0, none⟩), .pointer (some ⟨g, 0, none⟩)] (fun x y e => fop .add (fop .mul (bs.getD (cellN wn (x : Int) (y : Int) * dn + e) 0) P) (fop .mul (bs2.getD (cellN wn (x : Int) (y : Int) * dn + e) 0) (fop .sub 1065353216 P))) w0 (by kernel_rfl)
    (fun x y e U' h1 h2 h3 h4 => mix1 wn hn dn gb off n c bs gb2 off2 n c2 bs2 _ _ _ _ p P hp s _ hs x y e U' (hb0.ext h1) ((hl.ext hx0).ext h1) hlen hwd hnc hcm hv (hd0.ext h1) ((hl2.ext hx0).ext h1) hlen2 hwd2 hnc2 hcm2 hv2 (cell_ext hp0 h1) (cell_ext hg0 h1) h2 h3 h4))
  clear hl hlen hwd hnc hcm hl2 hlen2 hwd2 hnc2 hcm2 hv hv2
  go_enter Try.func32, Try.ntmps32
  go_wp2_with fail
  refine calls_at (X := fun w' => Ext U w' ∧ Box4 w' U.heap.size (.int .i64 wn) (.int .i64 hn) (.int .i64 dn) (.slice (some ⟨gb, off, none⟩) n c) ∧ Box4 w' (U.heap.size + 1) (.int .i64 wn) (.int .i64 hn) (.int .i64 dn) (.slice (some ⟨gb2, off2, none⟩) n c2) ∧ w'.cell? ⟨U.heap.size + 1 + 1, 0, none⟩ = some (.float .f32 p) ∧ Res4 w' (U.heap.size + 1 + 1 + 1) ∧ U.heap.size + 1 + 1 + 1 + 1 ≤ w'.heap.size) ⟨((((Ext.refl _).alloc _).alloc _).alloc _).alloc _, ⟨by simp [go_sem], by simp [go_sem], by simp [go_sem], by simp [go_sem]⟩, ⟨by simp [go_sem], by simp [go_sem], by simp [go_sem], by simp [go_sem]⟩, by simp [go_sem], ⟨by simp [go_sem], by simp [go_sem], by simp [go_sem], by simp [go_sem], by simp [go_sem], by simp [go_sem], by simp [go_sem], by simp [go_sem]⟩, by simp⟩ ?_
  rintro w0 ⟨hx0, hb0, hd0, hp0, hr0, hs0⟩
  refine (alike_yes _ _ _ _ _ n n c c2 _ hcn hcn2 HV.out HV.out).mono ?_
  rintro e w1 ⟨rfl, hx⟩
  have hb1 := hb0.ext hx
  have hd1 := hd0.ext hx
  have hp1 := cell_ext hp0 hx
  have hr1 := hr0.ext hx
  have hE := hx0.trans hx
  have hs1 := Nat.le_trans hs0 hx.size
  clear hx hx0 hb0 hd0 hr0 hs0 hp0
  have ⟨p0, p1, p2, p3⟩ := hb1
  have hul := hb1.lt
  have hds : ∀ k, (w1.drewN k).heap.size = w1.heap.size := fun _ => rfl
  have hz : ∀ Z : World, (Z.alloc (.cells #[.float .f32 0] 25)).cell? ⟨Z.heap.size, 0, none⟩ = some (.float .f32 0) := fun Z => by simp [go_sem]
  have hz2 : ∀ Z : World, (Z.alloc (.cells #[.float .f32 0] 25)).frozen? ⟨Z.heap.size, 0, none⟩ = false := fun Z => by simp [go_sem]
  have hst : ∀ k, ((w1.drewN k).alloc (.cells #[.float .f32 0] 25)).cell? ⟨w1.heap.size, 0, none⟩ = some (.float .f32 0) := fun k => hz (w1.drewN k)
  have hsf : ∀ k, ((w1.drewN k).alloc (.cells #[.float .f32 0] 25)).frozen? ⟨w1.heap.size, 0, none⟩ = false := fun k => hz2 (w1.drewN k)
  clear hz hz2
  have hne : ¬ (U.heap.size = w1.heap.size) := by omega
  have hne' : ¬ (w1.heap.size = U.heap.size) := by omega
  have pk0 := fun k => cell_ext p0 (((Ext.refl w1).drewN k).alloc (.cells #[.float .f32 0] 25))
  have pk1 := fun k => cell_ext p1 (((Ext.refl w1).drewN k).alloc (.cells #[.float .f32 0] 25))
  have pk2 := fun k => cell_ext p2 (((Ext.refl w1).drewN k).alloc (.cells #[.float .f32 0] 25))
  have pk3 := fun k => cell_ext p3 (((Ext.refl w1).drewN k).alloc (.cells #[.float .f32 0] 25))
  go_wp2_with fail
  clear p0 p1 p2 p3
  refine calls_at (X := fun w' => Ext w1 w' ∧ ∃ s, Is s (fop .sub 1065353216 P) ∧ w'.cell? ⟨w1.heap.size, 0, none⟩ = some (fl s)) ?_ ?_
  · refine ⟨?_, flR .sub w1 1065353216 p, is_l (by omega) hp (flR_is _ _ _ _), ?_⟩
    · repeat (first | with_reducible exact Ext.refl _ | (with_reducible refine Ext.setCell ?_ (by first | (dsimp only; omega) | (simp; try omega)) _) | (with_reducible refine Ext.alloc ?_ _) | (with_reducible refine Ext.drewN ?_ _))
    · simp [go_sem, hst]
  rintro w2 ⟨hx, s, hsI, hg2⟩
  refine (HK.out w2 (hE.trans hx) (hb1.ext hx) (hd1.ext hx) (cell_ext hp1 hx) _ s hsI hg2).mono ?_
  rintro e w3 ⟨A, c', b, rfl, ho, hm, hx3⟩
  have ⟨c0, c1, c2, c3, f0, f1, f2, f3⟩ := (hr1.ext hx).ext hx3
  have hE2 := (hE.trans hx).trans hx3
  have hs2 := hx.size
  clear hx hE hb1 hd1 hr1 hp1 hg2 hx3
  go_wp2
  refine bodyPost_ret (v := .tuple #[.agg #[.int .i64 wn, .int .i64 hn, .int .i64 dn, .slice A b.length c'], .bool true]) (by simp [results, Try.results32, go_sem, *]) rfl ⟨A, c', b, rfl, ?_, hm, ?_⟩
  · refine OwnF.weaken (base := w2.heap.size) ?_ (by omega)
    repeat (first | (with_reducible exact ho) | (with_reducible refine OwnF.set_below ?_ (by dsimp only; omega) _))
  · repeat (first | (with_reducible exact hE2) | (with_reducible refine Ext.setCell ?_ (by dsimp only; omega) _))
theorem implMixVolumes_no (z0 z1 z2 : Int) (A0 : Option Addr) (n0 m0 : Nat) (y0 y1 y2 : Int) (A1 : Option Addr) (n1 m1 : Nat) (p : Nat) (hn0 : n0 ≤ maxLen) (hn1 : n1 ≤ maxLen) (hno : ¬ (VVol z0 z1 z2 n0 ∧ VVol y0 y1 y2 n1 ∧ z0 = y0 ∧ z1 = y1 ∧ z2 = y2)) (U : World) :
    Calls Try.prog 32 #[.agg #[.int .i64 z0, .int .i64 z1, .int .i64 z2, .slice A0 n0 m0], .agg #[.int .i64 y0, .int .i64 y1, .int .i64 y2, .slice A1 n1 m1], .float .f32 p] U fun e U' => ∃ A c' b, e = .returned (.tuple #[.agg #[.int .i64 0, .int .i64 0, .int .i64 0, .slice A b.length c'], .bool false]) ∧ OwnF U' U.heap.size 25 (.slice A b.length c') b ∧ b.map nrm = [] ∧ Ext U U' := by
  have HV := Lib.hid hno
  clear hno
  go_enter Try.func32, Try.ntmps32
  go_wp2_with fail
  refine calls_at (X := fun w' => Ext U w' ∧ Res4 w' (U.heap.size + 1 + 1 + 1) ∧ U.heap.size + 1 + 1 + 1 + 1 ≤ w'.heap.size) ⟨((((Ext.refl _).alloc _).alloc _).alloc _).alloc _, ⟨by simp [go_sem], by simp [go_sem], by simp [go_sem], by simp [go_sem], by simp [go_sem], by simp [go_sem], by simp [go_sem], by simp [go_sem]⟩, by simp⟩ ?_
  rintro w0 ⟨hx0, hr0, hs0⟩
  refine (alike_no _ _ _ _ _ _ A0 A1 n0 n1 m0 m1 _ hn0 hn1 HV.out).mono ?_
  rintro e w1 ⟨rfl, hx⟩
  have ⟨c0, c1, c2, c3, f0, f1, f2, f3⟩ := hr0.ext hx
  have hE := hx0.trans hx
  clear hx hx0 hr0
  go_wp2
  refine bodyPost_ret (v := .tuple #[.agg #[.int .i64 0, .int .i64 0, .int .i64 0, .slice none 0 0], .bool false]) (by simp [results, Try.results32, go_sem, *]) rfl ⟨none, 0, [], rfl, OwnF.nil _ _ _, rfl, ?_⟩
  repeat (first | (with_reducible exact hE) | (with_reducible refine Ext.setCell ?_ (by dsimp only; omega) _))
theorem specMixVolumes_no (z0 z1 z2 : Int) (A0 : Option Addr) (n0 m0 : Nat) (y0 y1 y2 : Int) (A1 : Option Addr) (n1 m1 : Nat) (p : Nat) (hn0 : n0 ≤ maxLen) (hn1 : n1 ≤ maxLen) (hno : ¬ (VVol z0 z1 z2 n0 ∧ VVol y0 y1 y2 n1 ∧ z0 = y0 ∧ z1 = y1 ∧ z2 = y2)) (U : World) :
    Calls Try.prog 31 #[.agg #[.int .i64 z0, .int .i64 z1, .int .i64 z2, .slice A0 n0 m0], .agg #[.int .i64 y0, .int .i64 y1, .int .i64 y2, .slice A1 n1 m1], .float .f32 p] U fun e U' => ∃ A c' b, e = .returned (.tuple #[.agg #[.int .i64 0, .int .i64 0, .int .i64 0, .slice A b.length c'], .bool false]) ∧ OwnF U' U.heap.size 25 (.slice A b.length c') b ∧ b.map nrm = [] ∧ Ext U U' := by
  have HV := Lib.hid hno
  clear hno
  go_enter Try.func31, Try.ntmps31
  go_wp2_with fail
  refine calls_at (X := fun w' => Ext U w' ∧ Box4 w' U.heap.size (.int .i64 z0) (.int .i64 z1) (.int .i64 z2) (.slice A0 n0 m0) ∧ Box4 w' (U.heap.size + 1) (.int .i64 y0) (.int .i64 y1) (.int .i64 y2) (.slice A1 n1 m1) ∧ Res4 w' (U.heap.size + 1 + 1) ∧ U.heap.size + 1 + 1 + 1 ≤ w'.heap.size) ⟨(((Ext.refl _).alloc _).alloc _).alloc _, ⟨by simp [go_sem], by simp [go_sem], by simp [go_sem], by simp [go_sem]⟩, ⟨by simp [go_sem], by simp [go_sem], by simp [go_sem], by simp [go_sem]⟩, ⟨by simp [go_sem], by simp [go_sem], by simp [go_sem], by simp [go_sem], by simp [go_sem], by simp [go_sem], by simp [go_sem], by simp [go_sem]⟩, by simp⟩ ?_
  rintro w0 ⟨hx0, hb0, hd0, hr0, hs0⟩
  refine (l03Alike_no _ _ _ _ _ _ _ _ A0 A1 n0 n1 m0 m1 _ hn0 hn1 hb0 hd0 (by omega) HV.out).mono ?_
  rintro e w1 ⟨rfl, hx⟩
  have ⟨c0, c1, c2, c3, f0, f1, f2, f3⟩ := hr0.ext hx
  have hE := hx0.trans hx
  clear hx hx0 hb0 hd0 hr0
  go_wp2
  refine bodyPost_ret (v := .tuple #[.agg #[.int .i64 0, .int .i64 0, .int .i64 0, .slice none 0 0], .bool false]) (by simp [results, Try.results31, go_sem, *]) rfl ⟨none, 0, [], rfl, OwnF.nil _ _ _, rfl, ?_⟩
  repeat (first | (with_reducible exact hE) | (with_reducible refine Ext.setCell ?_ (by dsimp only; omega) _))
set_option maxRecDepth 8000 in
theorem lawMixVolumes_any (W : World) (z0 z1 z2 : Int) (_ : -9223372036854775808 ≤ z0 ∧ z0 ≤ 9223372036854775807) (_ : -9223372036854775808 ≤ z1 ∧ z1 ≤ 9223372036854775807) (_ : -9223372036854775808 ≤ z2 ∧ z2 ≤ 9223372036854775807) (A : Option Addr) (n m : Nat) (bs : List Nat) (hc : n ≤ m) (hm : m ≤ maxLen) (hr : Reads W A n bs) (hw : Words bs) (y0 y1 y2 : Int) (_ : -9223372036854775808 ≤ y0 ∧ y0 ≤ 9223372036854775807) (_ : -9223372036854775808 ≤ y1 ∧ y1 ≤ 9223372036854775807) (_ : -9223372036854775808 ≤ y2 ∧ y2 ≤ 9223372036854775807) (A' : Option Addr) (n' m' : Nat) (bs' : List Nat) (hc' : n' ≤ m') (hm' : m' ≤ maxLen) (hr' : Reads W A' n' bs') (hw' : Words bs') (p : Nat) (hpw : p < 4294967296) :
    Calls Try.prog 7 #[.agg #[.int .i64 z0, .int .i64 z1, .int .i64 z2, .slice A n m], .agg #[.int .i64 y0, .int .i64 y1, .int .i64 y2, .slice A' n' m'], .float .f32 p] W fun e W' => e = .returned (.bool true) ∧ Ext W W' := by
  have hn : n ≤ maxLen := Nat.le_trans hc hm
  have hn' : n' ≤ maxLen := Nat.le_trans hc' hm'
  by_cases hv : VVol z0 z1 z2 n ∧ VVol y0 y1 y2 n' ∧ z0 = y0 ∧ z1 = y1 ∧ z2 = y2
  · obtain ⟨hv, hv', rfl, rfl, rfl⟩ := hv
    obtain ⟨wn, rfl⟩ := Int.eq_ofNat_of_zero_le (show 0 ≤ z0 by have := hv.1.1; omega)
    obtain ⟨hh, rfl⟩ := Int.eq_ofNat_of_zero_le (show 0 ≤ z1 by have := hv.1.2.2.1; omega)
    obtain ⟨dn, rfl⟩ := Int.eq_ofNat_of_zero_le (show 0 ≤ z2 by have := hv.2.1; omega)
    obtain ⟨hnn, h0, hn2⟩ := vol_n hv
    have en : n' = n := by have h1 := hv.2.2.2; have h2 := hv'.2.2.2; rw [← h1] at h2; omega
    subst en
    refine lawMixVolumes_core W wn hh dn A n' m bs hn hr wn hh dn A' n' m' bs' hn' hr' p wn hh dn ((List.range n').map (fun i => fop .add (fop .mul (bs.getD i 0) (nrm p)) (fop .mul (bs'.getD i 0) (fop .sub 1065353216 (nrm p))))) (by simp; omega) true ?_ ?_
    · intro w D D' hd hd'
      obtain ⟨gb, off, rfl, hl⟩ := hd.2 (by omega)
      obtain ⟨gb', off', rfl, hl'⟩ := hd'.2 (by omega)
      exact specMixVolumes_yes wn hh dn gb off n' n' bs gb' off' n' bs' p (nrm p) ⟨hpw, rfl⟩ w hl hd.1 hw (Nat.le_refl _) hn hl' hd'.1 hw' (Nat.le_refl _) hn' hv hv'
    · intro w D D' hd hd'
      obtain ⟨gb, off, rfl, hl⟩ := hd.2 (by omega)
      obtain ⟨gb', off', rfl, hl'⟩ := hd'.2 (by omega)
      refine (implMixVolumes_yes wn hh dn gb off n' n' bs gb' off' n' bs' p (nrm p) ⟨hpw, rfl⟩ w hl hd.1 hw (Nat.le_refl _) hn hl' hd'.1 hw' (Nat.le_refl _) hn' hv hv').mono ?_
      rintro e w1 ⟨A1, c1, b1, rfl, ho, hm1, hx1⟩
      refine ⟨A1, c1, b1, rfl, ho, hm1.trans ?_, hx1⟩
      rw [hnn]
      exact cells3_flat (fun x y e h1 h2 h3 => by simp only [cellN_nat])

  · exact lawMixVolumes_core W z0 z1 z2 A n m bs hn hr y0 y1 y2 A' n' m' bs' hn' hr' p 0 0 0 [] (by simp) false (fun w D D' hd hd' => specMixVolumes_no z0 z1 z2 D n n y0 y1 y2 D' n' n' p hn hn' hv w) (fun w D D' hd hd' => implMixVolumes_no z0 z1 z2 D n n y0 y1 y2 D' n' n' p hn hn' hv w)
end Go.Proofs.Ytppahlkmemngeaa
