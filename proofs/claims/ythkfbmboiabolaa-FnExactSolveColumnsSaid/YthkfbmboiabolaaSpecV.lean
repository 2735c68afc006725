/- Contracts of the reference's functions that copy a volume, or make one of zeros. -/
import Derived.Test.YthkfbmboiabolaaClos
namespace Go.Proofs.Ythkfbmboiabolaa
open Go.RowKit
set_option linter.unusedVariables false

set_option maxHeartbeats 1000000 in
theorem l04New_any (g wn hn dn gb off n c : Nat) (U : World) (hB : Box4 U g (.int .i64 wn) (.int .i64 hn) (.int .i64 dn) (.slice (some ⟨gb, off, none⟩) n c)) (h0 : 0 < n) (hn2 : n ≤ 2048) :
    Calls Try.prog 87 #[.pointer (some ⟨g, 0, none⟩)] U fun e U' => ∃ H c', e = .returned (.agg #[.int .i64 wn, .int .i64 hn, .int .i64 dn, .slice (some ⟨H, 0, none⟩) n c']) ∧ OwnF U' U.heap.size 23 (.slice (some ⟨H, 0, none⟩) n c') (List.replicate n 0) ∧ Ext U U' := by
  obtain ⟨i0, hi, hz0, hz1, hz2⟩ := info_parts infoF
  go_enter Try.func87, Try.ntmps87
  go_wp2_with fail
  refine wp_at (X := fun w' => Ext U w' ∧ U.heap.size + 1 ≤ w'.heap.size ∧ Box4 w' g (.int .i64 wn) (.int .i64 hn) (.int .i64 dn) (.slice (some ⟨gb, off, none⟩) n c) ∧ Res4 w' U.heap.size) ⟨(Ext.refl _).alloc _, by simp, hB.ext ((Ext.refl _).alloc _), ⟨by simp [go_sem], by simp [go_sem], by simp [go_sem], by simp [go_sem], by simp [go_sem], by simp [go_sem], by simp [go_sem], by simp [go_sem]⟩⟩ ?_
  rintro w0 ⟨hx0, hs0, ⟨p0, p1, p2, p3⟩, hr⟩
  skip
  clear hB
  refine region_wx 18 [] (by kernel_rfl) (by kernel_rfl) ?_
  simp only [List.take_succ_cons, List.take_zero, List.drop_succ_cons, List.drop_zero]
  repeat ((first | refine wx_skip rfl ?_ | refine wx_nilCheck rfl rfl _ rfl _ rfl ?_ | (refine wx_float rfl rfl _ _ _ _ _ _ _ rfl rfl rfl rfl ?_; intro r hr) | (refine wx_k rfl rfl rfl (fun K hK => ?_); go_big_quiet_op; refine hK _ ?_; clear hK K) | (refine wx_make rfl rfl _ 23 i0 _ _ rfl n Try.underlying22 hi hz0 hz1 hz2 _ _ rfl rfl (by omega) ?_; intro H VO hVO hO)); (try simp only [Act.put, List.setIfInBounds_toArray, List.set_cons_zero, List.set_cons_succ]); (try simp only [List.tail_nil]))
  refine wx_nil (fun W hW hF => ?_)
  have hVW : Ext VO W := hF 17
  have hO2 := hO.ext hVW
  have ⟨c0, c1, c2, c3, f0, f1, f2, f3⟩ := hr.ext hW
  have hE := hx0.trans hW
  clear hF hO hVW hr hx0 hW
  go_wp2
  refine bodyPost_ret (v := .agg #[.int .i64 wn, .int .i64 hn, .int .i64 dn, .slice (some ⟨H, 0, none⟩) n _]) (by simp [results, Try.results87, go_sem, *]; rfl) rfl ⟨H, _, rfl, ?_, ?_⟩
  · refine OwnF.weaken (base := w0.heap.size) ?_ (by omega)
    repeat (first | (with_reducible exact hO2) | (with_reducible refine OwnF.set_below ?_ (by dsimp only; omega) _))
  · repeat (first | (with_reducible exact hE) | (with_reducible refine Ext.setCell ?_ (by dsimp only; omega) _))
set_option maxHeartbeats 2000000 in
set_option maxRecDepth 8000 in
theorem l04Sum_any (g g2 wn hn dn gb off n c gb2 off2 c2 : Nat) (bs bs2 : List Nat) (U : World) (hB : Box4 U g (.int .i64 wn) (.int .i64 hn) (.int .i64 dn) (.slice (some ⟨gb, off, none⟩) n c)) (hB2 : Box4 U g2 (.int .i64 wn) (.int .i64 hn) (.int .i64 dn) (.slice (some ⟨gb2, off2, none⟩) n c2)) (hl : Lies U gb off bs) (hl2 : Lies U gb2 off2 bs2) (hlen : bs.length = n) (hlen2 : bs2.length = n) (h0 : 0 < n) (hn2 : n ≤ 2048) (hnc : n ≤ c) (hcm : c ≤ maxLen) (hnc2 : n ≤ c2) (hcm2 : c2 ≤ maxLen) :
    Calls Try.prog 64 #[.pointer (some ⟨g, 0, none⟩), .pointer (some ⟨g2, 0, none⟩)] U fun e U' => ∃ H c' b, e = .returned (.agg #[.int .i64 wn, .int .i64 hn, .int .i64 dn, .slice (some ⟨H, 0, none⟩) n c']) ∧ b.length = n ∧ OwnF U' U.heap.size 23 (.slice (some ⟨H, 0, none⟩) n c') b ∧ b.map nrm = (List.range n).map (fun i => fop .add (bs.getD i 0) (bs2.getD i 0)) ∧ Ext U U' := by
  have hgl : g < U.heap.size := hB.lt
  have hgl2 : g2 < U.heap.size := hB2.lt
  have hbl : gb < U.heap.size := hl.lt (by omega)
  have hbl2 : gb2 < U.heap.size := hl2.lt (by omega)
  have HLEN := Lib.hid hlen
  have HLEN2 := Lib.hid hlen2
  clear hlen hlen2
  unfold maxLen at hcm hcm2
  go_enter Try.func64, Try.ntmps64
  go_wp2_with fail
  refine calls_at (X := fun w' => Ext U w' ∧ U.heap.size + 1 ≤ w'.heap.size ∧ Res4 w' U.heap.size) ⟨(Ext.refl _).alloc _, by simp, ⟨by simp [go_sem], by simp [go_sem], by simp [go_sem], by simp [go_sem], by simp [go_sem], by simp [go_sem], by simp [go_sem], by simp [go_sem]⟩⟩ ?_
  rintro w0 ⟨hx0, hs0, hres⟩
  refine (l04New_any g wn hn dn gb off n c w0 (hB.ext hx0) h0 hn2).mono ?_
  rintro e w1 ⟨H, cH, rfl, hO, hx⟩
  have hH := hO.ge
  have hE := hx0.trans hx
  have hs1 := hx.size
  replace hB := hB.ext hE
  replace hB2 := hB2.ext hE
  replace hl := hl.ext hE
  replace hl2 := hl2.ext hE
  replace hres := hres.ext hx
  clear hx hx0
  go_wp2_with fail
  go_loopw [6] (fun i wr => ∃ k : Nat, k ≤ n ∧ i = .int .i64 k ∧ Fil U wr w0.heap.size 23 H n cH (List.replicate n 0) k (fun i => fop .add (bs.getD i 0) (bs2.getD i 0)) ∧ Box4 wr g (.int .i64 wn) (.int .i64 hn) (.int .i64 dn) (.slice (some ⟨gb, off, none⟩) n c) ∧ Box4 wr g2 (.int .i64 wn) (.int .i64 hn) (.int .i64 dn) (.slice (some ⟨gb2, off2, none⟩) n c2) ∧ Lies wr gb off bs ∧ Lies wr gb2 off2 bs2 ∧ Res4 wr U.heap.size ∧ Box4 wr w1.heap.size (.int .i64 wn) (.int .i64 hn) (.int .i64 dn) (.slice (some ⟨H, 0, none⟩) n cH)) (fun i _ => n - (intOf i).toNat)
  case atStart =>
    refine ⟨0, Nat.zero_le _, rfl, Fil.start (hO.ext ?e) (hE.trans ?e), hB.ext ?e, hB2.ext ?e, hl.ext ?e, hl2.ext ?e, hres.ext ?e, ⟨by simp [go_sem], by simp [go_sem], by simp [go_sem], by simp [go_sem]⟩⟩
    case e => repeat (first | with_reducible exact Ext.refl _ | (with_reducible refine Ext.setCell ?_ (by simp; try omega) _) | (with_reducible refine Ext.alloc ?_ _))
  case round =>
    clear hO hB hB2 hl hl2 hres hE
    obtain ⟨k, hk, rfl, hfil, hB, hB2, hl, hl2, hres, ho⟩ := hrel
    by_cases hlt : k < n
    · have hc1 := hl k (by have := HLEN.out; omega)
      have hc2 := hl2 k (by have := HLEN2.out; omega)
      have ⟨p0, p1, p2, p3⟩ := hB
      have ⟨q0, q1, q2, q3⟩ := hB2
      have ⟨o0, o1, o2, o3⟩ := ho
      have hk0 : (0 : Int) ≤ (k : Int) := by omega
      have hk1 : (k : Int) < (n : Int) := by omega
      go_wp2_with fail
      refine region_wx 19 [] (by kernel_rfl) (by kernel_rfl) ?_
      simp only [List.take_succ_cons, List.take_zero, List.drop_succ_cons, List.drop_zero]
      repeat ((first | refine wx_skip rfl ?_ | refine wx_nilCheck rfl rfl _ rfl _ rfl ?_ | (refine wx_float rfl rfl _ _ _ _ _ _ _ rfl rfl rfl rfl ?_; intro r hr) | (refine wx_k rfl rfl rfl (fun K hK => ?_); go_big_quiet_op; refine hK _ ?_; clear hK K) ); (try simp only [Act.put, List.setIfInBounds_toArray, List.set_cons_zero, List.set_cons_succ]); (try simp only [List.tail_nil]))
      refine wx_nil (fun W hW hF => ?_)
      have hct := (hfil.later hW).cell hlt (Nat.le_refl _)
      have hcf := (hfil.later hW).cool k
      have hfil' := (hfil.later hW).put hlt (by omega) (r := r) hr
      have hB' := (hB.ext hW).set_ne (g := H) (i := k) (u := fl r) (by omega)
      have hB2' := (hB2.ext hW).set_ne (g := H) (i := k) (u := fl r) (by omega)
      have hl' := (hl.ext hW).set_ne (g := H) (i := k) (u := fl r) (by omega)
      have hl2' := (hl2.ext hW).set_ne (g := H) (i := k) (u := fl r) (by omega)
      have hres' := (hres.ext hW).set_ne (g := H) (i := k) (u := fl r) (by omega)
      have ho' := (ho.ext hW).set_ne (g := H) (i := k) (u := fl r) (by omega)
      clear p0 p1 p2 p3 q0 q1 q2 q3 o0 o1 o2 o3 hF hB hB2 hl hl2 hres ho hfil hc1 hc2
      go_wp2
      go_roundw
      case rel => exact ⟨k + 1, by omega, by go_num, hfil', hB', hB2', hl', hl2', hres', ho'⟩
      case measure => simp [intOf]; omega
    · have e1 : k = n := by omega
      subst e1
      obtain ⟨b, hbl3, hb1, hb2⟩ := hfil.done
      have hE := hfil.ext
      have ⟨p0, p1, p2, p3⟩ := hB
      have ⟨o0, o1, o2, o3⟩ := ho
      have ⟨c0, c1, c2, c3, f0, f1, f2, f3⟩ := hres
      clear hB hB2 hl hl2 hres ho hfil
      go_wp2
      refine bodyPost_ret (v := .agg #[.int .i64 wn, .int .i64 hn, .int .i64 dn, .slice (some ⟨H, 0, none⟩) k cH]) (by simp [results, Try.results64, go_sem, *]) rfl ⟨H, cH, b, rfl, hbl3, ?_, hb2, ?_⟩
      · refine OwnF.weaken (base := w0.heap.size) ?_ (by omega)
        repeat (first | (with_reducible exact hb1) | (with_reducible refine OwnF.set_below ?_ (by dsimp only; omega) _))
      · repeat (first | (with_reducible exact hE) | (with_reducible refine Ext.setCell ?_ (by dsimp only; omega) _))
end Go.Proofs.Ythkfbmboiabolaa
