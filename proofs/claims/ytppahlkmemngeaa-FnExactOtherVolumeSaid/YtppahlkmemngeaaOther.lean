/- Contract of the reference's function that sees a volume from the right. -/
import Derived.Test.YtppahlkmemngeaaSpecV
import Derived.Test.YtppahlkmemngeaaMaps
namespace Go.Proofs.Ytppahlkmemngeaa
open Go.RowKit
set_option linter.unusedVariables false

theorem other_src (bs : List Nat) (wn q l dn : Nat) (hw : 0 < wn) (hl : l < dn) :
    cellN wn (min (((q % wn : Nat) : Int) + (l : Int)) ((wn : Int) - 1)) ((q / wn : Nat) : Int) = q - q % wn + min (wn - 1) (q % wn + l) := by
  have h1 := Nat.mod_add_div q wn
  have h2 : min (((q % wn : Nat) : Int) + (l : Int)) ((wn : Int) - 1) = ((min (wn - 1) (q % wn + l) : Nat) : Int) := by omega
  rw [h2, cellN_nat]
  omega
theorem other_lt {wn N q l : Nat} (hw : 0 < wn) (hN : ∃ h, wn * h = N) (hq : q < N) : q - q % wn + min (wn - 1) (q % wn + l) < N := by
  obtain ⟨h, rfl⟩ := hN
  have h1 := Nat.mod_add_div q wn
  have h2 : q / wn < h := Nat.div_lt_of_lt_mul hq
  have h3 : wn * (q / wn + 1) ≤ wn * h := Nat.mul_le_mul_left _ h2
  rw [Nat.mul_add, Nat.mul_one] at h3
  omega
set_option maxHeartbeats 8000000 in
set_option maxRecDepth 8000 in
theorem l03Other_any (g wn hn dn gb off n c : Nat) (bs : List Nat) (U : World) (hB : Box4 U g (.int .i64 wn) (.int .i64 hn) (.int .i64 dn) (.slice (some ⟨gb, off, none⟩) n c)) (hl : Lies U gb off bs) (hlen : bs.length = n) (hwd : Words bs) (hnc : n ≤ c) (hcm : c ≤ maxLen) (hv : VVol wn hn dn n) :
    Calls Try.prog 77 #[.pointer (some ⟨g, 0, none⟩)] U fun e U' => ∃ A c' b, e = .returned (.agg #[.int .i64 wn, .int .i64 hn, .int .i64 dn, .slice A b.length c']) ∧ OwnF U' U.heap.size 25 (.slice A b.length c') b ∧ b.map nrm = cells3 (fun (x y e : Nat) => nrm (bs.getD (cellN wn (min ((x : Int) + (e : Int)) ((wn : Int) - 1)) (y : Int) * dn + e) 0)) wn dn (wn * hn * dn) ∧ Ext U U' := by
  obtain ⟨hnn, h0, hn2⟩ := vol_n hv
  have hgl : g < U.heap.size := hB.lt
  have hbl : gb < U.heap.size := hl.lt (by omega)
  have hwh0 := vol_wh hv
  have hs := hv.1
  have h1 : wn ≤ 24 := by have := hs.2.1; omega
  have h1' : 0 < wn := by have := hs.1; omega
  have hd8 : dn ≤ 8 := by have := hv.2.2.1; omega
  have hd0 : 0 < dn := by have := hv.2.1; omega
  obtain ⟨F, hFd⟩ : ∃ F : Nat → Nat → Nat → Nat, F = fun (x y e : Nat) => nrm (bs.getD (cellN wn (min ((x : Int) + (e : Int)) ((wn : Int) - 1)) (y : Int) * dn + e) 0) := ⟨_, rfl⟩
  rw [← hFd]
  obtain ⟨N, hN⟩ : ∃ N, wn * hn = N := ⟨_, rfl⟩
  rw [hN] at hnn hwh0 ⊢
  have hmul : IntKind.i64.wrap ((wn : Int) * (hn : Int)) = (N : Int) := by
    rw [← hN]; have : ((wn : Int) * (hn : Int)) = ((wn * hn : Nat) : Int) := by simp
    rw [this]; exact IntWalk.i64_in _ (by omega)
  have hwm : IntKind.i64.wrap ((wn : Int) - 1) = (wn : Int) - 1 := wrap_small _ (by omega) (by omega)
  -- what a step reads and writes
  have hst : ∀ (q l : Nat), q < N → l < dn → q % wn ≤ q ∧ q - q % wn + min (wn - 1) (q % wn + l) < N ∧ (q - q % wn + min (wn - 1) (q % wn + l)) * dn + l < n ∧ q * dn + l < n ∧
      F ((q * dn + l) / dn % wn) ((q * dn + l) / dn / wn) ((q * dn + l) % dn) = nrm (bs.getD ((q - q % wn + min (wn - 1) (q % wn + l)) * dn + l) 0) := by
    intro q l hq hl'
    have e1 : q % wn ≤ q := Nat.mod_le _ _
    have e2 := other_lt (l := l) h1' ⟨hn, hN⟩ hq
    have e3 : (q - q % wn + min (wn - 1) (q % wn + l) + 1) * dn ≤ N * dn := Nat.mul_le_mul_right _ e2
    have e4 : (q + 1) * dn ≤ N * dn := Nat.mul_le_mul_right _ hq
    rw [Nat.succ_mul, ← hnn] at e3 e4
    have e5 : (q * dn + l) / dn = q := by rw [Nat.mul_comm, Nat.mul_add_div (by omega), Nat.div_eq_of_lt hl']; rfl
    have e6 : (q * dn + l) % dn = l := by rw [Nat.mul_comm, Nat.mul_add_mod]; exact Nat.mod_eq_of_lt hl'
    have e7 := other_src bs wn q l dn h1' hl'
    refine ⟨e1, e2, by omega, by omega, ?_⟩
    rw [e5, e6, hFd]
    show nrm (bs.getD (cellN (wn : Int) (min (((q % wn : Nat) : Int) + (l : Int)) ((wn : Int) - 1)) ((q / wn : Nat) : Int) * dn + l) 0) = _
    rw [e7]
  have HST := Lib.hid hst
  clear hst
  have HNN := Lib.hid hnn
  have HLEN := Lib.hid hlen
  have HWD := Lib.hid hwd
  unfold maxLen at hcm
  clear hv hs hwd hlen hN hFd hnn
  go_enter Try.func77, Try.ntmps77
  go_wp2_with fail
  refine calls_at (X := fun w' => Ext U w' ∧ U.heap.size + 1 ≤ w'.heap.size ∧ Res4 w' U.heap.size) ⟨(Ext.refl _).alloc _, by simp, ⟨by simp [go_sem], by simp [go_sem], by simp [go_sem], by simp [go_sem], by simp [go_sem], by simp [go_sem], by simp [go_sem], by simp [go_sem]⟩⟩ ?_
  rintro w0 ⟨hx0, hs0, hres⟩
  refine (l03Own_any g wn hn dn gb off n c bs w0 (hl.ext hx0) HLEN.out (hB.ext hx0) h0 hn2).mono ?_
  rintro e w1 ⟨H, cH, rfl, hO, hx⟩
  have hH := hO.ge
  have hE := hx0.trans hx
  have hs1 := hx.size
  replace hB := hB.ext hE
  replace hl := hl.ext hE
  replace hres := hres.ext hx
  clear hx hx0
  go_wp2_with fail
  go_loopw [4] (fun i wr => ∃ q : Nat, q ≤ N ∧ i = .int .i64 q ∧ Fil U wr w0.heap.size 25 H n cH bs (q * dn) (fun i => F (i / dn % wn) (i / dn / wn) (i % dn)) ∧ Box4 wr g (.int .i64 wn) (.int .i64 hn) (.int .i64 dn) (.slice (some ⟨gb, off, none⟩) n c) ∧ Lies wr gb off bs ∧ Res4 wr U.heap.size ∧ Box4 wr w1.heap.size (.int .i64 wn) (.int .i64 hn) (.int .i64 dn) (.slice (some ⟨H, 0, none⟩) n cH)) (fun i _ => N - (intOf i).toNat)
  case atStart =>
    refine ⟨0, Nat.zero_le _, rfl, ?_, hB.ext ?e, hl.ext ?e, hres.ext ?e, ⟨by simp [go_sem], by simp [go_sem], by simp [go_sem], by simp [go_sem]⟩⟩
    · rw [Nat.zero_mul]; exact Fil.start (hO.ext ?e) (hE.trans ?e)
    case e => repeat (first | with_reducible exact Ext.refl _ | (with_reducible refine Ext.setCell ?_ (by simp; try omega) _) | (with_reducible refine Ext.alloc ?_ _))
  case round =>
    clear hO hB hl hres hE
    obtain ⟨q, hq, rfl, hfil, hB, hl, hres, ho⟩ := hrel
    have ⟨p0, p1, p2, p3⟩ := hB
    by_cases hltq : q < N
    · obtain ⟨xq, hxq⟩ : ∃ xq, q % wn = xq := ⟨_, rfl⟩
      have hwz : ((wn : Int) == 0) = false := by simp; omega
      have HXQ := Lib.hid hxq
      clear hxq
      go_wp2_with fail
      refine region_wx0 [] (by kernel_rfl) (by kernel_rfl) ?_
      repeat ((first | refine wx_skip rfl ?_ | refine wx_nilCheck rfl rfl _ rfl _ rfl ?_ | (refine wx_float rfl rfl _ _ _ _ _ _ _ rfl rfl rfl rfl ?_; intro r hr) | (refine wx_k rfl rfl rfl (fun K hK => ?_); go_big_quiet_op; refine hK _ ?_; clear hK K) ); (try simp only [Act.put, List.setIfInBounds_toArray, List.set_cons_zero, List.set_cons_succ]); (try simp only [List.tail_nil]))
      refine wx_nil (fun W hW hF => ?_)
      replace p0 := cell_ext p0 hW
      replace p1 := cell_ext p1 hW
      replace p2 := cell_ext p2 hW
      replace p3 := cell_ext p3 hW
      replace hfil := hfil.later hW
      replace hB := hB.ext hW
      replace hl := hl.ext hW
      replace hres := hres.ext hW
      replace ho := ho.ext hW
      clear hW hF
      rename_i W1
      go_wp2_with fail
      clear p0 p1 p2 p3
      have hqm : (q : Int) % (wn : Int) = (xq : Int) := by rw [← HXQ.out]; simp
      rw [hqm]
      clear hqm
      go_loopw [6] (fun x wq => ∃ l : Nat, l ≤ dn ∧ x = .int .i64 l ∧ Fil U wq w0.heap.size 25 H n cH bs (q * dn + l) (fun i => F (i / dn % wn) (i / dn / wn) (i % dn)) ∧ Box4 wq g (.int .i64 wn) (.int .i64 hn) (.int .i64 dn) (.slice (some ⟨gb, off, none⟩) n c) ∧ Lies wq gb off bs ∧ Res4 wq U.heap.size ∧ Box4 wq w1.heap.size (.int .i64 wn) (.int .i64 hn) (.int .i64 dn) (.slice (some ⟨H, 0, none⟩) n cH)) (fun x _ => dn - (intOf x).toNat)
      case atStart => exact ⟨0, Nat.zero_le _, rfl, hfil, hB, hl, hres, ho⟩
      case round =>
        clear hfil hB hl hres ho
        rename_i wq
        obtain ⟨l, hll, rfl, hfil, hB, hl, hres, ho⟩ := hrel
        have ⟨p0, p1, p2, p3⟩ := hB
        by_cases hltl : l < dn
        · obtain ⟨e1, e2, e3, e4, e5⟩ := HST.out q l hltq hltl
          have ⟨o0, o1, o2, o3⟩ := ho
          have hxq := HXQ.out
          have hxw : xq < wn := by rw [← hxq]; exact Nat.mod_lt _ h1'
          rw [hxq] at e1 e2 e3 e5
          obtain ⟨kk, hkk⟩ : ∃ kk, q - xq + min (wn - 1) (xq + l) = kk := ⟨_, rfl⟩
          obtain ⟨mn, hmn⟩ : ∃ mn : Int, min ((wn : Int) - 1) ((xq : Int) + (l : Int)) = mn := ⟨_, rfl⟩
          rw [hkk] at e2 e3 e5
          have hA : IntKind.i64.wrap ((q : Int) - (xq : Int)) = (q : Int) - (xq : Int) := wrap_small _ (by omega) (by omega)
          have hBq : IntKind.i64.wrap ((xq : Int) + (l : Int)) = (xq : Int) + (l : Int) := wrap_small _ (by omega) (by omega)
          have hC : IntKind.i64.wrap ((q : Int) - (xq : Int) + mn) = (kk : Int) := by
            rw [show (q : Int) - (xq : Int) + mn = (kk : Int) by omega]; exact wrap_small _ (by omega) (by omega)
          obtain ⟨m, hm⟩ : ∃ m, q * dn = m := ⟨_, rfl⟩
          obtain ⟨km, hkm⟩ : ∃ km, kk * dn = km := ⟨_, rfl⟩
          rw [hm] at hfil e4 e5
          rw [hkm] at e3 e5
          have hD : IntKind.i64.wrap ((q : Int) * (dn : Int)) = (m : Int) := by
            rw [show (q : Int) * (dn : Int) = (m : Int) by rw [← hm]; simp]; exact wrap_small _ (by omega) (by omega)
          have hD2 : IntKind.i64.wrap ((m : Int) + (l : Int)) = (m : Int) + (l : Int) := wrap_small _ (by omega) (by omega)
          have hK : IntKind.i64.wrap ((kk : Int) * (dn : Int)) = (km : Int) := by
            rw [show (kk : Int) * (dn : Int) = (km : Int) by rw [← hkm]; simp]; exact wrap_small _ (by omega) (by omega)
          have hK2 : IntKind.i64.wrap ((km : Int) + (l : Int)) = (km : Int) + (l : Int) := wrap_small _ (by omega) (by omega)
          have HMN := Lib.hid (fun (Z : World) => (by rw [← hmn]; exact l00Min_any _ _ Z : Calls Try.prog 95 #[.int .i64 ((wn : Int) - 1), .int .i64 ((xq : Int) + (l : Int))] Z fun e Z' => e = .returned (.int .i64 mn) ∧ Z = Z'))
          have hck := hl (km + l) (by have := HLEN.out; omega)
          have hw1 := wd_at HWD.out (km + l)
          have HM := Lib.hid hm
          have HE5 := Lib.hid e5
          have i0 : (0 : Int) ≤ (km : Int) + (l : Int) := by omega
          have i1 : (km : Int) + (l : Int) < (n : Int) := by omega
          have j0 : (0 : Int) ≤ (m : Int) + (l : Int) := by omega
          have j1 : (m : Int) + (l : Int) < (n : Int) := by omega
          have hti : ((km : Int) + (l : Int)).toNat = km + l := by omega
          have htj : ((m : Int) + (l : Int)).toNat = m + l := by omega
          clear hm hkm hkk hmn hxq e5
          go_wp2_with (go_at_call 95; with_reducible refine (HMN.out _).mono ?_; rintro e w' ⟨rfl, rfl⟩)
          refine region_wx 25 [] (by kernel_rfl) (by kernel_rfl) ?_
          simp only [List.take_succ_cons, List.take_zero, List.drop_succ_cons, List.drop_zero]
          repeat ((first | refine wx_skip rfl ?_ | refine wx_nilCheck rfl rfl _ rfl _ rfl ?_ | (refine wx_float rfl rfl _ _ _ _ _ _ _ rfl rfl rfl rfl ?_; intro r hr) | (refine wx_k rfl rfl rfl (fun K hK => ?_); go_big_quiet_op; refine hK _ ?_; clear hK K) ); (try simp only [Act.put, List.setIfInBounds_toArray, List.set_cons_zero, List.set_cons_succ]); (try simp only [List.tail_nil]))
          refine wx_nil (fun W hW hF => ?_)
          have hct := (hfil.later hW).cell e4 (Nat.le_refl _)
          have hcf := (hfil.later hW).cool (m + l)
          have hfil' := (hfil.later hW).put e4 (by omega) (r := bs.getD (km + l) 0) ⟨hw1, HE5.out.symm⟩
          have hB' := (hB.ext hW).set_ne (g := H) (i := m + l) (u := fl (bs.getD (km + l) 0)) (by omega)
          have hl' := (hl.ext hW).set_ne (g := H) (i := m + l) (u := fl (bs.getD (km + l) 0)) (by omega)
          have hres' := (hres.ext hW).set_ne (g := H) (i := m + l) (u := fl (bs.getD (km + l) 0)) (by omega)
          have ho' := (ho.ext hW).set_ne (g := H) (i := m + l) (u := fl (bs.getD (km + l) 0)) (by omega)
          clear p0 p1 p2 p3 o0 o1 o2 o3 hF hB hl hres ho hfil hck
          go_wp2
          go_roundw
          case rel => exact ⟨l + 1, by omega, by go_num, by rw [HM.out]; exact hfil', hB', hl', hres', ho'⟩
          case measure => simp [intOf]; omega
        · have e1 : l = dn := by omega
          rw [e1, ← Nat.succ_mul] at hfil
          go_wp2
          go_roundw
          case rel => exact ⟨q + 1, by omega, by go_num, hfil, hB, hl, hres, ho⟩
          case measure => simp [intOf]; omega
    · have e1 : q = N := by omega
      have hfil2 : Fil U wr w0.heap.size 25 H n cH bs n (fun i => F (i / dn % wn) (i / dn / wn) (i % dn)) := by
        have := hfil
        rw [e1, ← HNN.out] at this
        exact this
      obtain ⟨b, hbl3, hb1, hb2⟩ := hfil2.done
      rw [HNN.out] at hb2
      have hE := hfil2.ext
      have ⟨o0, o1, o2, o3⟩ := ho
      subst hbl3
      go_wp2_with fail
      refine region_wx0 [] (by kernel_rfl) (by kernel_rfl) ?_
      repeat ((first | refine wx_skip rfl ?_ | refine wx_nilCheck rfl rfl _ rfl _ rfl ?_ | (refine wx_float rfl rfl _ _ _ _ _ _ _ rfl rfl rfl rfl ?_; intro r hr) | (refine wx_k rfl rfl rfl (fun K hK => ?_); go_big_quiet_op; refine hK _ ?_; clear hK K) ); (try simp only [Act.put, List.setIfInBounds_toArray, List.set_cons_zero, List.set_cons_succ]); (try simp only [List.tail_nil]))
      refine wx_nil (fun W hW hF => ?_)
      have ⟨c0, c1, c2, c3, f0, f1, f2, f3⟩ := hres.ext hW
      replace o0 := cell_ext o0 hW
      replace o1 := cell_ext o1 hW
      replace o2 := cell_ext o2 hW
      replace o3 := cell_ext o3 hW
      replace hb1 := hb1.ext hW
      replace hE := hE.trans hW
      clear hB hl hres ho hfil hfil2 p0 p1 p2 p3 hW hF
      go_wp2
      refine bodyPost_ret (v := .agg #[.int .i64 wn, .int .i64 hn, .int .i64 dn, .slice (some ⟨H, 0, none⟩) b.length cH]) (by simp [results, Try.results77, go_sem, *]) rfl ⟨_, cH, b, rfl, ?_, hb2, ?_⟩
      · refine OwnF.weaken (base := w0.heap.size) ?_ (by omega)
        repeat (first | (with_reducible exact hb1) | (with_reducible refine OwnF.set_below ?_ (by dsimp only; omega) _))
      · repeat (first | (with_reducible exact hE) | (with_reducible refine Ext.setCell ?_ (by dsimp only; omega) _))
end Go.Proofs.Ytppahlkmemngeaa
