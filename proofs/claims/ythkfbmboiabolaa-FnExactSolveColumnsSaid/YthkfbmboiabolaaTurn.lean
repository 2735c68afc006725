/- Contracts of the reference's functions that turn a volume. -/
import Derived.Test.YthkfbmboiabolaaSpecV
import Derived.Test.YthkfbmboiabolaaAcc2
namespace Go.Proofs.Ythkfbmboiabolaa
open Go.RowKit
set_option linter.unusedVariables false

set_option maxHeartbeats 1000000 in
set_option maxRecDepth 8000 in
theorem l04Costs_any (g wn hn dn gb off n c : Nat) (bs : List Nat) (x y : Int) (U : World) (hB : Box4 U g (.int .i64 wn) (.int .i64 hn) (.int .i64 dn) (.slice (some ⟨gb, off, none⟩) n c)) (hl : Lies U gb off bs) (hlen : bs.length = n) (hnc : n ≤ c) (hcm : c ≤ maxLen) (hv : VVol wn hn dn n) (hx : 0 ≤ x ∧ x ≤ (wn : Int) - 1) (hy : 0 ≤ y ∧ y ≤ (hn : Int) - 1) :
    Calls Try.prog 76 #[.pointer (some ⟨g, 0, none⟩), .int .i64 x, .int .i64 y] U fun e U' => ∃ H c', e = .returned (.slice (some ⟨H, 0, none⟩) dn c') ∧ OwnF U' U.heap.size 23 (.slice (some ⟨H, 0, none⟩) dn c') ((bs.drop (cellN wn x y * dn)).take dn) ∧ Ext U U' := by
  unfold maxLen at hcm
  obtain ⟨i0, hi, hz0, hz1, hz2⟩ := info_parts infoF
  obtain ⟨q, h1, hkn, hw, hw1, hq1, hq2, hcn⟩ := vcell hv hx hy
  rw [hcn]
  have hd8 := hv.2.2.1
  have hd0 : 0 < dn := by have := hv.2.1; omega
  obtain ⟨k, hk⟩ : ∃ k, q * dn = k := ⟨_, rfl⟩
  rw [hk] at hkn hq2 ⊢
  have hlk : ((bs.drop k).take dn).length = dn := by simp; omega
  have hsub : Lies U gb (off + k) ((bs.drop k).take dn) := by
    have := Reads.sub hl hlen k dn hkn
    obtain ⟨g', off', he, hL⟩ := this.2 hd0
    simp only [Option.some.injEq, Addr.mk.injEq] at he
    obtain ⟨rfl, rfl, _⟩ := he
    exact hL
  have hw2 : IntKind.i64.wrap ((q : Int) * (dn : Int)) = k := by
    have : (q : Int) * (dn : Int) = (k : Int) := by rw [← hk]; simp
    rw [this]; exact IntWalk.i64_in _ (by omega)
  have hw3 : IntKind.i64.wrap ((k : Int) + (dn : Int)) = (k : Int) + (dn : Int) := IntWalk.i64_in _ (by omega)
  have b0 : (0 : Int) ≤ (k : Int) := by omega
  have b1 : (k : Int) ≤ (k : Int) + (dn : Int) := by omega
  have b2 : (k : Int) + (dn : Int) ≤ (c : Int) := by omega
  have hw1' : IntKind.i64.wrap (x + wn * y) = (q : Int) := hw1
  have HLK := Lib.hid hlk
  clear h1 hk hv hx hy hcn hw1 hlen hl hlk
  go_enter Try.func76, Try.ntmps76
  go_wp2_with fail
  obtain ⟨p0, p1, p2, p3⟩ := hB
  refine region_wx 13 [] (by kernel_rfl) (by kernel_rfl) ?_
  simp only [List.take_succ_cons, List.take_zero, List.drop_succ_cons, List.drop_zero]
  repeat ((first | refine wx_skip rfl ?_ | refine wx_nilCheck rfl rfl _ rfl _ rfl ?_ | (refine wx_float rfl rfl _ _ _ _ _ _ _ rfl rfl rfl rfl ?_; intro r hr) | (refine wx_k rfl rfl rfl (fun K hK => ?_); go_big_quiet_op; refine hK _ ?_; clear hK K) ); (try simp only [Act.put, List.setIfInBounds_toArray, List.set_cons_zero, List.set_cons_succ]); (try simp only [List.tail_nil]))
  refine wx_nil (fun W hW hF => ?_)
  replace p0 := cell_ext p0 hW
  replace p1 := cell_ext p1 hW
  replace p2 := cell_ext p2 hW
  replace p3 := cell_ext p3 hW
  replace hsub := hsub.ext hW
  have hE := hW
  have hsz := hW.size
  clear hW hF
  rename_i W1
  go_wp2_with fail
  have hlk := HLK.out
  refine region_wx 14 [] (by kernel_rfl) (by kernel_rfl) ?_
  simp only [List.take_succ_cons, List.take_zero, List.drop_succ_cons, List.drop_zero]
  repeat ((first | refine wx_skip rfl ?_ | refine wx_nilCheck rfl rfl _ rfl _ rfl ?_ | (refine wx_float rfl rfl _ _ _ _ _ _ _ rfl rfl rfl rfl ?_; intro r hr) | (refine wx_k rfl rfl rfl (fun K hK => ?_); go_big_quiet_op; refine hK _ ?_; clear hK K) | (refine wx_bs0 rfl rfl _ 23 rfl bs0 ?_; intro H0 V0 hV0 hO0) | (refine wx_app rfl rfl _ 23 i0 _ _ rfl Try.underlying22 hi hz0 hz1 hz2 _ dn _ gb (off + k) ((bs.drop k).take dn) hlk hd0 (by omega) rfl (congrArg (fun m => Value.slice (some ⟨gb, off + k, none⟩) m (c - k)) (Nat.add_sub_cancel_left (n := k) (m := dn))) hsub ?_; intro H cH VO hVO hO)); (try simp only [Act.put, List.setIfInBounds_toArray, List.set_cons_zero, List.set_cons_succ]); (try simp only [List.tail_nil]))
  refine wx_nil (fun W hW hF => ?_)
  have hVW : Ext VO W := hF 13
  have hO2 := hO.ext hVW
  clear hlk
  go_wp2
  go_ret
  exact ⟨H, _, rfl, hO2.weaken hsz, hE.trans hW⟩
set_option maxHeartbeats 8000000 in
set_option maxRecDepth 8000 in
theorem turn0_any (g wn hn dn gb off n c : Nat) (bs : List Nat) (U : World) (hB : Box4 U g (.int .i64 wn) (.int .i64 hn) (.int .i64 dn) (.slice (some ⟨gb, off, none⟩) n c)) (hl : Lies U gb off bs) (hlen : bs.length = n) (hnc : n ≤ c) (hcm : c ≤ maxLen) (hv : VVol wn hn dn n) :
    Calls Try.prog 59 #[.pointer (some ⟨g, 0, none⟩), .int .i64 0] U fun e U' => ∃ A c' b, e = .returned (.agg #[.int .i64 wn, .int .i64 hn, .int .i64 dn, .slice A b.length c']) ∧ OwnF U' U.heap.size 23 (.slice A b.length c') b ∧ b.map nrm = cells3 (fun (x y e : Nat) => nrm (bs.getD (cellN wn ((wn : Int) - 1 - (x : Int)) ((y : Int)) * dn + e) 0)) wn dn (wn * hn * dn) ∧ Ext U U' := by
  obtain ⟨i0, hi, hz0, hz1, hz2⟩ := info_parts infoF
  have hgl : g < U.heap.size := hB.lt
  have hwh0 := vol_wh hv
  have hwh : wn * hn ≤ 256 := by exact hwh0
  have hs := hv.1
  have h1 : wn ≤ 24 := by have := hs.2.1; omega
  have h2 : hn ≤ 24 := by have := hs.2.2.2.1; omega
  have hd8 : dn ≤ 8 := by have := hv.2.2.1; omega
  have hd0 : 0 < dn := by have := hv.2.1; omega
  obtain ⟨F, hFd⟩ : ∃ F : Nat → Nat → Nat → Nat, F = fun (x y e : Nat) => nrm (bs.getD (cellN wn ((wn : Int) - 1 - (x : Int)) ((y : Int)) * dn + e) 0) := ⟨_, rfl⟩
  rw [← hFd]
  have HC := Lib.hid (fun (W' : World) (hx' : Ext U W') (x y : Nat) (hx : x < wn) (hy : y < hn) => (have hbx : 0 ≤ ((wn : Int) - 1 - (x : Int)) ∧ ((wn : Int) - 1 - (x : Int)) ≤ (wn : Int) - 1 := ⟨by omega, by omega⟩; have hby : 0 ≤ ((y : Int)) ∧ ((y : Int)) ≤ (hn : Int) - 1 := ⟨by omega, by omega⟩; l04Costs_any g wn hn dn gb off n c bs ((wn : Int) - 1 - (x : Int)) ((y : Int)) W' (hB.ext hx') (hl.ext hx') hlen hnc hcm hv hbx hby))
  have HR := Lib.hid (fun (x y : Nat) (hx : x < wn) (hy : y < hn) => (have hbx : 0 ≤ ((wn : Int) - 1 - (x : Int)) ∧ ((wn : Int) - 1 - (x : Int)) ≤ (wn : Int) - 1 := ⟨by omega, by omega⟩; have hby : 0 ≤ ((y : Int)) ∧ ((y : Int)) ≤ (hn : Int) - 1 := ⟨by omega, by omega⟩; (⟨by simp; have := cell_k hv hbx hby; omega, (drop_take_nrm bs _ dn (by rw [hlen]; exact cell_k hv hbx hby)).trans (by rw [hFd])⟩ : ((bs.drop (cellN wn ((wn : Int) - 1 - (x : Int)) ((y : Int)) * dn)).take dn).length = dn ∧ ((bs.drop (cellN wn ((wn : Int) - 1 - (x : Int)) ((y : Int)) * dn)).take dn).map nrm = (List.range dn).map (fun e => F x y e))))
  have HP := Lib.hid (fun k j (hk : k < hn) (hj : j < wn) => cube_le (l := dn - 1) hwh hd8 hk hj (by omega))
  have HWR := Lib.hid (fun (x : Nat) (y : Nat) (hx : x < wn) (hy : y < hn) => (⟨wrap_small ((wn : Int) - 1) (by omega) (by omega), wrap_small ((hn : Int) - 1) (by omega) (by omega), wrap_small ((wn : Int) - 1 - x) (by omega) (by omega), wrap_small ((hn : Int) - 1 - y) (by omega) (by omega)⟩ : IntKind.i64.wrap ((wn : Int) - 1) = (wn : Int) - 1 ∧ IntKind.i64.wrap ((hn : Int) - 1) = (hn : Int) - 1 ∧ IntKind.i64.wrap ((wn : Int) - 1 - x) = (wn : Int) - 1 - x ∧ IntKind.i64.wrap ((hn : Int) - 1 - y) = (hn : Int) - 1 - y))
  clear hv hs hlen hnc hcm hwh0 hFd hl hwh
  go_enter Try.func59, Try.ntmps59
  go_wp2_with fail
  refine wp_at (X := fun w' => Ext U w' ∧ U.heap.size + 1 ≤ w'.heap.size ∧ Box4 w' g (.int .i64 wn) (.int .i64 hn) (.int .i64 dn) (.slice (some ⟨gb, off, none⟩) n c) ∧ Res4 w' U.heap.size) ⟨(Ext.refl _).alloc _, by simp, hB.ext ((Ext.refl _).alloc _), ⟨by simp [go_sem], by simp [go_sem], by simp [go_sem], by simp [go_sem], by simp [go_sem], by simp [go_sem], by simp [go_sem], by simp [go_sem]⟩⟩ ?_
  rintro w0 ⟨hx0, hs0, hB0, hres⟩
  have ⟨p0, p1, p2, p3⟩ := hB0
  clear hB
  refine region_wx 15 [] (by kernel_rfl) (by kernel_rfl) ?_
  simp only [List.take_succ_cons, List.take_zero, List.drop_succ_cons, List.drop_zero]
  repeat ((first | refine wx_skip rfl ?_ | refine wx_nilCheck rfl rfl _ rfl _ rfl ?_ | (refine wx_float rfl rfl _ _ _ _ _ _ _ rfl rfl rfl rfl ?_; intro r hr) | (refine wx_k rfl rfl rfl (fun K hK => ?_); go_big_quiet_op; refine hK _ ?_; clear hK K) | (refine wx_bs0 rfl rfl _ 23 rfl bs0 ?_; intro H0 V0 hV0 hO0) | (refine wx_alloc rfl rfl 40 rfl #[.int .i64 0, .int .i64 0, .int .i64 0, .slice none 0 0] (fun Z => by simp [Instr.alloc, go_sem]) ?_; intro Va hVa)); (try simp only [Act.put, List.setIfInBounds_toArray, List.set_cons_zero, List.set_cons_succ]); (try simp only [List.tail_nil]))
  refine wx_nil (fun W hW hF => ?_)
  have hVW : Ext V0 W := hF 12
  have hAW : Ext (Va.alloc (.cells #[.int .i64 0, .int .i64 0, .int .i64 0, .slice none 0 0] 40)) W := hF 14
  have hAg := hVa.size
  have rB := (⟨by simp [go_sem], by simp [go_sem], by simp [go_sem], by simp [go_sem], by simp [go_sem], by simp [go_sem], by simp [go_sem], by simp [go_sem]⟩ : Res4 (Va.alloc (.cells #[.int .i64 0, .int .i64 0, .int .i64 0, .slice none 0 0] 40)) Va.heap.size).ext hAW
  have rH : W.heap[Va.heap.size]? = some (.cells #[.int .i64 0, .int .i64 0, .int .i64 0, .slice none 0 0] 40 (0, 0)) := (hAW.block _ (by simp)).trans (heap_alloc_new _ _)
  clear hAW
  generalize Va.heap.size = go at hAg rB rH ⊢
  have hO1 := hO0.ext hVW
  have hne1 := hO1.ne_block rH (by decide)
  have hne0 := hne1 _ rfl
  have hB1 := hB0.ext hW
  have hgo := rB.lt
  clear hF hVW hne1 p0 p1 p2 p3 hO0 hV0 hVa
  have ⟨r0, r1, r2, r3, rf0, rf1, rf2, rf3⟩ := rB
  have ⟨p0, p1, p2, p3⟩ := hB1
  go_wp2_with fail
  clear p0 p1 p2 p3
  go_loopw [6] (fun y wr => ∃ (k : Nat) (A : Option Addr) (c' : Nat) (b : List Nat), k ≤ hn ∧ y = .int .i64 k ∧ Acc2 w0 wr w0.heap.size 23 40 go 3 A c' b (cells3 F wn dn (k * wn * dn)) ∧ wr.cell? ⟨go, 0, none⟩ = some (.int .i64 wn) ∧ wr.cell? ⟨go, 1, none⟩ = some (.int .i64 hn) ∧ wr.cell? ⟨go, 2, none⟩ = some (.int .i64 dn)) (fun y _ => hn - (intOf y).toNat)
  case atStart =>
    refine ⟨0, some ⟨H0, 0, none⟩, 0, [], Nat.zero_le _, rfl, ⟨?_, ?_, by simp [go_sem, *], by simp [go_sem, *], by simp [cells3], ?_, Nat.le_refl _, hAg⟩, by simp [go_sem, *], by first | (simp [go_sem, *]; done) | exact cell_set_eq (v := .int .i64 hn) (by simp [go_sem, *]), by simp [go_sem, *]⟩
    · repeat (first | with_reducible exact hO1 | (with_reducible refine OwnF.set_ne ?_ (fun q hq => by simp [Value.ownBlock] at hq; subst hq; exact hne0) _) | exact hO1)
    · repeat (first | with_reducible exact ⟨_, _, rH⟩ | with_reducible refine blk_set ?_)
    · repeat (first | with_reducible exact hW | (with_reducible refine Ext.setCell ?_ (by dsimp only; omega) _))
  case round =>
    clear r0 r1 r2 r3 rf0 rf1 rf2 rf3 rB rH hO1 hne0 hB1 hgo hW
    obtain ⟨k, A, c', b, hk, rfl, hacc, o0, o1, o2⟩ := hrel
    by_cases hlt : k < hn
    · go_wp2_with fail
      go_loopw [7] (fun x wq => ∃ (j : Nat) (A : Option Addr) (c' : Nat) (b : List Nat), j ≤ wn ∧ x = .int .i64 j ∧ Acc2 w0 wq w0.heap.size 23 40 go 3 A c' b (cells3 F wn dn ((k * wn + j) * dn)) ∧ wq.cell? ⟨go, 0, none⟩ = some (.int .i64 wn) ∧ wq.cell? ⟨go, 1, none⟩ = some (.int .i64 hn) ∧ wq.cell? ⟨go, 2, none⟩ = some (.int .i64 dn)) (fun x _ => wn - (intOf x).toNat)
      case atStart => exact ⟨0, A, c', b, Nat.zero_le _, rfl, hacc, o0, o1, o2⟩
      case round =>
        clear hacc o0 o1 o2
        rename_i wq
        obtain ⟨j, A, c', b, hj, rfl, hacc, o0, o1, o2⟩ := hrel
        by_cases hltj : j < wn
        · have ⟨p0, p1, p2, p3⟩ := hB0.ext hacc.ext
          have hhdr := hacc.hdr
          obtain ⟨e1, e2, e3, e4⟩ := HWR.out j k hltj hlt
          go_wp2_with fail
          refine region_wx 12 [none, none, none, none, none, none, none, none, none, none, none, some (fun u U' => ∃ G cG, u = .slice (some ⟨G, 0, none⟩) dn cG ∧ Lies U' G 0 ((bs.drop (cellN wn ((wn : Int) - 1 - (j : Int)) ((k : Int)) * dn)).take dn))] (by kernel_rfl) (by kernel_rfl) ?_
          simp only [List.take_succ_cons, List.take_zero, List.drop_succ_cons, List.drop_zero]
          repeat ((first | refine wx_skip rfl ?_ | refine wx_nilCheck rfl rfl _ rfl _ rfl ?_ | (refine wx_float rfl rfl _ _ _ _ _ _ _ rfl rfl rfl rfl ?_; intro r hr) | (refine wx_k rfl rfl rfl (fun K hK => ?_); go_big_quiet_op; refine hK _ ?_; clear hK K) | (refine wx_callR _ rfl rfl 76 _ _ rfl (by kernel_rfl) (fun Wc hWc hFc => ?_) ?_; (· go_simp; refine (HC.out Wc (hx0.trans (hacc.ext.trans hWc)) j k hltj hlt).mono ?_; rintro e w' ⟨H, cH, rfl, ho, hx⟩; (first | exact ⟨_, rfl, ⟨H, cH, rfl, ho.lies⟩, hx⟩ | exact ⟨_, rfl, ⟨H, ⟨cH, rfl⟩, ho.lies⟩, hx⟩)); rintro u V hV ⟨G, cG, rfl, hLG⟩)); (try simp only [Act.put, List.setIfInBounds_toArray, List.set_cons_zero, List.set_cons_succ]); (try simp only [List.tail_cons]))
          refine wx_nil (fun W hW hF => ?_)
          have hVW : Ext V W := hF 11
          have hLW := hLG.ext hVW
          obtain ⟨hlk, hnk⟩ := HR.out j k hltj hlt
          have hcl := hacc.len
          rw [cells3_length] at hcl
          have hp := HP.out k j hlt hltj
          have hown1 := hacc.own.ext hW
          have hsz1 := hacc.ext.size
          have hsz2 := hW.size
          generalize (bs.drop (cellN wn ((wn : Int) - 1 - (j : Int)) ((k : Int)) * dn)).take dn = rs at hlk hnk hLW hLG
          clear hF hLG hVW hV p0 p1 p2 p3 e1 e2 e3 e4
          refine wpList_append_own _ rfl _ _ _ rfl w0.heap.size 23 i0 (.float .f32 0) 1 4 Try.underlying22 hi hz0 hz1 hz2 rfl (by omega) (.slice A b.length c') b.length (b.map fl) (by rfl) hown1 ⟨G, 0, none⟩ dn cG (rs.map fl) (by rfl) (by simp [hlk]) (lies_new hLW) (words_one rs) (by unfold maxLen; omega) (by omega) (by omega) ?_
          intro v' w2 ho2 hg2 _
          obtain ⟨A', c2, b', rfl, hacc', ⟨hh2, hf2⟩, hold, holdf⟩ := hacc.push (by decide) hW (rs := rs) (by rw [hlk]; exact ho2) hg2 hnk
          have n0 := hold _ _ _ o0 (hacc.ne (by decide)) (by simp)
          have n1 := hold _ _ _ o1 (hacc.ne (by decide)) (by simp)
          have n2 := hold _ _ _ o2 (hacc.ne (by decide)) (by simp)
          rw [← cells3_block F wn dn k j hltj dn (Nat.le_refl _), cells3_cell] at hacc'
          clear hold holdf hown1 hhdr hacc ho2 hg2 hLW hlk hnk hW o0 o1 o2 hp hcl
          go_wp2
          go_roundw
          case rel => exact ⟨j + 1, A', c2, b', by omega, by go_num, hacc', n0, n1, n2⟩
          case measure => simp [intOf]; omega
        · have e1 : j = wn := by omega
          rw [e1, cells3_row] at hacc
          go_wp2
          go_roundw
          case rel => exact ⟨k + 1, A, c', b, by omega, by go_num, hacc, o0, o1, o2⟩
          case measure => simp [intOf]; omega
    · have e1 : k = hn := by omega
      rw [e1, Nat.mul_comm hn wn] at hacc
      have ⟨c0, c1, c2, c3, f0, f1, f2, f3⟩ := hres.ext hacc.ext
      have hhdr := hacc.hdr
      have hE := hx0.trans hacc.ext
      have hown := hacc.own
      have hlike := hacc.like
      clear hacc
      go_wp2
      refine bodyPost_ret (v := .agg #[.int .i64 wn, .int .i64 hn, .int .i64 dn, .slice A b.length c']) (by simp [results, Try.results59, go_sem, *]) rfl ⟨A, c', b, rfl, ?_, hlike, ?_⟩
      · refine OwnF.weaken (base := w0.heap.size) ?_ (by omega)
        repeat (first | (with_reducible exact hown) | (with_reducible refine OwnF.set_below ?_ (by dsimp only; omega) _))
      · repeat (first | (with_reducible exact hE) | (with_reducible refine Ext.setCell ?_ (by dsimp only; omega) _))
set_option maxHeartbeats 8000000 in
set_option maxRecDepth 8000 in
theorem turn1_any (g wn hn dn gb off n c : Nat) (bs : List Nat) (U : World) (hB : Box4 U g (.int .i64 wn) (.int .i64 hn) (.int .i64 dn) (.slice (some ⟨gb, off, none⟩) n c)) (hl : Lies U gb off bs) (hlen : bs.length = n) (hnc : n ≤ c) (hcm : c ≤ maxLen) (hv : VVol wn hn dn n) :
    Calls Try.prog 59 #[.pointer (some ⟨g, 0, none⟩), .int .i64 1] U fun e U' => ∃ A c' b, e = .returned (.agg #[.int .i64 wn, .int .i64 hn, .int .i64 dn, .slice A b.length c']) ∧ OwnF U' U.heap.size 23 (.slice A b.length c') b ∧ b.map nrm = cells3 (fun (x y e : Nat) => nrm (bs.getD (cellN wn ((x : Int)) ((hn : Int) - 1 - (y : Int)) * dn + e) 0)) wn dn (wn * hn * dn) ∧ Ext U U' := by
  obtain ⟨i0, hi, hz0, hz1, hz2⟩ := info_parts infoF
  have hgl : g < U.heap.size := hB.lt
  have hwh0 := vol_wh hv
  have hwh : wn * hn ≤ 256 := by exact hwh0
  have hs := hv.1
  have h1 : wn ≤ 24 := by have := hs.2.1; omega
  have h2 : hn ≤ 24 := by have := hs.2.2.2.1; omega
  have hd8 : dn ≤ 8 := by have := hv.2.2.1; omega
  have hd0 : 0 < dn := by have := hv.2.1; omega
  obtain ⟨F, hFd⟩ : ∃ F : Nat → Nat → Nat → Nat, F = fun (x y e : Nat) => nrm (bs.getD (cellN wn ((x : Int)) ((hn : Int) - 1 - (y : Int)) * dn + e) 0) := ⟨_, rfl⟩
  rw [← hFd]
  have HC := Lib.hid (fun (W' : World) (hx' : Ext U W') (x y : Nat) (hx : x < wn) (hy : y < hn) => (have hbx : 0 ≤ ((x : Int)) ∧ ((x : Int)) ≤ (wn : Int) - 1 := ⟨by omega, by omega⟩; have hby : 0 ≤ ((hn : Int) - 1 - (y : Int)) ∧ ((hn : Int) - 1 - (y : Int)) ≤ (hn : Int) - 1 := ⟨by omega, by omega⟩; l04Costs_any g wn hn dn gb off n c bs ((x : Int)) ((hn : Int) - 1 - (y : Int)) W' (hB.ext hx') (hl.ext hx') hlen hnc hcm hv hbx hby))
  have HR := Lib.hid (fun (x y : Nat) (hx : x < wn) (hy : y < hn) => (have hbx : 0 ≤ ((x : Int)) ∧ ((x : Int)) ≤ (wn : Int) - 1 := ⟨by omega, by omega⟩; have hby : 0 ≤ ((hn : Int) - 1 - (y : Int)) ∧ ((hn : Int) - 1 - (y : Int)) ≤ (hn : Int) - 1 := ⟨by omega, by omega⟩; (⟨by simp; have := cell_k hv hbx hby; omega, (drop_take_nrm bs _ dn (by rw [hlen]; exact cell_k hv hbx hby)).trans (by rw [hFd])⟩ : ((bs.drop (cellN wn ((x : Int)) ((hn : Int) - 1 - (y : Int)) * dn)).take dn).length = dn ∧ ((bs.drop (cellN wn ((x : Int)) ((hn : Int) - 1 - (y : Int)) * dn)).take dn).map nrm = (List.range dn).map (fun e => F x y e))))
  have HP := Lib.hid (fun k j (hk : k < hn) (hj : j < wn) => cube_le (l := dn - 1) hwh hd8 hk hj (by omega))
  have HWR := Lib.hid (fun (x : Nat) (y : Nat) (hx : x < wn) (hy : y < hn) => (⟨wrap_small ((wn : Int) - 1) (by omega) (by omega), wrap_small ((hn : Int) - 1) (by omega) (by omega), wrap_small ((wn : Int) - 1 - x) (by omega) (by omega), wrap_small ((hn : Int) - 1 - y) (by omega) (by omega)⟩ : IntKind.i64.wrap ((wn : Int) - 1) = (wn : Int) - 1 ∧ IntKind.i64.wrap ((hn : Int) - 1) = (hn : Int) - 1 ∧ IntKind.i64.wrap ((wn : Int) - 1 - x) = (wn : Int) - 1 - x ∧ IntKind.i64.wrap ((hn : Int) - 1 - y) = (hn : Int) - 1 - y))
  clear hv hs hlen hnc hcm hwh0 hFd hl hwh
  go_enter Try.func59, Try.ntmps59
  go_wp2_with fail
  refine wp_at (X := fun w' => Ext U w' ∧ U.heap.size + 1 ≤ w'.heap.size ∧ Box4 w' g (.int .i64 wn) (.int .i64 hn) (.int .i64 dn) (.slice (some ⟨gb, off, none⟩) n c) ∧ Res4 w' U.heap.size) ⟨(Ext.refl _).alloc _, by simp, hB.ext ((Ext.refl _).alloc _), ⟨by simp [go_sem], by simp [go_sem], by simp [go_sem], by simp [go_sem], by simp [go_sem], by simp [go_sem], by simp [go_sem], by simp [go_sem]⟩⟩ ?_
  rintro w0 ⟨hx0, hs0, hB0, hres⟩
  have ⟨p0, p1, p2, p3⟩ := hB0
  clear hB
  refine region_wx 15 [] (by kernel_rfl) (by kernel_rfl) ?_
  simp only [List.take_succ_cons, List.take_zero, List.drop_succ_cons, List.drop_zero]
  repeat ((first | refine wx_skip rfl ?_ | refine wx_nilCheck rfl rfl _ rfl _ rfl ?_ | (refine wx_float rfl rfl _ _ _ _ _ _ _ rfl rfl rfl rfl ?_; intro r hr) | (refine wx_k rfl rfl rfl (fun K hK => ?_); go_big_quiet_op; refine hK _ ?_; clear hK K) | (refine wx_bs0 rfl rfl _ 23 rfl bs0 ?_; intro H0 V0 hV0 hO0) | (refine wx_alloc rfl rfl 40 rfl #[.int .i64 0, .int .i64 0, .int .i64 0, .slice none 0 0] (fun Z => by simp [Instr.alloc, go_sem]) ?_; intro Va hVa)); (try simp only [Act.put, List.setIfInBounds_toArray, List.set_cons_zero, List.set_cons_succ]); (try simp only [List.tail_nil]))
  refine wx_nil (fun W hW hF => ?_)
  have hVW : Ext V0 W := hF 12
  have hAW : Ext (Va.alloc (.cells #[.int .i64 0, .int .i64 0, .int .i64 0, .slice none 0 0] 40)) W := hF 14
  have hAg := hVa.size
  have rB := (⟨by simp [go_sem], by simp [go_sem], by simp [go_sem], by simp [go_sem], by simp [go_sem], by simp [go_sem], by simp [go_sem], by simp [go_sem]⟩ : Res4 (Va.alloc (.cells #[.int .i64 0, .int .i64 0, .int .i64 0, .slice none 0 0] 40)) Va.heap.size).ext hAW
  have rH : W.heap[Va.heap.size]? = some (.cells #[.int .i64 0, .int .i64 0, .int .i64 0, .slice none 0 0] 40 (0, 0)) := (hAW.block _ (by simp)).trans (heap_alloc_new _ _)
  clear hAW
  generalize Va.heap.size = go at hAg rB rH ⊢
  have hO1 := hO0.ext hVW
  have hne1 := hO1.ne_block rH (by decide)
  have hne0 := hne1 _ rfl
  have hB1 := hB0.ext hW
  have hgo := rB.lt
  clear hF hVW hne1 p0 p1 p2 p3 hO0 hV0 hVa
  have ⟨r0, r1, r2, r3, rf0, rf1, rf2, rf3⟩ := rB
  have ⟨p0, p1, p2, p3⟩ := hB1
  go_wp2_with fail
  clear p0 p1 p2 p3
  go_loopw [6] (fun y wr => ∃ (k : Nat) (A : Option Addr) (c' : Nat) (b : List Nat), k ≤ hn ∧ y = .int .i64 k ∧ Acc2 w0 wr w0.heap.size 23 40 go 3 A c' b (cells3 F wn dn (k * wn * dn)) ∧ wr.cell? ⟨go, 0, none⟩ = some (.int .i64 wn) ∧ wr.cell? ⟨go, 1, none⟩ = some (.int .i64 hn) ∧ wr.cell? ⟨go, 2, none⟩ = some (.int .i64 dn)) (fun y _ => hn - (intOf y).toNat)
  case atStart =>
    refine ⟨0, some ⟨H0, 0, none⟩, 0, [], Nat.zero_le _, rfl, ⟨?_, ?_, by simp [go_sem, *], by simp [go_sem, *], by simp [cells3], ?_, Nat.le_refl _, hAg⟩, by simp [go_sem, *], by first | (simp [go_sem, *]; done) | exact cell_set_eq (v := .int .i64 hn) (by simp [go_sem, *]), by simp [go_sem, *]⟩
    · repeat (first | with_reducible exact hO1 | (with_reducible refine OwnF.set_ne ?_ (fun q hq => by simp [Value.ownBlock] at hq; subst hq; exact hne0) _) | exact hO1)
    · repeat (first | with_reducible exact ⟨_, _, rH⟩ | with_reducible refine blk_set ?_)
    · repeat (first | with_reducible exact hW | (with_reducible refine Ext.setCell ?_ (by dsimp only; omega) _))
  case round =>
    clear r0 r1 r2 r3 rf0 rf1 rf2 rf3 rB rH hO1 hne0 hB1 hgo hW
    obtain ⟨k, A, c', b, hk, rfl, hacc, o0, o1, o2⟩ := hrel
    by_cases hlt : k < hn
    · go_wp2_with fail
      go_loopw [7] (fun x wq => ∃ (j : Nat) (A : Option Addr) (c' : Nat) (b : List Nat), j ≤ wn ∧ x = .int .i64 j ∧ Acc2 w0 wq w0.heap.size 23 40 go 3 A c' b (cells3 F wn dn ((k * wn + j) * dn)) ∧ wq.cell? ⟨go, 0, none⟩ = some (.int .i64 wn) ∧ wq.cell? ⟨go, 1, none⟩ = some (.int .i64 hn) ∧ wq.cell? ⟨go, 2, none⟩ = some (.int .i64 dn)) (fun x _ => wn - (intOf x).toNat)
      case atStart => exact ⟨0, A, c', b, Nat.zero_le _, rfl, hacc, o0, o1, o2⟩
      case round =>
        clear hacc o0 o1 o2
        rename_i wq
        obtain ⟨j, A, c', b, hj, rfl, hacc, o0, o1, o2⟩ := hrel
        by_cases hltj : j < wn
        · have ⟨p0, p1, p2, p3⟩ := hB0.ext hacc.ext
          have hhdr := hacc.hdr
          obtain ⟨e1, e2, e3, e4⟩ := HWR.out j k hltj hlt
          go_wp2_with fail
          refine region_wx 12 [none, none, none, none, none, none, none, none, none, none, none, some (fun u U' => ∃ G cG, u = .slice (some ⟨G, 0, none⟩) dn cG ∧ Lies U' G 0 ((bs.drop (cellN wn ((j : Int)) ((hn : Int) - 1 - (k : Int)) * dn)).take dn))] (by kernel_rfl) (by kernel_rfl) ?_
          simp only [List.take_succ_cons, List.take_zero, List.drop_succ_cons, List.drop_zero]
          repeat ((first | refine wx_skip rfl ?_ | refine wx_nilCheck rfl rfl _ rfl _ rfl ?_ | (refine wx_float rfl rfl _ _ _ _ _ _ _ rfl rfl rfl rfl ?_; intro r hr) | (refine wx_k rfl rfl rfl (fun K hK => ?_); go_big_quiet_op; refine hK _ ?_; clear hK K) | (refine wx_callR _ rfl rfl 76 _ _ rfl (by kernel_rfl) (fun Wc hWc hFc => ?_) ?_; (· go_simp; refine (HC.out Wc (hx0.trans (hacc.ext.trans hWc)) j k hltj hlt).mono ?_; rintro e w' ⟨H, cH, rfl, ho, hx⟩; (first | exact ⟨_, rfl, ⟨H, cH, rfl, ho.lies⟩, hx⟩ | exact ⟨_, rfl, ⟨H, ⟨cH, rfl⟩, ho.lies⟩, hx⟩)); rintro u V hV ⟨G, cG, rfl, hLG⟩)); (try simp only [Act.put, List.setIfInBounds_toArray, List.set_cons_zero, List.set_cons_succ]); (try simp only [List.tail_cons]))
          refine wx_nil (fun W hW hF => ?_)
          have hVW : Ext V W := hF 11
          have hLW := hLG.ext hVW
          obtain ⟨hlk, hnk⟩ := HR.out j k hltj hlt
          have hcl := hacc.len
          rw [cells3_length] at hcl
          have hp := HP.out k j hlt hltj
          have hown1 := hacc.own.ext hW
          have hsz1 := hacc.ext.size
          have hsz2 := hW.size
          generalize (bs.drop (cellN wn ((j : Int)) ((hn : Int) - 1 - (k : Int)) * dn)).take dn = rs at hlk hnk hLW hLG
          clear hF hLG hVW hV p0 p1 p2 p3 e1 e2 e3 e4
          refine wpList_append_own _ rfl _ _ _ rfl w0.heap.size 23 i0 (.float .f32 0) 1 4 Try.underlying22 hi hz0 hz1 hz2 rfl (by omega) (.slice A b.length c') b.length (b.map fl) (by rfl) hown1 ⟨G, 0, none⟩ dn cG (rs.map fl) (by rfl) (by simp [hlk]) (lies_new hLW) (words_one rs) (by unfold maxLen; omega) (by omega) (by omega) ?_
          intro v' w2 ho2 hg2 _
          obtain ⟨A', c2, b', rfl, hacc', ⟨hh2, hf2⟩, hold, holdf⟩ := hacc.push (by decide) hW (rs := rs) (by rw [hlk]; exact ho2) hg2 hnk
          have n0 := hold _ _ _ o0 (hacc.ne (by decide)) (by simp)
          have n1 := hold _ _ _ o1 (hacc.ne (by decide)) (by simp)
          have n2 := hold _ _ _ o2 (hacc.ne (by decide)) (by simp)
          rw [← cells3_block F wn dn k j hltj dn (Nat.le_refl _), cells3_cell] at hacc'
          clear hold holdf hown1 hhdr hacc ho2 hg2 hLW hlk hnk hW o0 o1 o2 hp hcl
          go_wp2
          go_roundw
          case rel => exact ⟨j + 1, A', c2, b', by omega, by go_num, hacc', n0, n1, n2⟩
          case measure => simp [intOf]; omega
        · have e1 : j = wn := by omega
          rw [e1, cells3_row] at hacc
          go_wp2
          go_roundw
          case rel => exact ⟨k + 1, A, c', b, by omega, by go_num, hacc, o0, o1, o2⟩
          case measure => simp [intOf]; omega
    · have e1 : k = hn := by omega
      rw [e1, Nat.mul_comm hn wn] at hacc
      have ⟨c0, c1, c2, c3, f0, f1, f2, f3⟩ := hres.ext hacc.ext
      have hhdr := hacc.hdr
      have hE := hx0.trans hacc.ext
      have hown := hacc.own
      have hlike := hacc.like
      clear hacc
      go_wp2
      refine bodyPost_ret (v := .agg #[.int .i64 wn, .int .i64 hn, .int .i64 dn, .slice A b.length c']) (by simp [results, Try.results59, go_sem, *]) rfl ⟨A, c', b, rfl, ?_, hlike, ?_⟩
      · refine OwnF.weaken (base := w0.heap.size) ?_ (by omega)
        repeat (first | (with_reducible exact hown) | (with_reducible refine OwnF.set_below ?_ (by dsimp only; omega) _))
      · repeat (first | (with_reducible exact hE) | (with_reducible refine Ext.setCell ?_ (by dsimp only; omega) _))
set_option maxHeartbeats 8000000 in
set_option maxRecDepth 8000 in
theorem turn2_any (g wn hn dn gb off n c : Nat) (bs : List Nat) (U : World) (hB : Box4 U g (.int .i64 wn) (.int .i64 hn) (.int .i64 dn) (.slice (some ⟨gb, off, none⟩) n c)) (hl : Lies U gb off bs) (hlen : bs.length = n) (hnc : n ≤ c) (hcm : c ≤ maxLen) (hv : VVol wn hn dn n) :
    Calls Try.prog 59 #[.pointer (some ⟨g, 0, none⟩), .int .i64 2] U fun e U' => ∃ A c' b, e = .returned (.agg #[.int .i64 hn, .int .i64 wn, .int .i64 dn, .slice A b.length c']) ∧ OwnF U' U.heap.size 23 (.slice A b.length c') b ∧ b.map nrm = cells3 (fun (x y e : Nat) => nrm (bs.getD (cellN wn ((y : Int)) ((x : Int)) * dn + e) 0)) hn dn (hn * wn * dn) ∧ Ext U U' := by
  obtain ⟨i0, hi, hz0, hz1, hz2⟩ := info_parts infoF
  have hgl : g < U.heap.size := hB.lt
  have hwh0 := vol_wh hv
  have hwh : hn * wn ≤ 256 := by rw [Nat.mul_comm]; exact hwh0
  have hs := hv.1
  have h1 : wn ≤ 24 := by have := hs.2.1; omega
  have h2 : hn ≤ 24 := by have := hs.2.2.2.1; omega
  have hd8 : dn ≤ 8 := by have := hv.2.2.1; omega
  have hd0 : 0 < dn := by have := hv.2.1; omega
  obtain ⟨F, hFd⟩ : ∃ F : Nat → Nat → Nat → Nat, F = fun (x y e : Nat) => nrm (bs.getD (cellN wn ((y : Int)) ((x : Int)) * dn + e) 0) := ⟨_, rfl⟩
  rw [← hFd]
  have HC := Lib.hid (fun (W' : World) (hx' : Ext U W') (x y : Nat) (hx : x < hn) (hy : y < wn) => (have hbx : 0 ≤ ((y : Int)) ∧ ((y : Int)) ≤ (wn : Int) - 1 := ⟨by omega, by omega⟩; have hby : 0 ≤ ((x : Int)) ∧ ((x : Int)) ≤ (hn : Int) - 1 := ⟨by omega, by omega⟩; l04Costs_any g wn hn dn gb off n c bs ((y : Int)) ((x : Int)) W' (hB.ext hx') (hl.ext hx') hlen hnc hcm hv hbx hby))
  have HR := Lib.hid (fun (x y : Nat) (hx : x < hn) (hy : y < wn) => (have hbx : 0 ≤ ((y : Int)) ∧ ((y : Int)) ≤ (wn : Int) - 1 := ⟨by omega, by omega⟩; have hby : 0 ≤ ((x : Int)) ∧ ((x : Int)) ≤ (hn : Int) - 1 := ⟨by omega, by omega⟩; (⟨by simp; have := cell_k hv hbx hby; omega, (drop_take_nrm bs _ dn (by rw [hlen]; exact cell_k hv hbx hby)).trans (by rw [hFd])⟩ : ((bs.drop (cellN wn ((y : Int)) ((x : Int)) * dn)).take dn).length = dn ∧ ((bs.drop (cellN wn ((y : Int)) ((x : Int)) * dn)).take dn).map nrm = (List.range dn).map (fun e => F x y e))))
  have HP := Lib.hid (fun k j (hk : k < wn) (hj : j < hn) => cube_le (l := dn - 1) hwh hd8 hk hj (by omega))
  have HWR := Lib.hid (fun (x : Nat) (y : Nat) (hx : x < hn) (hy : y < wn) => (⟨wrap_small ((wn : Int) - 1) (by omega) (by omega), wrap_small ((hn : Int) - 1) (by omega) (by omega), wrap_small ((wn : Int) - 1 - x) (by omega) (by omega), wrap_small ((hn : Int) - 1 - y) (by omega) (by omega)⟩ : IntKind.i64.wrap ((wn : Int) - 1) = (wn : Int) - 1 ∧ IntKind.i64.wrap ((hn : Int) - 1) = (hn : Int) - 1 ∧ IntKind.i64.wrap ((wn : Int) - 1 - x) = (wn : Int) - 1 - x ∧ IntKind.i64.wrap ((hn : Int) - 1 - y) = (hn : Int) - 1 - y))
  clear hv hs hlen hnc hcm hwh0 hFd hl hwh
  go_enter Try.func59, Try.ntmps59
  go_wp2_with fail
  refine wp_at (X := fun w' => Ext U w' ∧ U.heap.size + 1 ≤ w'.heap.size ∧ Box4 w' g (.int .i64 wn) (.int .i64 hn) (.int .i64 dn) (.slice (some ⟨gb, off, none⟩) n c) ∧ Res4 w' U.heap.size) ⟨(Ext.refl _).alloc _, by simp, hB.ext ((Ext.refl _).alloc _), ⟨by simp [go_sem], by simp [go_sem], by simp [go_sem], by simp [go_sem], by simp [go_sem], by simp [go_sem], by simp [go_sem], by simp [go_sem]⟩⟩ ?_
  rintro w0 ⟨hx0, hs0, hB0, hres⟩
  have ⟨p0, p1, p2, p3⟩ := hB0
  clear hB
  refine region_wx 15 [] (by kernel_rfl) (by kernel_rfl) ?_
  simp only [List.take_succ_cons, List.take_zero, List.drop_succ_cons, List.drop_zero]
  repeat ((first | refine wx_skip rfl ?_ | refine wx_nilCheck rfl rfl _ rfl _ rfl ?_ | (refine wx_float rfl rfl _ _ _ _ _ _ _ rfl rfl rfl rfl ?_; intro r hr) | (refine wx_k rfl rfl rfl (fun K hK => ?_); go_big_quiet_op; refine hK _ ?_; clear hK K) | (refine wx_bs0 rfl rfl _ 23 rfl bs0 ?_; intro H0 V0 hV0 hO0) | (refine wx_alloc rfl rfl 40 rfl #[.int .i64 0, .int .i64 0, .int .i64 0, .slice none 0 0] (fun Z => by simp [Instr.alloc, go_sem]) ?_; intro Va hVa)); (try simp only [Act.put, List.setIfInBounds_toArray, List.set_cons_zero, List.set_cons_succ]); (try simp only [List.tail_nil]))
  refine wx_nil (fun W hW hF => ?_)
  have hVW : Ext V0 W := hF 12
  have hAW : Ext (Va.alloc (.cells #[.int .i64 0, .int .i64 0, .int .i64 0, .slice none 0 0] 40)) W := hF 14
  have hAg := hVa.size
  have rB := (⟨by simp [go_sem], by simp [go_sem], by simp [go_sem], by simp [go_sem], by simp [go_sem], by simp [go_sem], by simp [go_sem], by simp [go_sem]⟩ : Res4 (Va.alloc (.cells #[.int .i64 0, .int .i64 0, .int .i64 0, .slice none 0 0] 40)) Va.heap.size).ext hAW
  have rH : W.heap[Va.heap.size]? = some (.cells #[.int .i64 0, .int .i64 0, .int .i64 0, .slice none 0 0] 40 (0, 0)) := (hAW.block _ (by simp)).trans (heap_alloc_new _ _)
  clear hAW
  generalize Va.heap.size = go at hAg rB rH ⊢
  have hO1 := hO0.ext hVW
  have hne1 := hO1.ne_block rH (by decide)
  have hne0 := hne1 _ rfl
  have hB1 := hB0.ext hW
  have hgo := rB.lt
  clear hF hVW hne1 p0 p1 p2 p3 hO0 hV0 hVa
  have ⟨r0, r1, r2, r3, rf0, rf1, rf2, rf3⟩ := rB
  have ⟨p0, p1, p2, p3⟩ := hB1
  go_wp2_with fail
  clear p0 p1 p2 p3
  go_loopw [6] (fun y wr => ∃ (k : Nat) (A : Option Addr) (c' : Nat) (b : List Nat), k ≤ wn ∧ y = .int .i64 k ∧ Acc2 w0 wr w0.heap.size 23 40 go 3 A c' b (cells3 F hn dn (k * hn * dn)) ∧ wr.cell? ⟨go, 0, none⟩ = some (.int .i64 hn) ∧ wr.cell? ⟨go, 1, none⟩ = some (.int .i64 wn) ∧ wr.cell? ⟨go, 2, none⟩ = some (.int .i64 dn)) (fun y _ => wn - (intOf y).toNat)
  case atStart =>
    refine ⟨0, some ⟨H0, 0, none⟩, 0, [], Nat.zero_le _, rfl, ⟨?_, ?_, by simp [go_sem, *], by simp [go_sem, *], by simp [cells3], ?_, Nat.le_refl _, hAg⟩, by simp [go_sem, *], by first | (simp [go_sem, *]; done) | exact cell_set_eq (v := .int .i64 hn) (by simp [go_sem, *]), by simp [go_sem, *]⟩
    · repeat (first | with_reducible exact hO1 | (with_reducible refine OwnF.set_ne ?_ (fun q hq => by simp [Value.ownBlock] at hq; subst hq; exact hne0) _) | exact hO1)
    · repeat (first | with_reducible exact ⟨_, _, rH⟩ | with_reducible refine blk_set ?_)
    · repeat (first | with_reducible exact hW | (with_reducible refine Ext.setCell ?_ (by dsimp only; omega) _))
  case round =>
    clear r0 r1 r2 r3 rf0 rf1 rf2 rf3 rB rH hO1 hne0 hB1 hgo hW
    obtain ⟨k, A, c', b, hk, rfl, hacc, o0, o1, o2⟩ := hrel
    by_cases hlt : k < wn
    · go_wp2_with fail
      go_loopw [7] (fun x wq => ∃ (j : Nat) (A : Option Addr) (c' : Nat) (b : List Nat), j ≤ hn ∧ x = .int .i64 j ∧ Acc2 w0 wq w0.heap.size 23 40 go 3 A c' b (cells3 F hn dn ((k * hn + j) * dn)) ∧ wq.cell? ⟨go, 0, none⟩ = some (.int .i64 hn) ∧ wq.cell? ⟨go, 1, none⟩ = some (.int .i64 wn) ∧ wq.cell? ⟨go, 2, none⟩ = some (.int .i64 dn)) (fun x _ => hn - (intOf x).toNat)
      case atStart => exact ⟨0, A, c', b, Nat.zero_le _, rfl, hacc, o0, o1, o2⟩
      case round =>
        clear hacc o0 o1 o2
        rename_i wq
        obtain ⟨j, A, c', b, hj, rfl, hacc, o0, o1, o2⟩ := hrel
        by_cases hltj : j < hn
        · have ⟨p0, p1, p2, p3⟩ := hB0.ext hacc.ext
          have hhdr := hacc.hdr
          obtain ⟨e1, e2, e3, e4⟩ := HWR.out j k hltj hlt
          go_wp2_with fail
          refine region_wx 6 [none, none, none, none, none, some (fun u U' => ∃ G cG, u = .slice (some ⟨G, 0, none⟩) dn cG ∧ Lies U' G 0 ((bs.drop (cellN wn ((k : Int)) ((j : Int)) * dn)).take dn))] (by kernel_rfl) (by kernel_rfl) ?_
          simp only [List.take_succ_cons, List.take_zero, List.drop_succ_cons, List.drop_zero]
          repeat ((first | refine wx_skip rfl ?_ | refine wx_nilCheck rfl rfl _ rfl _ rfl ?_ | (refine wx_float rfl rfl _ _ _ _ _ _ _ rfl rfl rfl rfl ?_; intro r hr) | (refine wx_k rfl rfl rfl (fun K hK => ?_); go_big_quiet_op; refine hK _ ?_; clear hK K) | (refine wx_callR _ rfl rfl 76 _ _ rfl (by kernel_rfl) (fun Wc hWc hFc => ?_) ?_; (· go_simp; refine (HC.out Wc (hx0.trans (hacc.ext.trans hWc)) j k hltj hlt).mono ?_; rintro e w' ⟨H, cH, rfl, ho, hx⟩; (first | exact ⟨_, rfl, ⟨H, cH, rfl, ho.lies⟩, hx⟩ | exact ⟨_, rfl, ⟨H, ⟨cH, rfl⟩, ho.lies⟩, hx⟩)); rintro u V hV ⟨G, cG, rfl, hLG⟩)); (try simp only [Act.put, List.setIfInBounds_toArray, List.set_cons_zero, List.set_cons_succ]); (try simp only [List.tail_cons]))
          refine wx_nil (fun W hW hF => ?_)
          have hVW : Ext V W := hF 5
          have hLW := hLG.ext hVW
          obtain ⟨hlk, hnk⟩ := HR.out j k hltj hlt
          have hcl := hacc.len
          rw [cells3_length] at hcl
          have hp := HP.out k j hlt hltj
          have hown1 := hacc.own.ext hW
          have hsz1 := hacc.ext.size
          have hsz2 := hW.size
          generalize (bs.drop (cellN wn ((k : Int)) ((j : Int)) * dn)).take dn = rs at hlk hnk hLW hLG
          clear hF hLG hVW hV p0 p1 p2 p3 e1 e2 e3 e4
          refine wpList_append_own _ rfl _ _ _ rfl w0.heap.size 23 i0 (.float .f32 0) 1 4 Try.underlying22 hi hz0 hz1 hz2 rfl (by omega) (.slice A b.length c') b.length (b.map fl) (by rfl) hown1 ⟨G, 0, none⟩ dn cG (rs.map fl) (by rfl) (by simp [hlk]) (lies_new hLW) (words_one rs) (by unfold maxLen; omega) (by omega) (by omega) ?_
          intro v' w2 ho2 hg2 _
          obtain ⟨A', c2, b', rfl, hacc', ⟨hh2, hf2⟩, hold, holdf⟩ := hacc.push (by decide) hW (rs := rs) (by rw [hlk]; exact ho2) hg2 hnk
          have n0 := hold _ _ _ o0 (hacc.ne (by decide)) (by simp)
          have n1 := hold _ _ _ o1 (hacc.ne (by decide)) (by simp)
          have n2 := hold _ _ _ o2 (hacc.ne (by decide)) (by simp)
          rw [← cells3_block F hn dn k j hltj dn (Nat.le_refl _), cells3_cell] at hacc'
          clear hold holdf hown1 hhdr hacc ho2 hg2 hLW hlk hnk hW o0 o1 o2 hp hcl
          go_wp2
          go_roundw
          case rel => exact ⟨j + 1, A', c2, b', by omega, by go_num, hacc', n0, n1, n2⟩
          case measure => simp [intOf]; omega
        · have e1 : j = hn := by omega
          rw [e1, cells3_row] at hacc
          go_wp2
          go_roundw
          case rel => exact ⟨k + 1, A, c', b, by omega, by go_num, hacc, o0, o1, o2⟩
          case measure => simp [intOf]; omega
    · have e1 : k = wn := by omega
      rw [e1, Nat.mul_comm wn hn] at hacc
      have ⟨c0, c1, c2, c3, f0, f1, f2, f3⟩ := hres.ext hacc.ext
      have hhdr := hacc.hdr
      have hE := hx0.trans hacc.ext
      have hown := hacc.own
      have hlike := hacc.like
      clear hacc
      go_wp2
      refine bodyPost_ret (v := .agg #[.int .i64 hn, .int .i64 wn, .int .i64 dn, .slice A b.length c']) (by simp [results, Try.results59, go_sem, *]) rfl ⟨A, c', b, rfl, ?_, hlike, ?_⟩
      · refine OwnF.weaken (base := w0.heap.size) ?_ (by omega)
        repeat (first | (with_reducible exact hown) | (with_reducible refine OwnF.set_below ?_ (by dsimp only; omega) _))
      · repeat (first | (with_reducible exact hE) | (with_reducible refine Ext.setCell ?_ (by dsimp only; omega) _))
end Go.Proofs.Ythkfbmboiabolaa
