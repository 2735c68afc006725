/- Contracts: what it costs to come to each disparity. -/
import Derived.Test.YthkfbmboiabolaaLeast
import Derived.Test.YthkfbmboiabolaaAcc
import Derived.Test.YthkfbmboiabolaaMade
namespace Go.Proofs.Ythkfbmboiabolaa
open Go.RowKit
set_option linter.unusedVariables false

/-- What it costs to come to a disparity. -/
def jumpAt (L : List Nat) (O M d : Nat) : Nat := lstL ([L.getD d 0] ++ (if 0 < d then [fop .add (L.getD (d - 1) 0) O] else []) ++ (if d + 1 < L.length then [fop .add (L.getD (d + 1) 0) O] else []) ++ [fop .add M (lstL L)])
def jumpL (L : List Nat) (O M : Nat) : List Nat := (List.range L.length).map (jumpAt L O M)
theorem app_here {P : Program} {ops : Array Oper} {rest : List Oper} {o : Oper} {a : Act} {Q : Exit → Act → World → Prop} {w : World} (x y : Operand) (t t' : TypeId) (ho : o.op = .call { callee := .builtin .append, args := #[x, y], argTypes := #[t, t'] })
    (h : Hid (wpList P ops Q (o :: rest) a w)) : wpList P ops Q (o :: rest) a w := h.out
theorem wl_at {P : Program} {ops : Array Oper} {Q : Exit → Act → World → Prop} {l : List Oper} {a : Act} {w : World} {X : World → Prop} (hX : X w) (h : ∀ w', X w' → wpList P ops Q l a w') : wpList P ops Q l a w := h w hX
theorem own_more {w2 : World} {B : Nat} {e : TypeId} {v : Value} {cs cs' : List Nat} {r m : Nat} (ho2 : w2.ownsRow B e 1 v (cs.length + 1) (cs.map fl ++ [fl r])) (h : cs ++ [r] = cs') (hm : cs'.length = m) :
    ∃ A' c', v = .slice A' m c' ∧ m ≤ c' ∧ c' ≤ maxLen ∧ OwnF w2 B e (.slice A' m c') cs' := by
  have ho' : OwnF w2 B e v (cs ++ [r]) := by
    unfold OwnF
    rw [List.length_append, List.map_append]
    exact ho2
  rw [h] at ho'
  obtain ⟨A', c', rfl, h1, h2, _⟩ := ho'.form
  subst hm
  exact ⟨A', c', rfl, h1, h2, ho'⟩
theorem own_one (w : World) (B : Nat) (e : TypeId) (r : Nat) (hB : B ≤ w.heap.size) : OwnF (w.alloc (.cells #[fl r] e)) B e (.slice (some ⟨w.heap.size, 0, none⟩) 1 1) [r] :=
  OwnF.of_blk (bs := [r]) (g := w.heap.size) (heap_alloc_new _ _) hB (by unfold maxLen; simp)
theorem cell_freshA (w : World) (t : TypeId) (r : Value) : (w.alloc (.cells #[r] t)).cell? ⟨w.heap.size, 0, none⟩ = some r := by
  simp [go_sem]
theorem cell_freshB (w : World) (k : Nat) (t : TypeId) (r : Value) : ((w.drewN k).alloc (.cells #[r] t)).cell? ⟨w.heap.size, 0, none⟩ = some r := cell_freshA (w.drewN k) t r
theorem fop_nn (o : BinOp) (x y : Nat) : fop o (nrm x) (nrm y) = fop o x y := fop_nrm o x y
theorem words_app {l : List Nat} {r : Nat} (hl : Words l) (hr : r < 4294967296) : Words (l ++ [r]) := fun b hb => by
  rcases List.mem_append.1 hb with hb | hb
  · exact hl b hb
  · simp at hb; subst hb; exact hr
theorem words_1 {r : Nat} (hr : r < 4294967296) : Words [r] := fun b hb => by simp at hb; subst hb; exact hr
set_option maxHeartbeats 8000000 in
set_option maxRecDepth 8000 in
theorem jump_any (A : Option Addr) (n c : Nat) (bs : List Nat) (a b : Nat) (U : World)  (hr : Reads U A n bs) (hwd : Words bs) (ha : a < 4294967296) (hb : b < 4294967296) (h1 : 1 ≤ n) (h8 : n ≤ 8) (hnc : n ≤ c) (hcm : c ≤ maxLen) :
    Calls Try.prog 44 #[.slice A n c, .agg #[.float .f32 a, .float .f32 b]] U fun e U' => ∃ A' c' b', e = .returned (.slice A' b'.length c') ∧ OwnF U' U.heap.size 23 (.slice A' b'.length c') b' ∧ b'.map nrm = jumpL (bs.map nrm) (nrm a) (nrm b) ∧ Words b' ∧ Ext U U' := by
  obtain ⟨i0, hi, hz0, hz1, hz2⟩ := info_parts infoF
  obtain ⟨gb, off, rfl, hl⟩ := hr.2 (by omega)
  have hlen := hr.1
  have HLST := Lib.hid (fun (W : World) (hW : Ext U W) => leastOf_any (some ⟨gb, off, none⟩) n c bs W (hr.ext hW) h1 (by omega) hnc hcm)
  have HLC := Lib.hid (fun (A : Option Addr) (m c : Nat) (cs : List Nat) (W : World) (B : Nat) (ho : OwnF W B 23 (.slice A m c) cs) (hm : 1 ≤ m) (hm4 : m ≤ 16) (hmc : m ≤ c) (hc : c ≤ maxLen) => leastOf_any A m c cs W ho.reads hm hm4 hmc hc)
  obtain ⟨M, hM⟩ : ∃ M, lstL bs = M := ⟨_, rfl⟩
  rw [hM] at HLST
  have hMl : M < 4294967296 := by rw [← hM]; exact lstL_lt hwd
  have HM := Lib.hid (show nrm M = lstL (bs.map nrm) by rw [← hM]; exact lstL_nrm bs)
  obtain ⟨J, hJ⟩ : ∃ J : Nat → Nat, J = jumpAt (bs.map nrm) (nrm a) (nrm b) := ⟨_, rfl⟩
  have HJ := Lib.hid (fun d => (congrFun hJ d : J d = jumpAt (bs.map nrm) (nrm a) (nrm b) d))
  have hJL : jumpL (bs.map nrm) (nrm a) (nrm b) = (List.range n).map J := by unfold jumpL; rw [List.length_map, hlen, hJ]
  rw [hJL]
  have HL := Lib.hid (fun i (hi : i < n) => (hl i (by omega) : U.cell? ⟨gb, off + i, none⟩ = some (fl (bs.getD i 0))))
  have HWD := Lib.hid (fun i => wd_at' hwd i)
  have HLEN := Lib.hid hlen
  unfold maxLen at hcm
  clear hl hr hwd hlen hM hJ hJL
  go_enter Try.func44, Try.ntmps44
  go_wp2_with fail
  refine calls_at (X := fun w' => Ext U w' ∧ Box2 w' U.heap.size (fl a) (fl b) ∧ OwnF w' (U.heap.size + 1) 23 (.slice (some ⟨U.heap.size + 1, 0, none⟩) 0 0) [] ∧ U.heap.size + 1 ≤ w'.heap.size) ?_ ?_
  · refine ⟨((Ext.refl _).alloc _).alloc _, ⟨by simp [go_sem], by simp [go_sem]⟩, ?_, by simp⟩
    have h := World.ownsRow_made (size := 1) (base := U.heap.size + 1) (e := 23) (U.alloc (.cells #[.float .f32 a, .float .f32 b] 29)) #[] 0 (by simp) (by unfold maxLen; omega) rfl
    simpa [OwnF] using h
  rintro w0 ⟨hx0, hp0, hown0, hs0⟩
  refine (HLST.out w0 hx0).mono ?_
  rintro e w1 ⟨rfl, rfl⟩
  go_wp2_with fail
  go_loopw [5, 15] (fun ov iv wr => ∃ (k : Nat) (A' : Option Addr) (c' : Nat) (bb : List Nat), k ≤ n ∧ iv = .int .i64 k ∧ ov = .slice A' bb.length c' ∧ OwnF wr (U.heap.size + 1) 23 (.slice A' bb.length c') bb ∧ bb.map nrm = (List.range k).map J ∧ Words bb ∧ Box2 wr U.heap.size (fl a) (fl b) ∧ Ext U wr) (fun _ iv _ => n - (intOf iv).toNat)
  case atStart => exact ⟨0, some ⟨U.heap.size + 1, 0, none⟩, 0, [], Nat.zero_le _, rfl, rfl, hown0, rfl, (fun b hb => by cases hb), hp0, hx0⟩
  case round =>
    clear hown0 hp0 hx0
    obtain ⟨k, A', c', bb, hk, rfl, rfl, hown, hlike, hbw, hp, hE⟩ := hrel
    have HBL : Hid (bb.length = k) := Lib.hid (by have := congrArg List.length hlike; simpa using this)
    by_cases hlt : k < n
    · have hcv := cell_ext (HL.out k hlt) hE
      have hwv := HWD.out k
      have hJk := HJ.out k
      unfold jumpAt at hJk
      rw [List.length_map, HLEN.out, getD_map_nrm, getD_map_nrm, getD_map_nrm, fop_nn, fop_nn, ← HM.out, fop_nn] at hJk
      obtain ⟨v, hv⟩ : ∃ v, bs.getD k 0 = v := ⟨_, rfl⟩
      rw [hv] at hcv hwv hJk
      have b0 : (0 : Int) ≤ (k : Int) := by omega
      have b1 : (k : Int) < (n : Int) := by omega
      have ⟨pa, pb⟩ := hp
      have hpl := hp.lt
      have hus := hE.size
      by_cases hlo : 0 < k
      · obtain ⟨km, hkm⟩ : ∃ km, k = km + 1 := ⟨k - 1, by omega⟩
        have hclo := cell_ext (HL.out km (by omega)) hE
        rw [show k - 1 = km by omega] at hJk
        have hwl := HWD.out km
        generalize bs.getD km 0 = vl at hclo hJk hwl
        have hgt : (k : Int) > 0 := by omega
        have hgt2 : (0 : Int) < (k : Int) := by omega
        have hw1 : IntKind.i64.wrap ((k : Int) - 1) = (km : Int) := by rw [show (k : Int) - 1 = (km : Int) by omega]; exact wrap_small _ (by omega) (by omega)
        have bl0 : (0 : Int) ≤ (km : Int) := by omega
        have bl1 : (km : Int) < (n : Int) := by omega
        have HKM := Lib.hid hkm
        clear hkm
        by_cases hhi : k + 1 < n
        · obtain ⟨kp, hkp⟩ : ∃ kp, k + 1 = kp := ⟨_, rfl⟩
          rw [hkp] at hJk hhi
          have hchi := cell_ext (HL.out kp (by omega)) hE
          have hwh := HWD.out kp
          generalize bs.getD kp 0 = vh at hchi hJk hwh
          have hw2 : IntKind.i64.wrap ((k : Int) + 1) = (kp : Int) := by rw [show (k : Int) + 1 = (kp : Int) by omega]; exact wrap_small _ (by omega) (by omega)
          have bh0 : (0 : Int) ≤ (kp : Int) := by omega
          have bh1 : (kp : Int) < (n : Int) := by omega
          have HKP := Lib.hid hkp
          clear hkp
          go_wp2_with fail
          refine wp_at (X := fun w' => Ext wr w' ∧ OwnF w' wr.heap.size 23 (.slice (some ⟨wr.heap.size, 0, none⟩) 1 1) [v]) ⟨(Ext.refl _).alloc _, own_one _ _ _ _ (Nat.le_refl _)⟩ ?_
          rintro y0 ⟨hey, hoy⟩
          have hpa1 := cell_ext pa hey
          have hcell1 := cell_ext hclo hey
          refine region_wx 10 [] (by kernel_rfl) (by kernel_rfl) ?_
          simp only [List.take_succ_cons, List.take_zero, List.drop_succ_cons, List.drop_zero]
          repeat ((first | refine wx_skip rfl ?_ | refine wx_nilCheck rfl rfl _ rfl _ rfl ?_ | (refine wx_float rfl rfl _ _ _ _ _ _ _ rfl rfl rfl rfl ?_; intro r hr) | (refine wx_k rfl rfl rfl (fun K hK => ?_); go_big_quiet_op; refine hK _ ?_; clear hK K) | (refine wx_bs rfl rfl _ _ _ rfl _ rfl (fun Z => bs1 _ Z) ?_; intro H V2 hV2 hcell0)); (try simp only [Act.put, List.setIfInBounds_toArray, List.set_cons_zero, List.set_cons_succ]); (try simp only [List.tail_nil]))
          refine wx_nil (fun W hW hF => ?_)
          have hVW : Ext V2 W := hF 9
          have hnew := cell_ext hcell0 hVW
          have hoy2 := hoy.ext hW
          have hrow := hoy2.row
          have hsy := hW.size
          have hsy0 := hey.size
          have hey2 := hey.trans hW
          clear hF hVW hcell0 hV2 hpa1 hcell1 hW hoy hey
          have hr1 := hr
          clear hr
          obtain ⟨r1, hrr⟩ : ∃ q, q = r := ⟨_, rfl⟩
          rw [← hrr] at hr1 hnew ⊢
          clear hrr
          refine wpList_append_own _ rfl _ _ _ rfl (wr.heap.size) 23 i0 (.float .f32 0) 1 4 Try.underlying22 hi hz0 hz1 hz2 rfl (by omega) (.slice (some ⟨wr.heap.size, 0, none⟩) 1 1) 1 ([v].map fl) (by rfl) hoy2 ⟨H, 0, none⟩ 1 1 [fl r1] (by rfl) rfl (one_new hnew) (one_word r1) (by unfold maxLen; omega) (by omega) (by omega) ?_
          intro v' y1 ho2 hg2 _
          obtain ⟨A1, c1, rfl, hc11, hc12, hoy⟩ := own_more (cs' := [v, r1]) (m := 2) ho2 rfl rfl
          have hey := Ext.grown hey2 hg2 (fun g hg => (hrow g hg).1)
          clear ho2 hg2 hoy2 hrow hnew hsy hsy0 hey2
          go_wp2_with fail
          have hpa2 := cell_ext pa hey
          have hcell2 := cell_ext hchi hey
          refine region_wx 10 [] (by kernel_rfl) (by kernel_rfl) ?_
          simp only [List.take_succ_cons, List.take_zero, List.drop_succ_cons, List.drop_zero]
          repeat ((first | refine wx_skip rfl ?_ | refine wx_nilCheck rfl rfl _ rfl _ rfl ?_ | (refine wx_float rfl rfl _ _ _ _ _ _ _ rfl rfl rfl rfl ?_; intro r hr) | (refine wx_k rfl rfl rfl (fun K hK => ?_); go_big_quiet_op; refine hK _ ?_; clear hK K) | (refine wx_bs rfl rfl _ _ _ rfl _ rfl (fun Z => bs1 _ Z) ?_; intro H V2 hV2 hcell0)); (try simp only [Act.put, List.setIfInBounds_toArray, List.set_cons_zero, List.set_cons_succ]); (try simp only [List.tail_nil]))
          refine wx_nil (fun W hW hF => ?_)
          have hVW : Ext V2 W := hF 9
          have hnew := cell_ext hcell0 hVW
          have hoy2 := hoy.ext hW
          have hrow := hoy2.row
          have hsy := hW.size
          have hsy0 := hey.size
          have hey2 := hey.trans hW
          clear hF hVW hcell0 hV2 hpa2 hcell2 hW hoy hey
          have hr2 := hr
          clear hr
          obtain ⟨r2, hrr⟩ : ∃ q, q = r := ⟨_, rfl⟩
          rw [← hrr] at hr2 hnew ⊢
          clear hrr
          refine wpList_append_own _ rfl _ _ _ rfl (wr.heap.size) 23 i0 (.float .f32 0) 1 4 Try.underlying22 hi hz0 hz1 hz2 rfl (by omega) (.slice A1 2 c1) 2 ([v, r1].map fl) (by rfl) hoy2 ⟨H, 0, none⟩ 1 1 [fl r2] (by rfl) rfl (one_new hnew) (one_word r2) (by unfold maxLen; omega) (by omega) (by omega) ?_
          intro v' y2 ho2 hg2 _
          obtain ⟨A2, c2, rfl, hc21, hc22, hoy⟩ := own_more (cs' := [v, r1, r2]) (m := 3) ho2 rfl rfl
          have hey := Ext.grown hey2 hg2 (fun g hg => (hrow g hg).1)
          clear ho2 hg2 hoy2 hrow hnew hsy hsy0 hey2
          have hpb2 := cell_ext pb hey
          go_wp2_with (at_builtin; refine app_here _ _ _ _ rfl ?_)
          have hid0 := (Lib.hid : ∀ {p : Prop}, p → Hid p)
          refine hid0 ?_
          clear hid0
          generalize hq : flR BinOp.add _ b M = r9
          have hr9 : Is r9 (fop .add b M) := by rw [← hq]; exact flR_is _ _ _ _
          clear hq
          refine wl_at (X := fun w' => Ext wr w' ∧ OwnF w' wr.heap.size 23 (.slice A2 3 c2) [v, r1, r2] ∧ w'.cell? ⟨y2.heap.size, 0, none⟩ = some (fl r9)) ⟨?_, ?_, ?_⟩ ?_
          · repeat (first | with_reducible exact hey | (with_reducible refine Ext.drewN ?_ _) | (with_reducible refine Ext.alloc ?_ _))
          · exact hoy.ext (by repeat (first | with_reducible exact Ext.refl y2 | (with_reducible refine Ext.drewN ?_ _) | (with_reducible refine Ext.alloc ?_ _)))
          · first | exact cell_freshB _ _ _ _ | exact cell_freshA _ _ _
          rintro z0 ⟨hez, hoz, hcz⟩
          have hsz := hez.size
          have hzl := lt_of_cell hcz
          have hrow := hoz.row
          clear hoy hpb2
          refine wpList_append_own _ rfl _ _ _ rfl (wr.heap.size) 23 i0 (.float .f32 0) 1 4 Try.underlying22 hi hz0 hz1 hz2 rfl (by omega) (.slice A2 3 c2) 3 ([v, r1, r2].map fl) (by rfl) hoz ⟨y2.heap.size, 0, none⟩ 1 1 [fl r9] (by rfl) rfl (one_new hcz) (one_word r9) (by unfold maxLen; omega) (by omega) (by omega) ?_
          intro v' z1 ho2 hg2 _
          obtain ⟨A9, c9, rfl, hc91, hc92, ho9⟩ := own_more (cs' := [v, r1, r2, r9]) (m := 4) ho2 rfl rfl
          have hez1 := Ext.grown hez hg2 (fun g hg => (hrow g hg).1)
          clear ho2 hg2 hoz hrow hcz hez hsz hzl
          obtain ⟨x, hx⟩ : ∃ x, lstL [v, r1, r2, r9] = x := ⟨_, rfl⟩
          have hxJ : nrm x = J k := by
            rw [hJk, ← hx, lstL_nrm]
            simp only [List.map_cons, List.map_nil, hr1.2, hr2.2, hr9.2]
            rw [if_pos hlo, if_pos hhi]
            rfl
          have hxw : x < 4294967296 := by rw [← hx]; exact lstL_lt (words_app (words_app (words_app (words_1 hwv) hr1.1) hr2.1) hr9.1)
          have HCALL := Lib.hid (HLC.out A9 4 c9 [v, r1, r2, r9] z1 _ ho9 (by omega) (by omega) hc91 hc92)
          rw [hx] at HCALL
          have HXJ := Lib.hid hxJ
          clear hxJ hx hJk ho9
          clear hr1 hr2 hr9
          go_wp2_with (first | (go_at_call 72; refine HCALL.out.mono ?_; rintro e w' ⟨rfl, rfl⟩) | (at_builtin; refine app_here _ _ _ _ rfl ?_))
          refine Lib.hid ?_
          refine wl_at (X := fun w' => Ext wr w' ∧ w'.cell? ⟨z1.heap.size, 0, none⟩ = some (fl x)) ⟨by repeat (first | with_reducible exact hez1 | (with_reducible refine Ext.alloc ?_ _)), cell_freshA _ _ _⟩ ?_
          rintro z2 ⟨hez2, hcz⟩
          have hsz := hez2.size
          have hbl := HBL.out
          have hown2 := hown.ext hez2
          have hrow := hown2.row
          refine wpList_append_own _ rfl _ _ _ rfl (U.heap.size + 1) 23 i0 (.float .f32 0) 1 4 Try.underlying22 hi hz0 hz1 hz2 rfl (by omega) (.slice A' bb.length c') bb.length (bb.map fl) (by rfl) hown2 ⟨z1.heap.size, 0, none⟩ 1 1 [fl x] (by rfl) rfl (one_new hcz) (one_word x) (by unfold maxLen; omega) (by omega) (by omega) ?_
          intro v' z3 ho2 hg2 _
          obtain ⟨A8, c8, rfl, hc81, hc82, ho8⟩ := own_more (cs' := bb ++ [x]) (m := (bb ++ [x]).length) ho2 rfl rfl
          have hp3 := (hp.ext hez2).grown hg2 (row_box hrow _ (by omega))
          have hE3 := Ext.grown (hE.trans hez2) hg2 (fun g hg => by have := hrow g hg; omega)
          have hbw3 := words_app hbw hxw
          have hlike3 : (bb ++ [x]).map nrm = (List.range (k + 1)).map J := by rw [List.map_append, hlike, List.range_succ, List.map_append]; simp [HXJ.out]
          clear hbl ho2 hg2 hown hown2 hrow hcz hez1 hez2 hsz HCALL hp pa pb hE hcv hbw hlike hwv hxw HXJ
          go_wp2
          go_roundw
          case rel => exact ⟨k + 1, A8, c8, bb ++ [x], by omega, by have h9 := HKP.out; first | go_num | (congr 1; omega) | (simp only [hw2]; congr 1; omega) | (simp; omega), by simp, ho8, hlike3, hbw3, hp3, hE3⟩
          case measure => have h9 := HKP.out; simp [intOf]; omega
        · have hw2 : IntKind.i64.wrap ((k : Int) + 1) = (k : Int) + 1 := wrap_small _ (by omega) (by omega)
          have hge : ¬ ((k : Int) + 1 < (n : Int)) := by omega
          go_wp2_with fail
          refine wp_at (X := fun w' => Ext wr w' ∧ OwnF w' wr.heap.size 23 (.slice (some ⟨wr.heap.size, 0, none⟩) 1 1) [v]) ⟨(Ext.refl _).alloc _, own_one _ _ _ _ (Nat.le_refl _)⟩ ?_
          rintro y0 ⟨hey, hoy⟩
          have hpa1 := cell_ext pa hey
          have hcell1 := cell_ext hclo hey
          refine region_wx 10 [] (by kernel_rfl) (by kernel_rfl) ?_
          simp only [List.take_succ_cons, List.take_zero, List.drop_succ_cons, List.drop_zero]
          repeat ((first | refine wx_skip rfl ?_ | refine wx_nilCheck rfl rfl _ rfl _ rfl ?_ | (refine wx_float rfl rfl _ _ _ _ _ _ _ rfl rfl rfl rfl ?_; intro r hr) | (refine wx_k rfl rfl rfl (fun K hK => ?_); go_big_quiet_op; refine hK _ ?_; clear hK K) | (refine wx_bs rfl rfl _ _ _ rfl _ rfl (fun Z => bs1 _ Z) ?_; intro H V2 hV2 hcell0)); (try simp only [Act.put, List.setIfInBounds_toArray, List.set_cons_zero, List.set_cons_succ]); (try simp only [List.tail_nil]))
          refine wx_nil (fun W hW hF => ?_)
          have hVW : Ext V2 W := hF 9
          have hnew := cell_ext hcell0 hVW
          have hoy2 := hoy.ext hW
          have hrow := hoy2.row
          have hsy := hW.size
          have hsy0 := hey.size
          have hey2 := hey.trans hW
          clear hF hVW hcell0 hV2 hpa1 hcell1 hW hoy hey
          have hr1 := hr
          clear hr
          obtain ⟨r1, hrr⟩ : ∃ q, q = r := ⟨_, rfl⟩
          rw [← hrr] at hr1 hnew ⊢
          clear hrr
          refine wpList_append_own _ rfl _ _ _ rfl (wr.heap.size) 23 i0 (.float .f32 0) 1 4 Try.underlying22 hi hz0 hz1 hz2 rfl (by omega) (.slice (some ⟨wr.heap.size, 0, none⟩) 1 1) 1 ([v].map fl) (by rfl) hoy2 ⟨H, 0, none⟩ 1 1 [fl r1] (by rfl) rfl (one_new hnew) (one_word r1) (by unfold maxLen; omega) (by omega) (by omega) ?_
          intro v' y1 ho2 hg2 _
          obtain ⟨A1, c1, rfl, hc11, hc12, hoy⟩ := own_more (cs' := [v, r1]) (m := 2) ho2 rfl rfl
          have hey := Ext.grown hey2 hg2 (fun g hg => (hrow g hg).1)
          clear ho2 hg2 hoy2 hrow hnew hsy hsy0 hey2
          have hpb2 := cell_ext pb hey
          go_wp2_with (at_builtin; refine app_here _ _ _ _ rfl ?_)
          have hid0 := (Lib.hid : ∀ {p : Prop}, p → Hid p)
          refine hid0 ?_
          clear hid0
          generalize hq : flR BinOp.add _ b M = r9
          have hr9 : Is r9 (fop .add b M) := by rw [← hq]; exact flR_is _ _ _ _
          clear hq
          refine wl_at (X := fun w' => Ext wr w' ∧ OwnF w' wr.heap.size 23 (.slice A1 2 c1) [v, r1] ∧ w'.cell? ⟨y1.heap.size, 0, none⟩ = some (fl r9)) ⟨?_, ?_, ?_⟩ ?_
          · repeat (first | with_reducible exact hey | (with_reducible refine Ext.drewN ?_ _) | (with_reducible refine Ext.alloc ?_ _))
          · exact hoy.ext (by repeat (first | with_reducible exact Ext.refl y1 | (with_reducible refine Ext.drewN ?_ _) | (with_reducible refine Ext.alloc ?_ _)))
          · first | exact cell_freshB _ _ _ _ | exact cell_freshA _ _ _
          rintro z0 ⟨hez, hoz, hcz⟩
          have hsz := hez.size
          have hzl := lt_of_cell hcz
          have hrow := hoz.row
          clear hoy hpb2
          refine wpList_append_own _ rfl _ _ _ rfl (wr.heap.size) 23 i0 (.float .f32 0) 1 4 Try.underlying22 hi hz0 hz1 hz2 rfl (by omega) (.slice A1 2 c1) 2 ([v, r1].map fl) (by rfl) hoz ⟨y1.heap.size, 0, none⟩ 1 1 [fl r9] (by rfl) rfl (one_new hcz) (one_word r9) (by unfold maxLen; omega) (by omega) (by omega) ?_
          intro v' z1 ho2 hg2 _
          obtain ⟨A9, c9, rfl, hc91, hc92, ho9⟩ := own_more (cs' := [v, r1, r9]) (m := 3) ho2 rfl rfl
          have hez1 := Ext.grown hez hg2 (fun g hg => (hrow g hg).1)
          clear ho2 hg2 hoz hrow hcz hez hsz hzl
          obtain ⟨x, hx⟩ : ∃ x, lstL [v, r1, r9] = x := ⟨_, rfl⟩
          have hxJ : nrm x = J k := by
            rw [hJk, ← hx, lstL_nrm]
            simp only [List.map_cons, List.map_nil, hr1.2, hr9.2]
            rw [if_pos hlo, if_neg hhi]
            rfl
          have hxw : x < 4294967296 := by rw [← hx]; exact lstL_lt (words_app (words_app (words_1 hwv) hr1.1) hr9.1)
          have HCALL := Lib.hid (HLC.out A9 3 c9 [v, r1, r9] z1 _ ho9 (by omega) (by omega) hc91 hc92)
          rw [hx] at HCALL
          have HXJ := Lib.hid hxJ
          clear hxJ hx hJk ho9
          clear hr1 hr9
          go_wp2_with (first | (go_at_call 72; refine HCALL.out.mono ?_; rintro e w' ⟨rfl, rfl⟩) | (at_builtin; refine app_here _ _ _ _ rfl ?_))
          refine Lib.hid ?_
          refine wl_at (X := fun w' => Ext wr w' ∧ w'.cell? ⟨z1.heap.size, 0, none⟩ = some (fl x)) ⟨by repeat (first | with_reducible exact hez1 | (with_reducible refine Ext.alloc ?_ _)), cell_freshA _ _ _⟩ ?_
          rintro z2 ⟨hez2, hcz⟩
          have hsz := hez2.size
          have hbl := HBL.out
          have hown2 := hown.ext hez2
          have hrow := hown2.row
          refine wpList_append_own _ rfl _ _ _ rfl (U.heap.size + 1) 23 i0 (.float .f32 0) 1 4 Try.underlying22 hi hz0 hz1 hz2 rfl (by omega) (.slice A' bb.length c') bb.length (bb.map fl) (by rfl) hown2 ⟨z1.heap.size, 0, none⟩ 1 1 [fl x] (by rfl) rfl (one_new hcz) (one_word x) (by unfold maxLen; omega) (by omega) (by omega) ?_
          intro v' z3 ho2 hg2 _
          obtain ⟨A8, c8, rfl, hc81, hc82, ho8⟩ := own_more (cs' := bb ++ [x]) (m := (bb ++ [x]).length) ho2 rfl rfl
          have hp3 := (hp.ext hez2).grown hg2 (row_box hrow _ (by omega))
          have hE3 := Ext.grown (hE.trans hez2) hg2 (fun g hg => by have := hrow g hg; omega)
          have hbw3 := words_app hbw hxw
          have hlike3 : (bb ++ [x]).map nrm = (List.range (k + 1)).map J := by rw [List.map_append, hlike, List.range_succ, List.map_append]; simp [HXJ.out]
          clear hbl ho2 hg2 hown hown2 hrow hcz hez1 hez2 hsz HCALL hp pa pb hE hcv hbw hlike hwv hxw HXJ
          go_wp2
          go_roundw
          case rel => exact ⟨k + 1, A8, c8, bb ++ [x], by omega, by first | go_num | (congr 1; omega) | (simp only [hw2]; congr 1; omega) | (simp; omega), by simp, ho8, hlike3, hbw3, hp3, hE3⟩
          case measure => simp [intOf]; omega
      · have hle0 : ¬ ((0 : Int) < (k : Int)) := by omega
        by_cases hhi : k + 1 < n
        · obtain ⟨kp, hkp⟩ : ∃ kp, k + 1 = kp := ⟨_, rfl⟩
          rw [hkp] at hJk hhi
          have hchi := cell_ext (HL.out kp (by omega)) hE
          have hwh := HWD.out kp
          generalize bs.getD kp 0 = vh at hchi hJk hwh
          have hw2 : IntKind.i64.wrap ((k : Int) + 1) = (kp : Int) := by rw [show (k : Int) + 1 = (kp : Int) by omega]; exact wrap_small _ (by omega) (by omega)
          have bh0 : (0 : Int) ≤ (kp : Int) := by omega
          have bh1 : (kp : Int) < (n : Int) := by omega
          have HKP := Lib.hid hkp
          clear hkp
          go_wp2_with fail
          refine wp_at (X := fun w' => Ext wr w' ∧ OwnF w' wr.heap.size 23 (.slice (some ⟨wr.heap.size, 0, none⟩) 1 1) [v]) ⟨(Ext.refl _).alloc _, own_one _ _ _ _ (Nat.le_refl _)⟩ ?_
          rintro y0 ⟨hey, hoy⟩
          have hpa1 := cell_ext pa hey
          have hcell1 := cell_ext hchi hey
          refine region_wx 10 [] (by kernel_rfl) (by kernel_rfl) ?_
          simp only [List.take_succ_cons, List.take_zero, List.drop_succ_cons, List.drop_zero]
          repeat ((first | refine wx_skip rfl ?_ | refine wx_nilCheck rfl rfl _ rfl _ rfl ?_ | (refine wx_float rfl rfl _ _ _ _ _ _ _ rfl rfl rfl rfl ?_; intro r hr) | (refine wx_k rfl rfl rfl (fun K hK => ?_); go_big_quiet_op; refine hK _ ?_; clear hK K) | (refine wx_bs rfl rfl _ _ _ rfl _ rfl (fun Z => bs1 _ Z) ?_; intro H V2 hV2 hcell0)); (try simp only [Act.put, List.setIfInBounds_toArray, List.set_cons_zero, List.set_cons_succ]); (try simp only [List.tail_nil]))
          refine wx_nil (fun W hW hF => ?_)
          have hVW : Ext V2 W := hF 9
          have hnew := cell_ext hcell0 hVW
          have hoy2 := hoy.ext hW
          have hrow := hoy2.row
          have hsy := hW.size
          have hsy0 := hey.size
          have hey2 := hey.trans hW
          clear hF hVW hcell0 hV2 hpa1 hcell1 hW hoy hey
          have hr1 := hr
          clear hr
          obtain ⟨r1, hrr⟩ : ∃ q, q = r := ⟨_, rfl⟩
          rw [← hrr] at hr1 hnew ⊢
          clear hrr
          refine wpList_append_own _ rfl _ _ _ rfl (wr.heap.size) 23 i0 (.float .f32 0) 1 4 Try.underlying22 hi hz0 hz1 hz2 rfl (by omega) (.slice (some ⟨wr.heap.size, 0, none⟩) 1 1) 1 ([v].map fl) (by rfl) hoy2 ⟨H, 0, none⟩ 1 1 [fl r1] (by rfl) rfl (one_new hnew) (one_word r1) (by unfold maxLen; omega) (by omega) (by omega) ?_
          intro v' y1 ho2 hg2 _
          obtain ⟨A1, c1, rfl, hc11, hc12, hoy⟩ := own_more (cs' := [v, r1]) (m := 2) ho2 rfl rfl
          have hey := Ext.grown hey2 hg2 (fun g hg => (hrow g hg).1)
          clear ho2 hg2 hoy2 hrow hnew hsy hsy0 hey2
          have hpb2 := cell_ext pb hey
          go_wp2_with (at_builtin; refine app_here _ _ _ _ rfl ?_)
          have hid0 := (Lib.hid : ∀ {p : Prop}, p → Hid p)
          refine hid0 ?_
          clear hid0
          generalize hq : flR BinOp.add _ b M = r9
          have hr9 : Is r9 (fop .add b M) := by rw [← hq]; exact flR_is _ _ _ _
          clear hq
          refine wl_at (X := fun w' => Ext wr w' ∧ OwnF w' wr.heap.size 23 (.slice A1 2 c1) [v, r1] ∧ w'.cell? ⟨y1.heap.size, 0, none⟩ = some (fl r9)) ⟨?_, ?_, ?_⟩ ?_
          · repeat (first | with_reducible exact hey | (with_reducible refine Ext.drewN ?_ _) | (with_reducible refine Ext.alloc ?_ _))
          · exact hoy.ext (by repeat (first | with_reducible exact Ext.refl y1 | (with_reducible refine Ext.drewN ?_ _) | (with_reducible refine Ext.alloc ?_ _)))
          · first | exact cell_freshB _ _ _ _ | exact cell_freshA _ _ _
          rintro z0 ⟨hez, hoz, hcz⟩
          have hsz := hez.size
          have hzl := lt_of_cell hcz
          have hrow := hoz.row
          clear hoy hpb2
          refine wpList_append_own _ rfl _ _ _ rfl (wr.heap.size) 23 i0 (.float .f32 0) 1 4 Try.underlying22 hi hz0 hz1 hz2 rfl (by omega) (.slice A1 2 c1) 2 ([v, r1].map fl) (by rfl) hoz ⟨y1.heap.size, 0, none⟩ 1 1 [fl r9] (by rfl) rfl (one_new hcz) (one_word r9) (by unfold maxLen; omega) (by omega) (by omega) ?_
          intro v' z1 ho2 hg2 _
          obtain ⟨A9, c9, rfl, hc91, hc92, ho9⟩ := own_more (cs' := [v, r1, r9]) (m := 3) ho2 rfl rfl
          have hez1 := Ext.grown hez hg2 (fun g hg => (hrow g hg).1)
          clear ho2 hg2 hoz hrow hcz hez hsz hzl
          obtain ⟨x, hx⟩ : ∃ x, lstL [v, r1, r9] = x := ⟨_, rfl⟩
          have hxJ : nrm x = J k := by
            rw [hJk, ← hx, lstL_nrm]
            simp only [List.map_cons, List.map_nil, hr1.2, hr9.2]
            rw [if_neg hlo, if_pos hhi]
            rfl
          have hxw : x < 4294967296 := by rw [← hx]; exact lstL_lt (words_app (words_app (words_1 hwv) hr1.1) hr9.1)
          have HCALL := Lib.hid (HLC.out A9 3 c9 [v, r1, r9] z1 _ ho9 (by omega) (by omega) hc91 hc92)
          rw [hx] at HCALL
          have HXJ := Lib.hid hxJ
          clear hxJ hx hJk ho9
          clear hr1 hr9
          go_wp2_with (first | (go_at_call 72; refine HCALL.out.mono ?_; rintro e w' ⟨rfl, rfl⟩) | (at_builtin; refine app_here _ _ _ _ rfl ?_))
          refine Lib.hid ?_
          refine wl_at (X := fun w' => Ext wr w' ∧ w'.cell? ⟨z1.heap.size, 0, none⟩ = some (fl x)) ⟨by repeat (first | with_reducible exact hez1 | (with_reducible refine Ext.alloc ?_ _)), cell_freshA _ _ _⟩ ?_
          rintro z2 ⟨hez2, hcz⟩
          have hsz := hez2.size
          have hbl := HBL.out
          have hown2 := hown.ext hez2
          have hrow := hown2.row
          refine wpList_append_own _ rfl _ _ _ rfl (U.heap.size + 1) 23 i0 (.float .f32 0) 1 4 Try.underlying22 hi hz0 hz1 hz2 rfl (by omega) (.slice A' bb.length c') bb.length (bb.map fl) (by rfl) hown2 ⟨z1.heap.size, 0, none⟩ 1 1 [fl x] (by rfl) rfl (one_new hcz) (one_word x) (by unfold maxLen; omega) (by omega) (by omega) ?_
          intro v' z3 ho2 hg2 _
          obtain ⟨A8, c8, rfl, hc81, hc82, ho8⟩ := own_more (cs' := bb ++ [x]) (m := (bb ++ [x]).length) ho2 rfl rfl
          have hp3 := (hp.ext hez2).grown hg2 (row_box hrow _ (by omega))
          have hE3 := Ext.grown (hE.trans hez2) hg2 (fun g hg => by have := hrow g hg; omega)
          have hbw3 := words_app hbw hxw
          have hlike3 : (bb ++ [x]).map nrm = (List.range (k + 1)).map J := by rw [List.map_append, hlike, List.range_succ, List.map_append]; simp [HXJ.out]
          clear hbl ho2 hg2 hown hown2 hrow hcz hez1 hez2 hsz HCALL hp pa pb hE hcv hbw hlike hwv hxw HXJ
          go_wp2
          go_roundw
          case rel => exact ⟨k + 1, A8, c8, bb ++ [x], by omega, by have h9 := HKP.out; first | go_num | (congr 1; omega) | (simp only [hw2]; congr 1; omega) | (simp; omega), by simp, ho8, hlike3, hbw3, hp3, hE3⟩
          case measure => have h9 := HKP.out; simp [intOf]; omega
        · have hw2 : IntKind.i64.wrap ((k : Int) + 1) = (k : Int) + 1 := wrap_small _ (by omega) (by omega)
          have hge : ¬ ((k : Int) + 1 < (n : Int)) := by omega
          go_wp2_with (at_builtin; refine app_here _ _ _ _ rfl ?_)
          have hid0 := (Lib.hid : ∀ {p : Prop}, p → Hid p)
          refine hid0 ?_
          clear hid0
          generalize hq : flR BinOp.add _ b M = r9
          have hr9 : Is r9 (fop .add b M) := by rw [← hq]; exact flR_is _ _ _ _
          clear hq
          refine wl_at (X := fun w' => Ext wr w' ∧ OwnF w' wr.heap.size 23 (.slice (some ⟨wr.heap.size, 0, none⟩) 1 1) [v] ∧ w'.cell? ⟨wr.heap.size + 1, 0, none⟩ = some (fl r9)) ⟨?_, ?_, ?_⟩ ?_
          · repeat (first | with_reducible exact Ext.refl _ | (with_reducible refine Ext.drewN ?_ _) | (with_reducible refine Ext.alloc ?_ _))
          · exact (own_one wr wr.heap.size _ v (Nat.le_refl _)).ext (by repeat (first | with_reducible exact Ext.refl _ | (with_reducible refine Ext.drewN ?_ _) | (with_reducible refine Ext.alloc ?_ _)))
          · first | (simp [go_sem]; done) | exact cell_freshB (wr.alloc _) _ _ _
          rintro z0 ⟨hez, hoz, hcz⟩
          have hsz := hez.size
          have hzl := lt_of_cell hcz
          have hrow := hoz.row
          refine wpList_append_own _ rfl _ _ _ rfl (wr.heap.size) 23 i0 (.float .f32 0) 1 4 Try.underlying22 hi hz0 hz1 hz2 rfl (by omega) (.slice (some ⟨wr.heap.size, 0, none⟩) 1 1) 1 ([v].map fl) (by rfl) hoz ⟨wr.heap.size + 1, 0, none⟩ 1 1 [fl r9] (by rfl) rfl (one_new hcz) (one_word r9) (by unfold maxLen; omega) (by omega) (by omega) ?_
          intro v' z1 ho2 hg2 _
          obtain ⟨A9, c9, rfl, hc91, hc92, ho9⟩ := own_more (cs' := [v, r9]) (m := 2) ho2 rfl rfl
          have hez1 := Ext.grown hez hg2 (fun g hg => (hrow g hg).1)
          clear ho2 hg2 hoz hrow hcz hez hsz hzl
          obtain ⟨x, hx⟩ : ∃ x, lstL [v, r9] = x := ⟨_, rfl⟩
          have hxJ : nrm x = J k := by
            rw [hJk, ← hx, lstL_nrm]
            simp only [List.map_cons, List.map_nil, hr9.2]
            rw [if_neg hlo, if_neg hhi]
            rfl
          have hxw : x < 4294967296 := by rw [← hx]; exact lstL_lt (words_app (words_1 hwv) hr9.1)
          have HCALL := Lib.hid (HLC.out A9 2 c9 [v, r9] z1 _ ho9 (by omega) (by omega) hc91 hc92)
          rw [hx] at HCALL
          have HXJ := Lib.hid hxJ
          clear hxJ hx hJk ho9
          clear hr9
          go_wp2_with (first | (go_at_call 72; refine HCALL.out.mono ?_; rintro e w' ⟨rfl, rfl⟩) | (at_builtin; refine app_here _ _ _ _ rfl ?_))
          refine Lib.hid ?_
          refine wl_at (X := fun w' => Ext wr w' ∧ w'.cell? ⟨z1.heap.size, 0, none⟩ = some (fl x)) ⟨by repeat (first | with_reducible exact hez1 | (with_reducible refine Ext.alloc ?_ _)), cell_freshA _ _ _⟩ ?_
          rintro z2 ⟨hez2, hcz⟩
          have hsz := hez2.size
          have hbl := HBL.out
          have hown2 := hown.ext hez2
          have hrow := hown2.row
          refine wpList_append_own _ rfl _ _ _ rfl (U.heap.size + 1) 23 i0 (.float .f32 0) 1 4 Try.underlying22 hi hz0 hz1 hz2 rfl (by omega) (.slice A' bb.length c') bb.length (bb.map fl) (by rfl) hown2 ⟨z1.heap.size, 0, none⟩ 1 1 [fl x] (by rfl) rfl (one_new hcz) (one_word x) (by unfold maxLen; omega) (by omega) (by omega) ?_
          intro v' z3 ho2 hg2 _
          obtain ⟨A8, c8, rfl, hc81, hc82, ho8⟩ := own_more (cs' := bb ++ [x]) (m := (bb ++ [x]).length) ho2 rfl rfl
          have hp3 := (hp.ext hez2).grown hg2 (row_box hrow _ (by omega))
          have hE3 := Ext.grown (hE.trans hez2) hg2 (fun g hg => by have := hrow g hg; omega)
          have hbw3 := words_app hbw hxw
          have hlike3 : (bb ++ [x]).map nrm = (List.range (k + 1)).map J := by rw [List.map_append, hlike, List.range_succ, List.map_append]; simp [HXJ.out]
          clear hbl ho2 hg2 hown hown2 hrow hcz hez1 hez2 hsz HCALL hp pa pb hE hcv hbw hlike hwv hxw HXJ
          go_wp2
          go_roundw
          case rel => exact ⟨k + 1, A8, c8, bb ++ [x], by omega, by first | go_num | (congr 1; omega) | (simp only [hw2]; congr 1; omega) | (simp; omega), by simp, ho8, hlike3, hbw3, hp3, hE3⟩
          case measure => simp [intOf]; omega
    · have e1 : k = n := by omega
      subst e1
      go_wp2
      go_ret
      exact ⟨A', c', bb, rfl, hown.weaken (by omega), hlike, hbw, hE⟩
set_option maxHeartbeats 8000000 in
set_option maxRecDepth 8000 in
theorem l04Jumps_any (A : Option Addr) (n c : Nat) (bs : List Nat) (a b : Nat) (U : World) (gp : Nat) (hP : Box2 U gp (fl a) (fl b)) (hr : Reads U A n bs) (hwd : Words bs) (ha : a < 4294967296) (hb : b < 4294967296) (h1 : 1 ≤ n) (h8 : n ≤ 8) (hnc : n ≤ c) (hcm : c ≤ maxLen) :
    Calls Try.prog 41 #[.slice A n c, .pointer (some ⟨gp, 0, none⟩)] U fun e U' => ∃ A' c' b', e = .returned (.slice A' b'.length c') ∧ OwnF U' U.heap.size 23 (.slice A' b'.length c') b' ∧ b'.map nrm = jumpL (bs.map nrm) (nrm a) (nrm b) ∧ Words b' ∧ Ext U U' := by
  obtain ⟨i0, hi, hz0, hz1, hz2⟩ := info_parts infoF
  obtain ⟨gb, off, rfl, hl⟩ := hr.2 (by omega)
  have hlen := hr.1
  have hPL := hP.lt
  have HLST := Lib.hid (fun (W : World) (hW : Ext U W) => l04Least_any (some ⟨gb, off, none⟩) n c bs W (hr.ext hW) h1 (by omega) hnc hcm)
  have HLC := Lib.hid (fun (A : Option Addr) (m c : Nat) (cs : List Nat) (W : World) (B : Nat) (ho : OwnF W B 23 (.slice A m c) cs) (hm : 1 ≤ m) (hm4 : m ≤ 16) (hmc : m ≤ c) (hc : c ≤ maxLen) => l04Least_any A m c cs W ho.reads hm hm4 hmc hc)
  obtain ⟨M, hM⟩ : ∃ M, lstL bs = M := ⟨_, rfl⟩
  rw [hM] at HLST
  have hMl : M < 4294967296 := by rw [← hM]; exact lstL_lt hwd
  have HM := Lib.hid (show nrm M = lstL (bs.map nrm) by rw [← hM]; exact lstL_nrm bs)
  obtain ⟨J, hJ⟩ : ∃ J : Nat → Nat, J = jumpAt (bs.map nrm) (nrm a) (nrm b) := ⟨_, rfl⟩
  have HJ := Lib.hid (fun d => (congrFun hJ d : J d = jumpAt (bs.map nrm) (nrm a) (nrm b) d))
  have hJL : jumpL (bs.map nrm) (nrm a) (nrm b) = (List.range n).map J := by unfold jumpL; rw [List.length_map, hlen, hJ]
  rw [hJL]
  have HL := Lib.hid (fun i (hi : i < n) => (hl i (by omega) : U.cell? ⟨gb, off + i, none⟩ = some (fl (bs.getD i 0))))
  have HWD := Lib.hid (fun i => wd_at' hwd i)
  have HLEN := Lib.hid hlen
  unfold maxLen at hcm
  clear hl hr hwd hlen hM hJ hJL
  go_enter Try.func41, Try.ntmps41
  go_wp2_with fail
  refine (HLST.out U (Ext.refl _)).mono ?_
  rintro e w1 ⟨rfl, rfl⟩
  go_wp2_with fail
  go_loopw [6, 7] (fun ov iv wr => ∃ (k : Nat) (A' : Option Addr) (c' : Nat) (bb : List Nat), k ≤ n ∧ iv = .int .i64 k ∧ ov = .slice A' bb.length c' ∧ OwnF wr (U.heap.size) 23 (.slice A' bb.length c') bb ∧ bb.map nrm = (List.range k).map J ∧ Words bb ∧ Box2 wr gp (fl a) (fl b) ∧ Ext U wr) (fun _ iv _ => n - (intOf iv).toNat)
  case atStart =>
    refine ⟨0, some ⟨U.heap.size, 0, none⟩, 0, [], Nat.zero_le _, rfl, rfl, ?_, rfl, (fun b hb => by cases hb), hP.ext ((Ext.refl _).alloc _), (Ext.refl _).alloc _⟩
    have h := World.ownsRow_made (size := 1) (base := U.heap.size) (e := 23) U #[] 0 (Nat.le_refl _) (by unfold maxLen; omega) rfl
    simpa [OwnF] using h
  case round =>
    obtain ⟨k, A', c', bb, hk, rfl, rfl, hown, hlike, hbw, hp, hE⟩ := hrel
    have HBL : Hid (bb.length = k) := Lib.hid (by have := congrArg List.length hlike; simpa using this)
    by_cases hlt : k < n
    · have hcv := cell_ext (HL.out k hlt) hE
      have hwv := HWD.out k
      have hJk := HJ.out k
      unfold jumpAt at hJk
      rw [List.length_map, HLEN.out, getD_map_nrm, getD_map_nrm, getD_map_nrm, fop_nn, fop_nn, ← HM.out, fop_nn] at hJk
      obtain ⟨v, hv⟩ : ∃ v, bs.getD k 0 = v := ⟨_, rfl⟩
      rw [hv] at hcv hwv hJk
      have b0 : (0 : Int) ≤ (k : Int) := by omega
      have b1 : (k : Int) < (n : Int) := by omega
      have ⟨pa, pb⟩ := hp
      have hpl := hp.lt
      have hus := hE.size
      by_cases hlo : 0 < k
      · obtain ⟨km, hkm⟩ : ∃ km, k = km + 1 := ⟨k - 1, by omega⟩
        have hclo := cell_ext (HL.out km (by omega)) hE
        rw [show k - 1 = km by omega] at hJk
        have hwl := HWD.out km
        generalize bs.getD km 0 = vl at hclo hJk hwl
        have hgt : (k : Int) > 0 := by omega
        have hgt2 : (0 : Int) < (k : Int) := by omega
        have hw1 : IntKind.i64.wrap ((k : Int) - 1) = (km : Int) := by rw [show (k : Int) - 1 = (km : Int) by omega]; exact wrap_small _ (by omega) (by omega)
        have bl0 : (0 : Int) ≤ (km : Int) := by omega
        have bl1 : (km : Int) < (n : Int) := by omega
        have HKM := Lib.hid hkm
        clear hkm
        by_cases hhi : k + 1 < n
        · obtain ⟨kp, hkp⟩ : ∃ kp, k + 1 = kp := ⟨_, rfl⟩
          rw [hkp] at hJk hhi
          have hchi := cell_ext (HL.out kp (by omega)) hE
          have hwh := HWD.out kp
          generalize bs.getD kp 0 = vh at hchi hJk hwh
          have hw2 : IntKind.i64.wrap ((k : Int) + 1) = (kp : Int) := by rw [show (k : Int) + 1 = (kp : Int) by omega]; exact wrap_small _ (by omega) (by omega)
          have bh0 : (0 : Int) ≤ (kp : Int) := by omega
          have bh1 : (kp : Int) < (n : Int) := by omega
          have HKP := Lib.hid hkp
          clear hkp
          go_wp2_with fail
          refine wp_at (X := fun w' => Ext wr w' ∧ OwnF w' wr.heap.size 23 (.slice (some ⟨wr.heap.size, 0, none⟩) 1 1) [v]) ⟨(Ext.refl _).alloc _, own_one _ _ _ _ (Nat.le_refl _)⟩ ?_
          rintro y0 ⟨hey, hoy⟩
          have hpa1 := cell_ext pa hey
          have hcell1 := cell_ext hclo hey
          refine region_wx 12 [] (by kernel_rfl) (by kernel_rfl) ?_
          simp only [List.take_succ_cons, List.take_zero, List.drop_succ_cons, List.drop_zero]
          repeat ((first | refine wx_skip rfl ?_ | refine wx_nilCheck rfl rfl _ rfl _ rfl ?_ | (refine wx_float rfl rfl _ _ _ _ _ _ _ rfl rfl rfl rfl ?_; intro r hr) | (refine wx_k rfl rfl rfl (fun K hK => ?_); go_big_quiet_op; refine hK _ ?_; clear hK K) | (refine wx_bs rfl rfl _ _ _ rfl _ rfl (fun Z => bs1 _ Z) ?_; intro H V2 hV2 hcell0)); (try simp only [Act.put, List.setIfInBounds_toArray, List.set_cons_zero, List.set_cons_succ]); (try simp only [List.tail_nil]))
          refine wx_nil (fun W hW hF => ?_)
          have hVW : Ext V2 W := hF 11
          have hnew := cell_ext hcell0 hVW
          have hoy2 := hoy.ext hW
          have hrow := hoy2.row
          have hsy := hW.size
          have hsy0 := hey.size
          have hey2 := hey.trans hW
          clear hF hVW hcell0 hV2 hpa1 hcell1 hW hoy hey
          have hr1 := hr
          clear hr
          obtain ⟨r1, hrr⟩ : ∃ q, q = r := ⟨_, rfl⟩
          rw [← hrr] at hr1 hnew ⊢
          clear hrr
          refine wpList_append_own _ rfl _ _ _ rfl (wr.heap.size) 23 i0 (.float .f32 0) 1 4 Try.underlying22 hi hz0 hz1 hz2 rfl (by omega) (.slice (some ⟨wr.heap.size, 0, none⟩) 1 1) 1 ([v].map fl) (by rfl) hoy2 ⟨H, 0, none⟩ 1 1 [fl r1] (by rfl) rfl (one_new hnew) (one_word r1) (by unfold maxLen; omega) (by omega) (by omega) ?_
          intro v' y1 ho2 hg2 _
          obtain ⟨A1, c1, rfl, hc11, hc12, hoy⟩ := own_more (cs' := [v, r1]) (m := 2) ho2 rfl rfl
          have hey := Ext.grown hey2 hg2 (fun g hg => (hrow g hg).1)
          clear ho2 hg2 hoy2 hrow hnew hsy hsy0 hey2
          go_wp2_with fail
          have hpa2 := cell_ext pa hey
          have hcell2 := cell_ext hchi hey
          refine region_wx 12 [] (by kernel_rfl) (by kernel_rfl) ?_
          simp only [List.take_succ_cons, List.take_zero, List.drop_succ_cons, List.drop_zero]
          repeat ((first | refine wx_skip rfl ?_ | refine wx_nilCheck rfl rfl _ rfl _ rfl ?_ | (refine wx_float rfl rfl _ _ _ _ _ _ _ rfl rfl rfl rfl ?_; intro r hr) | (refine wx_k rfl rfl rfl (fun K hK => ?_); go_big_quiet_op; refine hK _ ?_; clear hK K) | (refine wx_bs rfl rfl _ _ _ rfl _ rfl (fun Z => bs1 _ Z) ?_; intro H V2 hV2 hcell0)); (try simp only [Act.put, List.setIfInBounds_toArray, List.set_cons_zero, List.set_cons_succ]); (try simp only [List.tail_nil]))
          refine wx_nil (fun W hW hF => ?_)
          have hVW : Ext V2 W := hF 11
          have hnew := cell_ext hcell0 hVW
          have hoy2 := hoy.ext hW
          have hrow := hoy2.row
          have hsy := hW.size
          have hsy0 := hey.size
          have hey2 := hey.trans hW
          clear hF hVW hcell0 hV2 hpa2 hcell2 hW hoy hey
          have hr2 := hr
          clear hr
          obtain ⟨r2, hrr⟩ : ∃ q, q = r := ⟨_, rfl⟩
          rw [← hrr] at hr2 hnew ⊢
          clear hrr
          refine wpList_append_own _ rfl _ _ _ rfl (wr.heap.size) 23 i0 (.float .f32 0) 1 4 Try.underlying22 hi hz0 hz1 hz2 rfl (by omega) (.slice A1 2 c1) 2 ([v, r1].map fl) (by rfl) hoy2 ⟨H, 0, none⟩ 1 1 [fl r2] (by rfl) rfl (one_new hnew) (one_word r2) (by unfold maxLen; omega) (by omega) (by omega) ?_
          intro v' y2 ho2 hg2 _
          obtain ⟨A2, c2, rfl, hc21, hc22, hoy⟩ := own_more (cs' := [v, r1, r2]) (m := 3) ho2 rfl rfl
          have hey := Ext.grown hey2 hg2 (fun g hg => (hrow g hg).1)
          clear ho2 hg2 hoy2 hrow hnew hsy hsy0 hey2
          have hpb2 := cell_ext pb hey
          go_wp2_with (at_builtin; refine app_here _ _ _ _ rfl ?_)
          have hid0 := (Lib.hid : ∀ {p : Prop}, p → Hid p)
          refine hid0 ?_
          clear hid0
          generalize hq : flR BinOp.add _ b M = r9
          have hr9 : Is r9 (fop .add b M) := by rw [← hq]; exact flR_is _ _ _ _
          clear hq
          refine wl_at (X := fun w' => Ext wr w' ∧ OwnF w' wr.heap.size 23 (.slice A2 3 c2) [v, r1, r2] ∧ w'.cell? ⟨y2.heap.size, 0, none⟩ = some (fl r9)) ⟨?_, ?_, ?_⟩ ?_
          · repeat (first | with_reducible exact hey | (with_reducible refine Ext.drewN ?_ _) | (with_reducible refine Ext.alloc ?_ _))
          · exact hoy.ext (by repeat (first | with_reducible exact Ext.refl y2 | (with_reducible refine Ext.drewN ?_ _) | (with_reducible refine Ext.alloc ?_ _)))
          · first | exact cell_freshB _ _ _ _ | exact cell_freshA _ _ _
          rintro z0 ⟨hez, hoz, hcz⟩
          have hsz := hez.size
          have hzl := lt_of_cell hcz
          have hrow := hoz.row
          clear hoy hpb2
          refine wpList_append_own _ rfl _ _ _ rfl (wr.heap.size) 23 i0 (.float .f32 0) 1 4 Try.underlying22 hi hz0 hz1 hz2 rfl (by omega) (.slice A2 3 c2) 3 ([v, r1, r2].map fl) (by rfl) hoz ⟨y2.heap.size, 0, none⟩ 1 1 [fl r9] (by rfl) rfl (one_new hcz) (one_word r9) (by unfold maxLen; omega) (by omega) (by omega) ?_
          intro v' z1 ho2 hg2 _
          obtain ⟨A9, c9, rfl, hc91, hc92, ho9⟩ := own_more (cs' := [v, r1, r2, r9]) (m := 4) ho2 rfl rfl
          have hez1 := Ext.grown hez hg2 (fun g hg => (hrow g hg).1)
          clear ho2 hg2 hoz hrow hcz hez hsz hzl
          obtain ⟨x, hx⟩ : ∃ x, lstL [v, r1, r2, r9] = x := ⟨_, rfl⟩
          have hxJ : nrm x = J k := by
            rw [hJk, ← hx, lstL_nrm]
            simp only [List.map_cons, List.map_nil, hr1.2, hr2.2, hr9.2]
            rw [if_pos hlo, if_pos hhi]
            rfl
          have hxw : x < 4294967296 := by rw [← hx]; exact lstL_lt (words_app (words_app (words_app (words_1 hwv) hr1.1) hr2.1) hr9.1)
          have HCALL := Lib.hid (HLC.out A9 4 c9 [v, r1, r2, r9] z1 _ ho9 (by omega) (by omega) hc91 hc92)
          rw [hx] at HCALL
          have HXJ := Lib.hid hxJ
          clear hxJ hx hJk ho9
          clear hr1 hr2 hr9
          go_wp2_with (first | (go_at_call 70; refine HCALL.out.mono ?_; rintro e w' ⟨rfl, rfl⟩) | (at_builtin; refine app_here _ _ _ _ rfl ?_))
          refine Lib.hid ?_
          refine wl_at (X := fun w' => Ext wr w' ∧ w'.cell? ⟨z1.heap.size, 0, none⟩ = some (fl x)) ⟨by repeat (first | with_reducible exact hez1 | (with_reducible refine Ext.alloc ?_ _)), cell_freshA _ _ _⟩ ?_
          rintro z2 ⟨hez2, hcz⟩
          have hsz := hez2.size
          have hbl := HBL.out
          have hown2 := hown.ext hez2
          have hrow := hown2.row
          refine wpList_append_own _ rfl _ _ _ rfl (U.heap.size) 23 i0 (.float .f32 0) 1 4 Try.underlying22 hi hz0 hz1 hz2 rfl (by omega) (.slice A' bb.length c') bb.length (bb.map fl) (by rfl) hown2 ⟨z1.heap.size, 0, none⟩ 1 1 [fl x] (by rfl) rfl (one_new hcz) (one_word x) (by unfold maxLen; omega) (by omega) (by omega) ?_
          intro v' z3 ho2 hg2 _
          obtain ⟨A8, c8, rfl, hc81, hc82, ho8⟩ := own_more (cs' := bb ++ [x]) (m := (bb ++ [x]).length) ho2 rfl rfl
          have hp3 := (hp.ext hez2).grown hg2 (row_box hrow _ (by have := hPL; omega))
          have hE3 := Ext.grown (hE.trans hez2) hg2 (fun g hg => by have := hrow g hg; omega)
          have hbw3 := words_app hbw hxw
          have hlike3 : (bb ++ [x]).map nrm = (List.range (k + 1)).map J := by rw [List.map_append, hlike, List.range_succ, List.map_append]; simp [HXJ.out]
          clear hbl ho2 hg2 hown hown2 hrow hcz hez1 hez2 hsz HCALL hp pa pb hE hcv hbw hlike hwv hxw HXJ
          go_wp2
          go_roundw
          case rel => exact ⟨k + 1, A8, c8, bb ++ [x], by omega, by have h9 := HKP.out; first | go_num | (congr 1; omega) | (simp only [hw2]; congr 1; omega) | (simp; omega), by simp, ho8, hlike3, hbw3, hp3, hE3⟩
          case measure => have h9 := HKP.out; simp [intOf]; omega
        · have hw2 : IntKind.i64.wrap ((k : Int) + 1) = (k : Int) + 1 := wrap_small _ (by omega) (by omega)
          have hge : ¬ ((k : Int) + 1 < (n : Int)) := by omega
          go_wp2_with fail
          refine wp_at (X := fun w' => Ext wr w' ∧ OwnF w' wr.heap.size 23 (.slice (some ⟨wr.heap.size, 0, none⟩) 1 1) [v]) ⟨(Ext.refl _).alloc _, own_one _ _ _ _ (Nat.le_refl _)⟩ ?_
          rintro y0 ⟨hey, hoy⟩
          have hpa1 := cell_ext pa hey
          have hcell1 := cell_ext hclo hey
          refine region_wx 12 [] (by kernel_rfl) (by kernel_rfl) ?_
          simp only [List.take_succ_cons, List.take_zero, List.drop_succ_cons, List.drop_zero]
          repeat ((first | refine wx_skip rfl ?_ | refine wx_nilCheck rfl rfl _ rfl _ rfl ?_ | (refine wx_float rfl rfl _ _ _ _ _ _ _ rfl rfl rfl rfl ?_; intro r hr) | (refine wx_k rfl rfl rfl (fun K hK => ?_); go_big_quiet_op; refine hK _ ?_; clear hK K) | (refine wx_bs rfl rfl _ _ _ rfl _ rfl (fun Z => bs1 _ Z) ?_; intro H V2 hV2 hcell0)); (try simp only [Act.put, List.setIfInBounds_toArray, List.set_cons_zero, List.set_cons_succ]); (try simp only [List.tail_nil]))
          refine wx_nil (fun W hW hF => ?_)
          have hVW : Ext V2 W := hF 11
          have hnew := cell_ext hcell0 hVW
          have hoy2 := hoy.ext hW
          have hrow := hoy2.row
          have hsy := hW.size
          have hsy0 := hey.size
          have hey2 := hey.trans hW
          clear hF hVW hcell0 hV2 hpa1 hcell1 hW hoy hey
          have hr1 := hr
          clear hr
          obtain ⟨r1, hrr⟩ : ∃ q, q = r := ⟨_, rfl⟩
          rw [← hrr] at hr1 hnew ⊢
          clear hrr
          refine wpList_append_own _ rfl _ _ _ rfl (wr.heap.size) 23 i0 (.float .f32 0) 1 4 Try.underlying22 hi hz0 hz1 hz2 rfl (by omega) (.slice (some ⟨wr.heap.size, 0, none⟩) 1 1) 1 ([v].map fl) (by rfl) hoy2 ⟨H, 0, none⟩ 1 1 [fl r1] (by rfl) rfl (one_new hnew) (one_word r1) (by unfold maxLen; omega) (by omega) (by omega) ?_
          intro v' y1 ho2 hg2 _
          obtain ⟨A1, c1, rfl, hc11, hc12, hoy⟩ := own_more (cs' := [v, r1]) (m := 2) ho2 rfl rfl
          have hey := Ext.grown hey2 hg2 (fun g hg => (hrow g hg).1)
          clear ho2 hg2 hoy2 hrow hnew hsy hsy0 hey2
          have hpb2 := cell_ext pb hey
          go_wp2_with (at_builtin; refine app_here _ _ _ _ rfl ?_)
          have hid0 := (Lib.hid : ∀ {p : Prop}, p → Hid p)
          refine hid0 ?_
          clear hid0
          generalize hq : flR BinOp.add _ b M = r9
          have hr9 : Is r9 (fop .add b M) := by rw [← hq]; exact flR_is _ _ _ _
          clear hq
          refine wl_at (X := fun w' => Ext wr w' ∧ OwnF w' wr.heap.size 23 (.slice A1 2 c1) [v, r1] ∧ w'.cell? ⟨y1.heap.size, 0, none⟩ = some (fl r9)) ⟨?_, ?_, ?_⟩ ?_
          · repeat (first | with_reducible exact hey | (with_reducible refine Ext.drewN ?_ _) | (with_reducible refine Ext.alloc ?_ _))
          · exact hoy.ext (by repeat (first | with_reducible exact Ext.refl y1 | (with_reducible refine Ext.drewN ?_ _) | (with_reducible refine Ext.alloc ?_ _)))
          · first | exact cell_freshB _ _ _ _ | exact cell_freshA _ _ _
          rintro z0 ⟨hez, hoz, hcz⟩
          have hsz := hez.size
          have hzl := lt_of_cell hcz
          have hrow := hoz.row
          clear hoy hpb2
          refine wpList_append_own _ rfl _ _ _ rfl (wr.heap.size) 23 i0 (.float .f32 0) 1 4 Try.underlying22 hi hz0 hz1 hz2 rfl (by omega) (.slice A1 2 c1) 2 ([v, r1].map fl) (by rfl) hoz ⟨y1.heap.size, 0, none⟩ 1 1 [fl r9] (by rfl) rfl (one_new hcz) (one_word r9) (by unfold maxLen; omega) (by omega) (by omega) ?_
          intro v' z1 ho2 hg2 _
          obtain ⟨A9, c9, rfl, hc91, hc92, ho9⟩ := own_more (cs' := [v, r1, r9]) (m := 3) ho2 rfl rfl
          have hez1 := Ext.grown hez hg2 (fun g hg => (hrow g hg).1)
          clear ho2 hg2 hoz hrow hcz hez hsz hzl
          obtain ⟨x, hx⟩ : ∃ x, lstL [v, r1, r9] = x := ⟨_, rfl⟩
          have hxJ : nrm x = J k := by
            rw [hJk, ← hx, lstL_nrm]
            simp only [List.map_cons, List.map_nil, hr1.2, hr9.2]
            rw [if_pos hlo, if_neg hhi]
            rfl
          have hxw : x < 4294967296 := by rw [← hx]; exact lstL_lt (words_app (words_app (words_1 hwv) hr1.1) hr9.1)
          have HCALL := Lib.hid (HLC.out A9 3 c9 [v, r1, r9] z1 _ ho9 (by omega) (by omega) hc91 hc92)
          rw [hx] at HCALL
          have HXJ := Lib.hid hxJ
          clear hxJ hx hJk ho9
          clear hr1 hr9
          go_wp2_with (first | (go_at_call 70; refine HCALL.out.mono ?_; rintro e w' ⟨rfl, rfl⟩) | (at_builtin; refine app_here _ _ _ _ rfl ?_))
          refine Lib.hid ?_
          refine wl_at (X := fun w' => Ext wr w' ∧ w'.cell? ⟨z1.heap.size, 0, none⟩ = some (fl x)) ⟨by repeat (first | with_reducible exact hez1 | (with_reducible refine Ext.alloc ?_ _)), cell_freshA _ _ _⟩ ?_
          rintro z2 ⟨hez2, hcz⟩
          have hsz := hez2.size
          have hbl := HBL.out
          have hown2 := hown.ext hez2
          have hrow := hown2.row
          refine wpList_append_own _ rfl _ _ _ rfl (U.heap.size) 23 i0 (.float .f32 0) 1 4 Try.underlying22 hi hz0 hz1 hz2 rfl (by omega) (.slice A' bb.length c') bb.length (bb.map fl) (by rfl) hown2 ⟨z1.heap.size, 0, none⟩ 1 1 [fl x] (by rfl) rfl (one_new hcz) (one_word x) (by unfold maxLen; omega) (by omega) (by omega) ?_
          intro v' z3 ho2 hg2 _
          obtain ⟨A8, c8, rfl, hc81, hc82, ho8⟩ := own_more (cs' := bb ++ [x]) (m := (bb ++ [x]).length) ho2 rfl rfl
          have hp3 := (hp.ext hez2).grown hg2 (row_box hrow _ (by have := hPL; omega))
          have hE3 := Ext.grown (hE.trans hez2) hg2 (fun g hg => by have := hrow g hg; omega)
          have hbw3 := words_app hbw hxw
          have hlike3 : (bb ++ [x]).map nrm = (List.range (k + 1)).map J := by rw [List.map_append, hlike, List.range_succ, List.map_append]; simp [HXJ.out]
          clear hbl ho2 hg2 hown hown2 hrow hcz hez1 hez2 hsz HCALL hp pa pb hE hcv hbw hlike hwv hxw HXJ
          go_wp2
          go_roundw
          case rel => exact ⟨k + 1, A8, c8, bb ++ [x], by omega, by first | go_num | (congr 1; omega) | (simp only [hw2]; congr 1; omega) | (simp; omega), by simp, ho8, hlike3, hbw3, hp3, hE3⟩
          case measure => simp [intOf]; omega
      · have hle0 : ¬ ((0 : Int) < (k : Int)) := by omega
        by_cases hhi : k + 1 < n
        · obtain ⟨kp, hkp⟩ : ∃ kp, k + 1 = kp := ⟨_, rfl⟩
          rw [hkp] at hJk hhi
          have hchi := cell_ext (HL.out kp (by omega)) hE
          have hwh := HWD.out kp
          generalize bs.getD kp 0 = vh at hchi hJk hwh
          have hw2 : IntKind.i64.wrap ((k : Int) + 1) = (kp : Int) := by rw [show (k : Int) + 1 = (kp : Int) by omega]; exact wrap_small _ (by omega) (by omega)
          have bh0 : (0 : Int) ≤ (kp : Int) := by omega
          have bh1 : (kp : Int) < (n : Int) := by omega
          have HKP := Lib.hid hkp
          clear hkp
          go_wp2_with fail
          refine wp_at (X := fun w' => Ext wr w' ∧ OwnF w' wr.heap.size 23 (.slice (some ⟨wr.heap.size, 0, none⟩) 1 1) [v]) ⟨(Ext.refl _).alloc _, own_one _ _ _ _ (Nat.le_refl _)⟩ ?_
          rintro y0 ⟨hey, hoy⟩
          have hpa1 := cell_ext pa hey
          have hcell1 := cell_ext hchi hey
          refine region_wx 12 [] (by kernel_rfl) (by kernel_rfl) ?_
          simp only [List.take_succ_cons, List.take_zero, List.drop_succ_cons, List.drop_zero]
          repeat ((first | refine wx_skip rfl ?_ | refine wx_nilCheck rfl rfl _ rfl _ rfl ?_ | (refine wx_float rfl rfl _ _ _ _ _ _ _ rfl rfl rfl rfl ?_; intro r hr) | (refine wx_k rfl rfl rfl (fun K hK => ?_); go_big_quiet_op; refine hK _ ?_; clear hK K) | (refine wx_bs rfl rfl _ _ _ rfl _ rfl (fun Z => bs1 _ Z) ?_; intro H V2 hV2 hcell0)); (try simp only [Act.put, List.setIfInBounds_toArray, List.set_cons_zero, List.set_cons_succ]); (try simp only [List.tail_nil]))
          refine wx_nil (fun W hW hF => ?_)
          have hVW : Ext V2 W := hF 11
          have hnew := cell_ext hcell0 hVW
          have hoy2 := hoy.ext hW
          have hrow := hoy2.row
          have hsy := hW.size
          have hsy0 := hey.size
          have hey2 := hey.trans hW
          clear hF hVW hcell0 hV2 hpa1 hcell1 hW hoy hey
          have hr1 := hr
          clear hr
          obtain ⟨r1, hrr⟩ : ∃ q, q = r := ⟨_, rfl⟩
          rw [← hrr] at hr1 hnew ⊢
          clear hrr
          refine wpList_append_own _ rfl _ _ _ rfl (wr.heap.size) 23 i0 (.float .f32 0) 1 4 Try.underlying22 hi hz0 hz1 hz2 rfl (by omega) (.slice (some ⟨wr.heap.size, 0, none⟩) 1 1) 1 ([v].map fl) (by rfl) hoy2 ⟨H, 0, none⟩ 1 1 [fl r1] (by rfl) rfl (one_new hnew) (one_word r1) (by unfold maxLen; omega) (by omega) (by omega) ?_
          intro v' y1 ho2 hg2 _
          obtain ⟨A1, c1, rfl, hc11, hc12, hoy⟩ := own_more (cs' := [v, r1]) (m := 2) ho2 rfl rfl
          have hey := Ext.grown hey2 hg2 (fun g hg => (hrow g hg).1)
          clear ho2 hg2 hoy2 hrow hnew hsy hsy0 hey2
          have hpb2 := cell_ext pb hey
          go_wp2_with (at_builtin; refine app_here _ _ _ _ rfl ?_)
          have hid0 := (Lib.hid : ∀ {p : Prop}, p → Hid p)
          refine hid0 ?_
          clear hid0
          generalize hq : flR BinOp.add _ b M = r9
          have hr9 : Is r9 (fop .add b M) := by rw [← hq]; exact flR_is _ _ _ _
          clear hq
          refine wl_at (X := fun w' => Ext wr w' ∧ OwnF w' wr.heap.size 23 (.slice A1 2 c1) [v, r1] ∧ w'.cell? ⟨y1.heap.size, 0, none⟩ = some (fl r9)) ⟨?_, ?_, ?_⟩ ?_
          · repeat (first | with_reducible exact hey | (with_reducible refine Ext.drewN ?_ _) | (with_reducible refine Ext.alloc ?_ _))
          · exact hoy.ext (by repeat (first | with_reducible exact Ext.refl y1 | (with_reducible refine Ext.drewN ?_ _) | (with_reducible refine Ext.alloc ?_ _)))
          · first | exact cell_freshB _ _ _ _ | exact cell_freshA _ _ _
          rintro z0 ⟨hez, hoz, hcz⟩
          have hsz := hez.size
          have hzl := lt_of_cell hcz
          have hrow := hoz.row
          clear hoy hpb2
          refine wpList_append_own _ rfl _ _ _ rfl (wr.heap.size) 23 i0 (.float .f32 0) 1 4 Try.underlying22 hi hz0 hz1 hz2 rfl (by omega) (.slice A1 2 c1) 2 ([v, r1].map fl) (by rfl) hoz ⟨y1.heap.size, 0, none⟩ 1 1 [fl r9] (by rfl) rfl (one_new hcz) (one_word r9) (by unfold maxLen; omega) (by omega) (by omega) ?_
          intro v' z1 ho2 hg2 _
          obtain ⟨A9, c9, rfl, hc91, hc92, ho9⟩ := own_more (cs' := [v, r1, r9]) (m := 3) ho2 rfl rfl
          have hez1 := Ext.grown hez hg2 (fun g hg => (hrow g hg).1)
          clear ho2 hg2 hoz hrow hcz hez hsz hzl
          obtain ⟨x, hx⟩ : ∃ x, lstL [v, r1, r9] = x := ⟨_, rfl⟩
          have hxJ : nrm x = J k := by
            rw [hJk, ← hx, lstL_nrm]
            simp only [List.map_cons, List.map_nil, hr1.2, hr9.2]
            rw [if_neg hlo, if_pos hhi]
            rfl
          have hxw : x < 4294967296 := by rw [← hx]; exact lstL_lt (words_app (words_app (words_1 hwv) hr1.1) hr9.1)
          have HCALL := Lib.hid (HLC.out A9 3 c9 [v, r1, r9] z1 _ ho9 (by omega) (by omega) hc91 hc92)
          rw [hx] at HCALL
          have HXJ := Lib.hid hxJ
          clear hxJ hx hJk ho9
          clear hr1 hr9
          go_wp2_with (first | (go_at_call 70; refine HCALL.out.mono ?_; rintro e w' ⟨rfl, rfl⟩) | (at_builtin; refine app_here _ _ _ _ rfl ?_))
          refine Lib.hid ?_
          refine wl_at (X := fun w' => Ext wr w' ∧ w'.cell? ⟨z1.heap.size, 0, none⟩ = some (fl x)) ⟨by repeat (first | with_reducible exact hez1 | (with_reducible refine Ext.alloc ?_ _)), cell_freshA _ _ _⟩ ?_
          rintro z2 ⟨hez2, hcz⟩
          have hsz := hez2.size
          have hbl := HBL.out
          have hown2 := hown.ext hez2
          have hrow := hown2.row
          refine wpList_append_own _ rfl _ _ _ rfl (U.heap.size) 23 i0 (.float .f32 0) 1 4 Try.underlying22 hi hz0 hz1 hz2 rfl (by omega) (.slice A' bb.length c') bb.length (bb.map fl) (by rfl) hown2 ⟨z1.heap.size, 0, none⟩ 1 1 [fl x] (by rfl) rfl (one_new hcz) (one_word x) (by unfold maxLen; omega) (by omega) (by omega) ?_
          intro v' z3 ho2 hg2 _
          obtain ⟨A8, c8, rfl, hc81, hc82, ho8⟩ := own_more (cs' := bb ++ [x]) (m := (bb ++ [x]).length) ho2 rfl rfl
          have hp3 := (hp.ext hez2).grown hg2 (row_box hrow _ (by have := hPL; omega))
          have hE3 := Ext.grown (hE.trans hez2) hg2 (fun g hg => by have := hrow g hg; omega)
          have hbw3 := words_app hbw hxw
          have hlike3 : (bb ++ [x]).map nrm = (List.range (k + 1)).map J := by rw [List.map_append, hlike, List.range_succ, List.map_append]; simp [HXJ.out]
          clear hbl ho2 hg2 hown hown2 hrow hcz hez1 hez2 hsz HCALL hp pa pb hE hcv hbw hlike hwv hxw HXJ
          go_wp2
          go_roundw
          case rel => exact ⟨k + 1, A8, c8, bb ++ [x], by omega, by have h9 := HKP.out; first | go_num | (congr 1; omega) | (simp only [hw2]; congr 1; omega) | (simp; omega), by simp, ho8, hlike3, hbw3, hp3, hE3⟩
          case measure => have h9 := HKP.out; simp [intOf]; omega
        · have hw2 : IntKind.i64.wrap ((k : Int) + 1) = (k : Int) + 1 := wrap_small _ (by omega) (by omega)
          have hge : ¬ ((k : Int) + 1 < (n : Int)) := by omega
          go_wp2_with (at_builtin; refine app_here _ _ _ _ rfl ?_)
          have hid0 := (Lib.hid : ∀ {p : Prop}, p → Hid p)
          refine hid0 ?_
          clear hid0
          generalize hq : flR BinOp.add _ b M = r9
          have hr9 : Is r9 (fop .add b M) := by rw [← hq]; exact flR_is _ _ _ _
          clear hq
          refine wl_at (X := fun w' => Ext wr w' ∧ OwnF w' wr.heap.size 23 (.slice (some ⟨wr.heap.size, 0, none⟩) 1 1) [v] ∧ w'.cell? ⟨wr.heap.size + 1, 0, none⟩ = some (fl r9)) ⟨?_, ?_, ?_⟩ ?_
          · repeat (first | with_reducible exact Ext.refl _ | (with_reducible refine Ext.drewN ?_ _) | (with_reducible refine Ext.alloc ?_ _))
          · exact (own_one wr wr.heap.size _ v (Nat.le_refl _)).ext (by repeat (first | with_reducible exact Ext.refl _ | (with_reducible refine Ext.drewN ?_ _) | (with_reducible refine Ext.alloc ?_ _)))
          · first | (simp [go_sem]; done) | exact cell_freshB (wr.alloc _) _ _ _
          rintro z0 ⟨hez, hoz, hcz⟩
          have hsz := hez.size
          have hzl := lt_of_cell hcz
          have hrow := hoz.row
          refine wpList_append_own _ rfl _ _ _ rfl (wr.heap.size) 23 i0 (.float .f32 0) 1 4 Try.underlying22 hi hz0 hz1 hz2 rfl (by omega) (.slice (some ⟨wr.heap.size, 0, none⟩) 1 1) 1 ([v].map fl) (by rfl) hoz ⟨wr.heap.size + 1, 0, none⟩ 1 1 [fl r9] (by rfl) rfl (one_new hcz) (one_word r9) (by unfold maxLen; omega) (by omega) (by omega) ?_
          intro v' z1 ho2 hg2 _
          obtain ⟨A9, c9, rfl, hc91, hc92, ho9⟩ := own_more (cs' := [v, r9]) (m := 2) ho2 rfl rfl
          have hez1 := Ext.grown hez hg2 (fun g hg => (hrow g hg).1)
          clear ho2 hg2 hoz hrow hcz hez hsz hzl
          obtain ⟨x, hx⟩ : ∃ x, lstL [v, r9] = x := ⟨_, rfl⟩
          have hxJ : nrm x = J k := by
            rw [hJk, ← hx, lstL_nrm]
            simp only [List.map_cons, List.map_nil, hr9.2]
            rw [if_neg hlo, if_neg hhi]
            rfl
          have hxw : x < 4294967296 := by rw [← hx]; exact lstL_lt (words_app (words_1 hwv) hr9.1)
          have HCALL := Lib.hid (HLC.out A9 2 c9 [v, r9] z1 _ ho9 (by omega) (by omega) hc91 hc92)
          rw [hx] at HCALL
          have HXJ := Lib.hid hxJ
          clear hxJ hx hJk ho9
          clear hr9
          go_wp2_with (first | (go_at_call 70; refine HCALL.out.mono ?_; rintro e w' ⟨rfl, rfl⟩) | (at_builtin; refine app_here _ _ _ _ rfl ?_))
          refine Lib.hid ?_
          refine wl_at (X := fun w' => Ext wr w' ∧ w'.cell? ⟨z1.heap.size, 0, none⟩ = some (fl x)) ⟨by repeat (first | with_reducible exact hez1 | (with_reducible refine Ext.alloc ?_ _)), cell_freshA _ _ _⟩ ?_
          rintro z2 ⟨hez2, hcz⟩
          have hsz := hez2.size
          have hbl := HBL.out
          have hown2 := hown.ext hez2
          have hrow := hown2.row
          refine wpList_append_own _ rfl _ _ _ rfl (U.heap.size) 23 i0 (.float .f32 0) 1 4 Try.underlying22 hi hz0 hz1 hz2 rfl (by omega) (.slice A' bb.length c') bb.length (bb.map fl) (by rfl) hown2 ⟨z1.heap.size, 0, none⟩ 1 1 [fl x] (by rfl) rfl (one_new hcz) (one_word x) (by unfold maxLen; omega) (by omega) (by omega) ?_
          intro v' z3 ho2 hg2 _
          obtain ⟨A8, c8, rfl, hc81, hc82, ho8⟩ := own_more (cs' := bb ++ [x]) (m := (bb ++ [x]).length) ho2 rfl rfl
          have hp3 := (hp.ext hez2).grown hg2 (row_box hrow _ (by have := hPL; omega))
          have hE3 := Ext.grown (hE.trans hez2) hg2 (fun g hg => by have := hrow g hg; omega)
          have hbw3 := words_app hbw hxw
          have hlike3 : (bb ++ [x]).map nrm = (List.range (k + 1)).map J := by rw [List.map_append, hlike, List.range_succ, List.map_append]; simp [HXJ.out]
          clear hbl ho2 hg2 hown hown2 hrow hcz hez1 hez2 hsz HCALL hp pa pb hE hcv hbw hlike hwv hxw HXJ
          go_wp2
          go_roundw
          case rel => exact ⟨k + 1, A8, c8, bb ++ [x], by omega, by first | go_num | (congr 1; omega) | (simp only [hw2]; congr 1; omega) | (simp; omega), by simp, ho8, hlike3, hbw3, hp3, hE3⟩
          case measure => simp [intOf]; omega
    · have e1 : k = n := by omega
      subst e1
      go_wp2
      go_ret
      exact ⟨A', c', bb, rfl, hown.weaken (by omega), hlike, hbw, hE⟩
end Go.Proofs.Ythkfbmboiabolaa
