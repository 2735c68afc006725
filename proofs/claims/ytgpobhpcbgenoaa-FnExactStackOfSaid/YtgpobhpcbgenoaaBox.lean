/- Contracts: the mean of the greys about a place. -/
import Derived.Test.YtgpobhpcbgenoaaMaps
import Derived.Test.YtgpobhpcbgenoaaAcc2
import Derived.Test.YtgpobhpcbgenoaaMade
import Derived.Test.YtgpobhpcbgenoaaCell
import Derived.Test.YtgpobhpcbgenoaaOwn3
import Derived.Lib.Hide
namespace Go.Proofs.Ytgpobhpcbgenoaa
open Go.RowKit
set_option linter.unusedVariables false

theorem wl_at {P : Program} {ops : Array Oper} {Q : Exit → Act → World → Prop} {l : List Oper} {a : Act} {w : World} {X : World → Prop} (hX : X w) (h : ∀ w', X w' → wpList P ops Q l a w') : wpList P ops Q l a w := h w hX
theorem cell_fresh0 (w : World) (t : TypeId) (r : Value) : (w.alloc (.cells #[r] t)).cell? ⟨w.heap.size, 0, none⟩ = some r := by
  simp [go_sem]
theorem cell_fresh (w : World) (k : Nat) (t : TypeId) (r : Value) : ((w.drewN k).alloc (.cells #[r] t)).cell? ⟨w.heap.size, 0, none⟩ = some r := cell_fresh0 (w.drewN k) t r
/-- The sum of a row about a place; of the rows about it; the mean. -/
def bxIn (G : Int → Int → Nat) (x : Int) (r : Nat) (v : Int) : Nat → Nat → Nat
  | 0, s => s
  | j + 1, s => fop .add (bxIn G x r v j s) (G (x - (r : Int) + (j : Int)) v)
def bxTo (G : Int → Int → Nat) (x y : Int) (r : Nat) : Nat → Nat
  | 0 => 0
  | k + 1 => bxIn G x r (y - (r : Int) + (k : Int)) (2 * r + 1) (bxTo G x y r k)
def bxV (G : Int → Int → Nat) (x y : Int) (r : Nat) : Nat := fop .quo (bxTo G x y r (2 * r + 1)) (floatOfInt .f32 (((2 * r + 1) * (2 * r + 1) : Nat) : Int))
theorem is_fop {op : BinOp} {q a b A B : Nat} (h : Is q (fop op a b)) (ha : nrm a = A) (hb : nrm b = B) : Is q (fop op A B) := by
  subst ha hb
  rw [fop_nrm]
  exact h
/-- A box at a place within a block. -/
def BoxO (w : World) (g o : Nat) (a b c : Value) : Prop := w.cell? ⟨g, o, none⟩ = some a ∧ w.cell? ⟨g, o + 1, none⟩ = some b ∧ w.cell? ⟨g, o + 2, none⟩ = some c
theorem BoxO.ext {w w' : World} {g o : Nat} {a b c : Value} (h : BoxO w g o a b c) (hx : Ext w w') : BoxO w' g o a b c := ⟨cell_ext h.1 hx, cell_ext h.2.1 hx, cell_ext h.2.2 hx⟩
set_option maxHeartbeats 1000000 in
theorem aboutO_any (g o : Nat) (w h : Int) (A : Option Addr) (n c : Nat) (bs : List Nat) (x y : Int) (U : World) (hB : BoxO U g o (.int .i64 w) (.int .i64 h) (.slice A n c)) (hr : Reads U A n bs) (hv : VMap w h n) :
    Calls Try.prog 82 #[.pointer (some ⟨g, o, none⟩), .int .i64 x, .int .i64 y] U fun e U' => e = .returned (.float .f32 (bs.getD (cellN w (clampI x w) (clampI y h)) 0)) ∧ Ext U U' := by
  have hb1 := clampI_bounds x hv.1.1
  have hb2 := clampI_bounds y hv.1.2.2.1
  obtain ⟨hk, hkn, hw⟩ := cellN_eq hv hb1.1 hb1.2 hb2.1 hb2.2
  have hn : n ≤ 256 := by have := hv.2; have := hv.1.2.2.2.2; omega
  obtain ⟨gb, off, rfl, hl⟩ := hr.2 (by omega)
  have hc := hl _ (by rw [hr.1]; exact hkn)
  obtain ⟨h0, h1, h2⟩ := hB
  have hsz : (1 ≤ w ∧ w ≤ 24) ∧ 1 ≤ h ∧ h ≤ 24 := ⟨⟨hv.1.1, hv.1.2.1⟩, hv.1.2.2.1, hv.1.2.2.2.1⟩
  generalize hkk : cellN w (clampI x w) (clampI y h) = k at *
  have hw2 : IntKind.i64.wrap (clampI x w + w * clampI y h) = k := by rw [hk]; exact IntWalk.i64_in _ (by omega)
  have hk0 : (0 : Int) ≤ (k : Int) := by omega
  have hk1 : (k : Int) < (n : Int) := by omega
  generalize bs.getD k 0 = v at hc ⊢
  have hcx : ∀ U, Calls Try.prog 72 #[.int .i64 x, .int .i64 w] U fun e U' => e = .returned (.int .i64 (clampI x w)) ∧ U = U' := fun U => clamp_any x w U hsz.1.1 hsz.1.2
  have hcy : ∀ U, Calls Try.prog 72 #[.int .i64 y, .int .i64 h] U fun e U' => e = .returned (.int .i64 (clampI y h)) ∧ U = U' := fun U => clamp_any y h U hsz.2.1 hsz.2.2
  generalize clampI x w = cx at *
  generalize clampI y h = cy at *
  have HCX := Lib.hid hcx
  have HCY := Lib.hid hcy
  clear hl hr hk hv hb1 hb2 hkk hsz hcx hcy
  go_enter Try.func82, Try.ntmps82
  go_wp2_with fail
  refine region_wx 24 [] (by kernel_rfl) (by kernel_rfl) ?_
  simp only [List.take_succ_cons, List.take_zero, List.drop_succ_cons, List.drop_zero]
  repeat ((first | refine wx_skip rfl ?_ | refine wx_nilCheck rfl rfl _ rfl _ rfl ?_ | (refine wx_float rfl rfl _ _ _ _ _ _ _ rfl rfl rfl rfl ?_; intro r hr) | (refine wx_k rfl rfl rfl (fun K hK => ?_); go_big_quiet_op; refine hK _ ?_; clear hK K) | (refine wx_call rfl rfl 72 _ _ rfl (by kernel_rfl) (by kernel_rfl) (.int .i64 cx) (fun W hW hF => ?_) ?_; go_simp; (with_reducible refine (callsExt (HCX.out W)).mono ?_); rintro e w' h; exact h) | (refine wx_call rfl rfl 72 _ _ rfl (by kernel_rfl) (by kernel_rfl) (.int .i64 cy) (fun W hW hF => ?_) ?_; go_simp; (with_reducible refine (callsExt (HCY.out W)).mono ?_); rintro e w' h; exact h)); (try simp only [Act.put, List.setIfInBounds_toArray, List.set_cons_zero, List.set_cons_succ]); (try simp only [List.tail_nil]))
  refine wx_nil (fun W hW hF => ?_)
  go_wp2
  go_ret
  exact ⟨rfl, hW⟩
set_option maxHeartbeats 4000000 in
set_option maxRecDepth 8000 in
theorem boxed_any (g o : Nat) (x y : Int) (r : Nat) (G : Int → Int → Nat) (U : World) (hx0 : 0 ≤ x ∧ x ≤ 24) (hy0 : 0 ≤ y ∧ y ≤ 24) (hr : r ≤ 3)
    (hA : ∀ W, Ext U W → ∀ u v, Calls Try.prog 82 #[.pointer (some ⟨g, o, none⟩), .int .i64 u, .int .i64 v] W fun e W' => e = .returned (.float .f32 (G u v)) ∧ Ext W W') :
    Calls Try.prog 94 #[.pointer (some ⟨g, o, none⟩), .int .i64 x, .int .i64 y, .int .i64 r] U fun e U' => ∃ q, e = .returned (.float .f32 q) ∧ Is q (bxV (fun u v => nrm (G u v)) x y r) ∧ Ext U U' := by
  have HA := Lib.hid hA
  obtain ⟨M, hM⟩ : ∃ M, 2 * r + 1 = M := ⟨_, rfl⟩
  obtain ⟨Q, hQ⟩ : ∃ Q, M * M = Q := ⟨_, rfl⟩
  have hM7 : M ≤ 7 := by omega
  have hQ49 : Q ≤ 49 := by rw [← hQ]; exact Nat.mul_le_mul hM7 hM7
  have t1 : IntKind.i64.wrap (2 * (r : Int)) = ((2 * r : Nat) : Int) := by rw [show (2 : Int) * (r : Int) = ((2 * r : Nat) : Int) by omega]; exact IntWalk.i64_in _ (by omega)
  have t2 : IntKind.i64.wrap (((2 * r : Nat) : Int) + 1) = (M : Int) := by rw [show ((2 * r : Nat) : Int) + 1 = (M : Int) by omega]; exact IntWalk.i64_in _ (by omega)
  have t3 : IntKind.i64.wrap ((M : Int) * (M : Int)) = (Q : Int) := by rw [show (M : Int) * (M : Int) = (Q : Int) by rw [← hQ]; simp]; exact IntWalk.i64_in _ (by omega)
  have HW4 : Hid (wrap64 ((2 * (r : Int) + 1) * (2 * (r : Int) + 1)) = (Q : Int)) := Lib.hid (by rw [show 2 * (r : Int) + 1 = (M : Int) by omega, show (M : Int) * (M : Int) = (Q : Int) by rw [← hQ]; simp]; unfold wrap64; omega)
  have HMQ := Lib.hid (⟨hM, hQ⟩ : 2 * r + 1 = M ∧ M * M = Q)
  clear hQ hM7 hQ49
  obtain ⟨a, ha⟩ : ∃ a, x - (r : Int) = a := ⟨_, rfl⟩
  obtain ⟨b, hb⟩ : ∃ b, y - (r : Int) = b := ⟨_, rfl⟩
  obtain ⟨c, hc⟩ : ∃ c, x + (r : Int) = c := ⟨_, rfl⟩
  obtain ⟨d, hd⟩ : ∃ d, y + (r : Int) = d := ⟨_, rfl⟩
  have hwa : IntKind.i64.wrap (x - (r : Int)) = a := by rw [ha]; exact wrap_small _ (by omega) (by omega)
  have hwb : IntKind.i64.wrap (y - (r : Int)) = b := by rw [hb]; exact wrap_small _ (by omega) (by omega)
  have hwc : IntKind.i64.wrap (x + (r : Int)) = c := by rw [hc]; exact wrap_small _ (by omega) (by omega)
  have hwd : IntKind.i64.wrap (y + (r : Int)) = d := by rw [hd]; exact wrap_small _ (by omega) (by omega)
  have HEQ := Lib.hid (⟨ha, hb, hc, hd⟩ : x - (r : Int) = a ∧ y - (r : Int) = b ∧ x + (r : Int) = c ∧ y + (r : Int) = d)
  have HXY := Lib.hid (⟨hx0, hy0⟩ : (0 ≤ x ∧ x ≤ 24) ∧ 0 ≤ y ∧ y ≤ 24)
  clear hA ha hb hc hd hx0 hy0 hM
  go_enter Try.func94, Try.ntmps94
  go_wp2_with fail
  go_loopw [9, 10] (fun sv vv wr => ∃ (k : Nat) (v : Int) (s : Nat), k ≤ 2 * r + 1 ∧ v = b + (k : Int) ∧ vv = .int .i64 v ∧ sv = .float .f32 s ∧ Is s (bxTo (fun u v => nrm (G u v)) x y r k) ∧ Ext U wr) (fun _ vv _ => ((d + 1) - intOf vv).toNat)
  case atStart => exact ⟨0, b, 0, by omega, by simp, rfl, rfl, ⟨by omega, rfl⟩, Ext.refl _⟩
  case round =>
    obtain ⟨k, v, s, hk, hv, rfl, rfl, hs, hE⟩ := hrel
    have ⟨e1, e2, e3, e4⟩ := HEQ.out
    have ⟨⟨f1, f2⟩, f3, f4⟩ := HXY.out
    have hv1 : IntKind.i64.wrap (v + 1) = v + 1 := wrap_small _ (by omega) (by omega)
    by_cases hlt : k < 2 * r + 1
    · have hvd : v ≤ d := by omega
      have HVV := Lib.hid (⟨hv, e1, e2, e3, e4, f1, f2, f3, f4⟩ : v = b + (k : Int) ∧ x - (r : Int) = a ∧ y - (r : Int) = b ∧ x + (r : Int) = c ∧ y + (r : Int) = d ∧ 0 ≤ x ∧ x ≤ 24 ∧ 0 ≤ y ∧ y ≤ 24)
      have HS := Lib.hid hs
      clear hv e1 e2 e3 e4 f1 f2 f3 f4 hs
      go_wp2_with fail
      go_loopw [9, 11] (fun sv uu wr => ∃ (j : Nat) (u : Int) (s : Nat), j ≤ 2 * r + 1 ∧ u = a + (j : Int) ∧ uu = .int .i64 u ∧ sv = .float .f32 s ∧ Is s (bxIn (fun u v => nrm (G u v)) x r v j (bxTo (fun u v => nrm (G u v)) x y r k)) ∧ Ext U wr) (fun _ uu _ => ((c + 1) - intOf uu).toNat)
      case atStart => exact ⟨0, a, s, by omega, by simp, rfl, rfl, HS.out, hE⟩
      case round =>
        clear hE HS
        obtain ⟨j, u, s, hj, hu, rfl, rfl, hs, hE2⟩ := hrel
        obtain ⟨hv, e1, e2, e3, e4, f1, f2, f3, f4⟩ := HVV.out
        have hu1 : IntKind.i64.wrap (u + 1) = u + 1 := wrap_small _ (by omega) (by omega)
        by_cases hltj : j < 2 * r + 1
        · have huc : u ≤ c := by omega
          have HST : Hid (bxIn (fun u v => nrm (G u v)) x r v (j + 1) (bxTo (fun u v => nrm (G u v)) x y r k) = fop .add (bxIn (fun u v => nrm (G u v)) x r v j (bxTo (fun u v => nrm (G u v)) x y r k)) (nrm (G u v))) := Lib.hid (by show fop .add _ (nrm (G (x - (r : Int) + (j : Int)) v)) = _; rw [show x - (r : Int) + (j : Int) = u by omega])
          have HS := Lib.hid hs
          have HU := Lib.hid hu
          clear e1 e2 e3 e4 f1 f2 f3 f4 hu hv hs
          go_wp2_with fail
          with_reducible refine (HA.out _ hE2 u v).mono ?_
          rintro e w3 ⟨rfl, hx3⟩
          replace hE2 := hE2.trans hx3
          clear hx3
          go_wp2
          go_roundw
          case rel => exact ⟨j + 1, u + 1, _, by omega, by have := HU.out; omega, rfl, rfl, by rw [HST.out]; exact is_fop (flR_is _ _ _ _) HS.out.2 rfl, by repeat (first | (with_reducible exact hE2) | (with_reducible refine Ext.drewN ?_ _))⟩
          case measure => simp [intOf]; omega
        · have huc : ¬ u ≤ c := by omega
          have e9 : j = 2 * r + 1 := by omega
          have hs2 : Is s (bxTo (fun u v => nrm (G u v)) x y r (k + 1)) := by
            show Is s (bxIn (fun u v => nrm (G u v)) x r (y - (r : Int) + (k : Int)) (2 * r + 1) (bxTo (fun u v => nrm (G u v)) x y r k))
            rw [show y - (r : Int) + (k : Int) = v by omega]; exact e9 ▸ hs
          have HU := Lib.hid hv
          clear e1 e2 e3 e4 f1 f2 f3 f4 e9 hu hv hs
          go_wp2_with fail
          go_roundw
          case rel => exact ⟨k + 1, v + 1, s, by omega, by have := HU.out; omega, rfl, rfl, hs2, hE2⟩
          case measure => simp [intOf]; omega
    · have hvd : ¬ v ≤ d := by omega
      have e9 : k = 2 * r + 1 := by omega
      have hs2 : Is s (bxTo (fun u v => nrm (G u v)) x y r (2 * r + 1)) := e9 ▸ hs
      clear e1 e2 e3 e4 f1 f2 f3 f4 e9 hv hs
      have HS := Lib.hid hs2
      clear hs2
      go_wp2
      go_ret
      refine ⟨_, rfl, ?_, by repeat (first | (with_reducible exact hE) | (with_reducible refine Ext.drewN ?_ _))⟩
      unfold bxV
      rw [HMQ.out.1, HMQ.out.2]
      exact is_fop (flR_is _ _ _ _) (by have := HS.out.2; rw [HMQ.out.1] at this; exact this) (by rw [HW4.out]; exact nrm_of _ (isN_ofInt _))
set_option maxHeartbeats 1000000 in
theorem l02New_any (w h : Int) (U : World) :
    Calls Try.prog 114 #[.int .i64 w, .int .i64 h] U fun e U' => ∃ H, e = .returned (.agg #[.int .i64 w, .int .i64 h, .slice (some ⟨H, 0, none⟩) 0 0]) ∧ OwnF U' U.heap.size 25 (.slice (some ⟨H, 0, none⟩) 0 0) [] ∧ Ext U U' := by
  go_enter Try.func114, Try.ntmps114
  go_wp2_with fail
  go_wp2
  refine bodyPost_ret (v := .agg #[.int .i64 w, .int .i64 h, .slice (some ⟨U.heap.size + 1, 0, none⟩) 0 0]) (by simp [results, Try.results114, go_sem, *]) rfl ⟨U.heap.size + 1, rfl, ?_, ?_⟩
  · repeat (first | (with_reducible refine OwnF.set_ne ?_ (fun q hq => by simp [Value.ownBlock] at hq; subst hq; dsimp only; omega) _))
    have h := World.ownsRow_made (size := 1) (base := U.heap.size) (e := 25) (U.alloc (.cells #[.int .i64 w, .int .i64 h, .slice (some ⟨U.heap.size + 1, 0, none⟩) 0 0] 58)) #[] 0 (by simp) (by unfold maxLen; omega) rfl
    simpa [OwnF] using h
  · repeat (first | with_reducible exact Ext.refl _ | (with_reducible refine Ext.setCell ?_ (by simp; try omega) _) | (with_reducible refine Ext.alloc ?_ _))
set_option maxHeartbeats 8000000 in
set_option maxRecDepth 8000 in
theorem l02Box_any (g wn hn cc n r : Nat) (A0 : Option Addr) (G : Int → Int → Nat) (U : World) (hB : Box3 U g (.int .i64 wn) (.int .i64 hn) (.slice A0 n cc)) (hw : 1 ≤ wn ∧ wn ≤ 24) (hh : 1 ≤ hn ∧ hn ≤ 24) (hwh : wn * hn ≤ 256) (hr : r ≤ 3)
    (hA : ∀ W, Ext U W → ∀ u v, Calls Try.prog 107 #[.pointer (some ⟨g, 0, none⟩), .int .i64 u, .int .i64 v] W fun e W' => e = .returned (.float .f32 (G u v)) ∧ Ext W W') :
    Calls Try.prog 89 #[.pointer (some ⟨g, 0, none⟩), .int .i64 r] U fun e U' => ∃ A c' b, e = .returned (.agg #[.int .i64 wn, .int .i64 hn, .slice A b.length c']) ∧ OwnF U' U.heap.size 25 (.slice A b.length c') b ∧ b.map nrm = cells (fun x y => bxV (fun u v => nrm (G u v)) (x : Int) (y : Int) r) wn (wn * hn) ∧ Ext U U' := by
  obtain ⟨i0, hi, hz0, hz1, hz2⟩ := info_parts infoF
  have HA := Lib.hid hA
  have HWH := Lib.hid (⟨hw, hh⟩ : (1 ≤ wn ∧ wn ≤ 24) ∧ 1 ≤ hn ∧ hn ≤ 24)
  have HP := Lib.hid (fun (k j : Nat) (hk : k < hn) (hj : j < wn) => (show k * wn + j < 256 by
    have h1 : k * wn + wn ≤ hn * wn := by rw [← Nat.succ_mul]; exact Nat.mul_le_mul_right _ hk
    rw [Nat.mul_comm hn wn] at h1
    omega))
  have HR3 := Lib.hid hr
  obtain ⟨M, hM⟩ : ∃ M, 2 * r + 1 = M := ⟨_, rfl⟩
  obtain ⟨Q, hQ⟩ : ∃ Q, M * M = Q := ⟨_, rfl⟩
  have hM7 : M ≤ 7 := by omega
  have hQ49 : Q ≤ 49 := by rw [← hQ]; exact Nat.mul_le_mul hM7 hM7
  have t1 : IntKind.i64.wrap (2 * (r : Int)) = ((2 * r : Nat) : Int) := by rw [show (2 : Int) * (r : Int) = ((2 * r : Nat) : Int) by omega]; exact IntWalk.i64_in _ (by omega)
  have t2 : IntKind.i64.wrap (((2 * r : Nat) : Int) + 1) = (M : Int) := by rw [show ((2 * r : Nat) : Int) + 1 = (M : Int) by omega]; exact IntWalk.i64_in _ (by omega)
  have t3 : IntKind.i64.wrap ((M : Int) * (M : Int)) = (Q : Int) := by rw [show (M : Int) * (M : Int) = (Q : Int) by rw [← hQ]; simp]; exact IntWalk.i64_in _ (by omega)
  have HW4 : Hid (wrap64 ((2 * (r : Int) + 1) * (2 * (r : Int) + 1)) = (Q : Int)) := Lib.hid (by rw [show 2 * (r : Int) + 1 = (M : Int) by omega, show (M : Int) * (M : Int) = (Q : Int) by rw [← hQ]; simp]; unfold wrap64; omega)
  have HMQ := Lib.hid (⟨hM, hQ⟩ : 2 * r + 1 = M ∧ M * M = Q)
  clear hQ hM7 hQ49
  have hcv : floatOfInt .f32 (wrap64 ((2 * (r : Int) + 1) * (2 * (r : Int) + 1))) = floatOfInt .f32 (Q : Int) := by rw [HW4.out]
  have HCV := Lib.hid hcv
  clear hA hw hh hwh hM hcv
  go_enter Try.func89, Try.ntmps89
  go_wp2_with fail
  refine wp_at (X := fun w' => Ext U w' ∧ U.heap.size + 1 ≤ w'.heap.size ∧ Box3 w' g (.int .i64 wn) (.int .i64 hn) (.slice A0 n cc) ∧ Res3 w' U.heap.size) ⟨(Ext.refl _).alloc _, by simp, hB.ext ((Ext.refl _).alloc _), ⟨by simp [go_sem], by simp [go_sem], by simp [go_sem], by simp [go_sem], by simp [go_sem], by simp [go_sem]⟩⟩ ?_
  rintro w0 ⟨hx0, hs0, hB0, hres⟩
  have ⟨p0, p1, p2⟩ := hB0
  clear hB
  refine region_wx 10 [none, none, none, none, none, none, none, none, some (fun u W => ∃ H, u = .agg #[.int .i64 wn, .int .i64 hn, .slice (some ⟨H, 0, none⟩) 0 0] ∧ OwnF W w0.heap.size 25 (.slice (some ⟨H, 0, none⟩) 0 0) [])] (by kernel_rfl) (by kernel_rfl) ?_
  simp only [List.take_succ_cons, List.take_zero, List.drop_succ_cons, List.drop_zero]
  repeat ((first | refine wx_skip rfl ?_ | refine wx_nilCheck rfl rfl _ rfl _ rfl ?_ | (refine wx_float rfl rfl _ _ _ _ _ _ _ rfl rfl rfl rfl ?_; intro r hr) | (refine wx_k rfl rfl rfl (fun K hK => ?_); go_big_quiet_op; refine hK _ ?_; clear hK K) | (refine wx_callR _ rfl rfl 114 _ _ rfl (by kernel_rfl) (fun Wc hWc hFc => ?_) ?_; (· go_simp; refine (l02New_any (wn : Int) (hn : Int) Wc).mono ?_; rintro e w' ⟨H, rfl, hO, hx⟩; exact ⟨_, rfl, ⟨H, rfl, hO.weaken hWc.size⟩, hx⟩); rintro u V hV ⟨H0, rfl, hO⟩) | (refine wx_alloc rfl rfl 58 rfl #[.int .i64 0, .int .i64 0, .slice none 0 0] (fun Z => by simp [Instr.alloc, go_sem]) ?_; intro Va hVa)); (try simp only [Act.put, List.setIfInBounds_toArray, List.set_cons_zero, List.set_cons_succ]); (try simp only [List.tail_cons]))
  refine wx_nil (fun W hW hF => ?_)
  have hO2 := hO.ext (hF 8)
  have hAW : Ext (Va.alloc (.cells #[.int .i64 0, .int .i64 0, .slice none 0 0] 58)) W := hF 9
  have hAg := hVa.size
  have rB := (⟨by simp [go_sem], by simp [go_sem], by simp [go_sem], by simp [go_sem], by simp [go_sem], by simp [go_sem]⟩ : Res3 (Va.alloc (.cells #[.int .i64 0, .int .i64 0, .slice none 0 0] 58)) Va.heap.size).ext hAW
  have rH : W.heap[Va.heap.size]? = some (.cells #[.int .i64 0, .int .i64 0, .slice none 0 0] 58 (0, 0)) := (hAW.block _ (by simp)).trans (heap_alloc_new _ _)
  clear hAW
  generalize Va.heap.size = go at hAg rB rH ⊢
  have hgo := rB.lt
  have hne := hO2.ne_block rH (by decide)
  clear hF p0 p1 p2 hVa hO hV
  have ⟨r0, r1, r2, rf0, rf1, rf2⟩ := rB
  go_wp2_with fail
  go_loopw [7] (fun yv wr => ∃ (k : Nat) (A : Option Addr) (c' : Nat) (b : List Nat), k ≤ hn ∧ yv = .int .i64 k ∧ Acc2 w0 wr w0.heap.size 25 58 go 2 A c' b (cells (fun x y => bxV (fun u v => nrm (G u v)) (x : Int) (y : Int) r) wn (k * wn)) ∧ wr.cell? ⟨go, 0, none⟩ = some (.int .i64 wn) ∧ wr.cell? ⟨go, 1, none⟩ = some (.int .i64 hn)) (fun yv _ => hn - (intOf yv).toNat)
  case atStart =>
    refine ⟨0, some ⟨H0, 0, none⟩, 0, [], Nat.zero_le _, rfl, ⟨?_, ?_, by first | (simp [go_sem, *]; done) | exact cell_set_eq (by simp [go_sem, *]), by simp [go_sem, *], by simp [cells], ?_, Nat.le_refl _, hAg⟩, by simp [go_sem, *], by simp [go_sem, *]⟩
    · repeat (refine OwnF.set_ne ?_ hne _)
      exact hO2
    · repeat (first | with_reducible exact ⟨_, _, rH⟩ | with_reducible refine blk_set ?_)
    · repeat (first | with_reducible exact hW | (with_reducible refine Ext.setCell ?_ (by dsimp only; omega) _))
  case round =>
    clear r0 r1 r2 rf0 rf1 rf2 rB rH hgo hW hO2 hne
    obtain ⟨yn, A, c', b, hk, rfl, hacc, o0, o1⟩ := hrel
    have ⟨p0, p1, p2⟩ := hB0.ext hacc.ext
    have ⟨⟨w1, w24⟩, h1, h24⟩ := HWH.out
    by_cases hlty : yn < hn
    · go_wp2_with fail
      clear p0 p1 p2
      go_loopw [8] (fun xv wq => ∃ (j : Nat) (A : Option Addr) (c' : Nat) (b : List Nat), j ≤ wn ∧ xv = .int .i64 j ∧ Acc2 w0 wq w0.heap.size 25 58 go 2 A c' b (cells (fun x y => bxV (fun u v => nrm (G u v)) (x : Int) (y : Int) r) wn (yn * wn + j)) ∧ wq.cell? ⟨go, 0, none⟩ = some (.int .i64 wn) ∧ wq.cell? ⟨go, 1, none⟩ = some (.int .i64 hn)) (fun xv _ => wn - (intOf xv).toNat)
      case atStart => exact ⟨0, A, c', b, Nat.zero_le _, rfl, hacc, o0, o1⟩
      case round =>
        clear hacc o0 o1
        obtain ⟨wq, rfl⟩ : ∃ w', w' = wr := ⟨wr, rfl⟩
        obtain ⟨xn, A, c', bb, hj, rfl, hacc, o0, o1⟩ := hrel
        have ⟨p0, p1, p2⟩ := hB0.ext hacc.ext
        by_cases hltx : xn < wn
        · have hx0' : (0 : Int) ≤ (xn : Int) ∧ (xn : Int) ≤ 24 := by omega
          have hy0' : (0 : Int) ≤ (yn : Int) ∧ (yn : Int) ≤ 24 := by omega
          have HAQ := Lib.hid (fun (W : World) (hW : Ext wq W) (u v : Int) => HA.out W ((hx0.trans hacc.ext).trans hW) u v)
          have hr := HR3.out
          obtain ⟨a, ha⟩ : ∃ a, (xn : Int) - (r : Int) = a := ⟨_, rfl⟩
          obtain ⟨b, hb⟩ : ∃ b, (yn : Int) - (r : Int) = b := ⟨_, rfl⟩
          obtain ⟨c, hc⟩ : ∃ c, (xn : Int) + (r : Int) = c := ⟨_, rfl⟩
          obtain ⟨d, hd⟩ : ∃ d, (yn : Int) + (r : Int) = d := ⟨_, rfl⟩
          have hwa : IntKind.i64.wrap ((xn : Int) - (r : Int)) = a := by rw [ha]; exact wrap_small _ (by omega) (by omega)
          have hwb : IntKind.i64.wrap ((yn : Int) - (r : Int)) = b := by rw [hb]; exact wrap_small _ (by omega) (by omega)
          have hwc : IntKind.i64.wrap ((xn : Int) + (r : Int)) = c := by rw [hc]; exact wrap_small _ (by omega) (by omega)
          have hwd : IntKind.i64.wrap ((yn : Int) + (r : Int)) = d := by rw [hd]; exact wrap_small _ (by omega) (by omega)
          have HEQ := Lib.hid (⟨ha, hb, hc, hd⟩ : (xn : Int) - (r : Int) = a ∧ (yn : Int) - (r : Int) = b ∧ (xn : Int) + (r : Int) = c ∧ (yn : Int) + (r : Int) = d)
          have HXY := Lib.hid (⟨hx0', hy0'⟩ : (0 ≤ (xn : Int) ∧ (xn : Int) ≤ 24) ∧ 0 ≤ (yn : Int) ∧ (yn : Int) ≤ 24)
          clear ha hb hc hd hx0' hy0' hr
          go_wp2_with fail
          clear p0 p1 p2
          go_loopw [9, 10] (fun sv vv wr => ∃ (k : Nat) (v : Int) (s : Nat), k ≤ 2 * r + 1 ∧ v = b + (k : Int) ∧ vv = .int .i64 v ∧ sv = .float .f32 s ∧ Is s (bxTo (fun u v => nrm (G u v)) (xn : Int) (yn : Int) r k) ∧ Ext wq wr) (fun _ vv _ => ((d + 1) - intOf vv).toNat)
          case atStart => exact ⟨0, b, 0, by omega, by simp, rfl, rfl, ⟨by omega, rfl⟩, Ext.refl _⟩
          case round =>
            obtain ⟨k, v, s, hk, hv, rfl, rfl, hs, hE⟩ := hrel
            have ⟨e1, e2, e3, e4⟩ := HEQ.out
            have ⟨⟨f1, f2⟩, f3, f4⟩ := HXY.out
            have hv1 : IntKind.i64.wrap (v + 1) = v + 1 := wrap_small _ (by omega) (by omega)
            by_cases hlt : k < 2 * r + 1
            · have hvd : v ≤ d := by omega
              have HVV := Lib.hid (⟨hv, e1, e2, e3, e4, f1, f2, f3, f4⟩ : v = b + (k : Int) ∧ (xn : Int) - (r : Int) = a ∧ (yn : Int) - (r : Int) = b ∧ (xn : Int) + (r : Int) = c ∧ (yn : Int) + (r : Int) = d ∧ 0 ≤ (xn : Int) ∧ (xn : Int) ≤ 24 ∧ 0 ≤ (yn : Int) ∧ (yn : Int) ≤ 24)
              have HS := Lib.hid hs
              clear hv e1 e2 e3 e4 f1 f2 f3 f4 hs
              go_wp2_with fail
              go_loopw [9, 11] (fun sv uu wr => ∃ (j : Nat) (u : Int) (s : Nat), j ≤ 2 * r + 1 ∧ u = a + (j : Int) ∧ uu = .int .i64 u ∧ sv = .float .f32 s ∧ Is s (bxIn (fun u v => nrm (G u v)) (xn : Int) r v j (bxTo (fun u v => nrm (G u v)) (xn : Int) (yn : Int) r k)) ∧ Ext wq wr) (fun _ uu _ => ((c + 1) - intOf uu).toNat)
              case atStart => exact ⟨0, a, s, by omega, by simp, rfl, rfl, HS.out, hE⟩
              case round =>
                clear hE HS
                obtain ⟨j, u, s, hj, hu, rfl, rfl, hs, hE2⟩ := hrel
                obtain ⟨hv, e1, e2, e3, e4, f1, f2, f3, f4⟩ := HVV.out
                have hu1 : IntKind.i64.wrap (u + 1) = u + 1 := wrap_small _ (by omega) (by omega)
                by_cases hltj : j < 2 * r + 1
                · have huc : u ≤ c := by omega
                  have HST : Hid (bxIn (fun u v => nrm (G u v)) (xn : Int) r v (j + 1) (bxTo (fun u v => nrm (G u v)) (xn : Int) (yn : Int) r k) = fop .add (bxIn (fun u v => nrm (G u v)) (xn : Int) r v j (bxTo (fun u v => nrm (G u v)) (xn : Int) (yn : Int) r k)) (nrm (G u v))) := Lib.hid (by show fop .add _ (nrm (G ((xn : Int) - (r : Int) + (j : Int)) v)) = _; rw [show (xn : Int) - (r : Int) + (j : Int) = u by omega])
                  have HS := Lib.hid hs
                  have HU := Lib.hid hu
                  clear e1 e2 e3 e4 f1 f2 f3 f4 hu hv hs
                  go_wp2_with fail
                  with_reducible refine (HAQ.out _ hE2 u v).mono ?_
                  rintro e w3 ⟨rfl, hx3⟩
                  replace hE2 := hE2.trans hx3
                  clear hx3
                  go_wp2
                  go_roundw
                  case rel => exact ⟨j + 1, u + 1, _, by omega, by have := HU.out; omega, rfl, rfl, by rw [HST.out]; exact is_fop (flR_is _ _ _ _) HS.out.2 rfl, by repeat (first | (with_reducible exact hE2) | (with_reducible refine Ext.drewN ?_ _))⟩
                  case measure => simp [intOf]; omega
                · have huc : ¬ u ≤ c := by omega
                  have e9 : j = 2 * r + 1 := by omega
                  have hs2 : Is s (bxTo (fun u v => nrm (G u v)) (xn : Int) (yn : Int) r (k + 1)) := by
                    show Is s (bxIn (fun u v => nrm (G u v)) (xn : Int) r ((yn : Int) - (r : Int) + (k : Int)) (2 * r + 1) (bxTo (fun u v => nrm (G u v)) (xn : Int) (yn : Int) r k))
                    rw [show (yn : Int) - (r : Int) + (k : Int) = v by omega]; exact e9 ▸ hs
                  have HU := Lib.hid hv
                  clear e1 e2 e3 e4 f1 f2 f3 f4 e9 hu hv hs
                  go_wp2_with fail
                  go_roundw
                  case rel => exact ⟨k + 1, v + 1, s, by omega, by have := HU.out; omega, rfl, rfl, hs2, hE2⟩
                  case measure => simp [intOf]; omega
            · have hvd : ¬ v ≤ d := by omega
              have e9 : k = 2 * r + 1 := by omega
              have hs2 : Is s (bxTo (fun u v => nrm (G u v)) (xn : Int) (yn : Int) r (2 * r + 1)) := e9 ▸ hs
              clear e1 e2 e3 e4 f1 f2 f3 f4 e9 hv hs
              have hX : nrm s = bxTo (fun u v => nrm (G u v)) (xn : Int) (yn : Int) r M := by have := hs2.2; rw [HMQ.out.1] at this; exact this
              have HX := Lib.hid hX
              have hhdr := (hacc.later hE).hdr
              clear hs2 hX hlt
              have HI : ∀ W, Hid (Is (flR .quo W s (floatOfInt .f32 (Q : Int))) (bxV (fun u v => nrm (G u v)) (xn : Int) (yn : Int) r)) := fun W => Lib.hid (by
                unfold bxV
                rw [HMQ.out.1, HMQ.out.2]
                exact is_fop (flR_is .quo W s (floatOfInt .f32 (Q : Int))) HX.out (nrm_of _ (isN_ofInt _)))
              go_wp2_with (at_builtin; refine Hid.out ?_)
              refine Lib.hid ?_
              generalize hq : flR BinOp.quo _ _ _ = rr
              have HRR : Hid (Is rr (bxV (fun u v => nrm (G u v)) (xn : Int) (yn : Int) r)) := Lib.hid (by
                rw [← hq]
                first | exact (HI _).out | (rw [HW4.out]; exact (HI _).out))
              clear HI
              clear hq
              obtain ⟨HC, hHC⟩ : ∃ g, g = wr.heap.size := ⟨_, rfl⟩
              refine wl_at (X := fun w' => Ext wq w' ∧ w'.cell? ⟨HC, 0, none⟩ = some (fl rr)) ?_ ?_
              · refine ⟨?_, ?_⟩
                · repeat (first | with_reducible exact hE | (with_reducible refine Ext.drewN ?_ _) | (with_reducible refine Ext.alloc ?_ _))
                · rw [hHC]; first | exact cell_fresh0 _ _ _ | exact cell_fresh _ _ _ _
              rintro Z ⟨hZ, hcell⟩
              rw [show wr.heap.size = HC from hHC.symm]
              clear hHC hhdr
              have hown1 := hacc.own.ext hZ
              have hcl := hacc.len
              rw [cells_length] at hcl
              have hp := HP.out yn xn hlty hltx
              have hsz1 := hacc.ext.size
              have hsz2 := hZ.size
              have hHl := lt_of_cell hcell
              refine wpList_append_own _ rfl _ _ _ rfl w0.heap.size 25 i0 (.float .f32 0) 1 4 Try.underlying22 hi hz0 hz1 hz2 rfl (by omega) (.slice A bb.length c') bb.length (bb.map fl) (by rfl) hown1 ⟨HC, 0, none⟩ 1 1 [fl rr] (by rfl) rfl (one_new hcell) (one_word rr) (by unfold maxLen; omega) (by omega) (by omega) ?_
              intro v' w2' ho2 hg2 _
              obtain ⟨A', c2', b', rfl, hacc', ⟨hh2, hf2⟩, hold, holdf⟩ := hacc.push (by decide) hZ (rs := [rr]) (Xs := [bxV (fun u v => nrm (G u v)) (xn : Int) (yn : Int) r]) ho2 hg2 (by simp [HRR.out.2])
              have n0 := hold _ _ _ o0 (hacc.ne (by decide)) (by simp)
              have n1 := hold _ _ _ o1 (hacc.ne (by decide)) (by simp)
              have hst := cells_step (fun x y => bxV (fun u v => nrm (G u v)) (x : Int) (y : Int) r) wn yn xn hltx
              rw [← hst] at hacc'
              clear hold holdf hown1 hacc ho2 hg2 hcell hZ o0 o1 hp hcl hst hE
              go_wp2
              go_roundw
              case rel => exact ⟨xn + 1, A', c2', b', by omega, by go_num, hacc', n0, n1⟩
              case measure => simp [intOf]; omega
        · have e1 : xn = wn := by omega
          rw [e1, cells_row] at hacc
          clear e1
          go_wp2
          go_roundw
          case rel => exact ⟨yn + 1, A, c', bb, by omega, by go_num, hacc, o0, o1⟩
          case measure => simp [intOf]; omega
    · have e1 : yn = hn := by omega
      rw [e1, Nat.mul_comm hn wn] at hacc
      have ⟨c0, c1, c2, f0, f1, f2⟩ := hres.ext hacc.ext
      have hhdr := hacc.hdr
      have hE := hx0.trans hacc.ext
      have hown := hacc.own
      have hlike := hacc.like
      have HLK := Lib.hid hlike
      clear hacc hlike e1
      go_wp2
      refine bodyPost_ret (v := .agg #[.int .i64 wn, .int .i64 hn, .slice A b.length c']) (by simp [results, Try.results89, go_sem, *]) rfl ⟨A, c', b, rfl, ?_, HLK.out, ?_⟩
      · refine OwnF.weaken (base := w0.heap.size) ?_ (by omega)
        repeat (first | (with_reducible exact hown) | (with_reducible refine OwnF.set_below ?_ (by dsimp only; omega) _))
      · repeat (first | (with_reducible exact hE) | (with_reducible refine Ext.setCell ?_ (by dsimp only; omega) _))
end Go.Proofs.Ytgpobhpcbgenoaa
