/- Contracts: the volumes of squares and of sizes. -/
import Derived.Test.YtabdbldidddhgaaPair
import Derived.Test.YtabdbldidddhgaaSpecV
import Derived.Test.YtabdbldidddhgaaAcc2
import Derived.Test.YtabdbldidddhgaaAbs
namespace Go.Proofs.Ytabdbldidddhgaa
open Go.RowKit
set_option linter.unusedVariables false

/-- The difference of two greys. -/
def difF (wn hn : Nat) (ls rs : List Nat) (x y e : Nat) : Nat := fop .sub (ls.getD (cellN wn (clampI (x : Int) wn) (clampI (y : Int) hn)) 0) (rs.getD (cellN wn (clampI ((x : Int) - (e : Int)) wn) (clampI (y : Int) hn)) 0)
theorem cell_fresh0 (w : World) (t : TypeId) (r : Value) : (w.alloc (.cells #[r] t)).cell? ⟨w.heap.size, 0, none⟩ = some r := by
  simp [go_sem]
theorem cell_fresh (w : World) (k : Nat) (t : TypeId) (r : Value) : ((w.drewN k).alloc (.cells #[r] t)).cell? ⟨w.heap.size, 0, none⟩ = some r := cell_fresh0 (w.drewN k) t r
theorem wl_at {P : Program} {ops : Array Oper} {Q : Exit → Act → World → Prop} {l : List Oper} {a : Act} {w : World} {X : World → Prop} (hX : X w) (h : ∀ w', X w' → wpList P ops Q l a w') : wpList P ops Q l a w := h w hX
set_option maxHeartbeats 1000000 in
theorem sq1_any (wn hn dn gb off n c gb2 off2 c2 : Nat) (bs bs2 : List Nat) (gl gr : Nat) (x y e : Nat) (U : World) (hB : Box3 U gl (.int .i64 wn) (.int .i64 hn) (.slice (some ⟨gb, off, none⟩) n c)) (hB2 : Box3 U gr (.int .i64 wn) (.int .i64 hn) (.slice (some ⟨gb2, off2, none⟩) n c2)) (hl : Lies U gb off bs) (hlen : bs.length = n) (hwd : Words bs) (hl2 : Lies U gb2 off2 bs2) (hlen2 : bs2.length = n) (hwd2 : Words bs2) (hv : VMap wn hn n) (hx : x < wn) (hy : y < hn) (he : e < 8) :
    Calls Try.prog 64 #[.int .i64 x, .int .i64 y, .int .i64 e, .pointer (some ⟨gl, 0, none⟩), .pointer (some ⟨gr, 0, none⟩)] U fun e' U' => ∃ r, e' = .returned (.float .f32 r) ∧ Is r (fop .mul (difF wn hn bs bs2 x y e) (difF wn hn bs bs2 x y e)) ∧ Ext U U' := by
  have h1 := hv.1.2.1
  have h2 := hv.1.2.2.2.1
  have hw1 : IntKind.i64.wrap ((x : Int) - (e : Int)) = (x : Int) - (e : Int) := wrap_small _ (by omega) (by omega)
  have hA := fun (W : World) (hx' : Ext U W) => about_any gl wn hn (some ⟨gb, off, none⟩) n c bs (x : Int) (y : Int) W (hB.ext hx') ⟨hlen, fun _ => ⟨gb, off, rfl, hl.ext hx'⟩⟩ hv
  have hB' := fun (W : World) (hx' : Ext U W) => about_any gr wn hn (some ⟨gb2, off2, none⟩) n c2 bs2 ((x : Int) - (e : Int)) (y : Int) W (hB2.ext hx') ⟨hlen2, fun _ => ⟨gb2, off2, rfl, hl2.ext hx'⟩⟩ hv
  have hwa := wd_at hwd (cellN wn (clampI (x : Int) wn) (clampI (y : Int) hn))
  have hwb := wd_at hwd2 (cellN wn (clampI ((x : Int) - (e : Int)) wn) (clampI (y : Int) hn))
  have hF : difF wn hn bs bs2 x y e = fop .sub (bs.getD (cellN wn (clampI (x : Int) wn) (clampI (y : Int) hn)) 0) (bs2.getD (cellN wn (clampI ((x : Int) - (e : Int)) wn) (clampI (y : Int) hn)) 0) := rfl
  generalize difF wn hn bs bs2 x y e = D at hF ⊢
  generalize bs.getD (cellN wn (clampI (x : Int) wn) (clampI (y : Int) hn)) 0 = va at hA hwa hF
  generalize bs2.getD (cellN wn (clampI ((x : Int) - (e : Int)) wn) (clampI (y : Int) hn)) 0 = vb at hB' hwb hF
  have HA := Lib.hid hA
  have HBB := Lib.hid hB'
  have HF := Lib.hid hF
  clear hF hA hB' hB hB2 hl hlen hwd hl2 hlen2 hwd2 hv
  go_enter Try.func64, Try.ntmps64
  go_wp2_with fail
  refine (HA.out _ (Ext.refl _)).mono ?_
  rintro e1 w1 ⟨rfl, hx1⟩
  go_wp2_with fail
  refine (HBB.out _ hx1).mono ?_
  rintro e2 w2 ⟨rfl, hx2⟩
  go_wp2
  go_ret
  refine ⟨_, rfl, ?_, ?_⟩
  · exact Is.op (by rw [HF.out]; exact flR_is _ _ _ _) (by rw [HF.out]; exact flR_is _ _ _ _) (flR_is _ _ _ _)
  · repeat (first | with_reducible exact hx1.trans hx2 | (with_reducible refine Ext.drewN ?_ _))
set_option maxHeartbeats 1000000 in
theorem sz1_any (wn hn dn gb off n c gb2 off2 c2 : Nat) (bs bs2 : List Nat) (gl gr : Nat) (x y e : Nat) (U : World) (hB : Box3 U gl (.int .i64 wn) (.int .i64 hn) (.slice (some ⟨gb, off, none⟩) n c)) (hB2 : Box3 U gr (.int .i64 wn) (.int .i64 hn) (.slice (some ⟨gb2, off2, none⟩) n c2)) (hl : Lies U gb off bs) (hlen : bs.length = n) (hwd : Words bs) (hl2 : Lies U gb2 off2 bs2) (hlen2 : bs2.length = n) (hwd2 : Words bs2) (hv : VMap wn hn n) (hx : x < wn) (hy : y < hn) (he : e < 8) :
    Calls Try.prog 69 #[.int .i64 x, .int .i64 y, .int .i64 e, .pointer (some ⟨gl, 0, none⟩), .pointer (some ⟨gr, 0, none⟩)] U fun e' U' => ∃ r, e' = .returned (.float .f32 r) ∧ Is r (absN (difF wn hn bs bs2 x y e)) ∧ Ext U U' := by
  have h1 := hv.1.2.1
  have h2 := hv.1.2.2.2.1
  have hw1 : IntKind.i64.wrap ((x : Int) - (e : Int)) = (x : Int) - (e : Int) := wrap_small _ (by omega) (by omega)
  have hA := fun (W : World) (hx' : Ext U W) => about_any gl wn hn (some ⟨gb, off, none⟩) n c bs (x : Int) (y : Int) W (hB.ext hx') ⟨hlen, fun _ => ⟨gb, off, rfl, hl.ext hx'⟩⟩ hv
  have hB' := fun (W : World) (hx' : Ext U W) => about_any gr wn hn (some ⟨gb2, off2, none⟩) n c2 bs2 ((x : Int) - (e : Int)) (y : Int) W (hB2.ext hx') ⟨hlen2, fun _ => ⟨gb2, off2, rfl, hl2.ext hx'⟩⟩ hv
  have hwa := wd_at hwd (cellN wn (clampI (x : Int) wn) (clampI (y : Int) hn))
  have hwb := wd_at hwd2 (cellN wn (clampI ((x : Int) - (e : Int)) wn) (clampI (y : Int) hn))
  have hF : difF wn hn bs bs2 x y e = fop .sub (bs.getD (cellN wn (clampI (x : Int) wn) (clampI (y : Int) hn)) 0) (bs2.getD (cellN wn (clampI ((x : Int) - (e : Int)) wn) (clampI (y : Int) hn)) 0) := rfl
  generalize difF wn hn bs bs2 x y e = D at hF ⊢
  generalize bs.getD (cellN wn (clampI (x : Int) wn) (clampI (y : Int) hn)) 0 = va at hA hwa hF
  generalize bs2.getD (cellN wn (clampI ((x : Int) - (e : Int)) wn) (clampI (y : Int) hn)) 0 = vb at hB' hwb hF
  have HA := Lib.hid hA
  have HBB := Lib.hid hB'
  have HF := Lib.hid hF
  clear hF hA hB' hB hB2 hl hlen hwd hl2 hlen2 hwd2 hv
  go_enter Try.func69, Try.ntmps69
  go_wp2_with fail
  refine (HA.out _ (Ext.refl _)).mono ?_
  rintro e1 w1 ⟨rfl, hx1⟩
  go_wp2_with fail
  refine (HBB.out _ hx1).mono ?_
  rintro e2 w2 ⟨rfl, hx2⟩
  go_wp2_with (go_at_call 70; refine (abs_any _ (flR_is _ _ _ _).1 _).mono ?_; rintro e w' ⟨rfl, rfl⟩)
  go_ret
  refine ⟨_, rfl, ?_, ?_⟩
  · exact abs_is (by rw [HF.out]; exact flR_is _ _ _ _)
  · repeat (first | with_reducible exact hx1.trans hx2 | (with_reducible refine Ext.drewN ?_ _))
set_option maxHeartbeats 8000000 in
set_option maxRecDepth 8000 in
theorem sqCompare_any (wn hn dn gb off n c gb2 off2 c2 : Nat) (bs bs2 : List Nat) (g g' : Nat) (U : World) (hB : Box3 U g (.int .i64 wn) (.int .i64 hn) (.slice (some ⟨gb, off, none⟩) n c)) (hB2 : Box3 U g' (.int .i64 wn) (.int .i64 hn) (.slice (some ⟨gb2, off2, none⟩) n c2)) (hl : Lies U gb off bs) (hlen : bs.length = n) (hwd : Words bs) (hl2 : Lies U gb2 off2 bs2) (hlen2 : bs2.length = n) (hwd2 : Words bs2) (hv : VMap wn hn n) (hd : 1 ≤ dn ∧ dn ≤ 8) :
    Calls Try.prog 61 #[.pointer (some ⟨g, 0, none⟩), .pointer (some ⟨g', 0, none⟩), .int .i64 dn, .bool true] U fun e U' => ∃ A c' b, e = .returned (.agg #[.int .i64 wn, .int .i64 hn, .int .i64 dn, .slice A b.length c']) ∧ OwnF U' U.heap.size 55 (.slice A b.length c') b ∧ b.map nrm = cells3 (fun (x y e : Nat) => fop .mul (difF wn hn bs bs2 x y e) (difF wn hn bs bs2 x y e)) wn dn (wn * hn * dn) ∧ Ext U U' := by
  obtain ⟨i0, hi, hz0, hz1, hz2⟩ := info_parts infoF
  have hwh : wn * hn ≤ 256 := by
    have h1 := hv.1.2.2.2.2
    have h2 : ((wn * hn : Nat) : Int) = (wn : Int) * (hn : Int) := by simp
    omega
  have h1 : wn ≤ 24 := by have := hv.1.2.1; omega
  have h2 : hn ≤ 24 := by have := hv.1.2.2.2.1; omega
  obtain ⟨F, hFd⟩ : ∃ F : Nat → Nat → Nat → Nat, F = fun (x y e : Nat) => fop .mul (difF wn hn bs bs2 x y e) (difF wn hn bs bs2 x y e) := ⟨_, rfl⟩
  rw [← hFd]
  have HA := Lib.hid (fun (W : World) (hx' : Ext U W) (x y : Nat) => l02At_any g wn hn (some ⟨gb, off, none⟩) n c bs (x : Int) (y : Int) W (hB.ext hx') ⟨hlen, fun _ => ⟨gb, off, rfl, hl.ext hx'⟩⟩ hv)
  have HBB := Lib.hid (fun (W : World) (hx' : Ext U W) (x y : Int) => l02At_any g' wn hn (some ⟨gb2, off2, none⟩) n c2 bs2 x y W (hB2.ext hx') ⟨hlen2, fun _ => ⟨gb2, off2, rfl, hl2.ext hx'⟩⟩ hv)
  have HP := Lib.hid (fun k j l (hk : k < hn) (hj : j < wn) (hl : l < dn) => cube_le hwh hd.2 hk hj hl)
  have HV := Lib.hid (fun (j k l : Nat) => (⟨congrFun (congrFun (congrFun hFd j) k) l, rfl⟩ : F j k l = fop .mul (difF wn hn bs bs2 j k l) (difF wn hn bs bs2 j k l) ∧ difF wn hn bs bs2 j k l = fop .sub (bs.getD (cellN wn (clampI (j : Int) wn) (clampI (k : Int) hn)) 0) (bs2.getD (cellN wn (clampI ((j : Int) - (l : Int)) wn) (clampI (k : Int) hn)) 0)))
  have HD8 := Lib.hid hd.2
  have HH := Lib.hid (⟨h1, h2⟩ : wn ≤ 24 ∧ hn ≤ 24)
  clear hv hlen hwd hlen2 hwd2 hl hl2 hFd hd hwh
  go_enter Try.func61, Try.ntmps61
  go_wp2_with fail
  refine wp_at (X := fun w' => Ext U w' ∧ U.heap.size + 1 ≤ w'.heap.size ∧ Box3 w' g (.int .i64 wn) (.int .i64 hn) (.slice (some ⟨gb, off, none⟩) n c) ∧ Res4 w' U.heap.size) ⟨(Ext.refl _).alloc _, by simp, hB.ext ((Ext.refl _).alloc _), ⟨by simp [go_sem], by simp [go_sem], by simp [go_sem], by simp [go_sem], by simp [go_sem], by simp [go_sem], by simp [go_sem], by simp [go_sem]⟩⟩ ?_
  rintro w0 ⟨hx0, hs0, hB0, hres⟩
  have ⟨p0, p1, p2⟩ := hB0
  clear hB hB2
  refine region_wx 11 [] (by kernel_rfl) (by kernel_rfl) ?_
  simp only [List.take_succ_cons, List.take_zero, List.drop_succ_cons, List.drop_zero]
  repeat ((first | refine wx_skip rfl ?_ | refine wx_nilCheck rfl rfl _ rfl _ rfl ?_ | (refine wx_float rfl rfl _ _ _ _ _ _ _ rfl rfl rfl rfl ?_; intro r hr) | (refine wx_k rfl rfl rfl (fun K hK => ?_); go_big_quiet_op; refine hK _ ?_; clear hK K) | (refine wx_alloc rfl rfl 27 rfl #[.int .i64 0, .int .i64 0, .int .i64 0, .slice none 0 0] (fun Z => by simp [Instr.alloc, go_sem]) ?_; intro Va hVa)); (try simp only [Act.put, List.setIfInBounds_toArray, List.set_cons_zero, List.set_cons_succ]); (try simp only [List.tail_nil]))
  refine wx_nil (fun W hW hF => ?_)
  have hAW : Ext (Va.alloc (.cells #[.int .i64 0, .int .i64 0, .int .i64 0, .slice none 0 0] 27)) W := hF 10
  have hAg := hVa.size
  have rB := (⟨by simp [go_sem], by simp [go_sem], by simp [go_sem], by simp [go_sem], by simp [go_sem], by simp [go_sem], by simp [go_sem], by simp [go_sem]⟩ : Res4 (Va.alloc (.cells #[.int .i64 0, .int .i64 0, .int .i64 0, .slice none 0 0] 27)) Va.heap.size).ext hAW
  have rH : W.heap[Va.heap.size]? = some (.cells #[.int .i64 0, .int .i64 0, .int .i64 0, .slice none 0 0] 27 (0, 0)) := (hAW.block _ (by simp)).trans (heap_alloc_new _ _)
  clear hAW
  generalize Va.heap.size = go at hAg rB rH ⊢
  have hB1 := hB0.ext hW
  have hgo := rB.lt
  clear hF p0 p1 p2 hVa
  have ⟨r0, r1, r2, r3, rf0, rf1, rf2, rf3⟩ := rB
  have ⟨p0, p1, p2⟩ := hB1
  go_wp2_with fail
  clear p0 p1 p2
  go_loopw [10] (fun y wr => ∃ (k : Nat) (A : Option Addr) (c' : Nat) (b : List Nat), k ≤ hn ∧ y = .int .i64 k ∧ Acc2 w0 wr w0.heap.size 55 27 go 3 A c' b (cells3 F wn dn (k * wn * dn)) ∧ wr.cell? ⟨go, 0, none⟩ = some (.int .i64 wn) ∧ wr.cell? ⟨go, 1, none⟩ = some (.int .i64 hn) ∧ wr.cell? ⟨go, 2, none⟩ = some (.int .i64 dn)) (fun y _ => hn - (intOf y).toNat)
  case atStart =>
    refine ⟨0, none, 0, [], Nat.zero_le _, rfl, ⟨OwnF.nil _ _ _, ?_, by simp [go_sem, *], by simp [go_sem, *], by simp [cells3], ?_, Nat.le_refl _, hAg⟩, by simp [go_sem, *], by first | (simp [go_sem, *]; done) | exact cell_set_eq (v := .int .i64 hn) (by simp [go_sem, *]), by simp [go_sem, *]⟩
    · repeat (first | with_reducible exact ⟨_, _, rH⟩ | with_reducible refine blk_set ?_)
    · repeat (first | with_reducible exact hW | (with_reducible refine Ext.setCell ?_ (by dsimp only; omega) _))
  case round =>
    clear r0 r1 r2 r3 rf0 rf1 rf2 rf3 rB rH hB1 hgo hW
    obtain ⟨k, A, c', b, hk, rfl, hacc, o0, o1, o2⟩ := hrel
    have ⟨q1, q2⟩ := HH.out
    have ⟨p0, p1, p2⟩ := hB0.ext hacc.ext
    by_cases hlt : k < hn
    · go_wp2_with fail
      clear p0 p1 p2
      go_loopw [11] (fun x wq => ∃ (j : Nat) (A : Option Addr) (c' : Nat) (b : List Nat), j ≤ wn ∧ x = .int .i64 j ∧ Acc2 w0 wq w0.heap.size 55 27 go 3 A c' b (cells3 F wn dn ((k * wn + j) * dn)) ∧ wq.cell? ⟨go, 0, none⟩ = some (.int .i64 wn) ∧ wq.cell? ⟨go, 1, none⟩ = some (.int .i64 hn) ∧ wq.cell? ⟨go, 2, none⟩ = some (.int .i64 dn)) (fun x _ => wn - (intOf x).toNat)
      case atStart => exact ⟨0, A, c', b, Nat.zero_le _, rfl, hacc, o0, o1, o2⟩
      case round =>
        clear hacc o0 o1 o2
        obtain ⟨j, A, c', b, hj, rfl, hacc, o0, o1, o2⟩ := hrel
        have ⟨p0, p1, p2⟩ := hB0.ext hacc.ext
        by_cases hltj : j < wn
        · go_wp2_with fail
          clear p0 p1 p2
          go_loopw [12] (fun z wp => ∃ (l : Nat) (A : Option Addr) (c' : Nat) (b : List Nat), l ≤ dn ∧ z = .int .i64 l ∧ Acc2 w0 wp w0.heap.size 55 27 go 3 A c' b (cells3 F wn dn ((k * wn + j) * dn + l)) ∧ wp.cell? ⟨go, 0, none⟩ = some (.int .i64 wn) ∧ wp.cell? ⟨go, 1, none⟩ = some (.int .i64 hn) ∧ wp.cell? ⟨go, 2, none⟩ = some (.int .i64 dn)) (fun z _ => dn - (intOf z).toNat)
          case atStart => exact ⟨0, A, c', b, Nat.zero_le _, rfl, hacc, o0, o1, o2⟩
          case round =>
            clear hacc o0 o1 o2
            obtain ⟨l, A, c', b, hl, rfl, hacc, o0, o1, o2⟩ := hrel
            have hd8 := HD8.out
            by_cases hltl : l < dn
            · have hw1 : IntKind.i64.wrap ((j : Int) - (l : Int)) = (j : Int) - (l : Int) := wrap_small _ (by omega) (by omega)
              have hEE := hx0.trans hacc.ext
              have HC1 := Lib.hid (HA.out _ hEE j k)
              have HC2 := Lib.hid (fun W hW => HBB.out W (hEE.trans hW) ((j : Int) - (l : Int)) (k : Int))
              obtain ⟨hval, hvd⟩ := HV.out j k l
              generalize bs.getD (cellN wn (clampI (j : Int) wn) (clampI (k : Int) hn)) 0 = va at HC1 hvd
              generalize bs2.getD (cellN wn (clampI ((j : Int) - (l : Int)) wn) (clampI (k : Int) hn)) 0 = vb at HC2 hvd
              rw [hvd] at hval
              have HVAL := Lib.hid hval
              have HVD := Lib.hid hvd
              clear hval hvd
              go_wp2_with fail
              refine HC1.out.mono ?_
              rintro e w3 ⟨rfl, hx3⟩
              go_wp2_with fail
              refine (HC2.out _ hx3).mono ?_
              rintro e w4 ⟨rfl, hx4⟩
              have hcO := cell_ext hacc.hdr (hx3.trans hx4)
              have hfO := frozen_ext hacc.fr hacc.hdr (hx3.trans hx4)
              have HI : ∀ Q Q' Q'', Hid (Is (flR .mul Q (flR .sub Q' va vb) (flR .sub Q'' va vb)) (F j k l)) := fun Q Q' Q'' => Lib.hid (by rw [HVAL.out]; exact Is.op (flR_is _ _ _ _) (flR_is _ _ _ _) (flR_is _ _ _ _))
              go_wp2_with (at_builtin; refine Hid.out ?_)
              refine Lib.hid ?_
              generalize hr : flR BinOp.mul _ _ _ = r
              have HR : Hid (Is r (F j k l)) := Lib.hid (by rw [← hr]; exact (HI _ _ _).out)
              clear hr HI
              obtain ⟨HC, hHC⟩ : ∃ g, g = w4.heap.size := ⟨_, rfl⟩
              refine wl_at (X := fun w' => Ext wr w' ∧ w'.cell? ⟨HC, 0, none⟩ = some (fl r)) ?_ ?_
              · refine ⟨?_, ?_⟩
                · repeat (first | with_reducible exact hx3.trans hx4 | (with_reducible refine Ext.drewN ?_ _) | (with_reducible refine Ext.alloc ?_ _))
                · rw [hHC]; first | exact cell_fresh0 _ _ _ | exact cell_fresh _ _ _ _
              rintro Z ⟨hZ, hcell⟩
              rw [show w4.heap.size = HC from hHC.symm]
              clear hHC hx3 hx4
              have hown1 := hacc.own.ext hZ
              have hhdr := hacc.hdr
              have hcl := hacc.len
              rw [cells3_length] at hcl
              have hp := HP.out k j l hlt hltj hltl
              have hsz1 := hacc.ext.size
              have hsz2 := hZ.size
              refine wpList_append_own _ rfl _ _ _ rfl w0.heap.size 55 i0 (.float .f32 0) 1 4 Try.underlying22 hi hz0 hz1 hz2 rfl (by omega) (.slice A b.length c') b.length (b.map fl) (by rfl) hown1 ⟨HC, 0, none⟩ 1 1 [fl r] (by rfl) rfl (one_new hcell) (one_word r) (by unfold maxLen; omega) (by omega) (by omega) ?_
              intro v' w2' ho2 hg2 _
              obtain ⟨A', c2', b', rfl, hacc', ⟨hh2, hf2⟩, hold, holdf⟩ := hacc.push (by decide) hZ (rs := [r]) (Xs := [F j k l]) ho2 hg2 (by simp [HR.out.2])
              have n0 := hold _ _ _ o0 (hacc.ne (by decide)) (by simp)
              have n1 := hold _ _ _ o1 (hacc.ne (by decide)) (by simp)
              have n2 := hold _ _ _ o2 (hacc.ne (by decide)) (by simp)
              rw [← cells3_step F wn dn k j l hltj hltl] at hacc'
              clear hold holdf hown1 hhdr hacc ho2 hg2 hcell hZ o0 o1 o2 hp hcl
              go_wp2
              go_roundw
              case rel => exact ⟨l + 1, A', c2', b', by omega, by go_num, hacc', n0, n1, n2⟩
              case measure => simp [intOf]; omega
            · have e1 : l = dn := by omega
              rw [e1, cells3_cell] at hacc
              go_wp2
              go_roundw
              case rel => exact ⟨j + 1, A, c', b, by omega, by go_num, hacc, o0, o1, o2⟩
              case measure => simp [intOf]; omega
        · have e1 : j = wn := by omega
          rw [e1, cells3_row] at hacc
          go_wp2
          go_roundw
          case rel => exact ⟨k + 1, A, c', b, by omega, by go_num, hacc, o0, o1, o2⟩
          case measure => simp [intOf]; omega
    · have e1 : k = hn := by omega
      rw [e1, Nat.mul_comm hn wn] at hacc
      have ⟨c0, c1, c2, c3, f0, f1, f2, f3⟩ := hres.ext hacc.ext
      have hhdr := hacc.hdr
      have hE := hx0.trans hacc.ext
      have hown := hacc.own
      have hlike := hacc.like
      clear hacc
      go_wp2
      refine bodyPost_ret (v := .agg #[.int .i64 wn, .int .i64 hn, .int .i64 dn, .slice A b.length c']) (by simp [results, Try.results61, go_sem, *]) rfl ⟨A, c', b, rfl, ?_, hlike, ?_⟩
      · refine OwnF.weaken (base := w0.heap.size) ?_ (by omega)
        repeat (first | (with_reducible exact hown) | (with_reducible refine OwnF.set_below ?_ (by dsimp only; omega) _))
      · repeat (first | (with_reducible exact hE) | (with_reducible refine Ext.setCell ?_ (by dsimp only; omega) _))
set_option maxHeartbeats 8000000 in
set_option maxRecDepth 8000 in
theorem szCompare_any (wn hn dn gb off n c gb2 off2 c2 : Nat) (bs bs2 : List Nat) (g g' : Nat) (U : World) (hB : Box3 U g (.int .i64 wn) (.int .i64 hn) (.slice (some ⟨gb, off, none⟩) n c)) (hB2 : Box3 U g' (.int .i64 wn) (.int .i64 hn) (.slice (some ⟨gb2, off2, none⟩) n c2)) (hl : Lies U gb off bs) (hlen : bs.length = n) (hwd : Words bs) (hl2 : Lies U gb2 off2 bs2) (hlen2 : bs2.length = n) (hwd2 : Words bs2) (hv : VMap wn hn n) (hd : 1 ≤ dn ∧ dn ≤ 8) :
    Calls Try.prog 61 #[.pointer (some ⟨g, 0, none⟩), .pointer (some ⟨g', 0, none⟩), .int .i64 dn, .bool false] U fun e U' => ∃ A c' b, e = .returned (.agg #[.int .i64 wn, .int .i64 hn, .int .i64 dn, .slice A b.length c']) ∧ OwnF U' U.heap.size 55 (.slice A b.length c') b ∧ b.map nrm = cells3 (fun (x y e : Nat) => absN (difF wn hn bs bs2 x y e)) wn dn (wn * hn * dn) ∧ Ext U U' := by
  obtain ⟨i0, hi, hz0, hz1, hz2⟩ := info_parts infoF
  have hwh : wn * hn ≤ 256 := by
    have h1 := hv.1.2.2.2.2
    have h2 : ((wn * hn : Nat) : Int) = (wn : Int) * (hn : Int) := by simp
    omega
  have h1 : wn ≤ 24 := by have := hv.1.2.1; omega
  have h2 : hn ≤ 24 := by have := hv.1.2.2.2.1; omega
  obtain ⟨F, hFd⟩ : ∃ F : Nat → Nat → Nat → Nat, F = fun (x y e : Nat) => absN (difF wn hn bs bs2 x y e) := ⟨_, rfl⟩
  rw [← hFd]
  have HA := Lib.hid (fun (W : World) (hx' : Ext U W) (x y : Nat) => l02At_any g wn hn (some ⟨gb, off, none⟩) n c bs (x : Int) (y : Int) W (hB.ext hx') ⟨hlen, fun _ => ⟨gb, off, rfl, hl.ext hx'⟩⟩ hv)
  have HBB := Lib.hid (fun (W : World) (hx' : Ext U W) (x y : Int) => l02At_any g' wn hn (some ⟨gb2, off2, none⟩) n c2 bs2 x y W (hB2.ext hx') ⟨hlen2, fun _ => ⟨gb2, off2, rfl, hl2.ext hx'⟩⟩ hv)
  have HP := Lib.hid (fun k j l (hk : k < hn) (hj : j < wn) (hl : l < dn) => cube_le hwh hd.2 hk hj hl)
  have HV := Lib.hid (fun (j k l : Nat) => (⟨congrFun (congrFun (congrFun hFd j) k) l, rfl⟩ : F j k l = absN (difF wn hn bs bs2 j k l) ∧ difF wn hn bs bs2 j k l = fop .sub (bs.getD (cellN wn (clampI (j : Int) wn) (clampI (k : Int) hn)) 0) (bs2.getD (cellN wn (clampI ((j : Int) - (l : Int)) wn) (clampI (k : Int) hn)) 0)))
  have HD8 := Lib.hid hd.2
  have HH := Lib.hid (⟨h1, h2⟩ : wn ≤ 24 ∧ hn ≤ 24)
  clear hv hlen hwd hlen2 hwd2 hl hl2 hFd hd hwh
  go_enter Try.func61, Try.ntmps61
  go_wp2_with fail
  refine wp_at (X := fun w' => Ext U w' ∧ U.heap.size + 1 ≤ w'.heap.size ∧ Box3 w' g (.int .i64 wn) (.int .i64 hn) (.slice (some ⟨gb, off, none⟩) n c) ∧ Res4 w' U.heap.size) ⟨(Ext.refl _).alloc _, by simp, hB.ext ((Ext.refl _).alloc _), ⟨by simp [go_sem], by simp [go_sem], by simp [go_sem], by simp [go_sem], by simp [go_sem], by simp [go_sem], by simp [go_sem], by simp [go_sem]⟩⟩ ?_
  rintro w0 ⟨hx0, hs0, hB0, hres⟩
  have ⟨p0, p1, p2⟩ := hB0
  clear hB hB2
  refine region_wx 11 [] (by kernel_rfl) (by kernel_rfl) ?_
  simp only [List.take_succ_cons, List.take_zero, List.drop_succ_cons, List.drop_zero]
  repeat ((first | refine wx_skip rfl ?_ | refine wx_nilCheck rfl rfl _ rfl _ rfl ?_ | (refine wx_float rfl rfl _ _ _ _ _ _ _ rfl rfl rfl rfl ?_; intro r hr) | (refine wx_k rfl rfl rfl (fun K hK => ?_); go_big_quiet_op; refine hK _ ?_; clear hK K) | (refine wx_alloc rfl rfl 27 rfl #[.int .i64 0, .int .i64 0, .int .i64 0, .slice none 0 0] (fun Z => by simp [Instr.alloc, go_sem]) ?_; intro Va hVa)); (try simp only [Act.put, List.setIfInBounds_toArray, List.set_cons_zero, List.set_cons_succ]); (try simp only [List.tail_nil]))
  refine wx_nil (fun W hW hF => ?_)
  have hAW : Ext (Va.alloc (.cells #[.int .i64 0, .int .i64 0, .int .i64 0, .slice none 0 0] 27)) W := hF 10
  have hAg := hVa.size
  have rB := (⟨by simp [go_sem], by simp [go_sem], by simp [go_sem], by simp [go_sem], by simp [go_sem], by simp [go_sem], by simp [go_sem], by simp [go_sem]⟩ : Res4 (Va.alloc (.cells #[.int .i64 0, .int .i64 0, .int .i64 0, .slice none 0 0] 27)) Va.heap.size).ext hAW
  have rH : W.heap[Va.heap.size]? = some (.cells #[.int .i64 0, .int .i64 0, .int .i64 0, .slice none 0 0] 27 (0, 0)) := (hAW.block _ (by simp)).trans (heap_alloc_new _ _)
  clear hAW
  generalize Va.heap.size = go at hAg rB rH ⊢
  have hB1 := hB0.ext hW
  have hgo := rB.lt
  clear hF p0 p1 p2 hVa
  have ⟨r0, r1, r2, r3, rf0, rf1, rf2, rf3⟩ := rB
  have ⟨p0, p1, p2⟩ := hB1
  go_wp2_with fail
  clear p0 p1 p2
  go_loopw [10] (fun y wr => ∃ (k : Nat) (A : Option Addr) (c' : Nat) (b : List Nat), k ≤ hn ∧ y = .int .i64 k ∧ Acc2 w0 wr w0.heap.size 55 27 go 3 A c' b (cells3 F wn dn (k * wn * dn)) ∧ wr.cell? ⟨go, 0, none⟩ = some (.int .i64 wn) ∧ wr.cell? ⟨go, 1, none⟩ = some (.int .i64 hn) ∧ wr.cell? ⟨go, 2, none⟩ = some (.int .i64 dn)) (fun y _ => hn - (intOf y).toNat)
  case atStart =>
    refine ⟨0, none, 0, [], Nat.zero_le _, rfl, ⟨OwnF.nil _ _ _, ?_, by simp [go_sem, *], by simp [go_sem, *], by simp [cells3], ?_, Nat.le_refl _, hAg⟩, by simp [go_sem, *], by first | (simp [go_sem, *]; done) | exact cell_set_eq (v := .int .i64 hn) (by simp [go_sem, *]), by simp [go_sem, *]⟩
    · repeat (first | with_reducible exact ⟨_, _, rH⟩ | with_reducible refine blk_set ?_)
    · repeat (first | with_reducible exact hW | (with_reducible refine Ext.setCell ?_ (by dsimp only; omega) _))
  case round =>
    clear r0 r1 r2 r3 rf0 rf1 rf2 rf3 rB rH hB1 hgo hW
    obtain ⟨k, A, c', b, hk, rfl, hacc, o0, o1, o2⟩ := hrel
    have ⟨q1, q2⟩ := HH.out
    have ⟨p0, p1, p2⟩ := hB0.ext hacc.ext
    by_cases hlt : k < hn
    · go_wp2_with fail
      clear p0 p1 p2
      go_loopw [11] (fun x wq => ∃ (j : Nat) (A : Option Addr) (c' : Nat) (b : List Nat), j ≤ wn ∧ x = .int .i64 j ∧ Acc2 w0 wq w0.heap.size 55 27 go 3 A c' b (cells3 F wn dn ((k * wn + j) * dn)) ∧ wq.cell? ⟨go, 0, none⟩ = some (.int .i64 wn) ∧ wq.cell? ⟨go, 1, none⟩ = some (.int .i64 hn) ∧ wq.cell? ⟨go, 2, none⟩ = some (.int .i64 dn)) (fun x _ => wn - (intOf x).toNat)
      case atStart => exact ⟨0, A, c', b, Nat.zero_le _, rfl, hacc, o0, o1, o2⟩
      case round =>
        clear hacc o0 o1 o2
        obtain ⟨j, A, c', b, hj, rfl, hacc, o0, o1, o2⟩ := hrel
        have ⟨p0, p1, p2⟩ := hB0.ext hacc.ext
        by_cases hltj : j < wn
        · go_wp2_with fail
          clear p0 p1 p2
          go_loopw [12] (fun z wp => ∃ (l : Nat) (A : Option Addr) (c' : Nat) (b : List Nat), l ≤ dn ∧ z = .int .i64 l ∧ Acc2 w0 wp w0.heap.size 55 27 go 3 A c' b (cells3 F wn dn ((k * wn + j) * dn + l)) ∧ wp.cell? ⟨go, 0, none⟩ = some (.int .i64 wn) ∧ wp.cell? ⟨go, 1, none⟩ = some (.int .i64 hn) ∧ wp.cell? ⟨go, 2, none⟩ = some (.int .i64 dn)) (fun z _ => dn - (intOf z).toNat)
          case atStart => exact ⟨0, A, c', b, Nat.zero_le _, rfl, hacc, o0, o1, o2⟩
          case round =>
            clear hacc o0 o1 o2
            obtain ⟨l, A, c', b, hl, rfl, hacc, o0, o1, o2⟩ := hrel
            have hd8 := HD8.out
            by_cases hltl : l < dn
            · have hw1 : IntKind.i64.wrap ((j : Int) - (l : Int)) = (j : Int) - (l : Int) := wrap_small _ (by omega) (by omega)
              have hEE := hx0.trans hacc.ext
              have HC1 := Lib.hid (HA.out _ hEE j k)
              have HC2 := Lib.hid (fun W hW => HBB.out W (hEE.trans hW) ((j : Int) - (l : Int)) (k : Int))
              obtain ⟨hval, hvd⟩ := HV.out j k l
              generalize bs.getD (cellN wn (clampI (j : Int) wn) (clampI (k : Int) hn)) 0 = va at HC1 hvd
              generalize bs2.getD (cellN wn (clampI ((j : Int) - (l : Int)) wn) (clampI (k : Int) hn)) 0 = vb at HC2 hvd
              generalize difF wn hn bs bs2 j k l = D at hval hvd
              have HVAL := Lib.hid hval
              have HVD := Lib.hid hvd
              clear hval hvd
              go_wp2_with fail
              refine HC1.out.mono ?_
              rintro e w3 ⟨rfl, hx3⟩
              go_wp2_with fail
              refine (HC2.out _ hx3).mono ?_
              rintro e w4 ⟨rfl, hx4⟩
              have hcO := cell_ext hacc.hdr (hx3.trans hx4)
              have hfO := frozen_ext hacc.fr hacc.hdr (hx3.trans hx4)
              have HI : ∀ Q, Hid (Is (flR .sub Q va vb) D) := fun Q => Lib.hid (by rw [HVD.out]; exact flR_is _ _ _ _)
              go_wp2_with fail
              generalize hq : flR BinOp.sub _ va vb = q
              have HQ : Hid (Is q D) := Lib.hid (by rw [← hq]; exact (HI _).out)
              clear hq HI
              have HSZ := Lib.hid (fun W => l03Size_any q D HQ.out W)
              refine region_wx 5 [none, none, none, some (fun u W => ∃ r, u = .float .f32 r ∧ Is r (absN D))] (by kernel_rfl) (by kernel_rfl) ?_
              simp only [List.take_succ_cons, List.take_zero, List.drop_succ_cons, List.drop_zero]
              repeat ((first | refine wx_skip rfl ?_ | refine wx_nilCheck rfl rfl _ rfl _ rfl ?_ | (refine wx_float rfl rfl _ _ _ _ _ _ _ rfl rfl rfl rfl ?_; intro r hr) | (refine wx_k rfl rfl rfl (fun K hK => ?_); go_big_quiet_op; refine hK _ ?_; clear hK K) | (refine wx_callR _ rfl rfl 96 _ _ rfl (by kernel_rfl) (fun Wc hWc hFc => ?_) ?_; (· go_simp; refine (HSZ.out Wc).mono ?_; rintro e w' ⟨r, rfl, hr, hx⟩; exact ⟨_, rfl, ⟨r, rfl, hr⟩, hx⟩); rintro u VV hVV ⟨r, rfl, hr⟩) | (refine wx_bs rfl rfl _ _ _ rfl _ rfl (fun Z => bs1 _ Z) ?_; intro HC V2 hV2 hcell0)); (try simp only [Act.put, List.setIfInBounds_toArray, List.set_cons_zero, List.set_cons_succ]); (try simp only [List.tail_cons]))
              refine wx_nil (fun W hW hF => ?_)
              have hVW : Ext V2 W := hF 4
              have hcell := cell_ext hcell0 hVW
              have HR : Hid (Is r (F j k l)) := Lib.hid (by rw [HVAL.out]; exact hr)
              have hZ : Ext wr W := Ext.trans (by repeat (first | with_reducible exact hx3.trans hx4 | (with_reducible refine Ext.drewN ?_ _))) hW
              clear hF hVW hcell0 hV2 hVV hW hr hx3 hx4 HSZ
              have hown1 := hacc.own.ext hZ
              have hhdr := hacc.hdr
              have hcl := hacc.len
              rw [cells3_length] at hcl
              have hp := HP.out k j l hlt hltj hltl
              have hsz1 := hacc.ext.size
              have hsz2 := hZ.size
              refine wpList_append_own _ rfl _ _ _ rfl w0.heap.size 55 i0 (.float .f32 0) 1 4 Try.underlying22 hi hz0 hz1 hz2 rfl (by omega) (.slice A b.length c') b.length (b.map fl) (by rfl) hown1 ⟨HC, 0, none⟩ 1 1 [fl r] (by rfl) rfl (one_new hcell) (one_word r) (by unfold maxLen; omega) (by omega) (by omega) ?_
              intro v' w2' ho2 hg2 _
              obtain ⟨A', c2', b', rfl, hacc', ⟨hh2, hf2⟩, hold, holdf⟩ := hacc.push (by decide) hZ (rs := [r]) (Xs := [F j k l]) ho2 hg2 (by simp [HR.out.2])
              have n0 := hold _ _ _ o0 (hacc.ne (by decide)) (by simp)
              have n1 := hold _ _ _ o1 (hacc.ne (by decide)) (by simp)
              have n2 := hold _ _ _ o2 (hacc.ne (by decide)) (by simp)
              rw [← cells3_step F wn dn k j l hltj hltl] at hacc'
              clear hold holdf hown1 hhdr hacc ho2 hg2 hcell hZ o0 o1 o2 hp hcl
              go_wp2
              go_roundw
              case rel => exact ⟨l + 1, A', c2', b', by omega, by go_num, hacc', n0, n1, n2⟩
              case measure => simp [intOf]; omega
            · have e1 : l = dn := by omega
              rw [e1, cells3_cell] at hacc
              go_wp2
              go_roundw
              case rel => exact ⟨j + 1, A, c', b, by omega, by go_num, hacc, o0, o1, o2⟩
              case measure => simp [intOf]; omega
        · have e1 : j = wn := by omega
          rw [e1, cells3_row] at hacc
          go_wp2
          go_roundw
          case rel => exact ⟨k + 1, A, c', b, by omega, by go_num, hacc, o0, o1, o2⟩
          case measure => simp [intOf]; omega
    · have e1 : k = hn := by omega
      rw [e1, Nat.mul_comm hn wn] at hacc
      have ⟨c0, c1, c2, c3, f0, f1, f2, f3⟩ := hres.ext hacc.ext
      have hhdr := hacc.hdr
      have hE := hx0.trans hacc.ext
      have hown := hacc.own
      have hlike := hacc.like
      clear hacc
      go_wp2
      refine bodyPost_ret (v := .agg #[.int .i64 wn, .int .i64 hn, .int .i64 dn, .slice A b.length c']) (by simp [results, Try.results61, go_sem, *]) rfl ⟨A, c', b, rfl, ?_, hlike, ?_⟩
      · refine OwnF.weaken (base := w0.heap.size) ?_ (by omega)
        repeat (first | (with_reducible exact hown) | (with_reducible refine OwnF.set_below ?_ (by dsimp only; omega) _))
      · repeat (first | (with_reducible exact hE) | (with_reducible refine Ext.setCell ?_ (by dsimp only; omega) _))
theorem implSquareVolume_of (z0 z1 : Int) (A : Option Addr) (n c : Nat) (y0 y1 : Int) (A' : Option Addr) (n' c' : Nat) (d : Int) (o0 o1 o2 : Int) (ok : Bool) (L : List Nat) (U : World)
    (hcall : ∀ w0, Ext U w0 → Box3 w0 U.heap.size (.int .i64 z0) (.int .i64 z1) (.slice A n c) → Box3 w0 (U.heap.size + 1) (.int .i64 y0) (.int .i64 y1) (.slice A' n' c') → Calls Try.prog 63 #[.agg #[.int .i64 z0, .int .i64 z1, .slice A n c], .agg #[.int .i64 y0, .int .i64 y1, .slice A' n' c'], .int .i64 d, .func (.func 64) #[] #[.pointer (some ⟨U.heap.size, 0, none⟩), .pointer (some ⟨U.heap.size + 1, 0, none⟩)]] w0 fun e U' => ∃ A c' b, e = .returned (.tuple #[.agg #[.int .i64 o0, .int .i64 o1, .int .i64 o2, .slice A b.length c'], .bool ok]) ∧ OwnF U' w0.heap.size 55 (.slice A b.length c') b ∧ b.map nrm = L ∧ Ext w0 U') :
    Calls Try.prog 17 #[.agg #[.int .i64 z0, .int .i64 z1, .slice A n c], .agg #[.int .i64 y0, .int .i64 y1, .slice A' n' c'], .int .i64 d] U fun e U' => ∃ A c' b, e = .returned (.tuple #[.agg #[.int .i64 o0, .int .i64 o1, .int .i64 o2, .slice A b.length c'], .bool ok]) ∧ OwnF U' U.heap.size 55 (.slice A b.length c') b ∧ b.map nrm = L ∧ Ext U U' := by
  have HK := Lib.hid hcall
  clear hcall
  go_enter Try.func17, Try.ntmps17
  go_wp2_with fail
  refine calls_at (X := fun w' => Ext U w' ∧ Box3 w' U.heap.size (.int .i64 z0) (.int .i64 z1) (.slice A n c) ∧ Box3 w' (U.heap.size + 1) (.int .i64 y0) (.int .i64 y1) (.slice A' n' c') ∧ Res4 w' (U.heap.size + 1 + 1) ∧ U.heap.size + 1 + 1 + 1 ≤ w'.heap.size) ⟨(((Ext.refl _).alloc _).alloc _).alloc _, ⟨by simp [go_sem], by simp [go_sem], by simp [go_sem]⟩, ⟨by simp [go_sem], by simp [go_sem], by simp [go_sem]⟩, ⟨by simp [go_sem], by simp [go_sem], by simp [go_sem], by simp [go_sem], by simp [go_sem], by simp [go_sem], by simp [go_sem], by simp [go_sem]⟩, by simp⟩ ?_
  rintro w0 ⟨hx0, hb0, hb1, hr0, hs0⟩
  refine (HK.out w0 hx0 hb0 hb1).mono ?_
  rintro e w1 ⟨A1, cc, b1, rfl, ho, hm, hx⟩
  have ⟨c0, c1, c2, c3, f0, f1, f2, f3⟩ := hr0.ext hx
  have hE2 := hx0.trans hx
  clear hx hx0 hb0 hb1 hr0
  go_wp2
  refine bodyPost_ret (v := .tuple #[.agg #[.int .i64 o0, .int .i64 o1, .int .i64 o2, .slice A1 b1.length cc], .bool ok]) (by simp [results, Try.results17, go_sem, *]) rfl ⟨A1, cc, b1, rfl, ?_, hm, ?_⟩
  · refine OwnF.weaken (base := w0.heap.size) ?_ (by omega)
    repeat (first | (with_reducible exact ho) | (with_reducible refine OwnF.set_below ?_ (by dsimp only; omega) _))
  · repeat (first | (with_reducible exact hE2) | (with_reducible refine Ext.setCell ?_ (by dsimp only; omega) _))
theorem specSquareVolume_no (z0 z1 : Int) (A : Option Addr) (n c : Nat) (y0 y1 : Int) (A' : Option Addr) (n' c' : Nat) (d : Int) (hn : n ≤ maxLen) (hn' : n' ≤ maxLen) (hno : ¬ ((VMap z0 z1 n ∧ VMap y0 y1 n' ∧ z0 = y0 ∧ z1 = y1) ∧ 1 ≤ d ∧ d ≤ 8)) (U : World) :
    Calls Try.prog 15 #[.agg #[.int .i64 z0, .int .i64 z1, .slice A n c], .agg #[.int .i64 y0, .int .i64 y1, .slice A' n' c'], .int .i64 d] U fun e U' => ∃ A c' b, e = .returned (.tuple #[.agg #[.int .i64 0, .int .i64 0, .int .i64 0, .slice A b.length c'], .bool false]) ∧ OwnF U' U.heap.size 55 (.slice A b.length c') b ∧ b.map nrm = [] ∧ Ext U U' := by
  have HN := Lib.hid hno
  clear hno
  go_enter Try.func15, Try.ntmps15
  go_wp2_with fail
  refine calls_at (X := fun w' => Ext U w' ∧ Box3 w' U.heap.size (.int .i64 z0) (.int .i64 z1) (.slice A n c) ∧ Box3 w' (U.heap.size + 1) (.int .i64 y0) (.int .i64 y1) (.slice A' n' c') ∧ Res4 w' (U.heap.size + 1 + 1) ∧ U.heap.size + 1 + 1 + 1 ≤ w'.heap.size) ⟨(((Ext.refl _).alloc _).alloc _).alloc _, ⟨by simp [go_sem], by simp [go_sem], by simp [go_sem]⟩, ⟨by simp [go_sem], by simp [go_sem], by simp [go_sem]⟩, ⟨by simp [go_sem], by simp [go_sem], by simp [go_sem], by simp [go_sem], by simp [go_sem], by simp [go_sem], by simp [go_sem], by simp [go_sem]⟩, by simp⟩ ?_
  rintro w0 ⟨hx0, hb0, hb1, hr0, hs0⟩
  refine (l03Pair_no _ _ z0 z1 A n c y0 y1 A' n' c' d _ hn hn' hb0 hb1 HN.out).mono ?_
  rintro e w1 ⟨rfl, hx⟩
  have ⟨c0, c1, c2, c3, f0, f1, f2, f3⟩ := hr0.ext hx
  have hE := hx0.trans hx
  clear hx hx0 hb0 hb1 hr0
  go_wp2
  refine bodyPost_ret (v := .tuple #[.agg #[.int .i64 0, .int .i64 0, .int .i64 0, .slice none 0 0], .bool false]) (by simp [results, Try.results15, go_sem, *]) rfl ⟨none, 0, [], rfl, OwnF.nil _ _ _, rfl, ?_⟩
  repeat (first | (with_reducible exact hE) | (with_reducible refine Ext.setCell ?_ (by dsimp only; omega) _))
theorem specSquareVolume_yes (wn hn dn gb off n c gb2 off2 c2 : Nat) (bs bs2 : List Nat) (U : World) (hl : Lies U gb off bs) (hlen : bs.length = n) (hwd : Words bs) (hl2 : Lies U gb2 off2 bs2) (hlen2 : bs2.length = n) (hwd2 : Words bs2) (hv : VMap wn hn n) (hnm : n ≤ maxLen) (hd : 1 ≤ dn ∧ dn ≤ 8) :
    Calls Try.prog 15 #[.agg #[.int .i64 wn, .int .i64 hn, .slice (some ⟨gb, off, none⟩) n c], .agg #[.int .i64 wn, .int .i64 hn, .slice (some ⟨gb2, off2, none⟩) n c2], .int .i64 dn] U fun e U' => ∃ A c' b, e = .returned (.tuple #[.agg #[.int .i64 wn, .int .i64 hn, .int .i64 dn, .slice A b.length c'], .bool true]) ∧ OwnF U' U.heap.size 55 (.slice A b.length c') b ∧ b.map nrm = cells3 (fun (x y e : Nat) => fop .mul (difF wn hn bs bs2 x y e) (difF wn hn bs bs2 x y e)) wn dn (wn * hn * dn) ∧ Ext U U' := by
  have HV := Lib.hid hv
  have HD : Hid ((1 : Int) ≤ (dn : Int) ∧ (dn : Int) ≤ 8) := Lib.hid (by omega)
  have HK := Lib.hid (fun (g g' : Nat) (w1 : World) (hE : Ext U w1) (h1 : Box3 w1 g (.int .i64 wn) (.int .i64 hn) (.slice (some ⟨gb, off, none⟩) n c)) (h2 : Box3 w1 g' (.int .i64 wn) (.int .i64 hn) (.slice (some ⟨gb2, off2, none⟩) n c2)) => sqCompare_any wn hn dn gb off n c gb2 off2 c2 bs bs2 g g' w1 h1 h2 (hl.ext hE) hlen hwd (hl2.ext hE) hlen2 hwd2 hv hd)
  clear hl hlen hwd hl2 hlen2 hwd2 hv hd
  go_enter Try.func15, Try.ntmps15
  go_wp2_with fail
  refine calls_at (X := fun w' => Ext U w' ∧ Box3 w' U.heap.size (.int .i64 wn) (.int .i64 hn) (.slice (some ⟨gb, off, none⟩) n c) ∧ Box3 w' (U.heap.size + 1) (.int .i64 wn) (.int .i64 hn) (.slice (some ⟨gb2, off2, none⟩) n c2) ∧ Res4 w' (U.heap.size + 1 + 1) ∧ U.heap.size + 1 + 1 + 1 ≤ w'.heap.size) ⟨(((Ext.refl _).alloc _).alloc _).alloc _, ⟨by simp [go_sem], by simp [go_sem], by simp [go_sem]⟩, ⟨by simp [go_sem], by simp [go_sem], by simp [go_sem]⟩, ⟨by simp [go_sem], by simp [go_sem], by simp [go_sem], by simp [go_sem], by simp [go_sem], by simp [go_sem], by simp [go_sem], by simp [go_sem]⟩, by simp⟩ ?_
  rintro w0 ⟨hx0, hb0, hb1, hr0, hs0⟩
  refine (l03Pair_yes _ _ (wn : Int) (hn : Int) _ n c (wn : Int) (hn : Int) _ n c2 (dn : Int) _ hnm hnm hb0 hb1 HV.out HV.out rfl rfl HD.out).mono ?_
  rintro e w1 ⟨rfl, hx⟩
  have hb2 := hb0.ext hx
  have hb3 := hb1.ext hx
  have hr1 := hr0.ext hx
  have hE := hx0.trans hx
  have hs1 := Nat.le_trans hs0 hx.size
  clear hx hx0 hb0 hb1 hr0 hs0
  go_wp2_with fail
  refine (HK.out _ _ w1 hE hb2 hb3).mono ?_
  rintro e w2 ⟨A1, cc, b1, rfl, ho, hm, hx⟩
  have ⟨c0, c1, c2, c3, f0, f1, f2, f3⟩ := hr1.ext hx
  have hE2 := hE.trans hx
  clear hx hE hb2 hb3 hr1
  go_wp2
  refine bodyPost_ret (v := .tuple #[.agg #[.int .i64 wn, .int .i64 hn, .int .i64 dn, .slice A1 b1.length cc], .bool true]) (by simp [results, Try.results15, go_sem, *]) rfl ⟨A1, cc, b1, rfl, ?_, hm, ?_⟩
  · refine OwnF.weaken (base := w1.heap.size) ?_ (by omega)
    repeat (first | (with_reducible exact ho) | (with_reducible refine OwnF.set_below ?_ (by dsimp only; omega) _))
  · repeat (first | (with_reducible exact hE2) | (with_reducible refine Ext.setCell ?_ (by dsimp only; omega) _))
theorem implSizeVolume_of (z0 z1 : Int) (A : Option Addr) (n c : Nat) (y0 y1 : Int) (A' : Option Addr) (n' c' : Nat) (d : Int) (o0 o1 o2 : Int) (ok : Bool) (L : List Nat) (U : World)
    (hcall : ∀ w0, Ext U w0 → Box3 w0 U.heap.size (.int .i64 z0) (.int .i64 z1) (.slice A n c) → Box3 w0 (U.heap.size + 1) (.int .i64 y0) (.int .i64 y1) (.slice A' n' c') → Calls Try.prog 63 #[.agg #[.int .i64 z0, .int .i64 z1, .slice A n c], .agg #[.int .i64 y0, .int .i64 y1, .slice A' n' c'], .int .i64 d, .func (.func 69) #[] #[.pointer (some ⟨U.heap.size, 0, none⟩), .pointer (some ⟨U.heap.size + 1, 0, none⟩)]] w0 fun e U' => ∃ A c' b, e = .returned (.tuple #[.agg #[.int .i64 o0, .int .i64 o1, .int .i64 o2, .slice A b.length c'], .bool ok]) ∧ OwnF U' w0.heap.size 55 (.slice A b.length c') b ∧ b.map nrm = L ∧ Ext w0 U') :
    Calls Try.prog 24 #[.agg #[.int .i64 z0, .int .i64 z1, .slice A n c], .agg #[.int .i64 y0, .int .i64 y1, .slice A' n' c'], .int .i64 d] U fun e U' => ∃ A c' b, e = .returned (.tuple #[.agg #[.int .i64 o0, .int .i64 o1, .int .i64 o2, .slice A b.length c'], .bool ok]) ∧ OwnF U' U.heap.size 55 (.slice A b.length c') b ∧ b.map nrm = L ∧ Ext U U' := by
  have HK := Lib.hid hcall
  clear hcall
  go_enter Try.func24, Try.ntmps24
  go_wp2_with fail
  refine calls_at (X := fun w' => Ext U w' ∧ Box3 w' U.heap.size (.int .i64 z0) (.int .i64 z1) (.slice A n c) ∧ Box3 w' (U.heap.size + 1) (.int .i64 y0) (.int .i64 y1) (.slice A' n' c') ∧ Res4 w' (U.heap.size + 1 + 1) ∧ U.heap.size + 1 + 1 + 1 ≤ w'.heap.size) ⟨(((Ext.refl _).alloc _).alloc _).alloc _, ⟨by simp [go_sem], by simp [go_sem], by simp [go_sem]⟩, ⟨by simp [go_sem], by simp [go_sem], by simp [go_sem]⟩, ⟨by simp [go_sem], by simp [go_sem], by simp [go_sem], by simp [go_sem], by simp [go_sem], by simp [go_sem], by simp [go_sem], by simp [go_sem]⟩, by simp⟩ ?_
  rintro w0 ⟨hx0, hb0, hb1, hr0, hs0⟩
  refine (HK.out w0 hx0 hb0 hb1).mono ?_
  rintro e w1 ⟨A1, cc, b1, rfl, ho, hm, hx⟩
  have ⟨c0, c1, c2, c3, f0, f1, f2, f3⟩ := hr0.ext hx
  have hE2 := hx0.trans hx
  clear hx hx0 hb0 hb1 hr0
  go_wp2
  refine bodyPost_ret (v := .tuple #[.agg #[.int .i64 o0, .int .i64 o1, .int .i64 o2, .slice A1 b1.length cc], .bool ok]) (by simp [results, Try.results24, go_sem, *]) rfl ⟨A1, cc, b1, rfl, ?_, hm, ?_⟩
  · refine OwnF.weaken (base := w0.heap.size) ?_ (by omega)
    repeat (first | (with_reducible exact ho) | (with_reducible refine OwnF.set_below ?_ (by dsimp only; omega) _))
  · repeat (first | (with_reducible exact hE2) | (with_reducible refine Ext.setCell ?_ (by dsimp only; omega) _))
theorem specSizeVolume_no (z0 z1 : Int) (A : Option Addr) (n c : Nat) (y0 y1 : Int) (A' : Option Addr) (n' c' : Nat) (d : Int) (hn : n ≤ maxLen) (hn' : n' ≤ maxLen) (hno : ¬ ((VMap z0 z1 n ∧ VMap y0 y1 n' ∧ z0 = y0 ∧ z1 = y1) ∧ 1 ≤ d ∧ d ≤ 8)) (U : World) :
    Calls Try.prog 23 #[.agg #[.int .i64 z0, .int .i64 z1, .slice A n c], .agg #[.int .i64 y0, .int .i64 y1, .slice A' n' c'], .int .i64 d] U fun e U' => ∃ A c' b, e = .returned (.tuple #[.agg #[.int .i64 0, .int .i64 0, .int .i64 0, .slice A b.length c'], .bool false]) ∧ OwnF U' U.heap.size 55 (.slice A b.length c') b ∧ b.map nrm = [] ∧ Ext U U' := by
  have HN := Lib.hid hno
  clear hno
  go_enter Try.func23, Try.ntmps23
  go_wp2_with fail
  refine calls_at (X := fun w' => Ext U w' ∧ Box3 w' U.heap.size (.int .i64 z0) (.int .i64 z1) (.slice A n c) ∧ Box3 w' (U.heap.size + 1) (.int .i64 y0) (.int .i64 y1) (.slice A' n' c') ∧ Res4 w' (U.heap.size + 1 + 1) ∧ U.heap.size + 1 + 1 + 1 ≤ w'.heap.size) ⟨(((Ext.refl _).alloc _).alloc _).alloc _, ⟨by simp [go_sem], by simp [go_sem], by simp [go_sem]⟩, ⟨by simp [go_sem], by simp [go_sem], by simp [go_sem]⟩, ⟨by simp [go_sem], by simp [go_sem], by simp [go_sem], by simp [go_sem], by simp [go_sem], by simp [go_sem], by simp [go_sem], by simp [go_sem]⟩, by simp⟩ ?_
  rintro w0 ⟨hx0, hb0, hb1, hr0, hs0⟩
  refine (l03Pair_no _ _ z0 z1 A n c y0 y1 A' n' c' d _ hn hn' hb0 hb1 HN.out).mono ?_
  rintro e w1 ⟨rfl, hx⟩
  have ⟨c0, c1, c2, c3, f0, f1, f2, f3⟩ := hr0.ext hx
  have hE := hx0.trans hx
  clear hx hx0 hb0 hb1 hr0
  go_wp2
  refine bodyPost_ret (v := .tuple #[.agg #[.int .i64 0, .int .i64 0, .int .i64 0, .slice none 0 0], .bool false]) (by simp [results, Try.results23, go_sem, *]) rfl ⟨none, 0, [], rfl, OwnF.nil _ _ _, rfl, ?_⟩
  repeat (first | (with_reducible exact hE) | (with_reducible refine Ext.setCell ?_ (by dsimp only; omega) _))
theorem specSizeVolume_yes (wn hn dn gb off n c gb2 off2 c2 : Nat) (bs bs2 : List Nat) (U : World) (hl : Lies U gb off bs) (hlen : bs.length = n) (hwd : Words bs) (hl2 : Lies U gb2 off2 bs2) (hlen2 : bs2.length = n) (hwd2 : Words bs2) (hv : VMap wn hn n) (hnm : n ≤ maxLen) (hd : 1 ≤ dn ∧ dn ≤ 8) :
    Calls Try.prog 23 #[.agg #[.int .i64 wn, .int .i64 hn, .slice (some ⟨gb, off, none⟩) n c], .agg #[.int .i64 wn, .int .i64 hn, .slice (some ⟨gb2, off2, none⟩) n c2], .int .i64 dn] U fun e U' => ∃ A c' b, e = .returned (.tuple #[.agg #[.int .i64 wn, .int .i64 hn, .int .i64 dn, .slice A b.length c'], .bool true]) ∧ OwnF U' U.heap.size 55 (.slice A b.length c') b ∧ b.map nrm = cells3 (fun (x y e : Nat) => absN (difF wn hn bs bs2 x y e)) wn dn (wn * hn * dn) ∧ Ext U U' := by
  have HV := Lib.hid hv
  have HD : Hid ((1 : Int) ≤ (dn : Int) ∧ (dn : Int) ≤ 8) := Lib.hid (by omega)
  have HK := Lib.hid (fun (g g' : Nat) (w1 : World) (hE : Ext U w1) (h1 : Box3 w1 g (.int .i64 wn) (.int .i64 hn) (.slice (some ⟨gb, off, none⟩) n c)) (h2 : Box3 w1 g' (.int .i64 wn) (.int .i64 hn) (.slice (some ⟨gb2, off2, none⟩) n c2)) => szCompare_any wn hn dn gb off n c gb2 off2 c2 bs bs2 g g' w1 h1 h2 (hl.ext hE) hlen hwd (hl2.ext hE) hlen2 hwd2 hv hd)
  clear hl hlen hwd hl2 hlen2 hwd2 hv hd
  go_enter Try.func23, Try.ntmps23
  go_wp2_with fail
  refine calls_at (X := fun w' => Ext U w' ∧ Box3 w' U.heap.size (.int .i64 wn) (.int .i64 hn) (.slice (some ⟨gb, off, none⟩) n c) ∧ Box3 w' (U.heap.size + 1) (.int .i64 wn) (.int .i64 hn) (.slice (some ⟨gb2, off2, none⟩) n c2) ∧ Res4 w' (U.heap.size + 1 + 1) ∧ U.heap.size + 1 + 1 + 1 ≤ w'.heap.size) ⟨(((Ext.refl _).alloc _).alloc _).alloc _, ⟨by simp [go_sem], by simp [go_sem], by simp [go_sem]⟩, ⟨by simp [go_sem], by simp [go_sem], by simp [go_sem]⟩, ⟨by simp [go_sem], by simp [go_sem], by simp [go_sem], by simp [go_sem], by simp [go_sem], by simp [go_sem], by simp [go_sem], by simp [go_sem]⟩, by simp⟩ ?_
  rintro w0 ⟨hx0, hb0, hb1, hr0, hs0⟩
  refine (l03Pair_yes _ _ (wn : Int) (hn : Int) _ n c (wn : Int) (hn : Int) _ n c2 (dn : Int) _ hnm hnm hb0 hb1 HV.out HV.out rfl rfl HD.out).mono ?_
  rintro e w1 ⟨rfl, hx⟩
  have hb2 := hb0.ext hx
  have hb3 := hb1.ext hx
  have hr1 := hr0.ext hx
  have hE := hx0.trans hx
  have hs1 := Nat.le_trans hs0 hx.size
  clear hx hx0 hb0 hb1 hr0 hs0
  go_wp2_with fail
  refine (HK.out _ _ w1 hE hb2 hb3).mono ?_
  rintro e w2 ⟨A1, cc, b1, rfl, ho, hm, hx⟩
  have ⟨c0, c1, c2, c3, f0, f1, f2, f3⟩ := hr1.ext hx
  have hE2 := hE.trans hx
  clear hx hE hb2 hb3 hr1
  go_wp2
  refine bodyPost_ret (v := .tuple #[.agg #[.int .i64 wn, .int .i64 hn, .int .i64 dn, .slice A1 b1.length cc], .bool true]) (by simp [results, Try.results23, go_sem, *]) rfl ⟨A1, cc, b1, rfl, ?_, hm, ?_⟩
  · refine OwnF.weaken (base := w1.heap.size) ?_ (by omega)
    repeat (first | (with_reducible exact ho) | (with_reducible refine OwnF.set_below ?_ (by dsimp only; omega) _))
  · repeat (first | (with_reducible exact hE2) | (with_reducible refine Ext.setCell ?_ (by dsimp only; omega) _))
end Go.Proofs.Ytabdbldidddhgaa
