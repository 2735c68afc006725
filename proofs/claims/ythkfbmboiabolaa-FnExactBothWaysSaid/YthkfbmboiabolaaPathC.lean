/- Contracts: raw ways and paths along a direction. -/
import Derived.Test.YthkfbmboiabolaaAlong
import Derived.Test.YthkfbmboiabolaaJump
namespace Go.Proofs.Ythkfbmboiabolaa
open Go.RowKit
set_option linter.unusedVariables false

/-- A row whose first i words are told anew; all else stays. -/
structure FilB (w0 wr : World) (B : Nat) (e : TypeId) (g n c : Nat) (old : List Nat) (i : Nat) (G : Nat → Nat) : Prop where
  own : ∃ ns, OwnF wr B e (.slice (some ⟨g, 0, none⟩) n c) (ns ++ old.drop i) ∧ ns.length = i ∧ ns.map nrm = (List.range i).map G ∧ Words ns
  len : old.length = n
  le : i ≤ n
  but : But g w0 wr
theorem FilB.start {wr : World} {B : Nat} {e : TypeId} {g n c : Nat} {old : List Nat} {G : Nat → Nat} (h : OwnF wr B e (.slice (some ⟨g, 0, none⟩) n c) old) : FilB wr wr B e g n c old 0 G :=
  ⟨⟨[], by simpa using h, rfl, rfl, fun b hb => by cases hb⟩, h.len.symm, Nat.zero_le _, But.refl _ _⟩
theorem FilB.cell {w0 wr : World} {B : Nat} {e : TypeId} {g n c : Nat} {old : List Nat} {i : Nat} {G : Nat → Nat} (h : FilB w0 wr B e g n c old i G) {k : Nat} (hk : k < n) (hi : i ≤ k) : wr.cell? ⟨g, k, none⟩ = some (fl (old.getD k 0)) := by
  obtain ⟨ns, ho, hl, hm, _⟩ := h.own
  have hlen := h.len
  rw [ho.cell (by simp; omega)]
  congr 2
  simp [List.getD_eq_getElem?_getD, List.getElem?_append_right (show ns.length ≤ k by omega), List.getElem?_drop, show i + (k - ns.length) = k by omega]
theorem FilB.cool {w0 wr : World} {B : Nat} {e : TypeId} {g n c : Nat} {old : List Nat} {i : Nat} {G : Nat → Nat} (h : FilB w0 wr B e g n c old i G) (k : Nat) : wr.frozen? ⟨g, k, none⟩ = false := by
  obtain ⟨ns, ho, hl, hm, _⟩ := h.own
  exact ho.cool k
theorem FilB.ge {w0 wr : World} {B : Nat} {e : TypeId} {g n c : Nat} {old : List Nat} {i : Nat} {G : Nat → Nat} (h : FilB w0 wr B e g n c old i G) : B ≤ g ∧ g < wr.heap.size := by
  obtain ⟨ns, ho, hl, hm, _⟩ := h.own
  exact ho.ge
theorem FilB.later {w0 wr w1 : World} {B : Nat} {e : TypeId} {g n c : Nat} {old : List Nat} {i : Nat} {G : Nat → Nat} (h : FilB w0 wr B e g n c old i G) (hx : Ext wr w1) : FilB w0 w1 B e g n c old i G := by
  obtain ⟨ns, ho, hl, hm, hw⟩ := h.own
  exact ⟨⟨ns, ho.ext hx, hl, hm, hw⟩, h.len, h.le, h.but.ext hx⟩
theorem FilB.put {w0 wr : World} {B : Nat} {e : TypeId} {g n c : Nat} {old : List Nat} {i : Nat} {G : Nat → Nat} (h : FilB w0 wr B e g n c old i G) (hi : i < n) {r : Nat} (hr : Is r (G i)) : FilB w0 (wr.setCell ⟨g, i, none⟩ (fl r)) B e g n c old (i + 1) G := by
  obtain ⟨ns, ho, hl, hm, hw⟩ := h.own
  have hlen := h.len
  refine ⟨⟨ns ++ [r], ?_, by simp; omega, ?_, ?_⟩, h.len, hi, h.but.set i _⟩
  · have := ho.put i r
    rw [List.set_append_right _ _ (by omega), hl, Nat.sub_self, List.drop_eq_getElem_cons (show i < old.length by omega)] at this
    rw [List.append_assoc]
    exact this
  · rw [List.map_append, hm, List.range_succ, List.map_append]; simp [hr.2]
  · intro x hx
    rcases List.mem_append.1 hx with hx | hx
    · exact hw x hx
    · simp at hx; subst hx; exact hr.1
theorem FilB.done {w0 wr : World} {B : Nat} {e : TypeId} {g n c : Nat} {old : List Nat} {G : Nat → Nat} (h : FilB w0 wr B e g n c old n G) : ∃ bs, bs.length = n ∧ OwnF wr B e (.slice (some ⟨g, 0, none⟩) n c) bs ∧ bs.map nrm = (List.range n).map G ∧ Words bs := by
  obtain ⟨ns, ho, hl, hm, hw⟩ := h.own
  have hlen := h.len
  rw [List.drop_eq_nil_of_le (by omega), List.append_nil] at ho
  exact ⟨ns, hl, ho, hm, hw⟩
/-- A cell's words on the way: raw ones, and those that keep the least one. -/
def rawG (O M : Nat) (o p : List Nat) : List Nat := (List.range o.length).map fun d => fop .add ((jumpL p O M).getD d 0) (o.getD d 0)
def pathG (O M : Nat) (o p : List Nat) : List Nat := (List.range o.length).map fun d => fop .add (o.getD d 0) (fop .sub ((jumpL p O M).getD d 0) (lstL p))
theorem rawG_len (O M : Nat) (o p : List Nat) : (rawG O M o p).length = o.length := by simp [rawG]
theorem pathG_len (O M : Nat) (o p : List Nat) : (pathG O M o p).length = o.length := by simp [pathG]
theorem getD_of_map {b L : List Nat} (h : b.map nrm = L) (i : Nat) : nrm (b.getD i 0) = L.getD i 0 := by rw [← h, getD_map_nrm]
theorem add_nn (x y : Nat) : fop .add (nrm x) (nrm y) = fop .add x y := fop_nrm .add x y
theorem sub_nn (x y : Nat) : fop .sub (nrm x) (nrm y) = fop .sub x y := fop_nrm .sub x y
theorem jumpL_len (L : List Nat) (O M : Nat) : (jumpL L O M).length = L.length := by simp [jumpL]
set_option maxHeartbeats 4000000 in
set_option maxRecDepth 8000 in
theorem raw1_any (A B : Option Addr) (ow pb : List Nat) (x y u w : Int) (dn : Nat) (hd1 : 1 ≤ dn) (hd8 : dn ≤ 8) (U : World) (hro : Reads U A dn ow) (hwo : Words ow) (hrp : Reads U B dn pb) (hwp : Words pb) (gp a b O M : Nat) (ha : Is a O) (hb : Is b M) (hP : Box2 U gp (fl a) (fl b)) :
    Calls Try.prog 90 #[.slice A dn dn, .slice B dn dn, .int .i64 x, .int .i64 y, .int .i64 u, .int .i64 w, .pointer (some ⟨gp, 0, none⟩)] U fun e U' => ∃ H c' b', e = .returned (.slice (some ⟨H, 0, none⟩) dn c') ∧ OwnF U' U.heap.size 23 (.slice (some ⟨H, 0, none⟩) dn c') b' ∧ b'.map nrm = rawG O M (ow.map nrm) (pb.map nrm) ∧ Words b' ∧ Ext U U' := by
  obtain ⟨ga, oa, rfl, hla⟩ := hro.2 (by omega)
  have hla' := hro.1
  have hlp' := hrp.1
  have HLA := Lib.hid (fun i (hi : i < dn) => (hla i (by omega) : U.cell? ⟨ga, oa + i, none⟩ = some (fl (ow.getD i 0))))
  have HWO := Lib.hid (fun i => wd_at hwo i)
  have hdm : dn ≤ maxLen := by unfold maxLen; omega
  have HJ := Lib.hid (fun (W : World) (hW : Ext U W) => jump_any B dn dn pb a b W (hrp.ext hW) hwp ha.1 hb.1 hd1 hd8 (Nat.le_refl _) hdm)
  rw [ha.2, hb.2] at HJ
  have HOL := Lib.hid hla'
  have HPL := Lib.hid hlp'
  obtain ⟨pa, pbx⟩ := hP
  clear hla hro hrp hla' hlp' ha hb hwp hwo
  go_enter Try.func90, Try.ntmps90
  go_wp2_with fail
  refine (HJ.out U (Ext.refl _)).mono ?_
  rintro e w1 ⟨A1, c1, b1, rfl, ho1, hm1, hw1, hx1⟩
  have hbl : b1.length = dn := by have := congrArg List.length hm1; rw [List.length_map, jumpL_len, List.length_map, HPL.out] at this; exact this
  obtain ⟨H, rfl⟩ := ho1.at (by omega)
  rw [hbl] at ho1 ⊢
  have HJM := Lib.hid (fun i => getD_of_map hm1 i)
  have HBL := Lib.hid hbl
  have HWJ := Lib.hid (fun i => wd_at hw1 i)
  have hus := hx1.size
  clear hbl hm1 hw1
  go_wp2_with fail
  go_loopw [21] (fun iv wr => ∃ d : Nat, d ≤ dn ∧ iv = .int .i64 d ∧ FilB w1 wr U.heap.size 23 H dn c1 b1 d (fun d => fop .add ((jumpL (pb.map nrm) O M).getD d 0) ((ow.map nrm).getD d 0))) (fun iv _ => dn - (intOf iv).toNat)
  case atStart => exact ⟨0, Nat.zero_le _, rfl, FilB.start ho1⟩
  case round =>
    obtain ⟨d, hd, rfl, hfil⟩ := hrel
    have hHg := hfil.ge
    have hxr := But.toExt hx1 hHg.1 hfil.but
    by_cases hlt : d < dn
    · have hcj := hfil.cell hlt (Nat.le_refl _)
      have hco := cell_ext (HLA.out d hlt) hxr
      have hvo2 := HWO.out d
      obtain ⟨vj, hvj⟩ : ∃ v, b1.getD d 0 = v := ⟨_, rfl⟩
      obtain ⟨vo, hvo⟩ : ∃ v, ow.getD d 0 = v := ⟨_, rfl⟩
      have HVJ := Lib.hid hvj
      have HVO := Lib.hid hvo
      rw [hvj] at hcj
      rw [hvo] at hco hvo2
      have hk0 : (0 : Int) ≤ (d : Int) := by omega
      have hk1 : (d : Int) < (dn : Int) := by omega
      clear hvj hvo
      go_wp2_with fail
      refine region_wx 10 [] (by kernel_rfl) (by kernel_rfl) ?_
      simp only [List.take_succ_cons, List.take_zero, List.drop_succ_cons, List.drop_zero]
      repeat ((first | refine wx_skip rfl ?_ | refine wx_nilCheck rfl rfl _ rfl _ rfl ?_ | (refine wx_float rfl rfl _ _ _ _ _ _ _ rfl rfl rfl rfl ?_; intro r hr) | (refine wx_k rfl rfl rfl (fun K hK => ?_); go_big_quiet_op; refine hK _ ?_; clear hK K) ); (try simp only [Act.put, List.setIfInBounds_toArray, List.set_cons_zero, List.set_cons_succ]); (try simp only [List.tail_nil]))
      refine wx_nil (fun W hW hF => ?_)
      have hfW := hfil.later hW
      have hct := hfW.cell hlt (Nat.le_refl _)
      have hcf := hfW.cool d
      have hfil' := hfW.put hlt (r := r) (by show Is r (fop .add ((jumpL (pb.map nrm) O M).getD d 0) ((ow.map nrm).getD d 0)); rw [← HJM.out d, getD_map_nrm, HVJ.out, HVO.out, add_nn]; exact hr)
      clear hF hfil hcj hco hW hfW hxr
      go_wp2
      go_roundw
      case rel => exact ⟨d + 1, by omega, by go_num, hfil'⟩
      case measure => simp [intOf]; omega
    · have e1 : d = dn := by omega
      rw [e1] at hfil
      obtain ⟨b2, hb2l, hb2o, hb2m, hb2w⟩ := hfil.done
      clear hfil
      go_wp2
      go_ret
      exact ⟨H, c1, b2, rfl, hb2o, by rw [hb2m]; unfold rawG; rw [List.length_map, HOL.out], hb2w, hxr⟩
set_option maxHeartbeats 1000000 in
set_option maxRecDepth 8000 in
theorem raw_any (wn hn dn gb off n c : Nat) (bs : List Nat) (d : Int) (hd0 : 0 ≤ d) (hd7 : d ≤ 7) (a b O M : Nat) (ha : Is a O) (hb : Is b M) (U : World) (hl : Lies U gb off bs) (hlen : bs.length = n) (hwd : Words bs) (hnc : n ≤ c) (hcm : c ≤ maxLen) (hv : VVol wn hn dn n) :
    Calls Try.prog 66 #[.agg #[.int .i64 wn, .int .i64 hn, .int .i64 dn, .slice (some ⟨gb, off, none⟩) n c], .agg #[.float .f32 a, .float .f32 b], .int .i64 d] U fun e U' => ∃ H c' b, e = .returned (.agg #[.int .i64 wn, .int .i64 hn, .int .i64 dn, .slice (some ⟨H, 0, none⟩) n c']) ∧ OwnF U' U.heap.size 23 (.slice (some ⟨H, 0, none⟩) n c') b ∧ b.map nrm = cells3 (fun x y e => ((pathT (fun _ _ _ _ => rawG O M) (ownC bs wn dn) wn hn (wayX d) (wayY d)) x y).getD e 0) wn dn (wn * hn * dn) ∧ Words b ∧ Ext U U' := by
  have HK := Lib.hid (fun (w0 : World) (hE : Ext U w0) (hq : Box2 w0 (U.heap.size + 1) (fl a) (fl b)) => along_any wn hn dn gb off n c bs d hd0 hd7 90 #[.pointer (some ⟨U.heap.size + 1, 0, none⟩)] (fun _ _ _ _ => rawG O M) w0 (hl.ext hE) hlen hwd hnc hcm hv (by kernel_rfl) (fun _ _ _ _ _ _ => rawG_len _ _ _ _)
    (fun W A B ow pb x y u w hW hro hwo hrp hwp h1 h2 h3 h4 => raw1_any A B ow pb _ _ _ _ dn (by have := hv.2.1; omega) (by have := hv.2.2.1; omega) W hro hwo hrp hwp _ a b O M ha hb (hq.ext hW)))
  clear hl hlen hwd hnc hcm hv ha hb
  go_enter Try.func66, Try.ntmps66
  go_wp2_with fail
  refine calls_at (X := fun w' => Ext U w' ∧ Box2 w' (U.heap.size + 1) (fl a) (fl b) ∧ Res4 w' (U.heap.size + 1 + 1) ∧ U.heap.size + 1 + 1 + 1 ≤ w'.heap.size) ⟨(((Ext.refl _).alloc _).alloc _).alloc _, ⟨by simp [go_sem], by simp [go_sem]⟩, ⟨by simp [go_sem], by simp [go_sem], by simp [go_sem], by simp [go_sem], by simp [go_sem], by simp [go_sem], by simp [go_sem], by simp [go_sem]⟩, by simp⟩ ?_
  rintro w0 ⟨hx0, hq0, hr0, hs0⟩
  refine (HK.out w0 hx0 hq0).mono ?_
  rintro e w1 ⟨H, cH, b1, rfl, ho, hm, hwb, hx⟩
  have ⟨c0, c1, c2, c3, f0, f1, f2, f3⟩ := hr0.ext hx
  have hE2 := hx0.trans hx
  clear hx hx0 hq0 hr0
  go_wp2
  refine bodyPost_ret (v := .agg #[.int .i64 wn, .int .i64 hn, .int .i64 dn, .slice (some ⟨H, 0, none⟩) n cH]) (by simp [results, Try.results66, go_sem, *]) rfl ⟨H, cH, b1, rfl, ?_, hm, hwb, ?_⟩
  · refine OwnF.weaken (base := w0.heap.size) ?_ (by omega)
    repeat (first | (with_reducible exact ho) | (with_reducible refine OwnF.set_below ?_ (by dsimp only; omega) _))
  · repeat (first | (with_reducible exact hE2) | (with_reducible refine Ext.setCell ?_ (by dsimp only; omega) _))
end Go.Proofs.Ythkfbmboiabolaa
