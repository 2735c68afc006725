/- Contracts of the laws' own helpers on lists of pictures: sz, to, eq, mark. -/
import Derived.Test.YtgpobhpcbgenoaaStkM
namespace Go.Proofs.Ytgpobhpcbgenoaa
open Go.RowKit
set_option linter.unusedVariables false

set_option maxHeartbeats 1000000 in
theorem szPictureS_any (A : Option Addr) (n c : Nat) (ws hs : Nat → Int) (bs : Nat → List Nat) (z : Int) (W : World) (hn : n ≤ maxLen) (hb : ∀ i, i < n → (bs i).length ≤ maxLen) (hr : ReadsP W A n ws hs bs) (hz : (n + totB bs n ≤ 1048576 ∧ z = 1048576 - ((n + totB bs n : Nat) : Int)) ∨ (1048576 < n + totB bs n ∧ z = -1)) :
    Calls Try.prog 36 #[.slice A n c, .int .i64 1048576] W fun e W' => e = .returned (.int .i64 z) ∧ Ext W W' := by
  unfold maxLen at hn
  have hw0 : IntKind.i64.wrap (1048576 - (n : Int)) = 1048576 - (n : Int) := IntWalk.i64_in _ (by omega)
  by_cases hbig : 1048576 < n
  · have hzz : z = -1 := by rcases hz with ⟨h, _⟩ | ⟨_, h⟩; omega; exact h
    have hlt0 : 1048576 - (n : Int) < 0 := by omega
    subst hzz
    clear hz hb hr
    go_enter Try.func36, Try.ntmps36
    go_wp2
    go_ret
    exact ⟨rfl, Ext.refl _⟩
  · have hge0 : ¬ (1048576 - (n : Int) < 0) := by omega
    have HZ := Lib.hid hz
    have HB := Lib.hid hb
    have HR := Lib.hid (fun (W' : World) (hW : Ext W W') => hr.ext hW)
    clear hz hb hr
    go_enter Try.func36, Try.ntmps36
    go_wp2_with fail
    go_loopw [1, 5] (fun lv iv wr => ∃ i : Nat, i ≤ n ∧ iv = .int .i64 i ∧ lv = .int .i64 (1048576 - ((n + totB bs i : Nat) : Int)) ∧ Hid (n + totB bs i ≤ 1048576) ∧ Ext W wr) (fun _ iv _ => n - (intOf iv).toNat)
    case atStart => exact ⟨0, Nat.zero_le _, rfl, by simp [totB], Lib.hid (by simp [totB]; omega), Ext.refl _⟩
    case round =>
      obtain ⟨i, hi, rfl, rfl, hle, hE⟩ := hrel
      have htot := hle.out
      by_cases hlt : i < n
      · obtain ⟨g, off, rfl, hcs⟩ := HR.out _ hE (by omega)
        obtain ⟨Ai, ci, c0, c1, c2, c3, c4, c5⟩ := hcs i hlt
        have hbi := HB.out i hlt
        have hti := totB_one bs hlt
        have hstep : totB bs (i + 1) = totB bs i + (bs i).length := rfl
        obtain ⟨T, hT⟩ : ∃ T, n + totB bs i = T := ⟨_, rfl⟩
        obtain ⟨m, hm⟩ : ∃ m, (bs i).length = m := ⟨_, rfl⟩
        rw [hT] at htot ⊢
        rw [hm] at hbi hti hstep c2
        have x0 : (0 : Int) ≤ (i : Int) := by omega
        have x1 : (i : Int) < (n : Int) := by omega
        have HT := Lib.hid hT
        have HST := Lib.hid hstep
        have HTI := Lib.hid hti
        clear hT hstep hm c3 c4 c5 hcs hti
        by_cases hfit : T + m ≤ 1048576
        · have hnl : ¬ (1048576 - (T : Int) - (m : Int) < 0) := by omega
          go_wp2_with fail
          refine (szPicture_fits (ws i) (hs i) Ai m ci (1048576 - (T : Int)) _ hbi (by omega) (by omega) (by omega)).mono ?_
          rintro e w2 ⟨rfl, hx⟩
          have hE2 := hE.trans hx
          clear hE hx c0 c1 c2
          go_wp2
          go_roundw
          case rel => exact ⟨i + 1, by omega, by go_num, by rw [HST.out]; congr 1; have := HT.out; omega, Lib.hid (by rw [HST.out]; have := HT.out; omega), hE2⟩
          case measure => simp [intOf]; omega
        · have hover : 1048576 < n + totB bs n := by have := HT.out; have := HTI.out; omega
          have hzz : Hid (z = -1) := Lib.hid (by rcases HZ.out with ⟨h, _⟩ | ⟨_, h⟩; omega; exact h)
          go_wp2_with fail
          refine (szPicture_over (ws i) (hs i) Ai m ci (1048576 - (T : Int)) _ hbi (by omega) (by omega) (by omega)).mono ?_
          rintro e w2 ⟨rfl, hx⟩
          have hE2 := hE.trans hx
          clear hE hx c0 c1 c2
          go_wp2
          go_ret
          exact ⟨by rw [hzz.out]; rfl, hE2⟩
      · obtain rfl : n = i := by omega
        have hzz : Hid (z = 1048576 - ((n + totB bs n : Nat) : Int)) := Lib.hid (by rcases HZ.out with ⟨_, h⟩ | ⟨h, _⟩; exact h; omega)
        go_wp2
        go_ret
        exact ⟨by rw [hzz.out]; rfl, hE⟩
theorem CopyP.push {w w1 : World} {lo hi B H k g : Nat} {xs : List Value} {ws hs : Nat → Int} {bs : Nat → List Nat} {G : Nat → Nat} (h : CopyP w lo hi H xs k ws hs bs G) (hx : Ext w w1) (hb : Blk w1 H 58 xs) (hl : k * 3 + 2 < xs.length) (ho : OwnF w1 B 25 (.slice (some ⟨g, 0, none⟩) (bs k).length (bs k).length) (bs k)) (h1 : hi ≤ g) (h2 : lo ≤ B) :
    Blk (((w1.setCell ⟨H, k * 3, none⟩ (.int .i64 (ws k))).setCell ⟨H, k * 3 + 1, none⟩ (.int .i64 (hs k))).setCell ⟨H, k * 3 + 2, none⟩ (.slice (some ⟨g, 0, none⟩) (bs k).length (bs k).length)) H 58 (((xs.set (k * 3) (.int .i64 (ws k))).set (k * 3 + 1) (.int .i64 (hs k))).set (k * 3 + 2) (.slice (some ⟨g, 0, none⟩) (bs k).length (bs k).length)) ∧
    CopyP (((w1.setCell ⟨H, k * 3, none⟩ (.int .i64 (ws k))).setCell ⟨H, k * 3 + 1, none⟩ (.int .i64 (hs k))).setCell ⟨H, k * 3 + 2, none⟩ (.slice (some ⟨g, 0, none⟩) (bs k).length (bs k).length)) lo w1.heap.size H (((xs.set (k * 3) (.int .i64 (ws k))).set (k * 3 + 1) (.int .i64 (hs k))).set (k * 3 + 2) (.slice (some ⟨g, 0, none⟩) (bs k).length (bs k).length)) (k + 1) ws hs bs (fun j => if j = k then g else G j) := by
  refine ⟨((hb.set_ _ _).set_ _ _).set_ _ _, fun j hj => ?_⟩
  have hgl := (ho.row g rfl).2
  by_cases hjk : j = k
  · subst hjk
    have hne := ho.ne_block hb (by decide)
    refine ⟨by simp [List.getElem?_set]; omega, by simp [List.getElem?_set]; omega, by simp [List.getElem?_set]; omega, ?_, by simp; omega, fun i hi' => ?_⟩
    · simp only [if_true]
      exact (((ho.weaken h2).set_ne hne _).set_ne hne _).set_ne hne _
    · have := (h i hi').2.2.2.2.1
      simp only [if_true, show ¬ i = j by omega, if_false]
      omega
  · obtain ⟨q0, q1, q2, q3, q4, q5⟩ := h j (by omega)
    have h3 := q3.ext hx
    have hne := h3.ne_block hb (by decide)
    have hGl := (h3.row (G j) rfl).2
    refine ⟨?_, ?_, ?_, ?_, by simp [hjk]; omega, fun i hi' => ?_⟩
    · rw [List.getElem?_set_ne (by omega), List.getElem?_set_ne (by omega), List.getElem?_set_ne (by omega), q0]
    · rw [List.getElem?_set_ne (by omega), List.getElem?_set_ne (by omega), List.getElem?_set_ne (by omega), q1]
    · rw [List.getElem?_set_ne (by omega), List.getElem?_set_ne (by omega), List.getElem?_set_ne (by omega), q2]
      simp [hjk]
    · simp only [hjk, if_false]
      exact ((h3.set_ne hne _).set_ne hne _).set_ne hne _
    · simp only [hjk, if_false, show ¬ i = k by omega]
      exact q5 i hi'
set_option maxHeartbeats 2000000 in
set_option maxRecDepth 8000 in
theorem toPictureS_any (A : Option Addr) (n c : Nat) (ws hs : Nat → Int) (bs : Nat → List Nat) (W : World) (hn : n ≤ 1048576) (hb : ∀ i, i < n → (bs i).length ≤ 1048576) (hr : ReadsP W A n ws hs bs) :
    Calls Try.prog 38 #[.slice A n c] W fun e W' => ∃ H, e = .returned (.slice (some ⟨H, 0, none⟩) n n) ∧ CopyS W' W.heap.size W'.heap.size H n ws hs bs ∧ Ext W W' := by
  obtain ⟨i0, hi, hz0, hz1, hz2⟩ := info_parts infoP
  have HB := Lib.hid hb
  have HR := Lib.hid (fun (W' : World) (hW : Ext W W') => hr.ext hW)
  clear hb hr
  go_enter Try.func38, Try.ntmps38
  go_wp2_with (at_make; refine wpList_make_full _ rfl _ _ 68 rfl W.heap.size 58 i0 (.agg #[.int .i64 0, .int .i64 0, .slice none 0 0]) 3 Try.underlying68 hi hz0 hz1 _ _ _ _ n rfl rfl rfl rfl (by rw [hz2]; omega) (by unfold maxLen; omega) (Nat.le_refl _) ?_)
  intro w2 hown hgr
  have hx2 : Ext W w2 := (Below.refl _ _).grown hgr (Nat.le_refl _) (fun k hk => by cases hk)
  obtain ⟨xs0, hB0, hl0⟩ : ∃ xs, Blk w2 W.heap.size 58 xs ∧ xs.length = n * 3 := by
    rcases hown.2 with ⟨h2, _⟩ | ⟨g', cap, cur, hv, hg, hh, hnc, hcm, hsz, ht⟩
    · simp at h2
    · simp only [Value.slice.injEq, Option.some.injEq, Addr.mk.injEq] at hv
      obtain ⟨⟨rfl, _⟩, _, rfl⟩ := hv
      exact ⟨cur.toList, by unfold Blk; simpa using hh, by simpa using hsz⟩
  have hHl := hB0.lt
  clear hown hgr
  go_wp2_with fail
  go_loopw [4] (fun iv wr => ∃ (i : Nat) (xs : List Value) (G : Nat → Nat), i ≤ n ∧ iv = .int .i64 i ∧ Blk wr W.heap.size 58 xs ∧ Hid (xs.length = n * 3) ∧ CopyP wr W.heap.size wr.heap.size W.heap.size xs i ws hs bs G ∧ Ext W wr) (fun iv _ => n - (intOf iv).toNat)
  case atStart => exact ⟨0, xs0, fun _ => 0, Nat.zero_le _, rfl, hB0, Lib.hid hl0, fun j hj => by omega, hx2⟩
  case round =>
    clear hB0 hl0 hx2 hHl
    obtain ⟨i, xs, G, hin, rfl, hB, hxl, hcp, hE⟩ := hrel
    by_cases hlt : i < n
    · obtain ⟨g, off, rfl, hcs⟩ := HR.out _ hE (by omega)
      obtain ⟨Ai, ci, c0, c1, c2, c3, c4, c5⟩ := hcs i hlt
      have hbi := HB.out i hlt
      have x0 : (0 : Int) ≤ (i : Int) := by omega
      have x1 : (i : Int) < (n : Int) := by omega
      have HC3 := Lib.hid c3
      clear c3 c4 c5 hcs
      go_wp2_with fail
      refine (toPicture_any (ws i) (hs i) Ai (bs i).length ci (bs i) _ hbi HC3.out).mono ?_
      rintro e w3 ⟨gN, hgN, rfl, hoN, hx3⟩
      have hB3 := blk_ext hB hx3
      have hll := hxl.out
      obtain ⟨v0, hv0⟩ : ∃ v, xs[i * 3]? = some v := ⟨_, List.getElem?_eq_getElem (by omega)⟩
      obtain ⟨v1, hv1⟩ : ∃ v, xs[i * 3 + 1]? = some v := ⟨_, List.getElem?_eq_getElem (by omega)⟩
      obtain ⟨v2, hv2⟩ : ∃ v, xs[i * 3 + 2]? = some v := ⟨_, List.getElem?_eq_getElem (by omega)⟩
      have d0 : w3.cell? ⟨W.heap.size, i * 3, none⟩ = some v0 := by rw [hB3.cell, hv0]
      have d1 : w3.cell? ⟨W.heap.size, i * 3 + 1, none⟩ = some v1 := by rw [hB3.cell, hv1]
      have d2 : w3.cell? ⟨W.heap.size, i * 3 + 2, none⟩ = some v2 := by rw [hB3.cell, hv2]
      have f0 := hB3.frozen (i * 3)
      have f1 := hB3.frozen (i * 3 + 1)
      have f2 := hB3.frozen (i * 3 + 2)
      obtain ⟨hB4, hcp4⟩ := hcp.push hx3 hB3 (by omega) hoN hgN hE.size
      have hE4 := (((hE.trans hx3).setCell (p := ⟨W.heap.size, i * 3, none⟩) (Nat.le_refl _) (.int .i64 (ws i))).setCell (p := ⟨W.heap.size, i * 3 + 1, none⟩) (Nat.le_refl _) (.int .i64 (hs i))).setCell (p := ⟨W.heap.size, i * 3 + 2, none⟩) (Nat.le_refl _) (.slice (some ⟨gN, 0, none⟩) (bs i).length (bs i).length)
      have hxl4 : Hid ((((xs.set (i * 3) (.int .i64 (ws i))).set (i * 3 + 1) (.int .i64 (hs i))).set (i * 3 + 2) (.slice (some ⟨gN, 0, none⟩) (bs i).length (bs i).length)).length = n * 3) := Lib.hid (by simp; exact hll)
      have HCP4 := Lib.hid hcp4
      have HB4 := Lib.hid hB4
      have HE4 := Lib.hid hE4
      clear hv0 hv1 hv2 hll hB3 hB hcp hE hx3 hoN c0 c1 c2 hcp4 hB4 hE4
      go_wp2
      go_roundw
      case rel => exact ⟨i + 1, _, _, by omega, by go_num, HB4.out, hxl4, HCP4.out.wider (by simp [World.setCell]), HE4.out⟩
      case measure => simp [intOf]; omega
    · obtain rfl : n = i := by omega
      have HOUT : Hid (CopyS wr W.heap.size wr.heap.size W.heap.size n ws hs bs) := Lib.hid ⟨Nat.le_refl _, hB.lt, Nat.le_refl _, xs, G, hB, hxl.out, hcp⟩
      clear hcp hB hxl
      go_wp2
      go_ret
      exact ⟨W.heap.size, rfl, HOUT.out, hE⟩
set_option maxHeartbeats 1000000 in
set_option maxRecDepth 8000 in
theorem eqPictureS_any (A A' : Option Addr) (n c c' : Nat) (ws hs : Nat → Int) (bs : Nat → List Nat) (W : World) (hn : n ≤ 1048576) (hb : ∀ i, i < n → (bs i).length ≤ maxLen) (hr : ReadsP W A n ws hs bs) (hr' : ReadsP W A' n ws hs bs) :
    Calls Try.prog 40 #[.slice A n c, .slice A' n c'] W fun e W' => e = .returned (.bool true) ∧ Ext W W' := by
  have hne : ((n : Int) != (n : Int)) = false := by simp
  have HB := Lib.hid hb
  have HR := Lib.hid (fun (W' : World) (hW : Ext W W') => hr.ext hW)
  have HR' := Lib.hid (fun (W' : World) (hW : Ext W W') => hr'.ext hW)
  clear hb hr hr'
  go_enter Try.func40, Try.ntmps40
  go_wp2_with fail
  go_loopw [5] (fun iv wr => ∃ i : Nat, i ≤ n ∧ iv = .int .i64 i ∧ Ext W wr) (fun iv _ => n - (intOf iv).toNat)
  case atStart => exact ⟨0, Nat.zero_le _, rfl, Ext.refl _⟩
  case round =>
    obtain ⟨i, hi, rfl, hE⟩ := hrel
    by_cases hlt : i < n
    · obtain ⟨g, off, rfl, hcs⟩ := HR.out _ hE (by omega)
      obtain ⟨Ai, ci, c0, c1, c2, c3, c4, c5⟩ := hcs i hlt
      obtain ⟨g', off', rfl, hcs'⟩ := HR'.out _ hE (by omega)
      obtain ⟨Ai', ci', c0', c1', c2', c3', c4', c5'⟩ := hcs' i hlt
      have HEQ := Lib.hid (fun (W' : World) (hW : Ext wr W') => eqPicture_any (ws i) (hs i) Ai Ai' (bs i).length (bs i).length ci ci' (bs i) (bs i) W' (HB.out i hlt) (c3.ext hW) (c3'.ext hW) rfl)
      have x0 : (0 : Int) ≤ (i : Int) := by omega
      have x1 : (i : Int) < (n : Int) := by omega
      clear c3 c4 c5 c3' c4' c5' hcs hcs'
      go_wp2_with fail
      refine region_wx0 [] (by kernel_rfl) (by kernel_rfl) ?_
      repeat ((first | refine wx_skip rfl ?_ | refine wx_nilCheck rfl rfl _ rfl _ rfl ?_ | (refine wx_float rfl rfl _ _ _ _ _ _ _ rfl rfl rfl rfl ?_; intro r hr) | (refine wx_k rfl rfl rfl (fun K hK => ?_); go_big_quiet_op; refine hK _ ?_; clear hK K) | (refine wx_call rfl rfl 31 _ _ rfl (by kernel_rfl) (by kernel_rfl) (.bool true) (fun W hW hF => ?_) ?_; go_simp; (with_reducible refine (HEQ.out W hW).mono ?_); rintro e w' h; exact h)); (try simp only [Act.put, List.setIfInBounds_toArray, List.set_cons_zero, List.set_cons_succ]); (try simp only [List.tail_nil]))
      refine wx_nil (fun W hW hF => ?_)
      have hE2 := hE.trans hW
      clear hE hW hF c0 c1 c2 c0' c1' c2'
      go_wp2
      go_roundw
      case rel => exact ⟨i + 1, by omega, by go_num, hE2⟩
      case measure => simp [intOf]; omega
    · obtain rfl : n = i := by omega
      go_wp2
      go_ret
      exact ⟨rfl, hE⟩
set_option maxHeartbeats 2000000 in
set_option maxRecDepth 8000 in
theorem markPictureS_any (lo hi H n c : Nat) (ws hs : Nat → Int) (bs : Nat → List Nat) (W : World) (hn : n + totB bs n ≤ 1048576) (hc : CopyS W lo hi H n ws hs bs) :
    Calls Try.prog 41 #[.slice (some ⟨H, 0, none⟩) n c, .int .i64 1] W fun e W' => e = .returned (.int .i64 ((1 + 2 * n + totB bs n : Nat) : Int)) ∧ Turned lo hi W W' := by
  obtain ⟨h0, h1, h2, xs0, G, hB0, hl0, hcp0⟩ := hc
  have HG := Lib.hid (fun (j : Nat) (hj : j < n) => (⟨(hcp0 j hj).2.2.2.2.1, (hcp0 j hj).2.2.2.2.2⟩ : G j < hi ∧ ∀ i, i < j → G i ≠ G j))
  have hst : ∀ j, j < n → xs0[j * 3 + 2]? = some (.slice (some ⟨G j, 0, none⟩) (bs j).length (bs j).length) ∧ OwnF W lo 25 (.slice (some ⟨G j, 0, none⟩) (bs j).length (bs j).length) (bs j) := fun j hj => ⟨(hcp0 j hj).2.2.1, (hcp0 j hj).2.2.2.1⟩
  clear hcp0
  go_enter Try.func41, Try.ntmps41
  go_wp2_with fail
  go_loopw [1, 5] (fun kv iv wr => ∃ (i : Nat) (xs : List Value), i ≤ n ∧ iv = .int .i64 i ∧ kv = .int .i64 ((1 + 2 * i + totB bs i : Nat) : Int) ∧ Blk wr H 58 xs ∧ Hid (xs.length = n * 3) ∧ Hid (∀ j, i ≤ j → j < n → xs[j * 3 + 2]? = some (.slice (some ⟨G j, 0, none⟩) (bs j).length (bs j).length) ∧ OwnF wr lo 25 (.slice (some ⟨G j, 0, none⟩) (bs j).length (bs j).length) (bs j)) ∧ Turned lo hi W wr) (fun _ iv _ => n - (intOf iv).toNat)
  case atStart => exact ⟨0, xs0, Nat.zero_le _, rfl, rfl, hB0, Lib.hid hl0, Lib.hid (fun j _ hj => hst j hj), Turned.refl _ _ _⟩
  case round =>
    clear hB0 hl0 hst
    obtain ⟨i, xs, hin, rfl, rfl, hB, hxl, hst, hE⟩ := hrel
    have hle := totB_le bs hin
    by_cases hlt : i < n
    · have hti := totB_one bs hlt
      have hstep : totB bs (i + 1) = totB bs i + (bs i).length := rfl
      obtain ⟨q2, q3⟩ := hst.out i (Nat.le_refl _) hlt
      have hll := hxl.out
      obtain ⟨v0, hv0⟩ : ∃ v, xs[i * 3]? = some v := ⟨_, List.getElem?_eq_getElem (by omega)⟩
      obtain ⟨v1, hv1⟩ : ∃ v, xs[i * 3 + 1]? = some v := ⟨_, List.getElem?_eq_getElem (by omega)⟩
      have d0 : wr.cell? ⟨H, i * 3, none⟩ = some v0 := by rw [hB.cell, hv0]
      have d1 : wr.cell? ⟨H, i * 3 + 1, none⟩ = some v1 := by rw [hB.cell, hv1]
      have d2 : wr.cell? ⟨H, i * 3 + 2, none⟩ = some (.slice (some ⟨G i, 0, none⟩) (bs i).length (bs i).length) := by rw [hB.cell, q2]
      have f0 := hB.frozen (i * 3)
      have f1 := hB.frozen (i * 3 + 1)
      have x0 : (0 : Int) ≤ (i : Int) := by omega
      have x1 : (i : Int) < (n : Int) := by omega
      obtain ⟨K, hK⟩ : ∃ K, 1 + 2 * i + totB bs i = K := ⟨_, rfl⟩
      rw [hK]
      have hK2 : K ≤ 4000000 := by omega
      have hw1 : IntKind.i64.wrap ((K : Int) + 1) = ((K + 1 : Nat) : Int) := IntWalk.i64_in _ (by omega)
      have hw2 : IntKind.i64.wrap (((K + 1 : Nat) : Int) + 1) = ((K + 1 + 1 : Nat) : Int) := IntWalk.i64_in _ (by omega)
      -- the world behind the two stores
      obtain ⟨ys, hys⟩ : ∃ ys, (xs.set (i * 3) (.int .i64 (K : Int))).set (i * 3 + 1) (.int .i64 ((K + 1 : Nat) : Int)) = ys := ⟨_, rfl⟩
      have hB2 : Blk ((wr.setCell ⟨H, i * 3, none⟩ (.int .i64 (K : Int))).setCell ⟨H, i * 3 + 1, none⟩ (.int .i64 ((K + 1 : Nat) : Int))) H 58 ys := by rw [← hys]; exact (hB.set_ _ _).set_ _ _
      have hyl : ys.length = n * 3 := by rw [← hys]; simp; exact hll
      have hst2 : ∀ j, i ≤ j → j < n → ys[j * 3 + 2]? = some (.slice (some ⟨G j, 0, none⟩) (bs j).length (bs j).length) ∧ OwnF ((wr.setCell ⟨H, i * 3, none⟩ (.int .i64 (K : Int))).setCell ⟨H, i * 3 + 1, none⟩ (.int .i64 ((K + 1 : Nat) : Int))) lo 25 (.slice (some ⟨G j, 0, none⟩) (bs j).length (bs j).length) (bs j) := fun j hij hj => by
        obtain ⟨r2, r3⟩ := hst.out j hij hj
        have hne := r3.ne_block hB (by decide)
        refine ⟨by rw [← hys, List.getElem?_set_ne (by omega), List.getElem?_set_ne (by omega), r2], (r3.set_ne hne _).set_ne hne _⟩
      have hE2 := (hE.setCell (p := ⟨H, i * 3, none⟩) h0 h1 (.int .i64 (K : Int))).setCell (p := ⟨H, i * 3 + 1, none⟩) h0 h1 (.int .i64 ((K + 1 : Nat) : Int))
      have HX := Lib.hid (⟨hB2, hyl, hst2, hE2⟩ : _ ∧ _ ∧ _ ∧ _)
      have HSTEP := Lib.hid hstep
      have HK := Lib.hid hK
      have HTI := Lib.hid hti
      have HLE := Lib.hid hle
      clear hB hxl hst hE hll hv0 hv1 q2 q3 hys hB2 hyl hst2 hE2 hstep hK hti hle
      go_wp2_with fail
      obtain ⟨hB2, hyl, hst2, hE2⟩ := HX.out
      obtain ⟨r2, r3⟩ := hst2 i (Nat.le_refl _) hlt
      refine (markF_any (.slice (some ⟨G i, 0, none⟩) (bs i).length (bs i).length) (bs i) (K + 1 + 1) lo _ (by have := HTI.out; omega) r3).mono ?_
      rintro e w3 ⟨rfl, hm, hgr⟩
      have hB3 : Blk w3 H 58 ys := (hgr.block H hB2.lt (fun he => by
        have := r3.ne_block hB2 (by decide) (G i) rfl
        simp [Value.ownBlock] at he
        exact this he.symm)).trans hB2
      have hst3 : Hid (∀ j, i + 1 ≤ j → j < n → ys[j * 3 + 2]? = some (.slice (some ⟨G j, 0, none⟩) (bs j).length (bs j).length) ∧ OwnF w3 lo 25 (.slice (some ⟨G j, 0, none⟩) (bs j).length (bs j).length) (bs j)) := Lib.hid (fun j hij hj => by
        obtain ⟨t2, t3⟩ := hst2 j (by omega) hj
        refine ⟨t2, t3.grown hgr (fun g hg he => ?_)⟩
        simp [Value.ownBlock] at hg he
        subst hg
        exact (HG.out j hj).2 i (by omega) he.symm)
      have hE3 : Turned lo hi W w3 := hE2.grown hgr (fun g hg => by
        simp [Value.ownBlock] at hg
        subst hg
        exact ⟨(r3.row (G i) rfl).1, (HG.out i hlt).1⟩)
      have hyl3 := Lib.hid hyl
      clear hm hgr hB2 hyl hst2 hE2 r2 r3 HX d0 d1 d2 f0 f1 hw1 hw2
      go_wp2
      go_roundw
      case rel => exact ⟨i + 1, ys, by omega, by go_num, by rw [HSTEP.out]; congr 1; have := HK.out; omega, hB3, hyl3, hst3, hE3⟩
      case measure => simp [intOf]; omega
    · obtain rfl : n = i := by omega
      go_wp2
      go_ret
      exact ⟨rfl, hE⟩
end Go.Proofs.Ytgpobhpcbgenoaa
