/- Contracts: the reference's stack of pictures. -/
import Derived.Test.YtgpobhpcbgenoaaStkM
import Derived.Test.YtgpobhpcbgenoaaValid
namespace Go.Proofs.Ytgpobhpcbgenoaa
open Go.RowKit
set_option linter.unusedVariables false

/-- The pictures are right, not too many, and of one size. -/
def StkOk (n : Nat) (ws hs : Nat → Int) (bs : Nat → List Nat) : Prop := (1 ≤ n ∧ n ≤ 8) ∧ ∀ i, i < n → VMap (ws i) (hs i) (bs i).length ∧ ws i = ws 0 ∧ hs i = hs 0
def stkL (n : Nat) (bs : Nat → List Nat) : List Nat := stL (fun j => (bs j).map nrm) n ((bs 0).length * n)
theorem StkOk.len {n : Nat} {ws hs : Nat → Int} {bs : Nat → List Nat} (h : StkOk n ws hs bs) {i : Nat} (hi : i < n) : (bs i).length = (bs 0).length := by
  obtain ⟨⟨_, h1⟩, h2, h3⟩ := h.2 i hi
  obtain ⟨⟨_, h4⟩, _, _⟩ := h.2 0 (by omega)
  rw [h2, h3, ← h4] at h1
  omega
theorem StkOk.n0 {n : Nat} {ws hs : Nat → Int} {bs : Nat → List Nat} (h : StkOk n ws hs bs) : 0 < (bs 0).length ∧ (bs 0).length ≤ 256 := by
  obtain ⟨⟨h1, h4⟩, _, _⟩ := h.2 0 (by have := h.1.1; omega)
  have := mul_bounds h1.1 h1.2.1 h1.2.2.1 h1.2.2.2.1
  have := h1.2.2.2.2
  omega
theorem StkOk.vol {n : Nat} {ws hs : Nat → Int} {bs : Nat → List Nat} (h : StkOk n ws hs bs) : VVol (ws 0) (hs 0) n ((bs 0).length * n) := by
  obtain ⟨⟨h1, h4⟩, _, _⟩ := h.2 0 (by have := h.1.1; omega)
  refine ⟨h1, by have := h.1.1; omega, by have := h.1.2; omega, ?_⟩
  rw [← h4]
  simp
theorem stkL_length (n : Nat) (bs : Nat → List Nat) : (stkL n bs).length = (bs 0).length * n := stL_length _ _ _
theorem StkOk.pics {w : World} {A : Option Addr} {n : Nat} {ws hs : Nat → Int} {bs : Nat → List Nat} (h : StkOk n ws hs bs) (hr : ReadsP w A n ws hs bs) : ∃ gp off, A = some ⟨gp, off, none⟩ ∧ PicL w gp off n (ws 0) (hs 0) (bs 0).length (fun j => (bs j).map nrm) := by
  obtain ⟨gp, off, rfl, hc⟩ := hr (by have := h.1.1; omega)
  refine ⟨gp, off, rfl, fun j hj => ?_⟩
  obtain ⟨Ai, ci, c0, c1, c2, c3, _, _⟩ := hc j hj
  have hl := h.len hj
  have hn0 := h.n0
  rw [(h.2 j hj).2.1] at c0
  rw [(h.2 j hj).2.2] at c1
  rw [hl] at c2 c3
  obtain ⟨ga, oa, rfl, hL⟩ := c3.2 hn0.1
  exact ⟨ga, oa, ci, bs j, c0, c1, c2, hL, hl, rfl⟩
theorem l02IsO_yes (g o : Nat) (w h : Int) (A : Option Addr) (n c : Nat) (W : World) (hn : n ≤ maxLen)
    (hc0 : W.cell? ⟨g, o, none⟩ = some (.int .i64 w)) (hc1 : W.cell? ⟨g, o + 1, none⟩ = some (.int .i64 h)) (hc2 : W.cell? ⟨g, o + 2, none⟩ = some (.slice A n c)) (hv : VMap w h n) :
    Calls Try.prog 83 #[.pointer (some ⟨g, o, none⟩)] W fun e W' => e = .returned (.bool true) ∧ Ext W W' := by
  unfold maxLen at hn
  obtain ⟨hs, he⟩ := hv
  have he' : ((n : Int) == w * h) = true := by simpa using he
  have hw := wrap_small (w * h) (by have := mul_bounds hs.1 hs.2.1 hs.2.2.1 hs.2.2.2.1; omega) (by have := hs.2.2.2.2; omega)
  have HS := Lib.hid hs
  clear hs he
  go_enter Try.func83, Try.ntmps83
  go_wp2_with fail
  refine region_wx 26 [] (by kernel_rfl) (by kernel_rfl) ?_
  simp only [List.take_succ_cons, List.take_zero, List.drop_succ_cons, List.drop_zero]
  repeat ((first | refine wx_skip rfl ?_ | refine wx_nilCheck rfl rfl _ rfl _ rfl ?_ | (refine wx_float rfl rfl _ _ _ _ _ _ _ rfl rfl rfl rfl ?_; intro r hr) | (refine wx_k rfl rfl rfl (fun K hK => ?_); go_big_quiet_op; refine hK _ ?_; clear hK K) | (refine wx_call rfl rfl 113 _ _ rfl (by kernel_rfl) (by kernel_rfl) (.bool true) (fun W hW hF => ?_) ?_; go_simp; (with_reducible refine (callsExt (l02Size_yes _ _ _ HS.out)).mono ?_); rintro e w' h; exact h)); (try simp only [Act.put, List.setIfInBounds_toArray, List.set_cons_zero, List.set_cons_succ]); (try simp only [List.tail_nil]))
  refine wx_nil (fun W hW hF => ?_)
  go_wp2
  go_ret
  exact ⟨rfl, hW⟩
theorem l02IsO_no1 (g o : Nat) (w h : Int) (A : Option Addr) (n c : Nat) (W : World) (hn : n ≤ maxLen)
    (hc0 : W.cell? ⟨g, o, none⟩ = some (.int .i64 w)) (hc1 : W.cell? ⟨g, o + 1, none⟩ = some (.int .i64 h)) (hc2 : W.cell? ⟨g, o + 2, none⟩ = some (.slice A n c)) (hv : ¬ Sz w h) :
    Calls Try.prog 83 #[.pointer (some ⟨g, o, none⟩)] W fun e W' => e = .returned (.bool false) ∧ Ext W W' := by
  unfold maxLen at hn
  have HS := Lib.hid hv
  clear hv
  go_enter Try.func83, Try.ntmps83
  go_wp2_with fail
  refine region_wx 26 [] (by kernel_rfl) (by kernel_rfl) ?_
  simp only [List.take_succ_cons, List.take_zero, List.drop_succ_cons, List.drop_zero]
  repeat ((first | refine wx_skip rfl ?_ | refine wx_nilCheck rfl rfl _ rfl _ rfl ?_ | (refine wx_float rfl rfl _ _ _ _ _ _ _ rfl rfl rfl rfl ?_; intro r hr) | (refine wx_k rfl rfl rfl (fun K hK => ?_); go_big_quiet_op; refine hK _ ?_; clear hK K) | (refine wx_call rfl rfl 113 _ _ rfl (by kernel_rfl) (by kernel_rfl) (.bool false) (fun W hW hF => ?_) ?_; go_simp; (with_reducible refine (callsExt (l02Size_no _ _ _ HS.out)).mono ?_); rintro e w' h; exact h)); (try simp only [Act.put, List.setIfInBounds_toArray, List.set_cons_zero, List.set_cons_succ]); (try simp only [List.tail_nil]))
  refine wx_nil (fun W hW hF => ?_)
  go_wp2
  go_ret
  exact ⟨rfl, hW⟩
theorem l02IsO_no2 (g o : Nat) (w h : Int) (A : Option Addr) (n c : Nat) (W : World) (hn : n ≤ maxLen)
    (hc0 : W.cell? ⟨g, o, none⟩ = some (.int .i64 w)) (hc1 : W.cell? ⟨g, o + 1, none⟩ = some (.int .i64 h)) (hc2 : W.cell? ⟨g, o + 2, none⟩ = some (.slice A n c)) (hs : Sz w h) (hv : (n : Int) ≠ w * h) :
    Calls Try.prog 83 #[.pointer (some ⟨g, o, none⟩)] W fun e W' => e = .returned (.bool false) ∧ Ext W W' := by
  unfold maxLen at hn
  have he' : ((n : Int) == w * h) = false := by simpa using hv
  have hw := wrap_small (w * h) (by have := mul_bounds hs.1 hs.2.1 hs.2.2.1 hs.2.2.2.1; omega) (by have := hs.2.2.2.2; omega)
  have HS := Lib.hid hs
  clear hs hv
  go_enter Try.func83, Try.ntmps83
  go_wp2_with fail
  refine region_wx 26 [] (by kernel_rfl) (by kernel_rfl) ?_
  simp only [List.take_succ_cons, List.take_zero, List.drop_succ_cons, List.drop_zero]
  repeat ((first | refine wx_skip rfl ?_ | refine wx_nilCheck rfl rfl _ rfl _ rfl ?_ | (refine wx_float rfl rfl _ _ _ _ _ _ _ rfl rfl rfl rfl ?_; intro r hr) | (refine wx_k rfl rfl rfl (fun K hK => ?_); go_big_quiet_op; refine hK _ ?_; clear hK K) | (refine wx_call rfl rfl 113 _ _ rfl (by kernel_rfl) (by kernel_rfl) (.bool true) (fun W hW hF => ?_) ?_; go_simp; (with_reducible refine (callsExt (l02Size_yes _ _ _ HS.out)).mono ?_); rintro e w' h; exact h)); (try simp only [Act.put, List.setIfInBounds_toArray, List.set_cons_zero, List.set_cons_succ]); (try simp only [List.tail_nil]))
  refine wx_nil (fun W hW hF => ?_)
  go_wp2
  go_ret
  exact ⟨rfl, hW⟩
theorem l02IsO_not (g o : Nat) (w h : Int) (A : Option Addr) (n c : Nat) (W : World) (hn : n ≤ maxLen)
    (hc0 : W.cell? ⟨g, o, none⟩ = some (.int .i64 w)) (hc1 : W.cell? ⟨g, o + 1, none⟩ = some (.int .i64 h)) (hc2 : W.cell? ⟨g, o + 2, none⟩ = some (.slice A n c)) (hv : ¬ VMap w h n) :
    Calls Try.prog 83 #[.pointer (some ⟨g, o, none⟩)] W fun e W' => e = .returned (.bool false) ∧ Ext W W' := by
  by_cases hs : Sz w h
  · exact l02IsO_no2 g o w h A n c W hn hc0 hc1 hc2 hs (fun he => hv ⟨hs, he⟩)
  · exact l02IsO_no1 g o w h A n c W hn hc0 hc1 hc2 hs
set_option maxHeartbeats 4000000 in
set_option maxRecDepth 8000 in
theorem specStackOf_any (A : Option Addr) (n c : Nat) (ws hs : Nat → Int) (bs : Nat → List Nat) (W : World) (R : Ending → World → Prop) (hn : n ≤ 1048576) (hb : ∀ i, i < n → (bs i).length ≤ maxLen) (hr : ReadsP W A n ws hs bs)
    (hno : ¬ StkOk n ws hs bs → ∀ U', Ext W U' → R (.returned (.tuple #[.agg #[.int .i64 0, .int .i64 0, .int .i64 0, .slice none 0 0], .bool false])) U')
    (hyes : StkOk n ws hs bs → ∀ U' A c' b, OwnF U' W.heap.size 25 (.slice A b.length c') b → b.map nrm = stkL n bs → Ext W U' → R (.returned (.tuple #[.agg #[.int .i64 (ws 0), .int .i64 (hs 0), .int .i64 n, .slice A b.length c'], .bool true])) U') :
    Calls Try.prog 37 #[.slice A n c] W R := by
  have HNO := Lib.hid hno
  have HYES := Lib.hid hyes
  have HB := Lib.hid hb
  have HR := Lib.hid (fun (W' : World) (hW : Ext W W') => hr.ext hW)
  have HST := Lib.hid (fun (hok : StkOk n ws hs bs) => (by
    obtain ⟨gp, off, rfl, hP⟩ := hok.pics hr
    exact ⟨gp, off, rfl, hok.1, hok.n0, fun U hU => l03Stack_any gp off n c (bs 0).length (ws 0) (hs 0) (fun j => (bs j).map nrm) U (hP.ext hU) hok.1 hok.n0⟩ : ∃ gp off, A = some ⟨gp, off, none⟩ ∧ (1 ≤ n ∧ n ≤ 8) ∧ (0 < (bs 0).length ∧ (bs 0).length ≤ 256) ∧ ∀ U, Ext W U → Calls Try.prog 84 #[.slice (some ⟨gp, off, none⟩) n c] U fun e U' => ∃ A c' b, e = .returned (.agg #[.int .i64 (ws 0), .int .i64 (hs 0), .int .i64 n, .slice A b.length c']) ∧ OwnF U' U.heap.size 25 (.slice A b.length c') b ∧ b.map nrm = stkL n bs ∧ Ext U U'))
  clear hno hyes hb hr
  by_cases hlow : n < 1
  · have HBAD : Hid (¬ StkOk n ws hs bs) := Lib.hid (fun h => by have := h.1.1; omega)
    have hl1 : (n : Int) < 1 := by omega
    go_enter Try.func37, Try.ntmps37
    go_wp2
    refine bodyPost_ret (v := .tuple #[.agg #[.int .i64 0, .int .i64 0, .int .i64 0, .slice none 0 0], .bool false]) (by simp [results, Try.results37, go_sem, *]) rfl (HNO.out HBAD.out _ ?_)
    repeat (first | with_reducible exact Ext.refl _ | (with_reducible refine Ext.setCell ?_ (by simp; try omega) _) | (with_reducible refine Ext.alloc ?_ _))
  by_cases hhigh : 8 < n
  · have HBAD : Hid (¬ StkOk n ws hs bs) := Lib.hid (fun h => by have := h.1.2; omega)
    have hl1 : ¬ ((n : Int) < 1) := by omega
    have hl2 : (n : Int) > 8 := by omega
    have hl3 : (8 : Int) < (n : Int) := by omega
    go_enter Try.func37, Try.ntmps37
    go_wp2
    refine bodyPost_ret (v := .tuple #[.agg #[.int .i64 0, .int .i64 0, .int .i64 0, .slice none 0 0], .bool false]) (by simp [results, Try.results37, go_sem, *]) rfl (HNO.out HBAD.out _ ?_)
    repeat (first | with_reducible exact Ext.refl _ | (with_reducible refine Ext.setCell ?_ (by simp; try omega) _) | (with_reducible refine Ext.alloc ?_ _))
  have hl1 : ¬ ((n : Int) < 1) := by omega
  have hl2 : ¬ ((n : Int) > 8) := by omega
  have hl3 : ¬ ((8 : Int) < (n : Int)) := by omega
  obtain ⟨g, off, hA, hcs0⟩ := HR.out W (Ext.refl _) (by omega)
  subst hA
  have HCS := Lib.hid hcs0
  have hgl : g < W.heap.size := by
    obtain ⟨Ai, ci, c0, _⟩ := hcs0 0 (by omega)
    exact lt_of_cell c0
  clear hcs0
  go_enter Try.func37, Try.ntmps37
  go_wp2_with fail
  refine wp_at (X := fun w' => Ext W w' ∧ Res4 w' W.heap.size ∧ W.heap.size + 1 ≤ w'.heap.size) ⟨(Ext.refl _).alloc _, ⟨by simp [go_sem], by simp [go_sem], by simp [go_sem], by simp [go_sem], by simp [go_sem], by simp [go_sem], by simp [go_sem], by simp [go_sem]⟩, by simp⟩ ?_
  rintro w0 ⟨hx0, hr0, hs0⟩
  go_loopw [17] (fun iv wr => ∃ i : Nat, i ≤ n ∧ iv = .int .i64 i ∧ Hid (∀ j, j < i → VMap (ws j) (hs j) (bs j).length ∧ ws j = ws 0 ∧ hs j = hs 0) ∧ Ext w0 wr) (fun iv _ => n - (intOf iv).toNat)
  case atStart => exact ⟨0, Nat.zero_le _, rfl, Lib.hid (fun j hj => by omega), Ext.refl _⟩
  case round =>
    obtain ⟨i, hin, rfl, hok, hE⟩ := hrel
    by_cases hlt : i < n
    · have hEa := hx0.trans hE
      obtain ⟨Ai, ci, c0', c1', c2', c3, c4, c5⟩ := HCS.out i hlt
      have c0 := cell_ext c0' hEa
      have c1 := cell_ext c1' hEa
      have c2 := cell_ext c2' hEa
      obtain ⟨A0, k0, d0', d1', _⟩ := HCS.out 0 (by omega)
      have d0 := cell_ext d0' hEa
      have d1 := cell_ext d1' hEa
      rw [Nat.zero_mul, Nat.add_zero] at d0 d1
      have hbi := HB.out i hlt
      have x0 : (0 : Int) ≤ (i : Int) := by omega
      have x1 : (i : Int) < (n : Int) := by omega
      have z0 : (0 : Int) < (n : Int) := by omega
      clear c0' c1' c2' d0' d1' c3 c4 c5
      by_cases hv : VMap (ws i) (hs i) (bs i).length
      · have HL := Lib.hid (fun (V : World) (hV : Ext wr V) => l02IsO_yes g (off + i * 3) (ws i) (hs i) Ai (bs i).length ci V hbi (cell_ext c0 hV) (cell_ext c1 hV) (cell_ext c2 hV) hv)
        cases hq1 : (ws i != ws 0) with
        | true =>
          have HBAD : Hid (¬ StkOk n ws hs bs) := Lib.hid (fun h => by have := (h.2 i hlt).2.1; simp [this] at hq1)
          clear hv hok c2
          go_wp2_with fail
          refine region_wx 28 [] (by kernel_rfl) (by kernel_rfl) ?_
          simp only [List.take_succ_cons, List.take_zero, List.drop_succ_cons, List.drop_zero]
          repeat ((first | refine wx_skip rfl ?_ | refine wx_nilCheck rfl rfl _ rfl _ rfl ?_ | (refine wx_float rfl rfl _ _ _ _ _ _ _ rfl rfl rfl rfl ?_; intro r hr) | (refine wx_k rfl rfl rfl (fun K hK => ?_); go_big_quiet_op; refine hK _ ?_; clear hK K) | (refine wx_call rfl rfl 83 _ _ rfl (by kernel_rfl) (by kernel_rfl) (.bool true) (fun W hW hF => ?_) ?_; go_simp; (with_reducible refine (HL.out W hW).mono ?_); rintro e w' h; exact h)); (try simp only [Act.put, List.setIfInBounds_toArray, List.set_cons_zero, List.set_cons_succ]); (try simp only [List.tail_nil]))
          refine wx_nil (fun W hW hF => ?_)
          have hE2 := hEa.trans (hW)
          have ⟨r0, r1, r2, r3, rf0, rf1, rf2, rf3⟩ := (hr0.ext hE).ext hW
          clear hF hW hE hEa c0 c1 d0 d1
          go_wp2
          refine bodyPost_ret (v := .tuple #[.agg #[.int .i64 0, .int .i64 0, .int .i64 0, .slice none 0 0], .bool false]) (by simp [results, Try.results37, go_sem, *]) rfl (HNO.out HBAD.out _ ?_)
          repeat (first | (with_reducible exact hE2) | (with_reducible refine Ext.setCell ?_ (by dsimp only; omega) _))
        | false =>
          cases hq2 : (hs i != hs 0) with
          | true =>
            have HBAD : Hid (¬ StkOk n ws hs bs) := Lib.hid (fun h => by have := (h.2 i hlt).2.2; simp [this] at hq2)
            clear hv hok c2
            go_wp2_with fail
            refine region_wx 28 [] (by kernel_rfl) (by kernel_rfl) ?_
            simp only [List.take_succ_cons, List.take_zero, List.drop_succ_cons, List.drop_zero]
            repeat ((first | refine wx_skip rfl ?_ | refine wx_nilCheck rfl rfl _ rfl _ rfl ?_ | (refine wx_float rfl rfl _ _ _ _ _ _ _ rfl rfl rfl rfl ?_; intro r hr) | (refine wx_k rfl rfl rfl (fun K hK => ?_); go_big_quiet_op; refine hK _ ?_; clear hK K) | (refine wx_call rfl rfl 83 _ _ rfl (by kernel_rfl) (by kernel_rfl) (.bool true) (fun W hW hF => ?_) ?_; go_simp; (with_reducible refine (HL.out W hW).mono ?_); rintro e w' h; exact h)); (try simp only [Act.put, List.setIfInBounds_toArray, List.set_cons_zero, List.set_cons_succ]); (try simp only [List.tail_nil]))
            refine wx_nil (fun W hW hF => ?_)
            have hE2 := hEa.trans (hW)
            have ⟨r0, r1, r2, r3, rf0, rf1, rf2, rf3⟩ := (hr0.ext hE).ext hW
            clear hF hW hE hEa c0 c1 d0 d1
            go_wp2
            refine bodyPost_ret (v := .tuple #[.agg #[.int .i64 0, .int .i64 0, .int .i64 0, .slice none 0 0], .bool false]) (by simp [results, Try.results37, go_sem, *]) rfl (HNO.out HBAD.out _ ?_)
            repeat (first | (with_reducible exact hE2) | (with_reducible refine Ext.setCell ?_ (by dsimp only; omega) _))
          | false =>
            have hok2 : Hid (∀ j, j < i + 1 → VMap (ws j) (hs j) (bs j).length ∧ ws j = ws 0 ∧ hs j = hs 0) := Lib.hid (fun j hj => by
              by_cases h : j < i
              · exact hok.out j h
              · obtain rfl : j = i := by omega
                exact ⟨hv, by simpa using hq1, by simpa using hq2⟩)
            clear hv hok c2
            go_wp2_with fail
            refine region_wx 28 [] (by kernel_rfl) (by kernel_rfl) ?_
            simp only [List.take_succ_cons, List.take_zero, List.drop_succ_cons, List.drop_zero]
            repeat ((first | refine wx_skip rfl ?_ | refine wx_nilCheck rfl rfl _ rfl _ rfl ?_ | (refine wx_float rfl rfl _ _ _ _ _ _ _ rfl rfl rfl rfl ?_; intro r hr) | (refine wx_k rfl rfl rfl (fun K hK => ?_); go_big_quiet_op; refine hK _ ?_; clear hK K) | (refine wx_call rfl rfl 83 _ _ rfl (by kernel_rfl) (by kernel_rfl) (.bool true) (fun W hW hF => ?_) ?_; go_simp; (with_reducible refine (HL.out W hW).mono ?_); rintro e w' h; exact h)); (try simp only [Act.put, List.setIfInBounds_toArray, List.set_cons_zero, List.set_cons_succ]); (try simp only [List.tail_nil]))
            refine wx_nil (fun W hW hF => ?_)
            have hE2 := hE.trans hW
            clear hF hW hE hEa c0 c1 d0 d1
            go_wp2
            go_roundw
            case rel => exact ⟨i + 1, by omega, by go_num, hok2, hE2⟩
            case measure => simp [intOf]; omega
      · have HL := Lib.hid (fun (V : World) (hV : Ext wr V) => l02IsO_not g (off + i * 3) (ws i) (hs i) Ai (bs i).length ci V hbi (cell_ext c0 hV) (cell_ext c1 hV) (cell_ext c2 hV) hv)
        have HBAD : Hid (¬ StkOk n ws hs bs) := Lib.hid (fun h => hv (h.2 i hlt).1)
        clear hv hok c2
        go_wp2_with fail
        refine region_wx 28 [] (by kernel_rfl) (by kernel_rfl) ?_
        simp only [List.take_succ_cons, List.take_zero, List.drop_succ_cons, List.drop_zero]
        repeat ((first | refine wx_skip rfl ?_ | refine wx_nilCheck rfl rfl _ rfl _ rfl ?_ | (refine wx_float rfl rfl _ _ _ _ _ _ _ rfl rfl rfl rfl ?_; intro r hr) | (refine wx_k rfl rfl rfl (fun K hK => ?_); go_big_quiet_op; refine hK _ ?_; clear hK K) | (refine wx_call rfl rfl 83 _ _ rfl (by kernel_rfl) (by kernel_rfl) (.bool false) (fun W hW hF => ?_) ?_; go_simp; (with_reducible refine (HL.out W hW).mono ?_); rintro e w' h; exact h)); (try simp only [Act.put, List.setIfInBounds_toArray, List.set_cons_zero, List.set_cons_succ]); (try simp only [List.tail_nil]))
        refine wx_nil (fun W hW hF => ?_)
        have hE2 := hEa.trans hW
        have ⟨r0, r1, r2, r3, rf0, rf1, rf2, rf3⟩ := (hr0.ext hE).ext hW
        clear hF hW hE hEa c0 c1 d0 d1
        go_wp2
        refine bodyPost_ret (v := .tuple #[.agg #[.int .i64 0, .int .i64 0, .int .i64 0, .slice none 0 0], .bool false]) (by simp [results, Try.results37, go_sem, *]) rfl (HNO.out HBAD.out _ ?_)
        repeat (first | (with_reducible exact hE2) | (with_reducible refine Ext.setCell ?_ (by dsimp only; omega) _))
    · obtain rfl : n = i := by omega
      have hgood : StkOk n ws hs bs := ⟨⟨by omega, by omega⟩, fun j hj => hok.out j hj⟩
      obtain ⟨gp, off', he, _, hn0, hcall⟩ := HST.out hgood
      simp only [Option.some.injEq, Addr.mk.injEq] at he
      obtain ⟨rfl, rfl, _⟩ := he
      have HG := Lib.hid hgood
      have HCALL := Lib.hid hcall
      clear hok hgood hcall
      go_wp2_with fail
      refine (HCALL.out _ (hx0.trans hE)).mono ?_
      rintro e w2 ⟨A2, c2, b2, rfl, hO2, hL2, hx2⟩
      have hbl : Hid (b2.length = (bs 0).length * n) := Lib.hid (by have := congrArg List.length hL2; rw [List.length_map, stkL_length] at this; exact this)
      have hVV : Hid (VVol (ws 0) (hs 0) n b2.length) := Lib.hid (by rw [hbl.out]; exact HG.out.vol)
      have hb3 := hO2.bound
      have hr2 := (hr0.ext hE).ext hx2
      have hE2 := (hx0.trans hE).trans hx2
      have hs2 := Nat.le_trans hs0 (hE.trans hx2).size
      have hsE := Nat.le_trans hs0 hE.size
      clear hE hx2
      go_wp2_with fail
      obtain ⟨W4, hW4⟩ : ∃ W4, w2.alloc (.cells #[.int .i64 (ws 0), .int .i64 (hs 0), .int .i64 n, .slice A2 b2.length c2] 34) = W4 := ⟨_, rfl⟩
      have hx4 : Ext w2 W4 := by rw [← hW4]; exact (Ext.refl _).alloc _
      have hb4 : Box4 W4 w2.heap.size (.int .i64 (ws 0)) (.int .i64 (hs 0)) (.int .i64 n) (.slice A2 b2.length c2) := by rw [← hW4]; exact ⟨by simp [go_sem], by simp [go_sem], by simp [go_sem], by simp [go_sem]⟩
      refine calls_at (X := fun w' => w' = W4) hW4 ?_
      rintro w4 rfl
      clear hW4
      refine (l03Is_yes w2.heap.size (ws 0) (hs 0) n A2 b2.length c2 w4 hb3 hb4.1 hb4.2.1 hb4.2.2.1 hb4.2.2.2 hVV.out).mono ?_
      rintro e w5 ⟨rfl, hx5⟩
      have hx25 := hx4.trans hx5
      have ⟨q0, q1, q2, q3⟩ := hb4.ext hx5
      have ⟨r0, r1, r2, r3, rf0, rf1, rf2, rf3⟩ := hr2.ext hx25
      have hO5 := hO2.ext hx25
      have hE5 := hE2.trans hx25
      clear hx4 hx5 hx25 hb4 hr2 hO2 hE2
      go_wp2
      refine bodyPost_ret (v := .tuple #[.agg #[.int .i64 (ws 0), .int .i64 (hs 0), .int .i64 n, .slice A2 b2.length c2], .bool true]) (by simp [results, Try.results37, go_sem, *]) rfl (HYES.out HG.out _ A2 c2 b2 ?_ hL2 ?_)
      · refine OwnF.weaken (base := wr.heap.size) ?_ (by omega)
        repeat (first | (with_reducible exact hO5) | (with_reducible refine OwnF.set_below ?_ (by dsimp only; omega) _))
      · repeat (first | (with_reducible exact hE5) | (with_reducible refine Ext.setCell ?_ (by dsimp only; omega) _))
end Go.Proofs.Ytgpobhpcbgenoaa
