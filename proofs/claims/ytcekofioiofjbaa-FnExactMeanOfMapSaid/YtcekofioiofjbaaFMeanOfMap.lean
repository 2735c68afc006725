/- The law on MeanOfMap holds. -/
import Derived.Test.YtcekofioiofjbaaHole
import Derived.Test.YtcekofioiofjbaaCMeanOfMap
namespace Go.Proofs.Ytcekofioiofjbaa
open Go.RowKit
set_option linter.unusedVariables false

def sumH (bs : List Nat) : Nat → Nat
  | 0 => 0
  | k + 1 => if holeB (bs.getD k 0) = true then sumH bs k else fop .add (sumH bs k) (bs.getD k 0)
def cntH (bs : List Nat) : Nat → Nat
  | 0 => 0
  | k + 1 => if holeB (bs.getD k 0) = true then cntH bs k else cntH bs k + 1
theorem cntH_le (bs : List Nat) : ∀ k, cntH bs k ≤ k
  | 0 => Nat.le_refl _
  | k + 1 => by
    have := cntH_le bs k
    unfold cntH
    split <;> omega
def meanX (bs : List Nat) (n : Nat) : Nat := if cntH bs n = 0 then 0 else fop .quo (sumH bs n) (floatOfInt .f32 (cntH bs n : Int))
def meanB (bs : List Nat) (n : Nat) : Bool := decide (¬ cntH bs n = 0)
set_option maxHeartbeats 2000000 in
theorem specMeanOfMap_yes (w h : Int) (gb off n c : Nat) (bs : List Nat) (U : World) (hnm : n ≤ maxLen) (hl : Lies U gb off bs) (hlen : bs.length = n) (hwd : Words bs) (hv : VMap w h n) :
    Calls Try.prog 34 #[.agg #[.int .i64 w, .int .i64 h, .slice (some ⟨gb, off, none⟩) n c]] U fun e U' => ∃ r, e = .returned (.tuple #[.float .f32 r, .bool (meanB bs n)]) ∧ Is r (meanX bs n) ∧ Ext U U' := by
  have hn : n ≤ 256 := by have := hv.2; have := hv.1.2.2.2.2; omega
  have HV := Lib.hid hv
  have HLEN := Lib.hid hlen
  have HWD := Lib.hid hwd
  have HL := Lib.hid hl
  clear hv hlen hwd hl
  go_enter Try.func34, Try.ntmps34
  go_wp2_with fail
  refine calls_at (X := fun w' => Ext U w' ∧ Box3 w' U.heap.size (.int .i64 w) (.int .i64 h) (.slice (some ⟨gb, off, none⟩) n c)) ⟨(Ext.refl _).alloc _, by simp [go_sem], by simp [go_sem], by simp [go_sem]⟩ ?_
  rintro w0 ⟨hx0, hb0⟩
  refine (l03IsMap_yes U.heap.size w h _ n c _ hnm hb0.1 hb0.2.1 hb0.2.2 HV.out).mono ?_
  rintro e w1 ⟨rfl, hx⟩
  have hb := hb0.ext hx
  have hE := hx0.trans hx
  have ⟨c0, c1, c2⟩ := hb
  clear hx hx0 hb0
  clear hnm
  go_wp2_with fail
  clear c0 c1 c2
  go_loopw [4, 5, 12] (fun s cnt i wr => ∃ (k r : Nat), k ≤ n ∧ i = .int .i64 k ∧ cnt = .int .i64 (cntH bs k : Int) ∧ s = .float .f32 r ∧ Is r (sumH bs k) ∧ Ext w1 wr) (fun _ _ i _ => n - (intOf i).toNat)
  case atStart => exact ⟨0, 0, Nat.zero_le _, rfl, rfl, rfl, Is.zero, Ext.refl _⟩
  case round =>
    obtain ⟨k, r, hk, rfl, rfl, rfl, hr0, hxx⟩ := hrel
    have ⟨c0, c1, c2⟩ := hb.ext hxx
    by_cases hlt : k < n
    · have hc := (HL.out.ext (hE.trans hxx)) k (by have := HLEN.out; omega)
      have hcnt := cntH_le bs k
      have hwb := wd_at HWD.out k
      have hk0 : (0 : Int) ≤ (k : Int) := by omega
      have hk1 : (k : Int) < (n : Int) := by omega
      obtain ⟨q, hq⟩ : ∃ q, cntH bs k = q := ⟨_, rfl⟩
      rw [hq] at hcnt ⊢
      have HQ := Lib.hid hq
      obtain ⟨b, hb'⟩ : ∃ b, bs.getD k 0 = b := ⟨_, rfl⟩
      rw [hb'] at hc hwb
      have HB := Lib.hid hb'
      cases hh : holeB b with
      | true =>
        have h1 : cntH bs (k + 1) = q := by rw [cntH, HB.out, hh, if_pos rfl, HQ.out]
        have h2 : sumH bs (k + 1) = sumH bs k := by rw [sumH, HB.out, hh, if_pos rfl]
        have H1 := Lib.hid h1
        have H2 := Lib.hid h2
        have HH := Lib.hid hh
        clear h1 h2 hh hq hb'
        go_wp2_with (go_at_call 72; refine (l05Hole_of b true HH.out _).mono ?_; rintro e w' ⟨rfl, rfl⟩)
        go_roundw
        case rel => exact ⟨k + 1, r, by omega, by go_num, by rw [H1.out], rfl, by rw [H2.out]; exact hr0, hxx⟩
        case measure => simp [intOf]; omega
      | false =>
        have h1 : cntH bs (k + 1) = q + 1 := by rw [cntH, HB.out, hh, if_neg (by simp), HQ.out]
        have h2 : sumH bs (k + 1) = fop .add (sumH bs k) b := by rw [sumH, HB.out, hh, if_neg (by simp)]
        have H1 := Lib.hid h1
        have H2 := Lib.hid h2
        have HH := Lib.hid hh
        clear h1 h2 hh hq hb'
        go_wp2_with (go_at_call 72; refine (l05Hole_of b false HH.out _).mono ?_; rintro e w' ⟨rfl, rfl⟩)
        go_roundw
        case rel => exact ⟨k + 1, _, by omega, by go_num, by rw [H1.out]; go_num, rfl, by rw [H2.out]; exact is_r hr0 hwb (flR_is _ _ _ _), hxx.drewN _⟩
        case measure => simp [intOf]; omega
    · have e1 : k = n := by omega
      rw [e1] at hr0 ⊢
      have hcnt := cntH_le bs n
      obtain ⟨q, hq⟩ : ∃ q, cntH bs n = q := ⟨_, rfl⟩
      rw [hq] at hcnt ⊢
      by_cases h0 : q = 0
      · have hX : meanX bs n = 0 := by unfold meanX; rw [hq, if_pos h0]
        have hBv : meanB bs n = false := by unfold meanB; rw [hq]; simp [h0]
        have HX := Lib.hid hX
        have HBv := Lib.hid hBv
        rw [h0]
        clear hq hX hBv
        go_wp2
        go_ret2
        exact ⟨0, by rw [HBv.out]; rfl, by rw [HX.out]; exact Is.zero, hE.trans hxx⟩
      · have hX : meanX bs n = fop .quo (sumH bs n) (floatOfInt .f32 (q : Int)) := by unfold meanX; rw [hq, if_neg h0]
        have hBv : meanB bs n = true := by unfold meanB; rw [hq]; simp [h0]
        have HX := Lib.hid hX
        have HBv := Lib.hid hBv
        have hb0 : ((q : Int) == 0) = false := by simp; exact h0
        clear hq hX hBv
        go_wp2
        go_ret2
        exact ⟨_, by rw [HBv.out]; rfl, by rw [HX.out]; exact is_r hr0 (ofInt_lt _) (flR_is _ _ _ _), (hE.trans hxx).drewN _⟩
theorem specMeanOfMap_no (w h : Int) (A : Option Addr) (n c : Nat) (U : World) (hnm : n ≤ maxLen) (hv : ¬ VMap w h n) :
    Calls Try.prog 34 #[.agg #[.int .i64 w, .int .i64 h, .slice A n c]] U fun e U' => ∃ r, e = .returned (.tuple #[.float .f32 r, .bool false]) ∧ Is r 0 ∧ Ext U U' := by
  have HV := Lib.hid hv
  clear hv
  go_enter Try.func34, Try.ntmps34
  go_wp2_with fail
  refine calls_at (X := fun w' => Ext U w' ∧ Box3 w' U.heap.size (.int .i64 w) (.int .i64 h) (.slice A n c)) ⟨(Ext.refl _).alloc _, by simp [go_sem], by simp [go_sem], by simp [go_sem]⟩ ?_
  rintro w0 ⟨hx0, hb0⟩
  refine (l03IsMap_not U.heap.size w h A n c _ hnm hb0.1 hb0.2.1 hb0.2.2 HV.out).mono ?_
  rintro e w1 ⟨rfl, hx⟩
  have hE := hx0.trans hx
  clear hx hx0 hb0
  go_wp2
  go_ret2
  exact ⟨_, rfl, Is.zero, hE⟩
set_option maxHeartbeats 2000000 in
theorem mean_any (gb off n c : Nat) (bs : List Nat) (w1 : World) (hn : n ≤ 256) (hl : Lies w1 gb off bs) (hlen : bs.length = n) (hwd : Words bs) :
    Calls Try.prog 80 #[.slice (some ⟨gb, off, none⟩) n c] w1 fun e U' => ∃ r, e = .returned (.tuple #[.float .f32 r, .bool (meanB bs n)]) ∧ Is r (meanX bs n) ∧ Ext w1 U' := by
  have HLEN := Lib.hid hlen
  have HWD := Lib.hid hwd
  have HL := Lib.hid hl
  have hE := Ext.refl w1
  clear hlen hwd hl
  go_enter Try.func80, Try.ntmps80
  go_wp2_with fail
  go_loopw [4, 5, 10] (fun s cnt i wr => ∃ (k r : Nat), k ≤ n ∧ i = .int .i64 k ∧ cnt = .int .i64 (cntH bs k : Int) ∧ s = .float .f32 r ∧ Is r (sumH bs k) ∧ Ext w1 wr) (fun _ _ i _ => n - (intOf i).toNat)
  case atStart => exact ⟨0, 0, Nat.zero_le _, rfl, rfl, rfl, Is.zero, Ext.refl _⟩
  case round =>
    obtain ⟨k, r, hk, rfl, rfl, rfl, hr0, hxx⟩ := hrel
    skip
    by_cases hlt : k < n
    · have hc := (HL.out.ext (hE.trans hxx)) k (by have := HLEN.out; omega)
      have hcnt := cntH_le bs k
      have hwb := wd_at HWD.out k
      have hk0 : (0 : Int) ≤ (k : Int) := by omega
      have hk1 : (k : Int) < (n : Int) := by omega
      obtain ⟨q, hq⟩ : ∃ q, cntH bs k = q := ⟨_, rfl⟩
      rw [hq] at hcnt ⊢
      have HQ := Lib.hid hq
      obtain ⟨b, hb'⟩ : ∃ b, bs.getD k 0 = b := ⟨_, rfl⟩
      rw [hb'] at hc hwb
      have HB := Lib.hid hb'
      cases hh : holeB b with
      | true =>
        have h1 : cntH bs (k + 1) = q := by rw [cntH, HB.out, hh, if_pos rfl, HQ.out]
        have h2 : sumH bs (k + 1) = sumH bs k := by rw [sumH, HB.out, hh, if_pos rfl]
        have H1 := Lib.hid h1
        have H2 := Lib.hid h2
        have HH := Lib.hid hh
        clear h1 h2 hh hq hb'
        go_wp2_with (go_at_call 85; refine (noHole_of b true HH.out _).mono ?_; rintro e w' ⟨rfl, rfl⟩)
        go_roundw
        case rel => exact ⟨k + 1, r, by omega, by go_num, by rw [H1.out], rfl, by rw [H2.out]; exact hr0, hxx⟩
        case measure => simp [intOf]; omega
      | false =>
        have h1 : cntH bs (k + 1) = q + 1 := by rw [cntH, HB.out, hh, if_neg (by simp), HQ.out]
        have h2 : sumH bs (k + 1) = fop .add (sumH bs k) b := by rw [sumH, HB.out, hh, if_neg (by simp)]
        have H1 := Lib.hid h1
        have H2 := Lib.hid h2
        have HH := Lib.hid hh
        clear h1 h2 hh hq hb'
        go_wp2_with (go_at_call 85; refine (noHole_of b false HH.out _).mono ?_; rintro e w' ⟨rfl, rfl⟩)
        go_roundw
        case rel => exact ⟨k + 1, _, by omega, by go_num, by rw [H1.out]; go_num, rfl, by rw [H2.out]; exact is_r hr0 hwb (flR_is _ _ _ _), hxx.drewN _⟩
        case measure => simp [intOf]; omega
    · have e1 : k = n := by omega
      rw [e1] at hr0 ⊢
      have hcnt := cntH_le bs n
      obtain ⟨q, hq⟩ : ∃ q, cntH bs n = q := ⟨_, rfl⟩
      rw [hq] at hcnt ⊢
      by_cases h0 : q = 0
      · have hX : meanX bs n = 0 := by unfold meanX; rw [hq, if_pos h0]
        have hBv : meanB bs n = false := by unfold meanB; rw [hq]; simp [h0]
        have HX := Lib.hid hX
        have HBv := Lib.hid hBv
        rw [h0]
        clear hq hX hBv
        go_wp2
        go_ret2
        exact ⟨0, by rw [HBv.out]; rfl, by rw [HX.out]; exact Is.zero, hxx⟩
      · have hX : meanX bs n = fop .quo (sumH bs n) (floatOfInt .f32 (q : Int)) := by unfold meanX; rw [hq, if_neg h0]
        have hBv : meanB bs n = true := by unfold meanB; rw [hq]; simp [h0]
        have HX := Lib.hid hX
        have HBv := Lib.hid hBv
        have hb0 : ((q : Int) == 0) = false := by simp; exact h0
        clear hq hX hBv
        go_wp2
        go_ret2
        exact ⟨_, by rw [HBv.out]; rfl, by rw [HX.out]; exact is_r hr0 (ofInt_lt _) (flR_is _ _ _ _), hxx.drewN _⟩
theorem implMeanOfMap_yes (w h : Int) (gb off n c : Nat) (bs : List Nat) (U : World) (hnm : n ≤ maxLen) (hl : Lies U gb off bs) (hlen : bs.length = n) (hwd : Words bs) (hv : VMap w h n) :
    Calls Try.prog 35 #[.agg #[.int .i64 w, .int .i64 h, .slice (some ⟨gb, off, none⟩) n c]] U fun e U' => ∃ r, e = .returned (.tuple #[.float .f32 r, .bool (meanB bs n)]) ∧ Is r (meanX bs n) ∧ Ext U U' := by
  have hn : n ≤ 256 := by have := hv.2; have := hv.1.2.2.2.2; omega
  have HV := Lib.hid hv
  have HK := Lib.hid (fun (W : World) (hx : Ext U W) => mean_any gb off n c bs W hn (hl.ext hx) hlen hwd)
  clear hv hlen hwd hl hn
  go_enter Try.func35, Try.ntmps35
  go_wp2_with fail
  refine calls_at (X := fun w' => Ext U w' ∧ Box3 w' U.heap.size (.int .i64 w) (.int .i64 h) (.slice (some ⟨gb, off, none⟩) n c)) ⟨(Ext.refl _).alloc _, by simp [go_sem], by simp [go_sem], by simp [go_sem]⟩ ?_
  rintro w0 ⟨hx0, hb0⟩
  refine (ValidMap_yes w h _ n c _ hnm HV.out).mono ?_
  rintro e w1 ⟨rfl, hx⟩
  have hE := hx0.trans hx
  have ⟨c0, c1, c2⟩ := hb0.ext hx
  clear hx hx0 hb0
  go_wp2_with fail
  refine (HK.out _ hE).mono ?_
  rintro e w2 ⟨r, rfl, hr, hx⟩
  go_wp2
  go_ret2
  exact ⟨_, rfl, hr, hE.trans hx⟩
theorem implMeanOfMap_no (w h : Int) (A : Option Addr) (n c : Nat) (U : World) (hnm : n ≤ maxLen) (hv : ¬ VMap w h n) :
    Calls Try.prog 35 #[.agg #[.int .i64 w, .int .i64 h, .slice A n c]] U fun e U' => ∃ r, e = .returned (.tuple #[.float .f32 r, .bool false]) ∧ Is r 0 ∧ Ext U U' := by
  have HV := Lib.hid hv
  clear hv
  go_enter Try.func35, Try.ntmps35
  go_wp2_with fail
  refine calls_at (X := fun w' => Ext U w') ((Ext.refl _).alloc _) ?_
  rintro w0 hx0
  refine (ValidMap_not w h A n c _ hnm HV.out).mono ?_
  rintro e w1 ⟨rfl, hx⟩
  have hE := hx0.trans hx
  clear hx hx0
  go_wp2
  go_ret2
  exact ⟨_, rfl, Is.zero, hE⟩
theorem lawMeanOfMap_any (W : World) (w h : Int) (_ : -9223372036854775808 ≤ w ∧ w ≤ 9223372036854775807) (_ : -9223372036854775808 ≤ h ∧ h ≤ 9223372036854775807) (A : Option Addr) (n c : Nat) (bs : List Nat) (hc : n ≤ c) (hm : c ≤ maxLen) (hr : Reads W A n bs) (hw : Words bs) :
    Calls Try.prog 8 #[.agg #[.int .i64 w, .int .i64 h, .slice A n c]] W fun e W' => e = .returned (.bool true) ∧ Ext W W' := by
  have hn : n ≤ maxLen := Nat.le_trans hc hm
  by_cases hv : VMap w h n
  · have hp : 0 < n := by have h1 := hv.2; have h2 := mul_bounds hv.1.1 hv.1.2.1 hv.1.2.2.1 hv.1.2.2.2.1; omega
    refine lawMeanOfMap_core W w h A n c bs hn hr (meanX bs n) (meanB bs n) ?_ ?_
    · intro W' D hd
      obtain ⟨gb, off, rfl, hl⟩ := hd.2 hp
      exact specMeanOfMap_yes w h gb off n n bs W' hn hl hd.1 hw hv
    · intro W' D hd
      obtain ⟨gb, off, rfl, hl⟩ := hd.2 hp
      exact implMeanOfMap_yes w h gb off n n bs W' hn hl hd.1 hw hv
  · exact lawMeanOfMap_core W w h A n c bs hn hr 0 false (fun W' D _ => specMeanOfMap_no w h D n n W' hn hv) (fun W' D _ => implMeanOfMap_no w h D n n W' hn hv)
end Go.Proofs.Ytcekofioiofjbaa
