/- The law on WrongShare holds. -/
import Derived.Test.YtcekofioiofjbaaTwo
import Derived.Test.YtcekofioiofjbaaAbs
import Derived.Test.YtcekofioiofjbaaCell
import Derived.Test.YtcekofioiofjbaaCWrongShare
namespace Go.Proofs.Ytcekofioiofjbaa
open Go.RowKit
set_option linter.unusedVariables false

def farB (nr a b : Nat) : Bool := !(leF (absN (fop .sub a b)) (nrm nr))
def farTo (nr : Nat) (bs bt : List Nat) : Nat → Nat
  | 0 => 0
  | k + 1 => farTo nr bs bt k + (if farB nr (bs.getD k 0) (bt.getD k 0) = true then 1 else 0)
theorem farTo_le (nr : Nat) (bs bt : List Nat) (k : Nat) : farTo nr bs bt k ≤ k := by
  induction k with
  | zero => exact Nat.le_refl _
  | succ k ih => unfold farTo; split <;> omega
theorem nearTo_of (a b c : Nat) (v : Bool) (h : farB c a b = v) (ha : a < 4294967296) (hb : b < 4294967296) (hc : c < 4294967296) (U : World) :
    Calls Try.prog 110 #[.float .f32 a, .float .f32 b, .float .f32 c] U fun e U' => e = .returned (.bool (!v)) ∧ Ext U U' := by
  rw [← h]; unfold farB; rw [Bool.not_not]; exact nearTo_any a b c ha hb hc U
set_option maxHeartbeats 1000000 in
theorem unlike_any (ga oa ca gb ob cb n nr : Nat) (bs bt : List Nat) (U : World) (hla : Lies U ga oa bs) (hlb : Lies U gb ob bt) (hna : bs.length = n) (hnb : bt.length = n) (hwa : Words bs) (hwb : Words bt) (hnr : nr < 4294967296) (hn : n ≤ 256) :
    Calls Try.prog 83 #[.slice (some ⟨ga, oa, none⟩) n ca, .slice (some ⟨gb, ob, none⟩) n cb, .float .f32 nr] U fun e U' => e = .returned (.int .i64 ((farTo nr bs bt n : Nat) : Int)) ∧ Ext U U' := by
  have HC := Lib.hid (fun (W : World) (hx : Ext U W) (k : Nat) (hk : k < n) => (⟨(hla.ext hx) k (by omega), (hlb.ext hx) k (by omega), wd_at hwa k, wd_at hwb k⟩ : W.cell? ⟨ga, oa + k, none⟩ = some (fl (bs.getD k 0)) ∧ W.cell? ⟨gb, ob + k, none⟩ = some (fl (bt.getD k 0)) ∧ bs.getD k 0 < 4294967296 ∧ bt.getD k 0 < 4294967296))
  clear hla hlb hna hnb hwa hwb
  have HN := Lib.hid hnr
  clear hnr
  go_enter Try.func83, Try.ntmps83
  go_wp2_with fail
  go_loopw [7, 12] (fun cnt i wr => ∃ k : Nat, k ≤ n ∧ i = .int .i64 k ∧ cnt = .int .i64 ((farTo nr bs bt k : Nat) : Int) ∧ Ext U wr) (fun _ i _ => n - (intOf i).toNat)
  case atStart => exact ⟨0, Nat.zero_le _, rfl, rfl, Ext.refl _⟩
  case round =>
    obtain ⟨k, hk, rfl, rfl, hx⟩ := hrel
    have hq256 := farTo_le nr bs bt k
    by_cases hlt : k < n
    · obtain ⟨ca', cb', wa, wb⟩ := HC.out _ hx k hlt
      have hstep : farTo nr bs bt (k + 1) = farTo nr bs bt k + (if farB nr (bs.getD k 0) (bt.getD k 0) = true then 1 else 0) := rfl
      generalize bs.getD k 0 = a at ca' wa hstep
      generalize bt.getD k 0 = b at cb' wb hstep
      obtain ⟨q, hq⟩ : ∃ q, farTo nr bs bt k = q := ⟨_, rfl⟩
      rw [hq] at hstep hq256 ⊢
      clear hq
      cases hh : farB nr a b with
      | true =>
        rw [hh] at hstep
        have HST := Lib.hid hstep
        have HH := Lib.hid (fun W => nearTo_of a b nr true hh wa wb HN.out W)
        clear hstep hh wa wb
        go_wp2_with fail
        refine (HH.out _).mono ?_
        rintro e w2 ⟨rfl, hx2⟩
        go_wp2_with fail
        go_roundw
        case rel => exact ⟨k + 1, by omega, by go_num, by rw [HST.out]; simp; try go_num, hx.trans hx2⟩
        case measure => simp [intOf]; omega
      | false =>
        rw [hh] at hstep
        have HST := Lib.hid hstep
        have HH := Lib.hid (fun W => nearTo_of a b nr false hh wa wb HN.out W)
        clear hstep hh wa wb
        go_wp2_with fail
        refine (HH.out _).mono ?_
        rintro e w2 ⟨rfl, hx2⟩
        go_wp2_with fail
        go_roundw
        case rel => exact ⟨k + 1, by omega, by go_num, by rw [HST.out]; simp, hx.trans hx2⟩
        case measure => simp [intOf]; omega
    · have e1 : k = n := by omega
      subst e1
      go_wp2
      go_ret
      exact ⟨rfl, hx⟩
set_option maxHeartbeats 1000000 in
set_option maxRecDepth 8000 in
theorem implWrongShare_yes (w h : Int) (ga oa gb ob n m m' nr : Nat) (bs bt : List Nat) (U : World) (hn : n ≤ maxLen) (hla : Lies U ga oa bs) (hlb : Lies U gb ob bt) (hna : bs.length = n) (hnb : bt.length = n) (hwa : Words bs) (hwb : Words bt) (hnr : nr < 4294967296) (hv : VMap w h n) :
    Calls Try.prog 37 #[.agg #[.int .i64 w, .int .i64 h, .slice (some ⟨ga, oa, none⟩) n m], .agg #[.int .i64 w, .int .i64 h, .slice (some ⟨gb, ob, none⟩) n m'], .float .f32 nr] U fun e U' => ∃ r, e = .returned (.tuple #[.float .f32 r, .bool true]) ∧ Is r (fop .quo (floatOfInt .f32 ((farTo nr bs bt n : Nat) : Int)) (floatOfInt .f32 (n : Int))) ∧ Ext U U' := by
  have hn2 : n ≤ 256 := by have := hv.2; have := hv.1.2.2.2.2; omega
  have HV := Lib.hid hv
  have HU := Lib.hid (fun (W : World) (hx : Ext U W) => unlike_any ga oa m gb ob m' n nr bs bt W (hla.ext hx) (hlb.ext hx) hna hnb hwa hwb hnr hn2)
  generalize farTo nr bs bt n = q at HU ⊢
  clear hv hla hlb hna hnb hwa hwb hnr
  go_enter Try.func37, Try.ntmps37
  go_wp2_with fail
  refine calls_at (X := fun w' => Ext U w' ∧ Box3 w' U.heap.size (.int .i64 w) (.int .i64 h) (.slice (some ⟨ga, oa, none⟩) n m) ∧ Box3 w' (U.heap.size + 1) (.int .i64 w) (.int .i64 h) (.slice (some ⟨gb, ob, none⟩) n m')) ⟨((Ext.refl _).alloc _).alloc _, ⟨by simp [go_sem], by simp [go_sem], by simp [go_sem]⟩, ⟨by simp [go_sem], by simp [go_sem], by simp [go_sem]⟩⟩ ?_
  rintro w0 ⟨hx0, hb0, hd0⟩
  refine (mapsOk_yes w h _ _ n n m m' _ hn hn HV.out HV.out).mono ?_
  rintro e w1 ⟨rfl, hx⟩
  have ⟨p0, p1, p2⟩ := hb0.ext hx
  have ⟨q0, q1, q2⟩ := hd0.ext hx
  have hE := hx0.trans hx
  clear hx hx0 hb0 hd0 hn
  go_wp2_with fail
  refine region_wx0 [] (by kernel_rfl) (by kernel_rfl) ?_
  repeat ((first | refine wx_skip rfl ?_ | refine wx_nilCheck rfl rfl _ rfl _ rfl ?_ | (refine wx_float rfl rfl _ _ _ _ _ _ _ rfl rfl rfl rfl ?_; intro r hr) | (refine wx_k rfl rfl rfl (fun K hK => ?_); go_big_quiet_op; refine hK _ ?_; clear hK K) | (refine wx_call rfl rfl 83 _ _ rfl (by kernel_rfl) (by kernel_rfl) (.int .i64 ((q : Nat) : Int)) (fun W hW hF => ?_) ?_; go_simp; (with_reducible refine (HU.out W (hE.trans hW)).mono ?_); rintro e w' h; exact h)); (try simp only [Act.put, List.setIfInBounds_toArray, List.set_cons_zero, List.set_cons_succ]); (try simp only [List.tail_nil]))
  refine wx_nil (fun W hW hF => ?_)
  clear hF
  go_wp2
  go_ret2
  exact ⟨_, rfl, hr, hE.trans hW⟩
theorem implWrongShare_no (z0 z1 : Int) (A : Option Addr) (n m : Nat) (y0 y1 : Int) (A' : Option Addr) (n' m' : Nat) (nr : Nat) (U : World) (hn : n ≤ maxLen) (hn' : n' ≤ maxLen) (hno : ¬ (VMap z0 z1 n ∧ VMap y0 y1 n' ∧ z0 = y0 ∧ z1 = y1)) :
    Calls Try.prog 37 #[.agg #[.int .i64 z0, .int .i64 z1, .slice A n m], .agg #[.int .i64 y0, .int .i64 y1, .slice A' n' m'], .float .f32 nr] U fun e U' => ∃ r, e = .returned (.tuple #[.float .f32 r, .bool false]) ∧ Is r 0 ∧ Ext U U' := by
  have HV := Lib.hid hno
  clear hno
  go_enter Try.func37, Try.ntmps37
  go_wp2_with fail
  refine calls_at (X := fun w' => Ext U w') (((Ext.refl _).alloc _).alloc _) ?_
  rintro w0 hx0
  refine (mapsOk_no z0 z1 y0 y1 A A' n n' m m' _ hn hn' HV.out).mono ?_
  rintro e w1 ⟨rfl, hx⟩
  have hE := hx0.trans hx
  clear hx hx0
  go_wp2
  go_ret2
  exact ⟨_, rfl, ⟨by omega, by decide +kernel⟩, hE⟩
theorem specWrongShare_no1 (z0 z1 : Int) (A : Option Addr) (n m : Nat) (y0 y1 : Int) (A' : Option Addr) (n' m' : Nat) (nr : Nat) (U : World) (hn : n ≤ maxLen) (hv : ¬ VMap z0 z1 n) :
    Calls Try.prog 36 #[.agg #[.int .i64 z0, .int .i64 z1, .slice A n m], .agg #[.int .i64 y0, .int .i64 y1, .slice A' n' m'], .float .f32 nr] U fun e U' => ∃ r, e = .returned (.tuple #[.float .f32 r, .bool false]) ∧ Is r 0 ∧ Ext U U' := by
  have HV := Lib.hid hv
  clear hv
  go_enter Try.func36, Try.ntmps36
  go_wp2_with fail
  refine calls_at (X := fun w' => Ext U w' ∧ Box3 w' U.heap.size (.int .i64 z0) (.int .i64 z1) (.slice A n m) ∧ Box3 w' (U.heap.size + 1) (.int .i64 y0) (.int .i64 y1) (.slice A' n' m')) ⟨((Ext.refl _).alloc _).alloc _, ⟨by simp [go_sem], by simp [go_sem], by simp [go_sem]⟩, ⟨by simp [go_sem], by simp [go_sem], by simp [go_sem]⟩⟩ ?_
  rintro w0 ⟨hx0, hb0, hd0⟩
  refine (l03IsMap_not U.heap.size z0 z1 A n _ _ hn hb0.1 hb0.2.1 hb0.2.2 HV.out).mono ?_
  rintro e w1 ⟨rfl, hx⟩
  have hE := hx0.trans hx
  clear hx hx0 hb0 hd0
  go_wp2
  go_ret2
  exact ⟨_, rfl, ⟨by omega, by decide +kernel⟩, hE⟩
theorem specWrongShare_no2 (z0 z1 : Int) (A : Option Addr) (n m : Nat) (y0 y1 : Int) (A' : Option Addr) (n' m' : Nat) (nr : Nat) (U : World) (hn : n ≤ maxLen) (hn' : n' ≤ maxLen) (hv : VMap z0 z1 n) (hv' : ¬ VMap y0 y1 n') :
    Calls Try.prog 36 #[.agg #[.int .i64 z0, .int .i64 z1, .slice A n m], .agg #[.int .i64 y0, .int .i64 y1, .slice A' n' m'], .float .f32 nr] U fun e U' => ∃ r, e = .returned (.tuple #[.float .f32 r, .bool false]) ∧ Is r 0 ∧ Ext U U' := by
  have HV := Lib.hid hv
  have HV' := Lib.hid hv'
  clear hv hv'
  go_enter Try.func36, Try.ntmps36
  go_wp2_with fail
  refine calls_at (X := fun w' => Ext U w' ∧ Box3 w' U.heap.size (.int .i64 z0) (.int .i64 z1) (.slice A n m) ∧ Box3 w' (U.heap.size + 1) (.int .i64 y0) (.int .i64 y1) (.slice A' n' m')) ⟨((Ext.refl _).alloc _).alloc _, ⟨by simp [go_sem], by simp [go_sem], by simp [go_sem]⟩, ⟨by simp [go_sem], by simp [go_sem], by simp [go_sem]⟩⟩ ?_
  rintro w0 ⟨hx0, hb0, hd0⟩
  refine (l03IsMap_yes U.heap.size z0 z1 A n _ _ hn hb0.1 hb0.2.1 hb0.2.2 HV.out).mono ?_
  rintro e w1 ⟨rfl, hx⟩
  replace hd0 := hd0.ext hx
  have hE := hx0.trans hx
  clear hx hx0 hb0
  go_wp2_with fail
  refine (l03IsMap_not (U.heap.size + 1) y0 y1 A' n' _ _ hn' hd0.1 hd0.2.1 hd0.2.2 HV'.out).mono ?_
  rintro e w2 ⟨rfl, hx⟩
  replace hE := hE.trans hx
  clear hx hd0
  go_wp2
  go_ret2
  exact ⟨_, rfl, ⟨by omega, by decide +kernel⟩, hE⟩
theorem specWrongShare_no3 (z0 z1 : Int) (A : Option Addr) (n m : Nat) (y0 y1 : Int) (A' : Option Addr) (n' m' : Nat) (nr : Nat) (U : World) (hn : n ≤ maxLen) (hn' : n' ≤ maxLen) (hv : VMap z0 z1 n) (hv' : VMap y0 y1 n') (hne : ¬ (z0 = y0 ∧ z1 = y1)) :
    Calls Try.prog 36 #[.agg #[.int .i64 z0, .int .i64 z1, .slice A n m], .agg #[.int .i64 y0, .int .i64 y1, .slice A' n' m'], .float .f32 nr] U fun e U' => ∃ r, e = .returned (.tuple #[.float .f32 r, .bool false]) ∧ Is r 0 ∧ Ext U U' := by
  have HV := Lib.hid hv
  have HV' := Lib.hid hv'
  clear hv hv'
  have h3 := two_ne hne
  clear hne
  rcases h3 with e0 | ⟨rfl, e1⟩
  all_goals
    go_enter Try.func36, Try.ntmps36
    go_wp2_with fail
    refine calls_at (X := fun w' => Ext U w' ∧ Box3 w' U.heap.size (.int .i64 _) (.int .i64 _) (.slice A n m) ∧ Box3 w' (U.heap.size + 1) (.int .i64 _) (.int .i64 _) (.slice A' n' m')) ⟨((Ext.refl _).alloc _).alloc _, ⟨by simp [go_sem]; rfl, by simp [go_sem]; rfl, by simp [go_sem]⟩, ⟨by simp [go_sem]; rfl, by simp [go_sem]; rfl, by simp [go_sem]⟩⟩ ?_
    rintro w0 ⟨hx0, hb0, hd0⟩
    refine (l03IsMap_yes U.heap.size _ _ A n _ _ hn hb0.1 hb0.2.1 hb0.2.2 HV.out).mono ?_
    rintro e w1 ⟨rfl, hx⟩
    replace hd0 := hd0.ext hx
    replace hb0 := hb0.ext hx
    have hE := hx0.trans hx
    clear hx hx0
    go_wp2_with fail
    refine (l03IsMap_yes (U.heap.size + 1) _ _ A' n' _ _ hn' hd0.1 hd0.2.1 hd0.2.2 HV'.out).mono ?_
    rintro e w2 ⟨rfl, hx⟩
    have ⟨p0, p1, p2⟩ := hb0.ext hx
    have ⟨q0, q1, q2⟩ := hd0.ext hx
    replace hE := hE.trans hx
    clear hx hd0 hb0
    go_wp2
    go_ret2
    exact ⟨_, rfl, ⟨by omega, by decide +kernel⟩, hE⟩
theorem specWrongShare_no (z0 z1 : Int) (A : Option Addr) (n m : Nat) (y0 y1 : Int) (A' : Option Addr) (n' m' : Nat) (nr : Nat) (U : World) (hn : n ≤ maxLen) (hn' : n' ≤ maxLen) (hno : ¬ (VMap z0 z1 n ∧ VMap y0 y1 n' ∧ z0 = y0 ∧ z1 = y1)) :
    Calls Try.prog 36 #[.agg #[.int .i64 z0, .int .i64 z1, .slice A n m], .agg #[.int .i64 y0, .int .i64 y1, .slice A' n' m'], .float .f32 nr] U fun e U' => ∃ r, e = .returned (.tuple #[.float .f32 r, .bool false]) ∧ Is r 0 ∧ Ext U U' := by
  by_cases h1 : VMap z0 z1 n
  · by_cases h2 : VMap y0 y1 n'
    · exact specWrongShare_no3 z0 z1 A n m y0 y1 A' n' m' nr U hn hn' h1 h2 (fun h3 => hno ⟨h1, h2, h3⟩)
    · exact specWrongShare_no2 z0 z1 A n m y0 y1 A' n' m' nr U hn hn' h1 h2
  · exact specWrongShare_no1 z0 z1 A n m y0 y1 A' n' m' nr U hn h1
set_option maxHeartbeats 2000000 in
set_option maxRecDepth 8000 in
theorem specWrongShare_yes (w h : Int) (ga oa gb ob n m m' nr : Nat) (bs bt : List Nat) (U : World) (hn : n ≤ maxLen) (hla : Lies U ga oa bs) (hlb : Lies U gb ob bt) (hna : bs.length = n) (hnb : bt.length = n) (hwa : Words bs) (hwb : Words bt) (hnr : nr < 4294967296) (hv : VMap w h n) :
    Calls Try.prog 36 #[.agg #[.int .i64 w, .int .i64 h, .slice (some ⟨ga, oa, none⟩) n m], .agg #[.int .i64 w, .int .i64 h, .slice (some ⟨gb, ob, none⟩) n m'], .float .f32 nr] U fun e U' => ∃ r, e = .returned (.tuple #[.float .f32 r, .bool true]) ∧ Is r (fop .quo (floatOfInt .f32 ((farTo nr bs bt n : Nat) : Int)) (floatOfInt .f32 (n : Int))) ∧ Ext U U' := by
  have hn2 : n ≤ 256 := by have := hv.2; have := hv.1.2.2.2.2; omega
  have HV := Lib.hid hv
  have HC := Lib.hid (fun (W : World) (hx : Ext U W) (k : Nat) (hk : k < n) => (⟨(hla.ext hx) k (by omega), (hlb.ext hx) k (by omega), wd_at hwa k, wd_at hwb k⟩ : W.cell? ⟨ga, oa + k, none⟩ = some (fl (bs.getD k 0)) ∧ W.cell? ⟨gb, ob + k, none⟩ = some (fl (bt.getD k 0)) ∧ bs.getD k 0 < 4294967296 ∧ bt.getD k 0 < 4294967296))
  have HN := Lib.hid hnr
  clear hv hla hlb hna hnb hwa hwb hnr
  go_enter Try.func36, Try.ntmps36
  go_wp2_with fail
  refine calls_at (X := fun w' => Ext U w' ∧ Box3 w' U.heap.size (.int .i64 w) (.int .i64 h) (.slice (some ⟨ga, oa, none⟩) n m) ∧ Box3 w' (U.heap.size + 1) (.int .i64 w) (.int .i64 h) (.slice (some ⟨gb, ob, none⟩) n m')) ⟨((Ext.refl _).alloc _).alloc _, ⟨by simp [go_sem], by simp [go_sem], by simp [go_sem]⟩, ⟨by simp [go_sem], by simp [go_sem], by simp [go_sem]⟩⟩ ?_
  rintro w0 ⟨hx0, hb0, hd0⟩
  refine (l03IsMap_yes U.heap.size w h _ n _ _ hn hb0.1 hb0.2.1 hb0.2.2 HV.out).mono ?_
  rintro e w1 ⟨rfl, hx⟩
  replace hd0 := hd0.ext hx
  replace hb0 := hb0.ext hx
  have hE := hx0.trans hx
  clear hx hx0
  go_wp2_with fail
  refine (l03IsMap_yes (U.heap.size + 1) w h _ n _ _ hn hd0.1 hd0.2.1 hd0.2.2 HV.out).mono ?_
  rintro e w2 ⟨rfl, hx⟩
  replace hb0 := hb0.ext hx
  replace hd0 := hd0.ext hx
  replace hE := hE.trans hx
  clear hx
  have ⟨p0, p1, p2⟩ := hb0
  have ⟨q0, q1, q2⟩ := hd0
  clear hn
  go_wp2_with fail
  clear p0 p1 p2 q0 q1 q2
  go_loopw [8, 33] (fun cnt i wr => ∃ k : Nat, k ≤ n ∧ i = .int .i64 k ∧ cnt = .int .i64 ((farTo nr bs bt k : Nat) : Int) ∧ Ext w2 wr) (fun _ i _ => n - (intOf i).toNat)
  case atStart => exact ⟨0, Nat.zero_le _, rfl, rfl, Ext.refl _⟩
  case round =>
    obtain ⟨k, hk, rfl, rfl, hx⟩ := hrel
    have hq256 := farTo_le nr bs bt k
    have ⟨p0, p1, p2⟩ := hb0.ext hx
    have ⟨q0, q1, q2⟩ := hd0.ext hx
    by_cases hlt : k < n
    · obtain ⟨ca', cb', wa, wb⟩ := HC.out _ (hE.trans hx) k hlt
      have hstep : farTo nr bs bt (k + 1) = farTo nr bs bt k + (if farB nr (bs.getD k 0) (bt.getD k 0) = true then 1 else 0) := rfl
      generalize bs.getD k 0 = a at ca' wa hstep
      generalize bt.getD k 0 = b at cb' wb hstep
      obtain ⟨q, hq⟩ : ∃ q, farTo nr bs bt k = q := ⟨_, rfl⟩
      rw [hq] at hstep hq256 ⊢
      clear hq
      have k0 : (0 : Int) ≤ (k : Int) := by omega
      go_wp2_with fail
      refine region_wx0 [none, none, none, none, none, none, none, none, none, none, none, some (fun u W => ∃ s, u = .float .f32 s ∧ Is s (absN (fop .sub a b)))] (by kernel_rfl) (by kernel_rfl) ?_
      repeat ((first | refine wx_skip rfl ?_ | refine wx_nilCheck rfl rfl _ rfl _ rfl ?_ | (refine wx_float rfl rfl _ _ _ _ _ _ _ rfl rfl rfl rfl ?_; intro r hr) | (refine wx_k rfl rfl rfl (fun K hK => ?_); go_big_quiet_op; refine hK _ ?_; clear hK K) | (refine wx_callR _ rfl rfl 81 _ _ rfl (by kernel_rfl) (fun Wc hWc hFc => ?_) ?_; (· go_simp; refine (l03Size_any r _ hr Wc).mono ?_; rintro e w' ⟨s, rfl, hs, hx⟩; exact ⟨_, rfl, ⟨s, rfl, hs⟩, hx⟩); rintro u V hV ⟨s, rfl, hs⟩)); (try simp only [Act.put, List.setIfInBounds_toArray, List.set_cons_zero, List.set_cons_succ]); (try simp only [List.tail_cons]))
      refine wx_nil (fun W hW hF => ?_)
      clear hF
      have hcmp : (FloatKind.f32.format.order s nr == some .lt || FloatKind.f32.format.order s nr == some .eq) = !farB nr a b := by
        unfold farB; rw [Bool.not_not, Is.cmp hs (Is.self HN.out)]; rfl
      clear hs hr
      cases hh : farB nr a b with
      | true =>
        rw [hh] at hstep hcmp
        have HST := Lib.hid hstep
        obtain ⟨o1, o2⟩ : (FloatKind.f32.format.order s nr == some .lt) = false ∧ (FloatKind.f32.format.order s nr == some .eq) = false := Bool.or_eq_false_iff.1 hcmp
        clear hstep hh wa wb hcmp
        go_wp2_with fail
        all_goals first
          | (exfalso; rename_i hq; simp [o1, o2] at hq; done)
          | (go_roundw
             case rel => exact ⟨k + 1, by omega, by go_num, by rw [HST.out]; simp; try go_num, hx.trans hW⟩
             case measure => simp [intOf]; omega)
      | false =>
        rw [hh] at hstep hcmp
        have HST := Lib.hid hstep
        have hor : (FloatKind.f32.format.order s nr == some .lt) = true ∨ (FloatKind.f32.format.order s nr == some .eq) = true := by
          rw [← Bool.or_eq_true]; exact hcmp
        clear hstep hh wa wb hcmp
        rcases hor with o1 | o1
        all_goals
          go_wp2_with fail
          all_goals first
            | (exfalso; rename_i hq; simp [o1] at hq; done)
            | (go_roundw
               case rel => exact ⟨k + 1, by omega, by go_num, by rw [HST.out]; simp, hx.trans hW⟩
               case measure => simp [intOf]; omega)
    · have e1 : k = n := by omega
      subst e1
      go_wp2
      go_ret2
      refine ⟨_, rfl, flR_is _ _ _ _, ?_⟩
      repeat (first | with_reducible exact hE.trans hx | (with_reducible refine Ext.drewN ?_ _))
theorem lawWrongShare_any (W : World) (z0 z1 : Int) (_ : -9223372036854775808 ≤ z0 ∧ z0 ≤ 9223372036854775807) (_ : -9223372036854775808 ≤ z1 ∧ z1 ≤ 9223372036854775807) (A : Option Addr) (n m : Nat) (bs : List Nat) (hc : n ≤ m) (hm : m ≤ maxLen) (hr : Reads W A n bs) (hw : Words bs) (y0 y1 : Int) (_ : -9223372036854775808 ≤ y0 ∧ y0 ≤ 9223372036854775807) (_ : -9223372036854775808 ≤ y1 ∧ y1 ≤ 9223372036854775807) (A' : Option Addr) (n' m' : Nat) (bt : List Nat) (hc' : n' ≤ m') (hm' : m' ≤ maxLen) (hr' : Reads W A' n' bt) (hw' : Words bt) (nr : Nat) (hnr : nr < 4294967296) :
    Calls Try.prog 9 #[.agg #[.int .i64 z0, .int .i64 z1, .slice A n m], .agg #[.int .i64 y0, .int .i64 y1, .slice A' n' m'], .float .f32 nr] W fun e W' => e = .returned (.bool true) ∧ Ext W W' := by
  have hn : n ≤ maxLen := Nat.le_trans hc hm
  have hn' : n' ≤ maxLen := Nat.le_trans hc' hm'
  by_cases hv : VMap z0 z1 n ∧ VMap y0 y1 n' ∧ z0 = y0 ∧ z1 = y1
  · obtain ⟨h1, h2, rfl, rfl⟩ := hv
    obtain rfl : n = n' := by have := h1.2; have := h2.2; omega
    have hpos : 0 < n := by
      have hp : 0 < z0 * z1 := Int.mul_pos (by have := h1.1.1; omega) (by have := h1.1.2.2.1; omega)
      have := h1.2; omega
    refine lawWrongShare_core W z0 z1 A n m bs hn hr z0 z1 A' n m' bt hn' hr' nr (fop .quo (floatOfInt .f32 ((farTo nr bs bt n : Nat) : Int)) (floatOfInt .f32 (n : Int))) true (fun w D D' hd hd' => ?_) (fun w D D' hd hd' => ?_)
    · obtain ⟨ga, oa, rfl, hl⟩ := hd.2 hpos
      obtain ⟨gb, ob, rfl, hl'⟩ := hd'.2 hpos
      exact specWrongShare_yes z0 z1 ga oa gb ob n n n nr bs bt w hn hl hl' hd.1 hd'.1 hw hw' hnr h1
    · obtain ⟨ga, oa, rfl, hl⟩ := hd.2 hpos
      obtain ⟨gb, ob, rfl, hl'⟩ := hd'.2 hpos
      exact implWrongShare_yes z0 z1 ga oa gb ob n n n nr bs bt w hn hl hl' hd.1 hd'.1 hw hw' hnr h1
  · exact lawWrongShare_core W z0 z1 A n m bs hn hr y0 y1 A' n' m' bt hn' hr' nr 0 false (fun w D D' hd hd' => specWrongShare_no z0 z1 D n n y0 y1 D' n' n' nr w hn hn' hv) (fun w D D' hd hd' => implWrongShare_no z0 z1 D n n y0 y1 D' n' n' nr w hn hn' hv)
end Go.Proofs.Ytcekofioiofjbaa
