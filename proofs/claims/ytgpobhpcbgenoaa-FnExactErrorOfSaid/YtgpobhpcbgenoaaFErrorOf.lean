/- The law on ErrorOf holds. -/
import Derived.Test.YtgpobhpcbgenoaaWarp
import Derived.Test.YtgpobhpcbgenoaaTwo
import Derived.Test.YtgpobhpcbgenoaaAbs
import Derived.Test.YtgpobhpcbgenoaaCErrorOf
namespace Go.Proofs.Ytgpobhpcbgenoaa
open Go.RowKit
set_option linter.unusedVariables false
set_option maxHeartbeats 1000000

/-- The sum of the differences, and how many there are. -/
noncomputable def errS (wn hn : Nat) (ls rs ms : List Nat) : Nat → Nat
  | 0 => 0
  | i + 1 => if inP (ms.getD i 0) then fop .add (errS wn hn ls rs ms i) (absN (fop .sub (nrm (ls.getD i 0)) (warpF wn hn rs ms i))) else errS wn hn ls rs ms i
noncomputable def errN (ms : List Nat) : Nat → Nat
  | 0 => 0
  | i + 1 => if inP (ms.getD i 0) then errN ms i + 1 else errN ms i
/-- What is handed back. -/
def ErrC (wn hn : Nat) (ls rs ms : List Nat) (ok : Bool) (X : Nat) : Prop := (errN ms (wn * hn) = 0 ∧ ok = false ∧ X = 0) ∨ (errN ms (wn * hn) ≠ 0 ∧ ok = true ∧ X = fop .quo (errS wn hn ls rs ms (wn * hn)) (floatOfInt .f32 (errN ms (wn * hn) : Int)))
theorem errN_le (ms : List Nat) : ∀ i, errN ms i ≤ i
  | 0 => Nat.le_refl _
  | i + 1 => by have := errN_le ms i; rw [errN]; split <;> omega
theorem cell_lin3 (wn j k : Nat) : cellN (wn : Int) (j : Int) (k : Int) = k * wn + j := by rw [cellN_nat, Nat.mul_comm, Nat.add_comm]
theorem implErrorOf_no1 (z0 z1 : Int) (A : Option Addr) (n c : Nat) (y0 y1 : Int) (A' : Option Addr) (n' c' : Nat) (m0 m1 : Int) (A2 : Option Addr) (n2 c2 : Nat) (U : World) (hn : n ≤ maxLen) (hn' : n' ≤ maxLen) (hn2 : n2 ≤ maxLen) (h1 : ¬ (VMap z0 z1 n ∧ VMap y0 y1 n' ∧ z0 = y0 ∧ z1 = y1)) :
    Calls Try.prog 35 #[.agg #[.int .i64 z0, .int .i64 z1, .slice A n c], .agg #[.int .i64 y0, .int .i64 y1, .slice A' n' c'], .agg #[.int .i64 m0, .int .i64 m1, .slice A2 n2 c2]] U fun e U' => ∃ r, e = .returned (.tuple #[.float .f32 r, .bool false]) ∧ Is r 0 ∧ Ext U U' := by
  have H1 := Lib.hid h1
  clear h1
  go_enter Try.func35, Try.ntmps35
  go_wp2_with fail
  refine calls_at (X := fun w' => Ext U w' ∧ Box3 w' U.heap.size (.int .i64 z0) (.int .i64 z1) (.slice A n c) ∧ Box3 w' (U.heap.size + 1) (.int .i64 y0) (.int .i64 y1) (.slice A' n' c') ∧ Box3 w' (U.heap.size + 1 + 1) (.int .i64 m0) (.int .i64 m1) (.slice A2 n2 c2)) ⟨(((Ext.refl _).alloc _).alloc _).alloc _, ⟨by simp [go_sem], by simp [go_sem], by simp [go_sem]⟩, ⟨by simp [go_sem], by simp [go_sem], by simp [go_sem]⟩, ⟨by simp [go_sem], by simp [go_sem], by simp [go_sem]⟩⟩ ?_
  rintro w0 ⟨hE, hl, hr, hm⟩
  refine (pairOk_no z0 z1 y0 y1 A A' n n' c c' _ hn hn' H1.out).mono ?_
  rintro e w1 ⟨rfl, hx⟩
  replace hE := hE.trans hx
  replace hl := hl.ext hx
  replace hr := hr.ext hx
  replace hm := hm.ext hx
  clear hx
  have ⟨l0', l1', l2'⟩ := hl
  have ⟨r0', r1', r2'⟩ := hr
  have ⟨m0', m1', m2'⟩ := hm
  go_wp2
  go_ret2
  exact ⟨_, rfl, Is.zero, hE⟩
theorem implErrorOf_no2 (z0 z1 : Int) (A : Option Addr) (n c : Nat) (y0 y1 : Int) (A' : Option Addr) (n' c' : Nat) (m0 m1 : Int) (A2 : Option Addr) (n2 c2 : Nat) (U : World) (hn : n ≤ maxLen) (hn' : n' ≤ maxLen) (hn2 : n2 ≤ maxLen) (hv : VMap z0 z1 n) (hv' : VMap y0 y1 n') (e0 : z0 = y0) (e1 : z1 = y1) (h2 : ¬ VMap m0 m1 n2) :
    Calls Try.prog 35 #[.agg #[.int .i64 z0, .int .i64 z1, .slice A n c], .agg #[.int .i64 y0, .int .i64 y1, .slice A' n' c'], .agg #[.int .i64 m0, .int .i64 m1, .slice A2 n2 c2]] U fun e U' => ∃ r, e = .returned (.tuple #[.float .f32 r, .bool false]) ∧ Is r 0 ∧ Ext U U' := by
  subst e0 e1
  have HV := Lib.hid hv
  have HV2 := Lib.hid hv'
  clear hv hv'
  have H2 := Lib.hid h2
  clear h2
  go_enter Try.func35, Try.ntmps35
  go_wp2_with fail
  refine calls_at (X := fun w' => Ext U w' ∧ Box3 w' U.heap.size (.int .i64 z0) (.int .i64 z1) (.slice A n c) ∧ Box3 w' (U.heap.size + 1) (.int .i64 z0) (.int .i64 z1) (.slice A' n' c') ∧ Box3 w' (U.heap.size + 1 + 1) (.int .i64 m0) (.int .i64 m1) (.slice A2 n2 c2)) ⟨(((Ext.refl _).alloc _).alloc _).alloc _, ⟨by simp [go_sem], by simp [go_sem], by simp [go_sem]⟩, ⟨by simp [go_sem], by simp [go_sem], by simp [go_sem]⟩, ⟨by simp [go_sem], by simp [go_sem], by simp [go_sem]⟩⟩ ?_
  rintro w0 ⟨hE, hl, hr, hm⟩
  refine (pairOk_yes z0 z1 A A' n n' c c' _ hn hn' HV.out HV2.out).mono ?_
  rintro e w1 ⟨rfl, hx⟩
  replace hE := hE.trans hx
  replace hl := hl.ext hx
  replace hr := hr.ext hx
  replace hm := hm.ext hx
  clear hx
  have ⟨l0', l1', l2'⟩ := hl
  have ⟨r0', r1', r2'⟩ := hr
  have ⟨m0', m1', m2'⟩ := hm
  go_wp2_with fail
  clear l0' l1' l2' r0' r1' r2' m0' m1' m2'
  refine (ValidMap_not m0 m1 A2 n2 c2 _ hn2 H2.out).mono ?_
  rintro e w2 ⟨rfl, hx⟩
  replace hE := hE.trans hx
  replace hl := hl.ext hx
  replace hr := hr.ext hx
  replace hm := hm.ext hx
  clear hx
  have ⟨l0', l1', l2'⟩ := hl
  have ⟨r0', r1', r2'⟩ := hr
  have ⟨m0', m1', m2'⟩ := hm
  go_wp2
  go_ret2
  exact ⟨_, rfl, Is.zero, hE⟩
theorem implErrorOf_no3 (z0 z1 : Int) (A : Option Addr) (n c : Nat) (y0 y1 : Int) (A' : Option Addr) (n' c' : Nat) (m0 m1 : Int) (A2 : Option Addr) (n2 c2 : Nat) (U : World) (hn : n ≤ maxLen) (hn' : n' ≤ maxLen) (hn2 : n2 ≤ maxLen) (hv : VMap z0 z1 n) (hv' : VMap y0 y1 n') (e0 : z0 = y0) (e1 : z1 = y1) (hm2 : VMap m0 m1 n2) (h3 : ¬ z0 = m0) :
    Calls Try.prog 35 #[.agg #[.int .i64 z0, .int .i64 z1, .slice A n c], .agg #[.int .i64 y0, .int .i64 y1, .slice A' n' c'], .agg #[.int .i64 m0, .int .i64 m1, .slice A2 n2 c2]] U fun e U' => ∃ r, e = .returned (.tuple #[.float .f32 r, .bool false]) ∧ Is r 0 ∧ Ext U U' := by
  subst e0 e1
  have HV := Lib.hid hv
  have HV2 := Lib.hid hv'
  clear hv hv'
  have H2 := Lib.hid hm2
  clear hm2
  have hb3 : (z0 != m0) = true := by simp [h3]
  clear h3
  go_enter Try.func35, Try.ntmps35
  go_wp2_with fail
  refine calls_at (X := fun w' => Ext U w' ∧ Box3 w' U.heap.size (.int .i64 z0) (.int .i64 z1) (.slice A n c) ∧ Box3 w' (U.heap.size + 1) (.int .i64 z0) (.int .i64 z1) (.slice A' n' c') ∧ Box3 w' (U.heap.size + 1 + 1) (.int .i64 m0) (.int .i64 m1) (.slice A2 n2 c2)) ⟨(((Ext.refl _).alloc _).alloc _).alloc _, ⟨by simp [go_sem], by simp [go_sem], by simp [go_sem]⟩, ⟨by simp [go_sem], by simp [go_sem], by simp [go_sem]⟩, ⟨by simp [go_sem], by simp [go_sem], by simp [go_sem]⟩⟩ ?_
  rintro w0 ⟨hE, hl, hr, hm⟩
  refine (pairOk_yes z0 z1 A A' n n' c c' _ hn hn' HV.out HV2.out).mono ?_
  rintro e w1 ⟨rfl, hx⟩
  replace hE := hE.trans hx
  replace hl := hl.ext hx
  replace hr := hr.ext hx
  replace hm := hm.ext hx
  clear hx
  have ⟨l0', l1', l2'⟩ := hl
  have ⟨r0', r1', r2'⟩ := hr
  have ⟨m0', m1', m2'⟩ := hm
  go_wp2_with fail
  clear l0' l1' l2' r0' r1' r2' m0' m1' m2'
  refine (ValidMap_yes m0 m1 A2 n2 c2 _ hn2 H2.out).mono ?_
  rintro e w2 ⟨rfl, hx⟩
  replace hE := hE.trans hx
  replace hl := hl.ext hx
  replace hr := hr.ext hx
  replace hm := hm.ext hx
  clear hx
  have ⟨l0', l1', l2'⟩ := hl
  have ⟨r0', r1', r2'⟩ := hr
  have ⟨m0', m1', m2'⟩ := hm
  go_wp2
  go_ret2
  exact ⟨_, rfl, Is.zero, hE⟩
theorem implErrorOf_no4 (z0 z1 : Int) (A : Option Addr) (n c : Nat) (y0 y1 : Int) (A' : Option Addr) (n' c' : Nat) (m0 m1 : Int) (A2 : Option Addr) (n2 c2 : Nat) (U : World) (hn : n ≤ maxLen) (hn' : n' ≤ maxLen) (hn2 : n2 ≤ maxLen) (hv : VMap z0 z1 n) (hv' : VMap y0 y1 n') (e0 : z0 = y0) (e1 : z1 = y1) (hm2 : VMap m0 m1 n2) (e3 : z0 = m0) (h4 : ¬ z1 = m1) :
    Calls Try.prog 35 #[.agg #[.int .i64 z0, .int .i64 z1, .slice A n c], .agg #[.int .i64 y0, .int .i64 y1, .slice A' n' c'], .agg #[.int .i64 m0, .int .i64 m1, .slice A2 n2 c2]] U fun e U' => ∃ r, e = .returned (.tuple #[.float .f32 r, .bool false]) ∧ Is r 0 ∧ Ext U U' := by
  subst e0 e1
  have HV := Lib.hid hv
  have HV2 := Lib.hid hv'
  clear hv hv'
  have H2 := Lib.hid hm2
  clear hm2
  have hb3 : (z0 != m0) = false := by simp [e3]
  have hb4 : (z1 != m1) = true := by simp [h4]
  clear e3 h4
  go_enter Try.func35, Try.ntmps35
  go_wp2_with fail
  refine calls_at (X := fun w' => Ext U w' ∧ Box3 w' U.heap.size (.int .i64 z0) (.int .i64 z1) (.slice A n c) ∧ Box3 w' (U.heap.size + 1) (.int .i64 z0) (.int .i64 z1) (.slice A' n' c') ∧ Box3 w' (U.heap.size + 1 + 1) (.int .i64 m0) (.int .i64 m1) (.slice A2 n2 c2)) ⟨(((Ext.refl _).alloc _).alloc _).alloc _, ⟨by simp [go_sem], by simp [go_sem], by simp [go_sem]⟩, ⟨by simp [go_sem], by simp [go_sem], by simp [go_sem]⟩, ⟨by simp [go_sem], by simp [go_sem], by simp [go_sem]⟩⟩ ?_
  rintro w0 ⟨hE, hl, hr, hm⟩
  refine (pairOk_yes z0 z1 A A' n n' c c' _ hn hn' HV.out HV2.out).mono ?_
  rintro e w1 ⟨rfl, hx⟩
  replace hE := hE.trans hx
  replace hl := hl.ext hx
  replace hr := hr.ext hx
  replace hm := hm.ext hx
  clear hx
  have ⟨l0', l1', l2'⟩ := hl
  have ⟨r0', r1', r2'⟩ := hr
  have ⟨m0', m1', m2'⟩ := hm
  go_wp2_with fail
  clear l0' l1' l2' r0' r1' r2' m0' m1' m2'
  refine (ValidMap_yes m0 m1 A2 n2 c2 _ hn2 H2.out).mono ?_
  rintro e w2 ⟨rfl, hx⟩
  replace hE := hE.trans hx
  replace hl := hl.ext hx
  replace hr := hr.ext hx
  replace hm := hm.ext hx
  clear hx
  have ⟨l0', l1', l2'⟩ := hl
  have ⟨r0', r1', r2'⟩ := hr
  have ⟨m0', m1', m2'⟩ := hm
  go_wp2
  go_ret2
  exact ⟨_, rfl, Is.zero, hE⟩
set_option maxHeartbeats 8000000 in
set_option maxRecDepth 8000 in
theorem implErrorOf_yes (wn hn gl ol n c gr orr n' c' gm om n2 c2 : Nat) (ls rs ms : List Nat) (U : World) (hll : Lies U gl ol ls) (hlen : ls.length = n) (hw : Words ls) (hlr : Lies U gr orr rs) (hlenr : rs.length = n') (hwr : Words rs) (hlm : Lies U gm om ms) (hlenm : ms.length = n2) (hnx : n ≤ maxLen) (hnx' : n' ≤ maxLen) (hnx2 : n2 ≤ maxLen) (hv : VMap wn hn n) (hv' : VMap wn hn n') (hm2 : VMap wn hn n2) (ok : Bool) (X : Nat) (hcase : ErrC wn hn ls rs ms ok X) :
    Calls Try.prog 35 #[.agg #[.int .i64 wn, .int .i64 hn, .slice (some ⟨gl, ol, none⟩) n c], .agg #[.int .i64 wn, .int .i64 hn, .slice (some ⟨gr, orr, none⟩) n' c'], .agg #[.int .i64 wn, .int .i64 hn, .slice (some ⟨gm, om, none⟩) n2 c2]] U fun e U' => ∃ r, e = .returned (.tuple #[.float .f32 r, .bool ok]) ∧ Is r X ∧ Ext U U' := by
  have hw24 : wn ≤ 24 := by have := hv.1.2.1; omega
  have hh24 : hn ≤ 24 := by have := hv.1.2.2.2.1; omega
  obtain ⟨hnn, hn0, hn256⟩ := map_n hv
  obtain ⟨hmn, hm0', hm256⟩ := map_n hm2
  have HCASE := Lib.hid hcase
  have HV := Lib.hid hv
  have HV2 := Lib.hid hv'
  have HM := Lib.hid hm2
  have HWP := Lib.hid (fun (W : World) (hE : Ext U W) (hB : Box3 W (U.heap.size + 1) (.int .i64 wn) (.int .i64 hn) (.slice (some ⟨gr, orr, none⟩) n' c')) (hM : Box3 W (U.heap.size + 1 + 1) (.int .i64 wn) (.int .i64 hn) (.slice (some ⟨gm, om, none⟩) n2 c2)) (j k : Nat) (hj : j < wn) (hk : k < hn) => warped_any (U.heap.size + 1) (U.heap.size + 1 + 1) wn hn gr orr n' c' gm om n2 c2 rs ms j k hj hk W hB hM (hlr.ext hE) hlenr (hlm.ext hE) hlenm hnx2 hv' hm2)
  have HAB := Lib.hid (fun (W : World) (hE : Ext U W) (hB : Box3 W U.heap.size (.int .i64 wn) (.int .i64 hn) (.slice (some ⟨gl, ol, none⟩) n c)) (j k : Nat) (hj : j < wn) (hk : k < hn) => (by
    have t := about_any U.heap.size wn hn (some ⟨gl, ol, none⟩) n c ls (j : Int) (k : Int) W hB ⟨hlen, fun _ => ⟨gl, ol, rfl, hll.ext hE⟩⟩ hv
    rw [clampI_in (by omega) (by omega), clampI_in (by omega) (by omega), cell_lin3] at t
    exact t : Calls Try.prog 82 #[.pointer (some ⟨U.heap.size, 0, none⟩), .int .i64 j, .int .i64 k] W fun e U' => e = .returned (.float .f32 (ls.getD (k * wn + j) 0)) ∧ Ext W U'))
  have HWL := Lib.hid (fun (i : Nat) => wd_at hw i)
  have HWG := Lib.hid (fun (x j k : Nat) => (wd_at hwr _ : greyW wn hn rs x j k < 4294967296))
  clear hll hlen hw hlr hlenr hwr hlm hlenm hv hv' hm2 hnn hmn hcase
  go_enter Try.func35, Try.ntmps35
  go_wp2_with fail
  refine calls_at (X := fun w' => Ext U w' ∧ Box3 w' U.heap.size (.int .i64 wn) (.int .i64 hn) (.slice (some ⟨gl, ol, none⟩) n c) ∧ Box3 w' (U.heap.size + 1) (.int .i64 wn) (.int .i64 hn) (.slice (some ⟨gr, orr, none⟩) n' c') ∧ Box3 w' (U.heap.size + 1 + 1) (.int .i64 wn) (.int .i64 hn) (.slice (some ⟨gm, om, none⟩) n2 c2)) ⟨(((Ext.refl _).alloc _).alloc _).alloc _, ⟨by simp [go_sem], by simp [go_sem], by simp [go_sem]⟩, ⟨by simp [go_sem], by simp [go_sem], by simp [go_sem]⟩, ⟨by simp [go_sem], by simp [go_sem], by simp [go_sem]⟩⟩ ?_
  rintro w0 ⟨hE, hl, hr, hm⟩
  refine (pairOk_yes wn hn _ _ n n' c c' _ hnx hnx' HV.out HV2.out).mono ?_
  rintro e w1 ⟨rfl, hx⟩
  replace hE := hE.trans hx
  replace hl := hl.ext hx
  replace hr := hr.ext hx
  replace hm := hm.ext hx
  clear hx
  have ⟨l0', l1', l2'⟩ := hl
  have ⟨r0', r1', r2'⟩ := hr
  have ⟨m0', m1', m2'⟩ := hm
  go_wp2_with fail
  clear l0' l1' l2' r0' r1' r2' m0' m1' m2'
  refine (ValidMap_yes wn hn _ n2 c2 _ hnx2 HM.out).mono ?_
  rintro e w2 ⟨rfl, hx⟩
  replace hE := hE.trans hx
  replace hl := hl.ext hx
  replace hr := hr.ext hx
  replace hm := hm.ext hx
  clear hx
  have ⟨l0', l1', l2'⟩ := hl
  have ⟨r0', r1', r2'⟩ := hr
  have ⟨m0', m1', m2'⟩ := hm
  go_wp2_with fail
  clear l0' l1' l2' r0' r1' r2' m0' m1' m2'
  go_loopw [8, 9, 39] (fun s mv yv wr => ∃ (k r : Nat), k ≤ hn ∧ yv = .int .i64 k ∧ s = .float .f32 r ∧ Is r (errS wn hn ls rs ms (k * wn)) ∧ mv = .int .i64 (errN ms (k * wn) : Nat) ∧ Ext w2 wr) (fun _ _ yv _ => hn - (intOf yv).toNat)
  case atStart => exact ⟨0, 0, Nat.zero_le _, rfl, rfl, by rw [Nat.zero_mul]; exact Is.zero, by rw [Nat.zero_mul]; rfl, Ext.refl _⟩
  case round =>
    obtain ⟨k, s0, hk, rfl, rfl, hs0, rfl, hX0⟩ := hrel
    have ⟨m0', m1', m2'⟩ := hm.ext hX0
    by_cases hlk : k < hn
    · have hlk' : (k : Int) < (hn : Int) := by omega
      have a3 : IntKind.i64.wrap ((k : Int) + 1) = (k : Int) + 1 := wrap_small _ (by omega) (by omega)
      go_wp2_with fail
      go_loopw [8, 9, 44] (fun s mv xv wq => ∃ (j r : Nat), j ≤ wn ∧ xv = .int .i64 j ∧ s = .float .f32 r ∧ Is r (errS wn hn ls rs ms (k * wn + j)) ∧ mv = .int .i64 (errN ms (k * wn + j) : Nat) ∧ Ext w2 wq) (fun _ _ xv _ => wn - (intOf xv).toNat)
      case atStart => exact ⟨0, s0, Nat.zero_le _, rfl, rfl, hs0, rfl, hX0⟩
      case round =>
        clear m0' m1' m2' hs0 hX0
        obtain ⟨j, s, hj, rfl, rfl, hs, rfl, hX⟩ := hrel
        by_cases hlj : j < wn
        · have hlj' : (j : Int) < (wn : Int) := by omega
          have a1 : IntKind.i64.wrap ((j : Int) + 1) = (j : Int) + 1 := wrap_small _ (by omega) (by omega)
          have hnle : k * wn + j ≤ 24 * 24 + 24 := by have := Nat.mul_le_mul (show k ≤ 24 by omega) hw24; omega
          have hNle := errN_le ms (k * wn + j)
          have HS1 : Hid (errS wn hn ls rs ms (k * wn + (j + 1)) = if inP (ms.getD (k * wn + j) 0) then fop .add (errS wn hn ls rs ms (k * wn + j)) (absN (fop .sub (nrm (ls.getD (k * wn + j) 0)) (warpF wn hn rs ms (k * wn + j)))) else errS wn hn ls rs ms (k * wn + j)) := Lib.hid rfl
          have HN1 : Hid (errN ms (k * wn + (j + 1)) = if inP (ms.getD (k * wn + j) 0) then errN ms (k * wn + j) + 1 else errN ms (k * wn + j)) := Lib.hid rfl
          have HWF : Hid (warpF wn hn rs ms (k * wn + j) = if inP (ms.getD (k * wn + j) 0) then nrm (greyW wn hn rs (ms.getD (k * wn + j) 0) j k) else 0) := Lib.hid (by unfold warpF; rw [(lin_mod hlj).1, (lin_mod hlj).2])
          have hwp := HWP.out _ (hE.trans hX) (hr.ext hX) (hm.ext hX) j k hlj hlk
          have HL := Lib.hid (fun (W : World) (hx : Ext w2 W) => HAB.out W (hE.trans hx) (hl.ext hx) j k hlj hlk)
          have hwl := HWL.out (k * wn + j)
          have hwg : greyW wn hn rs (ms.getD (k * wn + j) 0) j k < 4294967296 := HWG.out _ _ _
          obtain ⟨N, hN⟩ : ∃ N, errN ms (k * wn + j) = N := ⟨_, rfl⟩
          obtain ⟨SS, hSS⟩ : ∃ M, errS wn hn ls rs ms (k * wn + j) = M := ⟨_, rfl⟩
          obtain ⟨x, hx⟩ : ∃ x, ms.getD (k * wn + j) 0 = x := ⟨_, rfl⟩
          obtain ⟨lv, hlv⟩ : ∃ x, ls.getD (k * wn + j) 0 = x := ⟨_, rfl⟩
          obtain ⟨WF, hWF⟩ : ∃ x, warpF wn hn rs ms (k * wn + j) = x := ⟨_, rfl⟩
          obtain ⟨gv, hgv⟩ : ∃ g, greyW wn hn rs x j k = g := ⟨_, rfl⟩
          rw [hx] at HS1 HN1 HWF hwp hwg
          rw [hlv] at HS1 HL hwl
          rw [hWF] at HS1 HWF
          rw [hgv] at HWF hwp hwg
          rw [hN] at HN1 hNle ⊢
          rw [hSS] at HS1 hs
          clear hx hlv hWF hgv hN hSS
          have a2 : IntKind.i64.wrap ((N : Int) + 1) = (N : Int) + 1 := wrap_small _ (by omega) (by omega)
          go_wp2_with fail
          by_cases hin : inP x
          · rw [if_pos hin] at hwp
            have HI := Lib.hid hin
            clear hin
            refine hwp.mono ?_
            rintro e w3 ⟨rfl, hx3⟩
            replace hX := hX.trans hx3
            clear hx3 hwp
            go_wp2_with fail
            refine (HL.out _ hX).mono ?_
            rintro e w4 ⟨rfl, hx4⟩
            replace hX := hX.trans hx4
            clear hx4
            go_wp2_with (go_at_call 81; refine (abs_any _ (flR_is _ _ _ _).1 _).mono ?_; rintro e w' ⟨rfl, rfl⟩)
            go_roundw
            case rel =>
              refine ⟨j + 1, _, by omega, by go_num, rfl, ?_, ?_, ?_⟩
              · rw [HS1.out, if_pos HI.out]
                have hWFv : WF = nrm gv := by rw [HWF.out, if_pos HI.out]
                rw [hWFv]
                exact Is.op hs (abs_is (Is.op (nrm_word hwl) (nrm_word hwg) (flR_is _ _ _ _))) (flR_is _ _ _ _)
              · rw [HN1.out, if_pos HI.out]; go_num
              · repeat (first | (with_reducible exact hX) | (with_reducible refine Ext.drewN ?_ _))
            case measure => simp [intOf]; omega
          · rw [if_neg hin] at hwp
            have HI := Lib.hid hin
            clear hin
            refine hwp.mono ?_
            rintro e w3 ⟨rfl, hx3⟩
            replace hX := hX.trans hx3
            clear hx3 hwp
            go_wp2
            go_roundw
            case rel => exact ⟨j + 1, s, by omega, by go_num, rfl, by rw [HS1.out, if_neg HI.out]; exact hs, by rw [HN1.out, if_neg HI.out], hX⟩
            case measure => simp [intOf]; omega
        · have e1 : j = wn := by omega
          rw [e1, ← Nat.succ_mul] at hs ⊢
          go_wp2
          go_roundw
          case rel => exact ⟨k + 1, s, by omega, by go_num, rfl, hs, rfl, hX⟩
          case measure => simp [intOf]; omega
    · have e1 : k = hn := by omega
      rw [e1, Nat.mul_comm] at hs0 ⊢
      have hs := hs0
      replace hE := hE.trans hX0
      clear hs0 hX0 m0' m1' m2' hl hr hm
      have hle := errN_le ms (wn * hn)
      have hwh : wn * hn ≤ 576 := Nat.mul_le_mul hw24 hh24
      obtain ⟨M, hM⟩ : ∃ M, errN ms (wn * hn) = M := ⟨_, rfl⟩
      obtain ⟨SS, hSS⟩ : ∃ M, errS wn hn ls rs ms (wn * hn) = M := ⟨_, rfl⟩
      have hcase := HCASE.out
      unfold ErrC at hcase
      rw [hM, hSS] at hcase
      rw [hM] at hle ⊢
      rw [hSS] at hs
      clear hM hSS
      rcases hcase with ⟨hz, hok, hX⟩ | ⟨hz, hok, hX⟩
      · have hb : ((M : Int) == 0) = true := by simp [hz]
        have HOK := Lib.hid hok
        have HXX := Lib.hid hX
        clear hz hok hX hle
        go_wp2
        go_ret2
        exact ⟨_, by rw [HOK.out]; rfl, by rw [HXX.out]; exact Is.zero, hE⟩
      · have hb : ((M : Int) == 0) = false := by simp; omega
        have HOK := Lib.hid hok
        have HXX := Lib.hid hX
        clear hz hok hX hle
        go_wp2
        go_ret2
        exact ⟨_, by rw [HOK.out]; rfl, by rw [HXX.out]; exact Is.op hs ⟨ofInt_lt _, nrm_of _ (isN_ofInt _)⟩ (flR_is _ _ _ _), by repeat (first | (with_reducible exact hE) | (with_reducible refine Ext.drewN ?_ _))⟩
theorem specErrorOf_no1 (z0 z1 : Int) (A : Option Addr) (n c : Nat) (y0 y1 : Int) (A' : Option Addr) (n' c' : Nat) (m0 m1 : Int) (A2 : Option Addr) (n2 c2 : Nat) (U : World) (hn : n ≤ maxLen) (hn' : n' ≤ maxLen) (hn2 : n2 ≤ maxLen) (h1 : ¬ Fit3 z0 z1 n m0 m1 n2) :
    Calls Try.prog 34 #[.agg #[.int .i64 z0, .int .i64 z1, .slice A n c], .agg #[.int .i64 y0, .int .i64 y1, .slice A' n' c'], .agg #[.int .i64 m0, .int .i64 m1, .slice A2 n2 c2]] U fun e U' => ∃ r, e = .returned (.tuple #[.float .f32 r, .bool false]) ∧ Is r 0 ∧ Ext U U' := by
  have H1 := Lib.hid h1
  clear h1
  go_enter Try.func34, Try.ntmps34
  go_wp2_with fail
  refine calls_at (X := fun w' => Ext U w' ∧ Box3 w' U.heap.size (.int .i64 z0) (.int .i64 z1) (.slice A n c) ∧ Box3 w' (U.heap.size + 1) (.int .i64 y0) (.int .i64 y1) (.slice A' n' c') ∧ Box3 w' (U.heap.size + 1 + 1) (.int .i64 m0) (.int .i64 m1) (.slice A2 n2 c2)) ⟨(((Ext.refl _).alloc _).alloc _).alloc _, ⟨by simp [go_sem], by simp [go_sem], by simp [go_sem]⟩, ⟨by simp [go_sem], by simp [go_sem], by simp [go_sem]⟩, ⟨by simp [go_sem], by simp [go_sem], by simp [go_sem]⟩⟩ ?_
  rintro w0 ⟨hE, hl, hr, hm⟩
  refine (l03Fits_no _ _ z0 z1 A n c m0 m1 A2 n2 c2 hn hn2 _ hl hm H1.out).mono ?_
  rintro e w1 ⟨rfl, hx⟩
  replace hE := hE.trans hx
  replace hl := hl.ext hx
  replace hr := hr.ext hx
  replace hm := hm.ext hx
  clear hx
  have ⟨l0', l1', l2'⟩ := hl
  have ⟨r0', r1', r2'⟩ := hr
  have ⟨m0', m1', m2'⟩ := hm
  go_wp2
  go_ret2
  exact ⟨_, rfl, Is.zero, hE⟩
theorem specErrorOf_no2 (z0 z1 : Int) (A : Option Addr) (n c : Nat) (y0 y1 : Int) (A' : Option Addr) (n' c' : Nat) (m0 m1 : Int) (A2 : Option Addr) (n2 c2 : Nat) (U : World) (hn : n ≤ maxLen) (hn' : n' ≤ maxLen) (hn2 : n2 ≤ maxLen) (hf : Fit3 z0 z1 n m0 m1 n2) (h1 : ¬ Fit3 y0 y1 n' m0 m1 n2) :
    Calls Try.prog 34 #[.agg #[.int .i64 z0, .int .i64 z1, .slice A n c], .agg #[.int .i64 y0, .int .i64 y1, .slice A' n' c'], .agg #[.int .i64 m0, .int .i64 m1, .slice A2 n2 c2]] U fun e U' => ∃ r, e = .returned (.tuple #[.float .f32 r, .bool false]) ∧ Is r 0 ∧ Ext U U' := by
  have H1 := Lib.hid h1
  have HF1 := Lib.hid hf
  clear h1 hf
  go_enter Try.func34, Try.ntmps34
  go_wp2_with fail
  refine calls_at (X := fun w' => Ext U w' ∧ Box3 w' U.heap.size (.int .i64 z0) (.int .i64 z1) (.slice A n c) ∧ Box3 w' (U.heap.size + 1) (.int .i64 y0) (.int .i64 y1) (.slice A' n' c') ∧ Box3 w' (U.heap.size + 1 + 1) (.int .i64 m0) (.int .i64 m1) (.slice A2 n2 c2)) ⟨(((Ext.refl _).alloc _).alloc _).alloc _, ⟨by simp [go_sem], by simp [go_sem], by simp [go_sem]⟩, ⟨by simp [go_sem], by simp [go_sem], by simp [go_sem]⟩, ⟨by simp [go_sem], by simp [go_sem], by simp [go_sem]⟩⟩ ?_
  rintro w0 ⟨hE, hl, hr, hm⟩
  refine (l03Fits_yes _ _ z0 z1 A n c m0 m1 A2 n2 c2 hn hn2 _ hl hm HF1.out.1 HF1.out.2.1 HF1.out.2.2.1 HF1.out.2.2.2).mono ?_
  rintro e w1 ⟨rfl, hx⟩
  replace hE := hE.trans hx
  replace hl := hl.ext hx
  replace hr := hr.ext hx
  replace hm := hm.ext hx
  clear hx
  have ⟨l0', l1', l2'⟩ := hl
  have ⟨r0', r1', r2'⟩ := hr
  have ⟨m0', m1', m2'⟩ := hm
  go_wp2_with fail
  clear l0' l1' l2' r0' r1' r2' m0' m1' m2'
  refine (l03Fits_no _ _ y0 y1 A' n' c' m0 m1 A2 n2 c2 hn' hn2 _ hr hm H1.out).mono ?_
  rintro e w2 ⟨rfl, hx⟩
  replace hE := hE.trans hx
  replace hl := hl.ext hx
  replace hr := hr.ext hx
  replace hm := hm.ext hx
  clear hx
  have ⟨l0', l1', l2'⟩ := hl
  have ⟨r0', r1', r2'⟩ := hr
  have ⟨m0', m1', m2'⟩ := hm
  go_wp2
  go_ret2
  exact ⟨_, rfl, Is.zero, hE⟩
set_option maxHeartbeats 8000000 in
set_option maxRecDepth 8000 in
theorem specErrorOf_yes (wn hn gl ol n c gr orr n' c' gm om n2 c2 : Nat) (ls rs ms : List Nat) (U : World) (hll : Lies U gl ol ls) (hlen : ls.length = n) (hw : Words ls) (hlr : Lies U gr orr rs) (hlenr : rs.length = n') (hwr : Words rs) (hlm : Lies U gm om ms) (hlenm : ms.length = n2) (hnx : n ≤ maxLen) (hnx' : n' ≤ maxLen) (hnx2 : n2 ≤ maxLen) (hv : VMap wn hn n) (hv' : VMap wn hn n') (hm2 : VMap wn hn n2) (ok : Bool) (X : Nat) (hcase : ErrC wn hn ls rs ms ok X) :
    Calls Try.prog 34 #[.agg #[.int .i64 wn, .int .i64 hn, .slice (some ⟨gl, ol, none⟩) n c], .agg #[.int .i64 wn, .int .i64 hn, .slice (some ⟨gr, orr, none⟩) n' c'], .agg #[.int .i64 wn, .int .i64 hn, .slice (some ⟨gm, om, none⟩) n2 c2]] U fun e U' => ∃ r, e = .returned (.tuple #[.float .f32 r, .bool ok]) ∧ Is r X ∧ Ext U U' := by
  have hw24 : wn ≤ 24 := by have := hv.1.2.1; omega
  have hh24 : hn ≤ 24 := by have := hv.1.2.2.2.1; omega
  obtain ⟨hnn, hn0, hn256⟩ := map_n hv
  obtain ⟨hmn, hm0', hm256⟩ := map_n hm2
  have HCASE := Lib.hid hcase
  have HV := Lib.hid hv
  have HV2 := Lib.hid hv'
  have HM := Lib.hid hm2
  have HWP := Lib.hid (fun (W : World) (hE : Ext U W) (hB : Box3 W (U.heap.size + 1) (.int .i64 wn) (.int .i64 hn) (.slice (some ⟨gr, orr, none⟩) n' c')) (hM : Box3 W (U.heap.size + 1 + 1) (.int .i64 wn) (.int .i64 hn) (.slice (some ⟨gm, om, none⟩) n2 c2)) => l03Warp_any (U.heap.size + 1) (U.heap.size + 1 + 1) wn hn gr orr n' c' gm om n2 c2 rs ms W hB hM (hlr.ext hE) hlenr hwr (hlm.ext hE) hlenm hnx2 hv' hm2)
  have HLC := Lib.hid (fun (W : World) (hE : Ext U W) (i : Nat) (hi : i < n2) => (hll.ext hE) i (by omega))
  have HMC := Lib.hid (fun (W : World) (hE : Ext U W) (i : Nat) (hi : i < n2) => (hlm.ext hE) i (by omega))
  have HWL := Lib.hid (fun (i : Nat) => wd_at hw i)
  have HNN : Hid (n = n2) := Lib.hid (by omega)
  have HMN := Lib.hid hmn
  clear hll hlen hw hlr hlenr hwr hlm hlenm hv hv' hm2 hnn hmn hcase
  go_enter Try.func34, Try.ntmps34
  go_wp2_with fail
  refine calls_at (X := fun w' => Ext U w' ∧ Box3 w' U.heap.size (.int .i64 wn) (.int .i64 hn) (.slice (some ⟨gl, ol, none⟩) n c) ∧ Box3 w' (U.heap.size + 1) (.int .i64 wn) (.int .i64 hn) (.slice (some ⟨gr, orr, none⟩) n' c') ∧ Box3 w' (U.heap.size + 1 + 1) (.int .i64 wn) (.int .i64 hn) (.slice (some ⟨gm, om, none⟩) n2 c2)) ⟨(((Ext.refl _).alloc _).alloc _).alloc _, ⟨by simp [go_sem], by simp [go_sem], by simp [go_sem]⟩, ⟨by simp [go_sem], by simp [go_sem], by simp [go_sem]⟩, ⟨by simp [go_sem], by simp [go_sem], by simp [go_sem]⟩⟩ ?_
  rintro w0 ⟨hE, hl, hr, hm⟩
  refine (l03Fits_yes _ _ wn hn _ n c wn hn _ n2 c2 hnx hnx2 _ hl hm HV.out HM.out rfl rfl).mono ?_
  rintro e w1 ⟨rfl, hx⟩
  replace hE := hE.trans hx
  replace hl := hl.ext hx
  replace hr := hr.ext hx
  replace hm := hm.ext hx
  clear hx
  have ⟨l0', l1', l2'⟩ := hl
  have ⟨r0', r1', r2'⟩ := hr
  have ⟨m0', m1', m2'⟩ := hm
  go_wp2_with fail
  clear l0' l1' l2' r0' r1' r2' m0' m1' m2'
  refine (l03Fits_yes _ _ wn hn _ n' c' wn hn _ n2 c2 hnx' hnx2 _ hr hm HV2.out HM.out rfl rfl).mono ?_
  rintro e w2 ⟨rfl, hx⟩
  replace hE := hE.trans hx
  replace hl := hl.ext hx
  replace hr := hr.ext hx
  replace hm := hm.ext hx
  clear hx
  have ⟨l0', l1', l2'⟩ := hl
  have ⟨r0', r1', r2'⟩ := hr
  have ⟨m0', m1', m2'⟩ := hm
  go_wp2_with fail
  clear l0' l1' l2' r0' r1' r2' m0' m1' m2'
  refine (HWP.out _ hE hr hm).mono ?_
  rintro e w3 ⟨A, cT, b, rfl, ho, hlike, hx⟩
  have hbl : b.length = n2 := by have := congrArg List.length hlike; simpa using this
  obtain ⟨gT, rfl⟩ := ho.at (by omega)
  rw [hbl] at ho ⊢
  have HTC := Lib.hid (fun (W : World) (hE : Ext w3 W) (i : Nat) (hi : i < n2) => (ho.ext hE).cell (i := i) (by omega))
  have HTV := Lib.hid (fun (i : Nat) (hi : i < n2) => (by
    have h1 : (b.map nrm)[i]? = ((List.range n2).map (warpF wn hn rs ms))[i]? := by rw [hlike]
    rw [List.getElem?_map, List.getElem?_map, List.getElem?_range hi, List.getElem?_eq_getElem (show i < b.length by omega)] at h1
    simp only [Option.map_some, Option.some.injEq] at h1
    rw [List.getD_eq_getElem?_getD, List.getElem?_eq_getElem (show i < b.length by omega)]
    exact h1 : nrm (b.getD i 0) = warpF wn hn rs ms i))
  replace hE := hE.trans hx
  replace hl := hl.ext hx
  replace hm := hm.ext hx
  clear hx hr hlike hbl ho
  have ⟨l0', l1', l2'⟩ := hl
  have ⟨m0', m1', m2'⟩ := hm
  have hgm := hm.lt
  have hgn : ¬ ((U.heap.size + 1 + 1) = w3.heap.size) := by omega
  have hgl := hl.lt
  have hgn' : ¬ (U.heap.size = w3.heap.size) := by omega
  go_wp2_with fail
  refine wp_at (X := fun w' => Ext w3 w' ∧ Box3 w' w3.heap.size (.int .i64 wn) (.int .i64 hn) (.slice (some ⟨gT, 0, none⟩) n2 cT)) ⟨?_, ?_, ?_, ?_⟩ ?_
  · repeat (first | with_reducible exact Ext.refl _ | (with_reducible refine Ext.setCell ?_ (by simp) _) | (with_reducible refine Ext.alloc ?_ _))
  · simp [go_sem]
  · simp [go_sem]
  · simp [go_sem]
  rintro w4 ⟨hx, hT⟩
  replace hE := hE.trans hx
  replace hl := hl.ext hx
  replace hm := hm.ext hx
  have HX34 := Lib.hid hx
  clear hx hgm hgn hgl hgn' l0' l1' l2' m0' m1' m2'
  go_loopw [9, 10, 22] (fun s mv iv wr => ∃ (i r : Nat), i ≤ n2 ∧ iv = .int .i64 i ∧ s = .float .f32 r ∧ Is r (errS wn hn ls rs ms i) ∧ mv = .int .i64 (errN ms i : Nat) ∧ Ext w4 wr) (fun _ _ iv _ => n2 - (intOf iv).toNat)
  case atStart => exact ⟨0, 0, Nat.zero_le _, rfl, rfl, Is.zero, rfl, Ext.refl _⟩
  case round =>
    obtain ⟨i, s, hi, rfl, rfl, hs, rfl, hX⟩ := hrel
    have ⟨m0', m1', m2'⟩ := hm.ext hX
    by_cases hlt : i < n2
    · have i0 : (0 : Int) ≤ (i : Int) := by omega
      have i1 : (i : Int) < (n2 : Int) := by omega
      have i2 : (i : Int) < (n : Int) := by have := HNN.out; omega
      have a1 : IntKind.i64.wrap ((i : Int) + 1) = (i : Int) + 1 := wrap_small _ (by omega) (by omega)
      have hNle := errN_le ms i
      have HS1 : Hid (errS wn hn ls rs ms (i + 1) = if inP (ms.getD i 0) then fop .add (errS wn hn ls rs ms i) (absN (fop .sub (nrm (ls.getD i 0)) (warpF wn hn rs ms i))) else errS wn hn ls rs ms i) := Lib.hid rfl
      have HN1 : Hid (errN ms (i + 1) = if inP (ms.getD i 0) then errN ms i + 1 else errN ms i) := Lib.hid rfl
      have hmc := HMC.out _ (hE.trans hX) i hlt
      obtain ⟨N, hN⟩ : ∃ N, errN ms i = N := ⟨_, rfl⟩
      obtain ⟨SS, hSS⟩ : ∃ M, errS wn hn ls rs ms i = M := ⟨_, rfl⟩
      obtain ⟨x, hx⟩ : ∃ x, ms.getD i 0 = x := ⟨_, rfl⟩
      rw [hx] at HS1 HN1 hmc
      rw [hN] at HN1 hNle ⊢
      rw [hSS] at HS1 hs
      clear hx hN hSS
      have a2 : IntKind.i64.wrap ((N : Int) + 1) = (N : Int) + 1 := wrap_small _ (by omega) (by omega)
      go_wp2_with fail
      refine (l03Place_any x _).mono ?_
      rintro e w5 ⟨rfl, hx5⟩
      replace hX := hX.trans hx5
      clear hx5 hmc m0' m1' m2'
      by_cases hin : inP x
      · rw [inP_place hin 25 (by omega)]
        have HI := Lib.hid hin
        have h24 := hin.2
        obtain ⟨R, hR⟩ : ∃ R, rnd (vmag x) = R := ⟨_, rfl⟩
        rw [hR] at h24 ⊢
        clear hin hR
        have HR : Hid ((0 : Int) ≤ (R : Int) ∧ (R : Int) ≤ 24) := Lib.hid (by omega)
        clear h24
        go_wp2_with fail
        refine (l00In_yes (R : Int) 0 24 _ HR.out.1 HR.out.2).mono ?_
        rintro e w' ⟨rfl, rfl⟩
        have hlc := HLC.out _ (hE.trans hX) i hlt
        have hwl := HWL.out i
        have htc := HTC.out _ (HX34.out.trans hX) i hlt
        have HTV1 := Lib.hid (HTV.out i hlt)
        obtain ⟨lv, hlv⟩ : ∃ x, ls.getD i 0 = x := ⟨_, rfl⟩
        obtain ⟨tv, htv⟩ : ∃ x, b.getD i 0 = x := ⟨_, rfl⟩
        rw [hlv] at HS1 hwl hlc
        rw [htv] at HTV1 htc
        clear hlv htv
        have ⟨l0', l1', l2'⟩ := hl.ext hX
        have ⟨t0', t1', t2'⟩ := hT.ext hX
        go_wp2_with fail
        refine region_wx 14 [none, none, none, none, none, none, none, none, none, none, none, none, some (fun u W => ∃ r, u = .float .f32 r ∧ Is r (absN (fop .sub lv tv)))] (by kernel_rfl) (by kernel_rfl) ?_
        simp only [List.take_succ_cons, List.take_zero, List.drop_succ_cons, List.drop_zero]
        repeat ((first | refine wx_skip rfl ?_ | refine wx_nilCheck rfl rfl _ rfl _ rfl ?_ | (refine wx_float rfl rfl _ _ _ _ _ _ _ rfl rfl rfl rfl ?_; intro r hr) | (refine wx_k rfl rfl rfl (fun K hK => ?_); go_big_quiet_op; refine hK _ ?_; clear hK K) | (refine wx_callR _ rfl rfl 77 _ _ rfl (by kernel_rfl) (fun Wc hWc hFc => ?_) ?_; (· go_simp; refine (l03Size_any _ _ hr Wc).mono ?_; rintro e w' ⟨r, rfl, hr, hx⟩; exact ⟨_, rfl, ⟨r, rfl, hr⟩, hx⟩); rintro u VV hVV ⟨r2, rfl, hr2⟩)); (try simp only [Act.put, List.setIfInBounds_toArray, List.set_cons_zero, List.set_cons_succ]); (try simp only [List.tail_cons]))
        refine wx_nil (fun W hW hF => ?_)
        replace hX := hX.trans hW
        clear hF hW hVV l0' l1' l2' t0' t1' t2'
        go_wp2
        go_roundw
        case rel =>
          refine ⟨i + 1, _, by omega, by go_num, rfl, ?_, ?_, hX⟩
          · rw [HS1.out, if_pos HI.out, ← HTV1.out, fop_nrm]
            exact Is.op hs hr2 hr
          · rw [HN1.out, if_pos HI.out]; go_num
        case measure => simp [intOf]; omega
      · have hno := inP_no hin 25 (by omega)
        have HI := Lib.hid hin
        generalize (if pok x = true then min (rnd (vmag x) : Int) 25 else -1) = Q at hno ⊢
        have HN := Lib.hid hno
        clear hno hin
        go_wp2_with fail
        refine (l00In_no Q 0 24 _ HN.out).mono ?_
        rintro e w' ⟨rfl, rfl⟩
        go_wp2
        go_roundw
        case rel => exact ⟨i + 1, s, by omega, by go_num, rfl, by rw [HS1.out, if_neg HI.out]; exact hs, by rw [HN1.out, if_neg HI.out], hX⟩
        case measure => simp [intOf]; omega
    · have e1 : i = wn * hn := by have := HMN.out; omega
      rw [show errN ms i = errN ms (wn * hn) by rw [e1]]
      rw [e1] at hs
      replace hE := hE.trans hX
      clear hX m0' m1' m2' hl hm hT e1
      have hle := errN_le ms (wn * hn)
      have hwh : wn * hn ≤ 576 := Nat.mul_le_mul hw24 hh24
      obtain ⟨M, hM⟩ : ∃ M, errN ms (wn * hn) = M := ⟨_, rfl⟩
      obtain ⟨SS, hSS⟩ : ∃ M, errS wn hn ls rs ms (wn * hn) = M := ⟨_, rfl⟩
      have hcase := HCASE.out
      unfold ErrC at hcase
      rw [hM, hSS] at hcase
      rw [hM] at hle ⊢
      rw [hSS] at hs
      clear hM hSS
      rcases hcase with ⟨hz, hok, hX⟩ | ⟨hz, hok, hX⟩
      · have hb : ((M : Int) == 0) = true := by simp [hz]
        have HOK := Lib.hid hok
        have HXX := Lib.hid hX
        clear hz hok hX hle
        go_wp2
        go_ret2
        exact ⟨_, by rw [HOK.out]; rfl, by rw [HXX.out]; exact Is.zero, hE⟩
      · have hb : ((M : Int) == 0) = false := by simp; omega
        have HOK := Lib.hid hok
        have HXX := Lib.hid hX
        clear hz hok hX hle
        go_wp2
        go_ret2
        exact ⟨_, by rw [HOK.out]; rfl, by rw [HXX.out]; exact Is.op hs ⟨ofInt_lt _, nrm_of _ (isN_ofInt _)⟩ (flR_is _ _ _ _), by repeat (first | (with_reducible exact hE) | (with_reducible refine Ext.drewN ?_ _))⟩
theorem errC_ex (wn hn : Nat) (ls rs ms : List Nat) : ∃ ok X, ErrC wn hn ls rs ms ok X := by
  by_cases h : errN ms (wn * hn) = 0
  · exact ⟨false, 0, .inl ⟨h, rfl, rfl⟩⟩
  · exact ⟨true, _, .inr ⟨h, rfl, rfl⟩⟩
set_option maxRecDepth 8000 in
theorem lawErrorOf_any (W : World) (z0 z1 : Int) (_ : -9223372036854775808 ≤ z0 ∧ z0 ≤ 9223372036854775807) (_ : -9223372036854775808 ≤ z1 ∧ z1 ≤ 9223372036854775807) (A : Option Addr) (n m : Nat) (ls : List Nat) (hc : n ≤ m) (hm : m ≤ maxLen) (hr : Reads W A n ls) (hw : Words ls) (y0 y1 : Int) (_ : -9223372036854775808 ≤ y0 ∧ y0 ≤ 9223372036854775807) (_ : -9223372036854775808 ≤ y1 ∧ y1 ≤ 9223372036854775807) (A' : Option Addr) (n' m' : Nat) (rs : List Nat) (hc' : n' ≤ m') (hm' : m' ≤ maxLen) (hr' : Reads W A' n' rs) (hw' : Words rs) (x0 x1 : Int) (_ : -9223372036854775808 ≤ x0 ∧ x0 ≤ 9223372036854775807) (_ : -9223372036854775808 ≤ x1 ∧ x1 ≤ 9223372036854775807) (A2 : Option Addr) (n2 m2 : Nat) (ms : List Nat) (hc2 : n2 ≤ m2) (hm2 : m2 ≤ maxLen) (hr2 : Reads W A2 n2 ms) (hw2 : Words ms) :
    Calls Try.prog 6 #[.agg #[.int .i64 z0, .int .i64 z1, .slice A n m], .agg #[.int .i64 y0, .int .i64 y1, .slice A' n' m'], .agg #[.int .i64 x0, .int .i64 x1, .slice A2 n2 m2]] W fun e W' => e = .returned (.bool true) ∧ Ext W W' := by
  have hn : n ≤ maxLen := Nat.le_trans hc hm
  have hn' : n' ≤ maxLen := Nat.le_trans hc' hm'
  have hn2 : n2 ≤ maxLen := Nat.le_trans hc2 hm2
  have NOC := fun hs hi => lawErrorOf_core W z0 z1 A n m ls hn hr y0 y1 A' n' m' rs hn' hr' x0 x1 A2 n2 m2 ms hn2 hr2 0 false hs hi
  by_cases h1 : Fit3 z0 z1 n x0 x1 n2
  · by_cases h2 : Fit3 y0 y1 n' x0 x1 n2
    · obtain ⟨hv, hvm, rfl, rfl⟩ := h1
      obtain ⟨hv', _, rfl, rfl⟩ := h2
      obtain ⟨wn, rfl⟩ := Int.eq_ofNat_of_zero_le (show 0 ≤ y0 by have := hv.1.1; omega)
      obtain ⟨hh, rfl⟩ := Int.eq_ofNat_of_zero_le (show 0 ≤ y1 by have := hv.1.2.2.1; omega)
      obtain ⟨ok, X, hX⟩ := errC_ex wn hh ls rs ms
      obtain ⟨_, k1, _⟩ := map_n hv
      obtain ⟨_, k2, _⟩ := map_n hv'
      obtain ⟨_, k3, _⟩ := map_n hvm
      refine lawErrorOf_core W wn hh A n m ls hn hr wn hh A' n' m' rs hn' hr' wn hh A2 n2 m2 ms hn2 hr2 X ok (fun w D D' D2 hd hd' hd2 => ?_) (fun w D D' D2 hd hd' hd2 => ?_)
      · obtain ⟨gl, ol, rfl, hl⟩ := hd.2 k1
        obtain ⟨gr, orr, rfl, hlr⟩ := hd'.2 k2
        obtain ⟨gm, om, rfl, hlm⟩ := hd2.2 k3
        exact specErrorOf_yes wn hh gl ol n n gr orr n' n' gm om n2 n2 ls rs ms w hl hd.1 hw hlr hd'.1 hw' hlm hd2.1 hn hn' hn2 hv hv' hvm ok X hX
      · obtain ⟨gl, ol, rfl, hl⟩ := hd.2 k1
        obtain ⟨gr, orr, rfl, hlr⟩ := hd'.2 k2
        obtain ⟨gm, om, rfl, hlm⟩ := hd2.2 k3
        exact implErrorOf_yes wn hh gl ol n n gr orr n' n' gm om n2 n2 ls rs ms w hl hd.1 hw hlr hd'.1 hw' hlm hd2.1 hn hn' hn2 hv hv' hvm ok X hX
    · refine NOC (fun w D D' D2 hd hd' hd2 => specErrorOf_no2 z0 z1 D n n y0 y1 D' n' n' x0 x1 D2 n2 n2 w hn hn' hn2 h1 h2) (fun w D D' D2 hd hd' hd2 => ?_)
      obtain ⟨hv, hvm, rfl, rfl⟩ := h1
      exact implErrorOf_no1 z0 z1 D n n y0 y1 D' n' n' z0 z1 D2 n2 n2 w hn hn' hn2 (fun h => h2 ⟨h.2.1, hvm, h.2.2.1.symm, h.2.2.2.symm⟩)
  · refine NOC (fun w D D' D2 hd hd' hd2 => specErrorOf_no1 z0 z1 D n n y0 y1 D' n' n' x0 x1 D2 n2 n2 w hn hn' hn2 h1) (fun w D D' D2 hd hd' hd2 => ?_)
    by_cases hp : VMap z0 z1 n ∧ VMap y0 y1 n' ∧ z0 = y0 ∧ z1 = y1
    · obtain ⟨hv, hv', e0, e1⟩ := hp
      by_cases hvm : VMap x0 x1 n2
      · by_cases e3 : z0 = x0
        · exact implErrorOf_no4 z0 z1 D n n y0 y1 D' n' n' x0 x1 D2 n2 n2 w hn hn' hn2 hv hv' e0 e1 hvm e3 (fun e4 => h1 ⟨hv, hvm, e3, e4⟩)
        · exact implErrorOf_no3 z0 z1 D n n y0 y1 D' n' n' x0 x1 D2 n2 n2 w hn hn' hn2 hv hv' e0 e1 hvm e3
      · exact implErrorOf_no2 z0 z1 D n n y0 y1 D' n' n' x0 x1 D2 n2 n2 w hn hn' hn2 hv hv' e0 e1 hvm
    · exact implErrorOf_no1 z0 z1 D n n y0 y1 D' n' n' x0 x1 D2 n2 n2 w hn hn' hn2 hp
end Go.Proofs.Ytgpobhpcbgenoaa
