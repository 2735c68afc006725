/- The law on RangeOfMap holds. -/
import Derived.Test.YtcekofioiofjbaaHole
import Derived.Test.YtcekofioiofjbaaCRangeOfMap
namespace Go.Proofs.Ytcekofioiofjbaa
open Go.RowKit
set_option linter.unusedVariables false

/-- The least and the greatest that are no holes, and whether there is one. -/
def rngL (bs : List Nat) : Nat → Nat × Nat × Bool
  | 0 => (0, 0, false)
  | k + 1 =>
    let s := rngL bs k
    let b := bs.getD k 0
    if holeB b = true then s else (if s.2.2 = false ∨ ltF b s.1 = true then b else s.1, if s.2.2 = false ∨ gtF b s.2.1 = true then b else s.2.1, true)
theorem rng_hole {bs : List Nat} {k : Nat} (h : holeB (bs.getD k 0) = true) : rngL bs (k + 1) = rngL bs k := by rw [rngL]; simp only [h, if_true]
theorem rng_new {bs : List Nat} {k : Nat} {lo hi : Nat} (h : holeB (bs.getD k 0) = false) (hs : rngL bs k = (lo, hi, false)) : rngL bs (k + 1) = (bs.getD k 0, bs.getD k 0, true) := by
  rw [rngL]; simp only [h, hs, true_or, if_true]; rfl
theorem rng_more {bs : List Nat} {k : Nat} {lo hi : Nat} {p q : Bool} (h : holeB (bs.getD k 0) = false) (hs : rngL bs k = (lo, hi, true)) (hp : ltF (bs.getD k 0) lo = p) (hq : gtF (bs.getD k 0) hi = q) : rngL bs (k + 1) = (if p = true then bs.getD k 0 else lo, if q = true then bs.getD k 0 else hi, true) := by
  rw [rngL]; simp only [h, hs, hp, hq]; simp
theorem rng_none {bs : List Nat} : ∀ (k lo hi : Nat), rngL bs k = (lo, hi, false) → lo = 0 ∧ hi = 0
  | 0, lo, hi, h => by
    simp only [rngL, Prod.mk.injEq] at h
    exact ⟨h.1.symm, h.2.1.symm⟩
  | k + 1, lo, hi, h => by
    cases hh : holeB (bs.getD k 0) with
    | true => rw [rng_hole hh] at h; exact rng_none k lo hi h
    | false =>
      rw [rngL] at h
      simp only [hh] at h
      simp at h
theorem rng_lt {bs : List Nat} (hw : Words bs) : ∀ k, (rngL bs k).1 < 4294967296 ∧ (rngL bs k).2.1 < 4294967296
  | 0 => ⟨(by show 0 < 4294967296; omega), (by show 0 < 4294967296; omega)⟩
  | k + 1 => by
    have h1 := rng_lt hw k
    have h2 := wd_at hw k
    rw [rngL]
    try dsimp only
    split
    · exact h1
    · refine ⟨?_, ?_⟩ <;> (try dsimp only) <;> split <;> first | exact h2 | exact h1.1 | exact h1.2
set_option maxHeartbeats 4000000 in
theorem specRangeOfMap_yes (w h : Int) (gb off n c : Nat) (bs : List Nat) (U : World) (hnm : n ≤ maxLen) (hl0 : Lies U gb off bs) (hlen : bs.length = n) (hwd : Words bs) (LO HI : Nat) (FO : Bool) (hLL : rngL bs n = (LO, HI, FO)) (hv : VMap w h n) :
    Calls Try.prog 38 #[.agg #[.int .i64 w, .int .i64 h, .slice (some ⟨gb, off, none⟩) n c]] U fun e U' => ∃ r0 r1, e = .returned (.tuple #[.float .f32 r0, .float .f32 r1, .bool FO]) ∧ Is r0 (if FO = true then nrm LO else 0) ∧ Is r1 (if FO = true then nrm HI else 0) ∧ Ext U U' := by
  have hn : n ≤ 256 := by have := hv.2; have := hv.1.2.2.2.2; omega
  have HV := Lib.hid hv
  have HLEN := Lib.hid hlen
  have HWD := Lib.hid hwd
  have HLL := Lib.hid hLL
  clear hv hlen hwd hLL
  go_enter Try.func38, Try.ntmps38
  go_wp2_with fail
  refine calls_at (X := fun w' => Ext U w' ∧ Box3 w' U.heap.size (.int .i64 w) (.int .i64 h) (.slice (some ⟨gb, off, none⟩) n c)) ⟨(Ext.refl _).alloc _, by simp [go_sem], by simp [go_sem], by simp [go_sem]⟩ ?_
  rintro w0 ⟨hx0, hb0⟩
  refine (l03IsMap_yes U.heap.size w h _ n c _ hnm hb0.1 hb0.2.1 hb0.2.2 HV.out).mono ?_
  rintro e w1 ⟨rfl, hx⟩
  have hb := hb0.ext hx
  have hE := hx0.trans hx
  have ⟨c0, c1, c2⟩ := hb
  have HL := Lib.hid (hl0.ext hE)
  clear hx hx0 hb0 hl0
  clear hnm
  go_wp2_with fail
  clear c0 c1 c2
  go_loopw [5, 6, 7, 15] (fun s t u i wr => ∃ (k lo hi : Nat) (fo : Bool), k ≤ n ∧ i = .int .i64 k ∧ rngL bs k = (lo, hi, fo) ∧ s = .float .f32 lo ∧ t = .float .f32 hi ∧ u = .bool fo ∧ wr = w1) (fun _ _ _ i _ => n - (intOf i).toNat)
  case atStart => exact ⟨0, 0, 0, false, Nat.zero_le _, rfl, rfl, rfl, rfl, rfl, rfl⟩
  case round =>
    obtain ⟨k, lo, hi, fo, hk, rfl, hs, rfl, rfl, rfl, rfl⟩ := hrel
    have ⟨c0, c1, c2⟩ := hb
    by_cases hlt : k < n
    · have hc := HL.out k (by have := HLEN.out; omega)
      have hk0 : (0 : Int) ≤ (k : Int) := by omega
      have hk1 : (k : Int) < (n : Int) := by omega
      have HS := Lib.hid hs
      clear hs
      obtain ⟨b, hb'⟩ : ∃ b, bs.getD k 0 = b := ⟨_, rfl⟩
      rw [hb'] at hc
      have HB := Lib.hid hb'
      clear hb'
      cases hh : holeB b with
      | true =>
        have H1 := Lib.hid ((rng_hole (bs := bs) (k := k) (by rw [HB.out]; exact hh)).trans HS.out)
        have HH := Lib.hid hh
        clear hh
        go_wp2_with (go_at_call 72; refine (l05Hole_of b true HH.out _).mono ?_; rintro e w' ⟨rfl, rfl⟩)
        go_roundw
        case rel => exact ⟨k + 1, _, _, _, by omega, by go_num, H1.out, rfl, rfl, rfl, by first | rfl | trivial⟩
        case measure => simp [intOf]; omega
      | false =>
        have HH := Lib.hid hh
        cases fo with
        | false =>
          have H1 := Lib.hid (by have := rng_new (bs := bs) (k := k) (by rw [HB.out]; exact hh) HS.out; rw [HB.out] at this; exact this : rngL bs (k + 1) = (b, b, true))
          clear hh
          go_wp2_with (go_at_call 72; refine (l05Hole_of b false HH.out _).mono ?_; rintro e w' ⟨rfl, rfl⟩)
          go_roundw
          case rel => exact ⟨k + 1, _, _, _, by omega, by go_num, H1.out, rfl, rfl, rfl, by first | rfl | trivial⟩
          case measure => simp [intOf]; omega
        | true =>
          cases hp : ltF b lo <;> cases hq : gtF b hi
          · have H1 := Lib.hid (by have := rng_more (bs := bs) (k := k) (by rw [HB.out]; exact hh) HS.out (p := false) (q := false) (by rw [HB.out]; exact hp) (by rw [HB.out]; exact hq); rw [HB.out] at this; exact this : rngL bs (k + 1) = (lo, hi, true))
            have hp' : (FloatKind.f32.format.order b lo == some .lt) = false := hp
            have hq' : (FloatKind.f32.format.order b hi == some .gt) = false := hq
            clear hh hp hq
            go_wp2_with (go_at_call 72; refine (l05Hole_of b false HH.out _).mono ?_; rintro e w' ⟨rfl, rfl⟩)
            go_roundw
            case rel => exact ⟨k + 1, _, _, _, by omega, by go_num, H1.out, rfl, rfl, rfl, by first | rfl | trivial⟩
            case measure => simp [intOf]; omega
          · have H1 := Lib.hid (by have := rng_more (bs := bs) (k := k) (by rw [HB.out]; exact hh) HS.out (p := false) (q := true) (by rw [HB.out]; exact hp) (by rw [HB.out]; exact hq); rw [HB.out] at this; exact this : rngL bs (k + 1) = (lo, b, true))
            have hp' : (FloatKind.f32.format.order b lo == some .lt) = false := hp
            have hq' : (FloatKind.f32.format.order b hi == some .gt) = true := hq
            clear hh hp hq
            go_wp2_with (go_at_call 72; refine (l05Hole_of b false HH.out _).mono ?_; rintro e w' ⟨rfl, rfl⟩)
            go_roundw
            case rel => exact ⟨k + 1, _, _, _, by omega, by go_num, H1.out, rfl, rfl, rfl, by first | rfl | trivial⟩
            case measure => simp [intOf]; omega
          · have H1 := Lib.hid (by have := rng_more (bs := bs) (k := k) (by rw [HB.out]; exact hh) HS.out (p := true) (q := false) (by rw [HB.out]; exact hp) (by rw [HB.out]; exact hq); rw [HB.out] at this; exact this : rngL bs (k + 1) = (b, hi, true))
            have hp' : (FloatKind.f32.format.order b lo == some .lt) = true := hp
            have hq' : (FloatKind.f32.format.order b hi == some .gt) = false := hq
            clear hh hp hq
            go_wp2_with (go_at_call 72; refine (l05Hole_of b false HH.out _).mono ?_; rintro e w' ⟨rfl, rfl⟩)
            go_roundw
            case rel => exact ⟨k + 1, _, _, _, by omega, by go_num, H1.out, rfl, rfl, rfl, by first | rfl | trivial⟩
            case measure => simp [intOf]; omega
          · have H1 := Lib.hid (by have := rng_more (bs := bs) (k := k) (by rw [HB.out]; exact hh) HS.out (p := true) (q := true) (by rw [HB.out]; exact hp) (by rw [HB.out]; exact hq); rw [HB.out] at this; exact this : rngL bs (k + 1) = (b, b, true))
            have hp' : (FloatKind.f32.format.order b lo == some .lt) = true := hp
            have hq' : (FloatKind.f32.format.order b hi == some .gt) = true := hq
            clear hh hp hq
            go_wp2_with (go_at_call 72; refine (l05Hole_of b false HH.out _).mono ?_; rintro e w' ⟨rfl, rfl⟩)
            go_roundw
            case rel => exact ⟨k + 1, _, _, _, by omega, by go_num, H1.out, rfl, rfl, rfl, by first | rfl | trivial⟩
            case measure => simp [intOf]; omega
    · have e1 : k = n := by omega
      rw [e1] at hs
      have hlo := rng_lt HWD.out n
      rw [hs] at hlo
      obtain ⟨rfl, rfl, rfl⟩ : LO = lo ∧ HI = hi ∧ FO = fo := by have := HLL.out.symm.trans hs; simpa using this
      clear hs
      cases FO with
      | false =>
        go_wp2
        go_ret3
        obtain ⟨rfl, rfl⟩ := rng_none _ _ _ HLL.out
        exact ⟨0, 0, rfl, Is.zero, Is.zero, hE⟩
      | true =>
        go_wp2
        go_ret3
        exact ⟨_, _, rfl, ⟨hlo.1, rfl⟩, ⟨hlo.2, rfl⟩, hE⟩
theorem specRangeOfMap_no (w h : Int) (A : Option Addr) (n c : Nat) (U : World) (hnm : n ≤ maxLen) (hv : ¬ VMap w h n) :
    Calls Try.prog 38 #[.agg #[.int .i64 w, .int .i64 h, .slice A n c]] U fun e U' => ∃ r0 r1, e = .returned (.tuple #[.float .f32 r0, .float .f32 r1, .bool false]) ∧ Is r0 0 ∧ Is r1 0 ∧ Ext U U' := by
  have HV := Lib.hid hv
  clear hv
  go_enter Try.func38, Try.ntmps38
  go_wp2_with fail
  refine calls_at (X := fun w' => Ext U w' ∧ Box3 w' U.heap.size (.int .i64 w) (.int .i64 h) (.slice A n c)) ⟨(Ext.refl _).alloc _, by simp [go_sem], by simp [go_sem], by simp [go_sem]⟩ ?_
  rintro w0 ⟨hx0, hb0⟩
  refine (l03IsMap_not U.heap.size w h A n c _ hnm hb0.1 hb0.2.1 hb0.2.2 HV.out).mono ?_
  rintro e w1 ⟨rfl, hx⟩
  have hE := hx0.trans hx
  clear hx hx0 hb0
  go_wp2
  go_ret3
  exact ⟨_, _, rfl, Is.zero, Is.zero, hE⟩
theorem callV_at {P : Program} {g : FuncId} {args : Array Value} {w : World} {R R' : Ending → World → Prop} (h : Calls P g args w R) (hm : ∀ e w', R e w' → R' e w') : Calls P g args w R' := h.mono hm
set_option maxHeartbeats 4000000 in
theorem rangeOf_any (gb off n c : Nat) (bs : List Nat) (w1 : World) (hn : n ≤ 256) (hl0 : Lies w1 gb off bs) (hlen : bs.length = n) (hwd : Words bs) (LO HI : Nat) (FO : Bool) (hLL : rngL bs n = (LO, HI, FO)) :
    Calls Try.prog 84 #[.slice (some ⟨gb, off, none⟩) n c, .func (.func 85) #[] #[]] w1 fun e U' => ∃ r0 r1, e = .returned (.tuple #[.float .f32 r0, .float .f32 r1, .bool FO]) ∧ Is r0 (if FO = true then nrm LO else 0) ∧ Is r1 (if FO = true then nrm HI else 0) ∧ Ext w1 U' := by
  have HLEN := Lib.hid hlen
  have HWD := Lib.hid hwd
  have HLL := Lib.hid hLL
  have HL := Lib.hid hl0
  have hE := Ext.refl w1
  clear hlen hwd hl0 hLL
  go_enter Try.func84, Try.ntmps84
  go_wp2_with fail
  go_loopw [7, 8, 9, 14] (fun s t u i wr => ∃ (k lo hi : Nat) (fo : Bool), k ≤ n ∧ i = .int .i64 k ∧ rngL bs k = (lo, hi, fo) ∧ s = .float .f32 lo ∧ t = .float .f32 hi ∧ u = .bool fo ∧ wr = w1) (fun _ _ _ i _ => n - (intOf i).toNat)
  case atStart => exact ⟨0, 0, 0, false, Nat.zero_le _, rfl, rfl, rfl, rfl, rfl, rfl⟩
  case round =>
    obtain ⟨k, lo, hi, fo, hk, rfl, hs, rfl, rfl, rfl, rfl⟩ := hrel
    skip
    by_cases hlt : k < n
    · have hc := HL.out k (by have := HLEN.out; omega)
      have hk0 : (0 : Int) ≤ (k : Int) := by omega
      have hk1 : (k : Int) < (n : Int) := by omega
      have HS := Lib.hid hs
      clear hs
      obtain ⟨b, hb'⟩ : ∃ b, bs.getD k 0 = b := ⟨_, rfl⟩
      rw [hb'] at hc
      have HB := Lib.hid hb'
      clear hb'
      cases hh : holeB b with
      | true =>
        have H1 := Lib.hid ((rng_hole (bs := bs) (k := k) (by rw [HB.out]; exact hh)).trans HS.out)
        have HH := Lib.hid hh
        clear hh
        (go_wp2_with fail; refine (noHole_of b true HH.out _).mono ?_; rintro e w' ⟨rfl, rfl⟩; go_wp2)
        go_roundw
        case rel => exact ⟨k + 1, _, _, _, by omega, by go_num, H1.out, rfl, rfl, rfl, by first | rfl | trivial⟩
        case measure => simp [intOf]; omega
      | false =>
        have HH := Lib.hid hh
        cases fo with
        | false =>
          have H1 := Lib.hid (by have := rng_new (bs := bs) (k := k) (by rw [HB.out]; exact hh) HS.out; rw [HB.out] at this; exact this : rngL bs (k + 1) = (b, b, true))
          clear hh
          (go_wp2_with fail; refine (noHole_of b false HH.out _).mono ?_; rintro e w' ⟨rfl, rfl⟩; go_wp2)
          go_roundw
          case rel => exact ⟨k + 1, _, _, _, by omega, by go_num, H1.out, rfl, rfl, rfl, by first | rfl | trivial⟩
          case measure => simp [intOf]; omega
        | true =>
          cases hp : ltF b lo <;> cases hq : gtF b hi
          · have H1 := Lib.hid (by have := rng_more (bs := bs) (k := k) (by rw [HB.out]; exact hh) HS.out (p := false) (q := false) (by rw [HB.out]; exact hp) (by rw [HB.out]; exact hq); rw [HB.out] at this; exact this : rngL bs (k + 1) = (lo, hi, true))
            have hp' : (FloatKind.f32.format.order b lo == some .lt) = false := hp
            have hq' : (FloatKind.f32.format.order b hi == some .gt) = false := hq
            clear hh hp hq
            (go_wp2_with fail; refine (noHole_of b false HH.out _).mono ?_; rintro e w' ⟨rfl, rfl⟩; go_wp2)
            go_roundw
            case rel => exact ⟨k + 1, _, _, _, by omega, by go_num, H1.out, rfl, rfl, rfl, by first | rfl | trivial⟩
            case measure => simp [intOf]; omega
          · have H1 := Lib.hid (by have := rng_more (bs := bs) (k := k) (by rw [HB.out]; exact hh) HS.out (p := false) (q := true) (by rw [HB.out]; exact hp) (by rw [HB.out]; exact hq); rw [HB.out] at this; exact this : rngL bs (k + 1) = (lo, b, true))
            have hp' : (FloatKind.f32.format.order b lo == some .lt) = false := hp
            have hq' : (FloatKind.f32.format.order b hi == some .gt) = true := hq
            clear hh hp hq
            (go_wp2_with fail; refine (noHole_of b false HH.out _).mono ?_; rintro e w' ⟨rfl, rfl⟩; go_wp2)
            go_roundw
            case rel => exact ⟨k + 1, _, _, _, by omega, by go_num, H1.out, rfl, rfl, rfl, by first | rfl | trivial⟩
            case measure => simp [intOf]; omega
          · have H1 := Lib.hid (by have := rng_more (bs := bs) (k := k) (by rw [HB.out]; exact hh) HS.out (p := true) (q := false) (by rw [HB.out]; exact hp) (by rw [HB.out]; exact hq); rw [HB.out] at this; exact this : rngL bs (k + 1) = (b, hi, true))
            have hp' : (FloatKind.f32.format.order b lo == some .lt) = true := hp
            have hq' : (FloatKind.f32.format.order b hi == some .gt) = false := hq
            clear hh hp hq
            (go_wp2_with fail; refine (noHole_of b false HH.out _).mono ?_; rintro e w' ⟨rfl, rfl⟩; go_wp2)
            go_roundw
            case rel => exact ⟨k + 1, _, _, _, by omega, by go_num, H1.out, rfl, rfl, rfl, by first | rfl | trivial⟩
            case measure => simp [intOf]; omega
          · have H1 := Lib.hid (by have := rng_more (bs := bs) (k := k) (by rw [HB.out]; exact hh) HS.out (p := true) (q := true) (by rw [HB.out]; exact hp) (by rw [HB.out]; exact hq); rw [HB.out] at this; exact this : rngL bs (k + 1) = (b, b, true))
            have hp' : (FloatKind.f32.format.order b lo == some .lt) = true := hp
            have hq' : (FloatKind.f32.format.order b hi == some .gt) = true := hq
            clear hh hp hq
            (go_wp2_with fail; refine (noHole_of b false HH.out _).mono ?_; rintro e w' ⟨rfl, rfl⟩; go_wp2)
            go_roundw
            case rel => exact ⟨k + 1, _, _, _, by omega, by go_num, H1.out, rfl, rfl, rfl, by first | rfl | trivial⟩
            case measure => simp [intOf]; omega
    · have e1 : k = n := by omega
      rw [e1] at hs
      have hlo := rng_lt HWD.out n
      rw [hs] at hlo
      obtain ⟨rfl, rfl, rfl⟩ : LO = lo ∧ HI = hi ∧ FO = fo := by have := HLL.out.symm.trans hs; simpa using this
      clear hs
      cases FO with
      | false =>
        go_wp2
        go_ret3
        obtain ⟨rfl, rfl⟩ := rng_none _ _ _ HLL.out
        exact ⟨0, 0, rfl, Is.zero, Is.zero, hE⟩
      | true =>
        go_wp2
        go_ret3
        exact ⟨_, _, rfl, ⟨hlo.1, rfl⟩, ⟨hlo.2, rfl⟩, hE⟩
theorem implRangeOfMap_yes (w h : Int) (gb off n c : Nat) (bs : List Nat) (U : World) (hnm : n ≤ maxLen) (hl : Lies U gb off bs) (hlen : bs.length = n) (hwd : Words bs) (LO HI : Nat) (FO : Bool) (hLL : rngL bs n = (LO, HI, FO)) (hv : VMap w h n) :
    Calls Try.prog 39 #[.agg #[.int .i64 w, .int .i64 h, .slice (some ⟨gb, off, none⟩) n c]] U fun e U' => ∃ r0 r1, e = .returned (.tuple #[.float .f32 r0, .float .f32 r1, .bool FO]) ∧ Is r0 (if FO = true then nrm LO else 0) ∧ Is r1 (if FO = true then nrm HI else 0) ∧ Ext U U' := by
  have hn : n ≤ 256 := by have := hv.2; have := hv.1.2.2.2.2; omega
  have HV := Lib.hid hv
  have hk := fun (W : World) (hx : Ext U W) => rangeOf_any gb off n c bs W hn (hl.ext hx) hlen hwd LO HI FO hLL
  generalize (if FO = true then nrm LO else 0) = X0 at hk ⊢
  generalize (if FO = true then nrm HI else 0) = X1 at hk ⊢
  have HK := Lib.hid hk
  clear hv hlen hwd hl hn hLL hk
  go_enter Try.func39, Try.ntmps39
  go_wp2_with fail
  refine calls_at (X := fun w' => Ext U w' ∧ Box3 w' U.heap.size (.int .i64 w) (.int .i64 h) (.slice (some ⟨gb, off, none⟩) n c)) ⟨(Ext.refl _).alloc _, by simp [go_sem], by simp [go_sem], by simp [go_sem]⟩ ?_
  rintro w0 ⟨hx0, hb0⟩
  refine (ValidMap_yes w h _ n c _ hnm HV.out).mono ?_
  rintro e w1 ⟨rfl, hx⟩
  have hE := hx0.trans hx
  have ⟨c0, c1, c2⟩ := hb0.ext hx
  clear hx hx0 hb0
  go_wp2_with fail
  refine (HK.out _ hE).mono ?_
  rintro e w2 ⟨r0, r1, rfl, hr0, hr1, hx⟩
  go_wp2
  go_ret3
  exact ⟨_, _, rfl, hr0, hr1, hE.trans hx⟩
theorem implRangeOfMap_no (w h : Int) (A : Option Addr) (n c : Nat) (U : World) (hnm : n ≤ maxLen) (hv : ¬ VMap w h n) :
    Calls Try.prog 39 #[.agg #[.int .i64 w, .int .i64 h, .slice A n c]] U fun e U' => ∃ r0 r1, e = .returned (.tuple #[.float .f32 r0, .float .f32 r1, .bool false]) ∧ Is r0 0 ∧ Is r1 0 ∧ Ext U U' := by
  have HV := Lib.hid hv
  clear hv
  go_enter Try.func39, Try.ntmps39
  go_wp2_with fail
  refine calls_at (X := fun w' => Ext U w') ((Ext.refl _).alloc _) ?_
  rintro w0 hx0
  refine (ValidMap_not w h A n c _ hnm HV.out).mono ?_
  rintro e w1 ⟨rfl, hx⟩
  have hE := hx0.trans hx
  clear hx hx0
  go_wp2
  go_ret3
  exact ⟨_, _, rfl, Is.zero, Is.zero, hE⟩
theorem lawRangeOfMap_any (W : World) (w h : Int) (_ : -9223372036854775808 ≤ w ∧ w ≤ 9223372036854775807) (_ : -9223372036854775808 ≤ h ∧ h ≤ 9223372036854775807) (A : Option Addr) (n c : Nat) (bs : List Nat) (hc : n ≤ c) (hm : c ≤ maxLen) (hr : Reads W A n bs) (hw : Words bs) :
    Calls Try.prog 10 #[.agg #[.int .i64 w, .int .i64 h, .slice A n c]] W fun e W' => e = .returned (.bool true) ∧ Ext W W' := by
  have hn : n ≤ maxLen := Nat.le_trans hc hm
  by_cases hv : VMap w h n
  · have hp : 0 < n := by have h1 := hv.2; have h2 := mul_bounds hv.1.1 hv.1.2.1 hv.1.2.2.1 hv.1.2.2.2.1; omega
    obtain ⟨LO, HI, FO, hLL⟩ : ∃ LO HI FO, rngL bs n = (LO, HI, FO) := ⟨_, _, _, rfl⟩
    refine lawRangeOfMap_core W w h A n c bs hn hr (if FO = true then nrm LO else 0) (if FO = true then nrm HI else 0) FO ?_ ?_
    · intro W' D hd
      obtain ⟨gb, off, rfl, hl⟩ := hd.2 hp
      exact specRangeOfMap_yes w h gb off n n bs W' hn hl hd.1 hw LO HI FO hLL hv
    · intro W' D hd
      obtain ⟨gb, off, rfl, hl⟩ := hd.2 hp
      exact implRangeOfMap_yes w h gb off n n bs W' hn hl hd.1 hw LO HI FO hLL hv
  · exact lawRangeOfMap_core W w h A n c bs hn hr 0 0 false (fun W' D _ => specRangeOfMap_no w h D n n W' hn hv) (fun W' D _ => implRangeOfMap_no w h D n n W' hn hv)
end Go.Proofs.Ytcekofioiofjbaa
