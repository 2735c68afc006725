/- Contracts: whether two numbers, two lists are the same. -/
import Derived.Test.YthcpnbjlgbobaaaFin
import Derived.Laws.Externs
namespace Go.Proofs.Ythcpnbjlgbobaaa
open Go.RowKit
set_option linter.unusedVariables false

theorem callsExt0 {P : Program} {f : FuncId} {args : Array Value} {W : World} {v : Value} (h : Calls P f args W fun e W' => e = .returned v ∧ W = W') : Calls P f args W fun e W' => e = .returned v ∧ Ext W W' :=
  h.mono fun _ _ ⟨he, hw⟩ => ⟨he, by rw [hw]; exact Ext.refl _⟩
theorem order_ne (b : Nat) : (FloatKind.f32.format.order b b != some .eq) = isN b := by
  show (Ieee.single.order b b != some .eq) = isN b
  cases h : isN b with
  | true =>
    have := order_nan_left b b h
    unfold fcmp at this
    rw [this]; rfl
  | false => rw [order_self b h]; rfl
@[go_sem] theorem run_bits (b : Nat) (w : World) : (callFunc 102 #[.float .f32 b]).run Try.prog w = .ok (.value (.int .u32 b)) w :=
  run_callFunc_extern Try.func102 (by kernel_rfl) (by kernel_rfl) (by kernel_rfl) (e := Extern.MathFloatBits.float32bits) (by kernel_rfl) #[.float .f32 b] w
theorem l01Bits_any (b : Nat) (hb : b < 4294967296) (W : World) :
    Calls Try.prog 100 #[.float .f32 b] W fun e W' => e = .returned (.int .i64 (nrm b)) ∧ W = W' := by
  have ho := order_ne b
  cases h : isN b with
  | true =>
    have hn : nrm b = 2143289344 := by unfold nrm; rw [h]; rfl
    rw [hn]
    rw [h] at ho
    clear h hn
    go_enter Try.func100, Try.ntmps100
    go_wp2
    go_ret
    exact ⟨rfl, rfl⟩
  | false =>
    rw [nrm_of b h]
    rw [h] at ho
    clear h
    have hwr : IntKind.i64.wrap (b : Int) = b := IntWalk.i64_in _ (by omega)
    have hbt := run_bits b
    go_enter Try.func100, Try.ntmps100
    go_wp2
    go_ret
    exact ⟨rfl, rfl⟩
theorem l01Same_of (a b : Nat) (ha : a < 4294967296) (hb : b < 4294967296) (v : Bool) (h : decide (nrm a = nrm b) = v) (W : World) :
    Calls Try.prog 93 #[.float .f32 a, .float .f32 b] W fun e W' => e = .returned (.bool v) ∧ W = W' := by
  have hv : (((nrm a : Nat) : Int) == ((nrm b : Nat) : Int)) = v := by
    rw [← h]; rw [Bool.eq_iff_iff]; simp; omega
  have H1 := Lib.hid (fun W => l01Bits_any a ha W)
  have H2 := Lib.hid (fun W => l01Bits_any b hb W)
  clear h
  generalize nrm a = p at *
  generalize nrm b = q at *
  clear ha hb
  go_enter Try.func93, Try.ntmps93
  go_wp2_with (go_at_call 100; (first | with_reducible refine (H1.out _).mono ?_ | with_reducible refine (H2.out _).mono ?_); rintro e w' ⟨rfl, rfl⟩)
  go_ret
  exact ⟨rfl, rfl⟩
theorem isNaN_of (b : Nat) (v : Bool) (h : isN b = v) (W : World) :
    Calls Try.prog 101 #[.float .f32 b] W fun e W' => e = .returned (.bool v) ∧ W = W' := by
  have ho := order_ne b
  rw [h] at ho
  clear h
  go_enter Try.func101, Try.ntmps101
  go_wp2
  go_ret
  exact ⟨rfl, rfl⟩
theorem implSame_of (a b : Nat) (v : Bool) (h : decide (nrm a = nrm b) = v) (W : World) :
    Calls Try.prog 95 #[.float .f32 a, .float .f32 b] W fun e W' => e = .returned (.bool v) ∧ W = W' := by
  have hba := run_bits a
  have hbb := run_bits b
  cases h1 : isN a with
  | true =>
    cases h2 : isN b with
    | true =>
      have hv : v = true := by rw [← h]; unfold nrm; rw [h1, h2]; simp
      subst hv
      clear h
      have H1 := Lib.hid h1
      have H2 := Lib.hid h2
      clear h1 h2
      go_enter Try.func95, Try.ntmps95
      go_wp2_with (go_at_call 101; (first | with_reducible refine (isNaN_of a _ H1.out _).mono ?_ | with_reducible refine (isNaN_of b _ H2.out _).mono ?_); rintro e w' ⟨rfl, rfl⟩)
      go_ret
      exact ⟨rfl, rfl⟩
    | false =>
      have hv : v = false := by
        rw [← h, decide_eq_false_iff_not]; intro he
        have := isN_nrm a
        rw [he, isN_nrm, h1, h2] at this; cases this
      subst hv
      clear h
      have H1 := Lib.hid h1
      have H2 := Lib.hid h2
      clear h1 h2
      go_enter Try.func95, Try.ntmps95
      go_wp2_with (go_at_call 101; (first | with_reducible refine (isNaN_of a _ H1.out _).mono ?_ | with_reducible refine (isNaN_of b _ H2.out _).mono ?_); rintro e w' ⟨rfl, rfl⟩)
      go_ret
      exact ⟨rfl, rfl⟩
  | false =>
    cases h2 : isN b with
    | true =>
      have hv : v = false := by
        rw [← h, decide_eq_false_iff_not]; intro he
        have := isN_nrm a
        rw [he, isN_nrm, h1, h2] at this; cases this
      subst hv
      clear h
      have H1 := Lib.hid h1
      have H2 := Lib.hid h2
      clear h1 h2
      go_enter Try.func95, Try.ntmps95
      go_wp2_with (go_at_call 101; (first | with_reducible refine (isNaN_of a _ H1.out _).mono ?_ | with_reducible refine (isNaN_of b _ H2.out _).mono ?_); rintro e w' ⟨rfl, rfl⟩)
      go_ret
      exact ⟨rfl, rfl⟩
    | false =>
      rw [nrm_of a h1, nrm_of b h2] at h
      have hv : ((a : Int) == (b : Int)) = v := by rw [← h, Bool.eq_iff_iff]; simp; omega
      clear h
      have H1 := Lib.hid h1
      have H2 := Lib.hid h2
      clear h1 h2
      go_enter Try.func95, Try.ntmps95
      go_wp2_with (go_at_call 101; (first | with_reducible refine (isNaN_of a _ H1.out _).mono ?_ | with_reducible refine (isNaN_of b _ H2.out _).mono ?_); rintro e w' ⟨rfl, rfl⟩)
      go_ret
      exact ⟨rfl, rfl⟩
/-- Two lists are the same. -/
def sameL (xs bs : List Nat) : Bool := decide (xs.map nrm = bs.map nrm)
theorem sameL_len {xs bs : List Nat} (h : xs.length ≠ bs.length) : sameL xs bs = false := by
  unfold sameL
  rw [decide_eq_false_iff_not]
  intro he
  exact h (by simpa using congrArg List.length he)
theorem sameL_at {xs bs : List Nat} (k : Nat) (ha : k < xs.length) (hb : k < bs.length) (h : nrm (xs.getD k 0) ≠ nrm (bs.getD k 0)) : sameL xs bs = false := by
  unfold sameL
  rw [decide_eq_false_iff_not]
  intro he
  have h1 : (xs.map nrm)[k]? = (bs.map nrm)[k]? := by rw [he]
  rw [List.getElem?_map, List.getElem?_map, List.getElem?_eq_getElem ha, List.getElem?_eq_getElem hb] at h1
  simp only [List.getD, List.getElem?_eq_getElem ha, List.getElem?_eq_getElem hb, Option.getD_some] at h
  exact h (by simpa using h1)
theorem sameL_all {xs bs : List Nat} (hl : xs.length = bs.length) (h : ∀ k, k < xs.length → nrm (xs.getD k 0) = nrm (bs.getD k 0)) : sameL xs bs = true := by
  unfold sameL
  rw [decide_eq_true_eq]
  refine List.ext_getElem (by simpa using hl) fun k h1 h2 => ?_
  have h1' : k < xs.length := by simpa using h1
  have h2' : k < bs.length := by simpa using h2
  have := h k h1'
  simpa [List.getD, List.getElem?_eq_getElem h1', List.getElem?_eq_getElem h2'] using this
theorem word_at {bs : List Nat} (h : Words bs) (k : Nat) : bs.getD k 0 < 4294967296 := by
  rw [List.getD_eq_getElem?_getD]
  cases hk : bs[k]? with
  | none => simp
  | some v => exact h v (List.mem_of_getElem? hk)
set_option maxHeartbeats 1000000 in
theorem l01SameAll_any (A A' : Option Addr) (n n' c c' : Nat) (xs bs : List Nat) (U : World) (hn : n ≤ maxLen) (hn' : n' ≤ maxLen) (hr : Reads U A n xs) (hr' : Reads U A' n' bs) (hwa : Words xs) (hwb : Words bs) :
    Calls Try.prog 80 #[.slice A n c, .slice A' n' c'] U fun e U' => e = .returned (.bool (sameL xs bs)) ∧ Ext U U' := by
  unfold maxLen at hn hn'
  by_cases hnn : n = n'
  · subst hnn
    have hl1 : xs.length = n := hr.1
    have hl2 : bs.length = n := hr'.1
    have HL := Lib.hid (show xs.length = n ∧ bs.length = n from ⟨hl1, hl2⟩)
    have HR := Lib.hid hr
    have HR' := Lib.hid hr'
    have HWA := Lib.hid hwa
    have HWB := Lib.hid hwb
    have hE := Ext.refl U
    clear hl1 hl2 hr hr' hwa hwb hn'
    go_enter Try.func80, Try.ntmps80
    go_wp2_with fail
    go_loopw [5] (fun i wr => ∃ k : Nat, k ≤ n ∧ i = .int .i64 k ∧ (∀ j, j < k → nrm (xs.getD j 0) = nrm (bs.getD j 0)) ∧ Ext U wr) (fun i _ => n - (intOf i).toNat)
    case atStart => exact ⟨0, Nat.zero_le _, rfl, fun j hj => by omega, hE⟩
    case round =>
      obtain ⟨k, hk, rfl, hall, hx⟩ := hrel
      have HA := Lib.hid hall
      clear hall
      by_cases hlt : k < n
      · obtain ⟨g, off, rfl, hl⟩ := HR.out.2 (by omega)
        obtain ⟨g', off', rfl, hl'⟩ := HR'.out.2 (by omega)
        have hc := cell_ext (hl k (by rw [HL.out.1]; exact hlt)) hx
        have hc' := cell_ext (hl' k (by rw [HL.out.2]; exact hlt)) hx
        clear hl hl'
        have hwx := word_at HWA.out k
        have hwy := word_at HWB.out k
        obtain ⟨x, hxx⟩ : ∃ x, xs.getD k 0 = x := ⟨_, rfl⟩
        obtain ⟨y, hyy⟩ : ∃ y, bs.getD k 0 = y := ⟨_, rfl⟩
        rw [hxx] at hc hwx
        rw [hyy] at hc' hwy
        have HXY := Lib.hid (show xs.getD k 0 = x ∧ bs.getD k 0 = y from ⟨hxx, hyy⟩)
        clear hxx hyy
        have hk0 : (0 : Int) ≤ (k : Int) := by omega
        have hk1 : (k : Int) < (n : Int) := by omega
        by_cases hs : nrm x = nrm y
        · have hv : decide (nrm x = nrm y) = true := by simpa using hs
          have HV := Lib.hid hv
          have HS := Lib.hid hs
          clear hv hs
          go_wp2_with fail
          refine region_wx0 [] (by kernel_rfl) (by kernel_rfl) ?_
          repeat ((first | refine wx_skip rfl ?_ | refine wx_nilCheck rfl rfl _ rfl _ rfl ?_ | (refine wx_float rfl rfl _ _ _ _ _ _ _ rfl rfl rfl rfl ?_; intro r hr) | (refine wx_k rfl rfl rfl (fun K hK => ?_); go_big_quiet_op; refine hK _ ?_; clear hK K) | (refine wx_call rfl rfl 93 _ _ rfl (by kernel_rfl) (by kernel_rfl) (.bool true) (fun W hW hF => ?_) ?_; go_simp; (with_reducible refine (callsExt0 (l01Same_of x y hwx hwy true HV.out W)).mono ?_); rintro e w' h; exact h)); (try simp only [Act.put, List.setIfInBounds_toArray, List.set_cons_zero, List.set_cons_succ]); (try simp only [List.tail_nil]))
          refine wx_nil (fun W hW hF => ?_)
          have hE1 := hx.trans hW
          go_wp2
          go_roundw
          case rel => exact ⟨k + 1, by omega, by go_num, fun j hj => by
            rcases Nat.lt_or_ge j k with h | h
            · exact HA.out j h
            · have : j = k := by omega
              subst this; rw [HXY.out.1, HXY.out.2]; exact HS.out, hE1⟩
          case measure => simp [intOf]; omega
        · have hv : decide (nrm x = nrm y) = false := by simpa using hs
          have HV := Lib.hid hv
          have hres : sameL xs bs = false := sameL_at k (by rw [HL.out.1]; exact hlt) (by rw [HL.out.2]; exact hlt) (by rw [HXY.out.1, HXY.out.2]; exact hs)
          have HRES := Lib.hid hres
          clear hv hs hres
          go_wp2_with fail
          refine region_wx0 [] (by kernel_rfl) (by kernel_rfl) ?_
          repeat ((first | refine wx_skip rfl ?_ | refine wx_nilCheck rfl rfl _ rfl _ rfl ?_ | (refine wx_float rfl rfl _ _ _ _ _ _ _ rfl rfl rfl rfl ?_; intro r hr) | (refine wx_k rfl rfl rfl (fun K hK => ?_); go_big_quiet_op; refine hK _ ?_; clear hK K) | (refine wx_call rfl rfl 93 _ _ rfl (by kernel_rfl) (by kernel_rfl) (.bool false) (fun W hW hF => ?_) ?_; go_simp; (with_reducible refine (callsExt0 (l01Same_of x y hwx hwy false HV.out W)).mono ?_); rintro e w' h; exact h)); (try simp only [Act.put, List.setIfInBounds_toArray, List.set_cons_zero, List.set_cons_succ]); (try simp only [List.tail_nil]))
          refine wx_nil (fun W hW hF => ?_)
          have hE1 := hx.trans hW
          go_wp2
          go_ret
          exact ⟨by rw [HRES.out]; rfl, hE1⟩
      · have e1 : k = n := by omega
        subst e1
        have HRES := Lib.hid (sameL_all (HL.out.1.trans HL.out.2.symm) (fun j hj => HA.out j (by rw [← HL.out.1]; exact hj)))
        go_wp2
        go_ret
        exact ⟨by rw [HRES.out]; rfl, hx⟩
  · have hres : sameL xs bs = false := sameL_len (by rw [hr.1, hr'.1]; exact hnn)
    rw [hres]
    have hne : ((n : Int) != (n' : Int)) = true := by simp; omega
    clear hres hr hr' hwa hwb
    go_enter Try.func80, Try.ntmps80
    go_wp2
    go_ret
    exact ⟨rfl, Ext.refl _⟩
set_option maxHeartbeats 1000000 in
theorem EqualFunc_any (A A' : Option Addr) (n n' c c' : Nat) (xs bs : List Nat) (U : World) (hn : n ≤ maxLen) (hn' : n' ≤ maxLen) (hr : Reads U A n xs) (hr' : Reads U A' n' bs) (hwa : Words xs) (hwb : Words bs) :
    Calls Try.prog 94 #[.slice A n c, .slice A' n' c', .func (.func 95) #[] #[]] U fun e U' => e = .returned (.bool (sameL xs bs)) ∧ Ext U U' := by
  unfold maxLen at hn hn'
  by_cases hnn : n = n'
  · subst hnn
    have hl1 : xs.length = n := hr.1
    have hl2 : bs.length = n := hr'.1
    have HL := Lib.hid (show xs.length = n ∧ bs.length = n from ⟨hl1, hl2⟩)
    have HR := Lib.hid hr
    have HR' := Lib.hid hr'
    have HWA := Lib.hid hwa
    have HWB := Lib.hid hwb
    have hE := Ext.refl U
    clear hl1 hl2 hr hr' hwa hwb hn'
    go_enter Try.func94, Try.ntmps94
    go_wp2_with fail
    go_loopw [17] (fun i wr => ∃ k : Nat, k ≤ n ∧ i = .int .i64 k ∧ (∀ j, j < k → nrm (xs.getD j 0) = nrm (bs.getD j 0)) ∧ Ext U wr) (fun i _ => n - (intOf i).toNat)
    case atStart => exact ⟨0, Nat.zero_le _, rfl, fun j hj => by omega, hE⟩
    case round =>
      obtain ⟨k, hk, rfl, hall, hx⟩ := hrel
      have HA := Lib.hid hall
      clear hall
      by_cases hlt : k < n
      · obtain ⟨g, off, rfl, hl⟩ := HR.out.2 (by omega)
        obtain ⟨g', off', rfl, hl'⟩ := HR'.out.2 (by omega)
        have hc := cell_ext (hl k (by rw [HL.out.1]; exact hlt)) hx
        have hc' := cell_ext (hl' k (by rw [HL.out.2]; exact hlt)) hx
        clear hl hl'
        have hwx := word_at HWA.out k
        have hwy := word_at HWB.out k
        obtain ⟨x, hxx⟩ : ∃ x, xs.getD k 0 = x := ⟨_, rfl⟩
        obtain ⟨y, hyy⟩ : ∃ y, bs.getD k 0 = y := ⟨_, rfl⟩
        rw [hxx] at hc hwx
        rw [hyy] at hc' hwy
        have HXY := Lib.hid (show xs.getD k 0 = x ∧ bs.getD k 0 = y from ⟨hxx, hyy⟩)
        clear hxx hyy
        have hk0 : (0 : Int) ≤ (k : Int) := by omega
        have hk1 : (k : Int) < (n : Int) := by omega
        by_cases hs : nrm x = nrm y
        · have hv : decide (nrm x = nrm y) = true := by simpa using hs
          have HV := Lib.hid hv
          have HS := Lib.hid hs
          clear hv hs
          go_wp2_with (go_at_call 95; refine (implSame_of x y true HV.out _).mono ?_; rintro e w' ⟨rfl, rfl⟩)
          have hE1 := hx
          go_roundw
          case rel => exact ⟨k + 1, by omega, by go_num, fun j hj => by
            rcases Nat.lt_or_ge j k with h | h
            · exact HA.out j h
            · have : j = k := by omega
              subst this; rw [HXY.out.1, HXY.out.2]; exact HS.out, hE1⟩
          case measure => simp [intOf]; omega
        · have hv : decide (nrm x = nrm y) = false := by simpa using hs
          have HV := Lib.hid hv
          have hres : sameL xs bs = false := sameL_at k (by rw [HL.out.1]; exact hlt) (by rw [HL.out.2]; exact hlt) (by rw [HXY.out.1, HXY.out.2]; exact hs)
          have HRES := Lib.hid hres
          clear hv hs hres
          go_wp2_with (go_at_call 95; refine (implSame_of x y false HV.out _).mono ?_; rintro e w' ⟨rfl, rfl⟩)
          have hE1 := hx
          go_ret
          exact ⟨by rw [HRES.out]; rfl, hE1⟩
      · have e1 : k = n := by omega
        subst e1
        have HRES := Lib.hid (sameL_all (HL.out.1.trans HL.out.2.symm) (fun j hj => HA.out j (by rw [← HL.out.1]; exact hj)))
        go_wp2
        go_ret
        exact ⟨by rw [HRES.out]; rfl, hx⟩
  · have hres : sameL xs bs = false := sameL_len (by rw [hr.1, hr'.1]; exact hnn)
    rw [hres]
    have hne : ((n : Int) != (n' : Int)) = true := by simp; omega
    clear hres hr hr' hwa hwb
    go_enter Try.func94, Try.ntmps94
    go_wp2
    go_ret
    exact ⟨rfl, Ext.refl _⟩
theorem sameList_any (A A' : Option Addr) (n n' c c' : Nat) (xs bs : List Nat) (U : World) (hn : n ≤ maxLen) (hn' : n' ≤ maxLen) (hr : Reads U A n xs) (hr' : Reads U A' n' bs) (hwa : Words xs) (hwb : Words bs) :
    Calls Try.prog 81 #[.slice A n c, .slice A' n' c'] U fun e U' => e = .returned (.bool (sameL xs bs)) ∧ Ext U U' := by
  have HC := Lib.hid (EqualFunc_any A A' n n' c c' xs bs U hn hn' hr hr' hwa hwb)
  generalize sameL xs bs = v at HC ⊢
  clear hr hr' hwa hwb hn hn'
  go_enter Try.func81, Try.ntmps81
  go_wp2_with fail
  refine HC.out.mono ?_
  rintro e w1 ⟨rfl, hx⟩
  go_wp2
  go_ret
  exact ⟨rfl, hx⟩
end Go.Proofs.Ythcpnbjlgbobaaa
