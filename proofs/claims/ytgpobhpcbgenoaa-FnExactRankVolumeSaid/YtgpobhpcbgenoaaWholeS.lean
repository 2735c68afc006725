/- Contracts: whether a map is whole for a volume, as the reference asks. -/
import Derived.Test.YtgpobhpcbgenoaaIsWhole
namespace Go.Proofs.Ytgpobhpcbgenoaa
open Go.RowKit
set_option linter.unusedVariables false

theorem wd_at2 {bs : List Nat} (h : Words bs) (i : Nat) : bs.getD i 0 < 4294967296 := by
  rw [List.getD_eq_getElem?_getD]
  cases hb : bs[i]? with
  | none => decide
  | some b => exact h b (List.mem_of_getElem? hb)
theorem all_false {bs : List Nat} {p : Nat → Bool} {v : Nat} (hv : v ∈ bs) (h : p v = false) : bs.all p = false := by
  cases ha : bs.all p with
  | false => rfl
  | true =>
    have := List.all_eq_true.1 ha v hv
    rw [h] at this; cases this
theorem prod2 {w h : Int} (hs : Sz w h) : IntKind.i64.wrap (w * h) = w * h := by
  have h1 := hs.1
  have h2 := hs.2.2.1
  have h3 := hs.2.2.2.2
  have h4 : 0 < w * h := Int.mul_pos (by omega) (by omega)
  exact wrap_small _ (by omega) (by omega)
set_option maxHeartbeats 2000000 in
theorem l04Whole_no1 (g g' : Nat) (z0 z1 z2 : Int) (A0 : Option Addr) (n0 m0 : Nat) (y0 y1 : Int) (A1 : Option Addr) (n1 m1 : Nat) (hn0 : n0 ≤ maxLen) (U : World) (hB : Box4 U g (.int .i64 z0) (.int .i64 z1) (.int .i64 z2) (.slice A0 n0 m0)) (hB' : Box3 U g' (.int .i64 y0) (.int .i64 y1) (.slice A1 n1 m1)) (hv : ¬ VVol z0 z1 z2 n0) :
    Calls Try.prog 47 #[.pointer (some ⟨g, 0, none⟩), .pointer (some ⟨g', 0, none⟩)] U fun e U' => e = .returned (.bool false) ∧ Ext U U' := by
  have H1 := Lib.hid (fun (W : World) (hx : Ext U W) => (let b := hB.ext hx; l03Is_not g z0 z1 z2 A0 n0 m0 W hn0 b.1 b.2.1 b.2.2.1 b.2.2.2 hv))
  obtain ⟨p0, p1, p2, p3⟩ := hB
  obtain ⟨q0, q1, q2⟩ := hB'
  clear hv
  go_enter Try.func47, Try.ntmps47
  go_wp2_with fail
  refine region_wx0 [] (by kernel_rfl) (by kernel_rfl) ?_
  repeat ((first | refine wx_skip rfl ?_ | refine wx_nilCheck rfl rfl _ rfl _ rfl ?_ | (refine wx_float rfl rfl _ _ _ _ _ _ _ rfl rfl rfl rfl ?_; intro r hr) | (refine wx_k rfl rfl rfl (fun K hK => ?_); go_big_quiet_op; refine hK _ ?_; clear hK K) | (refine wx_call rfl rfl 85 _ _ rfl (by kernel_rfl) (by kernel_rfl) (.bool false) (fun W hW hF => ?_) ?_; go_simp; (with_reducible refine (H1.out W hW).mono ?_); rintro e w' h; exact h)); (try simp only [Act.put, List.setIfInBounds_toArray, List.set_cons_zero, List.set_cons_succ]); (try simp only [List.tail_nil]))
  refine wx_nil (fun W hW hF => ?_)
  go_wp2
  go_ret
  exact ⟨rfl, hW⟩
set_option maxHeartbeats 2000000 in
theorem l04Whole_no2 (g g' : Nat) (z0 z1 z2 : Int) (A0 : Option Addr) (n0 m0 : Nat) (y0 y1 : Int) (A1 : Option Addr) (n1 m1 : Nat) (hn0 : n0 ≤ maxLen) (U : World) (hB : Box4 U g (.int .i64 z0) (.int .i64 z1) (.int .i64 z2) (.slice A0 n0 m0)) (hB' : Box3 U g' (.int .i64 y0) (.int .i64 y1) (.slice A1 n1 m1)) (hv : VVol z0 z1 z2 n0) (hne : ¬ y0 = z0) :
    Calls Try.prog 47 #[.pointer (some ⟨g, 0, none⟩), .pointer (some ⟨g', 0, none⟩)] U fun e U' => e = .returned (.bool false) ∧ Ext U U' := by
  have H1 := Lib.hid (fun (W : World) (hx : Ext U W) => (let b := hB.ext hx; l03Is_yes g z0 z1 z2 A0 n0 m0 W hn0 b.1 b.2.1 b.2.2.1 b.2.2.2 hv))
  have hnb : (y0 != z0) = true := by simpa using hne
  clear hne
  obtain ⟨p0, p1, p2, p3⟩ := hB
  obtain ⟨q0, q1, q2⟩ := hB'
  clear hv
  go_enter Try.func47, Try.ntmps47
  go_wp2_with fail
  refine region_wx0 [] (by kernel_rfl) (by kernel_rfl) ?_
  repeat ((first | refine wx_skip rfl ?_ | refine wx_nilCheck rfl rfl _ rfl _ rfl ?_ | (refine wx_float rfl rfl _ _ _ _ _ _ _ rfl rfl rfl rfl ?_; intro r hr) | (refine wx_k rfl rfl rfl (fun K hK => ?_); go_big_quiet_op; refine hK _ ?_; clear hK K) | (refine wx_call rfl rfl 85 _ _ rfl (by kernel_rfl) (by kernel_rfl) (.bool true) (fun W hW hF => ?_) ?_; go_simp; (with_reducible refine (H1.out W hW).mono ?_); rintro e w' h; exact h)); (try simp only [Act.put, List.setIfInBounds_toArray, List.set_cons_zero, List.set_cons_succ]); (try simp only [List.tail_nil]))
  refine wx_nil (fun W hW hF => ?_)
  go_wp2
  go_ret
  exact ⟨rfl, hW⟩
set_option maxHeartbeats 2000000 in
theorem l04Whole_no3 (g g' : Nat) (z0 z1 z2 : Int) (A0 : Option Addr) (n0 m0 : Nat) (y0 y1 : Int) (A1 : Option Addr) (n1 m1 : Nat) (hn0 : n0 ≤ maxLen) (U : World) (hB : Box4 U g (.int .i64 z0) (.int .i64 z1) (.int .i64 z2) (.slice A0 n0 m0)) (hB' : Box3 U g' (.int .i64 y0) (.int .i64 y1) (.slice A1 n1 m1)) (hv : VVol z0 z1 z2 n0) (he : y0 = z0) (hne : ¬ y1 = z1) :
    Calls Try.prog 47 #[.pointer (some ⟨g, 0, none⟩), .pointer (some ⟨g', 0, none⟩)] U fun e U' => e = .returned (.bool false) ∧ Ext U U' := by
  have H1 := Lib.hid (fun (W : World) (hx : Ext U W) => (let b := hB.ext hx; l03Is_yes g z0 z1 z2 A0 n0 m0 W hn0 b.1 b.2.1 b.2.2.1 b.2.2.2 hv))
  have heb : (y0 != z0) = false := by simpa using he
  have hnb : (y1 != z1) = true := by simpa using hne
  clear he hne
  obtain ⟨p0, p1, p2, p3⟩ := hB
  obtain ⟨q0, q1, q2⟩ := hB'
  clear hv
  go_enter Try.func47, Try.ntmps47
  go_wp2_with fail
  refine region_wx0 [] (by kernel_rfl) (by kernel_rfl) ?_
  repeat ((first | refine wx_skip rfl ?_ | refine wx_nilCheck rfl rfl _ rfl _ rfl ?_ | (refine wx_float rfl rfl _ _ _ _ _ _ _ rfl rfl rfl rfl ?_; intro r hr) | (refine wx_k rfl rfl rfl (fun K hK => ?_); go_big_quiet_op; refine hK _ ?_; clear hK K) | (refine wx_call rfl rfl 85 _ _ rfl (by kernel_rfl) (by kernel_rfl) (.bool true) (fun W hW hF => ?_) ?_; go_simp; (with_reducible refine (H1.out W hW).mono ?_); rintro e w' h; exact h)); (try simp only [Act.put, List.setIfInBounds_toArray, List.set_cons_zero, List.set_cons_succ]); (try simp only [List.tail_nil]))
  refine wx_nil (fun W hW hF => ?_)
  go_wp2
  go_ret
  exact ⟨rfl, hW⟩
set_option maxHeartbeats 2000000 in
theorem l04Whole_no4 (g g' : Nat) (z0 z1 z2 : Int) (A0 : Option Addr) (n0 m0 : Nat) (y0 y1 : Int) (A1 : Option Addr) (n1 m1 : Nat) (hn0 : n0 ≤ maxLen) (U : World) (hB : Box4 U g (.int .i64 z0) (.int .i64 z1) (.int .i64 z2) (.slice A0 n0 m0)) (hB' : Box3 U g' (.int .i64 y0) (.int .i64 y1) (.slice A1 n1 m1)) (hv : VVol z0 z1 z2 n0) (he : y0 = z0) (he2 : y1 = z1) (hne : ¬ (n1 : Int) = z0 * z1) :
    Calls Try.prog 47 #[.pointer (some ⟨g, 0, none⟩), .pointer (some ⟨g', 0, none⟩)] U fun e U' => e = .returned (.bool false) ∧ Ext U U' := by
  have H1 := Lib.hid (fun (W : World) (hx : Ext U W) => (let b := hB.ext hx; l03Is_yes g z0 z1 z2 A0 n0 m0 W hn0 b.1 b.2.1 b.2.2.1 b.2.2.2 hv))
  have heb : (y0 != z0) = false := by simpa using he
  have heb2 : (y1 != z1) = false := by simpa using he2
  have hp := prod2 hv.1
  have hnb : ((n1 : Int) != z0 * z1) = true := by simpa using hne
  clear he he2 hne
  obtain ⟨p0, p1, p2, p3⟩ := hB
  obtain ⟨q0, q1, q2⟩ := hB'
  clear hv
  go_enter Try.func47, Try.ntmps47
  go_wp2_with fail
  refine region_wx0 [] (by kernel_rfl) (by kernel_rfl) ?_
  repeat ((first | refine wx_skip rfl ?_ | refine wx_nilCheck rfl rfl _ rfl _ rfl ?_ | (refine wx_float rfl rfl _ _ _ _ _ _ _ rfl rfl rfl rfl ?_; intro r hr) | (refine wx_k rfl rfl rfl (fun K hK => ?_); go_big_quiet_op; refine hK _ ?_; clear hK K) | (refine wx_call rfl rfl 85 _ _ rfl (by kernel_rfl) (by kernel_rfl) (.bool true) (fun W hW hF => ?_) ?_; go_simp; (with_reducible refine (H1.out W hW).mono ?_); rintro e w' h; exact h)); (try simp only [Act.put, List.setIfInBounds_toArray, List.set_cons_zero, List.set_cons_succ]); (try simp only [List.tail_nil]))
  refine wx_nil (fun W hW hF => ?_)
  go_wp2
  go_ret
  exact ⟨rfl, hW⟩
theorem l04Whole_no (g g' : Nat) (z0 z1 z2 : Int) (A0 : Option Addr) (n0 m0 : Nat) (y0 y1 : Int) (A1 : Option Addr) (n1 m1 : Nat) (hn0 : n0 ≤ maxLen) (U : World) (hB : Box4 U g (.int .i64 z0) (.int .i64 z1) (.int .i64 z2) (.slice A0 n0 m0)) (hB' : Box3 U g' (.int .i64 y0) (.int .i64 y1) (.slice A1 n1 m1)) (hno : ¬ Wok z0 z1 z2 n0 y0 y1 n1) :
    Calls Try.prog 47 #[.pointer (some ⟨g, 0, none⟩), .pointer (some ⟨g', 0, none⟩)] U fun e U' => e = .returned (.bool false) ∧ Ext U U' := by
  by_cases hv : VVol z0 z1 z2 n0
  · by_cases h0 : y0 = z0
    · by_cases h1 : y1 = z1
      · exact l04Whole_no4 g g' z0 z1 z2 A0 n0 m0 y0 y1 A1 n1 m1 hn0 U hB hB' hv h0 h1 (fun h => hno ⟨hv, ⟨by rw [h0, h1]; exact hv.1, by rw [h0, h1]; exact h⟩, h0.symm, h1.symm⟩)
      · exact l04Whole_no3 g g' z0 z1 z2 A0 n0 m0 y0 y1 A1 n1 m1 hn0 U hB hB' hv h0 h1
    · exact l04Whole_no2 g g' z0 z1 z2 A0 n0 m0 y0 y1 A1 n1 m1 hn0 U hB hB' hv h0
  · exact l04Whole_no1 g g' z0 z1 z2 A0 n0 m0 y0 y1 A1 n1 m1 hn0 U hB hB' hv
set_option maxHeartbeats 4000000 in
set_option maxRecDepth 8000 in
theorem l04Whole_yes (g g' wn hn dn : Nat) (A0 : Option Addr) (n0 m0 : Nat) (gb off n1 m1 : Nat) (bs : List Nat) (hn0 : n0 ≤ maxLen) (hn1 : n1 ≤ maxLen) (hv : VVol wn hn dn n0) (hm : VMap wn hn n1) (U : World) (hB : Box4 U g (.int .i64 wn) (.int .i64 hn) (.int .i64 dn) (.slice A0 n0 m0)) (hB' : Box3 U g' (.int .i64 wn) (.int .i64 hn) (.slice (some ⟨gb, off, none⟩) n1 m1)) (hl : Lies U gb off bs) (hlen : bs.length = n1) (hw : Words bs) :
    Calls Try.prog 47 #[.pointer (some ⟨g, 0, none⟩), .pointer (some ⟨g', 0, none⟩)] U fun e U' => e = .returned (.bool (bs.all (whole dn))) ∧ Ext U U' := by
  have hd8 : dn ≤ 8 := by have := hv.2.2.1; omega
  have hd0 : 0 < dn := by have := hv.2.1; omega
  have H1 := Lib.hid (fun (W : World) (hx : Ext U W) => (let b := hB.ext hx; l03Is_yes g wn hn dn A0 n0 m0 W hn0 b.1 b.2.1 b.2.2.1 b.2.2.2 hv))
  have hp : IntKind.i64.wrap ((wn : Int) * (hn : Int)) = (n1 : Int) := (prod2 hv.1).trans hm.2.symm
  obtain ⟨d1, hd1⟩ : ∃ d1 : Nat, dn - 1 = d1 := ⟨_, rfl⟩
  have hw1 : IntKind.i64.wrap ((dn : Int) - 1) = (d1 : Int) := by rw [show (dn : Int) - 1 = (d1 : Int) by omega]; exact wrap_small _ (by omega) (by omega)
  have hc1 := kW_conv (k := d1) (by omega)
  obtain ⟨q1w, hq1⟩ : ∃ q, kW d1 = q := ⟨_, rfl⟩
  rw [hq1] at hc1
  have HL := Lib.hid hl
  have HLEN := Lib.hid hlen
  have HWD := Lib.hid hw
  have HB := Lib.hid hB
  have HB2 := Lib.hid hB'
  have ⟨p0, p1, p2, p3⟩ := hB
  have ⟨q0, q1, q2⟩ := hB'
  have HGE := Lib.hid (fun (x : Nat) (hx : x < 4294967296) (h : whole dn x = true) => (by have := whole_ge hx hd0 hd8 h; rw [hd1, hq1] at this; exact this : geF x 0 = true ∧ gtF x q1w = false))
  have HTR := Lib.hid (fun (x : Nat) (hx : x < 4294967296) (hg : geF x 0 = true) (h : gtF x q1w = false) => ge_trunc hx hd0 hd8 hg (by rw [hd1, hq1]; exact h))
  have hnm : n1 ≤ 256 := by have h1 := hm.1.2.2.2.2; have h2 := hm.2; omega
  clear hv hm hB hB' hl hlen hw hq1
  go_enter Try.func47, Try.ntmps47
  go_wp2_with fail
  refine region_wx0 [] (by kernel_rfl) (by kernel_rfl) ?_
  repeat ((first | refine wx_skip rfl ?_ | refine wx_nilCheck rfl rfl _ rfl _ rfl ?_ | (refine wx_float rfl rfl _ _ _ _ _ _ _ rfl rfl rfl rfl ?_; intro r hr) | (refine wx_k rfl rfl rfl (fun K hK => ?_); go_big_quiet_op; refine hK _ ?_; clear hK K) | (refine wx_call rfl rfl 85 _ _ rfl (by kernel_rfl) (by kernel_rfl) (.bool true) (fun W hW hF => ?_) ?_; go_simp; (with_reducible refine (H1.out W hW).mono ?_); rintro e w' h; exact h)); (try simp only [Act.put, List.setIfInBounds_toArray, List.set_cons_zero, List.set_cons_succ]); (try simp only [List.tail_nil]))
  refine wx_nil (fun W hW hF => ?_)
  clear p0 p1 p2 p3 q0 q1 q2 hF
  go_wp2_with fail
  go_loopw [5] (fun iv wr => ∃ i : Nat, i ≤ n1 ∧ iv = .int .i64 i ∧ (∀ j, j < i → whole dn (bs.getD j 0) = true) ∧ Ext U wr) (fun iv _ => n1 - (intOf iv).toNat)
  case atStart => exact ⟨0, Nat.zero_le _, rfl, fun j hj => absurd hj (Nat.not_lt_zero _), hW⟩
  case round =>
    clear hW
    obtain ⟨i, hi, rfl, hall, hE⟩ := hrel
    have ⟨p0, p1, p2, p3⟩ := HB.out.ext hE
    have ⟨q0, q1, q2⟩ := HB2.out.ext hE
    by_cases hlt : i < n1
    · have hc := (HL.out.ext hE) i (by rw [HLEN.out]; exact hlt)
      have hwd := wd_at2 HWD.out i
      have hk0 : (0 : Int) ≤ (i : Int) := by omega
      have hk1 : (i : Int) < (n1 : Int) := by omega
      obtain ⟨v, hv⟩ : ∃ v, bs.getD i 0 = v := ⟨_, rfl⟩
      rw [hv] at hc hwd
      have HV := Lib.hid hv
      have HALL := Lib.hid hall
      have hmem : v ∈ bs := by
        rw [← hv, List.getD_eq_getElem?_getD, List.getElem?_eq_getElem (by rw [HLEN.out]; exact hlt)]
        exact List.getElem_mem _
      have HFALSE := Lib.hid (fun (h : whole dn v = false) => all_false hmem h)
      clear hmem
      clear hv hall
      cases hg : geF v 0 with
      | false =>
        have hwf : whole dn v = false := by cases h : whole dn v with | false => rfl | true => (have := (HGE.out v hwd h).1; rw [hg] at this; cases this)
        have hg' : (FloatKind.f32.format.order v 0 == some .gt || FloatKind.f32.format.order v 0 == some .eq) = false := hg
        have hres := HFALSE.out hwf
        clear hg hwf
        go_wp2
        go_ret
        exact ⟨by rw [hres]; rfl, hE⟩
      | true =>
        have hg' : (FloatKind.f32.format.order v 0 == some .gt || FloatKind.f32.format.order v 0 == some .eq) = true := hg
        cases hgt : gtF v q1w with
        | true =>
          have hwf : whole dn v = false := by cases h : whole dn v with | false => rfl | true => (have := (HGE.out v hwd h).2; rw [hgt] at this; cases this)
          have hgt' : (FloatKind.f32.format.order v q1w == some .gt) = true := hgt
          have hres := HFALSE.out hwf
          clear hg hgt hwf
          go_wp2
          go_ret
          exact ⟨by rw [hres]; rfl, hE⟩
        | false =>
          have hgt' : (FloatKind.f32.format.order v q1w == some .gt) = false := hgt
          obtain ⟨hf, ht, hti, hwi⟩ := HTR.out v hwd hg hgt
          obtain ⟨t, htt⟩ : ∃ t, vmag v / G74 = t := ⟨_, rfl⟩
          rw [htt] at ht hti hwi
          have hci := fun w' => run_convert_float_int (P := Try.prog) (w := w') 25 2 .f32 .i64 v t (by rw [Try.underlying25]; rfl) Try.underlying2 hti
          have hct := kW_conv (k := t) (by omega)
          obtain ⟨qt, hqt⟩ : ∃ q, kW t = q := ⟨_, rfl⟩
          rw [hqt] at hct hwi
          clear hg hgt htt hti hqt hf ht
          cases he : (fcmp v qt == some .eq) with
          | true =>
            have he' : (FloatKind.f32.format.order v qt != some .eq) = false := by
              show (fcmp v qt != some .eq) = false
              unfold bne; rw [he]; rfl
            have hwt : whole dn v = true := hwi.1 (by simpa using he)
            clear he hwi HFALSE
            go_wp2
            go_roundw
            case rel => exact ⟨i + 1, by omega, by go_num, fun j hj => by
              rcases Nat.lt_or_eq_of_le (Nat.le_of_lt_succ hj) with h | h
              · exact HALL.out j h
              · subst h; rw [HV.out]; exact hwt, hE⟩
            case measure => simp [intOf]; omega
          | false =>
            have he' : (FloatKind.f32.format.order v qt != some .eq) = true := by
              show (fcmp v qt != some .eq) = true
              unfold bne; rw [he]; rfl
            have hwf : whole dn v = false := by cases h : whole dn v with | false => rfl | true => (have := hwi.2 h; simp [this] at he)
            have hres := HFALSE.out hwf
            clear he hwi hwf
            go_wp2
            go_ret
            exact ⟨by rw [hres]; rfl, hE⟩
    · have e1 : i = n1 := by omega
      have hres : bs.all (whole dn) = true := by
        rw [List.all_eq_true]
        intro x hx
        obtain ⟨j, hj, rfl⟩ := List.getElem_of_mem hx
        have := hall j (by rw [e1, ← HLEN.out]; exact hj)
        rwa [List.getD_eq_getElem?_getD, List.getElem?_eq_getElem hj] at this
      clear hall
      go_wp2
      go_ret
      exact ⟨by rw [hres]; rfl, hE⟩
end Go.Proofs.Ytgpobhpcbgenoaa
