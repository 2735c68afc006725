/- The law on SharpAt holds. -/
import Derived.Test.YtcekofioiofjbaaWin
import Derived.Test.YtcekofioiofjbaaVolOf
import Derived.Test.YtcekofioiofjbaaCSharpAt
namespace Go.Proofs.Ytcekofioiofjbaa
open Go.RowKit
set_option linter.unusedVariables false

/-- The winner between disparities. -/
def shE (a b c : Nat) : Nat := fop .add (fop .sub a b) (fop .sub c b)
def shQ (a b c : Nat) : Nat := fop .quo (fop .sub a c) (shE a b c)
def shV (d a b c : Nat) : Nat := if geF (shQ a b c) 3212836864 = true ∧ leF (shQ a b c) 1065353216 = true then fop .add (floatOfInt .f32 (d : Int)) (fop .mul 1056964608 (shQ a b c)) else floatOfInt .f32 (d : Int)
def sharpX (F : Nat → Nat) (n : Nat) : Nat :=
  if winTo F (-1) n ≤ 0 ∨ winTo F (-1) n = (n : Int) - 1 then floatOfInt .f32 (winTo F (-1) n)
  else shV (winTo F (-1) n).toNat (F ((winTo F (-1) n).toNat - 1)) (F (winTo F (-1) n).toNat) (F ((winTo F (-1) n).toNat + 1))
theorem shQ_is {a b c r1 r2 r3 r4 q : Nat} (ha : a < 4294967296) (hb : b < 4294967296) (hc : c < 4294967296) (h1 : Is r1 (fop .sub a b)) (h2 : Is r2 (fop .sub c b)) (h3 : Is r3 (fop .add r1 r2)) (h4 : Is r4 (fop .sub a c)) (h5 : Is q (fop .quo r4 r3)) : Is q (shQ a b c) :=
  Is.op h4 (Is.op h1 h2 h3) h5
theorem sh_ge {q Q : Nat} (h : Is q Q) : (FloatKind.f32.format.order q 3212836864 == some .gt || FloatKind.f32.format.order q 3212836864 == some .eq) = geF Q 3212836864 := by
  rw [Is.cmp h (⟨by omega, by decide +kernel⟩ : Is 3212836864 3212836864)]; rfl
theorem sh_le {q Q : Nat} (h : Is q Q) : (FloatKind.f32.format.order q 1065353216 == some .lt || FloatKind.f32.format.order q 1065353216 == some .eq) = leF Q 1065353216 := by
  rw [Is.cmp h (⟨by omega, by decide +kernel⟩ : Is 1065353216 1065353216)]; rfl
theorem half_is : Is 1056964608 1056964608 := ⟨by omega, by decide +kernel⟩
theorem ofInt_is (n : Int) : Is (floatOfInt .f32 n) (floatOfInt .f32 n) := ⟨ofInt_lt _, nrm_of _ (isN_ofInt _)⟩
set_option maxHeartbeats 2000000 in
set_option maxRecDepth 8000 in
theorem sharp_any (gb off n c : Nat) (F : Nat → Nat) (U : World) (hn : n ≤ 8) (hF : ∀ i, F i < 4294967296) (hl : ∀ i, i < n → U.cell? ⟨gb, off + i, none⟩ = some (fl (F i))) :
    Calls Try.prog 64 #[.slice (some ⟨gb, off, none⟩) n c] U fun e U' => ∃ r, e = .returned (.float .f32 r) ∧ Is r (sharpX F n) ∧ Ext U U' := by
  have hw1 := winner_any gb off n c F (-1) U hn hl
  have hrange := winTo_range F (-1) n
  by_cases hend : winTo F (-1) n ≤ 0 ∨ winTo F (-1) n = (n : Int) - 1
  · have hL : sharpX F n = floatOfInt .f32 (winTo F (-1) n) := by unfold sharpX; rw [if_pos hend]
    rw [hL]
    obtain ⟨d, hd⟩ : ∃ d, winTo F (-1) n = d := ⟨_, rfl⟩
    rw [hd] at hw1 hend hrange ⊢
    have HW1 := Lib.hid hw1
    have hwn : IntKind.i64.wrap ((n : Int) - 1) = (n : Int) - 1 := wrap_small _ (by omega) (by omega)
    by_cases h0 : d ≤ 0
    · clear hl hL hd hw1 hrange hend
      go_enter Try.func64, Try.ntmps64
      go_wp2_with (go_at_call 105; refine HW1.out.mono ?_; rintro e w' ⟨rfl, rfl⟩)
      go_ret
      exact ⟨_, rfl, ofInt_is _, Ext.refl _⟩
    · have h1 : (d == (n : Int) - 1) = true := by have := hend.resolve_left h0; simp [this]
      clear hl hL hd hw1 hrange hend
      go_enter Try.func64, Try.ntmps64
      go_wp2_with (go_at_call 105; refine HW1.out.mono ?_; rintro e w' ⟨rfl, rfl⟩)
      go_ret
      exact ⟨_, rfl, ofInt_is _, Ext.refl _⟩
  · obtain ⟨d, hd, hdn⟩ : ∃ b : Nat, winTo F (-1) n = (b : Int) ∧ b < n := by
      rcases hrange with h | h
      · exact absurd (Or.inl (by rw [h]; omega)) hend
      · exact h
    have hL : sharpX F n = shV d (F (d - 1)) (F d) (F (d + 1)) := by unfold sharpX; rw [if_neg hend, hd]; rfl
    rw [hL]
    rw [hd] at hw1 hend
    have hd1 : 1 ≤ d := by omega
    have hd2 : d + 1 < n := by omega
    have HW1 := Lib.hid hw1
    have hwn : IntKind.i64.wrap ((n : Int) - 1) = (n : Int) - 1 := wrap_small _ (by omega) (by omega)
    have hwa : IntKind.i64.wrap ((d : Int) - 1) = ((d - 1 : Nat) : Int) := by rw [show ((d - 1 : Nat) : Int) = (d : Int) - 1 by omega]; exact wrap_small _ (by omega) (by omega)
    have hwc : IntKind.i64.wrap ((d : Int) + 1) = ((d + 1 : Nat) : Int) := by rw [show ((d + 1 : Nat) : Int) = (d : Int) + 1 by omega]; exact wrap_small _ (by omega) (by omega)
    have h0 : ¬ (d : Int) ≤ 0 := by omega
    have h1 : ((d : Int) == (n : Int) - 1) = false := by simp; omega
    have ca := hl (d - 1) (by omega)
    have cb := hl d (by omega)
    have cc := hl (d + 1) (by omega)
    have wa := hF (d - 1)
    have wb := hF d
    have wc := hF (d + 1)
    generalize F (d - 1) = a at ca wa ⊢
    generalize F d = b at cb wb ⊢
    generalize F (d + 1) = cw at cc wc ⊢
    obtain ⟨dm, hdm⟩ : ∃ dm, d - 1 = dm := ⟨_, rfl⟩
    obtain ⟨dp, hdp⟩ : ∃ dp, d + 1 = dp := ⟨_, rfl⟩
    rw [hdm] at hwa ca
    rw [hdp] at hwc cc
    have i0 : (0 : Int) ≤ (dm : Int) := by omega
    have i1 : (dm : Int) < (n : Int) := by omega
    have i2 : (0 : Int) ≤ (d : Int) := by omega
    have i3 : (d : Int) < (n : Int) := by omega
    have i4 : (0 : Int) ≤ (dp : Int) := by omega
    have i5 : (dp : Int) < (n : Int) := by omega
    clear hl hL hd hw1 hrange hend hdm hdp hF
    go_enter Try.func64, Try.ntmps64
    go_wp2_with (go_at_call 105; refine HW1.out.mono ?_; rintro e w' ⟨rfl, rfl⟩)
    refine region_wx0 [] (by kernel_rfl) (by kernel_rfl) ?_
    repeat ((first | refine wx_skip rfl ?_ | refine wx_nilCheck rfl rfl _ rfl _ rfl ?_ | (refine wx_float rfl rfl _ _ _ _ _ _ _ rfl rfl rfl rfl ?_; intro r hr) | (refine wx_k rfl rfl rfl (fun K hK => ?_); go_big_quiet_op; refine hK _ ?_; clear hK K) ); (try simp only [Act.put, List.setIfInBounds_toArray, List.set_cons_zero, List.set_cons_succ]); (try simp only [List.tail_nil]))
    refine wx_nil (fun W hW hF => ?_)
    clear hF
    go_wp2_with fail
    · generalize hq : flR BinOp.quo _ _ _ = q at *
      have hQ : Is q (shQ a b cw) := by rw [← hq]; exact shQ_is wa wb wc (flR_is _ _ _ _) (flR_is _ _ _ _) (flR_is _ _ _ _) (flR_is _ _ _ _) (flR_is _ _ _ _)
      have hg := sh_ge hQ
      have hle := sh_le hQ
      rename_i h1 h2
      go_ret
      refine ⟨_, rfl, ?_, ?_⟩
      · unfold shV
        rw [if_pos ⟨by rw [← hg]; simpa using h1, by have h3 := h2; simp at h3; rw [← hle]; simpa using h3.2⟩]
        exact Is.op (ofInt_is _) (Is.op (half_is) hQ (flR_is _ _ _ _)) (flR_is _ _ _ _)
      · repeat (first | with_reducible exact hW | (with_reducible refine Ext.drewN ?_ _))
    · generalize hq : flR BinOp.quo _ _ _ = q at *
      have hQ : Is q (shQ a b cw) := by rw [← hq]; exact shQ_is wa wb wc (flR_is _ _ _ _) (flR_is _ _ _ _) (flR_is _ _ _ _) (flR_is _ _ _ _) (flR_is _ _ _ _)
      have hg := sh_ge hQ
      have hle := sh_le hQ
      rename_i h1 h2
      go_ret
      refine ⟨_, rfl, ?_, ?_⟩
      · unfold shV
        rw [if_neg (fun h => by have h3 := h.2; have h4 := h.1; rw [← hle] at h3; rw [← hg] at h4; simp at h3 h4 h2; rcases h2 with h2 | h2 <;> simp [h2.1, h2.2] at h3 h4)]
        exact ofInt_is _
      · repeat (first | with_reducible exact hW | (with_reducible refine Ext.drewN ?_ _))
    · generalize hq : flR BinOp.quo _ _ _ = q at *
      have hQ : Is q (shQ a b cw) := by rw [← hq]; exact shQ_is wa wb wc (flR_is _ _ _ _) (flR_is _ _ _ _) (flR_is _ _ _ _) (flR_is _ _ _ _) (flR_is _ _ _ _)
      have hg := sh_ge hQ
      rename_i h1
      go_ret
      refine ⟨_, rfl, ?_, ?_⟩
      · unfold shV
        rw [if_neg (fun h => by have h3 := h.1; rw [← hg] at h3; simp at h3 h1; rcases h3 with h3 | h3 <;> simp [h3] at h1)]
        exact ofInt_is _
      · repeat (first | with_reducible exact hW | (with_reducible refine Ext.drewN ?_ _))
set_option maxHeartbeats 2000000 in
set_option maxRecDepth 8000 in
theorem l05Sharp_any (g wn hn dn gb off n c : Nat) (bs : List Nat) (i : Nat) (U : World) (hB : Box4 U g (.int .i64 wn) (.int .i64 hn) (.int .i64 dn) (.slice (some ⟨gb, off, none⟩) n c)) (hl : Lies U gb off bs) (hlen : bs.length = n) (hwd : Words bs) (hcm : n ≤ 2048) (hin : i * dn + dn ≤ n) (hd8 : dn ≤ 8) :
    Calls Try.prog 61 #[.pointer (some ⟨g, 0, none⟩), .int .i64 i] U fun e U' => ∃ r, e = .returned (.float .f32 r) ∧ Is r (sharpX (fun e => bs.getD (i * dn + e) 0) dn) ∧ Ext U U' := by
  have hw1 := l03Winner_any g wn hn dn gb off n c bs i (-1) U hB hl hlen hcm hin hd8
  obtain ⟨m, hm⟩ : ∃ m, i * dn = m := ⟨_, rfl⟩
  have hD : IntKind.i64.wrap ((i : Int) * (dn : Int)) = (m : Int) := by
    rw [show (i : Int) * (dn : Int) = (m : Int) by rw [← hm]; simp]; exact wrap_small _ (by omega) (by omega)
  rw [hm] at hin hw1 ⊢
  have hF : ∀ e, bs.getD (m + e) 0 < 4294967296 := fun e => word_at hwd (m + e)
  have hl' : ∀ e, e < dn → U.cell? ⟨gb, off + (m + e), none⟩ = some (fl (bs.getD (m + e) 0)) := fun e he => hl (m + e) (by omega)
  have hwn : IntKind.i64.wrap ((dn : Int) - 1) = (dn : Int) - 1 := wrap_small _ (by omega) (by omega)
  obtain ⟨F, hF0⟩ : ∃ F : Nat → Nat, F = fun e => bs.getD (m + e) 0 := ⟨_, rfl⟩
  rw [← hF0] at hw1 ⊢
  have hF2 : ∀ e, F e < 4294967296 := fun e => by rw [hF0]; exact hF e
  have hl2 : ∀ e, e < dn → U.cell? ⟨gb, off + (m + e), none⟩ = some (fl (F e)) := fun e he => by rw [hF0]; exact hl' e he
  clear hF hl' hF0 hm hl hlen hwd
  have hrange := winTo_range F (-1) dn
  by_cases hend : winTo F (-1) dn ≤ 0 ∨ winTo F (-1) dn = (dn : Int) - 1
  · have hL : sharpX F dn = floatOfInt .f32 (winTo F (-1) dn) := by unfold sharpX; rw [if_pos hend]
    rw [hL]
    obtain ⟨d, hd⟩ : ∃ d, winTo F (-1) dn = d := ⟨_, rfl⟩
    rw [hd] at hw1 hend hrange ⊢
    have HW1 := Lib.hid hw1
    by_cases h0 : d ≤ 0
    · clear hL hd hw1 hrange hend hl2
      go_enter Try.func61, Try.ntmps61
      go_wp2_with fail
      refine HW1.out.mono ?_
      rintro e w1 ⟨rfl, hE⟩
      go_wp2
      go_ret
      exact ⟨_, rfl, ofInt_is _, hE⟩
    · have h1 : (d == (dn : Int) - 1) = true := by have := hend.resolve_left h0; simp [this]
      clear hL hd hw1 hrange hend hl2
      go_enter Try.func61, Try.ntmps61
      go_wp2_with fail
      refine HW1.out.mono ?_
      rintro e w1 ⟨rfl, hE⟩
      have ⟨p0, p1, p2, p3⟩ := hB.ext hE
      go_wp2
      go_ret
      exact ⟨_, rfl, ofInt_is _, hE⟩
  · obtain ⟨d, hd, hdn⟩ : ∃ b : Nat, winTo F (-1) dn = (b : Int) ∧ b < dn := by
      rcases hrange with h | h
      · exact absurd (Or.inl (by rw [h]; omega)) hend
      · exact h
    have hL : sharpX F dn = shV d (F (d - 1)) (F d) (F (d + 1)) := by unfold sharpX; rw [if_neg hend, hd]; rfl
    rw [hL]
    rw [hd] at hw1 hend
    have hd1 : 1 ≤ d := by omega
    have hd2 : d + 1 < dn := by omega
    have HW1 := Lib.hid hw1
    obtain ⟨ma, hma⟩ : ∃ j, m + (d - 1) = j := ⟨_, rfl⟩
    obtain ⟨mb, hmb⟩ : ∃ j, m + d = j := ⟨_, rfl⟩
    obtain ⟨mc, hmc⟩ : ∃ j, m + (d + 1) = j := ⟨_, rfl⟩
    have hwb : IntKind.i64.wrap ((m : Int) + (d : Int)) = (mb : Int) := by rw [show (m : Int) + (d : Int) = (mb : Int) by omega]; exact wrap_small _ (by omega) (by omega)
    have hwa : IntKind.i64.wrap ((mb : Int) - 1) = (ma : Int) := by rw [show (mb : Int) - 1 = (ma : Int) by omega]; exact wrap_small _ (by omega) (by omega)
    have hwc : IntKind.i64.wrap ((mb : Int) + 1) = (mc : Int) := by rw [show (mb : Int) + 1 = (mc : Int) by omega]; exact wrap_small _ (by omega) (by omega)
    have h0 : ¬ (d : Int) ≤ 0 := by omega
    have h1 : ((d : Int) == (dn : Int) - 1) = false := by simp; omega
    have ca := hl2 (d - 1) (by omega)
    have cb := hl2 d (by omega)
    have cc := hl2 (d + 1) (by omega)
    have wa := hF2 (d - 1)
    have wb := hF2 d
    have wc := hF2 (d + 1)
    rw [hma] at ca
    rw [hmb] at cb
    rw [hmc] at cc
    generalize F (d - 1) = a at ca wa ⊢
    generalize F d = b at cb wb ⊢
    generalize F (d + 1) = cw at cc wc ⊢
    have i0 : (0 : Int) ≤ (ma : Int) := by omega
    have i1 : (ma : Int) < (n : Int) := by omega
    have i2 : (0 : Int) ≤ (mb : Int) := by omega
    have i3 : (mb : Int) < (n : Int) := by omega
    have i4 : (0 : Int) ≤ (mc : Int) := by omega
    have i5 : (mc : Int) < (n : Int) := by omega
    clear hL hd hw1 hrange hend hma hmb hmc hF2 hl2 hd1 hd2 hdn hin
    go_enter Try.func61, Try.ntmps61
    go_wp2_with fail
    refine HW1.out.mono ?_
    rintro e w1 ⟨rfl, hE⟩
    have ⟨p0, p1, p2, p3⟩ := hB.ext hE
    replace ca := cell_ext ca hE
    replace cb := cell_ext cb hE
    replace cc := cell_ext cc hE
    go_wp2_with fail
    refine region_wx0 [] (by kernel_rfl) (by kernel_rfl) ?_
    repeat ((first | refine wx_skip rfl ?_ | refine wx_nilCheck rfl rfl _ rfl _ rfl ?_ | (refine wx_float rfl rfl _ _ _ _ _ _ _ rfl rfl rfl rfl ?_; intro r hr) | (refine wx_k rfl rfl rfl (fun K hK => ?_); go_big_quiet_op; refine hK _ ?_; clear hK K) ); (try simp only [Act.put, List.setIfInBounds_toArray, List.set_cons_zero, List.set_cons_succ]); (try simp only [List.tail_nil]))
    refine wx_nil (fun W hW hF => ?_)
    replace p0 := cell_ext p0 hW; replace p1 := cell_ext p1 hW; replace p2 := cell_ext p2 hW; replace p3 := cell_ext p3 hW; replace ca := cell_ext ca hW; replace cb := cell_ext cb hW; replace cc := cell_ext cc hW; replace hE := hE.trans hW; clear hW hF
    go_wp2_with fail
    refine region_wx0 [] (by kernel_rfl) (by kernel_rfl) ?_
    repeat ((first | refine wx_skip rfl ?_ | refine wx_nilCheck rfl rfl _ rfl _ rfl ?_ | (refine wx_float rfl rfl _ _ _ _ _ _ _ rfl rfl rfl rfl ?_; intro r hr) | (refine wx_k rfl rfl rfl (fun K hK => ?_); go_big_quiet_op; refine hK _ ?_; clear hK K) ); (try simp only [Act.put, List.setIfInBounds_toArray, List.set_cons_zero, List.set_cons_succ]); (try simp only [List.tail_nil]))
    refine wx_nil (fun W hW hF => ?_)
    replace p0 := cell_ext p0 hW; replace p1 := cell_ext p1 hW; replace p2 := cell_ext p2 hW; replace p3 := cell_ext p3 hW; replace ca := cell_ext ca hW; replace cb := cell_ext cb hW; replace cc := cell_ext cc hW; replace hE := hE.trans hW; clear hW hF
    go_wp2_with fail
    refine region_wx0 [] (by kernel_rfl) (by kernel_rfl) ?_
    repeat ((first | refine wx_skip rfl ?_ | refine wx_nilCheck rfl rfl _ rfl _ rfl ?_ | (refine wx_float rfl rfl _ _ _ _ _ _ _ rfl rfl rfl rfl ?_; intro r hr) | (refine wx_k rfl rfl rfl (fun K hK => ?_); go_big_quiet_op; refine hK _ ?_; clear hK K) ); (try simp only [Act.put, List.setIfInBounds_toArray, List.set_cons_zero, List.set_cons_succ]); (try simp only [List.tail_nil]))
    refine wx_nil (fun W hW hF => ?_)
    replace p0 := cell_ext p0 hW; replace p1 := cell_ext p1 hW; replace p2 := cell_ext p2 hW; replace p3 := cell_ext p3 hW; replace ca := cell_ext ca hW; replace cb := cell_ext cb hW; replace cc := cell_ext cc hW; replace hE := hE.trans hW; clear hW hF
    go_wp2_with fail
    · generalize hq : flR BinOp.quo _ _ _ = q at *
      have hQ : Is q (shQ a b cw) := by rw [← hq]; exact shQ_is wa wb wc (flR_is _ _ _ _) (flR_is _ _ _ _) (flR_is _ _ _ _) (flR_is _ _ _ _) (flR_is _ _ _ _)
      have hg := sh_ge hQ
      have hle := sh_le hQ
      rename_i h1 h2
      go_ret
      refine ⟨_, rfl, ?_, ?_⟩
      · unfold shV
        rw [if_pos ⟨by rw [← hg]; simpa using h1, by have h3 := h2; simp at h3; rw [← hle]; simpa using h3.2⟩]
        exact Is.op (ofInt_is _) (Is.op (half_is) hQ (flR_is _ _ _ _)) (flR_is _ _ _ _)
      · repeat (first | with_reducible exact hE | (with_reducible refine Ext.drewN ?_ _))
    · generalize hq : flR BinOp.quo _ _ _ = q at *
      have hQ : Is q (shQ a b cw) := by rw [← hq]; exact shQ_is wa wb wc (flR_is _ _ _ _) (flR_is _ _ _ _) (flR_is _ _ _ _) (flR_is _ _ _ _) (flR_is _ _ _ _)
      have hg := sh_ge hQ
      have hle := sh_le hQ
      rename_i h1 h2
      go_ret
      refine ⟨_, rfl, ?_, ?_⟩
      · unfold shV
        rw [if_neg (fun h => by have h3 := h.2; have h4 := h.1; rw [← hle] at h3; rw [← hg] at h4; simp at h3 h4 h2; rcases h2 with h2 | h2 <;> simp [h2.1, h2.2] at h3 h4)]
        exact ofInt_is _
      · repeat (first | with_reducible exact hE | (with_reducible refine Ext.drewN ?_ _))
    · generalize hq : flR BinOp.quo _ _ _ = q at *
      have hQ : Is q (shQ a b cw) := by rw [← hq]; exact shQ_is wa wb wc (flR_is _ _ _ _) (flR_is _ _ _ _) (flR_is _ _ _ _) (flR_is _ _ _ _) (flR_is _ _ _ _)
      have hg := sh_ge hQ
      rename_i h1
      go_ret
      refine ⟨_, rfl, ?_, ?_⟩
      · unfold shV
        rw [if_neg (fun h => by have h3 := h.1; rw [← hg] at h3; simp at h3 h1; rcases h3 with h3 | h3 <;> simp [h3] at h1)]
        exact ofInt_is _
      · repeat (first | with_reducible exact hE | (with_reducible refine Ext.drewN ?_ _))
set_option maxRecDepth 8000 in
theorem implSharpAt_yes (wn hn dn gb off n c : Nat) (bs : List Nat) (x y : Int) (U : World) (hl : Lies U gb off bs) (hlen : bs.length = n) (hwd : Words bs) (hnc : n ≤ c) (hcm : c ≤ maxLen) (hv : VVol wn hn dn n) (hx : 0 ≤ x ∧ x ≤ (wn : Int) - 1) (hy : 0 ≤ y ∧ y ≤ (hn : Int) - 1) :
    Calls Try.prog 24 #[.agg #[.int .i64 wn, .int .i64 hn, .int .i64 dn, .slice (some ⟨gb, off, none⟩) n c], .int .i64 x, .int .i64 y] U fun e' U' => ∃ r, e' = .returned (.tuple #[.float .f32 r, .bool true]) ∧ Is r (sharpX (fun e => bs.getD (cellN wn x y * dn + e) 0) dn) ∧ Ext U U' := by
  have HV := Lib.hid hv
  have HX := Lib.hid hx
  have HY := Lib.hid hy
  have hcn := Nat.le_trans hnc hcm
  have hw1 : IntKind.i64.wrap ((wn : Int) - 1) = (wn : Int) - 1 := wrap_small _ (by have := hv.1.1; omega) (by have := hv.1.2.1; omega)
  have hh1 : IntKind.i64.wrap ((hn : Int) - 1) = (hn : Int) - 1 := wrap_small _ (by have := hv.1.2.2.1; omega) (by have := hv.1.2.2.2.1; omega)
  have HSz := Lib.hid hv.1
  have hk := cell_k hv hx hy
  have hd8 : dn ≤ 8 := by have := hv.2.2.1; omega
  obtain ⟨k, hkk⟩ : ∃ k, cellN (wn : Int) x y * dn = k := ⟨_, rfl⟩
  have HC := Lib.hid (fun (W : World) (hb : Box4 W U.heap.size (.int .i64 wn) (.int .i64 hn) (.int .i64 dn) (.slice (some ⟨gb, off, none⟩) n c)) => (by have := cellC_any U.heap.size wn hn dn gb off n c x y W hb hnc hcm hv hx hy; rw [hkk] at this; exact this : Calls Try.prog 65 #[.pointer (some ⟨U.heap.size, 0, none⟩), .int .i64 x, .int .i64 y] W fun e U' => e = .returned (.slice (some ⟨gb, off + k, none⟩) dn dn) ∧ Ext W U'))
  rw [hkk] at hk ⊢
  have HS := Lib.hid (fun (W : World) (hx' : Ext U W) => sharp_any gb (off + k) dn dn (fun e => bs.getD (k + e) 0) W hd8 (fun i => wd_at hwd (k + i)) (fun i hi => by have := (hl.ext hx') (k + i) (by omega); rw [← Nat.add_assoc] at this; exact this))
  clear hv hx hy hwd hl hlen hkk hk hd8
  go_enter Try.func24, Try.ntmps24
  go_wp2_with fail
  refine calls_at (X := fun w' => Ext U w' ∧ Box4 w' U.heap.size (.int .i64 wn) (.int .i64 hn) (.int .i64 dn) (.slice (some ⟨gb, off, none⟩) n c)) ⟨(Ext.refl _).alloc _, by simp [go_sem], by simp [go_sem], by simp [go_sem], by simp [go_sem]⟩ ?_
  rintro w0 ⟨hx0, hb0⟩
  refine (ValidVolume_yes wn hn dn _ n c _ hcn HV.out).mono ?_
  rintro e' w1 ⟨rfl, hx⟩
  have hb := hb0.ext hx
  have hE := hx0.trans hx
  have ⟨c0, c1, c2, c3⟩ := hb
  clear hx hx0 hb0
  go_wp2_with (first | (go_at_call 63; with_reducible refine (volHas_yes _ wn hn x y _ c0 c1 HSz.out HX.out HY.out).mono ?_; rintro e' w' ⟨rfl, rfl⟩))
  refine (HC.out _ hb).mono ?_
  rintro e' w2 ⟨rfl, hx2⟩
  replace hE := hE.trans hx2
  clear hx2 c0 c1 c2 c3 hb
  go_wp2_with fail
  refine (HS.out _ hE).mono ?_
  rintro e' w3 ⟨r, rfl, hr, hx3⟩
  replace hE := hE.trans hx3
  go_wp2
  go_ret2
  exact ⟨_, rfl, hr, hE⟩
theorem implSharpAt_no1 (w h d : Int) (A : Option Addr) (n c : Nat) (x y : Int) (U : World) (hcn : n ≤ maxLen) (hv : ¬ VVol w h d n) :
    Calls Try.prog 24 #[.agg #[.int .i64 w, .int .i64 h, .int .i64 d, .slice A n c], .int .i64 x, .int .i64 y] U fun e' U' => ∃ r, e' = .returned (.tuple #[.float .f32 r, .bool false]) ∧ Is r 0 ∧ Ext U U' := by
  have HV := Lib.hid hv
  clear hv
  go_enter Try.func24, Try.ntmps24
  go_wp2_with fail
  refine calls_at (X := fun w' => Ext U w' ∧ Box4 w' U.heap.size (.int .i64 w) (.int .i64 h) (.int .i64 d) (.slice A n c)) ⟨(Ext.refl _).alloc _, by simp [go_sem], by simp [go_sem], by simp [go_sem], by simp [go_sem]⟩ ?_
  rintro w0 ⟨hx0, hb0⟩
  refine (ValidVolume_not w h d A n c _ hcn HV.out).mono ?_
  rintro e' w1 ⟨rfl, hx⟩
  have hb := hb0.ext hx
  have hE := hx0.trans hx
  have ⟨c0, c1, c2, c3⟩ := hb
  clear hx hx0 hb0
  go_wp2
  go_ret2
  exact ⟨_, rfl, ⟨by omega, by decide +kernel⟩, hE⟩
theorem implSharpAt_no2 (w h d : Int) (A : Option Addr) (n c : Nat) (x y : Int) (U : World) (hcn : n ≤ maxLen) (hv : VVol w h d n) (hx : ¬ ((0 ≤ x ∧ x ≤ w - 1) ∧ 0 ≤ y ∧ y ≤ h - 1)) :
    Calls Try.prog 24 #[.agg #[.int .i64 w, .int .i64 h, .int .i64 d, .slice A n c], .int .i64 x, .int .i64 y] U fun e' U' => ∃ r, e' = .returned (.tuple #[.float .f32 r, .bool false]) ∧ Is r 0 ∧ Ext U U' := by
  have HV := Lib.hid hv
  have HX := Lib.hid hx
  clear hx
  have hw1 : IntKind.i64.wrap (w - 1) = w - 1 := wrap_small _ (by have := hv.1.1; omega) (by have := hv.1.2.1; omega)
  have hh1 : IntKind.i64.wrap (h - 1) = h - 1 := wrap_small _ (by have := hv.1.2.2.1; omega) (by have := hv.1.2.2.2.1; omega)
  have HSz := Lib.hid hv.1
  clear hv
  go_enter Try.func24, Try.ntmps24
  go_wp2_with fail
  refine calls_at (X := fun w' => Ext U w' ∧ Box4 w' U.heap.size (.int .i64 w) (.int .i64 h) (.int .i64 d) (.slice A n c)) ⟨(Ext.refl _).alloc _, by simp [go_sem], by simp [go_sem], by simp [go_sem], by simp [go_sem]⟩ ?_
  rintro w0 ⟨hx0, hb0⟩
  refine (ValidVolume_yes w h d A n c _ hcn HV.out).mono ?_
  rintro e' w1 ⟨rfl, hx⟩
  have hb := hb0.ext hx
  have hE := hx0.trans hx
  have ⟨c0, c1, c2, c3⟩ := hb
  clear hx hx0 hb0
  go_wp2_with (first | (go_at_call 63; with_reducible refine (volHas_no _ w h x y _ c0 c1 HSz.out HX.out).mono ?_); rintro e' w' ⟨rfl, rfl⟩)
  go_ret2
  exact ⟨_, rfl, ⟨by omega, by decide +kernel⟩, hE⟩
theorem implSharpAt_no (w h d : Int) (A : Option Addr) (n c : Nat) (x y : Int) (U : World) (hcn : n ≤ maxLen) (hv : ¬ (VVol w h d n ∧ (0 ≤ x ∧ x ≤ w - 1) ∧ 0 ≤ y ∧ y ≤ h - 1)) :
    Calls Try.prog 24 #[.agg #[.int .i64 w, .int .i64 h, .int .i64 d, .slice A n c], .int .i64 x, .int .i64 y] U fun e' U' => ∃ r, e' = .returned (.tuple #[.float .f32 r, .bool false]) ∧ Is r 0 ∧ Ext U U' := by
  by_cases h1 : VVol w h d n
  · exact implSharpAt_no2 w h d A n c x y U hcn h1 (fun h2 => hv ⟨h1, h2⟩)
  · exact implSharpAt_no1 w h d A n c x y U hcn h1
set_option maxRecDepth 8000 in
theorem specSharpAt_yes (wn hn dn gb off n c : Nat) (bs : List Nat) (x y : Int) (U : World) (hl : Lies U gb off bs) (hlen : bs.length = n) (hwd : Words bs) (hnc : n ≤ c) (hcm : c ≤ maxLen) (hv : VVol wn hn dn n) (hx : 0 ≤ x ∧ x ≤ (wn : Int) - 1) (hy : 0 ≤ y ∧ y ≤ (hn : Int) - 1) :
    Calls Try.prog 23 #[.agg #[.int .i64 wn, .int .i64 hn, .int .i64 dn, .slice (some ⟨gb, off, none⟩) n c], .int .i64 x, .int .i64 y] U fun e' U' => ∃ r, e' = .returned (.tuple #[.float .f32 r, .bool true]) ∧ Is r (sharpX (fun e => bs.getD (cellN wn x y * dn + e) 0) dn) ∧ Ext U U' := by
  have HV := Lib.hid hv
  have HX := Lib.hid hx
  have HY := Lib.hid hy
  have hcn := Nat.le_trans hnc hcm
  have hw1 : IntKind.i64.wrap ((wn : Int) - 1) = (wn : Int) - 1 := wrap_small _ (by have := hv.1.1; omega) (by have := hv.1.2.1; omega)
  have hh1 : IntKind.i64.wrap ((hn : Int) - 1) = (hn : Int) - 1 := wrap_small _ (by have := hv.1.2.2.1; omega) (by have := hv.1.2.2.2.1; omega)
  have HSz := Lib.hid hv.1
  obtain ⟨q, hq, hqn, hmul, hadd, hq2, hq3, hcn'⟩ := vcell hv hx hy
  rw [hcn']
  have HS := Lib.hid (fun (W : World) (hx' : Ext U W) (hb : Box4 W U.heap.size (.int .i64 wn) (.int .i64 hn) (.int .i64 dn) (.slice (some ⟨gb, off, none⟩) n c)) => l05Sharp_any U.heap.size wn hn dn gb off n c bs q W hb (hl.ext hx') hlen hwd (vol_n hv).2.2 hqn (by have := hv.2.2.1; omega))
  clear hv hx hy hwd hl hlen hq hqn hq2 hq3 hcn'
  go_enter Try.func23, Try.ntmps23
  go_wp2_with fail
  refine calls_at (X := fun w' => Ext U w' ∧ Box4 w' U.heap.size (.int .i64 wn) (.int .i64 hn) (.int .i64 dn) (.slice (some ⟨gb, off, none⟩) n c)) ⟨(Ext.refl _).alloc _, by simp [go_sem], by simp [go_sem], by simp [go_sem], by simp [go_sem]⟩ ?_
  rintro w0 ⟨hx0, hb0⟩
  refine (l03Is_yes U.heap.size wn hn dn _ n c _ hcn hb0.1 hb0.2.1 hb0.2.2.1 hb0.2.2.2 HV.out).mono ?_
  rintro e' w1 ⟨rfl, hx⟩
  have hb := hb0.ext hx
  have hE := hx0.trans hx
  have ⟨c0, c1, c2, c3⟩ := hb
  clear hx hx0 hb0
  go_wp2_with (go_at_call 60; (first | with_reducible refine (l00In_yes x 0 ((wn : Int) - 1) _ HX.out.1 HX.out.2).mono ?_ | with_reducible refine (l00In_yes y 0 ((hn : Int) - 1) _ HY.out.1 HY.out.2).mono ?_); rintro e' w' ⟨rfl, rfl⟩)
  refine (HS.out _ hE hb).mono ?_
  rintro e' w3 ⟨r, rfl, hr, hx3⟩
  replace hE := hE.trans hx3
  go_wp2
  go_ret2
  exact ⟨_, rfl, hr, hE⟩
theorem specSharpAt_no1 (w h d : Int) (A : Option Addr) (n c : Nat) (x y : Int) (U : World) (hcn : n ≤ maxLen) (hv : ¬ VVol w h d n) :
    Calls Try.prog 23 #[.agg #[.int .i64 w, .int .i64 h, .int .i64 d, .slice A n c], .int .i64 x, .int .i64 y] U fun e' U' => ∃ r, e' = .returned (.tuple #[.float .f32 r, .bool false]) ∧ Is r 0 ∧ Ext U U' := by
  have HV := Lib.hid hv
  clear hv
  go_enter Try.func23, Try.ntmps23
  go_wp2_with fail
  refine calls_at (X := fun w' => Ext U w' ∧ Box4 w' U.heap.size (.int .i64 w) (.int .i64 h) (.int .i64 d) (.slice A n c)) ⟨(Ext.refl _).alloc _, by simp [go_sem], by simp [go_sem], by simp [go_sem], by simp [go_sem]⟩ ?_
  rintro w0 ⟨hx0, hb0⟩
  refine (l03Is_not U.heap.size w h d A n c _ hcn hb0.1 hb0.2.1 hb0.2.2.1 hb0.2.2.2 HV.out).mono ?_
  rintro e' w1 ⟨rfl, hx⟩
  have hb := hb0.ext hx
  have hE := hx0.trans hx
  have ⟨c0, c1, c2, c3⟩ := hb
  clear hx hx0 hb0
  go_wp2
  go_ret2
  exact ⟨_, rfl, ⟨by omega, by decide +kernel⟩, hE⟩
theorem specSharpAt_no2 (w h d : Int) (A : Option Addr) (n c : Nat) (x y : Int) (U : World) (hcn : n ≤ maxLen) (hv : VVol w h d n) (hx : x < 0 ∨ w - 1 < x) :
    Calls Try.prog 23 #[.agg #[.int .i64 w, .int .i64 h, .int .i64 d, .slice A n c], .int .i64 x, .int .i64 y] U fun e' U' => ∃ r, e' = .returned (.tuple #[.float .f32 r, .bool false]) ∧ Is r 0 ∧ Ext U U' := by
  have HV := Lib.hid hv
  have HX := Lib.hid hx
  clear hx
  have hw1 : IntKind.i64.wrap (w - 1) = w - 1 := wrap_small _ (by have := hv.1.1; omega) (by have := hv.1.2.1; omega)
  have hh1 : IntKind.i64.wrap (h - 1) = h - 1 := wrap_small _ (by have := hv.1.2.2.1; omega) (by have := hv.1.2.2.2.1; omega)
  have HSz := Lib.hid hv.1
  clear hv
  go_enter Try.func23, Try.ntmps23
  go_wp2_with fail
  refine calls_at (X := fun w' => Ext U w' ∧ Box4 w' U.heap.size (.int .i64 w) (.int .i64 h) (.int .i64 d) (.slice A n c)) ⟨(Ext.refl _).alloc _, by simp [go_sem], by simp [go_sem], by simp [go_sem], by simp [go_sem]⟩ ?_
  rintro w0 ⟨hx0, hb0⟩
  refine (l03Is_yes U.heap.size w h d A n c _ hcn hb0.1 hb0.2.1 hb0.2.2.1 hb0.2.2.2 HV.out).mono ?_
  rintro e' w1 ⟨rfl, hx⟩
  have hb := hb0.ext hx
  have hE := hx0.trans hx
  have ⟨c0, c1, c2, c3⟩ := hb
  clear hx hx0 hb0
  go_wp2_with (first | (go_at_call 60; with_reducible refine (l00In_no x 0 (w - 1) _ HX.out).mono ?_); rintro e' w' ⟨rfl, rfl⟩)
  go_ret2
  exact ⟨_, rfl, ⟨by omega, by decide +kernel⟩, hE⟩
theorem specSharpAt_no3 (w h d : Int) (A : Option Addr) (n c : Nat) (x y : Int) (U : World) (hcn : n ≤ maxLen) (hv : VVol w h d n) (hx : 0 ≤ x ∧ x ≤ w - 1) (hy : y < 0 ∨ h - 1 < y) :
    Calls Try.prog 23 #[.agg #[.int .i64 w, .int .i64 h, .int .i64 d, .slice A n c], .int .i64 x, .int .i64 y] U fun e' U' => ∃ r, e' = .returned (.tuple #[.float .f32 r, .bool false]) ∧ Is r 0 ∧ Ext U U' := by
  have HV := Lib.hid hv
  have HX := Lib.hid hx
  have HY := Lib.hid hy
  clear hx hy
  have hw1 : IntKind.i64.wrap (w - 1) = w - 1 := wrap_small _ (by have := hv.1.1; omega) (by have := hv.1.2.1; omega)
  have hh1 : IntKind.i64.wrap (h - 1) = h - 1 := wrap_small _ (by have := hv.1.2.2.1; omega) (by have := hv.1.2.2.2.1; omega)
  have HSz := Lib.hid hv.1
  clear hv
  go_enter Try.func23, Try.ntmps23
  go_wp2_with fail
  refine calls_at (X := fun w' => Ext U w' ∧ Box4 w' U.heap.size (.int .i64 w) (.int .i64 h) (.int .i64 d) (.slice A n c)) ⟨(Ext.refl _).alloc _, by simp [go_sem], by simp [go_sem], by simp [go_sem], by simp [go_sem]⟩ ?_
  rintro w0 ⟨hx0, hb0⟩
  refine (l03Is_yes U.heap.size w h d A n c _ hcn hb0.1 hb0.2.1 hb0.2.2.1 hb0.2.2.2 HV.out).mono ?_
  rintro e' w1 ⟨rfl, hx⟩
  have hb := hb0.ext hx
  have hE := hx0.trans hx
  have ⟨c0, c1, c2, c3⟩ := hb
  clear hx hx0 hb0
  go_wp2_with (first | (go_at_call 60; (first | with_reducible refine (l00In_yes x 0 (w - 1) _ HX.out.1 HX.out.2).mono ?_ | with_reducible refine (l00In_no y 0 (h - 1) _ HY.out).mono ?_)); rintro e' w' ⟨rfl, rfl⟩)
  go_ret2
  exact ⟨_, rfl, ⟨by omega, by decide +kernel⟩, hE⟩
theorem specSharpAt_no (w h d : Int) (A : Option Addr) (n c : Nat) (x y : Int) (U : World) (hcn : n ≤ maxLen) (hv : ¬ (VVol w h d n ∧ (0 ≤ x ∧ x ≤ w - 1) ∧ 0 ≤ y ∧ y ≤ h - 1)) :
    Calls Try.prog 23 #[.agg #[.int .i64 w, .int .i64 h, .int .i64 d, .slice A n c], .int .i64 x, .int .i64 y] U fun e' U' => ∃ r, e' = .returned (.tuple #[.float .f32 r, .bool false]) ∧ Is r 0 ∧ Ext U U' := by
  by_cases h1 : VVol w h d n
  · by_cases hx : 0 ≤ x ∧ x ≤ w - 1
    · exact specSharpAt_no3 w h d A n c x y U hcn h1 hx (by by_cases hy : 0 ≤ y ∧ y ≤ h - 1; exact absurd ⟨h1, hx, hy⟩ hv; omega)
    · exact specSharpAt_no2 w h d A n c x y U hcn h1 (by omega)
  · exact specSharpAt_no1 w h d A n c x y U hcn h1
theorem lawSharpAt_any (W : World) (z0 z1 z2 : Int) (_ : -9223372036854775808 ≤ z0 ∧ z0 ≤ 9223372036854775807) (_ : -9223372036854775808 ≤ z1 ∧ z1 ≤ 9223372036854775807) (_ : -9223372036854775808 ≤ z2 ∧ z2 ≤ 9223372036854775807) (A : Option Addr) (n m : Nat) (bs : List Nat) (hc : n ≤ m) (hm : m ≤ maxLen) (hr : Reads W A n bs) (hw : Words bs) (x : Int) (_ : IntKind.i64.min ≤ x ∧ x ≤ IntKind.i64.max) (y : Int) (_ : IntKind.i64.min ≤ y ∧ y ≤ IntKind.i64.max) :
    Calls Try.prog 4 #[.agg #[.int .i64 z0, .int .i64 z1, .int .i64 z2, .slice A n m], .int .i64 x, .int .i64 y] W fun e W' => e = .returned (.bool true) ∧ Ext W W' := by
  have hn : n ≤ maxLen := Nat.le_trans hc hm
  by_cases hv : VVol z0 z1 z2 n ∧ (0 ≤ x ∧ x ≤ z0 - 1) ∧ 0 ≤ y ∧ y ≤ z1 - 1
  · obtain ⟨hv, hx, hy⟩ := hv
    obtain ⟨wn, rfl⟩ := Int.eq_ofNat_of_zero_le (show 0 ≤ z0 by have := hv.1.1; omega)
    obtain ⟨hn', rfl⟩ := Int.eq_ofNat_of_zero_le (show 0 ≤ z1 by have := hv.1.2.2.1; omega)
    obtain ⟨dn, rfl⟩ := Int.eq_ofNat_of_zero_le (show 0 ≤ z2 by have := hv.2.1; omega)
    obtain ⟨hnn, h0, hn2⟩ := vol_n hv
    refine lawSharpAt_core W wn hn' dn A n m bs hn hr x y (sharpX (fun e => bs.getD (cellN wn x y * dn + e) 0) dn) true ?_ ?_
    · intro w D hd
      obtain ⟨gb, off, rfl, hl⟩ := hd.2 (by omega)
      exact specSharpAt_yes wn hn' dn gb off n n bs x y w hl hd.1 hw (Nat.le_refl _) hn hv hx hy
    · intro w D hd
      obtain ⟨gb, off, rfl, hl⟩ := hd.2 (by omega)
      exact implSharpAt_yes wn hn' dn gb off n n bs x y w hl hd.1 hw (Nat.le_refl _) hn hv hx hy
  · exact lawSharpAt_core W z0 z1 z2 A n m bs hn hr x y 0 false (fun w D hd => specSharpAt_no z0 z1 z2 D n n x y w hn hv) (fun w D hd => implSharpAt_no z0 z1 z2 D n n x y w hn hv)
end Go.Proofs.Ytcekofioiofjbaa
