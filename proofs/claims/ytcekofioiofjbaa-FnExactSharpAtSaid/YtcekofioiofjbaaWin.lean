/- The number with the least cost, in the program and in the reference. -/
import Derived.Test.YtcekofioiofjbaaSpecV
import Derived.Test.YtcekofioiofjbaaAcc2
import Derived.Test.YtcekofioiofjbaaSame
namespace Go.Proofs.Ytcekofioiofjbaa
open Go.RowKit
set_option linter.unusedVariables false

/-- The number of the least word, the first of them, but one; -1 without any. -/
def winTo (F : Nat → Nat) (but : Int) : Nat → Int
  | 0 => -1
  | k + 1 => if (k : Int) ≠ but ∧ isN (F k) = false ∧ (winTo F but k < 0 ∨ ltF (F k) (F (winTo F but k).toNat) = true) then (k : Int) else winTo F but k
theorem winTo_range (F : Nat → Nat) (but : Int) : ∀ k, winTo F but k = -1 ∨ ∃ b : Nat, winTo F but k = (b : Int) ∧ b < k
  | 0 => .inl rfl
  | k + 1 => by
    unfold winTo
    split
    · exact .inr ⟨k, rfl, by omega⟩
    · rcases winTo_range F but k with h | ⟨b, h, hb⟩
      · exact .inl h
      · exact .inr ⟨b, h, by omega⟩
theorem winTo_skip {F : Nat → Nat} {but : Int} {k : Nat} (h : ¬ ((k : Int) ≠ but ∧ isN (F k) = false ∧ (winTo F but k < 0 ∨ ltF (F k) (F (winTo F but k).toNat) = true))) : winTo F but (k + 1) = winTo F but k := by
  rw [winTo, if_neg h]
theorem winTo_take {F : Nat → Nat} {but : Int} {k : Nat} (h : (k : Int) ≠ but ∧ isN (F k) = false ∧ (winTo F but k < 0 ∨ ltF (F k) (F (winTo F but k).toNat) = true)) : winTo F but (k + 1) = (k : Int) := by
  rw [winTo, if_pos h]
theorem ord_nan {v : Nat} (h : isN v = true) : (FloatKind.f32.format.order v v == some .eq) = false := by
  have : FloatKind.f32.format.order v v = none := order_nan_left v v h
  rw [this]; rfl
theorem ord_num {v : Nat} (h : isN v = false) : (FloatKind.f32.format.order v v == some .eq) = true := by
  have : FloatKind.f32.format.order v v = some .eq := order_self v h
  rw [this]; rfl
set_option maxHeartbeats 4000000 in
set_option maxRecDepth 8000 in
theorem winner_any (gb off n c : Nat) (F : Nat → Nat) (but : Int) (U : World) (hn : n ≤ 8) (hl : ∀ i, i < n → U.cell? ⟨gb, off + i, none⟩ = some (fl (F i))) :
    Calls Try.prog 105 #[.slice (some ⟨gb, off, none⟩) n c, .int .i64 but] U fun e U' => e = .returned (.int .i64 (winTo F but n)) ∧ U = U' := by
  have HL := Lib.hid hl
  clear hl
  go_enter Try.func105, Try.ntmps105
  go_wp2_with fail
  go_loopw [5, 10] (fun bb i wr => ∃ k : Nat, k ≤ n ∧ i = .int .i64 k ∧ bb = .int .i64 (winTo F but k) ∧ U = wr) (fun _ i _ => n - (intOf i).toNat)
  case atStart => exact ⟨0, Nat.zero_le _, rfl, rfl, rfl⟩
  case round =>
    obtain ⟨k, hk, rfl, rfl, rfl⟩ := hrel
    by_cases hlt : k < n
    · have hck := HL.out k hlt
      obtain ⟨v, hv⟩ : ∃ v, F k = v := ⟨_, rfl⟩
      rw [hv] at hck
      have HV := Lib.hid hv
      clear hv
      have hk0 : (0 : Int) ≤ (k : Int) := by omega
      have hk1 : (k : Int) < (n : Int) := by omega
      by_cases hb : (k : Int) = but
      · have hbq : ((k : Int) != but) = false := by simp [hb]
        have hW1 := winTo_skip (F := F) (but := but) (k := k) (fun h => h.1 hb)
        obtain ⟨B, hB⟩ : ∃ B, winTo F but k = B := ⟨_, rfl⟩
        rw [hB] at hW1 ⊢
        have HW1 := Lib.hid hW1
        clear hb hW1 hB
        go_wp2
        go_roundw
        case rel => exact ⟨k + 1, by omega, by go_num, by rw [HW1.out], by first | rfl | trivial⟩
        case measure => simp [intOf]; omega
      · have hbq : ((k : Int) != but) = true := by simp [hb]
        cases hnn : isN v
        · rcases winTo_range F but k with hr | ⟨bn, hr, hbn⟩
          · have hW1 := winTo_take (F := F) (but := but) (k := k) ⟨hb, by rw [HV.out]; exact hnn, .inl (by rw [hr]; omega)⟩
            have HW1 := Lib.hid hW1
            rw [hr]
            clear hb hW1 hr
            go_wp2_with (go_at_call 115; refine (isNaN_of v false hnn _).mono ?_; rintro e w' ⟨rfl, rfl⟩)
            go_roundw
            case rel => exact ⟨k + 1, by omega, by go_num, by rw [HW1.out], by first | rfl | trivial⟩
            case measure => simp [intOf]; omega
          · have hcb := HL.out bn (by omega)
            have hbn0 : ¬ (bn : Int) < 0 := by omega
            have hb2 : (0 : Int) ≤ (bn : Int) := by omega
            have hb3 : (bn : Int) < (n : Int) := by omega
            cases hlf : ltF v (F bn)
            · have hW1 := winTo_skip (F := F) (but := but) (k := k) (fun h => by
                rcases h.2.2 with h3 | h3
                · rw [hr] at h3; omega
                · rw [hr, HV.out, Int.toNat_natCast, hlf] at h3; cases h3)
              have hlf' : (FloatKind.f32.format.order v (F bn) == some .lt) = false := hlf
              rw [hr] at hW1 ⊢
              have HW1 := Lib.hid hW1
              generalize F bn = u at hcb hlf'
              clear hb hW1 hr
              go_wp2_with (go_at_call 115; refine (isNaN_of v false hnn _).mono ?_; rintro e w' ⟨rfl, rfl⟩)
              go_roundw
              case rel => exact ⟨k + 1, by omega, by go_num, by rw [HW1.out], by first | rfl | trivial⟩
              case measure => simp [intOf]; omega
            · have hW1 := winTo_take (F := F) (but := but) (k := k) ⟨hb, by rw [HV.out]; exact hnn, .inr (by rw [hr, HV.out, Int.toNat_natCast]; exact hlf)⟩
              have hlf' : (FloatKind.f32.format.order v (F bn) == some .lt) = true := hlf
              rw [hr]
              have HW1 := Lib.hid hW1
              generalize F bn = u at hcb hlf'
              clear hb hW1 hr
              go_wp2_with (go_at_call 115; refine (isNaN_of v false hnn _).mono ?_; rintro e w' ⟨rfl, rfl⟩)
              go_roundw
              case rel => exact ⟨k + 1, by omega, by go_num, by rw [HW1.out], by first | rfl | trivial⟩
              case measure => simp [intOf]; omega
        · have hW1 := winTo_skip (F := F) (but := but) (k := k) (fun h => by have := h.2.1; rw [HV.out, hnn] at this; cases this)
          obtain ⟨B, hB⟩ : ∃ B, winTo F but k = B := ⟨_, rfl⟩
          rw [hB] at hW1 ⊢
          have HW1 := Lib.hid hW1
          clear hb hW1 hB
          go_wp2_with (go_at_call 115; refine (isNaN_of v true hnn _).mono ?_; rintro e w' ⟨rfl, rfl⟩)
          go_roundw
          case rel => exact ⟨k + 1, by omega, by go_num, by rw [HW1.out], by first | rfl | trivial⟩
          case measure => simp [intOf]; omega
    · have e1 : k = n := by omega
      subst e1
      go_wp2
      go_ret
      exact ⟨rfl, rfl⟩
set_option maxHeartbeats 8000000 in
set_option maxRecDepth 8000 in
theorem l03Winner_any (g wn hn dn gb off n c : Nat) (bs : List Nat) (i : Nat) (but : Int) (U : World) (hB : Box4 U g (.int .i64 wn) (.int .i64 hn) (.int .i64 dn) (.slice (some ⟨gb, off, none⟩) n c)) (hl : Lies U gb off bs) (hlen : bs.length = n) (hcm : n ≤ 2048) (hin : i * dn + dn ≤ n) (hd8 : dn ≤ 8) :
    Calls Try.prog 102 #[.pointer (some ⟨g, 0, none⟩), .int .i64 i, .int .i64 but] U fun e U' => e = .returned (.int .i64 (winTo (fun e => bs.getD (i * dn + e) 0) but dn)) ∧ Ext U U' := by
  obtain ⟨F, hF0⟩ : ∃ F : Nat → Nat, F = fun e => bs.getD (i * dn + e) 0 := ⟨_, rfl⟩
  rw [← hF0]
  obtain ⟨m, hm⟩ : ∃ m, i * dn = m := ⟨_, rfl⟩
  have hD : dn = 0 ∨ IntKind.i64.wrap ((i : Int) * (dn : Int)) = (m : Int) := .inr (by
    rw [show (i : Int) * (dn : Int) = (m : Int) by rw [← hm]; simp]; exact wrap_small _ (by omega) (by omega))
  have hD : IntKind.i64.wrap ((i : Int) * (dn : Int)) = (m : Int) := by
    rw [show (i : Int) * (dn : Int) = (m : Int) by rw [← hm]; simp]; exact wrap_small _ (by omega) (by omega)
  rw [hm] at hin hF0
  have HC := Lib.hid (fun (W : World) (hx : Ext U W) (e : Nat) (he : e < dn) => (by have := (hl.ext hx) (m + e) (by omega); rw [hF0]; exact this : W.cell? ⟨gb, off + (m + e), none⟩ = some (fl (F e))))
  clear hm hF0 hl hlen
  go_enter Try.func102, Try.ntmps102
  go_wp2_with fail
  go_loopw [7, 8] (fun bb d wr => ∃ k : Nat, k ≤ dn ∧ d = .int .i64 k ∧ bb = .int .i64 (winTo F but k) ∧ Ext U wr) (fun _ d _ => dn - (intOf d).toNat)
  case atStart => exact ⟨0, Nat.zero_le _, rfl, rfl, Ext.refl _⟩
  case round =>
    obtain ⟨k, hk, rfl, rfl, hx⟩ := hrel
    have ⟨p0, p1, p2, p3⟩ := hB.ext hx
    by_cases hlt : k < dn
    · have hck := HC.out _ hx k hlt
      obtain ⟨v, hv⟩ : ∃ v, F k = v := ⟨_, rfl⟩
      rw [hv] at hck
      have HV := Lib.hid hv
      clear hv
      have hD2 : IntKind.i64.wrap ((m : Int) + (k : Int)) = (m : Int) + (k : Int) := wrap_small _ (by omega) (by omega)
      have hk0 : (0 : Int) ≤ (m : Int) + (k : Int) := by omega
      have hk1 : (m : Int) + (k : Int) < (n : Int) := by omega
      by_cases hb : (k : Int) = but
      · have hbq : ((k : Int) == but) = true := by simp [hb]
        have hW1 := winTo_skip (F := F) (but := but) (k := k) (fun h => h.1 hb)
        obtain ⟨B, hB1⟩ : ∃ B, winTo F but k = B := ⟨_, rfl⟩
        rw [hB1] at hW1 ⊢
        have HW1 := Lib.hid hW1
        clear hb hW1 hB1
        go_wp2_with fail
        refine region_wx0 [] (by kernel_rfl) (by kernel_rfl) ?_
        repeat ((first | refine wx_skip rfl ?_ | refine wx_nilCheck rfl rfl _ rfl _ rfl ?_ | (refine wx_float rfl rfl _ _ _ _ _ _ _ rfl rfl rfl rfl ?_; intro r hr) | (refine wx_k rfl rfl rfl (fun K hK => ?_); go_big_quiet_op; refine hK _ ?_; clear hK K) ); (try simp only [Act.put, List.setIfInBounds_toArray, List.set_cons_zero, List.set_cons_succ]); (try simp only [List.tail_nil]))
        refine wx_nil (fun W hW hF => ?_)
        replace p0 := cell_ext p0 hW
        replace p1 := cell_ext p1 hW
        replace p2 := cell_ext p2 hW
        replace p3 := cell_ext p3 hW
        skip
        have hE := hx.trans hW
        clear hW hF
        rename_i W1
        clear p0 p1 p2 p3
        go_wp2
        go_roundw
        case rel => exact ⟨k + 1, by omega, by go_num, by rw [HW1.out], hE⟩
        case measure => simp [intOf]; omega
      · have hbq : ((k : Int) == but) = false := by simp [hb]
        cases hnn : isN v
        · have hoo := order_ne v
          rw [hnn] at hoo
          rcases winTo_range F but k with hr | ⟨bn, hr, hbn⟩
          · have hW1 := winTo_take (F := F) (but := but) (k := k) ⟨hb, by rw [HV.out]; exact hnn, .inl (by rw [hr]; omega)⟩
            have HW1 := Lib.hid hW1
            rw [hr]
            clear hb hW1 hr
            go_wp2_with fail
            refine region_wx0 [] (by kernel_rfl) (by kernel_rfl) ?_
            repeat ((first | refine wx_skip rfl ?_ | refine wx_nilCheck rfl rfl _ rfl _ rfl ?_ | (refine wx_float rfl rfl _ _ _ _ _ _ _ rfl rfl rfl rfl ?_; intro r hr) | (refine wx_k rfl rfl rfl (fun K hK => ?_); go_big_quiet_op; refine hK _ ?_; clear hK K) ); (try simp only [Act.put, List.setIfInBounds_toArray, List.set_cons_zero, List.set_cons_succ]); (try simp only [List.tail_nil]))
            refine wx_nil (fun W hW hF => ?_)
            replace p0 := cell_ext p0 hW
            replace p1 := cell_ext p1 hW
            replace p2 := cell_ext p2 hW
            replace p3 := cell_ext p3 hW
            skip
            have hE := hx.trans hW
            clear hW hF
            rename_i W1
            go_wp2_with fail
            refine region_wx0 [] (by kernel_rfl) (by kernel_rfl) ?_
            repeat ((first | refine wx_skip rfl ?_ | refine wx_nilCheck rfl rfl _ rfl _ rfl ?_ | (refine wx_float rfl rfl _ _ _ _ _ _ _ rfl rfl rfl rfl ?_; intro r hr) | (refine wx_k rfl rfl rfl (fun K hK => ?_); go_big_quiet_op; refine hK _ ?_; clear hK K) ); (try simp only [Act.put, List.setIfInBounds_toArray, List.set_cons_zero, List.set_cons_succ]); (try simp only [List.tail_nil]))
            refine wx_nil (fun W hW hF => ?_)
            replace p0 := cell_ext p0 hW
            replace p1 := cell_ext p1 hW
            replace p2 := cell_ext p2 hW
            replace p3 := cell_ext p3 hW
            replace hE := hE.trans hW
            clear hW hF
            rename_i W2
            clear p0 p1 p2 p3
            go_wp2
            go_roundw
            case rel => exact ⟨k + 1, by omega, by go_num, by rw [HW1.out], hE⟩
            case measure => simp [intOf]; omega
          · have hcb := HC.out _ hx bn (by omega)
            have hbn0 : ¬ (bn : Int) < 0 := by omega
            have hD3 : IntKind.i64.wrap ((m : Int) + (bn : Int)) = (m : Int) + (bn : Int) := wrap_small _ (by omega) (by omega)
            have hb2 : (0 : Int) ≤ (m : Int) + (bn : Int) := by omega
            have hb3 : (m : Int) + (bn : Int) < (n : Int) := by omega
            cases hlf : ltF v (F bn)
            · have hW1 := winTo_skip (F := F) (but := but) (k := k) (fun h => by
                rcases h.2.2 with h3 | h3
                · rw [hr] at h3; omega
                · rw [hr, HV.out, Int.toNat_natCast, hlf] at h3; cases h3)
              have hlf' : (FloatKind.f32.format.order v (F bn) == some .lt) = false := hlf
              rw [hr] at hW1 ⊢
              have HW1 := Lib.hid hW1
              generalize F bn = u at hcb hlf'
              clear hb hW1 hr
              go_wp2_with fail
              refine region_wx0 [] (by kernel_rfl) (by kernel_rfl) ?_
              repeat ((first | refine wx_skip rfl ?_ | refine wx_nilCheck rfl rfl _ rfl _ rfl ?_ | (refine wx_float rfl rfl _ _ _ _ _ _ _ rfl rfl rfl rfl ?_; intro r hr) | (refine wx_k rfl rfl rfl (fun K hK => ?_); go_big_quiet_op; refine hK _ ?_; clear hK K) ); (try simp only [Act.put, List.setIfInBounds_toArray, List.set_cons_zero, List.set_cons_succ]); (try simp only [List.tail_nil]))
              refine wx_nil (fun W hW hF => ?_)
              replace p0 := cell_ext p0 hW
              replace p1 := cell_ext p1 hW
              replace p2 := cell_ext p2 hW
              replace p3 := cell_ext p3 hW
              replace hcb := cell_ext hcb hW
              have hE := hx.trans hW
              clear hW hF
              rename_i W1
              go_wp2_with fail
              refine region_wx0 [] (by kernel_rfl) (by kernel_rfl) ?_
              repeat ((first | refine wx_skip rfl ?_ | refine wx_nilCheck rfl rfl _ rfl _ rfl ?_ | (refine wx_float rfl rfl _ _ _ _ _ _ _ rfl rfl rfl rfl ?_; intro r hr) | (refine wx_k rfl rfl rfl (fun K hK => ?_); go_big_quiet_op; refine hK _ ?_; clear hK K) ); (try simp only [Act.put, List.setIfInBounds_toArray, List.set_cons_zero, List.set_cons_succ]); (try simp only [List.tail_nil]))
              refine wx_nil (fun W hW hF => ?_)
              replace p0 := cell_ext p0 hW
              replace p1 := cell_ext p1 hW
              replace p2 := cell_ext p2 hW
              replace p3 := cell_ext p3 hW
              replace hE := hE.trans hW
              clear hW hF
              rename_i W2
              clear p0 p1 p2 p3
              go_wp2
              go_roundw
              case rel => exact ⟨k + 1, by omega, by go_num, by rw [HW1.out], hE⟩
              case measure => simp [intOf]; omega
            · have hW1 := winTo_take (F := F) (but := but) (k := k) ⟨hb, by rw [HV.out]; exact hnn, .inr (by rw [hr, HV.out, Int.toNat_natCast]; exact hlf)⟩
              have hlf' : (FloatKind.f32.format.order v (F bn) == some .lt) = true := hlf
              rw [hr]
              have HW1 := Lib.hid hW1
              generalize F bn = u at hcb hlf'
              clear hb hW1 hr
              go_wp2_with fail
              refine region_wx0 [] (by kernel_rfl) (by kernel_rfl) ?_
              repeat ((first | refine wx_skip rfl ?_ | refine wx_nilCheck rfl rfl _ rfl _ rfl ?_ | (refine wx_float rfl rfl _ _ _ _ _ _ _ rfl rfl rfl rfl ?_; intro r hr) | (refine wx_k rfl rfl rfl (fun K hK => ?_); go_big_quiet_op; refine hK _ ?_; clear hK K) ); (try simp only [Act.put, List.setIfInBounds_toArray, List.set_cons_zero, List.set_cons_succ]); (try simp only [List.tail_nil]))
              refine wx_nil (fun W hW hF => ?_)
              replace p0 := cell_ext p0 hW
              replace p1 := cell_ext p1 hW
              replace p2 := cell_ext p2 hW
              replace p3 := cell_ext p3 hW
              replace hcb := cell_ext hcb hW
              have hE := hx.trans hW
              clear hW hF
              rename_i W1
              go_wp2_with fail
              refine region_wx0 [] (by kernel_rfl) (by kernel_rfl) ?_
              repeat ((first | refine wx_skip rfl ?_ | refine wx_nilCheck rfl rfl _ rfl _ rfl ?_ | (refine wx_float rfl rfl _ _ _ _ _ _ _ rfl rfl rfl rfl ?_; intro r hr) | (refine wx_k rfl rfl rfl (fun K hK => ?_); go_big_quiet_op; refine hK _ ?_; clear hK K) ); (try simp only [Act.put, List.setIfInBounds_toArray, List.set_cons_zero, List.set_cons_succ]); (try simp only [List.tail_nil]))
              refine wx_nil (fun W hW hF => ?_)
              replace p0 := cell_ext p0 hW
              replace p1 := cell_ext p1 hW
              replace p2 := cell_ext p2 hW
              replace p3 := cell_ext p3 hW
              replace hE := hE.trans hW
              clear hW hF
              rename_i W2
              clear p0 p1 p2 p3
              go_wp2
              go_roundw
              case rel => exact ⟨k + 1, by omega, by go_num, by rw [HW1.out], hE⟩
              case measure => simp [intOf]; omega
        · have hoo := order_ne v
          rw [hnn] at hoo
          have hW1 := winTo_skip (F := F) (but := but) (k := k) (fun h => by have := h.2.1; rw [HV.out, hnn] at this; cases this)
          obtain ⟨B, hB1⟩ : ∃ B, winTo F but k = B := ⟨_, rfl⟩
          rw [hB1] at hW1 ⊢
          have HW1 := Lib.hid hW1
          clear hb hW1 hB1
          go_wp2_with fail
          refine region_wx0 [] (by kernel_rfl) (by kernel_rfl) ?_
          repeat ((first | refine wx_skip rfl ?_ | refine wx_nilCheck rfl rfl _ rfl _ rfl ?_ | (refine wx_float rfl rfl _ _ _ _ _ _ _ rfl rfl rfl rfl ?_; intro r hr) | (refine wx_k rfl rfl rfl (fun K hK => ?_); go_big_quiet_op; refine hK _ ?_; clear hK K) ); (try simp only [Act.put, List.setIfInBounds_toArray, List.set_cons_zero, List.set_cons_succ]); (try simp only [List.tail_nil]))
          refine wx_nil (fun W hW hF => ?_)
          replace p0 := cell_ext p0 hW
          replace p1 := cell_ext p1 hW
          replace p2 := cell_ext p2 hW
          replace p3 := cell_ext p3 hW
          skip
          have hE := hx.trans hW
          clear hW hF
          rename_i W1
          clear p0 p1 p2 p3
          go_wp2
          go_roundw
          case rel => exact ⟨k + 1, by omega, by go_num, by rw [HW1.out], hE⟩
          case measure => simp [intOf]; omega
    · have e1 : k = dn := by omega
      rw [e1]
      rw [e1] at hk
      go_wp2
      go_ret
      exact ⟨rfl, hx⟩
end Go.Proofs.Ytcekofioiofjbaa
