/- Contracts of the laws' own helpers that mark a list of single words, and look whether the marks are there still. -/
import Derived.Test.YtgpobhpcbgenoaaHarA
namespace Go.Proofs.Ytgpobhpcbgenoaa
open Go.RowKit

theorem markF_any (v : Value) (bs : List Nat) (k : Nat) (base : Nat) (w : World) (hk : k + bs.length ≤ 4294967296) (ho : OwnF w base 25 v bs) :
    Calls Try.prog 61 #[v, .int .i64 k] w fun e w' => e = .returned (.int .i64 ((k : Int) + (bs.length : Int))) ∧ OwnF w' base 25 v (marks k bs.length) ∧ w.grownBy w' v.ownBlock := by
  rcases ho.2 with ⟨rfl, hn⟩ | ⟨g, cap, cur, rfl, hg, hh, hnc, hcm, hsz, ht⟩
  · have hbs : bs = [] := List.eq_nil_of_length_eq_zero hn
    subst hbs
    go_enter Try.func61, Try.ntmps61
    go_wp2_with fail
    refine wp_loop_rounds 1 ?_; rw [rounds_succ]
    go_wp2
    go_ret
    exact ⟨rfl, OwnF.nil _ _ _, World.grownBy.refl _ _⟩
  · have ho' : w.ownsRow base 25 1 (.slice (some ⟨g, 0, none⟩) bs.length cap) bs.length (bs.map fl) := ho
    clear ho hh ht hsz
    obtain ⟨n, hn⟩ : ∃ n, n = bs.length := ⟨_, rfl⟩
    rw [← hn] at ho' hk hnc ⊢
    have HN := Lib.hid hn
    clear hn
    go_enter Try.func61, Try.ntmps61
    go_wp2_with fail
    go_loopw [1, 5] (fun kk i wr => ∃ j : Nat, j ≤ n ∧ i = .int .i64 j ∧ kk = .int .i64 ((k : Int) + (j : Int)) ∧ wr.ownsRow base 25 1 (.slice (some ⟨g, 0, none⟩) n cap) n ((marked k j bs).map fl) ∧ w.grownBy wr (some g)) (fun _ i _ => n - (intOf i).toNat)
    case atStart => exact ⟨0, Nat.zero_le _, rfl, by simp, by rw [marked_zero]; exact ho', World.grownBy.refl _ _⟩
    case round =>
      clear ho'
      obtain ⟨j, hj, rfl, rfl, hown, hgr⟩ := hrel
      by_cases hlt : j < n
      · have hc : wr.cell? ⟨g, j, none⟩ = some (fl ((marked k j bs).getD j 0)) := by
          rw [hown.cellAt j (by omega)]
          have := HN.out
          have h3 := marked_length k j bs (by omega)
          simp [show j < (marked k j bs).length by omega]
        have hf := hown.frozenAt j
        have hs := hown.stored j (fl (floatOfInt .f32 ((k : Int) + (j : Int))))
        rw [marked_set k j bs (by have := HN.out; omega)] at hs
        have hg2 : w.grownBy (wr.setCell ⟨g, j, none⟩ (fl (floatOfInt .f32 ((k : Int) + (j : Int))))) (some g) :=
          ⟨hs.2.os.trans hgr.os, hs.2.tape.trans hgr.tape, hs.2.output.trans hgr.output, Nat.le_trans hgr.size hs.2.size, fun i hi hne => (hs.2.block i (Nat.lt_of_lt_of_le hi hgr.size) hne).trans (hgr.block i hi hne)⟩
        clear hown hgr
        generalize (marked k j bs).getD j 0 = old at *
        go_wp2
        go_roundw
        case rel => exact ⟨j + 1, by omega, by go_num, by go_num, hs.1, hg2⟩
        case measure => simp [intOf]; omega
      · have e1 : j = n := by omega
        subst e1
        have hlen := HN.out
        rw [hlen, marked_all, ← hlen] at hown
        have hown' : OwnF wr base 25 (.slice (some ⟨g, 0, none⟩) j cap) (marks k j) := by
          unfold OwnF; rw [marks_length]; exact hown
        clear hown hlen
        go_wp2
        go_ret
        exact ⟨rfl, hown', hgr⟩
theorem heldF_any (v : Value) (n : Nat) (k : Nat) (base : Nat) (w : World) (hk : k + n ≤ 4294967296) (ho : OwnF w base 25 v (marks k n)) :
    Calls Try.prog 73 #[v, .int .i64 k] w fun e w' => e = .returned (.int .i64 ((k : Int) + (n : Int))) ∧ w = w' := by
  obtain ⟨A, c, rfl, hc1, hc2, hr⟩ := ho.form
  rw [marks_length] at *
  clear ho
  unfold maxLen at hc2
  have hne : ∀ x : Int, (FloatKind.f32.format.order (floatOfInt .f32 x) (floatOfInt .f32 x) != some Ordering.eq) = false := fun x => by
    show (Ieee.single.order (floatOfInt .f32 x) (floatOfInt .f32 x) != some Ordering.eq) = false
    rw [order_self _ (isN_ofInt x)]; rfl
  go_enter Try.func73, Try.ntmps73
  go_wp2_with fail
  go_loop [1, 5] (fun kk i => ∃ j : Nat, j ≤ n ∧ i = .int .i64 j ∧ kk = .int .i64 ((k : Int) + (j : Int))) (fun _ i => n - (intOf i).toNat)
  case atStart => exact ⟨0, Nat.zero_le _, rfl, by simp⟩
  case round =>
    obtain ⟨j, hj, rfl, rfl⟩ := hrel
    by_cases hlt : j < n
    · obtain ⟨g, off, rfl, hl⟩ := (hr.2 (by omega))
      have hcell := hl j (by rw [marks_length]; exact hlt)
      rw [marks_getD k n j hlt] at hcell
      have hne' := hne ((k : Int) + (j : Int))
      clear hne hl hr
      go_wp2
      go_round
      case rel => exact ⟨j + 1, by omega, by go_num, by go_num⟩
      case measure => simp [intOf]; omega
    · have e1 : j = n := by omega
      subst e1
      clear hne hr
      go_wp2
      go_ret
      exact ⟨rfl, rfl⟩
end Go.Proofs.Ytgpobhpcbgenoaa
