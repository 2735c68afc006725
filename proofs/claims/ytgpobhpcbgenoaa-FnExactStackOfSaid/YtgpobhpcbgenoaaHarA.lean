/- Contracts of the laws' own helpers on lists of single words: sameFloat, eqFloat32S, szFloat32S, toFloat32S, markFloat32S, heldFloat32S. -/
import Derived.Test.YtgpobhpcbgenoaaChecked
import Derived.Test.YtgpobhpcbgenoaaSteps
import Derived.WalkKit
import Derived.ProofKit
import Derived.WalkLawsBesides
import Derived.WalkSpells
import Derived.Outline
import Derived.Deep.QuietTactic
import Derived.BigQuiet
import Derived.Lib.Hide
namespace Go.Proofs.Ytgpobhpcbgenoaa
open Go.RowKit

/-- A word's compare with itself. -/
theorem sameFloat_any (x y : Nat) (w : World) (h : SameD x y) :
    Calls Try.prog 17 #[.float .f64 x, .float .f64 y] w fun e w' => e = .returned (.bool true) ∧ w' = w := by
  rcases h with ⟨hx, hy⟩ | ⟨hx, rfl⟩
  · have h1 : (FloatKind.f64.format.order x x != some Ordering.eq) = true := by
      show (Ieee.double.order x x != some Ordering.eq) = true
      rw [orderD_nan x x hx]; rfl
    have h2 : (FloatKind.f64.format.order y y != some Ordering.eq) = true := by
      show (Ieee.double.order y y != some Ordering.eq) = true
      rw [orderD_nan y y hy]; rfl
    go_enter Try.func17, Try.ntmps17
    go_wp2
    go_ret
    exact ⟨rfl, rfl⟩
  · have h1 : (FloatKind.f64.format.order x x != some Ordering.eq) = false := by
      show (Ieee.double.order x x != some Ordering.eq) = false
      rw [orderD_self x hx]; rfl
    have h3 : (FloatKind.f64.format.order x x == some Ordering.eq) = true := by
      show (Ieee.double.order x x == some Ordering.eq) = true
      rw [orderD_self x hx]; rfl
    by_cases hz : Ieee.double.order x 0 = some .eq
    · obtain ⟨r, hr⟩ := one_over x hz
      have h0 : (FloatKind.f64.format.order x 0 == some Ordering.eq) = true := by
        show (Ieee.double.order x 0 == some Ordering.eq) = true
        rw [hz]; rfl
      have hq : ∀ t w, (binOp .quo t (.float .f64 4607182418800017408) (.float .f64 x)).run Try.prog w = .ok (.float .f64 r) w := fun t w => run_float_arith w .quo t .f64 _ x r hr
      clear hr hz
      go_enter Try.func17, Try.ntmps17
      go_wp2
      all_goals (go_ret; exact ⟨by simp, rfl⟩)
    · have h0 : (FloatKind.f64.format.order x 0 == some Ordering.eq) = false := by
        show (Ieee.double.order x 0 == some Ordering.eq) = false
        simpa using hz
      clear hz
      go_enter Try.func17, Try.ntmps17
      go_wp2
      go_ret
      exact ⟨rfl, rfl⟩

theorem szF_over (A : Option Addr) (n c : Nat) (left : Int) (w : World) (hn : n ≤ maxLen) (h0 : 0 ≤ left) (h1 : left ≤ 1048576) (hlt : left < n) :
    Calls Try.prog 46 #[.slice A n c, .int .i64 left] w fun e w' => e = .returned (.int .i64 (-1)) ∧ w = w' := by
  unfold maxLen at hn
  have h2 : left - (n : Int) < 0 := by omega
  go_enter Try.func46, Try.ntmps46
  go_wp2
  go_ret
  exact ⟨rfl, rfl⟩
theorem szF_fits (A : Option Addr) (n c : Nat) (left : Int) (w : World) (hn : n ≤ maxLen) (h0 : 0 ≤ left) (h1 : left ≤ 1048576) (hlt : (n : Int) ≤ left) :
    Calls Try.prog 46 #[.slice A n c, .int .i64 left] w fun e w' => e = .returned (.int .i64 (left - n)) ∧ w = w' := by
  unfold maxLen at hn
  have h2 : ¬ left - (n : Int) < 0 := by omega
  go_enter Try.func46, Try.ntmps46
  go_wp2
  go_ret
  exact ⟨rfl, rfl⟩

theorem infoF : (Try.prog.info? 25).map (fun i => (i.zero, i.size, i.bytes)) = some (some (.float .f32 0), 1, 4) := by kernel_rfl

theorem toF_any (A : Option Addr) (n c : Nat) (bs : List Nat) (w : World) (hn : n ≤ 1048576) (hr : Reads w A n bs) :
    Calls Try.prog 50 #[.slice A n c] w fun e w' => e = .returned (.slice (some ⟨w.heap.size, 0, none⟩) n n) ∧ OwnF w' w.heap.size 25 (.slice (some ⟨w.heap.size, 0, none⟩) n n) bs ∧ Ext w w' := by
  obtain ⟨i0, hi, hz0, hz1, hz2⟩ := info_parts infoF
  go_enter Try.func50, Try.ntmps50
  go_wp2_with (at_make; refine wpList_make_full _ rfl _ _ 22 rfl w.heap.size 25 i0 (.float .f32 0) 1 Try.underlying22 hi hz0 hz1 _ _ _ _ n rfl rfl rfl rfl (by rw [hz2]; omega) (by unfold maxLen; omega) (Nat.le_refl _) ?_)
  intro w1 hown hg
  have hb1 : Below w.heap.size w w1 := (Below.refl _ _).grown hg (Nat.le_refl _) (fun k hk => by cases hk)
  have hown0 : w1.ownsRow w.heap.size 25 1 (.slice (some ⟨w.heap.size, 0, none⟩) n n) n ((bs.take 0).map fl ++ List.replicate (n - 0) (fl 0)) := by
    rw [toList_madeCells_one] at hown
    exact hown
  clear hown hg
  go_wp2
  go_loopw [4] (fun i wr => ∃ k : Nat, k ≤ n ∧ i = .int .i64 k ∧ wr.ownsRow w.heap.size 25 1 (.slice (some ⟨w.heap.size, 0, none⟩) n n) n ((bs.take k).map fl ++ List.replicate (n - k) (fl 0)) ∧ Below w.heap.size w wr) (fun i _ => n - (intOf i).toNat)
  case atStart => exact ⟨0, Nat.zero_le _, rfl, hown0, hb1⟩
  case round =>
    clear hown0 hb1
    obtain ⟨k, hk, rfl, hown, hb⟩ := hrel
    by_cases hlt : k < n
    · obtain ⟨g, off, rfl, hl⟩ := (hr.2 (by omega))
      have hg := hl.lt (by rw [hr.1]; omega)
      have hc := (hl.below hb hg) k (by rw [hr.1]; omega)
      have hc2 : wr.cell? ⟨w.heap.size, k, none⟩ = some (fl 0) := by
        rw [hown.cellAt k (by omega), List.getElem?_append_right (by simp; omega)]
        have e1 : k - ((bs.take k).map fl).length = 0 := by have := hr.1; simp; omega
        rw [e1, List.getElem?_replicate, if_pos (by omega)]
      have hf := hown.frozenAt k
      have hs := hown.stored k (fl (bs.getD k 0))
      rw [set_step bs n k (fl 0) hlt hr.1] at hs
      have hb2 := hb.setCell (p := ⟨w.heap.size, k, none⟩) (Nat.le_refl _) (fl (bs.getD k 0))
      clear hl hown
      go_wp2
      go_roundw
      case rel => exact ⟨k + 1, by omega, by go_num, hs.1, hb2⟩
      case measure => simp [intOf]; omega
    · have e1 : k = n := by omega
      subst e1
      rw [Nat.sub_self, List.replicate_zero, List.append_nil, List.take_of_length_le (by rw [hr.1]; exact Nat.le_refl _)] at hown
      have hown' : OwnF wr w.heap.size 25 (.slice (some ⟨w.heap.size, 0, none⟩) k k) bs := by
        unfold OwnF; rw [hr.1]; exact hown
      go_wp2
      go_ret
      exact ⟨rfl, hown', hb⟩

@[go_sem] theorem hcv (w : World) (b : Nat) : (convert 25 41 (.float .f32 b)).run Try.prog w = .ok (.float .f64 (cvR w b)) (w.drewN (cvN b)) :=
  run_cv w _ _ b (by rw [Try.underlying25]; rfl) Try.underlying41

theorem eqF_any (A A' : Option Addr) (n n' c c' : Nat) (bs bs' : List Nat) (w : World) (hn : n ≤ maxLen) (hr : Reads w A n bs) (hr' : Reads w A' n' bs') (he : bs.map nrm = bs'.map nrm) :
    Calls Try.prog 57 #[.slice A n c, .slice A' n' c'] w fun e w' => e = .returned (.bool true) ∧ Ext w w' := by
  unfold maxLen at hn
  obtain rfl : n = n' := by
    have := congrArg List.length he
    simp only [List.length_map] at this
    rw [← hr.1, ← hr'.1, this]
  have hne : ((n : Int) != (n : Int)) = false := by simp
  go_enter Try.func57, Try.ntmps57
  go_wp2_with fail
  go_loopw [5] (fun i wr => ∃ k : Nat, k ≤ n ∧ i = .int .i64 k ∧ Ext w wr) (fun i _ => n - (intOf i).toNat)
  case atStart => exact ⟨0, Nat.zero_le _, rfl, Ext.refl _⟩
  case round =>
    obtain ⟨k, hk, rfl, hx⟩ := hrel
    by_cases hlt : k < n
    · have hlen := hr.1
      have hlen' := hr'.1
      obtain ⟨g, off, rfl, hl⟩ := (hr.2 (by omega))
      obtain ⟨g', off', rfl, hl'⟩ := (hr'.2 (by omega))
      have hc := hl.ext hx k (by omega)
      have hc' := hl'.ext hx k (by omega)
      have hs := getD_nrm he k (by omega)
      have HS := Lib.hid hs
      have HE := Lib.hid he
      clear hs he hl hl' hr hr' hlen hlen'
      generalize bs.getD k 0 = x at *
      generalize bs'.getD k 0 = y at *
      have h0 : (0 : Int) ≤ (k : Int) := by omega
      have h1 : (k : Int) < (n : Int) := by omega
      go_wp2_with fail
      refine region_wx 11 [] (by kernel_rfl) (by kernel_rfl) ?_
      simp only [List.take_succ_cons, List.take_zero, List.drop_succ_cons, List.drop_zero]
      repeat ((first | refine wx_skip rfl ?_ | refine wx_nilCheck rfl rfl _ rfl _ rfl ?_ | (refine wx_float rfl rfl _ _ _ _ _ _ _ rfl rfl rfl rfl ?_; intro r hr) | (refine wx_k rfl rfl rfl (fun K hK => ?_); go_big_quiet_op; refine hK _ ?_; clear hK K) | (refine wx_conv rfl rfl _ _ _ _ rfl rfl (by rw [Try.underlying25]; rfl) Try.underlying41 ?_; intro W1) | (refine wx_call rfl rfl 17 _ _ rfl (by kernel_rfl) (by kernel_rfl) (.bool true) (fun W hW hF => ?_) ?_; go_simp; refine (sameFloat_any _ _ _ (cv_same _ _ _ _ HS.out)).mono ?_; rintro e w' ⟨rfl, rfl⟩; exact ⟨rfl, Ext.refl _⟩)); (try simp only [Act.put, List.setIfInBounds_toArray, List.set_cons_zero, List.set_cons_succ]); (try simp only [List.tail_nil]))
      refine wx_nil (fun W hW hF => ?_)
      go_wp2
      go_roundw
      case rel => exact ⟨k + 1, by omega, by go_num, hx.trans hW⟩
      case measure => simp [intOf]; omega
    · go_wp2
      go_ret
      exact ⟨rfl, hx⟩
end Go.Proofs.Ytgpobhpcbgenoaa
