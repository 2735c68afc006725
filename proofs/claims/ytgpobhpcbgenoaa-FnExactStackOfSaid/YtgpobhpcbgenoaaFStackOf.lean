/- The law on StackOf holds. -/
import Derived.Test.YtgpobhpcbgenoaaStkS
import Derived.Test.YtgpobhpcbgenoaaStkC
import Derived.Test.YtgpobhpcbgenoaaCStackOf
namespace Go.Proofs.Ytgpobhpcbgenoaa
open Go.RowKit
set_option linter.unusedVariables false

theorem lawStackOf_any (W : World) (A : Option Addr) (n m : Nat) (ws ht : Nat → Int) (bs : Nat → List Nat) (hc : n ≤ m) (hm : m ≤ maxLen) (hr : ReadsP W A n ws ht bs) (hbw : ∀ i, i < n → (bs i).length ≤ maxLen ∧ Words (bs i)) :
    Calls Try.prog 7 #[.slice A n m] W fun e W' => e = .returned (.bool true) ∧ Ext W W' := by
  have hn : n ≤ maxLen := Nat.le_trans hc hm
  have hb := fun i hi => (hbw i hi).1
  have hw := fun i hi => (hbw i hi).2
  by_cases hok : StkOk n ws ht bs
  · refine lawStackOf_core W A n m ws ht bs hn hb hr (ws 0) (ht 0) n (stkL n bs) (fun _ => ?_) true (fun w D hq hd => ?_) (fun w D hq hd => ?_)
    · rw [stkL_length]
      exact Nat.le_trans (Nat.mul_le_mul hok.n0.2 hok.1.2) (by omega)
    · exact specStackOf_any D n n ws ht bs w _ hq hb hd (fun h => absurd hok h) (fun _ U' A' c' b h1 h2 h3 => ⟨A', c', b, rfl, h1, h2, h3⟩)
    · exact implStackOf_any D n n ws ht bs w _ hq hb hw hd (fun h => absurd hok h) (fun _ U' A' c' b h1 h2 h3 => ⟨A', c', b, rfl, h1, h2, h3⟩)
  · refine lawStackOf_core W A n m ws ht bs hn hb hr 0 0 0 [] (fun _ => by simp) false (fun w D hq hd => ?_) (fun w D hq hd => ?_)
    · exact specStackOf_any D n n ws ht bs w _ hq hb hd (fun _ U' hx => ⟨none, 0, [], rfl, OwnF.nil _ _ _, rfl, hx⟩) (fun h => absurd h hok)
    · exact implStackOf_any D n n ws ht bs w _ hq hb hw hd (fun _ U' hx => ⟨none, 0, [], rfl, OwnF.nil _ _ _, rfl, hx⟩) (fun h => absurd h hok)
end Go.Proofs.Ytgpobhpcbgenoaa
