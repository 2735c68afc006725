/- A region whose order is left open, two parts of a tuple taken ahead of a store that need not wait for them. No program in sight. -/
import Derived.Test.YthkfbmboiabolaaEdge
namespace Go.Proofs.Ythkfbmboiabolaa
open Go.RowKit
set_option linter.unusedVariables false

theorem region_we2 {P : Program} {id : Nat} {Q : Exit → Act → World → Prop} {a : Act} {w : World} {l : List Oper} (i i' j n : Nat) (ql : List (Option (Value → World → Prop))) (hm : P.follows .mixedOrders = true) (hE : edgeB l i j = true)
    (hE' : edgeB (addEdge i j l) i' j = true) (hB : orderB (addEdge i' j (addEdge i j l)).toArray [] n (List.range' n ((addEdge i' j (addEdge i j l)).length - n)) = true)
    (h : wx P (addEdge i' j (addEdge i j l)).toArray w (fun a' W => wpList P (addEdge i' j (addEdge i j l)).toArray (NoPanic Q) ((addEdge i' j (addEdge i j l)).drop n) a' W) ((addEdge i' j (addEdge i j l)).take n) 0 ql noFacts a) : (Code.region id l.toArray true).wp P Q a w := by
  refine wp_region_noPanic (wp_region_any hm (wpAny_edge hE Q _ _ _ _ (by simp) (wpAny_edge hE' Q _ _ _ _ (by simp [addEdge_length]) ?_)))
  have := wpAny_Y n ql hB h
  rw [show (addEdge i' j (addEdge i j l)).toArray.size = l.toArray.size by simp [addEdge_length]] at this
  exact this
end Go.Proofs.Ythkfbmboiabolaa
