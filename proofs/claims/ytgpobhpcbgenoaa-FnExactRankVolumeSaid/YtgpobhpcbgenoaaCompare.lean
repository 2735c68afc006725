/- Contracts: the volumes of squares and of sizes. -/
import Derived.Test.YtgpobhpcbgenoaaPair
import Derived.Test.YtgpobhpcbgenoaaSpecV
import Derived.Test.YtgpobhpcbgenoaaAcc2
import Derived.Test.YtgpobhpcbgenoaaAbs
namespace Go.Proofs.Ytgpobhpcbgenoaa
open Go.RowKit
set_option linter.unusedVariables false

/-- The difference of two greys. -/
def difF (wn hn : Nat) (ls rs : List Nat) (x y e : Nat) : Nat := fop .sub (ls.getD (cellN wn (clampI (x : Int) wn) (clampI (y : Int) hn)) 0) (rs.getD (cellN wn (clampI ((x : Int) - (e : Int)) wn) (clampI (y : Int) hn)) 0)
theorem cell_fresh0 (w : World) (t : TypeId) (r : Value) : (w.alloc (.cells #[r] t)).cell? ⟨w.heap.size, 0, none⟩ = some r := by
  simp [go_sem]
theorem cell_fresh (w : World) (k : Nat) (t : TypeId) (r : Value) : ((w.drewN k).alloc (.cells #[r] t)).cell? ⟨w.heap.size, 0, none⟩ = some r := cell_fresh0 (w.drewN k) t r
theorem wl_at {P : Program} {ops : Array Oper} {Q : Exit → Act → World → Prop} {l : List Oper} {a : Act} {w : World} {X : World → Prop} (hX : X w) (h : ∀ w', X w' → wpList P ops Q l a w') : wpList P ops Q l a w := h w hX
end Go.Proofs.Ytgpobhpcbgenoaa
