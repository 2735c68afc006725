/- Plain: the map of columns that cost least. -/
import Derived.Test.YthkfbmboiabolaaFSolveRows
import Derived.Test.YthkfbmboiabolaaSwapI
namespace Go.Proofs.Ythkfbmboiabolaa
open Go.RowKit
set_option linter.unusedVariables false

theorem rowsF_nrm (wn dn p0 p1 : Nat) (b : List Nat) : rowsF wn dn p0 p1 (b.map nrm) = rowsF wn dn p0 p1 b := by
  funext x y
  unfold rowsF
  rw [rowC_nrm]
theorem rowsOk_nrm (wn hn dn : Nat) (b : List Nat) : RowsOk wn hn dn (b.map nrm) ↔ RowsOk wn hn dn b := by
  unfold RowsOk
  simp only [rowC_nrm]
theorem RowsSay.of {wn hn dn p0 p1 : Nat} {b S : List Nat} {w h : Int} {L : List Nat} {o : Bool} (hs : RowsSay wn hn dn p0 p1 S w h L o) (hb : b.map nrm = S) : RowsSay wn hn dn p0 p1 b w h L o := by
  subst hb
  unfold RowsSay at hs ⊢
  rw [rowsF_nrm, rowsOk_nrm] at hs
  exact hs
/-- The value of a cell of the map of columns. -/
def colsF (wn hn dn p0 p1 : Nat) (bs : List Nat) (x y : Nat) : Nat := rowsF hn dn p0 p1 (swapL wn hn dn bs) y x
def ColsOk (wn hn dn : Nat) (bs : List Nat) : Prop := RowsOk hn wn dn (swapL wn hn dn bs)
theorem isN_rowsF (wn dn p0 p1 : Nat) (bs : List Nat) (x y : Nat) : isN (rowsF wn dn p0 p1 bs x y) = false := isN_ofInt _
theorem rowsF_lt (wn dn p0 p1 : Nat) (bs : List Nat) (x y : Nat) : rowsF wn dn p0 p1 bs x y < 4294967296 := ofInt_lt _
theorem is_of_nrm {r X : Nat} (h : nrm r = X) (hX : isN X = false) (hl : X < 4294967296) : Is r X := by
  have h1 : isN r = false := by rw [← isN_nrm, h]; exact hX
  have h2 : r = X := by rw [← h, nrm_of _ h1]
  exact ⟨by rw [h2]; exact hl, h⟩
theorem cells_getD (F : Nat → Nat → Nat) (w h x y : Nat) (hx : x < w) (hy : y < h) : (cells F w (w * h)).getD (x + w * y) 0 = F x y := by
  have h1 : x + w * y < w * h := by
    have : w * (y + 1) ≤ w * h := Nat.mul_le_mul_left _ hy
    rw [Nat.mul_add] at this
    omega
  have h2 : (x + w * y) % w = x := by rw [Nat.add_mul_mod_self_left, Nat.mod_eq_of_lt hx]
  have h3 : (x + w * y) / w = y := by rw [Nat.add_mul_div_left _ _ (by omega), Nat.div_eq_of_lt hx, Nat.zero_add]
  unfold cells
  simp [List.getD, h1, h2, h3]
/-- The word of a map of rows. -/
theorem map_word {b : List Nat} {F : Nat → Nat → Nat} {w h x y : Nat} (hb : b.map nrm = cells F w (w * h)) (hx : x < w) (hy : y < h) : x + w * y < b.length ∧ nrm (b.getD (x + w * y) 0) = F x y := by
  have hl : b.length = w * h := by have := congrArg List.length hb; rw [List.length_map, cells_length] at this; exact this
  have h1 : x + w * y < w * h := by
    have : w * (y + 1) ≤ w * h := Nat.mul_le_mul_left _ hy
    rw [Nat.mul_add] at this
    omega
  refine ⟨by omega, ?_⟩
  have h2 : nrm (b.getD (x + w * y) 0) = (b.map nrm).getD (x + w * y) 0 := by simp [List.getD_eq_getElem?_getD, List.getElem?_eq_getElem (show x + w * y < b.length by omega)]
  rw [h2, hb, cells_getD F w h x y hx hy]
theorem words_le {wn hn : Nat} (h1 : wn ≤ 24) (h2 : hn ≤ 24) : wn * hn ≤ 576 := Nat.le_trans (Nat.mul_le_mul h1 h2) (by omega)
end Go.Proofs.Ythkfbmboiabolaa
