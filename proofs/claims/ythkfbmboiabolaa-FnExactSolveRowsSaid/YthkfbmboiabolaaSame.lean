/- Contracts: whether two numbers, two lists are the same. -/
import Derived.Test.YthkfbmboiabolaaFin
import Derived.Laws.Externs
namespace Go.Proofs.Ythkfbmboiabolaa
open Go.RowKit
set_option linter.unusedVariables false

theorem callsExt0 {P : Program} {f : FuncId} {args : Array Value} {W : World} {v : Value} (h : Calls P f args W fun e W' => e = .returned v ∧ W = W') : Calls P f args W fun e W' => e = .returned v ∧ Ext W W' :=
  h.mono fun _ _ ⟨he, hw⟩ => ⟨he, by rw [hw]; exact Ext.refl _⟩
theorem order_ne (b : Nat) : (FloatKind.f32.format.order b b != some .eq) = isN b := by
  show (Ieee.single.order b b != some .eq) = isN b
  cases h : isN b with
  | true =>
    have := order_nan_left b b h
    unfold fcmp at this
    rw [this]; rfl
  | false => rw [order_self b h]; rfl
/-- Two lists are the same. -/
def sameL (xs bs : List Nat) : Bool := decide (xs.map nrm = bs.map nrm)
theorem sameL_len {xs bs : List Nat} (h : xs.length ≠ bs.length) : sameL xs bs = false := by
  unfold sameL
  rw [decide_eq_false_iff_not]
  intro he
  exact h (by simpa using congrArg List.length he)
theorem sameL_at {xs bs : List Nat} (k : Nat) (ha : k < xs.length) (hb : k < bs.length) (h : nrm (xs.getD k 0) ≠ nrm (bs.getD k 0)) : sameL xs bs = false := by
  unfold sameL
  rw [decide_eq_false_iff_not]
  intro he
  have h1 : (xs.map nrm)[k]? = (bs.map nrm)[k]? := by rw [he]
  rw [List.getElem?_map, List.getElem?_map, List.getElem?_eq_getElem ha, List.getElem?_eq_getElem hb] at h1
  simp only [List.getD, List.getElem?_eq_getElem ha, List.getElem?_eq_getElem hb, Option.getD_some] at h
  exact h (by simpa using h1)
theorem sameL_all {xs bs : List Nat} (hl : xs.length = bs.length) (h : ∀ k, k < xs.length → nrm (xs.getD k 0) = nrm (bs.getD k 0)) : sameL xs bs = true := by
  unfold sameL
  rw [decide_eq_true_eq]
  refine List.ext_getElem (by simpa using hl) fun k h1 h2 => ?_
  have h1' : k < xs.length := by simpa using h1
  have h2' : k < bs.length := by simpa using h2
  have := h k h1'
  simpa [List.getD, List.getElem?_eq_getElem h1', List.getElem?_eq_getElem h2'] using this
theorem word_at {bs : List Nat} (h : Words bs) (k : Nat) : bs.getD k 0 < 4294967296 := by
  rw [List.getD_eq_getElem?_getD]
  cases hk : bs[k]? with
  | none => simp
  | some v => exact h v (List.mem_of_getElem? hk)
end Go.Proofs.Ythkfbmboiabolaa
