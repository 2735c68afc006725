/- Contracts: the price of a jump. -/
import Derived.Test.YthkfbmboiabolaaFunc
import Derived.Test.YthkfbmboiabolaaValid
namespace Go.Proofs.Ythkfbmboiabolaa
open Go.RowKit
set_option linter.unusedVariables false

/-- The price of a jump from a to b. -/
def priceX (p0 p1 : Nat) (a b : Int) : Nat := if a = b then 0 else if a = b + 1 ∨ b = a + 1 then p0 else p1
theorem priceX_lt {p0 p1 : Nat} (h0 : p0 < 4294967296) (h1 : p1 < 4294967296) (a b : Int) : priceX p0 p1 a b < 4294967296 := by unfold priceX; split <;> (try split) <;> omega

theorem l04Price_any (g p0 p1 : Nat) (a b : Int) (W : World) (ha0 : 0 ≤ a) (ha1 : a ≤ 7) (hb0 : 0 ≤ b) (hb1 : b ≤ 7) (hc0 : W.cell? ⟨g, 0, none⟩ = some (.float .f32 p0)) (hc1 : W.cell? ⟨g, 1, none⟩ = some (.float .f32 p1)) :
    Calls Try.prog 48 #[.pointer (some ⟨g, 0, none⟩), .int .i64 a, .int .i64 b] W fun e W' => e = .returned (.float .f32 (priceX p0 p1 a b)) ∧ W = W' := by
  by_cases h1 : a = b
  · have hx : priceX p0 p1 a b = 0 := by unfold priceX; rw [if_pos h1]
    rw [hx]
    subst h1
    go_enter Try.func48, Try.ntmps48
    go_wp2
    go_ret
    exact ⟨rfl, rfl⟩
  · have h1' : (a == b) = false := by simpa using h1
    by_cases h2 : a = b + 1
    · have hx : priceX p0 p1 a b = p0 := by unfold priceX; rw [if_neg h1, if_pos (.inl h2)]
      rw [hx]
      have h2' : (a == b + 1) = true := by simpa using h2
      clear hx h1 h2
      go_enter Try.func48, Try.ntmps48
      go_wp2
      go_ret
      exact ⟨rfl, rfl⟩
    · have h2' : (a == b + 1) = false := by simpa using h2
      by_cases h3 : b = a + 1
      · have hx : priceX p0 p1 a b = p0 := by unfold priceX; rw [if_neg h1, if_pos (.inr h3)]
        rw [hx]
        have h3' : (b == a + 1) = true := by simpa using h3
        clear hx h1 h2 h3
        go_enter Try.func48, Try.ntmps48
        go_wp2
        go_ret
        exact ⟨rfl, rfl⟩
      · have hx : priceX p0 p1 a b = p1 := by unfold priceX; rw [if_neg h1, if_neg (by omega)]
        rw [hx]
        have h3' : (b == a + 1) = false := by simpa using h3
        clear hx h1 h2 h3
        go_enter Try.func48, Try.ntmps48
        go_wp2
        go_ret
        exact ⟨rfl, rfl⟩
theorem price_any (p0 p1 : Nat) (a b : Int) (W : World) (ha0 : 0 ≤ a) (ha1 : a ≤ 7) (hb0 : 0 ≤ b) (hb1 : b ≤ 7) :
    Calls Try.prog 53 #[.agg #[.float .f32 p0, .float .f32 p1], .int .i64 a, .int .i64 b] W fun e W' => e = .returned (.float .f32 (priceX p0 p1 a b)) ∧ Ext W W' := by
  have hw : IntKind.i64.wrap (a - b) = a - b := wrap_small _ (by omega) (by omega)
  by_cases h1 : a = b
  · have hx : priceX p0 p1 a b = 0 := by unfold priceX; rw [if_pos h1]
    rw [hx]
    have h1' : (a - b == 0) = true := by simp; omega
    clear hx h1
    go_enter Try.func53, Try.ntmps53
    go_wp2
    go_ret
    exact ⟨rfl, (Ext.refl _).alloc _⟩
  · have h1' : (a - b == 0) = false := by simp; omega
    by_cases h2 : a = b + 1
    · have hx : priceX p0 p1 a b = p0 := by unfold priceX; rw [if_neg h1, if_pos (.inl h2)]
      rw [hx]
      have h2' : (a - b == 1) = true := by simp; omega
      clear hx h1 h2
      go_enter Try.func53, Try.ntmps53
      go_wp2
      go_ret
      exact ⟨rfl, (Ext.refl _).alloc _⟩
    · have h2' : (a - b == 1) = false := by simp; omega
      by_cases h3 : b = a + 1
      · have hx : priceX p0 p1 a b = p0 := by unfold priceX; rw [if_neg h1, if_pos (.inr h3)]
        rw [hx]
        have h3' : (a - b == -1) = true := by simp; omega
        clear hx h1 h2 h3
        go_enter Try.func53, Try.ntmps53
        go_wp2
        go_ret
        exact ⟨rfl, (Ext.refl _).alloc _⟩
      · have hx : priceX p0 p1 a b = p1 := by unfold priceX; rw [if_neg h1, if_neg (by omega)]
        rw [hx]
        have h3' : (a - b == -1) = false := by simp; omega
        clear hx h1 h2 h3
        go_enter Try.func53, Try.ntmps53
        go_wp2
        go_ret
        exact ⟨rfl, (Ext.refl _).alloc _⟩
end Go.Proofs.Ythkfbmboiabolaa
