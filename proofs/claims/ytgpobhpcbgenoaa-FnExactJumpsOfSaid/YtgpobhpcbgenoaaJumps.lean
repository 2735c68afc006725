/- Contracts: how often a whole map jumps. -/
import Derived.Test.YtgpobhpcbgenoaaInts
import Derived.Test.YtgpobhpcbgenoaaLocalC
namespace Go.Proofs.Ytgpobhpcbgenoaa
open Go.RowKit
set_option linter.unusedVariables false

/-- Which jump it is. -/
def kj (a b : Nat) : Nat := if a = b then 0 else if a = b + 1 ∨ b = a + 1 then 1 else 2
theorem kj_lt (a b : Nat) : kj a b < 3 := by unfold kj; split <;> (try split) <;> omega
def bump (k : Nat) (zs : List Int) : List Int := zs.set k (zs.getD k 0 + 1)
theorem bump_len (k : Nat) (zs : List Int) : (bump k zs).length = zs.length := by simp [bump]
theorem bump_get (k i : Nat) (zs : List Int) (M : Int) (h : ∀ i, 0 ≤ zs.getD i 0 ∧ zs.getD i 0 ≤ M) : 0 ≤ (bump k zs).getD i 0 ∧ (bump k zs).getD i 0 ≤ M + 1 := by
  have h1 := h i
  have h2 := h k
  unfold bump
  simp only [List.getD_eq_getElem?_getD, List.getElem?_set] at *
  split
  · split
    · simp only [Option.getD_some]; omega
    · simp only [Option.getD_none]; omega
  · omega
noncomputable def jmpSt (wn hn : Nat) (bs2 : List Nat) (j k : Nat) (zs : List Int) : List Int :=
  (if k + 1 < hn then bump (kj (digit (bs2.getD (cellN wn (j : Int) (k : Int)) 0)) (digit (bs2.getD (cellN wn (j : Int) ((k : Int) + 1)) 0))) (if j + 1 < wn then bump (kj (digit (bs2.getD (cellN wn (j : Int) (k : Int)) 0)) (digit (bs2.getD (cellN wn ((j : Int) + 1) (k : Int)) 0))) zs else zs) else (if j + 1 < wn then bump (kj (digit (bs2.getD (cellN wn (j : Int) (k : Int)) 0)) (digit (bs2.getD (cellN wn ((j : Int) + 1) (k : Int)) 0))) zs else zs))
noncomputable def jmpTo (wn hn : Nat) (bs2 : List Nat) : Nat → List Int
  | 0 => [0, 0, 0]
  | i + 1 => jmpSt wn hn bs2 (i % wn) (i / wn) (jmpTo wn hn bs2 i)
theorem jmpTo_at {wn hn : Nat} {bs2 : List Nat} {j k : Nat} (hj : j < wn) : jmpTo wn hn bs2 (k * wn + j + 1) = jmpSt wn hn bs2 j k (jmpTo wn hn bs2 (k * wn + j)) := by
  rw [jmpTo, Nat.mul_comm k wn, Nat.mul_add_mod, Nat.mod_eq_of_lt hj, Nat.mul_add_div (by omega), Nat.div_eq_of_lt hj, Nat.add_zero]
theorem jmpTo_len (wn hn : Nat) (bs2 : List Nat) : ∀ i, (jmpTo wn hn bs2 i).length = 3
  | 0 => rfl
  | i + 1 => by
    rw [jmpTo]; unfold jmpSt
    split <;> split <;> simp only [bump_len, jmpTo_len wn hn bs2 i]
theorem jmpTo_le (wn hn : Nat) (bs2 : List Nat) : ∀ (t i : Nat), 0 ≤ (jmpTo wn hn bs2 t).getD i 0 ∧ (jmpTo wn hn bs2 t).getD i 0 ≤ 2 * (t : Int)
  | 0, i => by
    rw [jmpTo]
    match i with
    | 0 => simp
    | 1 => simp
    | 2 => simp
    | i + 3 => simp
  | t + 1, i => by
    have ih := jmpTo_le wn hn bs2 t
    have h1 := fun k i => bump_get k i (jmpTo wn hn bs2 t) _ ih
    rw [jmpTo]; unfold jmpSt
    split <;> split
    · have h2 := bump_get (kj (digit (bs2.getD (cellN wn ((t % wn : Nat) : Int) ((t / wn : Nat) : Int)) 0)) (digit (bs2.getD (cellN wn ((t % wn : Nat) : Int) (((t / wn : Nat) : Int) + 1)) 0))) i (bump (kj (digit (bs2.getD (cellN wn ((t % wn : Nat) : Int) ((t / wn : Nat) : Int)) 0)) (digit (bs2.getD (cellN wn (((t % wn : Nat) : Int) + 1) ((t / wn : Nat) : Int)) 0))) (jmpTo wn hn bs2 t)) _ (fun i => h1 _ i)
      omega
    · have h2 := h1 (kj (digit (bs2.getD (cellN wn ((t % wn : Nat) : Int) ((t / wn : Nat) : Int)) 0)) (digit (bs2.getD (cellN wn ((t % wn : Nat) : Int) (((t / wn : Nat) : Int) + 1)) 0))) i
      omega
    · have h2 := h1 (kj (digit (bs2.getD (cellN wn ((t % wn : Nat) : Int) ((t / wn : Nat) : Int)) 0)) (digit (bs2.getD (cellN wn (((t % wn : Nat) : Int) + 1) ((t / wn : Nat) : Int)) 0))) i
      omega
    · have h2 := ih i
      omega
/-- One of three counters. -/
theorem three {w : World} {B g c : Nat} {e : TypeId} {zs : List Int} (h : OwnI w B e (.slice (some ⟨g, 0, none⟩) 3 c) zs) : (w.cell? ⟨g, 0, none⟩ = some (it (zs.getD 0 0)) ∧ w.cell? ⟨g, 1, none⟩ = some (it (zs.getD 1 0)) ∧ w.cell? ⟨g, 2, none⟩ = some (it (zs.getD 2 0))) ∧ (w.frozen? ⟨g, 0, none⟩ = false ∧ w.frozen? ⟨g, 1, none⟩ = false ∧ w.frozen? ⟨g, 2, none⟩ = false) := by
  have hl := h.len
  exact ⟨⟨h.cell (by omega), h.cell (by omega), h.cell (by omega)⟩, h.cool 0, h.cool 1, h.cool 2⟩
theorem cell_freshI (w : World) (t : TypeId) (r : Value) : (w.alloc (.cells #[r] t)).cell? ⟨w.heap.size, 0, none⟩ = some r := by
  simp [go_sem]
theorem l04Count_any (g c : Nat) (zs : List Int) (a b : Nat) (ha : a < 8) (hb : b < 8) (B : Nat) (e : TypeId) (U : World) (ho : OwnI U B e (.slice (some ⟨g, 0, none⟩) 3 c) zs) (hz : ∀ i, 0 ≤ zs.getD i 0 ∧ zs.getD i 0 ≤ 100000) :
    Calls Try.prog 58 #[.slice (some ⟨g, 0, none⟩) 3 c, .int .i64 a, .int .i64 b] U fun e' U' => e' = .returned (.tuple #[]) ∧ U' = U.setCell ⟨g, kj a b, none⟩ (it (zs.getD (kj a b) 0 + 1)) := by
  obtain ⟨⟨c0, c1, c2⟩, f0, f1, f2⟩ := three ho
  have w0 : IntKind.i64.wrap (zs.getD 0 0 + 1) = zs.getD 0 0 + 1 := wrap_small _ (by have := hz 0; omega) (by have := hz 0; omega)
  have w1 : IntKind.i64.wrap (zs.getD 1 0 + 1) = zs.getD 1 0 + 1 := wrap_small _ (by have := hz 1; omega) (by have := hz 1; omega)
  have w2 : IntKind.i64.wrap (zs.getD 2 0 + 1) = zs.getD 2 0 + 1 := wrap_small _ (by have := hz 2; omega) (by have := hz 2; omega)
  have wa : IntKind.i64.wrap ((a : Int) + 1) = (a : Int) + 1 := wrap_small _ (by omega) (by omega)
  have wb : IntKind.i64.wrap ((b : Int) + 1) = (b : Int) + 1 := wrap_small _ (by omega) (by omega)
  clear ho hz
  by_cases h0 : a = b
  · rw [show kj a b = 0 by unfold kj; rw [if_pos h0]]
    generalize zs.getD 0 0 = z0 at *
    generalize zs.getD 1 0 = z1 at *
    generalize zs.getD 2 0 = z2 at *
    have e0 : ((a : Int) == (b : Int)) = true := by simp [h0]
    clear h0
    go_enter Try.func58, Try.ntmps58
    go_wp2
    go_end0
    exact ⟨rfl, rfl⟩
  · have e0 : ((a : Int) == (b : Int)) = false := by simp; omega
    by_cases h1 : a = b + 1
    · rw [show kj a b = 1 by unfold kj; rw [if_neg h0, if_pos (.inl h1)]]
      generalize zs.getD 0 0 = z0 at *
      generalize zs.getD 1 0 = z1 at *
      generalize zs.getD 2 0 = z2 at *
      have e1 : ((a : Int) == (b : Int) + 1) = true := by simp; omega
      clear h0 h1
      go_enter Try.func58, Try.ntmps58
      go_wp2
      go_end0
      exact ⟨rfl, rfl⟩
    · have e1 : ((a : Int) == (b : Int) + 1) = false := by simp; omega
      by_cases h2 : b = a + 1
      · rw [show kj a b = 1 by unfold kj; rw [if_neg h0, if_pos (.inr h2)]]
        generalize zs.getD 0 0 = z0 at *
        generalize zs.getD 1 0 = z1 at *
        generalize zs.getD 2 0 = z2 at *
        have e2 : ((b : Int) == (a : Int) + 1) = true := by simp; omega
        clear h0 h1 h2
        go_enter Try.func58, Try.ntmps58
        go_wp2
        go_end0
        exact ⟨rfl, rfl⟩
      · rw [show kj a b = 2 by unfold kj; rw [if_neg h0, if_neg (by omega)]]
        generalize zs.getD 0 0 = z0 at *
        generalize zs.getD 1 0 = z1 at *
        generalize zs.getD 2 0 = z2 at *
        have e2 : ((b : Int) == (a : Int) + 1) = false := by simp; omega
        clear h0 h1 h2
        go_enter Try.func58, Try.ntmps58
        go_wp2
        go_end0
        exact ⟨rfl, rfl⟩
theorem l04Count_ext (w1 : World) (g c : Nat) (zs : List Int) (a b : Nat) (ha : a < 8) (hb : b < 8) (B : Nat) (e : TypeId) (U : World) (hE : Ext w1 U) (hg : w1.heap.size ≤ g) (ho : OwnI U B e (.slice (some ⟨g, 0, none⟩) 3 c) zs) (hz : ∀ i, 0 ≤ zs.getD i 0 ∧ zs.getD i 0 ≤ 100000) :
    Calls Try.prog 58 #[.slice (some ⟨g, 0, none⟩) 3 c, .int .i64 a, .int .i64 b] U fun e' U' => e' = .returned (.tuple #[]) ∧ OwnI U' B e (.slice (some ⟨g, 0, none⟩) 3 c) (bump (kj a b) zs) ∧ Ext w1 U' :=
  (l04Count_any g c zs a b ha hb B e U ho hz).mono fun e' U' h => ⟨h.1, by rw [h.2]; exact ho.put _ _, by rw [h.2]; exact hE.setCell (by dsimp only; omega) _⟩
theorem count_any (g c gc : Nat) (zs : List Int) (a b : Nat) (ha : a < 8) (hb : b < 8) (B : Nat) (e : TypeId) (U : World) (hbox : U.cell? ⟨gc, 0, none⟩ = some (.slice (some ⟨g, 0, none⟩) 3 c)) (ho : OwnI U B e (.slice (some ⟨g, 0, none⟩) 3 c) zs) (hz : ∀ i, 0 ≤ zs.getD i 0 ∧ zs.getD i 0 ≤ 100000) :
    Calls Try.prog 60 #[.int .i64 a, .int .i64 b, .pointer (some ⟨gc, 0, none⟩)] U fun e' U' => e' = .returned (.tuple #[]) ∧ U' = U.setCell ⟨g, kj a b, none⟩ (it (zs.getD (kj a b) 0 + 1)) := by
  have hk3 := kj_lt a b
  have hc : U.cell? ⟨g, kj a b, none⟩ = some (it (zs.getD (kj a b) 0)) := ho.cell (by have := ho.len; omega)
  have hf : U.frozen? ⟨g, kj a b, none⟩ = false := ho.cool _
  have w0 : IntKind.i64.wrap (zs.getD (kj a b) 0 + 1) = zs.getD (kj a b) 0 + 1 := wrap_small _ (by have := hz (kj a b); omega) (by have := hz (kj a b); omega)
  have wa : IntKind.i64.wrap ((a : Int) - (b : Int)) = (a : Int) - (b : Int) := wrap_small _ (by omega) (by omega)
  have wb : IntKind.i64.wrap ((b : Int) - (a : Int)) = (b : Int) - (a : Int) := wrap_small _ (by omega) (by omega)
  clear ho hz
  have HKD := Lib.hid (show kj a b = kj a b from rfl)
  rcases (show (((a : Int) - (b : Int) < (b : Int) - (a : Int)) ∧ ((b : Int) - (a : Int) ≤ 2) ∧ kj a b = b - a) ∨ (((a : Int) - (b : Int) < (b : Int) - (a : Int)) ∧ (2 < (b : Int) - (a : Int)) ∧ kj a b = 2) ∨ ((¬ (a : Int) - (b : Int) < (b : Int) - (a : Int)) ∧ ((a : Int) - (b : Int) ≤ 2) ∧ kj a b = a - b) ∨ ((¬ (a : Int) - (b : Int) < (b : Int) - (a : Int)) ∧ (2 < (a : Int) - (b : Int)) ∧ kj a b = 2) by
    unfold kj; split <;> (try split) <;> omega) with ⟨i1, i2, hk⟩ | ⟨i1, i2, hk⟩ | ⟨i1, i2, hk⟩ | ⟨i1, i2, hk⟩
  all_goals
    rw [hk] at hc hf w0 hk3 ⊢
    clear hk HKD
  · generalize zs.getD (b - a) 0 = z0 at *
    go_enter Try.func60, Try.ntmps60
    go_wp2
    go_end0
    exact ⟨rfl, rfl⟩
  · generalize zs.getD 2 0 = z0 at *
    go_enter Try.func60, Try.ntmps60
    go_wp2
    go_end0
    exact ⟨rfl, rfl⟩
  · generalize zs.getD (a - b) 0 = z0 at *
    go_enter Try.func60, Try.ntmps60
    go_wp2
    go_end0
    exact ⟨rfl, rfl⟩
  · generalize zs.getD 2 0 = z0 at *
    go_enter Try.func60, Try.ntmps60
    go_wp2
    go_end0
    exact ⟨rfl, rfl⟩
theorem infoJ : (Try.prog.info? 2).map (fun i => (i.zero, i.size, i.bytes)) = some (some (.int .i64 0), 1, 8) := by kernel_rfl
set_option maxHeartbeats 8000000 in
set_option maxRecDepth 8000 in
theorem implJumpsOf_yes (wn hn dn gb off n c gb2 off2 n2 c2 : Nat) (bs2 : List Nat) (hnm : n ≤ maxLen) (hn2m : n2 ≤ maxLen) (U : World) (hl2 : Lies U gb2 off2 bs2) (hlen2 : bs2.length = n2) (hw2 : Words bs2) (hv : VVol wn hn dn n) (hm : VMap wn hn n2) (hall : bs2.all (whole dn) = true) :
    Calls Try.prog 21 #[.agg #[.int .i64 wn, .int .i64 hn, .int .i64 dn, .slice (some ⟨gb, off, none⟩) n c], .agg #[.int .i64 wn, .int .i64 hn, .slice (some ⟨gb2, off2, none⟩) n2 c2]] U fun e U' => ∃ A' c' b', e = .returned (.tuple #[.slice A' b'.length c', .bool true]) ∧ OwnI U' U.heap.size 2 (.slice A' b'.length c') b' ∧ Eqi b' (jmpTo wn hn bs2 (hn * wn)) ∧ Ext U U' := by
  obtain ⟨i0, hi, hz0, hz1, hz2⟩ := info_parts infoJ
  have hd8 : dn ≤ 8 := by have := hv.2.2.1; omega
  have hd0 : 0 < dn := by have := hv.2.1; omega
  have hw24 : wn ≤ 24 := by have := hv.1.2.1; omega
  have hh24 : hn ≤ 24 := by have := hv.1.2.2.2.1; omega
  have HZ := Lib.hid (fun (j k i : Nat) (hj : j < wn) (hk : k < hn) => (by
    have := jmpTo_le wn hn bs2 (k * wn + j) i
    have h3 : k * wn + j ≤ 24 * 24 + 24 := by have := Nat.mul_le_mul (show k ≤ 24 by omega) hw24; omega
    omega : 0 ≤ (jmpTo wn hn bs2 (k * wn + j)).getD i 0 ∧ (jmpTo wn hn bs2 (k * wn + j)).getD i 0 ≤ 90000))
  have HLJ := Lib.hid (jmpTo_len wn hn bs2)
  have HWH := Lib.hid (fun (W : World) (hE : Ext U W) => (by have t := implIsWhole_yes wn hn dn (some ⟨gb, off, none⟩) n c (some ⟨gb2, off2, none⟩) n2 c2 bs2 hnm hn2m hv hm W ⟨hlen2, fun _ => ⟨gb2, off2, rfl, hl2.ext hE⟩⟩ hw2; rw [hall] at t; exact t : Calls Try.prog 51 #[.agg #[.int .i64 wn, .int .i64 hn, .int .i64 dn, .slice (some ⟨gb, off, none⟩) n c], .agg #[.int .i64 wn, .int .i64 hn, .slice (some ⟨gb2, off2, none⟩) n2 c2]] W fun e W' => e = .returned (.bool true) ∧ Ext W W'))
  have HV := Lib.hid (fun (W : World) (hE : Ext U W) (hM : Box3 W (U.heap.size + 1) (.int .i64 wn) (.int .i64 hn) (.slice (some ⟨gb2, off2, none⟩) n2 c2)) (u w : Int) (hu : 0 ≤ u ∧ u ≤ (wn : Int) - 1) (hw' : 0 ≤ w ∧ w ≤ (hn : Int) - 1) => (⟨whole_any (U.heap.size + 1) wn hn dn gb2 off2 n2 c2 bs2 u w W hM (hl2.ext hE) hlen2 hn2m hw2 hm hd0 hd8 hall hu hw', (digit_lt (wd_at2 hw2 (cellN wn u w)) hd0 hd8 (all_at hall (by rw [hlen2]; exact (cellN_eq hm hu.1 hu.2 hw'.1 hw'.2).2.1))).1⟩ : _ ∧ digit (bs2.getD (cellN wn u w) 0) < dn))
  have HSZ := Lib.hid hm.1
  have hent := fun (args : Array Value) (W : World) => enters_any (P := Try.prog) (g := 60) (by kernel_rfl) args W
  have HD8 := Lib.hid hd8
  clear hl2 hlen2 hw2 hv hm hall hnm hn2m hd8
  go_enter Try.func21, Try.ntmps21
  go_wp2_with fail
  refine calls_at (X := fun w' => Ext U w' ∧ Box3 w' (U.heap.size + 1) (.int .i64 wn) (.int .i64 hn) (.slice (some ⟨gb2, off2, none⟩) n2 c2)) ⟨((Ext.refl _).alloc _).alloc _, ⟨by simp [go_sem], by simp [go_sem], by simp [go_sem]⟩⟩ ?_
  rintro w0 ⟨hx0, hm0⟩
  refine (HWH.out w0 hx0).mono ?_
  rintro e w1 ⟨rfl, hx⟩
  replace hx0 := hx0.trans hx
  replace hm0 := hm0.ext hx
  clear hx
  have ⟨m0, m1, m2⟩ := hm0
  go_wp2_with (at_make; refine wpList_make_full _ rfl _ _ 45 rfl w1.heap.size 2 i0 (.int .i64 0) 1 Try.underlying45 hi hz0 hz1 _ _ _ _ 3 rfl rfl rfl rfl (by rw [hz2]; omega) (by unfold maxLen; omega) (Nat.le_refl _) ?_)
  intro w2 hown hgr
  have hx2 : Ext w1 w2 := (Below.refl _ _).grown hgr (Nat.le_refl _) (fun k hk => by cases hk)
  replace hown : OwnI w2 w1.heap.size 2 (.slice (some ⟨w1.heap.size, 0, none⟩) 3 3) (jmpTo wn hn bs2 0) := by
    rw [toList_madeCells_one] at hown
    have h3 : jmpTo wn hn bs2 0 = List.replicate 3 0 := rfl
    unfold OwnI
    rw [h3, List.map_replicate]
    exact hown
  clear hgr
  have hm2 := hm0.ext hx2
  clear m0 m1 m2
  have ⟨m0, m1, m2⟩ := hm2
  obtain ⟨H, hH⟩ : ∃ H, w1.heap.size = H := ⟨_, rfl⟩
  obtain ⟨K, hK⟩ : ∃ K, w2.heap.size = K := ⟨_, rfl⟩
  have hHK : H < K := by rw [← hK, ← hH]; exact hown.ge.2
  have hx02 := hx0.trans hx2
  rw [hH] at hown
  have hgm : U.heap.size + 1 < K := by rw [← hK]; exact hm2.lt
  have hgn : ¬ (U.heap.size + 1 = K) := by omega
  go_wp2_with fail
  clear m0 m1 m2 hm2
  refine wp_at (X := fun w' => Ext w1 w' ∧ OwnI w' H 2 (.slice (some ⟨H, 0, none⟩) 3 3) (jmpTo wn hn bs2 0) ∧ w'.cell? ⟨K, 0, none⟩ = some (.slice (some ⟨H, 0, none⟩) 3 3)) ⟨?_, ?_, ?_⟩ ?_
  · exact hx2.alloc _
  · exact hown.ext ((Ext.refl _).alloc _)
  · rw [← hK]; exact cell_freshI _ _ _
  rintro w3 ⟨hE3, hO3, hb3⟩
  clear hown hgm hgn hx2 hx02 hK
  have HHK := Lib.hid hHK
  have HH := Lib.hid hH
  clear hHK hH
  go_loopw [18] (fun yv wr => ∃ k : Nat, k ≤ hn ∧ yv = .int .i64 k ∧ OwnI wr H 2 (.slice (some ⟨H, 0, none⟩) 3 3) (jmpTo wn hn bs2 (k * wn)) ∧ wr.cell? ⟨K, 0, none⟩ = some (.slice (some ⟨H, 0, none⟩) 3 3) ∧ Ext w1 wr) (fun yv _ => hn - (intOf yv).toNat)
  case atStart => exact ⟨0, Nat.zero_le _, rfl, by rw [Nat.zero_mul]; exact hO3, hb3, hE3⟩
  case round =>
    clear hO3 hb3 hE3
    obtain ⟨k, hk, rfl, hO0, hb0, hE0⟩ := hrel
    have ⟨m0, m1, m2⟩ := hm0.ext hE0
    by_cases hlk : k < hn
    · have hlk' : (k : Int) < (hn : Int) := by omega
      have a3 : IntKind.i64.wrap ((k : Int) + 1) = (k : Int) + 1 := wrap_small _ (by omega) (by omega)
      go_wp2_with fail
      go_loopw [23] (fun xv wq => ∃ j : Nat, j ≤ wn ∧ xv = .int .i64 j ∧ OwnI wq H 2 (.slice (some ⟨H, 0, none⟩) 3 3) (jmpTo wn hn bs2 (k * wn + j)) ∧ wq.cell? ⟨K, 0, none⟩ = some (.slice (some ⟨H, 0, none⟩) 3 3) ∧ Ext w1 wq) (fun xv _ => wn - (intOf xv).toNat)
      case atStart => exact ⟨0, Nat.zero_le _, rfl, hO0, hb0, hE0⟩
      case round =>
        clear m0 m1 m2 hO0 hb0 hE0
        obtain ⟨j, hj, rfl, hO, hb, hE⟩ := hrel
        by_cases hlj : j < wn
        · have hlj' : (j : Int) < (wn : Int) := by omega
          have a1 : IntKind.i64.wrap ((j : Int) + 1) = (j : Int) + 1 := wrap_small _ (by omega) (by omega)
          have HST := Lib.hid (jmpTo_at (hn := hn) (bs2 := bs2) (k := k) hlj)
          have hz := fun i => HZ.out j k i hlj hlk
          obtain ⟨S, hS⟩ : ∃ S, jmpTo wn hn bs2 (k * wn + j) = S := ⟨_, rfl⟩
          rw [hS] at HST hO hz
          clear hS
          have hMq := hm0.ext hE
          have ⟨m0, m1, m2⟩ := hMq
          go_wp2_with fail
          clear m0 m1 m2
          by_cases n0 : j + 1 < wn
          · have N0 := Lib.hid n0
            clear n0
            refine (mapHas_yes _ (wn : Int) (hn : Int) ((j : Int) + 1) (k : Int) _ hMq.1 hMq.2.1 HSZ.out ⟨by have := N0.out; omega, by have := N0.out; omega⟩ ⟨by have := N0.out; omega, by have := N0.out; omega⟩).mono ?_
            rintro e w' ⟨rfl, rfl⟩
            go_wp2_with fail
            have k00 := HV.out _ (hx0.trans hE) (hm0.ext hE) (j : Int) (k : Int) ⟨by omega, by omega⟩ ⟨by omega, by omega⟩
            obtain ⟨D00, hD00⟩ : ∃ D, digit (bs2.getD (cellN wn (j : Int) (k : Int)) 0) = D := ⟨_, rfl⟩
            rw [hD00] at k00
            have QD0 := Lib.hid hD00
            clear hD00
            have g00 := k00.2
            refine k00.1.mono ?_
            rintro e wa ⟨rfl, hx'⟩
            replace hE := hE.trans hx'
            replace hO := hO.ext hx'
            replace hb := cell_ext hb hx'
            clear hx' k00
            go_wp2_with fail
            have k01 := HV.out _ (hx0.trans hE) (hm0.ext hE) ((j : Int) + 1) (k : Int) ⟨by have := N0.out; omega, by have := N0.out; omega⟩ ⟨by have := N0.out; omega, by have := N0.out; omega⟩
            obtain ⟨D01, hD01⟩ : ∃ D, digit (bs2.getD (cellN wn ((j : Int) + 1) (k : Int)) 0) = D := ⟨_, rfl⟩
            rw [hD01] at k01
            have Q0 := Lib.hid hD01
            clear hD01
            have g01 := k01.2
            refine k01.1.mono ?_
            rintro e wa ⟨rfl, hx'⟩
            replace hE := hE.trans hx'
            replace hO := hO.ext hx'
            replace hb := cell_ext hb hx'
            clear hx' k01
            go_wp2_with fail
            refine (count_any H 3 K S D00 D01 (by have := HD8.out; omega) (by have := HD8.out; omega) _ _ _ hb hO (fun i => by have := hz i; omega)).mono ?_
            rintro e wb ⟨rfl, rfl⟩
            replace hE := hE.setCell (p := ⟨H, kj D00 D01, none⟩) (by have := HH.out; dsimp only; omega) (it ((S).getD (kj D00 D01) 0 + 1))
            replace hO := hO.put (kj D00 D01) ((S).getD (kj D00 D01) 0 + 1)
            replace hb := set_cell_ne (g := H) (i := kj D00 D01) (u := it ((S).getD (kj D00 D01) 0 + 1)) hb (by have := HHK.out; omega)
            replace hO : OwnI _ H 2 (.slice (some ⟨H, 0, none⟩) 3 3) (bump (kj D00 D01) S) := hO
            replace hz := fun i => bump_get (kj D00 D01) i S _ hz
            go_wp2_with fail
            replace hMq := hm0.ext hE
            by_cases n1 : k + 1 < hn
            · have N1 := Lib.hid n1
              clear n1
              refine (mapHas_yes _ (wn : Int) (hn : Int) (j : Int) ((k : Int) + 1) _ hMq.1 hMq.2.1 HSZ.out ⟨by have := N1.out; omega, by have := N1.out; omega⟩ ⟨by have := N1.out; omega, by have := N1.out; omega⟩).mono ?_
              rintro e w' ⟨rfl, rfl⟩
              go_wp2_with fail
              have k10 := HV.out _ (hx0.trans hE) (hm0.ext hE) (j : Int) (k : Int) ⟨by omega, by omega⟩ ⟨by omega, by omega⟩
              obtain ⟨D10, hD10⟩ : ∃ D, digit (bs2.getD (cellN wn (j : Int) (k : Int)) 0) = D := ⟨_, rfl⟩
              rw [hD10] at k10
              have QD1 := Lib.hid hD10
              clear hD10
              have g10 := k10.2
              refine k10.1.mono ?_
              rintro e wa ⟨rfl, hx'⟩
              replace hE := hE.trans hx'
              replace hO := hO.ext hx'
              replace hb := cell_ext hb hx'
              clear hx' k10
              go_wp2_with fail
              have k11 := HV.out _ (hx0.trans hE) (hm0.ext hE) (j : Int) ((k : Int) + 1) ⟨by have := N1.out; omega, by have := N1.out; omega⟩ ⟨by have := N1.out; omega, by have := N1.out; omega⟩
              obtain ⟨D11, hD11⟩ : ∃ D, digit (bs2.getD (cellN wn (j : Int) ((k : Int) + 1)) 0) = D := ⟨_, rfl⟩
              rw [hD11] at k11
              have Q1 := Lib.hid hD11
              clear hD11
              have g11 := k11.2
              refine k11.1.mono ?_
              rintro e wa ⟨rfl, hx'⟩
              replace hE := hE.trans hx'
              replace hO := hO.ext hx'
              replace hb := cell_ext hb hx'
              clear hx' k11
              go_wp2_with fail
              refine (count_any H 3 K (bump (kj D00 D01) S) D10 D11 (by have := HD8.out; omega) (by have := HD8.out; omega) _ _ _ hb hO (fun i => by have := hz i; omega)).mono ?_
              rintro e wb ⟨rfl, rfl⟩
              replace hE := hE.setCell (p := ⟨H, kj D10 D11, none⟩) (by have := HH.out; dsimp only; omega) (it (((bump (kj D00 D01) S)).getD (kj D10 D11) 0 + 1))
              replace hO := hO.put (kj D10 D11) (((bump (kj D00 D01) S)).getD (kj D10 D11) 0 + 1)
              replace hb := set_cell_ne (g := H) (i := kj D10 D11) (u := it (((bump (kj D00 D01) S)).getD (kj D10 D11) 0 + 1)) hb (by have := HHK.out; omega)
              replace hO : OwnI _ H 2 (.slice (some ⟨H, 0, none⟩) 3 3) (bump (kj D10 D11) (bump (kj D00 D01) S)) := hO
              replace hz := fun i => bump_get (kj D10 D11) i (bump (kj D00 D01) S) _ hz
              go_wp2
              go_roundw
              case rel =>
                refine ⟨j + 1, by omega, by go_num, ?_, hb, hE⟩
                rw [← Nat.add_assoc, HST.out]
                unfold jmpSt
                simp only [if_pos N0.out, if_pos N1.out]
                rw [QD0.out]
                rw [Q0.out]
                rw [Q1.out]
                have e9 : D10 = D00 := QD1.out.symm.trans QD0.out
                rw [e9] at hO ⊢
                exact hO
              case measure => simp [intOf]; omega
            · have N1 := Lib.hid n1
              clear n1
              refine (mapHas_no _ (wn : Int) (hn : Int) (j : Int) ((k : Int) + 1) _ hMq.1 hMq.2.1 HSZ.out (fun h => by have := N1.out; omega)).mono ?_
              rintro e w' ⟨rfl, rfl⟩
              go_wp2
              go_roundw
              case rel =>
                refine ⟨j + 1, by omega, by go_num, ?_, hb, hE⟩
                rw [← Nat.add_assoc, HST.out]
                unfold jmpSt
                simp only [if_pos N0.out, if_neg N1.out]
                rw [QD0.out]
                rw [Q0.out]
                exact hO
              case measure => simp [intOf]; omega
          · have N0 := Lib.hid n0
            clear n0
            refine (mapHas_no _ (wn : Int) (hn : Int) ((j : Int) + 1) (k : Int) _ hMq.1 hMq.2.1 HSZ.out (fun h => by have := N0.out; omega)).mono ?_
            rintro e w' ⟨rfl, rfl⟩
            go_wp2_with fail
            replace hMq := hm0.ext hE
            by_cases n1 : k + 1 < hn
            · have N1 := Lib.hid n1
              clear n1
              refine (mapHas_yes _ (wn : Int) (hn : Int) (j : Int) ((k : Int) + 1) _ hMq.1 hMq.2.1 HSZ.out ⟨by have := N1.out; omega, by have := N1.out; omega⟩ ⟨by have := N1.out; omega, by have := N1.out; omega⟩).mono ?_
              rintro e w' ⟨rfl, rfl⟩
              go_wp2_with fail
              have k10 := HV.out _ (hx0.trans hE) (hm0.ext hE) (j : Int) (k : Int) ⟨by omega, by omega⟩ ⟨by omega, by omega⟩
              obtain ⟨D10, hD10⟩ : ∃ D, digit (bs2.getD (cellN wn (j : Int) (k : Int)) 0) = D := ⟨_, rfl⟩
              rw [hD10] at k10
              have QD1 := Lib.hid hD10
              clear hD10
              have g10 := k10.2
              refine k10.1.mono ?_
              rintro e wa ⟨rfl, hx'⟩
              replace hE := hE.trans hx'
              replace hO := hO.ext hx'
              replace hb := cell_ext hb hx'
              clear hx' k10
              go_wp2_with fail
              have k11 := HV.out _ (hx0.trans hE) (hm0.ext hE) (j : Int) ((k : Int) + 1) ⟨by have := N1.out; omega, by have := N1.out; omega⟩ ⟨by have := N1.out; omega, by have := N1.out; omega⟩
              obtain ⟨D11, hD11⟩ : ∃ D, digit (bs2.getD (cellN wn (j : Int) ((k : Int) + 1)) 0) = D := ⟨_, rfl⟩
              rw [hD11] at k11
              have Q1 := Lib.hid hD11
              clear hD11
              have g11 := k11.2
              refine k11.1.mono ?_
              rintro e wa ⟨rfl, hx'⟩
              replace hE := hE.trans hx'
              replace hO := hO.ext hx'
              replace hb := cell_ext hb hx'
              clear hx' k11
              go_wp2_with fail
              refine (count_any H 3 K S D10 D11 (by have := HD8.out; omega) (by have := HD8.out; omega) _ _ _ hb hO (fun i => by have := hz i; omega)).mono ?_
              rintro e wb ⟨rfl, rfl⟩
              replace hE := hE.setCell (p := ⟨H, kj D10 D11, none⟩) (by have := HH.out; dsimp only; omega) (it ((S).getD (kj D10 D11) 0 + 1))
              replace hO := hO.put (kj D10 D11) ((S).getD (kj D10 D11) 0 + 1)
              replace hb := set_cell_ne (g := H) (i := kj D10 D11) (u := it ((S).getD (kj D10 D11) 0 + 1)) hb (by have := HHK.out; omega)
              replace hO : OwnI _ H 2 (.slice (some ⟨H, 0, none⟩) 3 3) (bump (kj D10 D11) S) := hO
              replace hz := fun i => bump_get (kj D10 D11) i S _ hz
              go_wp2
              go_roundw
              case rel =>
                refine ⟨j + 1, by omega, by go_num, ?_, hb, hE⟩
                rw [← Nat.add_assoc, HST.out]
                unfold jmpSt
                simp only [if_neg N0.out, if_pos N1.out]
                rw [QD1.out]
                rw [Q1.out]
                exact hO
              case measure => simp [intOf]; omega
            · have N1 := Lib.hid n1
              clear n1
              refine (mapHas_no _ (wn : Int) (hn : Int) (j : Int) ((k : Int) + 1) _ hMq.1 hMq.2.1 HSZ.out (fun h => by have := N1.out; omega)).mono ?_
              rintro e w' ⟨rfl, rfl⟩
              go_wp2
              go_roundw
              case rel =>
                refine ⟨j + 1, by omega, by go_num, ?_, hb, hE⟩
                rw [← Nat.add_assoc, HST.out]
                unfold jmpSt
                simp only [if_neg N0.out, if_neg N1.out]
                exact hO
              case measure => simp [intOf]; omega
        · have e1 : j = wn := by omega
          rw [e1, ← Nat.succ_mul] at hO
          go_wp2
          go_roundw
          case rel => exact ⟨k + 1, by omega, by go_num, hO, hb, hE⟩
          case measure => simp [intOf]; omega
    · have e1 : k = hn := by omega
      rw [e1] at hO0
      have HO := Lib.hid hO0
      clear hO0
      go_wp2
      go_ret2
      exact ⟨some ⟨H, 0, none⟩, 3, jmpTo wn hn bs2 (hn * wn), by rw [HLJ.out]; rfl, by rw [HLJ.out]; exact HO.out.weaken (by have := hx0.size; have := HH.out; omega), rfl, hx0.trans hE0⟩
set_option maxHeartbeats 8000000 in
set_option maxRecDepth 8000 in
theorem specJumpsOf_yes (wn hn dn gb off n c gb2 off2 n2 c2 : Nat) (bs2 : List Nat) (hnm : n ≤ maxLen) (hn2m : n2 ≤ maxLen) (U : World) (hl2 : Lies U gb2 off2 bs2) (hlen2 : bs2.length = n2) (hw2 : Words bs2) (hv : VVol wn hn dn n) (hm : VMap wn hn n2) (hall : bs2.all (whole dn) = true) :
    Calls Try.prog 20 #[.agg #[.int .i64 wn, .int .i64 hn, .int .i64 dn, .slice (some ⟨gb, off, none⟩) n c], .agg #[.int .i64 wn, .int .i64 hn, .slice (some ⟨gb2, off2, none⟩) n2 c2]] U fun e U' => ∃ A' c' b', e = .returned (.tuple #[.slice A' b'.length c', .bool true]) ∧ OwnI U' U.heap.size 2 (.slice A' b'.length c') b' ∧ Eqi b' (jmpTo wn hn bs2 (hn * wn)) ∧ Ext U U' := by
  obtain ⟨i0, hi, hz0, hz1, hz2⟩ := info_parts infoJ
  have hd8 : dn ≤ 8 := by have := hv.2.2.1; omega
  have hd0 : 0 < dn := by have := hv.2.1; omega
  have hw24 : wn ≤ 24 := by have := hv.1.2.1; omega
  have hh24 : hn ≤ 24 := by have := hv.1.2.2.2.1; omega
  have HZ := Lib.hid (fun (j k i : Nat) (hj : j < wn) (hk : k < hn) => (by
    have := jmpTo_le wn hn bs2 (k * wn + j) i
    have h3 : k * wn + j ≤ 24 * 24 + 24 := by have := Nat.mul_le_mul (show k ≤ 24 by omega) hw24; omega
    omega : 0 ≤ (jmpTo wn hn bs2 (k * wn + j)).getD i 0 ∧ (jmpTo wn hn bs2 (k * wn + j)).getD i 0 ≤ 90000))
  have HLJ := Lib.hid (jmpTo_len wn hn bs2)
  have HWH := Lib.hid (fun (W : World) (hE : Ext U W) (hB : Box4 W U.heap.size (.int .i64 wn) (.int .i64 hn) (.int .i64 dn) (.slice (some ⟨gb, off, none⟩) n c)) (hM : Box3 W (U.heap.size + 1) (.int .i64 wn) (.int .i64 hn) (.slice (some ⟨gb2, off2, none⟩) n2 c2)) => (by have t := l04Whole_yes U.heap.size (U.heap.size + 1) wn hn dn (some ⟨gb, off, none⟩) n c gb2 off2 n2 c2 bs2 hnm hn2m hv hm W hB hM (hl2.ext hE) hlen2 hw2; rw [hall] at t; exact t : Calls Try.prog 47 #[.pointer (some ⟨U.heap.size, 0, none⟩), .pointer (some ⟨(U.heap.size + 1), 0, none⟩)] W fun e W' => e = .returned (.bool true) ∧ Ext W W'))
  have HV := Lib.hid (fun (W : World) (hE : Ext U W) (hM : Box3 W (U.heap.size + 1) (.int .i64 wn) (.int .i64 hn) (.slice (some ⟨gb2, off2, none⟩) n2 c2)) (u w : Int) (hu : 0 ≤ u ∧ u ≤ (wn : Int) - 1) (hw' : 0 ≤ w ∧ w ≤ (hn : Int) - 1) => (⟨l04Value_any (U.heap.size + 1) wn hn dn gb2 off2 n2 c2 bs2 u w W hM (hl2.ext hE) hlen2 hw2 hm hd0 hd8 hall hu hw', (digit_lt (wd_at2 hw2 (cellN wn u w)) hd0 hd8 (all_at hall (by rw [hlen2]; exact (cellN_eq hm hu.1 hu.2 hw'.1 hw'.2).2.1))).1⟩ : _ ∧ digit (bs2.getD (cellN wn u w) 0) < dn))
  have HD8 := Lib.hid hd8
  clear hl2 hlen2 hw2 hv hm hall hnm hn2m hd8
  go_enter Try.func20, Try.ntmps20
  go_wp2_with fail
  refine calls_at (X := fun w' => Ext U w' ∧ Box4 w' U.heap.size (.int .i64 wn) (.int .i64 hn) (.int .i64 dn) (.slice (some ⟨gb, off, none⟩) n c) ∧ Box3 w' (U.heap.size + 1) (.int .i64 wn) (.int .i64 hn) (.slice (some ⟨gb2, off2, none⟩) n2 c2)) ⟨((Ext.refl _).alloc _).alloc _, ⟨by simp [go_sem], by simp [go_sem], by simp [go_sem], by simp [go_sem]⟩, ⟨by simp [go_sem], by simp [go_sem], by simp [go_sem]⟩⟩ ?_
  rintro w0 ⟨hx0, hv0, hm0⟩
  refine (HWH.out w0 hx0 hv0 hm0).mono ?_
  rintro e w1 ⟨rfl, hx⟩
  replace hx0 := hx0.trans hx
  replace hm0 := hm0.ext hx
  clear hx hv0
  have ⟨m0, m1, m2⟩ := hm0
  go_wp2_with (at_make; refine wpList_make_full _ rfl _ _ 45 rfl w1.heap.size 2 i0 (.int .i64 0) 1 Try.underlying45 hi hz0 hz1 _ _ _ _ 3 rfl rfl rfl rfl (by rw [hz2]; omega) (by unfold maxLen; omega) (Nat.le_refl _) ?_)
  intro w2 hown hgr
  have hx2 : Ext w1 w2 := (Below.refl _ _).grown hgr (Nat.le_refl _) (fun k hk => by cases hk)
  replace hown : OwnI w2 w1.heap.size 2 (.slice (some ⟨w1.heap.size, 0, none⟩) 3 3) (jmpTo wn hn bs2 0) := by
    rw [toList_madeCells_one] at hown
    have h3 : jmpTo wn hn bs2 0 = List.replicate 3 0 := rfl
    unfold OwnI
    rw [h3, List.map_replicate]
    exact hown
  clear hgr m0 m1 m2
  obtain ⟨H, hH⟩ : ∃ H, w1.heap.size = H := ⟨_, rfl⟩
  rw [hH] at hown
  have HH := Lib.hid hH
  go_wp2_with fail
  rw [hH]
  clear hH
  go_loopw [7] (fun yv wr => ∃ k : Nat, k ≤ hn ∧ yv = .int .i64 k ∧ OwnI wr H 2 (.slice (some ⟨H, 0, none⟩) 3 3) (jmpTo wn hn bs2 (k * wn)) ∧ Ext w1 wr) (fun yv _ => hn - (intOf yv).toNat)
  case atStart => exact ⟨0, Nat.zero_le _, rfl, by rw [Nat.zero_mul]; exact hown, hx2⟩
  case round =>
    clear hown hx2
    obtain ⟨k, hk, rfl, hO0, hE0⟩ := hrel
    have ⟨m0, m1, m2⟩ := hm0.ext hE0
    by_cases hlk : k < hn
    · have hlk' : (k : Int) < (hn : Int) := by omega
      have a3 : IntKind.i64.wrap ((k : Int) + 1) = (k : Int) + 1 := wrap_small _ (by omega) (by omega)
      go_wp2_with fail
      go_loopw [8] (fun xv wq => ∃ j : Nat, j ≤ wn ∧ xv = .int .i64 j ∧ OwnI wq H 2 (.slice (some ⟨H, 0, none⟩) 3 3) (jmpTo wn hn bs2 (k * wn + j)) ∧ Ext w1 wq) (fun xv _ => wn - (intOf xv).toNat)
      case atStart => exact ⟨0, Nat.zero_le _, rfl, hO0, hE0⟩
      case round =>
        clear m0 m1 m2 hO0 hE0
        obtain ⟨j, hj, rfl, hO, hE⟩ := hrel
        have ⟨m0, m1, m2⟩ := hm0.ext hE
        by_cases hlj : j < wn
        · have hlj' : (j : Int) < (wn : Int) := by omega
          have a1 : IntKind.i64.wrap ((j : Int) + 1) = (j : Int) + 1 := wrap_small _ (by omega) (by omega)
          have HST := Lib.hid (jmpTo_at (hn := hn) (bs2 := bs2) (k := k) hlj)
          have hz := fun i => HZ.out j k i hlj hlk
          obtain ⟨S, hS⟩ : ∃ S, jmpTo wn hn bs2 (k * wn + j) = S := ⟨_, rfl⟩
          rw [hS] at HST hO hz
          clear hS
          by_cases n0 : j + 1 < wn
          · have i0 : (j : Int) + 1 < (wn : Int) := by omega
            have N0 := Lib.hid n0
            clear n0
            go_wp2_with fail
            clear m0 m1 m2
            have k00 := HV.out _ (hx0.trans hE) (hm0.ext hE) (j : Int) (k : Int) ⟨by omega, by omega⟩ ⟨by omega, by omega⟩
            obtain ⟨D00, hD00⟩ : ∃ D, digit (bs2.getD (cellN wn (j : Int) (k : Int)) 0) = D := ⟨_, rfl⟩
            rw [hD00] at k00
            have QD0 := Lib.hid hD00
            clear hD00
            have g00 := k00.2
            refine k00.1.mono ?_
            rintro e wa ⟨rfl, hx'⟩
            replace hE := hE.trans hx'
            replace hO := hO.ext hx'
            clear hx' k00
            go_wp2_with fail
            have k01 := HV.out _ (hx0.trans hE) (hm0.ext hE) ((j : Int) + 1) (k : Int) ⟨by have := N0.out; omega, by have := N0.out; omega⟩ ⟨by have := N0.out; omega, by have := N0.out; omega⟩
            obtain ⟨D01, hD01⟩ : ∃ D, digit (bs2.getD (cellN wn ((j : Int) + 1) (k : Int)) 0) = D := ⟨_, rfl⟩
            rw [hD01] at k01
            have Q0 := Lib.hid hD01
            clear hD01
            have g01 := k01.2
            refine k01.1.mono ?_
            rintro e wa ⟨rfl, hx'⟩
            replace hE := hE.trans hx'
            replace hO := hO.ext hx'
            clear hx' k01
            go_wp2_with fail
            refine (l04Count_ext w1 H 3 S D00 D01 (by have := HD8.out; omega) (by have := HD8.out; omega) _ _ _ hE (by have := HH.out; omega) hO (fun i => by have := hz i; omega)).mono ?_
            clear hE hO
            rintro e wb ⟨rfl, hO, hE⟩
            replace hz := fun i => bump_get (kj D00 D01) i S _ hz
            have ⟨m0, m1, m2⟩ := hm0.ext hE
            by_cases n1 : k + 1 < hn
            · have i1 : (k : Int) + 1 < (hn : Int) := by omega
              have N1 := Lib.hid n1
              clear n1
              go_wp2_with fail
              clear m0 m1 m2
              have k10 := HV.out _ (hx0.trans hE) (hm0.ext hE) (j : Int) (k : Int) ⟨by omega, by omega⟩ ⟨by omega, by omega⟩
              obtain ⟨D10, hD10⟩ : ∃ D, digit (bs2.getD (cellN wn (j : Int) (k : Int)) 0) = D := ⟨_, rfl⟩
              rw [hD10] at k10
              have QD1 := Lib.hid hD10
              clear hD10
              have g10 := k10.2
              refine k10.1.mono ?_
              rintro e wa ⟨rfl, hx'⟩
              replace hE := hE.trans hx'
              replace hO := hO.ext hx'
              clear hx' k10
              go_wp2_with fail
              have k11 := HV.out _ (hx0.trans hE) (hm0.ext hE) (j : Int) ((k : Int) + 1) ⟨by have := N1.out; omega, by have := N1.out; omega⟩ ⟨by have := N1.out; omega, by have := N1.out; omega⟩
              obtain ⟨D11, hD11⟩ : ∃ D, digit (bs2.getD (cellN wn (j : Int) ((k : Int) + 1)) 0) = D := ⟨_, rfl⟩
              rw [hD11] at k11
              have Q1 := Lib.hid hD11
              clear hD11
              have g11 := k11.2
              refine k11.1.mono ?_
              rintro e wa ⟨rfl, hx'⟩
              replace hE := hE.trans hx'
              replace hO := hO.ext hx'
              clear hx' k11
              go_wp2_with fail
              refine (l04Count_ext w1 H 3 (bump (kj D00 D01) S) D10 D11 (by have := HD8.out; omega) (by have := HD8.out; omega) _ _ _ hE (by have := HH.out; omega) hO (fun i => by have := hz i; omega)).mono ?_
              clear hE hO
              rintro e wb ⟨rfl, hO, hE⟩
              replace hz := fun i => bump_get (kj D10 D11) i (bump (kj D00 D01) S) _ hz
              have ⟨m0, m1, m2⟩ := hm0.ext hE
              go_wp2
              go_roundw
              case rel =>
                refine ⟨j + 1, by omega, by go_num, ?_, hE⟩
                rw [← Nat.add_assoc, HST.out]
                unfold jmpSt
                simp only [if_pos N0.out, if_pos N1.out]
                rw [QD0.out]
                rw [Q0.out]
                rw [Q1.out]
                have e9 : D10 = D00 := QD1.out.symm.trans QD0.out
                rw [e9] at hO
                exact hO
              case measure => simp [intOf]; omega
            · have i1 : ¬ ((k : Int) + 1 < (hn : Int)) := by omega
              have N1 := Lib.hid n1
              clear n1
              go_wp2
              go_roundw
              case rel =>
                refine ⟨j + 1, by omega, by go_num, ?_, hE⟩
                rw [← Nat.add_assoc, HST.out]
                unfold jmpSt
                simp only [if_pos N0.out, if_neg N1.out]
                rw [QD0.out]
                rw [Q0.out]
                exact hO
              case measure => simp [intOf]; omega
          · have i0 : ¬ ((j : Int) + 1 < (wn : Int)) := by omega
            have N0 := Lib.hid n0
            clear n0
            by_cases n1 : k + 1 < hn
            · have i1 : (k : Int) + 1 < (hn : Int) := by omega
              have N1 := Lib.hid n1
              clear n1
              go_wp2_with fail
              clear m0 m1 m2
              have k10 := HV.out _ (hx0.trans hE) (hm0.ext hE) (j : Int) (k : Int) ⟨by omega, by omega⟩ ⟨by omega, by omega⟩
              obtain ⟨D10, hD10⟩ : ∃ D, digit (bs2.getD (cellN wn (j : Int) (k : Int)) 0) = D := ⟨_, rfl⟩
              rw [hD10] at k10
              have QD1 := Lib.hid hD10
              clear hD10
              have g10 := k10.2
              refine k10.1.mono ?_
              rintro e wa ⟨rfl, hx'⟩
              replace hE := hE.trans hx'
              replace hO := hO.ext hx'
              clear hx' k10
              go_wp2_with fail
              have k11 := HV.out _ (hx0.trans hE) (hm0.ext hE) (j : Int) ((k : Int) + 1) ⟨by have := N1.out; omega, by have := N1.out; omega⟩ ⟨by have := N1.out; omega, by have := N1.out; omega⟩
              obtain ⟨D11, hD11⟩ : ∃ D, digit (bs2.getD (cellN wn (j : Int) ((k : Int) + 1)) 0) = D := ⟨_, rfl⟩
              rw [hD11] at k11
              have Q1 := Lib.hid hD11
              clear hD11
              have g11 := k11.2
              refine k11.1.mono ?_
              rintro e wa ⟨rfl, hx'⟩
              replace hE := hE.trans hx'
              replace hO := hO.ext hx'
              clear hx' k11
              go_wp2_with fail
              refine (l04Count_ext w1 H 3 S D10 D11 (by have := HD8.out; omega) (by have := HD8.out; omega) _ _ _ hE (by have := HH.out; omega) hO (fun i => by have := hz i; omega)).mono ?_
              clear hE hO
              rintro e wb ⟨rfl, hO, hE⟩
              replace hz := fun i => bump_get (kj D10 D11) i S _ hz
              have ⟨m0, m1, m2⟩ := hm0.ext hE
              go_wp2
              go_roundw
              case rel =>
                refine ⟨j + 1, by omega, by go_num, ?_, hE⟩
                rw [← Nat.add_assoc, HST.out]
                unfold jmpSt
                simp only [if_neg N0.out, if_pos N1.out]
                rw [QD1.out]
                rw [Q1.out]
                exact hO
              case measure => simp [intOf]; omega
            · have i1 : ¬ ((k : Int) + 1 < (hn : Int)) := by omega
              have N1 := Lib.hid n1
              clear n1
              go_wp2
              go_roundw
              case rel =>
                refine ⟨j + 1, by omega, by go_num, ?_, hE⟩
                rw [← Nat.add_assoc, HST.out]
                unfold jmpSt
                simp only [if_neg N0.out, if_neg N1.out]
                exact hO
              case measure => simp [intOf]; omega
        · have e1 : j = wn := by omega
          rw [e1, ← Nat.succ_mul] at hO
          go_wp2
          go_roundw
          case rel => exact ⟨k + 1, by omega, by go_num, hO, hE⟩
          case measure => simp [intOf]; omega
    · have e1 : k = hn := by omega
      rw [e1] at hO0
      have HO := Lib.hid hO0
      clear hO0
      go_wp2
      go_ret2
      exact ⟨some ⟨H, 0, none⟩, 3, jmpTo wn hn bs2 (hn * wn), by rw [HLJ.out]; rfl, by rw [HLJ.out]; exact HO.out.weaken (by have := hx0.size; have := HH.out; omega), rfl, hx0.trans hE0⟩
end Go.Proofs.Ytgpobhpcbgenoaa
