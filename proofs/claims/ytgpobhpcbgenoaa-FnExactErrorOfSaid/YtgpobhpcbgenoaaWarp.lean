/- Contracts: the picture that a map tells. -/
import Derived.Test.YtgpobhpcbgenoaaPlace
import Derived.Test.YtgpobhpcbgenoaaAcc2
import Derived.Test.YtgpobhpcbgenoaaWholeS
import Derived.Test.YtgpobhpcbgenoaaMade
import Derived.Test.YtgpobhpcbgenoaaCell
import Derived.Test.YtgpobhpcbgenoaaOwn3
namespace Go.Proofs.Ytgpobhpcbgenoaa
open Go.RowKit
set_option linter.unusedVariables false

theorem wl_at {P : Program} {ops : Array Oper} {Q : Exit → Act → World → Prop} {l : List Oper} {a : Act} {w : World} {X : World → Prop} (hX : X w) (h : ∀ w', X w' → wpList P ops Q l a w') : wpList P ops Q l a w := h w hX
theorem cell_fresh0 (w : World) (t : TypeId) (r : Value) : (w.alloc (.cells #[r] t)).cell? ⟨w.heap.size, 0, none⟩ = some r := by
  simp [go_sem]
/-- Whether a value leads to a grey. -/
def inP (x : Nat) : Prop := pok x = true ∧ rnd (vmag x) ≤ 24
noncomputable instance (x : Nat) : Decidable (inP x) := by unfold inP; infer_instance
/-- The grey to which it leads. -/
noncomputable def greyW (wn hn : Nat) (rs : List Nat) (x j k : Nat) : Nat := rs.getD (cellN wn (clampI ((j : Int) - ((rnd (vmag x) : Nat) : Int)) wn) (clampI (k : Int) hn)) 0
noncomputable def warpF (wn hn : Nat) (rs ms : List Nat) (i : Nat) : Nat := if inP (ms.getD i 0) then nrm (greyW wn hn rs (ms.getD i 0) (i % wn) (i / wn)) else 0
theorem lin_mod {wn j k : Nat} (hj : j < wn) : (k * wn + j) % wn = j ∧ (k * wn + j) / wn = k := by
  rw [Nat.mul_comm k wn, Nat.mul_add_mod, Nat.mod_eq_of_lt hj, Nat.mul_add_div (by omega), Nat.div_eq_of_lt hj, Nat.add_zero]
  exact ⟨rfl, rfl⟩
theorem inP_place {x : Nat} (h : inP x) (m : Int) (hm : 25 ≤ m) : (if pok x = true then min (rnd (vmag x) : Int) m else -1) = ((rnd (vmag x) : Nat) : Int) := by
  obtain ⟨h1, h2⟩ := h
  rw [if_pos h1]; omega
theorem inP_no {x : Nat} (h : ¬ inP x) (m : Int) (hm : 25 ≤ m) : (if pok x = true then min (rnd (vmag x) : Int) m else -1) < 0 ∨ 24 < (if pok x = true then min (rnd (vmag x) : Int) m else -1) := by
  by_cases hp : pok x = true
  · rw [if_pos hp]
    have : ¬ rnd (vmag x) ≤ 24 := fun h2 => h ⟨hp, h2⟩
    omega
  · rw [if_neg hp]; omega
theorem l03Fits_yes (g g' : Nat) (z0 z1 : Int) (A0 : Option Addr) (n0 m0 : Nat) (y0 y1 : Int) (A1 : Option Addr) (n1 m1 : Nat) (hn0 : n0 ≤ maxLen) (hn1 : n1 ≤ maxLen) (U : World) (hB : Box3 U g (.int .i64 z0) (.int .i64 z1) (.slice A0 n0 m0)) (hB' : Box3 U g' (.int .i64 y0) (.int .i64 y1) (.slice A1 n1 m1)) (hv : VMap z0 z1 n0) (hv2 : VMap y0 y1 n1) (e0 : z0 = y0) (e1 : z1 = y1) :
    Calls Try.prog 74 #[.pointer (some ⟨g, 0, none⟩), .pointer (some ⟨g', 0, none⟩)] U fun e U' => e = .returned (.bool true) ∧ Ext U U' := by
  have he0 : (z0 == y0) = true := by simpa using e0
  have he1 : (z1 == y1) = true := by simpa using e1
  clear e0 e1
  have H1 := Lib.hid (fun (W : World) (hx : Ext U W) => (let b := hB.ext hx; l02Is_yes g z0 z1 A0 n0 m0 W hn0 b.1 b.2.1 b.2.2 hv))
  have H2 := Lib.hid (fun (W : World) (hx : Ext U W) => (let b := hB'.ext hx; l03IsMap_yes g' y0 y1 A1 n1 m1 W hn1 b.1 b.2.1 b.2.2 hv2))
  obtain ⟨p0', p1', p2'⟩ := hB
  obtain ⟨q0', q1', q2'⟩ := hB'
  clear hv hv2
  go_enter Try.func74, Try.ntmps74
  go_wp2_with fail
  refine region_wx 28 [] (by kernel_rfl) (by kernel_rfl) ?_
  simp only [List.take_succ_cons, List.take_zero, List.drop_succ_cons, List.drop_zero]
  repeat ((first | refine wx_skip rfl ?_ | refine wx_nilCheck rfl rfl _ rfl _ rfl ?_ | (refine wx_float rfl rfl _ _ _ _ _ _ _ rfl rfl rfl rfl ?_; intro r hr) | (refine wx_k rfl rfl rfl (fun K hK => ?_); go_big_quiet_op; refine hK _ ?_; clear hK K) | (refine wx_call rfl rfl 83 _ _ rfl (by kernel_rfl) (by kernel_rfl) (.bool true) (fun W hW hF => ?_) ?_; go_simp; (with_reducible refine (H1.out W hW).mono ?_); rintro e w' h; exact h) | (refine wx_call rfl rfl 106 _ _ rfl (by kernel_rfl) (by kernel_rfl) (.bool true) (fun W hW hF => ?_) ?_; go_simp; (with_reducible refine (H2.out W hW).mono ?_); rintro e w' h; exact h)); (try simp only [Act.put, List.setIfInBounds_toArray, List.set_cons_zero, List.set_cons_succ]); (try simp only [List.tail_nil]))
  refine wx_nil (fun W hW hF => ?_)
  go_wp2
  go_ret
  exact ⟨rfl, hW⟩
theorem l03Fits_no1 (g g' : Nat) (z0 z1 : Int) (A0 : Option Addr) (n0 m0 : Nat) (y0 y1 : Int) (A1 : Option Addr) (n1 m1 : Nat) (hn0 : n0 ≤ maxLen) (hn1 : n1 ≤ maxLen) (U : World) (hB : Box3 U g (.int .i64 z0) (.int .i64 z1) (.slice A0 n0 m0)) (hB' : Box3 U g' (.int .i64 y0) (.int .i64 y1) (.slice A1 n1 m1)) (hv : ¬ VMap z0 z1 n0) :
    Calls Try.prog 74 #[.pointer (some ⟨g, 0, none⟩), .pointer (some ⟨g', 0, none⟩)] U fun e U' => e = .returned (.bool false) ∧ Ext U U' := by
  have H1 := Lib.hid (fun (W : World) (hx : Ext U W) => (let b := hB.ext hx; l02Is_not g z0 z1 A0 n0 m0 W hn0 b.1 b.2.1 b.2.2 hv))
  obtain ⟨p0', p1', p2'⟩ := hB
  obtain ⟨q0', q1', q2'⟩ := hB'
  clear hv
  go_enter Try.func74, Try.ntmps74
  go_wp2_with fail
  refine region_wx 28 [] (by kernel_rfl) (by kernel_rfl) ?_
  simp only [List.take_succ_cons, List.take_zero, List.drop_succ_cons, List.drop_zero]
  repeat ((first | refine wx_skip rfl ?_ | refine wx_nilCheck rfl rfl _ rfl _ rfl ?_ | (refine wx_float rfl rfl _ _ _ _ _ _ _ rfl rfl rfl rfl ?_; intro r hr) | (refine wx_k rfl rfl rfl (fun K hK => ?_); go_big_quiet_op; refine hK _ ?_; clear hK K) | (refine wx_call rfl rfl 83 _ _ rfl (by kernel_rfl) (by kernel_rfl) (.bool false) (fun W hW hF => ?_) ?_; go_simp; (with_reducible refine (H1.out W hW).mono ?_); rintro e w' h; exact h)); (try simp only [Act.put, List.setIfInBounds_toArray, List.set_cons_zero, List.set_cons_succ]); (try simp only [List.tail_nil]))
  refine wx_nil (fun W hW hF => ?_)
  go_wp2
  go_ret
  exact ⟨rfl, hW⟩
theorem l03Fits_no2 (g g' : Nat) (z0 z1 : Int) (A0 : Option Addr) (n0 m0 : Nat) (y0 y1 : Int) (A1 : Option Addr) (n1 m1 : Nat) (hn0 : n0 ≤ maxLen) (hn1 : n1 ≤ maxLen) (U : World) (hB : Box3 U g (.int .i64 z0) (.int .i64 z1) (.slice A0 n0 m0)) (hB' : Box3 U g' (.int .i64 y0) (.int .i64 y1) (.slice A1 n1 m1)) (hv : VMap z0 z1 n0) (hv2 : ¬ VMap y0 y1 n1) :
    Calls Try.prog 74 #[.pointer (some ⟨g, 0, none⟩), .pointer (some ⟨g', 0, none⟩)] U fun e U' => e = .returned (.bool false) ∧ Ext U U' := by
  have H1 := Lib.hid (fun (W : World) (hx : Ext U W) => (let b := hB.ext hx; l02Is_yes g z0 z1 A0 n0 m0 W hn0 b.1 b.2.1 b.2.2 hv))
  have H2 := Lib.hid (fun (W : World) (hx : Ext U W) => (let b := hB'.ext hx; l03IsMap_not g' y0 y1 A1 n1 m1 W hn1 b.1 b.2.1 b.2.2 hv2))
  obtain ⟨p0', p1', p2'⟩ := hB
  obtain ⟨q0', q1', q2'⟩ := hB'
  clear hv hv2
  go_enter Try.func74, Try.ntmps74
  go_wp2_with fail
  refine region_wx 28 [] (by kernel_rfl) (by kernel_rfl) ?_
  simp only [List.take_succ_cons, List.take_zero, List.drop_succ_cons, List.drop_zero]
  repeat ((first | refine wx_skip rfl ?_ | refine wx_nilCheck rfl rfl _ rfl _ rfl ?_ | (refine wx_float rfl rfl _ _ _ _ _ _ _ rfl rfl rfl rfl ?_; intro r hr) | (refine wx_k rfl rfl rfl (fun K hK => ?_); go_big_quiet_op; refine hK _ ?_; clear hK K) | (refine wx_call rfl rfl 83 _ _ rfl (by kernel_rfl) (by kernel_rfl) (.bool true) (fun W hW hF => ?_) ?_; go_simp; (with_reducible refine (H1.out W hW).mono ?_); rintro e w' h; exact h) | (refine wx_call rfl rfl 106 _ _ rfl (by kernel_rfl) (by kernel_rfl) (.bool false) (fun W hW hF => ?_) ?_; go_simp; (with_reducible refine (H2.out W hW).mono ?_); rintro e w' h; exact h)); (try simp only [Act.put, List.setIfInBounds_toArray, List.set_cons_zero, List.set_cons_succ]); (try simp only [List.tail_nil]))
  refine wx_nil (fun W hW hF => ?_)
  go_wp2
  go_ret
  exact ⟨rfl, hW⟩
theorem l03Fits_no3 (g g' : Nat) (z0 z1 : Int) (A0 : Option Addr) (n0 m0 : Nat) (y0 y1 : Int) (A1 : Option Addr) (n1 m1 : Nat) (hn0 : n0 ≤ maxLen) (hn1 : n1 ≤ maxLen) (U : World) (hB : Box3 U g (.int .i64 z0) (.int .i64 z1) (.slice A0 n0 m0)) (hB' : Box3 U g' (.int .i64 y0) (.int .i64 y1) (.slice A1 n1 m1)) (hv : VMap z0 z1 n0) (hv2 : VMap y0 y1 n1) (e0 : ¬ z0 = y0) :
    Calls Try.prog 74 #[.pointer (some ⟨g, 0, none⟩), .pointer (some ⟨g', 0, none⟩)] U fun e U' => e = .returned (.bool false) ∧ Ext U U' := by
  have he0 : (z0 == y0) = false := by simpa using e0
  clear e0
  have H1 := Lib.hid (fun (W : World) (hx : Ext U W) => (let b := hB.ext hx; l02Is_yes g z0 z1 A0 n0 m0 W hn0 b.1 b.2.1 b.2.2 hv))
  have H2 := Lib.hid (fun (W : World) (hx : Ext U W) => (let b := hB'.ext hx; l03IsMap_yes g' y0 y1 A1 n1 m1 W hn1 b.1 b.2.1 b.2.2 hv2))
  obtain ⟨p0', p1', p2'⟩ := hB
  obtain ⟨q0', q1', q2'⟩ := hB'
  clear hv hv2
  go_enter Try.func74, Try.ntmps74
  go_wp2_with fail
  refine region_wx 28 [] (by kernel_rfl) (by kernel_rfl) ?_
  simp only [List.take_succ_cons, List.take_zero, List.drop_succ_cons, List.drop_zero]
  repeat ((first | refine wx_skip rfl ?_ | refine wx_nilCheck rfl rfl _ rfl _ rfl ?_ | (refine wx_float rfl rfl _ _ _ _ _ _ _ rfl rfl rfl rfl ?_; intro r hr) | (refine wx_k rfl rfl rfl (fun K hK => ?_); go_big_quiet_op; refine hK _ ?_; clear hK K) | (refine wx_call rfl rfl 83 _ _ rfl (by kernel_rfl) (by kernel_rfl) (.bool true) (fun W hW hF => ?_) ?_; go_simp; (with_reducible refine (H1.out W hW).mono ?_); rintro e w' h; exact h) | (refine wx_call rfl rfl 106 _ _ rfl (by kernel_rfl) (by kernel_rfl) (.bool true) (fun W hW hF => ?_) ?_; go_simp; (with_reducible refine (H2.out W hW).mono ?_); rintro e w' h; exact h)); (try simp only [Act.put, List.setIfInBounds_toArray, List.set_cons_zero, List.set_cons_succ]); (try simp only [List.tail_nil]))
  refine wx_nil (fun W hW hF => ?_)
  go_wp2
  go_ret
  exact ⟨rfl, hW⟩
theorem l03Fits_no4 (g g' : Nat) (z0 z1 : Int) (A0 : Option Addr) (n0 m0 : Nat) (y0 y1 : Int) (A1 : Option Addr) (n1 m1 : Nat) (hn0 : n0 ≤ maxLen) (hn1 : n1 ≤ maxLen) (U : World) (hB : Box3 U g (.int .i64 z0) (.int .i64 z1) (.slice A0 n0 m0)) (hB' : Box3 U g' (.int .i64 y0) (.int .i64 y1) (.slice A1 n1 m1)) (hv : VMap z0 z1 n0) (hv2 : VMap y0 y1 n1) (e0 : z0 = y0) (e1 : ¬ z1 = y1) :
    Calls Try.prog 74 #[.pointer (some ⟨g, 0, none⟩), .pointer (some ⟨g', 0, none⟩)] U fun e U' => e = .returned (.bool false) ∧ Ext U U' := by
  have he0 : (z0 == y0) = true := by simpa using e0
  have he1 : (z1 == y1) = false := by simpa using e1
  clear e0 e1
  have H1 := Lib.hid (fun (W : World) (hx : Ext U W) => (let b := hB.ext hx; l02Is_yes g z0 z1 A0 n0 m0 W hn0 b.1 b.2.1 b.2.2 hv))
  have H2 := Lib.hid (fun (W : World) (hx : Ext U W) => (let b := hB'.ext hx; l03IsMap_yes g' y0 y1 A1 n1 m1 W hn1 b.1 b.2.1 b.2.2 hv2))
  obtain ⟨p0', p1', p2'⟩ := hB
  obtain ⟨q0', q1', q2'⟩ := hB'
  clear hv hv2
  go_enter Try.func74, Try.ntmps74
  go_wp2_with fail
  refine region_wx 28 [] (by kernel_rfl) (by kernel_rfl) ?_
  simp only [List.take_succ_cons, List.take_zero, List.drop_succ_cons, List.drop_zero]
  repeat ((first | refine wx_skip rfl ?_ | refine wx_nilCheck rfl rfl _ rfl _ rfl ?_ | (refine wx_float rfl rfl _ _ _ _ _ _ _ rfl rfl rfl rfl ?_; intro r hr) | (refine wx_k rfl rfl rfl (fun K hK => ?_); go_big_quiet_op; refine hK _ ?_; clear hK K) | (refine wx_call rfl rfl 83 _ _ rfl (by kernel_rfl) (by kernel_rfl) (.bool true) (fun W hW hF => ?_) ?_; go_simp; (with_reducible refine (H1.out W hW).mono ?_); rintro e w' h; exact h) | (refine wx_call rfl rfl 106 _ _ rfl (by kernel_rfl) (by kernel_rfl) (.bool true) (fun W hW hF => ?_) ?_; go_simp; (with_reducible refine (H2.out W hW).mono ?_); rintro e w' h; exact h)); (try simp only [Act.put, List.setIfInBounds_toArray, List.set_cons_zero, List.set_cons_succ]); (try simp only [List.tail_nil]))
  refine wx_nil (fun W hW hF => ?_)
  go_wp2
  go_ret
  exact ⟨rfl, hW⟩
/-- The picture and the map are right, and of one size. -/
def Fit3 (z0 z1 : Int) (n0 : Nat) (y0 y1 : Int) (n1 : Nat) : Prop := VMap z0 z1 n0 ∧ VMap y0 y1 n1 ∧ z0 = y0 ∧ z1 = y1
theorem l03Fits_no (g g' : Nat) (z0 z1 : Int) (A0 : Option Addr) (n0 m0 : Nat) (y0 y1 : Int) (A1 : Option Addr) (n1 m1 : Nat) (hn0 : n0 ≤ maxLen) (hn1 : n1 ≤ maxLen) (U : World) (hB : Box3 U g (.int .i64 z0) (.int .i64 z1) (.slice A0 n0 m0)) (hB' : Box3 U g' (.int .i64 y0) (.int .i64 y1) (.slice A1 n1 m1)) (hno : ¬ Fit3 z0 z1 n0 y0 y1 n1) :
    Calls Try.prog 74 #[.pointer (some ⟨g, 0, none⟩), .pointer (some ⟨g', 0, none⟩)] U fun e U' => e = .returned (.bool false) ∧ Ext U U' := by
  by_cases hv : VMap z0 z1 n0
  · by_cases hv2 : VMap y0 y1 n1
    · by_cases e0 : z0 = y0
      · exact l03Fits_no4 g g' z0 z1 A0 n0 m0 y0 y1 A1 n1 m1 hn0 hn1 U hB hB' hv hv2 e0 (fun e1 => hno ⟨hv, hv2, e0, e1⟩)
      · exact l03Fits_no3 g g' z0 z1 A0 n0 m0 y0 y1 A1 n1 m1 hn0 hn1 U hB hB' hv hv2 e0
    · exact l03Fits_no2 g g' z0 z1 A0 n0 m0 y0 y1 A1 n1 m1 hn0 hn1 U hB hB' hv hv2
  · exact l03Fits_no1 g g' z0 z1 A0 n0 m0 y0 y1 A1 n1 m1 hn0 hn1 U hB hB' hv
set_option maxHeartbeats 1000000 in
theorem warped_any (g gm wn hn gb off n c gb2 off2 n2 c2 : Nat) (rs ms : List Nat) (j k : Nat) (hj : j < wn) (hk : k < hn) (U : World) (hB : Box3 U g (.int .i64 wn) (.int .i64 hn) (.slice (some ⟨gb, off, none⟩) n c)) (hM : Box3 U gm (.int .i64 wn) (.int .i64 hn) (.slice (some ⟨gb2, off2, none⟩) n2 c2)) (hl : Lies U gb off rs) (hlen : rs.length = n) (hl2 : Lies U gb2 off2 ms) (hlen2 : ms.length = n2) (hn2m : n2 ≤ maxLen) (hv : VMap wn hn n) (hm : VMap wn hn n2) :
    Calls Try.prog 80 #[.pointer (some ⟨g, 0, none⟩), .pointer (some ⟨gm, 0, none⟩), .int .i64 j, .int .i64 k] U fun e U' => e = .returned (.tuple (if inP (ms.getD (k * wn + j) 0) then #[.float .f32 (greyW wn hn rs (ms.getD (k * wn + j) 0) j k), .bool true] else #[.float .f32 0, .bool false])) ∧ Ext U U' := by
  have hw24 : wn ≤ 24 := by have := hv.1.2.1; omega
  have hh24 : hn ≤ 24 := by have := hv.1.2.2.2.1; omega
  obtain ⟨hk0, hkn, hwm⟩ := cellN_eq hm (x := (j : Int)) (y := (k : Int)) (by omega) (by omega) (by omega) (by omega)
  have HAT := Lib.hid (at_any gm wn hn (some ⟨gb2, off2, none⟩) n2 c2 ms (j : Int) (k : Int) (cellN wn j k) U hM ⟨hlen2, fun _ => ⟨gb2, off2, rfl, hl2⟩⟩ hn2m hk0 hkn hwm)
  have HAB := Lib.hid (fun (W : World) (hE : Ext U W) (u v : Int) => about_any g wn hn (some ⟨gb, off, none⟩) n c rs u v W (hB.ext hE) ⟨hlen, fun _ => ⟨gb, off, rfl, hl.ext hE⟩⟩ hv)
  rw [show cellN (wn : Int) (j : Int) (k : Int) = k * wn + j by rw [cellN_nat, Nat.mul_comm, Nat.add_comm]] at HAT
  obtain ⟨x, hx⟩ : ∃ x, ms.getD (k * wn + j) 0 = x := ⟨_, rfl⟩
  rw [hx] at HAT ⊢
  clear hB hM hl hlen hl2 hlen2 hn2m hv hm hk0 hkn hwm hx
  by_cases hin : inP x
  · have hpl : ∀ U, Calls Try.prog 101 #[.float .f32 x] U fun e U' => e = .returned (.int .i64 ((rnd (vmag x) : Nat) : Int)) ∧ Ext U U' := fun U => by rw [← inP_place hin 1048576 (by omega)]; exact place_any x U
    have h24 := hin.2
    rw [if_pos hin]
    unfold greyW
    generalize rnd (vmag x) = R at hpl h24 ⊢
    have hwr : IntKind.i64.wrap ((j : Int) - (R : Int)) = (j : Int) - (R : Int) := wrap_small _ (by omega) (by omega)
    have HPL := Lib.hid hpl
    have HG := Lib.hid (fun (W : World) (hE : Ext U W) => HAB.out W hE ((j : Int) - (R : Int)) (k : Int))
    generalize rs.getD (cellN (wn : Int) (clampI ((j : Int) - (R : Int)) wn) (clampI (k : Int) hn)) 0 = G at HG ⊢
    clear hpl hin HAB
    go_enter Try.func80, Try.ntmps80
    go_wp2_with fail
    refine HAT.out.mono ?_
    rintro e w1 ⟨rfl, hx1⟩
    go_wp2_with fail
    refine (HPL.out _).mono ?_
    rintro e w2 ⟨rfl, hx2⟩
    go_wp2_with fail
    refine (implIn_yes (R : Int) 0 24 _ (by omega) (by omega)).mono ?_
    rintro e w3 ⟨rfl, rfl⟩
    go_wp2_with fail
    refine (HG.out _ (hx1.trans hx2)).mono ?_
    rintro e w4 ⟨rfl, hx3⟩
    go_wp2
    go_ret2
    exact ⟨rfl, (hx1.trans hx2).trans hx3⟩
  · have hno := inP_no hin 1048576 (by omega)
    have hpl := fun U => place_any x U
    rw [if_neg hin]
    generalize (if pok x = true then min (rnd (vmag x) : Int) 1048576 else -1) = P at hno hpl
    have HN := Lib.hid hno
    have HPL := Lib.hid hpl
    clear hpl hin HAB hno
    go_enter Try.func80, Try.ntmps80
    go_wp2_with fail
    refine HAT.out.mono ?_
    rintro e w1 ⟨rfl, hx1⟩
    go_wp2_with fail
    refine (HPL.out _).mono ?_
    rintro e w2 ⟨rfl, hx2⟩
    go_wp2_with fail
    refine (implIn_no P 0 24 _ HN.out).mono ?_
    rintro e w3 ⟨rfl, rfl⟩
    go_wp2
    go_ret2
    exact ⟨rfl, hx1.trans hx2⟩
set_option maxHeartbeats 8000000 in
set_option maxRecDepth 8000 in
theorem l03Warp_any (g gm wn hn gb off n c gb2 off2 n2 c2 : Nat) (rs ms : List Nat) (U : World) (hB : Box3 U g (.int .i64 wn) (.int .i64 hn) (.slice (some ⟨gb, off, none⟩) n c)) (hM : Box3 U gm (.int .i64 wn) (.int .i64 hn) (.slice (some ⟨gb2, off2, none⟩) n2 c2)) (hl : Lies U gb off rs) (hlen : rs.length = n) (hw : Words rs) (hl2 : Lies U gb2 off2 ms) (hlen2 : ms.length = n2) (hn2m : n2 ≤ maxLen) (hv : VMap wn hn n) (hm : VMap wn hn n2) :
    Calls Try.prog 75 #[.pointer (some ⟨g, 0, none⟩), .pointer (some ⟨gm, 0, none⟩)] U fun e U' => ∃ A c' b, e = .returned (.agg #[.int .i64 wn, .int .i64 hn, .slice A b.length c']) ∧ OwnF U' U.heap.size 25 (.slice A b.length c') b ∧ b.map nrm = (List.range n2).map (warpF wn hn rs ms) ∧ Ext U U' := by
  obtain ⟨i0, hi, hz0, hz1, hz2⟩ := info_parts infoF
  obtain ⟨hmn, hm0', hm2⟩ := map_n hm
  have hw24 : wn ≤ 24 := by have := hv.1.2.1; omega
  have hh24 : hn ≤ 24 := by have := hv.1.2.2.2.1; omega
  have hw1 : 1 ≤ wn := by have := hv.1.1; omega
  have hgl := hB.lt
  have hgm := hM.lt
  have HAT := Lib.hid (fun (W : World) (hE : Ext U W) (u v : Int) => l02At_any g wn hn (some ⟨gb, off, none⟩) n c rs u v W (hB.ext hE) ⟨hlen, fun _ => ⟨gb, off, rfl, hl.ext hE⟩⟩ hv)
  have HGL := Lib.hid (fun (k : Nat) => wd_at2 hw k)
  have HL2 := Lib.hid (fun (W : World) (hE : Ext U W) (i : Nat) (hi : i < n2) => (hl2.ext hE) i (by omega))
  have hidx : ∀ i, i < n2 → i % wn < wn ∧ i / wn < hn := fun i hi => ⟨Nat.mod_lt _ (by omega), by rw [hmn] at hi; exact Nat.div_lt_of_lt_mul hi⟩
  have HIDX := Lib.hid hidx
  clear hl hlen hw hl2 hlen2 hv hm hmn hidx
  go_enter Try.func75, Try.ntmps75
  go_wp2_with fail
  refine wp_at (X := fun w' => Ext U w' ∧ U.heap.size + 1 ≤ w'.heap.size ∧ Box3 w' gm (.int .i64 wn) (.int .i64 hn) (.slice (some ⟨gb2, off2, none⟩) n2 c2) ∧ Res3 w' U.heap.size) ⟨(Ext.refl _).alloc _, by simp, hM.ext ((Ext.refl _).alloc _), ⟨by simp [go_sem], by simp [go_sem], by simp [go_sem], by simp [go_sem], by simp [go_sem], by simp [go_sem]⟩⟩ ?_
  rintro w0 ⟨hx0, hs0, hM0, hres⟩
  have ⟨p0, p1, p2⟩ := hM0
  clear hB hM
  refine region_wx 10 [] (by kernel_rfl) (by kernel_rfl) ?_
  simp only [List.take_succ_cons, List.take_zero, List.drop_succ_cons, List.drop_zero]
  repeat ((first | refine wx_skip rfl ?_ | refine wx_nilCheck rfl rfl _ rfl _ rfl ?_ | (refine wx_float rfl rfl _ _ _ _ _ _ _ rfl rfl rfl rfl ?_; intro r hr) | (refine wx_k rfl rfl rfl (fun K hK => ?_); go_big_quiet_op; refine hK _ ?_; clear hK K) | (refine wx_alloc rfl rfl 58 rfl #[.int .i64 0, .int .i64 0, .slice none 0 0] (fun Z => by simp [Instr.alloc, go_sem]) ?_; intro Va hVa)); (try simp only [Act.put, List.setIfInBounds_toArray, List.set_cons_zero, List.set_cons_succ]); (try simp only [List.tail_nil]))
  refine wx_nil (fun W hW hF => ?_)
  have hAW : Ext (Va.alloc (.cells #[.int .i64 0, .int .i64 0, .slice none 0 0] 58)) W := hF 9
  have hAg := hVa.size
  have rB := (⟨by simp [go_sem], by simp [go_sem], by simp [go_sem], by simp [go_sem], by simp [go_sem], by simp [go_sem]⟩ : Res3 (Va.alloc (.cells #[.int .i64 0, .int .i64 0, .slice none 0 0] 58)) Va.heap.size).ext hAW
  have rH : W.heap[Va.heap.size]? = some (.cells #[.int .i64 0, .int .i64 0, .slice none 0 0] 58 (0, 0)) := (hAW.block _ (by simp)).trans (heap_alloc_new _ _)
  clear hAW
  generalize Va.heap.size = go at hAg rB rH ⊢
  have hgo := rB.lt
  clear hF p0 p1 p2 hVa
  have ⟨r0, r1, r2, rf0, rf1, rf2⟩ := rB
  have ⟨p0, p1, p2⟩ := hM0.ext hW
  have gng : ¬ (go = gm) := by have := hM0.lt; omega
  go_wp2_with fail
  go_loopw [23] (fun y wr => ∃ (k : Nat) (A : Option Addr) (c' : Nat) (b : List Nat), k ≤ n2 ∧ y = .int .i64 k ∧ Acc2 w0 wr w0.heap.size 25 58 go 2 A c' b ((List.range k).map (warpF wn hn rs ms)) ∧ wr.cell? ⟨go, 0, none⟩ = some (.int .i64 wn) ∧ wr.cell? ⟨go, 1, none⟩ = some (.int .i64 hn)) (fun y _ => n2 - (intOf y).toNat)
  case atStart =>
    refine ⟨0, none, 0, [], Nat.zero_le _, rfl, ⟨OwnF.nil _ _ _, ?_, by simp [go_sem, *], by simp [go_sem, *], rfl, ?_, Nat.le_refl _, hAg⟩, by simp [go_sem, *], by simp [go_sem, *]⟩
    · repeat (first | with_reducible exact ⟨_, _, rH⟩ | with_reducible refine blk_set ?_)
    · repeat (first | with_reducible exact hW | (with_reducible refine Ext.setCell ?_ (by dsimp only; omega) _))
  case round =>
    clear r0 r1 r2 rf0 rf1 rf2 rB rH hgo hW p0 p1 p2
    obtain ⟨k, A, c', b, hk, rfl, hacc, o0, o1⟩ := hrel
    have ⟨p0, p1, p2⟩ := hM0.ext hacc.ext
    have hU := hx0.trans hacc.ext
    have hhdr := hacc.hdr
    by_cases hlt : k < n2
    · have k0 : (0 : Int) ≤ (k : Int) := by omega
      have k1 : (k : Int) < (n2 : Int) := by omega
      have a1 : IntKind.i64.wrap ((k : Int) + 1) = (k : Int) + 1 := wrap_small _ (by omega) (by omega)
      have hck := HL2.out _ hU k hlt
      obtain ⟨x, hx⟩ : ∃ x, ms.getD k 0 = x := ⟨_, rfl⟩
      rw [hx] at hck
      have HX := Lib.hid hx
      clear hx
      go_wp2_with fail
      refine (l03Place_any x _).mono ?_
      rintro e w1 ⟨rfl, hx1⟩
      replace p0 := cell_ext p0 hx1
      replace p1 := cell_ext p1 hx1
      replace p2 := cell_ext p2 hx1
      replace o0 := cell_ext o0 hx1
      replace o1 := cell_ext o1 hx1
      replace hU := hU.trans hx1
      replace hacc := hacc.later hx1
      replace hhdr := hacc.hdr
      clear hx1 hck
      have hix := HIDX.out k hlt
      by_cases hin : inP x
      · have hwf : warpF wn hn rs ms k = nrm (greyW wn hn rs x (k % wn) (k / wn)) := by unfold warpF; rw [HX.out, if_pos hin]
        rw [inP_place hin 25 (by omega)]
        have h24 := hin.2
        have HWF := Lib.hid hwf
        have hwg : greyW wn hn rs x (k % wn) (k / wn) < 4294967296 := HGL.out _
        have hat := HAT.out w1 hU
        unfold greyW at hwg HWF
        obtain ⟨R, hR⟩ : ∃ R, rnd (vmag x) = R := ⟨_, rfl⟩
        rw [hR] at h24 hwg HWF ⊢
        obtain ⟨xm, hxm⟩ : ∃ m, k % wn = m := ⟨_, rfl⟩
        obtain ⟨yd, hyd⟩ : ∃ m, k / wn = m := ⟨_, rfl⟩
        rw [hxm, hyd] at hwg HWF hix
        have hrem : (k : Int) % (wn : Int) = (xm : Int) := by rw [← hxm]; simp
        have hquo : (k : Int) / (wn : Int) = (yd : Int) := by rw [← hyd]; simp
        have hwnz : ((wn : Int) == 0) = false := by simp; omega
        have hwr : IntKind.i64.wrap ((xm : Int) - (R : Int)) = (xm : Int) - (R : Int) := wrap_small _ (by omega) (by omega)
        have HG := Lib.hid (fun (W : World) (hE : Ext U W) => HAT.out W hE ((xm : Int) - (R : Int)) (yd : Int))
        generalize rs.getD (cellN (wn : Int) (clampI ((xm : Int) - (R : Int)) wn) (clampI (yd : Int) hn)) 0 = G at HG hwg HWF
        clear hR hxm hyd hin hat hwf
        have HI : Hid ((0 : Int) ≤ (R : Int) ∧ (R : Int) ≤ 24) := Lib.hid (by omega)
        go_wp2_with (go_at_call 63; refine (l00In_yes _ _ _ _ HI.out.1 HI.out.2).mono ?_; rintro e w' ⟨rfl, rfl⟩)
        refine region_wx 16 [] (by kernel_rfl) (by kernel_rfl) ?_
        simp only [List.take_succ_cons, List.take_zero, List.drop_succ_cons, List.drop_zero]
        repeat ((first | refine wx_skip rfl ?_ | refine wx_nilCheck rfl rfl _ rfl _ rfl ?_ | (refine wx_float rfl rfl _ _ _ _ _ _ _ rfl rfl rfl rfl ?_; intro r hr) | (refine wx_k rfl rfl rfl (fun K hK => ?_); go_big_quiet_op; refine hK _ ?_; clear hK K) | (refine wx_call rfl rfl 107 _ _ rfl (by kernel_rfl) (by kernel_rfl) (.float .f32 G) (fun W hW hF => ?_) ?_; go_simp; (with_reducible refine (HG.out W (hU.trans hW)).mono ?_); rintro e w' h; exact h)); (try simp only [Act.put, List.setIfInBounds_toArray, List.set_cons_zero, List.set_cons_succ]); (try simp only [List.tail_nil]))
        refine wx_nil (fun W hW hF => ?_)
        replace o0 := cell_ext o0 hW
        replace o1 := cell_ext o1 hW
        replace p0 := cell_ext p0 hW
        replace p1 := cell_ext p1 hW
        replace p2 := cell_ext p2 hW
        replace hU := hU.trans hW
        replace hacc := hacc.later hW
        replace hhdr := hacc.hdr
        clear hW hF HG
        obtain ⟨W1, rfl⟩ : ∃ w', w' = W := ⟨W, rfl⟩
        go_wp2_with (at_builtin; refine Hid.out ?_)
        refine Lib.hid ?_
        obtain ⟨W2, hW2⟩ : ∃ w', W1 = w' := ⟨_, rfl⟩
        refine wl_at (X := fun w' => Ext W1 w' ∧ w'.cell? ⟨W1.heap.size, 0, none⟩ = some (fl G)) ⟨(Ext.refl _).alloc _, cell_fresh0 _ _ _⟩ ?_
        rintro Z ⟨hZ, hcell⟩
        have hlen := hacc.len
        simp only [List.length_map, List.length_range] at hlen
        have hzs := hZ.size
        have hzc := lt_of_cell hcell
        have hzb := hacc.ext.size
        refine wpList_append_own _ rfl _ _ _ rfl w0.heap.size 25 i0 (.float .f32 0) 1 4 Try.underlying22 hi hz0 hz1 hz2 rfl (by omega) (.slice A b.length c') b.length (b.map fl) (by rfl) (hacc.own.ext hZ) ⟨W1.heap.size, 0, none⟩ 1 1 [fl G] (by rfl) rfl (one_new hcell) (one_word _) (by unfold maxLen; omega) (by omega) (by omega) ?_
        intro v' w2 ho2 hg2 _
        have hlike := hacc.like
        obtain ⟨A', c2, b', rfl, hacc', ⟨hh2, hf2⟩, hold, holdf⟩ := hacc.push (by decide) hZ (rs := [G]) (Xs := [warpF wn hn rs ms k]) ho2 hg2 (by exact congrArg (fun z => [z]) HWF.out.symm)
        have n0 := hold _ _ _ o0 (hacc.ne (by decide)) (by simp)
        have n1 := hold _ _ _ o1 (hacc.ne (by decide)) (by simp)
        rw [show (List.range k).map (warpF wn hn rs ms) ++ [warpF wn hn rs ms k] = (List.range (k + 1)).map (warpF wn hn rs ms) by rw [List.range_succ, List.map_append]; rfl] at hacc'
        clear hold holdf hhdr hacc ho2 hg2 o0 o1 hcell p0 p1 p2 hU hlike hZ
        go_wp2
        go_roundw
        case rel => exact ⟨k + 1, A', c2, b', by omega, by go_num, hacc', n0, n1⟩
        case measure => simp [intOf]; omega
      · have hwf : warpF wn hn rs ms k = 0 := by unfold warpF; rw [HX.out, if_neg hin]
        have HWF := Lib.hid hwf
        have hno := inP_no hin 25 (by omega)
        generalize (if pok x = true then min (rnd (vmag x) : Int) 25 else -1) = Q at hno ⊢
        have HN := Lib.hid hno
        clear hno hin hwf
        go_wp2_with (first | (go_at_call 63; refine (l00In_no _ _ _ _ HN.out).mono ?_; rintro e w' ⟨rfl, rfl⟩) | (at_builtin; refine Hid.out ?_))
        refine Lib.hid ?_
        obtain ⟨W2, hW2⟩ : ∃ w', w1 = w' := ⟨_, rfl⟩
        refine wl_at (X := fun w' => Ext w1 w' ∧ w'.cell? ⟨w1.heap.size, 0, none⟩ = some (fl 0)) ⟨(Ext.refl _).alloc _, cell_fresh0 _ _ _⟩ ?_
        rintro Z ⟨hZ, hcell⟩
        have hlen := hacc.len
        simp only [List.length_map, List.length_range] at hlen
        have hzs := hZ.size
        have hzc := lt_of_cell hcell
        have hzb := hacc.ext.size
        refine wpList_append_own _ rfl _ _ _ rfl w0.heap.size 25 i0 (.float .f32 0) 1 4 Try.underlying22 hi hz0 hz1 hz2 rfl (by omega) (.slice A b.length c') b.length (b.map fl) (by rfl) (hacc.own.ext hZ) ⟨w1.heap.size, 0, none⟩ 1 1 [fl 0] (by rfl) rfl (one_new hcell) (one_word _) (by unfold maxLen; omega) (by omega) (by omega) ?_
        intro v' w2 ho2 hg2 _
        have hlike := hacc.like
        obtain ⟨A', c2, b', rfl, hacc', ⟨hh2, hf2⟩, hold, holdf⟩ := hacc.push (by decide) hZ (rs := [0]) (Xs := [warpF wn hn rs ms k]) ho2 hg2 (by rw [HWF.out]; decide)
        have n0 := hold _ _ _ o0 (hacc.ne (by decide)) (by simp)
        have n1 := hold _ _ _ o1 (hacc.ne (by decide)) (by simp)
        rw [show (List.range k).map (warpF wn hn rs ms) ++ [warpF wn hn rs ms k] = (List.range (k + 1)).map (warpF wn hn rs ms) by rw [List.range_succ, List.map_append]; rfl] at hacc'
        clear hold holdf hhdr hacc ho2 hg2 o0 o1 hcell p0 p1 p2 hU hlike hZ
        go_wp2
        go_roundw
        case rel => exact ⟨k + 1, A', c2, b', by omega, by go_num, hacc', n0, n1⟩
        case measure => simp [intOf]; omega
    · have e1 : k = n2 := by omega
      have ⟨c0, c1, c2, f0, f1, f2⟩ := hres.ext hacc.ext
      have hE := hU
      have hown := hacc.own
      have hlike := hacc.like
      rw [e1] at hlike
      have HLK := Lib.hid hlike
      clear hacc hlike p0 p1 p2 hU e1
      go_wp2
      refine bodyPost_ret (v := .agg #[.int .i64 wn, .int .i64 hn, .slice A b.length c']) (by simp [results, Try.results75, go_sem, *]) rfl ⟨A, c', b, rfl, ?_, HLK.out, ?_⟩
      · refine OwnF.weaken (base := w0.heap.size) ?_ (by omega)
        repeat (first | (with_reducible exact hown) | (with_reducible refine OwnF.set_below ?_ (by dsimp only; omega) _))
      · repeat (first | (with_reducible exact hE) | (with_reducible refine Ext.setCell ?_ (by dsimp only; omega) _))
end Go.Proofs.Ytgpobhpcbgenoaa
