/- Contracts: prices over a picture. -/
import Derived.Test.YtpjlfgaflbghmaaMaps
import Derived.Test.YtpjlfgaflbghmaaAbs
import Derived.Test.YtpjlfgaflbghmaaPathC
namespace Go.Proofs.Ytpjlfgaflbghmaa
open Go.RowKit
set_option linter.unusedVariables false

/-- What stands above one, and the price of the other jumps over two greys. -/
def overQ (p1 D : Nat) : Nat := fop .quo p1 (fop .add 1065353216 (absN D))
def overM (p0 p1 D : Nat) : Nat := if (fcmp (overQ p1 D) p0 == some .gt || fcmp (overQ p1 D) p0 == some .eq) = true then overQ p1 D else p0
theorem fcmp_num {X : Nat} {s : Bool} {m : Nat} {p : Int} (hr : Ieee.single.read X = .number s m p) (hp : -149 ≤ p) : fcmp X 0 = some (compare (Ieee.signed s m (p - -149).toNat) 0) := by
  have hk2 : min p (-149) = -149 := by omega
  have hs0 : Ieee.signed false 0 (-149 - -149 : Int).toNat = 0 := by decide +kernel
  unfold fcmp Ieee.Format.order
  rw [hr, read_zero]
  simp only [Ieee.Datum.order, hk2]
  rw [hs0]
theorem neg_case {X : Nat} (hX : X < 4294967296) (hn : isN X = false) (hlt : fcmp X 0 = some .lt) : 2147483648 ≤ X := by
  rcases read_word X hX hn with (⟨h, hr⟩ | ⟨h, hr⟩) | ⟨s, m, p, hr, hw0, hw1, hp, hm0, hm, hs⟩
  · subst h; exact absurd hlt (by decide +kernel)
  · omega
  · cases s
    · rw [fcmp_num hr hp, Option.some.injEq, Int.compare_eq_lt] at hlt
      exfalso
      unfold Ieee.signed at hlt
      generalize m <<< _ = t at hlt
      simp at hlt
      omega
    · exact hs.1 rfl
theorem eq_case {X : Nat} (hX : X < 4294967296) (hn : isN X = false) (heq : fcmp X 0 = some .eq) : X % 2147483648 = 0 := by
  rcases read_word X hX hn with (⟨h, hr⟩ | ⟨h, hr⟩) | ⟨s, m, p, hr, hw0, hw1, hp, hm0, hm, hs⟩
  · subst h; exact absurd heq (by decide +kernel)
  · subst h; exact absurd heq (by decide +kernel)
  · rw [fcmp_num hr hp, Option.some.injEq, Int.compare_eq_eq] at heq
    have h0 : m <<< (p - -149).toNat = 0 := by
      unfold Ieee.signed at heq
      generalize m <<< _ = t at heq ⊢
      cases s <;> simp at heq <;> omega
    by_cases hm1 : m = 0
    · exact hm0 hm1
    · exact absurd h0 (shl_ne hm1 _)
/-- Below nought: the sign taken off is the size. -/
theorem neg_is {x X : Nat} (h : Is x X) (hlt : fcmp X 0 = some .lt) : Is (Op.negFloat .f32 x) (absN X) := by
  have hlt' : fcmp x 0 = some .lt := by rw [← hlt, ← h.2]; exact (fcmp_nrm x 0).symm
  have hn : isN x = false := by
    cases hn : isN x with
    | false => rfl
    | true => rw [order_nan_left x 0 hn] at hlt'; cases hlt'
  have hge := neg_case h.1 hn hlt'
  have hx : Op.negFloat .f32 x = x % 2147483648 := by
    show x ^^^ 2147483648 = x % 2147483648
    have h1 : x = x % 2147483648 + 2147483648 := by have := h.1; omega
    have h2 : x % 2147483648 < 2 ^ 31 := by omega
    generalize x % 2147483648 = y at h1 h2 ⊢
    subst h1
    have h3 : y + 2147483648 = y ^^^ 2147483648 := by
      have h4 : y + 2147483648 = 2 ^ 31 ||| y := by
        have := Nat.two_pow_add_eq_or_of_lt h2 1
        rw [Nat.mul_one] at this
        rw [← this, Nat.add_comm]
      rw [h4, show (2147483648 : Nat) = 2 ^ 31 by decide]
      apply Nat.eq_of_testBit_eq
      intro i
      rw [Nat.testBit_or, Nat.testBit_xor, Nat.testBit_two_pow]
      by_cases hi : 31 = i
      · subst hi
        rw [Nat.testBit_lt_two_pow h2]
        rfl
      · simp [hi]
    rw [h3, Nat.xor_assoc, Nat.xor_self, Nat.xor_zero]
  rw [hx]
  exact abs_is h
/-- Not below nought: one and the size, one and the number. -/
theorem one_abs {X : Nat} (hX : X < 4294967296) (hN : nrm X = X) (hlt : ¬ fcmp X 0 = some .lt) : fop .add 1065353216 X = fop .add 1065353216 (absN X) := by
  by_cases hn : isN X = true
  · unfold absN; rw [if_pos hn]; unfold nrm at hN; rw [if_pos hn] at hN; rw [hN]
  · have hn' : isN X = false := by simpa using hn
    by_cases heq : fcmp X 0 = some .eq
    · have h0 := eq_case hX hn' heq
      unfold absN
      rw [if_neg hn, h0]
      have : X = 0 ∨ X = 2147483648 := by omega
      rcases this with rfl | rfl <;> decide +kernel
    · have hg := size_gt X hX hn' (by
        cases h : fcmp X 0 with
        | none => rfl
        | some o => rw [h] at hlt heq; cases o <;> simp_all)
      unfold absN
      rw [if_neg hn, hg]
@[go_sem] theorem run_negF (k : FloatKind) (b : Nat) (w : World) : (Op.unary .neg (.float k b)).run Try.prog w = .ok (.float k (Op.negFloat k b)) w := by simp [Op.unary]
theorem is_one : Is 1065353216 1065353216 := ⟨by decide, by decide +kernel⟩
theorem is_lt {r X : Nat} (h : Is r X) : r < 4294967296 := h.1
theorem is_nought : Is 0 0 := ⟨by decide, by decide +kernel⟩
theorem sub_nrm (x y : Nat) : nrm (fop .sub x y) = fop .sub x y := by
  have w : World := default
  have h := (flR_is .sub w x y).2
  rw [← h, nrm_nrm]
theorem sub_lt (x y : Nat) : fop .sub x y < 4294967296 := by
  have w : World := default
  have h := flR_is .sub w x y
  rw [← h.2]; exact nrm_lt _ h.1
set_option maxHeartbeats 2000000 in
theorem l04Over_ng (gp p0 p1 go : Nat) (wn hn n c : Nat) (A : Option Addr) (bs : List Nat) (x y u v : Int) (U : World) (hP : Box2 U gp (fl p0) (fl p1)) (hB : Box3 U go (.int .i64 wn) (.int .i64 hn) (.slice A n c)) (hr : Reads U A n bs) (hv : VMap wn hn n) (h0 : p0 < 4294967296) (h1 : p1 < 4294967296) (va vb : Nat) (hva : bs.getD (cellN wn (clampI x wn) (clampI y hn)) 0 = va) (hvb : bs.getD (cellN wn (clampI u wn) (clampI v hn)) 0 = vb)
    (hlt : fcmp (fop .sub va vb) 0 = some .lt) (hge : (fcmp (overQ (nrm p1) (fop .sub va vb)) (nrm p0) == some .gt || fcmp (overQ (nrm p1) (fop .sub va vb)) (nrm p0) == some .eq) = true) :
    Calls Try.prog 106 #[.pointer (some ⟨gp, 0, none⟩), .pointer (some ⟨go, 0, none⟩), .int .i64 x, .int .i64 y, .int .i64 u, .int .i64 v] U fun e U' => ∃ a b, e = .returned (.agg #[.float .f32 a, .float .f32 b]) ∧ Is a (nrm p0) ∧ Is b (overM (nrm p0) (nrm p1) (fop .sub va vb)) ∧ Ext U U' := by
  have hA := fun (W : World) (hx' : Ext U W) => l02At_any go wn hn A n c bs x y W (hB.ext hx') (hr.ext hx') hv
  have hA' := fun (W : World) (hx' : Ext U W) => l02At_any go wn hn A n c bs u v W (hB.ext hx') (hr.ext hx') hv
  rw [hva] at hA
  rw [hvb] at hA'
  have hc1 : ∀ w, (FloatKind.f32.format.order (flR .sub w va vb) 0 == some .lt) = true := fun w => by
    rw [Is.cmp (flR_is _ _ _ _) is_nought]; rw [hlt]; rfl
  have hQ : ∀ w w' w'', Is (flR .quo w p1 (flR .add w' 1065353216 (Op.negFloat .f32 (flR .sub w'' va vb)))) (overQ (nrm p1) (fop .sub va vb)) := fun w w' w'' => by
    unfold overQ; exact Is.op ⟨h1, rfl⟩ (Is.op is_one (neg_is (flR_is _ _ _ _) hlt) (flR_is _ _ _ _)) (flR_is _ _ _ _)
  have hc2 : ∀ w w' w'', (FloatKind.f32.format.order (flR .quo w p1 (flR .add w' 1065353216 (Op.negFloat .f32 (flR .sub w'' va vb)))) p0 == some .gt || FloatKind.f32.format.order (flR .quo w p1 (flR .add w' 1065353216 (Op.negFloat .f32 (flR .sub w'' va vb)))) p0 == some .eq) = true := fun w w' w'' => by
    rw [Is.cmp (hQ w w' w'') ⟨h0, rfl⟩]; exact hge
  have HA := Lib.hid hA
  have HAA := Lib.hid hA'
  have HQ := Lib.hid hQ
  have HGE := Lib.hid hge
  clear hva hvb hA hA' hB hr hv hQ hge hlt
  go_enter Try.func106, Try.ntmps106
  go_wp2_with fail
  refine calls_at (X := fun w' => Ext U w' ∧ Box2 w' gp (fl p0) (fl p1) ∧ w'.cell? ⟨U.heap.size, 0, none⟩ = some (fl 0) ∧ w'.cell? ⟨U.heap.size, 1, none⟩ = some (fl 0) ∧ w'.frozen? ⟨U.heap.size, 0, none⟩ = false ∧ w'.frozen? ⟨U.heap.size, 1, none⟩ = false) ⟨(Ext.refl _).alloc _, hP.ext ((Ext.refl _).alloc _), by simp [go_sem], by simp [go_sem], by simp [go_sem], by simp [go_sem]⟩ ?_
  rintro w0 ⟨hx0, hq0, c0, c1, f0, f1⟩
  refine (HA.out _ hx0).mono ?_
  rintro e w1 ⟨rfl, hx1⟩
  go_wp2_with fail
  refine (HAA.out _ (hx0.trans hx1)).mono ?_
  rintro e w2 ⟨rfl, hx2⟩
  have hx12 := hx1.trans hx2
  have hE := hx0.trans hx12
  have ⟨q0, q1⟩ := hq0.ext hx12
  replace f0 := (hx12.marks _ _ (by rw [c0]; rfl)).trans f0
  replace f1 := (hx12.marks _ _ (by rw [c1]; rfl)).trans f1
  replace c0 := cell_ext c0 hx12
  replace c1 := cell_ext c1 hx12
  clear hx1 hx2 hx12 hx0 hq0 hP
  go_wp2
  refine bodyPost_ret (v := .agg #[.float .f32 p0, .float .f32 _]) (by simp [results, Try.results106, go_sem, *]; rfl) rfl ⟨p0, _, rfl, ⟨h0, rfl⟩, ?_, ?_⟩
  · unfold overM; rw [if_pos HGE.out]; exact HQ.out _ _ _
  · repeat (first | (with_reducible exact hE) | (with_reducible refine Ext.setCell ?_ (by dsimp only; omega) _) | (with_reducible refine Ext.drewN ?_ _))
set_option maxHeartbeats 2000000 in
theorem l04Over_nl (gp p0 p1 go : Nat) (wn hn n c : Nat) (A : Option Addr) (bs : List Nat) (x y u v : Int) (U : World) (hP : Box2 U gp (fl p0) (fl p1)) (hB : Box3 U go (.int .i64 wn) (.int .i64 hn) (.slice A n c)) (hr : Reads U A n bs) (hv : VMap wn hn n) (h0 : p0 < 4294967296) (h1 : p1 < 4294967296) (va vb : Nat) (hva : bs.getD (cellN wn (clampI x wn) (clampI y hn)) 0 = va) (hvb : bs.getD (cellN wn (clampI u wn) (clampI v hn)) 0 = vb)
    (hlt : fcmp (fop .sub va vb) 0 = some .lt) (hge : (fcmp (overQ (nrm p1) (fop .sub va vb)) (nrm p0) == some .gt || fcmp (overQ (nrm p1) (fop .sub va vb)) (nrm p0) == some .eq) = false) :
    Calls Try.prog 106 #[.pointer (some ⟨gp, 0, none⟩), .pointer (some ⟨go, 0, none⟩), .int .i64 x, .int .i64 y, .int .i64 u, .int .i64 v] U fun e U' => ∃ a b, e = .returned (.agg #[.float .f32 a, .float .f32 b]) ∧ Is a (nrm p0) ∧ Is b (overM (nrm p0) (nrm p1) (fop .sub va vb)) ∧ Ext U U' := by
  have hA := fun (W : World) (hx' : Ext U W) => l02At_any go wn hn A n c bs x y W (hB.ext hx') (hr.ext hx') hv
  have hA' := fun (W : World) (hx' : Ext U W) => l02At_any go wn hn A n c bs u v W (hB.ext hx') (hr.ext hx') hv
  rw [hva] at hA
  rw [hvb] at hA'
  have hc1 : ∀ w, (FloatKind.f32.format.order (flR .sub w va vb) 0 == some .lt) = true := fun w => by
    rw [Is.cmp (flR_is _ _ _ _) is_nought]; rw [hlt]; rfl
  have hQ : ∀ w w' w'', Is (flR .quo w p1 (flR .add w' 1065353216 (Op.negFloat .f32 (flR .sub w'' va vb)))) (overQ (nrm p1) (fop .sub va vb)) := fun w w' w'' => by
    unfold overQ; exact Is.op ⟨h1, rfl⟩ (Is.op is_one (neg_is (flR_is _ _ _ _) hlt) (flR_is _ _ _ _)) (flR_is _ _ _ _)
  have hc2 : ∀ w w' w'', (FloatKind.f32.format.order (flR .quo w p1 (flR .add w' 1065353216 (Op.negFloat .f32 (flR .sub w'' va vb)))) p0 == some .gt || FloatKind.f32.format.order (flR .quo w p1 (flR .add w' 1065353216 (Op.negFloat .f32 (flR .sub w'' va vb)))) p0 == some .eq) = false := fun w w' w'' => by
    rw [Is.cmp (hQ w w' w'') ⟨h0, rfl⟩]; exact hge
  have HA := Lib.hid hA
  have HAA := Lib.hid hA'
  have HQ := Lib.hid hQ
  have HGE := Lib.hid hge
  clear hva hvb hA hA' hB hr hv hQ hge hlt
  go_enter Try.func106, Try.ntmps106
  go_wp2_with fail
  refine calls_at (X := fun w' => Ext U w' ∧ Box2 w' gp (fl p0) (fl p1) ∧ w'.cell? ⟨U.heap.size, 0, none⟩ = some (fl 0) ∧ w'.cell? ⟨U.heap.size, 1, none⟩ = some (fl 0) ∧ w'.frozen? ⟨U.heap.size, 0, none⟩ = false ∧ w'.frozen? ⟨U.heap.size, 1, none⟩ = false) ⟨(Ext.refl _).alloc _, hP.ext ((Ext.refl _).alloc _), by simp [go_sem], by simp [go_sem], by simp [go_sem], by simp [go_sem]⟩ ?_
  rintro w0 ⟨hx0, hq0, c0, c1, f0, f1⟩
  refine (HA.out _ hx0).mono ?_
  rintro e w1 ⟨rfl, hx1⟩
  go_wp2_with fail
  refine (HAA.out _ (hx0.trans hx1)).mono ?_
  rintro e w2 ⟨rfl, hx2⟩
  have hx12 := hx1.trans hx2
  have hE := hx0.trans hx12
  have ⟨q0, q1⟩ := hq0.ext hx12
  replace f0 := (hx12.marks _ _ (by rw [c0]; rfl)).trans f0
  replace f1 := (hx12.marks _ _ (by rw [c1]; rfl)).trans f1
  replace c0 := cell_ext c0 hx12
  replace c1 := cell_ext c1 hx12
  clear hx1 hx2 hx12 hx0 hq0 hP
  go_wp2
  refine bodyPost_ret (v := .agg #[.float .f32 p0, .float .f32 _]) (by simp [results, Try.results106, go_sem, *]; rfl) rfl ⟨p0, _, rfl, ⟨h0, rfl⟩, ?_, ?_⟩
  · unfold overM; rw [if_neg (by rw [HGE.out]; decide)]; exact ⟨h0, rfl⟩
  · repeat (first | (with_reducible exact hE) | (with_reducible refine Ext.setCell ?_ (by dsimp only; omega) _) | (with_reducible refine Ext.drewN ?_ _))
set_option maxHeartbeats 2000000 in
theorem l04Over_pg (gp p0 p1 go : Nat) (wn hn n c : Nat) (A : Option Addr) (bs : List Nat) (x y u v : Int) (U : World) (hP : Box2 U gp (fl p0) (fl p1)) (hB : Box3 U go (.int .i64 wn) (.int .i64 hn) (.slice A n c)) (hr : Reads U A n bs) (hv : VMap wn hn n) (h0 : p0 < 4294967296) (h1 : p1 < 4294967296) (va vb : Nat) (hva : bs.getD (cellN wn (clampI x wn) (clampI y hn)) 0 = va) (hvb : bs.getD (cellN wn (clampI u wn) (clampI v hn)) 0 = vb)
    (hlt : ¬ fcmp (fop .sub va vb) 0 = some .lt) (hge : (fcmp (overQ (nrm p1) (fop .sub va vb)) (nrm p0) == some .gt || fcmp (overQ (nrm p1) (fop .sub va vb)) (nrm p0) == some .eq) = true) :
    Calls Try.prog 106 #[.pointer (some ⟨gp, 0, none⟩), .pointer (some ⟨go, 0, none⟩), .int .i64 x, .int .i64 y, .int .i64 u, .int .i64 v] U fun e U' => ∃ a b, e = .returned (.agg #[.float .f32 a, .float .f32 b]) ∧ Is a (nrm p0) ∧ Is b (overM (nrm p0) (nrm p1) (fop .sub va vb)) ∧ Ext U U' := by
  have hA := fun (W : World) (hx' : Ext U W) => l02At_any go wn hn A n c bs x y W (hB.ext hx') (hr.ext hx') hv
  have hA' := fun (W : World) (hx' : Ext U W) => l02At_any go wn hn A n c bs u v W (hB.ext hx') (hr.ext hx') hv
  rw [hva] at hA
  rw [hvb] at hA'
  have hc1 : ∀ w, (FloatKind.f32.format.order (flR .sub w va vb) 0 == some .lt) = false := fun w => by
    rw [Is.cmp (flR_is _ _ _ _) is_nought]; cases h : fcmp (fop .sub va vb) 0 with | none => rfl | some q => (cases q <;> first | rfl | exact absurd h hlt)
  have hQ : ∀ w w' w'', Is (flR .quo w p1 (flR .add w' 1065353216 (flR .sub w'' va vb))) (overQ (nrm p1) (fop .sub va vb)) := fun w w' w'' => by
    unfold overQ; rw [← one_abs (sub_lt _ _) (sub_nrm _ _) hlt]; exact Is.op ⟨h1, rfl⟩ (Is.op is_one (flR_is _ _ _ _) (flR_is _ _ _ _)) (flR_is _ _ _ _)
  have hc2 : ∀ w w' w'', (FloatKind.f32.format.order (flR .quo w p1 (flR .add w' 1065353216 (flR .sub w'' va vb))) p0 == some .gt || FloatKind.f32.format.order (flR .quo w p1 (flR .add w' 1065353216 (flR .sub w'' va vb))) p0 == some .eq) = true := fun w w' w'' => by
    rw [Is.cmp (hQ w w' w'') ⟨h0, rfl⟩]; exact hge
  have HA := Lib.hid hA
  have HAA := Lib.hid hA'
  have HQ := Lib.hid hQ
  have HGE := Lib.hid hge
  clear hva hvb hA hA' hB hr hv hQ hge hlt
  go_enter Try.func106, Try.ntmps106
  go_wp2_with fail
  refine calls_at (X := fun w' => Ext U w' ∧ Box2 w' gp (fl p0) (fl p1) ∧ w'.cell? ⟨U.heap.size, 0, none⟩ = some (fl 0) ∧ w'.cell? ⟨U.heap.size, 1, none⟩ = some (fl 0) ∧ w'.frozen? ⟨U.heap.size, 0, none⟩ = false ∧ w'.frozen? ⟨U.heap.size, 1, none⟩ = false) ⟨(Ext.refl _).alloc _, hP.ext ((Ext.refl _).alloc _), by simp [go_sem], by simp [go_sem], by simp [go_sem], by simp [go_sem]⟩ ?_
  rintro w0 ⟨hx0, hq0, c0, c1, f0, f1⟩
  refine (HA.out _ hx0).mono ?_
  rintro e w1 ⟨rfl, hx1⟩
  go_wp2_with fail
  refine (HAA.out _ (hx0.trans hx1)).mono ?_
  rintro e w2 ⟨rfl, hx2⟩
  have hx12 := hx1.trans hx2
  have hE := hx0.trans hx12
  have ⟨q0, q1⟩ := hq0.ext hx12
  replace f0 := (hx12.marks _ _ (by rw [c0]; rfl)).trans f0
  replace f1 := (hx12.marks _ _ (by rw [c1]; rfl)).trans f1
  replace c0 := cell_ext c0 hx12
  replace c1 := cell_ext c1 hx12
  clear hx1 hx2 hx12 hx0 hq0 hP
  go_wp2
  refine bodyPost_ret (v := .agg #[.float .f32 p0, .float .f32 _]) (by simp [results, Try.results106, go_sem, *]; rfl) rfl ⟨p0, _, rfl, ⟨h0, rfl⟩, ?_, ?_⟩
  · unfold overM; rw [if_pos HGE.out]; exact HQ.out _ _ _
  · repeat (first | (with_reducible exact hE) | (with_reducible refine Ext.setCell ?_ (by dsimp only; omega) _) | (with_reducible refine Ext.drewN ?_ _))
set_option maxHeartbeats 2000000 in
theorem l04Over_pl (gp p0 p1 go : Nat) (wn hn n c : Nat) (A : Option Addr) (bs : List Nat) (x y u v : Int) (U : World) (hP : Box2 U gp (fl p0) (fl p1)) (hB : Box3 U go (.int .i64 wn) (.int .i64 hn) (.slice A n c)) (hr : Reads U A n bs) (hv : VMap wn hn n) (h0 : p0 < 4294967296) (h1 : p1 < 4294967296) (va vb : Nat) (hva : bs.getD (cellN wn (clampI x wn) (clampI y hn)) 0 = va) (hvb : bs.getD (cellN wn (clampI u wn) (clampI v hn)) 0 = vb)
    (hlt : ¬ fcmp (fop .sub va vb) 0 = some .lt) (hge : (fcmp (overQ (nrm p1) (fop .sub va vb)) (nrm p0) == some .gt || fcmp (overQ (nrm p1) (fop .sub va vb)) (nrm p0) == some .eq) = false) :
    Calls Try.prog 106 #[.pointer (some ⟨gp, 0, none⟩), .pointer (some ⟨go, 0, none⟩), .int .i64 x, .int .i64 y, .int .i64 u, .int .i64 v] U fun e U' => ∃ a b, e = .returned (.agg #[.float .f32 a, .float .f32 b]) ∧ Is a (nrm p0) ∧ Is b (overM (nrm p0) (nrm p1) (fop .sub va vb)) ∧ Ext U U' := by
  have hA := fun (W : World) (hx' : Ext U W) => l02At_any go wn hn A n c bs x y W (hB.ext hx') (hr.ext hx') hv
  have hA' := fun (W : World) (hx' : Ext U W) => l02At_any go wn hn A n c bs u v W (hB.ext hx') (hr.ext hx') hv
  rw [hva] at hA
  rw [hvb] at hA'
  have hc1 : ∀ w, (FloatKind.f32.format.order (flR .sub w va vb) 0 == some .lt) = false := fun w => by
    rw [Is.cmp (flR_is _ _ _ _) is_nought]; cases h : fcmp (fop .sub va vb) 0 with | none => rfl | some q => (cases q <;> first | rfl | exact absurd h hlt)
  have hQ : ∀ w w' w'', Is (flR .quo w p1 (flR .add w' 1065353216 (flR .sub w'' va vb))) (overQ (nrm p1) (fop .sub va vb)) := fun w w' w'' => by
    unfold overQ; rw [← one_abs (sub_lt _ _) (sub_nrm _ _) hlt]; exact Is.op ⟨h1, rfl⟩ (Is.op is_one (flR_is _ _ _ _) (flR_is _ _ _ _)) (flR_is _ _ _ _)
  have hc2 : ∀ w w' w'', (FloatKind.f32.format.order (flR .quo w p1 (flR .add w' 1065353216 (flR .sub w'' va vb))) p0 == some .gt || FloatKind.f32.format.order (flR .quo w p1 (flR .add w' 1065353216 (flR .sub w'' va vb))) p0 == some .eq) = false := fun w w' w'' => by
    rw [Is.cmp (hQ w w' w'') ⟨h0, rfl⟩]; exact hge
  have HA := Lib.hid hA
  have HAA := Lib.hid hA'
  have HQ := Lib.hid hQ
  have HGE := Lib.hid hge
  clear hva hvb hA hA' hB hr hv hQ hge hlt
  go_enter Try.func106, Try.ntmps106
  go_wp2_with fail
  refine calls_at (X := fun w' => Ext U w' ∧ Box2 w' gp (fl p0) (fl p1) ∧ w'.cell? ⟨U.heap.size, 0, none⟩ = some (fl 0) ∧ w'.cell? ⟨U.heap.size, 1, none⟩ = some (fl 0) ∧ w'.frozen? ⟨U.heap.size, 0, none⟩ = false ∧ w'.frozen? ⟨U.heap.size, 1, none⟩ = false) ⟨(Ext.refl _).alloc _, hP.ext ((Ext.refl _).alloc _), by simp [go_sem], by simp [go_sem], by simp [go_sem], by simp [go_sem]⟩ ?_
  rintro w0 ⟨hx0, hq0, c0, c1, f0, f1⟩
  refine (HA.out _ hx0).mono ?_
  rintro e w1 ⟨rfl, hx1⟩
  go_wp2_with fail
  refine (HAA.out _ (hx0.trans hx1)).mono ?_
  rintro e w2 ⟨rfl, hx2⟩
  have hx12 := hx1.trans hx2
  have hE := hx0.trans hx12
  have ⟨q0, q1⟩ := hq0.ext hx12
  replace f0 := (hx12.marks _ _ (by rw [c0]; rfl)).trans f0
  replace f1 := (hx12.marks _ _ (by rw [c1]; rfl)).trans f1
  replace c0 := cell_ext c0 hx12
  replace c1 := cell_ext c1 hx12
  clear hx1 hx2 hx12 hx0 hq0 hP
  go_wp2
  refine bodyPost_ret (v := .agg #[.float .f32 p0, .float .f32 _]) (by simp [results, Try.results106, go_sem, *]; rfl) rfl ⟨p0, _, rfl, ⟨h0, rfl⟩, ?_, ?_⟩
  · unfold overM; rw [if_neg (by rw [HGE.out]; decide)]; exact ⟨h0, rfl⟩
  · repeat (first | (with_reducible exact hE) | (with_reducible refine Ext.setCell ?_ (by dsimp only; omega) _) | (with_reducible refine Ext.drewN ?_ _))
theorem l04Over_any (gp p0 p1 go : Nat) (wn hn n c : Nat) (A : Option Addr) (bs : List Nat) (x y u v : Int) (U : World) (hP : Box2 U gp (fl p0) (fl p1)) (hB : Box3 U go (.int .i64 wn) (.int .i64 hn) (.slice A n c)) (hr : Reads U A n bs) (hv : VMap wn hn n) (h0 : p0 < 4294967296) (h1 : p1 < 4294967296) :
    Calls Try.prog 106 #[.pointer (some ⟨gp, 0, none⟩), .pointer (some ⟨go, 0, none⟩), .int .i64 x, .int .i64 y, .int .i64 u, .int .i64 v] U fun e U' => ∃ a b, e = .returned (.agg #[.float .f32 a, .float .f32 b]) ∧ Is a (nrm p0) ∧ Is b (overM (nrm p0) (nrm p1) (fop .sub (bs.getD (cellN wn (clampI x wn) (clampI y hn)) 0) (bs.getD (cellN wn (clampI u wn) (clampI v hn)) 0))) ∧ Ext U U' := by
  by_cases hlt : fcmp (fop .sub (bs.getD (cellN wn (clampI x wn) (clampI y hn)) 0) (bs.getD (cellN wn (clampI u wn) (clampI v hn)) 0)) 0 = some .lt
  · cases hge : (fcmp (overQ (nrm p1) (fop .sub (bs.getD (cellN wn (clampI x wn) (clampI y hn)) 0) (bs.getD (cellN wn (clampI u wn) (clampI v hn)) 0))) (nrm p0) == some .gt || fcmp (overQ (nrm p1) (fop .sub (bs.getD (cellN wn (clampI x wn) (clampI y hn)) 0) (bs.getD (cellN wn (clampI u wn) (clampI v hn)) 0))) (nrm p0) == some .eq) with
    | true => exact l04Over_ng gp p0 p1 go wn hn n c A bs x y u v U hP hB hr hv h0 h1 _ _ rfl rfl hlt hge
    | false => exact l04Over_nl gp p0 p1 go wn hn n c A bs x y u v U hP hB hr hv h0 h1 _ _ rfl rfl hlt hge
  · cases hge : (fcmp (overQ (nrm p1) (fop .sub (bs.getD (cellN wn (clampI x wn) (clampI y hn)) 0) (bs.getD (cellN wn (clampI u wn) (clampI v hn)) 0))) (nrm p0) == some .gt || fcmp (overQ (nrm p1) (fop .sub (bs.getD (cellN wn (clampI x wn) (clampI y hn)) 0) (bs.getD (cellN wn (clampI u wn) (clampI v hn)) 0))) (nrm p0) == some .eq) with
    | true => exact l04Over_pg gp p0 p1 go wn hn n c A bs x y u v U hP hB hr hv h0 h1 _ _ rfl rfl hlt hge
    | false => exact l04Over_pl gp p0 p1 go wn hn n c A bs x y u v U hP hB hr hv h0 h1 _ _ rfl rfl hlt hge
theorem absE (x : Nat) (hx : x < 4294967296) (W : World) : Calls Try.prog 113 #[fl x] W fun e W' => e = .returned (.float .f32 (x % 2147483648)) ∧ Ext W W' := (abs_any x hx W).mono (fun e w' h => by obtain ⟨rfl, rfl⟩ := h; exact ⟨rfl, Ext.refl _⟩)
set_option maxHeartbeats 2000000 in
theorem over1_g (gp p0 p1 gg go : Nat) (wn hn n c : Nat) (A : Option Addr) (bs : List Nat) (x y u v : Int) (U : World) (hP : Box2 U gp (fl p0) (fl p1)) (hG : U.cell? ⟨gg, 0, none⟩ = some (.pointer (some ⟨go, 0, none⟩))) (hB : Box3 U go (.int .i64 wn) (.int .i64 hn) (.slice A n c)) (hr : Reads U A n bs) (hv : VMap wn hn n) (h0 : p0 < 4294967296) (h1 : p1 < 4294967296) (va vb : Nat) (hva : bs.getD (cellN wn (clampI x wn) (clampI y hn)) 0 = va) (hvb : bs.getD (cellN wn (clampI u wn) (clampI v hn)) 0 = vb)
    (hge : (fcmp (overQ (nrm p1) (fop .sub va vb)) (nrm p0) == some .gt || fcmp (overQ (nrm p1) (fop .sub va vb)) (nrm p0) == some .eq) = true) :
    Calls Try.prog 112 #[.int .i64 x, .int .i64 y, .int .i64 u, .int .i64 v, .pointer (some ⟨gp, 0, none⟩), .pointer (some ⟨gg, 0, none⟩)] U fun e U' => ∃ a b, e = .returned (.agg #[.float .f32 a, .float .f32 b]) ∧ Is a (nrm p0) ∧ Is b (overM (nrm p0) (nrm p1) (fop .sub va vb)) ∧ Ext U U' := by
  have hA := fun (W : World) (hx' : Ext U W) => about_any go wn hn A n c bs x y W (hB.ext hx') (hr.ext hx') hv
  have hA' := fun (W : World) (hx' : Ext U W) => about_any go wn hn A n c bs u v W (hB.ext hx') (hr.ext hx') hv
  rw [hva] at hA
  rw [hvb] at hA'
  have HA := Lib.hid hA
  have HAA := Lib.hid hA'
  have HGE := Lib.hid hge
  have hgl := hP.lt
  have hggl : gg < U.heap.size := lt_of_cell hG
  clear hva hvb hA hA' hB hr hv hge
  go_enter Try.func112, Try.ntmps112
  go_wp2_with fail
  refine wp_at (X := fun w' => Ext U w' ∧ Box2 w' gp (fl p0) (fl p1) ∧ w'.cell? ⟨gg, 0, none⟩ = some (.pointer (some ⟨go, 0, none⟩)) ∧ w'.cell? ⟨U.heap.size, 0, none⟩ = some (fl 0) ∧ w'.cell? ⟨U.heap.size, 1, none⟩ = some (fl 0) ∧ w'.frozen? ⟨U.heap.size, 0, none⟩ = false ∧ w'.frozen? ⟨U.heap.size, 1, none⟩ = false ∧ U.heap.size < w'.heap.size) ⟨(Ext.refl _).alloc _, hP.ext ((Ext.refl _).alloc _), cell_ext hG ((Ext.refl _).alloc _), by simp [go_sem], by simp [go_sem], by simp [go_sem], by simp [go_sem], by simp⟩ ?_
  rintro w0 ⟨hx0, hq0, hg0, c0, c1, f0, f1, hs0⟩
  have ⟨q0, q1⟩ := hq0
  clear hP hG
  refine region_wx 14 [] (by kernel_rfl) (by kernel_rfl) ?_
  simp only [List.take_succ_cons, List.take_zero, List.drop_succ_cons, List.drop_zero]
  repeat ((first | refine wx_skip rfl ?_ | refine wx_nilCheck rfl rfl _ rfl _ rfl ?_ | (refine wx_float rfl rfl _ _ _ _ _ _ _ rfl rfl rfl rfl ?_; intro r hr) | (refine wx_k rfl rfl rfl (fun K hK => ?_); go_big_quiet_op; refine hK _ ?_; clear hK K) | (refine wx_call rfl rfl 114 _ _ rfl (by kernel_rfl) (by kernel_rfl) (.float .f32 va) (fun W hW hF => ?_) ?_; go_simp; (with_reducible refine (HA.out W (hx0.trans hW)).mono ?_); rintro e w' h; exact h) | (refine wx_call rfl rfl 114 _ _ rfl (by kernel_rfl) (by kernel_rfl) (.float .f32 vb) (fun W hW hF => ?_) ?_; go_simp; (with_reducible refine (HAA.out W (hx0.trans hW)).mono ?_); rintro e w' h; exact h) | (refine wx_call rfl rfl 113 _ _ rfl (by kernel_rfl) (by kernel_rfl) (.float .f32 (r % 2147483648)) (fun W hW hF => ?_) ?_; go_simp; (with_reducible refine (absE r (is_lt hr) W).mono ?_); rintro e w' h; exact h)); (try simp only [Act.put, List.setIfInBounds_toArray, List.set_cons_zero, List.set_cons_succ]); (try simp only [List.tail_nil]))
  refine wx_nil (fun W hW hF => ?_)
  have hQ : Is r (overQ (nrm p1) (fop .sub va vb)) := Is.op ⟨h1, rfl⟩ (Is.op is_one (abs_is (by assumption)) (by assumption)) hr
  have hc2 : (FloatKind.f32.format.order r p0 == some .gt || FloatKind.f32.format.order r p0 == some .eq) = true := by
    rw [Is.cmp hQ ⟨h0, rfl⟩]; exact HGE.out
  have hE := hx0.trans hW
  have ⟨q0, q1⟩ := hq0.ext hW
  replace f0 := (hW.marks _ _ (by rw [c0]; rfl)).trans f0
  replace f1 := (hW.marks _ _ (by rw [c1]; rfl)).trans f1
  replace c0 := cell_ext c0 hW
  replace c1 := cell_ext c1 hW
  clear hF hx0 hg0 hq0 hW
  go_wp2
  refine bodyPost_ret (v := .agg #[.float .f32 p0, .float .f32 _]) (by simp [results, Try.results112, go_sem, *]; rfl) rfl ⟨p0, _, rfl, ⟨h0, rfl⟩, ?_, ?_⟩
  · unfold overM; rw [if_pos HGE.out]; exact hQ
  · repeat (first | (with_reducible exact hE) | (with_reducible refine Ext.setCell ?_ (by dsimp only; omega) _) | (with_reducible refine Ext.drewN ?_ _))
set_option maxHeartbeats 2000000 in
theorem over1_l (gp p0 p1 gg go : Nat) (wn hn n c : Nat) (A : Option Addr) (bs : List Nat) (x y u v : Int) (U : World) (hP : Box2 U gp (fl p0) (fl p1)) (hG : U.cell? ⟨gg, 0, none⟩ = some (.pointer (some ⟨go, 0, none⟩))) (hB : Box3 U go (.int .i64 wn) (.int .i64 hn) (.slice A n c)) (hr : Reads U A n bs) (hv : VMap wn hn n) (h0 : p0 < 4294967296) (h1 : p1 < 4294967296) (va vb : Nat) (hva : bs.getD (cellN wn (clampI x wn) (clampI y hn)) 0 = va) (hvb : bs.getD (cellN wn (clampI u wn) (clampI v hn)) 0 = vb)
    (hge : (fcmp (overQ (nrm p1) (fop .sub va vb)) (nrm p0) == some .gt || fcmp (overQ (nrm p1) (fop .sub va vb)) (nrm p0) == some .eq) = false) :
    Calls Try.prog 112 #[.int .i64 x, .int .i64 y, .int .i64 u, .int .i64 v, .pointer (some ⟨gp, 0, none⟩), .pointer (some ⟨gg, 0, none⟩)] U fun e U' => ∃ a b, e = .returned (.agg #[.float .f32 a, .float .f32 b]) ∧ Is a (nrm p0) ∧ Is b (overM (nrm p0) (nrm p1) (fop .sub va vb)) ∧ Ext U U' := by
  have hA := fun (W : World) (hx' : Ext U W) => about_any go wn hn A n c bs x y W (hB.ext hx') (hr.ext hx') hv
  have hA' := fun (W : World) (hx' : Ext U W) => about_any go wn hn A n c bs u v W (hB.ext hx') (hr.ext hx') hv
  rw [hva] at hA
  rw [hvb] at hA'
  have HA := Lib.hid hA
  have HAA := Lib.hid hA'
  have HGE := Lib.hid hge
  have hgl := hP.lt
  have hggl : gg < U.heap.size := lt_of_cell hG
  clear hva hvb hA hA' hB hr hv hge
  go_enter Try.func112, Try.ntmps112
  go_wp2_with fail
  refine wp_at (X := fun w' => Ext U w' ∧ Box2 w' gp (fl p0) (fl p1) ∧ w'.cell? ⟨gg, 0, none⟩ = some (.pointer (some ⟨go, 0, none⟩)) ∧ w'.cell? ⟨U.heap.size, 0, none⟩ = some (fl 0) ∧ w'.cell? ⟨U.heap.size, 1, none⟩ = some (fl 0) ∧ w'.frozen? ⟨U.heap.size, 0, none⟩ = false ∧ w'.frozen? ⟨U.heap.size, 1, none⟩ = false ∧ U.heap.size < w'.heap.size) ⟨(Ext.refl _).alloc _, hP.ext ((Ext.refl _).alloc _), cell_ext hG ((Ext.refl _).alloc _), by simp [go_sem], by simp [go_sem], by simp [go_sem], by simp [go_sem], by simp⟩ ?_
  rintro w0 ⟨hx0, hq0, hg0, c0, c1, f0, f1, hs0⟩
  have ⟨q0, q1⟩ := hq0
  clear hP hG
  refine region_wx 14 [] (by kernel_rfl) (by kernel_rfl) ?_
  simp only [List.take_succ_cons, List.take_zero, List.drop_succ_cons, List.drop_zero]
  repeat ((first | refine wx_skip rfl ?_ | refine wx_nilCheck rfl rfl _ rfl _ rfl ?_ | (refine wx_float rfl rfl _ _ _ _ _ _ _ rfl rfl rfl rfl ?_; intro r hr) | (refine wx_k rfl rfl rfl (fun K hK => ?_); go_big_quiet_op; refine hK _ ?_; clear hK K) | (refine wx_call rfl rfl 114 _ _ rfl (by kernel_rfl) (by kernel_rfl) (.float .f32 va) (fun W hW hF => ?_) ?_; go_simp; (with_reducible refine (HA.out W (hx0.trans hW)).mono ?_); rintro e w' h; exact h) | (refine wx_call rfl rfl 114 _ _ rfl (by kernel_rfl) (by kernel_rfl) (.float .f32 vb) (fun W hW hF => ?_) ?_; go_simp; (with_reducible refine (HAA.out W (hx0.trans hW)).mono ?_); rintro e w' h; exact h) | (refine wx_call rfl rfl 113 _ _ rfl (by kernel_rfl) (by kernel_rfl) (.float .f32 (r % 2147483648)) (fun W hW hF => ?_) ?_; go_simp; (with_reducible refine (absE r (is_lt hr) W).mono ?_); rintro e w' h; exact h)); (try simp only [Act.put, List.setIfInBounds_toArray, List.set_cons_zero, List.set_cons_succ]); (try simp only [List.tail_nil]))
  refine wx_nil (fun W hW hF => ?_)
  have hQ : Is r (overQ (nrm p1) (fop .sub va vb)) := Is.op ⟨h1, rfl⟩ (Is.op is_one (abs_is (by assumption)) (by assumption)) hr
  have hc2 : (FloatKind.f32.format.order r p0 == some .gt || FloatKind.f32.format.order r p0 == some .eq) = false := by
    rw [Is.cmp hQ ⟨h0, rfl⟩]; exact HGE.out
  have hE := hx0.trans hW
  have ⟨q0, q1⟩ := hq0.ext hW
  replace f0 := (hW.marks _ _ (by rw [c0]; rfl)).trans f0
  replace f1 := (hW.marks _ _ (by rw [c1]; rfl)).trans f1
  replace c0 := cell_ext c0 hW
  replace c1 := cell_ext c1 hW
  clear hF hx0 hg0 hq0 hW
  go_wp2
  refine bodyPost_ret (v := .agg #[.float .f32 p0, .float .f32 _]) (by simp [results, Try.results112, go_sem, *]; rfl) rfl ⟨p0, _, rfl, ⟨h0, rfl⟩, ?_, ?_⟩
  · unfold overM; rw [if_neg (by rw [HGE.out]; decide)]; exact ⟨h0, rfl⟩
  · repeat (first | (with_reducible exact hE) | (with_reducible refine Ext.setCell ?_ (by dsimp only; omega) _) | (with_reducible refine Ext.drewN ?_ _))
theorem over1_any (gp p0 p1 gg go : Nat) (wn hn n c : Nat) (A : Option Addr) (bs : List Nat) (x y u v : Int) (U : World) (hP : Box2 U gp (fl p0) (fl p1)) (hG : U.cell? ⟨gg, 0, none⟩ = some (.pointer (some ⟨go, 0, none⟩))) (hB : Box3 U go (.int .i64 wn) (.int .i64 hn) (.slice A n c)) (hr : Reads U A n bs) (hv : VMap wn hn n) (h0 : p0 < 4294967296) (h1 : p1 < 4294967296) :
    Calls Try.prog 112 #[.int .i64 x, .int .i64 y, .int .i64 u, .int .i64 v, .pointer (some ⟨gp, 0, none⟩), .pointer (some ⟨gg, 0, none⟩)] U fun e U' => ∃ a b, e = .returned (.agg #[.float .f32 a, .float .f32 b]) ∧ Is a (nrm p0) ∧ Is b (overM (nrm p0) (nrm p1) (fop .sub (bs.getD (cellN wn (clampI x wn) (clampI y hn)) 0) (bs.getD (cellN wn (clampI u wn) (clampI v hn)) 0))) ∧ Ext U U' := by
  cases hge : (fcmp (overQ (nrm p1) (fop .sub (bs.getD (cellN wn (clampI x wn) (clampI y hn)) 0) (bs.getD (cellN wn (clampI u wn) (clampI v hn)) 0))) (nrm p0) == some .gt || fcmp (overQ (nrm p1) (fop .sub (bs.getD (cellN wn (clampI x wn) (clampI y hn)) 0) (bs.getD (cellN wn (clampI u wn) (clampI v hn)) 0))) (nrm p0) == some .eq) with
  | true => exact over1_g gp p0 p1 gg go wn hn n c A bs x y u v U hP hG hB hr hv h0 h1 _ _ rfl rfl hge
  | false => exact over1_l gp p0 p1 gg go wn hn n c A bs x y u v U hP hG hB hr hv h0 h1 _ _ rfl rfl hge
end Go.Proofs.Ytpjlfgaflbghmaa
