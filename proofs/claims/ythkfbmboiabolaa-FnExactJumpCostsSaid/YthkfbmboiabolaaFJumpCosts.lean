/- The law on JumpCosts holds. -/
import Derived.Test.YthkfbmboiabolaaJump
import Derived.Test.YthkfbmboiabolaaPrice
import Derived.Test.YthkfbmboiabolaaCJumpCosts
namespace Go.Proofs.Ythkfbmboiabolaa
open Go.RowKit
set_option linter.unusedVariables false
set_option maxHeartbeats 1000000
set_option maxRecDepth 8000

theorem implJumpCosts_no0 (A : Option Addr) (n c : Nat) (bs : List Nat) (p0 p1 : Nat) (U : World) (hnc : n ≤ c) (hcm : c ≤ maxLen) (hno : ¬ (1 ≤ n ∧ n ≤ 8)) :
    Calls Try.prog 12 #[.slice A n c, .agg #[.float .f32 p0, .float .f32 p1]] U fun e U' => ∃ A' c' b', e = .returned (.tuple #[.slice A' b'.length c', .bool false]) ∧ OwnF U' U.heap.size 23 (.slice A' b'.length c') b' ∧ b'.map nrm = [] ∧ Ext U U' := by
  have HN : Hid ((n : Int) < 1 ∨ 8 < (n : Int)) := Lib.hid (by omega)
  clear hno
  have HC := Lib.hid (And.intro hnc hcm)
  clear hnc hcm
  go_enter Try.func12, Try.ntmps12
  go_wp2_with fail
  refine calls_at (X := fun w' => Ext U w' ∧ Box2 w' U.heap.size (fl p0) (fl p1)) ⟨(Ext.refl _).alloc _, ⟨by simp [go_sem], by simp [go_sem]⟩⟩ ?_
  rintro w0 ⟨hE, hq⟩
  refine (implIn_no _ 1 8 _ HN.out).mono ?_
  rintro e w1 ⟨rfl, rfl⟩
  have ⟨q0, q1⟩ := hq
  go_wp2
  go_ret2
  exact ⟨none, 0, [], rfl, OwnF.nil _ _ _, rfl, hE⟩
theorem implJumpCosts_no1 (A : Option Addr) (n c : Nat) (bs : List Nat) (p0 p1 : Nat) (U : World) (hnc : n ≤ c) (hcm : c ≤ maxLen) (h1 : 1 ≤ n) (h8 : n ≤ 8) (hno : ¬ PV p0 p1) :
    Calls Try.prog 12 #[.slice A n c, .agg #[.float .f32 p0, .float .f32 p1]] U fun e U' => ∃ A' c' b', e = .returned (.tuple #[.slice A' b'.length c', .bool false]) ∧ OwnF U' U.heap.size 23 (.slice A' b'.length c') b' ∧ b'.map nrm = [] ∧ Ext U U' := by
  have HB : Hid ((1 : Int) ≤ (n : Int) ∧ (n : Int) ≤ 8) := Lib.hid (by omega)
  have HP := Lib.hid hno
  clear hno
  clear h1 h8
  have HC := Lib.hid (And.intro hnc hcm)
  clear hnc hcm
  go_enter Try.func12, Try.ntmps12
  go_wp2_with fail
  refine calls_at (X := fun w' => Ext U w' ∧ Box2 w' U.heap.size (fl p0) (fl p1)) ⟨(Ext.refl _).alloc _, ⟨by simp [go_sem], by simp [go_sem]⟩⟩ ?_
  rintro w0 ⟨hE, hq⟩
  refine (implIn_yes _ 1 8 _ HB.out.1 HB.out.2).mono ?_
  rintro e w1 ⟨rfl, rfl⟩
  have ⟨q0, q1⟩ := hq
  go_wp2_with fail
  clear q0 q1
  refine (implValidPrices_no p0 p1 _ HP.out).mono ?_
  rintro e w2 ⟨rfl, hx⟩
  replace hE := hE.trans hx
  replace hq := hq.ext hx
  clear hx
  have ⟨q0, q1⟩ := hq
  go_wp2
  go_ret2
  exact ⟨none, 0, [], rfl, OwnF.nil _ _ _, rfl, hE⟩
theorem implJumpCosts_yes (A : Option Addr) (n c : Nat) (bs : List Nat) (p0 p1 : Nat) (U : World) (hnc : n ≤ c) (hcm : c ≤ maxLen) (hr : Reads U A n bs) (hwd : Words bs) (ha : p0 < 4294967296) (hb : p1 < 4294967296) (h1 : 1 ≤ n) (h8 : n ≤ 8) (hpv : PV p0 p1) :
    Calls Try.prog 12 #[.slice A n c, .agg #[.float .f32 p0, .float .f32 p1]] U fun e U' => ∃ A' c' b', e = .returned (.tuple #[.slice A' b'.length c', .bool true]) ∧ OwnF U' U.heap.size 23 (.slice A' b'.length c') b' ∧ b'.map nrm = jumpL (bs.map nrm) (nrm p0) (nrm p1) ∧ Ext U U' := by
  have HB : Hid ((1 : Int) ≤ (n : Int) ∧ (n : Int) ≤ 8) := Lib.hid (by omega)
  have HP := Lib.hid hpv
  have HR := Lib.hid hr
  have H18 := Lib.hid (And.intro h1 h8)
  clear hpv hr
  clear h1 h8
  have HC := Lib.hid (And.intro hnc hcm)
  clear hnc hcm
  go_enter Try.func12, Try.ntmps12
  go_wp2_with fail
  refine calls_at (X := fun w' => Ext U w' ∧ Box2 w' U.heap.size (fl p0) (fl p1)) ⟨(Ext.refl _).alloc _, ⟨by simp [go_sem], by simp [go_sem]⟩⟩ ?_
  rintro w0 ⟨hE, hq⟩
  refine (implIn_yes _ 1 8 _ HB.out.1 HB.out.2).mono ?_
  rintro e w1 ⟨rfl, rfl⟩
  have ⟨q0, q1⟩ := hq
  go_wp2_with fail
  clear q0 q1
  refine (implValidPrices_yes p0 p1 _ HP.out).mono ?_
  rintro e w2 ⟨rfl, hx⟩
  replace hE := hE.trans hx
  replace hq := hq.ext hx
  clear hx
  have ⟨q0, q1⟩ := hq
  go_wp2_with fail
  clear q0 q1
  refine (jump_any A n c bs p0 p1 _ (HR.out.ext hE) hwd ha hb H18.out.1 H18.out.2 HC.out.1 HC.out.2).mono ?_
  rintro e w3 ⟨A', c', b', rfl, ho, hm, _, hx⟩
  have HM := Lib.hid hm
  clear hm
  go_wp2
  go_ret2
  exact ⟨A', c', b', rfl, ho.weaken hE.size, HM.out, hE.trans hx⟩
theorem specJumpCosts_no0 (A : Option Addr) (n c : Nat) (bs : List Nat) (p0 p1 : Nat) (U : World) (hnc : n ≤ c) (hcm : c ≤ maxLen) (hno : ¬ (1 ≤ n ∧ n ≤ 8)) :
    Calls Try.prog 9 #[.slice A n c, .agg #[.float .f32 p0, .float .f32 p1]] U fun e U' => ∃ A' c' b', e = .returned (.tuple #[.slice A' b'.length c', .bool false]) ∧ OwnF U' U.heap.size 23 (.slice A' b'.length c') b' ∧ b'.map nrm = [] ∧ Ext U U' := by
  have HN : Hid ((n : Int) < 1 ∨ 8 < (n : Int)) := Lib.hid (by omega)
  clear hno
  have HC := Lib.hid (And.intro hnc hcm)
  clear hnc hcm
  go_enter Try.func9, Try.ntmps9
  go_wp2_with fail
  refine calls_at (X := fun w' => Ext U w' ∧ Box2 w' U.heap.size (fl p0) (fl p1)) ⟨(Ext.refl _).alloc _, ⟨by simp [go_sem], by simp [go_sem]⟩⟩ ?_
  rintro w0 ⟨hE, hq⟩
  refine (l00In_no _ 1 8 _ HN.out).mono ?_
  rintro e w1 ⟨rfl, rfl⟩
  have ⟨q0, q1⟩ := hq
  go_wp2
  go_ret2
  exact ⟨none, 0, [], rfl, OwnF.nil _ _ _, rfl, hE⟩
theorem specJumpCosts_no1 (A : Option Addr) (n c : Nat) (bs : List Nat) (p0 p1 : Nat) (U : World) (hnc : n ≤ c) (hcm : c ≤ maxLen) (h1 : 1 ≤ n) (h8 : n ≤ 8) (hno : ¬ PV p0 p1) :
    Calls Try.prog 9 #[.slice A n c, .agg #[.float .f32 p0, .float .f32 p1]] U fun e U' => ∃ A' c' b', e = .returned (.tuple #[.slice A' b'.length c', .bool false]) ∧ OwnF U' U.heap.size 23 (.slice A' b'.length c') b' ∧ b'.map nrm = [] ∧ Ext U U' := by
  have HB : Hid ((1 : Int) ≤ (n : Int) ∧ (n : Int) ≤ 8) := Lib.hid (by omega)
  have HP := Lib.hid hno
  clear hno
  clear h1 h8
  have HC := Lib.hid (And.intro hnc hcm)
  clear hnc hcm
  go_enter Try.func9, Try.ntmps9
  go_wp2_with fail
  refine calls_at (X := fun w' => Ext U w' ∧ Box2 w' U.heap.size (fl p0) (fl p1)) ⟨(Ext.refl _).alloc _, ⟨by simp [go_sem], by simp [go_sem]⟩⟩ ?_
  rintro w0 ⟨hE, hq⟩
  refine (l00In_yes _ 1 8 _ HB.out.1 HB.out.2).mono ?_
  rintro e w1 ⟨rfl, rfl⟩
  have ⟨q0, q1⟩ := hq
  go_wp2_with fail
  clear q0 q1
  refine (l04Is_no _ p0 p1 _ hq.1 hq.2 HP.out).mono ?_
  rintro e w2 ⟨rfl, hx⟩
  replace hE := hE.trans hx
  replace hq := hq.ext hx
  clear hx
  have ⟨q0, q1⟩ := hq
  go_wp2
  go_ret2
  exact ⟨none, 0, [], rfl, OwnF.nil _ _ _, rfl, hE⟩
theorem specJumpCosts_yes (A : Option Addr) (n c : Nat) (bs : List Nat) (p0 p1 : Nat) (U : World) (hnc : n ≤ c) (hcm : c ≤ maxLen) (hr : Reads U A n bs) (hwd : Words bs) (ha : p0 < 4294967296) (hb : p1 < 4294967296) (h1 : 1 ≤ n) (h8 : n ≤ 8) (hpv : PV p0 p1) :
    Calls Try.prog 9 #[.slice A n c, .agg #[.float .f32 p0, .float .f32 p1]] U fun e U' => ∃ A' c' b', e = .returned (.tuple #[.slice A' b'.length c', .bool true]) ∧ OwnF U' U.heap.size 23 (.slice A' b'.length c') b' ∧ b'.map nrm = jumpL (bs.map nrm) (nrm p0) (nrm p1) ∧ Ext U U' := by
  have HB : Hid ((1 : Int) ≤ (n : Int) ∧ (n : Int) ≤ 8) := Lib.hid (by omega)
  have HP := Lib.hid hpv
  have HR := Lib.hid hr
  have H18 := Lib.hid (And.intro h1 h8)
  clear hpv hr
  clear h1 h8
  have HC := Lib.hid (And.intro hnc hcm)
  clear hnc hcm
  go_enter Try.func9, Try.ntmps9
  go_wp2_with fail
  refine calls_at (X := fun w' => Ext U w' ∧ Box2 w' U.heap.size (fl p0) (fl p1)) ⟨(Ext.refl _).alloc _, ⟨by simp [go_sem], by simp [go_sem]⟩⟩ ?_
  rintro w0 ⟨hE, hq⟩
  refine (l00In_yes _ 1 8 _ HB.out.1 HB.out.2).mono ?_
  rintro e w1 ⟨rfl, rfl⟩
  have ⟨q0, q1⟩ := hq
  go_wp2_with fail
  clear q0 q1
  refine (l04Is_yes _ p0 p1 _ hq.1 hq.2 HP.out).mono ?_
  rintro e w2 ⟨rfl, hx⟩
  replace hE := hE.trans hx
  replace hq := hq.ext hx
  clear hx
  have ⟨q0, q1⟩ := hq
  go_wp2_with fail
  clear q0 q1
  refine (l04Jumps_any A n c bs p0 p1 _ _ hq (HR.out.ext hE) hwd ha hb H18.out.1 H18.out.2 HC.out.1 HC.out.2).mono ?_
  rintro e w3 ⟨A', c', b', rfl, ho, hm, _, hx⟩
  have HM := Lib.hid hm
  clear hm
  go_wp2
  go_ret2
  exact ⟨A', c', b', rfl, ho.weaken hE.size, HM.out, hE.trans hx⟩
set_option maxRecDepth 8000 in
theorem lawJumpCosts_any (W : World) (A : Option Addr) (n m : Nat) (bs : List Nat) (hc : n ≤ m) (hm : m ≤ maxLen) (hr : Reads W A n bs) (hw : Words bs) (p0 p1 : Nat) (h0 : p0 < 4294967296) (h1 : p1 < 4294967296) :
    Calls Try.prog 3 #[.slice A n m, .agg #[.float .f32 p0, .float .f32 p1]] W fun e W' => e = .returned (.bool true) ∧ Ext W W' := by
  have hn : n ≤ maxLen := Nat.le_trans hc hm
  by_cases hk : 1 ≤ n ∧ n ≤ 8
  · by_cases hp : PV p0 p1
    · exact lawJumpCosts_core W A n m bs hn hr p0 p1 (jumpL (bs.map nrm) (nrm p0) (nrm p1)) (by have := hr.1; simp only [jumpL, List.length_map, List.length_range]; omega) true (fun w D hd => specJumpCosts_yes D n n bs p0 p1 w (Nat.le_refl _) hn hd hw h0 h1 hk.1 hk.2 hp) (fun w D hd => implJumpCosts_yes D n n bs p0 p1 w (Nat.le_refl _) hn hd hw h0 h1 hk.1 hk.2 hp)
    · exact lawJumpCosts_core W A n m bs hn hr p0 p1 [] (by simp) false (fun w D hd => specJumpCosts_no1 D n n bs p0 p1 w (Nat.le_refl _) hn hk.1 hk.2 hp) (fun w D hd => implJumpCosts_no1 D n n bs p0 p1 w (Nat.le_refl _) hn hk.1 hk.2 hp)
  · exact lawJumpCosts_core W A n m bs hn hr p0 p1 [] (by simp) false (fun w D hd => specJumpCosts_no0 D n n bs p0 p1 w (Nat.le_refl _) hn hk) (fun w D hd => implJumpCosts_no0 D n n bs p0 p1 w (Nat.le_refl _) hn hk)
end Go.Proofs.Ythkfbmboiabolaa
