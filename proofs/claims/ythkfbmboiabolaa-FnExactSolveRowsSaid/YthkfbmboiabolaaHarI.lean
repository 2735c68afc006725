/- Contracts of the laws' own helpers on lists of whole numbers: to, eq, mark, held; and those on lists of words under like names. -/
import Derived.Test.YthkfbmboiabolaaHarB
import Derived.Test.YthkfbmboiabolaaInts
namespace Go.Proofs.Ythkfbmboiabolaa
open Go.RowKit
set_option linter.unusedVariables false

theorem infoI64 : (Try.prog.info? 2).map (fun i => (i.zero, i.size, i.bytes)) = some (some (.int .i64 0), 1, 8) := by kernel_rfl

theorem toInt64S_any (A : Option Addr) (n c : Nat) (bs : List Int) (w : World) (hn : n ≤ 1048576) (hr : ReadsI w A n bs) :
    Calls Try.prog 19 #[.slice A n c] w fun e w' => e = .returned (.slice (some ⟨w.heap.size, 0, none⟩) n n) ∧ OwnI w' w.heap.size 2 (.slice (some ⟨w.heap.size, 0, none⟩) n n) bs ∧ Ext w w' := by
  obtain ⟨i0, hi, hz0, hz1, hz2⟩ := info_parts infoI64
  go_enter Try.func19, Try.ntmps19
  go_wp2_with (at_make; refine wpList_make_full _ rfl _ _ 36 rfl w.heap.size 2 i0 (.int .i64 0) 1 Try.underlying36 hi hz0 hz1 _ _ _ _ n rfl rfl rfl rfl (by rw [hz2]; omega) (by unfold maxLen; omega) (Nat.le_refl _) ?_)
  intro w1 hown hg
  have hb1 : Below w.heap.size w w1 := (Below.refl _ _).grown hg (Nat.le_refl _) (fun k hk => by cases hk)
  have hown0 : w1.ownsRow w.heap.size 2 1 (.slice (some ⟨w.heap.size, 0, none⟩) n n) n ((bs.take 0).map it ++ List.replicate (n - 0) (it 0)) := by
    rw [toList_madeCells_one] at hown
    exact hown
  clear hown hg
  go_wp2
  go_loopw [4] (fun i wr => ∃ k : Nat, k ≤ n ∧ i = .int .i64 k ∧ wr.ownsRow w.heap.size 2 1 (.slice (some ⟨w.heap.size, 0, none⟩) n n) n ((bs.take k).map it ++ List.replicate (n - k) (it 0)) ∧ Below w.heap.size w wr) (fun i _ => n - (intOf i).toNat)
  case atStart => exact ⟨0, Nat.zero_le _, rfl, hown0, hb1⟩
  case round =>
    clear hown0 hb1
    obtain ⟨k, hk, rfl, hown, hb⟩ := hrel
    by_cases hlt : k < n
    · obtain ⟨g, off, rfl, hl⟩ := (hr.2 (by omega))
      have hg := hl.lt (by rw [hr.1]; omega)
      have hc := (hl.below hb hg) k (by rw [hr.1]; omega)
      have hc2 : wr.cell? ⟨w.heap.size, k, none⟩ = some (it 0) := by
        rw [hown.cellAt k (by omega), List.getElem?_append_right (by simp; omega)]
        have e1 : k - ((bs.take k).map it).length = 0 := by have := hr.1; simp; omega
        rw [e1, List.getElem?_replicate, if_pos (by omega)]
      have hf := hown.frozenAt k
      have hs := hown.stored k (it (bs.getD k 0))
      rw [set_stepI bs n k (it 0) hlt hr.1] at hs
      have hb2 := hb.setCell (p := ⟨w.heap.size, k, none⟩) (Nat.le_refl _) (it (bs.getD k 0))
      clear hl hown
      go_wp2
      go_roundw
      case rel => exact ⟨k + 1, by omega, by go_num, hs.1, hb2⟩
      case measure => simp [intOf]; omega
    · have e1 : k = n := by omega
      subst e1
      rw [Nat.sub_self, List.replicate_zero, List.append_nil, List.take_of_length_le (by rw [hr.1]; exact Nat.le_refl _)] at hown
      have hown' : OwnI wr w.heap.size 2 (.slice (some ⟨w.heap.size, 0, none⟩) k k) bs := by
        unfold OwnI; rw [hr.1]; exact hown
      go_wp2
      go_ret
      exact ⟨rfl, hown', hb⟩
theorem eqInt64S_any (A A' : Option Addr) (n n' c c' : Nat) (bs : List Int) (w : World) (hn : n ≤ maxLen) (hr : ReadsI w A n bs) (hr' : ReadsI w A' n' bs) :
    Calls Try.prog 23 #[.slice A n c, .slice A' n' c'] w fun e w' => e = .returned (.bool true) ∧ Ext w w' := by
  unfold maxLen at hn
  obtain rfl : n = n' := by rw [← hr.1, ← hr'.1]
  have hne : ((n : Int) != (n : Int)) = false := by simp
  go_enter Try.func23, Try.ntmps23
  go_wp2_with fail
  go_loopw [5] (fun i wr => ∃ k : Nat, k ≤ n ∧ i = .int .i64 k ∧ Ext w wr) (fun i _ => n - (intOf i).toNat)
  case atStart => exact ⟨0, Nat.zero_le _, rfl, Ext.refl _⟩
  case round =>
    obtain ⟨k, hk, rfl, hx⟩ := hrel
    by_cases hlt : k < n
    · have hlen := hr.1
      obtain ⟨g, off, rfl, hl⟩ := (hr.2 (by omega))
      obtain ⟨g', off', rfl, hl'⟩ := (hr'.2 (by omega))
      have hc := hl.ext hx k (by omega)
      have hc' := hl'.ext hx k (by omega)
      clear hl hl' hr hr' hlen
      generalize bs.getD k 0 = x at *
      have hxx : (x != x) = false := by simp
      have h0 : (0 : Int) ≤ (k : Int) := by omega
      have h1 : (k : Int) < (n : Int) := by omega
      go_wp2_with fail
      refine region_wx0 [] (by kernel_rfl) (by kernel_rfl) ?_
      repeat ((first | refine wx_skip rfl ?_ | refine wx_nilCheck rfl rfl _ rfl _ rfl ?_ | (refine wx_float rfl rfl _ _ _ _ _ _ _ rfl rfl rfl rfl ?_; intro r hr) | (refine wx_k rfl rfl rfl (fun K hK => ?_); go_big_quiet_op; refine hK _ ?_; clear hK K) ); (try simp only [Act.put, List.setIfInBounds_toArray, List.set_cons_zero, List.set_cons_succ]); (try simp only [List.tail_nil]))
      refine wx_nil (fun W hW hF => ?_)
      go_wp2
      go_roundw
      case rel => exact ⟨k + 1, by omega, by go_num, hx.trans hW⟩
      case measure => simp [intOf]; omega
    · go_wp2
      go_ret
      exact ⟨rfl, hx⟩
theorem markInt64S_any (v : Value) (bs : List Int) (k : Nat) (base : Nat) (w : World) (hk : k + bs.length ≤ 4294967296) (ho : OwnI w base 2 v bs) :
    Calls Try.prog 27 #[v, .int .i64 k] w fun e w' => e = .returned (.int .i64 ((k : Int) + (bs.length : Int))) ∧ OwnI w' base 2 v (marksI k bs.length) ∧ w.grownBy w' v.ownBlock := by
  rcases ho.2 with ⟨rfl, hn⟩ | ⟨g, cap, cur, rfl, hg, hh, hnc, hcm, hsz, ht⟩
  · have hbs : bs = [] := List.eq_nil_of_length_eq_zero hn
    subst hbs
    go_enter Try.func27, Try.ntmps27
    go_wp2_with fail
    refine wp_loop_rounds 1 ?_; rw [rounds_succ]
    go_wp2
    go_ret
    exact ⟨rfl, OwnI.nil _ _ _, World.grownBy.refl _ _⟩
  · have ho' : w.ownsRow base 2 1 (.slice (some ⟨g, 0, none⟩) bs.length cap) bs.length (bs.map it) := ho
    clear ho hh ht hsz
    obtain ⟨n, hn⟩ : ∃ n, n = bs.length := ⟨_, rfl⟩
    rw [← hn] at ho' hk hnc ⊢
    have HN := Lib.hid hn
    clear hn
    go_enter Try.func27, Try.ntmps27
    go_wp2_with fail
    go_loopw [1, 5] (fun kk i wr => ∃ j : Nat, j ≤ n ∧ i = .int .i64 j ∧ kk = .int .i64 ((k : Int) + (j : Int)) ∧ wr.ownsRow base 2 1 (.slice (some ⟨g, 0, none⟩) n cap) n ((markedI k j bs).map it) ∧ w.grownBy wr (some g)) (fun _ i _ => n - (intOf i).toNat)
    case atStart => exact ⟨0, Nat.zero_le _, rfl, by simp, by rw [markedI_zero]; exact ho', World.grownBy.refl _ _⟩
    case round =>
      clear ho'
      obtain ⟨j, hj, rfl, rfl, hown, hgr⟩ := hrel
      by_cases hlt : j < n
      · have hc : wr.cell? ⟨g, j, none⟩ = some (it ((markedI k j bs).getD j 0)) := by
          rw [hown.cellAt j (by omega)]
          have := HN.out
          have h3 := markedI_length k j bs (by omega)
          simp [show j < (markedI k j bs).length by omega]
        have hf := hown.frozenAt j
        have hs := hown.stored j (it (((k : Int) + (j : Int))))
        rw [markedI_set k j bs (by have := HN.out; omega)] at hs
        have hg2 : w.grownBy (wr.setCell ⟨g, j, none⟩ (it (((k : Int) + (j : Int))))) (some g) :=
          ⟨hs.2.os.trans hgr.os, hs.2.tape.trans hgr.tape, hs.2.output.trans hgr.output, Nat.le_trans hgr.size hs.2.size, fun i hi hne => (hs.2.block i (Nat.lt_of_lt_of_le hi hgr.size) hne).trans (hgr.block i hi hne)⟩
        clear hown hgr
        generalize (markedI k j bs).getD j 0 = old at *
        go_wp2
        go_roundw
        case rel => exact ⟨j + 1, by omega, by go_num, by go_num, hs.1, hg2⟩
        case measure => simp [intOf]; omega
      · have e1 : j = n := by omega
        subst e1
        have hlen := HN.out
        rw [hlen, markedI_all, ← hlen] at hown
        have hown' : OwnI wr base 2 (.slice (some ⟨g, 0, none⟩) j cap) (marksI k j) := by
          unfold OwnI; rw [marksI_length]; exact hown
        clear hown hlen
        go_wp2
        go_ret
        exact ⟨rfl, hown', hgr⟩
theorem heldInt64S_any (v : Value) (n : Nat) (k : Nat) (base : Nat) (w : World) (hk : k + n ≤ 4294967296) (ho : OwnI w base 2 v (marksI k n)) :
    Calls Try.prog 28 #[v, .int .i64 k] w fun e w' => e = .returned (.int .i64 ((k : Int) + (n : Int))) ∧ w = w' := by
  obtain ⟨A, c, rfl, hc1, hc2, hr⟩ := ho.form
  rw [marksI_length] at *
  clear ho
  unfold maxLen at hc2
  have hne : ∀ x : Int, (x != x) = false := fun x => by simp
  go_enter Try.func28, Try.ntmps28
  go_wp2_with fail
  go_loop [1, 5] (fun kk i => ∃ j : Nat, j ≤ n ∧ i = .int .i64 j ∧ kk = .int .i64 ((k : Int) + (j : Int))) (fun _ i => n - (intOf i).toNat)
  case atStart => exact ⟨0, Nat.zero_le _, rfl, by simp⟩
  case round =>
    obtain ⟨j, hj, rfl, rfl⟩ := hrel
    by_cases hlt : j < n
    · obtain ⟨g, off, rfl, hl⟩ := (hr.2 (by omega))
      have hcell := hl j (by rw [marksI_length]; exact hlt)
      rw [marksI_getD k n j hlt] at hcell
      have hne' := hne ((k : Int) + (j : Int))
      clear hne hl hr
      go_wp2
      go_round
      case rel => exact ⟨j + 1, by omega, by go_num, by go_num⟩
      case measure => simp [intOf]; omega
    · have e1 : j = n := by omega
      subst e1
      clear hne hr
      go_wp2
      go_ret
      exact ⟨rfl, rfl⟩
theorem markI64S_i (A : Option Addr) (n c : Nat) (bs : List Int) (k : Int) (base : Nat) (w : World) (h0 : 0 ≤ k) (hk : k + bs.length ≤ 4294967296) (ho : OwnI w base 2 (.slice A n c) bs) :
    Calls Try.prog 27 #[.slice A n c, .int .i64 k] w fun e w' => e = .returned (.int .i64 (k + (bs.length : Int))) ∧ OwnI w' base 2 (.slice A n c) (marksI k.toNat bs.length) ∧ w.grownBy w' (Value.slice A n c).ownBlock := by
  obtain ⟨m, rfl⟩ := Int.eq_ofNat_of_zero_le h0
  exact markInt64S_any (.slice A n c) bs m base w (by omega) ho
theorem heldI64S_i (A : Option Addr) (n c : Nat) (m : Nat) (k : Int) (base : Nat) (w : World) (h0 : 0 ≤ k) (hk : k + m ≤ 4294967296) (ho : OwnI w base 2 (.slice A n c) (marksI k.toNat m)) :
    Calls Try.prog 28 #[.slice A n c, .int .i64 k] w fun e w' => e = .returned (.int .i64 (k + (m : Int))) ∧ Ext w w' := by
  obtain ⟨q, rfl⟩ := Int.eq_ofNat_of_zero_le h0
  exact (heldInt64S_any (.slice A n c) m q base w (by omega) ho).mono fun e w' h => ⟨h.1, h.2 ▸ Ext.refl _⟩
theorem markF32S_i (A : Option Addr) (n c : Nat) (bs : List Nat) (k : Int) (base : Nat) (w : World) (h0 : 0 ≤ k) (hk : k + bs.length ≤ 4294967296) (ho : OwnF w base 23 (.slice A n c) bs) :
    Calls Try.prog 14 #[.slice A n c, .int .i64 k] w fun e w' => e = .returned (.int .i64 (k + (bs.length : Int))) ∧ OwnF w' base 23 (.slice A n c) (marks k.toNat bs.length) ∧ w.grownBy w' (Value.slice A n c).ownBlock := by
  obtain ⟨m, rfl⟩ := Int.eq_ofNat_of_zero_le h0
  exact markF_any (.slice A n c) bs m base w (by omega) ho
theorem heldF32S_i (A : Option Addr) (n c : Nat) (m : Nat) (k : Int) (base : Nat) (w : World) (h0 : 0 ≤ k) (hk : k + m ≤ 4294967296) (ho : OwnF w base 23 (.slice A n c) (marks k.toNat m)) :
    Calls Try.prog 15 #[.slice A n c, .int .i64 k] w fun e w' => e = .returned (.int .i64 (k + (m : Int))) ∧ Ext w w' := by
  obtain ⟨q, rfl⟩ := Int.eq_ofNat_of_zero_le h0
  exact (heldF_any (.slice A n c) m q base w (by omega) ho).mono fun e w' h => ⟨h.1, h.2 ▸ Ext.refl _⟩
theorem toI64S_any (A : Option Addr) (n c : Nat) (bs : List Int) (w : World) (hn : n ≤ 1048576) (hr : ReadsI w A n bs) :
    Calls Try.prog 19 #[.slice A n c] w fun e w' => ∃ g, w.heap.size ≤ g ∧ e = .returned (.slice (some ⟨g, 0, none⟩) n n) ∧ OwnI w' w.heap.size 2 (.slice (some ⟨g, 0, none⟩) n n) bs ∧ Ext w w' :=
  (toInt64S_any A n c bs w hn hr).mono fun e w' h => ⟨_, Nat.le_refl _, h⟩
theorem eqI64S_any (A A' : Option Addr) (n n' c c' : Nat) (bs bs' : List Int) (w : World) (hn : n ≤ maxLen) (hr : ReadsI w A n bs) (hr' : ReadsI w A' n' bs') (he : Eqi bs bs') :
    Calls Try.prog 23 #[.slice A n c, .slice A' n' c'] w fun e w' => e = .returned (.bool true) ∧ Ext w w' := by
  cases he.out
  exact eqInt64S_any A A' n n' c c' bs w hn hr hr'
theorem toF32S_any (A : Option Addr) (n c : Nat) (bs : List Nat) (w : World) (hn : n ≤ 1048576) (hr : Reads w A n bs) :
    Calls Try.prog 10 #[.slice A n c] w fun e w' => ∃ g, w.heap.size ≤ g ∧ e = .returned (.slice (some ⟨g, 0, none⟩) n n) ∧ OwnF w' w.heap.size 23 (.slice (some ⟨g, 0, none⟩) n n) bs ∧ Ext w w' :=
  (toF_any A n c bs w hn hr).mono fun e w' h => ⟨_, Nat.le_refl _, h⟩
theorem eqF32S_any (A A' : Option Addr) (n n' c c' : Nat) (bs bs' : List Nat) (w : World) (hn : n ≤ maxLen) (hr : Reads w A n bs) (hr' : Reads w A' n' bs') (he : bs.map nrm = bs'.map nrm) :
    Calls Try.prog 13 #[.slice A n c, .slice A' n' c'] w fun e w' => e = .returned (.bool true) ∧ Ext w w' := eqF_any A A' n n' c c' bs bs' w hn hr hr' he
end Go.Proofs.Ythkfbmboiabolaa
