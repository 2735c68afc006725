/- The program's row that costs least, in parts: the rows of ways, a copy of a row, the iterator that goes backward. -/
import Derived.Test.YthkfbmboiabolaaSolveS
import Derived.Test.YthkfbmboiabolaaFunc
import Derived.Test.YthkfbmboiabolaaPrice
import Derived.Test.YthkfbmboiabolaaOrdered
import Derived.RangeFuncNested
import Derived.RangeFuncBound
import Derived.RangeFuncCalls
import Derived.RangeFuncLeaves
import Derived.Shelf.Abstract
import Derived.WalkKit
import Derived.OwnWalkIn
import Derived.TacticsInMore
import Derived.LoopNIn
import Derived.LoopIn
namespace Go.Proofs.Ythkfbmboiabolaa
open Go.RowKit
attribute [local go_sem] Oper.semAt_some
set_option linter.unusedVariables false

theorem infoN : (Try.prog.info? 3).map (fun i => (i.zero, i.size, i.bytes)) = some (some (.int .i64 0), 1, 8) := by kernel_rfl
theorem infoT : (Try.prog.info? 102).map (fun i => (i.zero, i.size, i.bytes)) = some (some (.slice none 0 0), 1, 24) := by kernel_rfl
theorem sapp_here {P : Program} {ops : Array Oper} {rest : List Oper} {o : Oper} {a : Act} {Q : Exit → Act → World → Prop} {w : World} (x y : Operand) (t t' : TypeId) (ho : o.op = .call { callee := .builtin .append, args := #[x, y], argTypes := #[t, t'] })
    (h : Hid (wpList P ops Q (o :: rest) a w)) : wpList P ops Q (o :: rest) a w := h.out
theorem swl_at {P : Program} {ops : Array Oper} {Q : Exit → Act → World → Prop} {l : List Oper} {a : Act} {w : World} {X : World → Prop} (hX : X w) (h : ∀ w', X w' → wpList P ops Q l a w') : wpList P ops Q l a w := h w hX
theorem sfresh (w : World) (t : TypeId) (r : Value) : (w.alloc (.cells #[r] t)).cell? ⟨w.heap.size, 0, none⟩ = some r := by simp [go_sem]
theorem sfreshB (w : World) (k : Nat) (t : TypeId) (r : Value) : ((w.drewN k).alloc (.cells #[r] t)).cell? ⟨w.heap.size, 0, none⟩ = some r := sfresh (w.drewN k) t r
/-- One word more. -/
theorem sown_more {w2 : World} {B : Nat} {e : TypeId} {v : Value} {cs : List Nat} {r : Nat} (ho2 : w2.ownsRow B e 1 v (cs.length + 1) (cs.map fl ++ [fl r])) :
    ∃ A' c', v = .slice A' (cs ++ [r]).length c' ∧ OwnF w2 B e (.slice A' (cs ++ [r]).length c') (cs ++ [r]) := by
  have ho' : OwnF w2 B e v (cs ++ [r]) := by
    unfold OwnF
    rw [List.length_append, List.map_append]
    exact ho2
  obtain ⟨A', c', rfl, _⟩ := ho'.form
  exact ⟨A', c', rfl, ho'⟩
theorem sown_moreI {w2 : World} {B : Nat} {e : TypeId} {v : Value} {cs : List Int} {r : Int} (ho2 : w2.ownsRow B e 1 v (cs.length + 1) (cs.map it ++ [it r])) :
    ∃ A' c', v = .slice A' (cs ++ [r]).length c' ∧ OwnI w2 B e (.slice A' (cs ++ [r]).length c') (cs ++ [r]) := by
  have ho' : OwnI w2 B e v (cs ++ [r]) := by
    unfold OwnI
    rw [List.length_append, List.map_append]
    exact ho2
  obtain ⟨A', c', rfl, _⟩ := ho'.form
  exact ⟨A', c', rfl, ho'⟩
theorem one_int {w : World} {H : Nat} {r : Int} (h : w.cell? ⟨H, 0, none⟩ = some (it r)) : ∀ j u, [it r][j]? = some u → w.cell? ((⟨H, 0, none⟩ : Addr).add j) = some u := fun j u hu => by
  cases j with
  | zero => simp only [List.getElem?_cons_zero, Option.some.injEq] at hu; subst hu; exact h
  | succ j => simp at hu
theorem one_val {w : World} {H : Nat} {r : Value} (h : w.cell? ⟨H, 0, none⟩ = some r) : ∀ j u, [r][j]? = some u → w.cell? ((⟨H, 0, none⟩ : Addr).add j) = some u := fun j u hu => by
  cases j with
  | zero => simp only [List.getElem?_cons_zero, Option.some.injEq] at hu; subst hu; exact h
  | succ j => simp at hu
theorem word_int (r : Int) : ∀ u ∈ [it r], u.oneCell' = true := fun u hu => by simp at hu; subst hu; rfl
theorem word_slice (A : Option Addr) (n c : Nat) : ∀ u ∈ [Value.slice A n c], u.oneCell' = true := fun u hu => by simp at hu; subst hu; rfl

/-- The cells of a list of rows tell the ways. -/
def RowsT (w : World) (xs : List Value) (k dn : Nat) (Q : Nat → Nat → Nat) : Prop :=
  ∀ j, j < k → ∃ ga c, xs[j]? = some (.slice (some ⟨ga, 0, none⟩) dn c) ∧ (∃ cs fz, w.heap[ga]? = some (.cells cs 3 fz)) ∧ ∀ d, d < dn → w.cell? ⟨ga, d, none⟩ = some (it ((Q j d : Nat) : Int))
theorem RowsT.ext {w w' : World} {xs : List Value} {k dn : Nat} {Q : Nat → Nat → Nat} (h : RowsT w xs k dn Q) (e : Ext w w') : RowsT w' xs k dn Q := fun j hj => by
  obtain ⟨ga, c, h1, ⟨cs, fz, h2⟩, h3⟩ := h j hj
  exact ⟨ga, c, h1, ⟨cs, fz, (e.block _ (lt_of_block h2)).trans h2⟩, fun d hd => cell_ext (h3 d hd) e⟩
/-- A list of rows of the call's own. -/
def OwnT (w : World) (base : Nat) (v : Value) (k dn : Nat) (Q : Nat → Nat → Nat) : Prop := ∃ xs : List Value, w.ownsRow base 102 1 v k xs ∧ RowsT w xs k dn Q
theorem ownsRow_ext1 {w w' : World} {base n : Nat} {e : TypeId} {v : Value} {xs : List Value} (h : w.ownsRow base e 1 v n xs) (k : Ext w w') : w'.ownsRow base e 1 v n xs := by
  refine ⟨h.1, ?_⟩
  rcases h.2 with h2 | ⟨g, cap, cur, hv, hg, hh, r⟩
  · exact .inl h2
  · exact .inr ⟨g, cap, cur, hv, hg, (k.block g (lt_of_block hh)).trans hh, r⟩
theorem OwnT.ext {w w' : World} {base : Nat} {v : Value} {k dn : Nat} {Q : Nat → Nat → Nat} (h : OwnT w base v k dn Q) (e : Ext w w') : OwnT w' base v k dn Q := by
  obtain ⟨xs, h1, h2⟩ := h
  exact ⟨xs, ownsRow_ext1 h1 e, h2.ext e⟩
theorem OwnT.form {w : World} {base : Nat} {v : Value} {k dn : Nat} {Q : Nat → Nat → Nat} (h : OwnT w base v k dn Q) : ∃ A c, v = .slice A k c := by
  obtain ⟨xs, h1, h2⟩ := h
  rcases h1.2 with ⟨rfl, rfl⟩ | ⟨g, cap, cur, rfl, r⟩
  · exact ⟨_, _, rfl⟩
  · exact ⟨_, _, rfl⟩
theorem OwnT.made (w : World) (dn : Nat) (Q : Nat → Nat → Nat) (base : Nat) (hb : base ≤ w.heap.size) : OwnT (w.alloc (.cells #[] 102)) base (.slice (some ⟨w.heap.size, 0, none⟩) 0 0) 0 dn Q :=
  ⟨[], World.ownsRow_made (size := 1) w #[] 0 hb (by unfold maxLen; omega) rfl, fun j hj => by omega⟩
/-- One row more. -/
theorem ownT_push {Z w2 : World} {base B : Nat} {v v' : Value} {k dn : Nat} {Q : Nat → Nat → Nat} {xs : List Value} (hrow : Z.ownsRow base 102 1 v k xs) (hp : RowsT Z xs k dn Q) {g c : Nat} {b : List Int} (hb : OwnI Z B 3 (.slice (some ⟨g, 0, none⟩) dn c) b) (hl : b.length = dn) (hq : ∀ d, d < dn → b.getD d 0 = ((Q k d : Nat) : Int))
    (ho : w2.ownsRow base 102 1 v' (k + 1) (xs ++ [.slice (some ⟨g, 0, none⟩) dn c])) (hg : Z.grownBy w2 v.ownBlock) (hdn : 0 < dn) : OwnT w2 base v' (k + 1) dn Q := by
  have hxl : xs.length = k := by have := hrow.1; omega
  have key : ∀ ga (cs : Array Value) fz, Z.heap[ga]? = some (.cells cs 3 fz) → some ga ≠ v.ownBlock := by
    intro ga cs fz hga he
    rcases hrow.2 with ⟨rfl, _⟩ | ⟨g, cap, cur, rfl, _, hh, _⟩
    · simp [Value.ownBlock] at he
    · simp [Value.ownBlock] at he
      subst he
      rw [hh] at hga
      simp at hga
  refine ⟨_, ho, fun j hj => ?_⟩
  by_cases hjk : j < k
  · obtain ⟨ga, c', q0, ⟨cs, fz, q1⟩, q2⟩ := hp j hjk
    refine ⟨ga, c', by rw [List.getElem?_append_left (by omega), q0], ⟨cs, fz, (hg.block _ (lt_of_block q1) (key ga cs fz q1)).trans q1⟩, fun d hd => hg.cell (q2 d hd) (key ga cs fz q1)⟩
  · obtain rfl : j = k := by omega
    obtain ⟨cs, fz, q1⟩ : ∃ cs fz, Z.heap[g]? = some (.cells cs 3 fz) := by
      rcases hb.2 with ⟨h2, _⟩ | ⟨g', cap, cur, hv, hg', hh, _⟩
      · simp at h2
      · simp only [Value.slice.injEq, Option.some.injEq, Addr.mk.injEq] at hv
        obtain ⟨⟨rfl, _⟩, _⟩ := hv
        exact ⟨_, _, hh⟩
    refine ⟨g, c, by rw [List.getElem?_append_right (by omega), hxl]; simp, ⟨cs, fz, (hg.block _ (lt_of_block q1) (key g cs fz q1)).trans q1⟩, fun d hd => ?_⟩
    rw [← hq d hd]
    exact hg.cell (hb.cell (by omega)) (key g cs fz q1)

/-! ### The iterator that goes backward -/
/-- The numbers that have come, m of them. -/
def backs (k m : Nat) : List Nat := (List.range m).map fun j => k - 1 - j
theorem backs_succ (k m : Nat) : backs k (m + 1) = backs k m ++ [k - 1 - m] := by simp [backs, List.range_succ]
theorem backs_length (k m : Nat) : (backs k m).length = m := by simp [backs]
/-- What a round keeps. -/
def KpB (n₀ Bs : Nat) (W W' : World) : Prop := Below n₀ W W' ∧ W'.cell? ⟨Bs, 0, none⟩ = W.cell? ⟨Bs, 0, none⟩
theorem KpB.refl (n₀ Bs : Nat) (W : World) : KpB n₀ Bs W W := ⟨Below.refl _ _, rfl⟩
theorem KpB.trans {n₀ Bs : Nat} {A B C : World} (h : KpB n₀ Bs A B) (k : KpB n₀ Bs B C) : KpB n₀ Bs A C := ⟨h.1.trans k.1, k.2.trans h.2⟩
theorem kpB_b {n₀ Bs : Nat} {w : World} (hn : n₀ ≤ w.heap.size) (hB : Bs < w.heap.size) (W : World) (l : Nat) (o o' : Obj) (hl : w.heap.size ≤ l) (h : W.heap[l]? = some o) (h1 : o.isCells = false) (h2 : o.isWalk = false) : KpB n₀ Bs W (W.putObj l o') :=
  ⟨belowK_b hn W l o o' hl h h1 h2, by
    have : (W.putObj l o').heap[Bs]? = W.heap[Bs]? := World.putObj_heap_other (by omega)
    simp only [World.cell?, this]⟩
set_option maxRecDepth 100000 in
set_option maxHeartbeats 2000000 in
theorem back1_in (F : Fence) (n : Nat) (hf : F.fn 95) (hro : F.round = none) (hn : 1 ≤ n) (l Bs n₀ gF k cF : Nat) (V : Nat → Value) (hb : gF < n₀) (hk : k ≤ 1000) (J Jx : List Nat → World → Prop)
    (hY : ∀ (pre : List Nat) (x : Nat) W, J pre W → pre.length < k → YieldAt F (n - 1) Try.prog l #[.int .i64 (x : Int), V x] W fun e W' =>
      (e = .returned (.bool true) ∧ J (pre ++ [x]) W' ∧ KpB n₀ Bs W W') ∨ (e = .returned (.bool false) ∧ Jx (pre ++ [x]) W'))
    (W : World) (hBs : W.cell? ⟨Bs, 0, none⟩ = some (.slice (some ⟨gF, 0, none⟩) k cF)) (hc : ∀ j, j < k → W.cell? ⟨gF, j, none⟩ = some (V j)) (h0 : J [] W) :
    CallsIn F n Try.prog 95 #[.func (.yield l) #[] #[], .pointer (some ⟨Bs, 0, none⟩)] W fun e W' => (∃ v, e = .returned v) ∧
      ((∃ ys, ys = backs k k ∧ J ys W') ∨ (∃ pre, True ∧ Jx pre W')) := by
  refine callsIn_of_wp Try.func95 rfl hf ?_ hro
  simp only [Try.ntmps95, List.size_toArray, List.length_cons, List.length_nil, Nat.reduceAdd, Nat.reduceSub, Array.replicate_succ, Array.replicate_zero, List.push_toArray, List.append_toArray, List.nil_append, List.cons_append]
  have hw0 : IntKind.i64.wrap ((k : Int) - 1) = (k : Int) - 1 := wrap_small _ (by omega) (by omega)
  gi_wp2
  gi_loopw [3] (fun i wr => ∃ m : Nat, m ≤ k ∧ i = .int .i64 ((k : Int) - 1 - (m : Int)) ∧ J (backs k m) wr ∧ KpB n₀ Bs W wr)
    (fun i _ => (intOf i + 1).toNat)
  case atStart => exact ⟨0, Nat.zero_le _, by simp, h0, KpB.refl _ _ _⟩
  case round =>
    obtain ⟨m, hm, rfl, hJs, hnx⟩ := hrel
    by_cases hlt : m < k
    · obtain ⟨X, hX⟩ : ∃ X, k - 1 - m = X := ⟨_, rfl⟩
      have hxe : (k : Int) - 1 - (m : Int) = (X : Int) := by omega
      rw [hxe]
      obtain ⟨fn, tmps, assign, body, hy, hR⟩ := hY _ X wr hJs (by rw [backs_length]; exact hlt)
      have hcx := (hnx.1.cell (p := ⟨gF, X, none⟩) hb).trans (hc X (by omega))
      have hbx := hnx.2.trans hBs
      have x0 : (0 : Int) ≤ (X : Int) := by omega
      have x1 : (X : Int) < (k : Int) := by omega
      have hw3 : IntKind.i64.wrap ((X : Int) - 1) = (X : Int) - 1 := wrap_small _ (by omega) (by omega)
      generalize V X = vx at hcx hy
      gi_wp2
      refine hR.mono ?_
      rintro e W3 (⟨rfl, hJ3, hk3⟩ | ⟨rfl, hJx3⟩)
      · gi_wp2
        go_roundw
        case rel => exact ⟨m + 1, by omega, by congr 1; omega, by rw [backs_succ, hX]; exact hJ3, hnx.trans hk3⟩
        case measure => first | (simp [intOf]; done) | (simp [intOf]; omega)
      · gi_wp2
        refine bodyPost_ret (results_none rfl _ _ _) rfl ?_
        exact ⟨⟨_, rfl⟩, .inr ⟨_, trivial, hJx3⟩⟩
    · obtain rfl : m = k := by omega
      have hlt2 : (m : Int) - 1 - (m : Int) = -1 := by omega
      rw [hlt2]
      gi_wp2
      go_end0
      exact ⟨⟨_, rfl⟩, .inl ⟨_, rfl, hJs⟩⟩
set_option maxRecDepth 100000 in
set_option maxHeartbeats 1000000 in
theorem back1_nil_in (F : Fence) (n : Nat) (hf : F.fn 95) (hro : F.round = none) (l Bs cF : Nat) (A : Option Addr) (J : List Nat → World → Prop)
    (W : World) (hBs : W.cell? ⟨Bs, 0, none⟩ = some (.slice A 0 cF)) (h0 : J [] W) :
    CallsIn F n Try.prog 95 #[.func (.yield l) #[] #[], .pointer (some ⟨Bs, 0, none⟩)] W fun e W' => (∃ v, e = .returned v) ∧ J [] W' := by
  refine callsIn_of_wp Try.func95 rfl hf ?_ hro
  simp only [Try.ntmps95, List.size_toArray, List.length_cons, List.length_nil, Nat.reduceAdd, Nat.reduceSub, Array.replicate_succ, Array.replicate_zero, List.push_toArray, List.append_toArray, List.nil_append, List.cons_append]
  gi_wp2
  gi_loopw [3] (fun i wr => i = .int .i64 (-1) ∧ J [] wr) (fun _ _ => 0)
  case atStart => exact ⟨rfl, h0⟩
  case round =>
    obtain ⟨rfl, hJs⟩ := hrel
    gi_wp2
    go_end0
    exact ⟨⟨_, rfl⟩, hJs⟩
theorem back_stops (F : Fence) (n : Nat) (hf : F.fn 95) (hro : F.round = none) (hn : 1 ≤ n) (Bs n₀ k cF : Nat) (A : Option Addr) (V : Nat → Value) (hk : k ≤ 1000) (w : World) (hA : 0 < k → ∃ gF, A = some ⟨gF, 0, none⟩ ∧ gF < n₀ ∧ ∀ j, j < k → w.cell? ⟨gF, j, none⟩ = some (V j)) (hBw : Bs < w.heap.size) (hn₀ : n₀ ≤ w.heap.size)
    (hBs : w.cell? ⟨Bs, 0, none⟩ = some (.slice A k cF)) :
    SeqStopsK F n Try.prog 95 #[.pointer (some ⟨Bs, 0, none⟩)] (fun x : Nat => #[Value.int .i64 (x : Int), V x]) (KpB n₀ Bs) (fun ys => ys = backs k k) (fun _ => True) k w := fun l J Jx W hW _ _ hY h0 => by
  have hBs' := (hW.cell (p := ⟨Bs, 0, none⟩) hBw).trans hBs
  by_cases hk0 : k = 0
  · subst hk0
    exact (back1_nil_in F n hf hro l Bs cF A J W hBs' h0).mono fun e W' ⟨he, hj⟩ => ⟨he, .inl ⟨_, rfl, hj⟩⟩
  · obtain ⟨gF, rfl, hg, hc⟩ := hA (by omega)
    exact back1_in F n hf hro hn l Bs n₀ gF k cF V hg hk J Jx hY W hBs' (fun j hj => (hW.cell (p := ⟨gF, j, none⟩) (by dsimp only; omega)).trans (hc j hj)) h0
theorem backward_any (A : Option Addr) (k c : Nat) (w : World) :
    Calls Try.prog 81 #[.slice A k c] w fun e w' => e = .returned (.func (.func 95) #[] #[.pointer (some ⟨w.heap.size, 0, none⟩)]) ∧ w' = w.alloc (.cells #[.slice A k c] 100) := by
  go_enter Try.func81, Try.ntmps81
  go_wp2
  go_ret
  exact ⟨rfl, rfl⟩
theorem solve1_any (b : Nat) (W : World) : Calls Try.prog 79 #[.float .f32 b] W fun e W' => e = .returned (.bool (!geF b 0)) ∧ Ext W W' := by
  have hord : (FloatKind.f32.format.order b 0 == some .gt || FloatKind.f32.format.order b 0 == some .eq) = geF b 0 := rfl
  cases hb : geF b 0 with
  | true =>
    rw [hb] at hord
    clear hb
    go_enter Try.func79, Try.ntmps79
    go_wp2
    go_ret
    exact ⟨rfl, Ext.refl _⟩
  | false =>
    rw [hb] at hord
    clear hb
    go_enter Try.func79, Try.ntmps79
    go_wp2
    go_ret
    exact ⟨rfl, Ext.refl _⟩
set_option maxRecDepth 8000 in
theorem clone_any (gb off n c : Nat) (bs : List Nat) (U : World) (hl : Lies U gb off bs) (hlen : bs.length = n) (h0 : 0 < n) (hn : n ≤ 2048) :
    Calls Try.prog 77 #[.slice (some ⟨gb, off, none⟩) n c] U fun e U' => ∃ H c', e = .returned (.slice (some ⟨H, 0, none⟩) n c') ∧ OwnF U' U.heap.size 23 (.slice (some ⟨H, 0, none⟩) n c') bs ∧ Ext U U' := by
  obtain ⟨i0, hi, hz0, hz1, hz2⟩ := info_parts infoF
  have HL := Lib.hid hl
  have HLEN := Lib.hid hlen
  have hnil : (binOp BinOp.eql 22 (.slice (some ⟨gb, off, none⟩) n c) (.slice none 0 0)).run Try.prog U = .ok (.bool false) U := by kernel_rfl
  clear hl hlen
  go_enter Try.func77, Try.ntmps77
  go_wp2_with (at_builtin; refine sapp_here _ _ _ _ rfl ?_)
  refine Lib.hid ?_
  refine swl_at (X := fun w' => Ext U w' ∧ OwnF w' U.heap.size 23 (.slice (some ⟨U.heap.size, 0, none⟩) 0 0) []) ⟨(Ext.refl _).alloc _, World.ownsRow_made (size := 1) U #[] 0 (Nat.le_refl _) (by unfold maxLen; omega) rfl⟩ ?_
  rintro z ⟨hz, ho⟩
  have hl := HL.out
  have hlen := HLEN.out
  refine wpList_append_own _ rfl _ _ _ rfl U.heap.size 23 i0 (.float .f32 0) 1 4 Try.underlying22 hi hz0 hz1 hz2 rfl (by omega) (.slice (some ⟨U.heap.size, 0, none⟩) 0 0) 0 [] (by rfl) ho ⟨gb, off, none⟩ n c (bs.map fl) (by rfl) (by simp [hlen]) (lies_new (hl.ext hz)) (words_one bs) (by unfold maxLen; omega) (by omega) hz.size ?_
  intro v' z1 ho2 hg2 _
  have hE := Ext.grown hz hg2 (fun g hg => by simp [Value.ownBlock] at hg; omega)
  have ho3 : OwnF z1 U.heap.size 23 v' bs := by
    unfold OwnF
    rw [hlen]
    simpa using ho2
  obtain ⟨A', c', rfl, _⟩ := ho3.form
  obtain ⟨H, rfl⟩ := ho3.at (by omega)
  rw [hlen] at ho3 ⊢
  clear ho2 hg2 hz ho hl hlen
  go_wp2
  go_ret
  first | exact ⟨H, c', rfl, ho3, hE⟩ | exact ⟨H, ⟨c', rfl⟩, ho3, hE⟩ | exact ⟨ho3, hE⟩
end Go.Proofs.Ythkfbmboiabolaa
