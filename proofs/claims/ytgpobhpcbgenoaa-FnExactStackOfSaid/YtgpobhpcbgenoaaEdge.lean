/- A region whose order is left open, one of its operations (a part of a tuple) taken ahead of a store that need not wait for it. No program in sight. -/
import Derived.Test.YtgpobhpcbgenoaaSteps
namespace Go.Proofs.Ytgpobhpcbgenoaa
open Go.RowKit
set_option linter.unusedVariables false

section
variable {P : Program}
/-- The list with one edge more: operation j waits for i too. -/
def addEdge (i : Nat) : Nat → List Oper → List Oper
  | _, [] => []
  | 0, o :: l => { o with after := o.after.push ⟨i, .data⟩ } :: l
  | n + 1, o :: l => o :: addEdge i n l
theorem addEdge_get (i : Nat) : ∀ (j : Nat) (l : List Oper) (k : Nat), (addEdge i j l)[k]? = (l[k]?).map (fun o => if k = j then { o with after := o.after.push ⟨i, .data⟩ } else o)
  | j, [], k => by unfold addEdge; simp
  | 0, o :: l, 0 => by simp [addEdge]
  | 0, o :: l, k + 1 => by simp [addEdge]
  | j + 1, o :: l, 0 => by simp [addEdge]
  | j + 1, o :: l, k + 1 => by simp [addEdge, addEdge_get i j l k]
theorem addEdge_length (i : Nat) : ∀ (j : Nat) (l : List Oper), (addEdge i j l).length = l.length
  | j, [] => by unfold addEdge; rfl
  | 0, o :: l => by simp [addEdge]
  | j + 1, o :: l => by simp [addEdge, addEdge_length i j l]
theorem yielded_edge (i j : Nat) (l : List Oper) (t : Array Value) : yielded (addEdge i j l).toArray t = yielded l.toArray t := by
  funext k
  unfold yielded
  have h : ((addEdge i j l).toArray[k]?).bind (·.dst) = (l.toArray[k]?).bind (·.dst) := by
    simp only [List.getElem?_toArray, addEdge_get]
    cases l[k]? with
    | none => rfl
    | some o => simp only [Option.map_some, Option.bind_some]; split <;> rfl
  rw [h]
theorem wpOp_edge {i j k : Nat} {l : List Oper} {Q : Exit → Act → World → Prop} {K : Act → World → Prop} {a : Act} {w : World} (h : wpOp P (addEdge i j l).toArray Q k K a w) : wpOp P l.toArray Q k K a w := by
  unfold wpOp at h ⊢
  rw [yielded_edge] at h
  simp only [List.getElem?_toArray, addEdge_get] at h ⊢
  cases hk : l[k]? with
  | none => rw [hk] at h; exact h
  | some o =>
    rw [hk] at h
    simp only [Option.map_some] at h
    by_cases e : k = j
    · rw [if_pos e] at h; exact h
    · rw [if_neg e] at h; exact h
/-- What is asked of the operation i, a part of a tuple, and of j. -/
def edgeB (l : List Oper) (i j : Nat) : Bool :=
  Region.noSelect l.toArray && !(i == j) && ((List.range l.length).all fun k => k == i || Region.waitsFor .any l.toArray i k || match l[i]?, l[k]? with
      | some oi, some ok => ok.after.any (fun e => Region.binds .any e && e.on == i) || oi.apart l.toArray ok
      | _, _ => true) &&
    match l[i]? with
    | some o => (match o.op with | .extract _ _ => true | _ => false) && o.after.all fun e => !Region.binds .any e || Region.waitsFor .any l.toArray j e.on
    | none => false
theorem extract_yields {ops : Array Oper} {i n : Nat} {o : Oper} {x : Operand} {Q : Exit → Act → World → Prop} {K : Act → World → Prop} {a : Act} {w : World} (ho : ops[i]? = some o) (hop : o.op = .extract x n) (h : wpOp P ops Q i K a w) :
    ∃ v, Yields P ops o v a ∧ K (a.put o.dst v) w := by
  unfold wpOp at h
  rw [ho] at h
  dsimp only at h
  by_cases hw : Region.wanted o (yielded ops a.tmps) = true
  · rw [if_pos hw] at h
    have hx : execOp a.eval o = (Instr.extract (a.eval x) n >>= fun v => (pure (Next.value v) : Sem Next)) := by
      unfold execOp; rw [hop]
    have hcase : (∃ v, Instr.extract (a.eval x) n = pure v) ∨ ∃ s, Instr.extract (a.eval x) n = stuck s := by
      unfold Instr.extract
      split
      · split
        · exact .inl ⟨_, rfl⟩
        · exact .inr ⟨_, rfl⟩
      · exact .inr ⟨_, rfl⟩
    rcases hcase with ⟨v, hv⟩ | ⟨s, hs⟩
    · have hr : ∀ w, (execOp a.eval o).run P w = .ok (.value v) w := fun w => by rw [hx, hv]; rfl
      refine ⟨v, .inl ⟨hw, hr⟩, ?_⟩
      rcases h with h | ⟨h, _⟩
      · unfold Oper.wp at h; rw [hr w] at h; exact h
      · exfalso
        unfold Oper.asks at h
        rw [hx, hv] at h
        exact absurd h.1 (by intro hm; exact absurd (show noRoomEvent ∈ (#[] : Array _) from hm) (by simp))
    · exfalso
      rcases h with h | ⟨h, _⟩
      · unfold Oper.wp at h; rw [hx, hs] at h; exact h
      · unfold Oper.asks at h
        rw [hx, hs] at h
        exact absurd h.1 (by intro hm; exact absurd (show noRoomEvent ∈ (#[] : Array _) from hm) (by simp))
  · rw [if_neg hw] at h
    exact ⟨undef, .inr ⟨by simpa using hw, rfl⟩, h⟩
theorem wpAny_edge {l : List Oper} {i j : Nat} (hB : edgeB l i j = true) (Q : Exit → Act → World → Prop) :
    ∀ (f : Nat) (listed : Array Bool) (a : Act) (w : World), listed.size = l.length → wpAny P .any (addEdge i j l).toArray (NoPanic Q) f listed a w → wpAny P .any l.toArray (NoPanic Q) f listed a w := by
  unfold edgeB at hB
  simp only [Bool.and_eq_true, Bool.not_eq_true', beq_eq_false_iff_ne] at hB
  obtain ⟨⟨⟨hsel, hij⟩, hfree⟩, hrest⟩ := hB
  cases hi : l[i]? with
  | none => rw [hi] at hrest; cases hrest
  | some oi =>
  rw [hi] at hrest
  simp only [Bool.and_eq_true] at hrest
  obtain ⟨hop, hwait⟩ := hrest
  have hi' : l.toArray[i]? = some oi := by rw [List.getElem?_toArray]; exact hi
  obtain ⟨x, n, hop⟩ : ∃ x n, oi.op = .extract x n := by
    cases h : oi.op <;> rw [h] at hop <;> first | exact ⟨_, _, rfl⟩ | cases hop
  have hil : i < l.length := (List.getElem?_eq_some_iff.1 hi).1
  -- the sets of those that may come up
  have sub : ∀ listed k, k ∈ Region.ready .any (addEdge i j l).toArray listed → k ∈ Region.ready .any l.toArray listed := by
    intro listed k hk
    rw [mem_ready] at hk ⊢
    obtain ⟨h1, o, h2, h3⟩ := hk
    simp only [List.getElem?_toArray, addEdge_get] at h2 ⊢
    cases hlk : l[k]? with
    | none => rw [hlk] at h2; cases h2
    | some o2 =>
      rw [hlk] at h2
      simp only [Option.map_some, Option.some.injEq] at h2
      refine ⟨h1, o2, rfl, fun e he hb => h3 e ?_ hb⟩
      rw [← h2]
      split
      · exact Array.mem_push.2 (.inl he)
      · exact he
  have sup : ∀ listed k, k ∈ Region.ready .any l.toArray listed → (k ≠ j ∨ listed.getD i false = true) → k ∈ Region.ready .any (addEdge i j l).toArray listed := by
    intro listed k hk hc
    rw [mem_ready] at hk ⊢
    obtain ⟨h1, o, h2, h3⟩ := hk
    simp only [List.getElem?_toArray, addEdge_get] at h2 ⊢
    rw [h2]
    refine ⟨h1, _, rfl, fun e he hb => ?_⟩
    split at he
    · rename_i hkj
      rcases Array.mem_push.1 he with he | rfl
      · exact h3 e he hb
      · exact hc.resolve_left (fun h => h hkj)
    · exact h3 e he hb
  have both : ∀ listed, j ∈ Region.ready .any l.toArray listed → listed.getD i false ≠ true → listed.getD i true = false → i ∈ Region.ready .any l.toArray listed := by
    intro listed hj _ hun
    rw [mem_ready] at hj ⊢
    obtain ⟨_, o, h2, h3⟩ := hj
    refine ⟨hun, oi, hi', fun e he hb => ?_⟩
    have := Array.all_eq_true_iff_forall_mem.1 hwait e he
    rw [hb] at this
    simp only [Bool.not_true, Bool.false_or] at this
    obtain ⟨oj, hoj, e2, he2, hb2, hon⟩ := Region.waitsFor_spec this
    have : oj = o := Option.some.inj (hoj.symm.trans h2)
    subst this
    rw [← hon]; exact h3 e2 he2 hb2
  have take : ∀ (f : Nat) (listed : Array Bool) (a : Act) (w : World), listed.size = l.length → (∀ (listed : Array Bool) (a : Act) (w : World), listed.size = l.length → wpAny P .any (addEdge i j l).toArray (NoPanic Q) f listed a w → wpAny P .any l.toArray (NoPanic Q) f listed a w) →
      wpAny P .any (addEdge i j l).toArray (NoPanic Q) (f + 1) listed a w → i ∈ Region.ready .any l.toArray listed → wpAny P .any l.toArray (NoPanic Q) (f + 1) listed a w := by
    intro f listed a w hsz ih h hr
    obtain ⟨v, hy, hk⟩ := extract_yields hi' hop (wpOp_edge (h.2 i (sup _ _ hr (.inl hij))))
    refine wpAny_first hi' (Region.noSelect_spec hsel) (fun _ _ _ h => h) f listed a w (fun k ok hk2 hne hun hno => ?_) hr hy (ih _ _ _ (by simp [hsz]) hk)
    have hk3 : l[k]? = some ok := by rw [List.getElem?_toArray] at hk2; exact hk2
    have hkl : k < l.length := (List.getElem?_eq_some_iff.1 hk3).1
    have hf := List.all_eq_true.1 hfree k (List.mem_range.2 hkl)
    rw [hi, hk3] at hf
    simp only [Bool.or_eq_true, beq_iff_eq, hne, false_or] at hf
    rcases hf with hf | hf | hf
    · exfalso
      obtain ⟨o, ho, e, he, hb, hon⟩ := Region.waitsFor_spec hf
      obtain ⟨_, o', ho', hall⟩ := mem_ready.1 hr
      have : o' = o := Option.some.inj (ho'.symm.trans ho)
      subst this
      have h2 := hall e he hb
      rw [hon, getD_both hun] at h2
      cases h2
    · obtain ⟨e, he, hb⟩ := Array.any_eq_true'.1 hf
      simp only [Bool.and_eq_true, beq_iff_eq] at hb
      exact absurd hb.2 (hno e he hb.1)
    · exact hf
  have gd : ∀ listed : Array Bool, listed.size = l.length → listed.getD i true = false ∨ listed.getD i false = true := by
    intro listed hsz
    have hs : i < listed.size := by omega
    simp only [Array.getD_eq_getD_getElem?, Array.getElem?_eq_getElem hs, Option.getD_some]
    cases listed[i] <;> simp
  have none_ : ∀ listed : Array Bool, listed.size = l.length → Region.ready .any (addEdge i j l).toArray listed = [] → Region.ready .any l.toArray listed = [] := by
    intro listed hsz h0
    rw [List.eq_nil_iff_forall_not_mem] at h0 ⊢
    intro k hk
    by_cases hkj : k = j
    · subst hkj
      rcases gd listed hsz with hg | hg
      · by_cases hg2 : listed.getD i false = true
        · exact h0 k (sup _ _ hk (.inr hg2))
        · exact h0 i (sup _ _ (both listed hk hg2 hg) (.inl hij))
      · exact h0 k (sup _ _ hk (.inr hg))
    · exact h0 k (sup _ _ hk (.inl hkj))
  intro f
  induction f with
  | zero => intro listed a w hsz h; exact ⟨none_ listed hsz h.1, h.2⟩
  | succ f ih =>
    intro listed a w hsz h
    by_cases hc : j ∈ Region.ready .any l.toArray listed ∧ listed.getD i false ≠ true
    · exact take f listed a w hsz ih h (both listed hc.1 hc.2 ((gd listed hsz).resolve_right hc.2))
    · refine ⟨fun h0 => h.1 ?_, fun k hk => ?_⟩
      · rw [List.eq_nil_iff_forall_not_mem] at h0 ⊢
        exact fun k hk => h0 k (sub _ _ hk)
      · have hk' : k ∈ Region.ready .any (addEdge i j l).toArray listed := by
          refine sup _ _ hk ?_
          by_cases hkj : k = j
          · subst hkj
            refine .inr ?_
            by_cases hg : listed.getD i false = true
            · exact hg
            · exact absurd ⟨hk, hg⟩ hc
          · exact .inl hkj
        exact wpOp_mono (fun a' w' h' => ih _ _ _ (by simp [hsz]) h') (wpOp_edge (h.2 k hk'))
/-- The law of XLoose, at the walk over all orders. -/
theorem wpAny_Y {l : List Oper} {Q : Exit → Act → World → Prop} {a : Act} {w : World} (n : Nat) (ql : List (Option (Value → World → Prop))) (hB : orderB l.toArray [] n (List.range' n (l.length - n)) = true)
    (h : wx P l.toArray w (fun a' W => wpList P l.toArray Q (l.drop n) a' W) (l.take n) 0 ql noFacts a) : wpAny P .any l.toArray Q l.toArray.size (Array.replicate l.toArray.size false) a { w with drawn := w.drawn + 1 } := by
  have hd := theOps_drop l _ n rfl
  unfold wx at h
  generalize hops : l.toArray = ops at *
  generalize htl : List.range' n (l.length - n) = tl at *
  have hl : l = ops.toList := by rw [← hops]
  unfold orderB at hB
  simp only [Bool.and_eq_true, decide_eq_true_eq, List.length_nil, Nat.zero_add, preB] at hB
  obtain ⟨⟨⟨⟨hs, hsz⟩, htl⟩, hend⟩, hB⟩ := hB
  have hlen : (ops.toList.take n).length = n := by simp; omega
  have inv0 : HInv ops tl (Array.replicate ops.size false) := ⟨by simp, (fun j oj _ hl => by rw [getD_replicate_false] at hl; cases hl), (fun t ht => by
    have h1 := List.all_eq_true.1 htl t ht
    have h2 : t < ops.size := by simpa using h1
    simp [h2])⟩
  have hX := headX (P := P) (rs := fun j => ql.getD j none) (w0 := w) (n := n) (tl := tl) (L := fun F a' => ∀ W, Ext w W → (∀ i, F i W) → wpList P ops Q (theOps ops tl) a' W) hs
    (fun i hi listed inv hun j hj hjt => end_waits hend (by omega) inv _ i rfl hi hun j hjt hj)
    (ops.toList.take n) 0 noFacts (Array.replicate ops.size false) a (by rw [hlen, Nat.zero_add]) (fun j hj => by rw [hlen] at hj; simp [hj]) inv0 (blank_none _) ql (fun j => by rw [Nat.zero_add]) (by rw [hlen]; exact hB) (by rw [hd, ← hl]; exact h (fun _ _ => rfl))
  rw [hlen] at hX
  have hfin := wpAny_of_X (P := P) (rs := fun j => ql.getD j none) (w0 := w) (tl := tl) (L := fun F' listed' a' => seqL ops tl listed' = true ∧ ∀ W, Ext w W → (∀ i, F' i W) → wpList P ops Q (theOps ops tl) a' W) (g := tl.length) (Q' := Q) (fun F listed a' w' hw' hF' ⟨hseq, hL⟩ =>
    wpAny_of_seqL tl listed a' w' hseq (hL w' hw' hF')) n noFacts _ a { w with drawn := w.drawn + 1 } ⟨rfl, rfl, rfl, Nat.le_refl _, fun _ _ => rfl⟩ (fun _ => trivial) stays_none hX
  rwa [hsz] at hfin
/-- The region, written out: i (a part of a tuple) is taken ahead of j. -/
theorem region_we {id : Nat} {Q : Exit → Act → World → Prop} {a : Act} {w : World} {l : List Oper} (i j n : Nat) (ql : List (Option (Value → World → Prop))) (hm : P.follows .mixedOrders = true) (hE : edgeB l i j = true)
    (hB : orderB (addEdge i j l).toArray [] n (List.range' n ((addEdge i j l).length - n)) = true)
    (h : wx P (addEdge i j l).toArray w (fun a' W => wpList P (addEdge i j l).toArray (NoPanic Q) ((addEdge i j l).drop n) a' W) ((addEdge i j l).take n) 0 ql noFacts a) : (Code.region id l.toArray true).wp P Q a w := by
  refine wp_region_noPanic (wp_region_any hm (wpAny_edge hE Q _ _ _ _ (by simp) ?_))
  have := wpAny_Y n ql hB h
  rw [show (addEdge i j l).toArray.size = l.toArray.size by simp [addEdge_length]] at this
  exact this
theorem np_at {Q : Exit → Act → World → Prop} {a : Act} {w : World} {X : World → Prop} (hX : X w) (h : ∀ w', X w' → Q .normal a w') : NoPanic Q .normal a w := h w hX
end
end Go.Proofs.Ytgpobhpcbgenoaa
