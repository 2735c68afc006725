/- Contract: the program's row that costs least, solved or not. -/
import Derived.Test.YthkfbmboiabolaaSolveA
namespace Go.Proofs.Ythkfbmboiabolaa
open Go.RowKit Go.Lib Go.Sort
attribute [local go_sem] Oper.semAt_some
set_option linter.unusedVariables false

/-- The end of a function without deferred calls. -/
theorem leavesM_ret {F : Fence} {n : Nat} {P : Program} {fn : Func} {R : Ending → World → Prop} {t : Array Value} {w : World} {v : Value} (h : (results fn t).run P w = .ok v w) (hR : R (.returned v) w) : bodyPostM F n P fn R .ret { tmps := t, defers := [] } w := ⟨v, h, hR⟩
theorem any_geF (bs : List Nat) : bs.any (fun b => !geF b 0) = false ↔ ∀ d, d < bs.length → geF (bs.getD d 0) 0 = true := by
  rw [List.any_eq_false]
  constructor
  · intro h d hd
    have := h bs[d] (List.getElem_mem hd)
    simpa [List.getD_eq_getElem?_getD, List.getElem?_eq_getElem hd] using this
  · intro h x hx
    obtain ⟨d, hd, rfl⟩ := List.getElem_of_mem hx
    have := h d hd
    simpa [List.getD_eq_getElem?_getD, List.getElem?_eq_getElem hd] using this
theorem kinds_apart {w : World} {b1 b2 n1 n2 : Nat} {e1 e2 : TypeId} {v1 v2 : Value} {xs1 xs2 : List Value} (h1 : w.ownsRow b1 e1 1 v1 n1 xs1) (h2 : w.ownsRow b2 e2 1 v2 n2 xs2) (hne : e1 ≠ e2) : ∀ g, v1.ownBlock = some g → some g ≠ v2.ownBlock := by
  intro g hg he
  rcases h1.2 with ⟨rfl, _⟩ | ⟨g1, c1, cur1, rfl, _, hh1, _⟩
  · simp [Value.ownBlock] at hg
  · simp [Value.ownBlock] at hg
    subst hg
    rcases h2.2 with ⟨rfl, _⟩ | ⟨g2, c2, cur2, rfl, _, hh2, _⟩
    · simp [Value.ownBlock] at he
    · simp [Value.ownBlock] at he
      subst he
      rw [hh1] at hh2
      simp at hh2
      exact hne hh2.2
section
variable {P : Program} {ops : Array Oper} {w0 : World} {R : Act → World → Prop} {ql : List (Option (Value → World → Prop))}
/-- A slice of one whole number, written out. -/
theorem wx_bsI {o : Oper} {rest : List Oper} {k : Nat} {F : Facts} {a : Act} (hq0 : ql.headD none = none) (hw : Region.wanted o (yielded ops a.tmps) = true) (t e : TypeId) (x : Operand) (ho : o.op = .buildSlice t 1 #[(0, x)]) (b : Int) (hx : a.eval x = it b)
    (hr : ∀ W, (Instr.buildSlice t 1 #[(0, it b)]).run P W = .ok (.slice (some ⟨W.heap.size, 0, none⟩) 1 1) (W.alloc (.cells #[it b] e)))
    (h : ∀ (H : Nat) (W : World), Ext w0 W → OwnI W w0.heap.size e (.slice (some ⟨H, 0, none⟩) 1 1) [b] → wx P ops w0 R rest (k + 1) ql.tail (upd F k (Ext W)) (a.put o.dst (.slice (some ⟨H, 0, none⟩) 1 1))) : wx P ops w0 R (o :: rest) k ql F a := by
  refine wx_val hq0 hw fun W hW => ⟨_, W.alloc (.cells #[it b] e), ?_, Below.alloc (Below.refl _ _) (Nat.le_refl _) _, h W.heap.size _ (Below.alloc hW hW.size _) (OwnI.of_blk (bs := [b]) (g := W.heap.size) (heap_alloc_new _ _) hW.size (by unfold maxLen; simp))⟩
  unfold execOp
  rw [ho]
  simp [hx, hr]
end
theorem bsI1 (b : Int) (W : World) : (Instr.buildSlice 36 1 #[(0, it b)]).run Try.prog W = .ok (.slice (some ⟨W.heap.size, 0, none⟩) 1 1) (W.alloc (.cells #[it b] 2)) := by
  simp [Instr.buildSlice, go_sem]
theorem Blk.ext {w w' : World} {g : Nat} {e : TypeId} {xs : List Value} (h : Blk w g e xs) (k : Ext w w') : Blk w' g e xs := (k.block g h.lt).trans h
theorem Blk.new (w : World) (e : TypeId) (x : Value) : Blk (w.alloc (.cells #[x] e)) w.heap.size e [x] := heap_alloc_new _ _
theorem Blk.other {w : World} {g : Nat} {e : TypeId} {xs : List Value} (h : Blk w g e xs) {a : Addr} (ha : ¬ a.block = g) (u : Value) : Blk (w.setCell a u) g e xs := by
  unfold Blk at h ⊢
  rw [← h]
  simp [World.setCell, Array.getElem?_modify, ha]
theorem wp_act {P : Program} {c : Code} {Q : Exit → Act → World → Prop} {a : Act} {w : World} (h : ∀ a', a' = a → c.wp P Q a' w) : c.wp P Q a w := h a rfl
theorem sappIn_here {F : Fence} {n : Nat} {P : Program} {ops : Array Oper} {rest : List Oper} {o : Oper} {a : Act} {Q : Exit → Act → World → Prop} {w : World} (x y : Operand) (t t' : TypeId) (ho : o.op = .call { callee := .builtin .append, args := #[x, y], argTypes := #[t, t'] })
    (h : Hid (wpListIn F n P ops Q (o :: rest) a w)) : wpListIn F n P ops Q (o :: rest) a w := h.out
theorem swlIn_at {F : Fence} {n : Nat} {P : Program} {ops : Array Oper} {Q : Exit → Act → World → Prop} {l : List Oper} {a : Act} {w : World} {X : World → Prop} (hX : X w) (h : ∀ w', X w' → wpListIn F n P ops Q l a w') : wpListIn F n P ops Q l a w := h w hX
/-- What is kept where a block that is no cells is turned. -/
theorem Blk.from {W W' : World} {row : Option Nat} {g : Nat} {e : TypeId} {xs : List Value} {B : Nat} (h : Blk W g e xs) (hg : W.grownBy W' row) (hr : ∀ r, row = some r → B ≤ r ∧ ∃ o : Obj, W.heap[r]? = some o ∧ o.isCells = false) : Blk W' g e xs :=
  (hg.block g h.lt (fun he => by
    obtain ⟨_, o, ho, hc⟩ := hr g he.symm
    unfold Blk at h
    rw [h] at ho
    cases ho
    cases hc)).trans h
theorem OwnI.from {W W' : World} {row : Option Nat} {base : Nat} {e : TypeId} {v : Value} {bs : List Int} {B : Nat} (h : OwnI W base e v bs) (hg : W.grownBy W' row) (hr : ∀ r, row = some r → B ≤ r ∧ ∃ o : Obj, W.heap[r]? = some o ∧ o.isCells = false) : OwnI W' base e v bs :=
  h.grown hg (fun g hv he => by
    obtain ⟨_, o, ho, hc⟩ := hr g he.symm
    rcases h.2 with ⟨h2, _⟩ | ⟨g', cap, cur, h2, _, hh, _⟩
    · subst h2; simp [Value.ownBlock] at hv
    · subst h2
      simp [Value.ownBlock] at hv
      subst hv
      rw [hh] at ho
      cases ho
      cases hc)
theorem Blk.grown {w w' : World} {g base : Nat} {e t : TypeId} {xs : List Value} {v : Value} {bs : List Int} (h : Blk w g t xs) (ho : OwnI w base e v bs) (hne : e ≠ t) (hg : w.grownBy w' v.ownBlock) : Blk w' g t xs := (hg.block g h.lt (fun he => ho.ne_block h hne g he.symm rfl)).trans h
theorem OwnI.ne_blk {w : World} {base H : Nat} {e t : TypeId} {xs : List Value} {v : Value} {bs : List Int} (ho : OwnI w base e v bs) (h : Blk w H t xs) (hne : e ≠ t) : ∀ g, v.ownBlock = some g → g ≠ H := ho.ne_block h hne
theorem heap_putRow {enc : Int → Value} {w : World} {g q off k : Nat} {d : Array Int} (h : ¬ g = k) : (putRow enc (Sort.ahead w q) g off d).heap[k]? = w.heap[k]? := by
  simp [putRow, mapBlock, Sort.ahead, Array.getElem?_modify, h]
/-- The own row's block holds cells. -/
theorem own_isCells {w : World} {base n : Nat} {e : TypeId} {v : Value} {xs : List Value} (h : w.ownsRow base e 1 v n xs) : ∀ (j : Nat) (o : Obj), v.ownBlock = some j → w.heap[j]? = some o → o.isCells = true := fun j o hj ho => by
  rcases h.2 with ⟨h2, _⟩ | ⟨g', cap, cur, h2, _, hh, _⟩
  · subst h2; simp [Value.ownBlock] at hj
  · subst h2
    simp [Value.ownBlock] at hj
    subst hj
    rw [hh] at ho
    cases ho
    rfl
/-- The way back so far, and where it stands. -/
def stB (Q : Nat → Nat → Nat) (d0 : Nat) (pre : List Nat) : Nat × List Int := pre.foldl (fun s i => (Q i s.1, s.2 ++ [((Q i s.1 : Nat) : Int)])) (d0, [(d0 : Int)])
theorem stB_snoc (Q : Nat → Nat → Nat) (d0 : Nat) (pre : List Nat) (i : Nat) : stB Q d0 (pre ++ [i]) = (Q i (stB Q d0 pre).1, (stB Q d0 pre).2 ++ [((Q i (stB Q d0 pre).1 : Nat) : Int)]) := by simp [stB]
theorem stB_lt {Q : Nat → Nat → Nat} {d0 dn : Nat} (h0 : d0 < dn) (hQ : ∀ i d, Q i d < dn) (pre : List Nat) : (stB Q d0 pre).1 < dn := by
  rcases List.eq_nil_or_concat pre with rfl | ⟨l, i, rfl⟩
  · exact h0
  · rw [List.concat_eq_append, stB_snoc]; exact hQ _ _
theorem stB_gen (Q : Nat → Nat → Nat) : ∀ (pre : List Nat) (d0 : Nat) (l : List Int), ((pre.foldl (fun s i => (Q i s.1, s.2 ++ [((Q i s.1 : Nat) : Int)])) (d0, l)).2).length = pre.length + l.length
  | [], _, _ => by simp
  | i :: pre, d0, l => by
    rw [List.foldl_cons, stB_gen Q pre]
    simp
    omega
theorem stB_length (Q : Nat → Nat → Nat) (d0 : Nat) (pre : List Nat) : (stB Q d0 pre).2.length = pre.length + 1 := stB_gen Q pre d0 _
theorem stB_backs {Q : Nat → Nat → Nat} {B : Nat → Nat} {k : Nat} (hB : ∀ j, j < k → B (j + 1) = Q (k - 1 - j) (B j)) : ∀ m, m ≤ k → stB Q (B 0) (backs k m) = (B m, (List.range (m + 1)).map fun j => ((B j : Nat) : Int))
  | 0, _ => rfl
  | m + 1, hm => by
    rw [backs_succ, stB_snoc, stB_backs hB m (by omega)]
    rw [← hB m (by omega)]
    congr 1
    rw [List.range_succ (n := m + 1), List.map_append]
    rfl
/-- The two lists of a row of the table so far. -/
def TabK (C : Nat → Nat → Nat) (p0 p1 dn x d : Nat) (ns : List Nat) (ks : List Int) : Prop := ns.length = d ∧ ks.length = d ∧ ∀ i, i < d → Is (ns.getD i 0) (solT C p0 p1 dn x i) ∧ ks.getD i 0 = ((solP C p0 p1 dn (x - 1) i : Nat) : Int)
theorem TabK.push {C : Nat → Nat → Nat} {p0 p1 dn x d : Nat} {ns : List Nat} {ks : List Int} (h : TabK C p0 p1 dn x d ns ks) {r : Nat} {z : Int} (hr : Is r (solT C p0 p1 dn x d)) (hz : z = ((solP C p0 p1 dn (x - 1) d : Nat) : Int)) : TabK C p0 p1 dn x (d + 1) (ns ++ [r]) (ks ++ [z]) := by
  obtain ⟨h1, h2, h3⟩ := h
  refine ⟨by simp [h1], by simp [h2], fun i hi => ?_⟩
  by_cases hid : i < d
  · have e1 : (ns ++ [r]).getD i 0 = ns.getD i 0 := by simp [List.getD_eq_getElem?_getD, List.getElem?_append_left (show i < ns.length by omega)]
    have e2 : (ks ++ [z]).getD i 0 = ks.getD i 0 := by simp [List.getD_eq_getElem?_getD, List.getElem?_append_left (show i < ks.length by omega)]
    rw [e1, e2]
    exact h3 i hid
  · obtain rfl : i = d := by omega
    have e1 : (ns ++ [r]).getD i 0 = r := by simp [List.getD_eq_getElem?_getD, h1]
    have e2 : (ks ++ [z]).getD i 0 = z := by simp [List.getD_eq_getElem?_getD, h2]
    rw [e1, e2]
    exact ⟨hr, hz⟩
/-- The ways to a place so far. -/
def TabW (F : Nat → Nat) (e : Nat) (ws : List Nat) : Prop := ws.length = e ∧ ∀ i, i < e → Is (ws.getD i 0) (F i)
theorem TabW.push {F : Nat → Nat} {e : Nat} {ws : List Nat} (h : TabW F e ws) {r : Nat} (hr : Is r (F e)) : TabW F (e + 1) (ws ++ [r]) := by
  obtain ⟨h1, h3⟩ := h
  refine ⟨by simp [h1], fun i hi => ?_⟩
  by_cases hid : i < e
  · have e1 : (ws ++ [r]).getD i 0 = ws.getD i 0 := by simp [List.getD_eq_getElem?_getD, List.getElem?_append_left (show i < ws.length by omega)]
    rw [e1]
    exact h3 i hid
  · obtain rfl : i = e := by omega
    have e1 : (ws ++ [r]).getD i 0 = r := by simp [List.getD_eq_getElem?_getD, h1]
    rw [e1]
    exact hr
set_option maxHeartbeats 16000000 in
set_option maxRecDepth 8000 in
theorem solve_any (g wn hn dn gb off n c y p0 p1 : Nat) (bs : List Nat) (U : World) (R : Ending → World → Prop) (hB : Box4 U g (.int .i64 wn) (.int .i64 hn) (.int .i64 dn) (.slice (some ⟨gb, off, none⟩) n c)) (hl : Lies U gb off bs) (hlen : bs.length = n) (hwd : Words bs) (hnc : n ≤ c) (hcm : c ≤ maxLen) (hv : VVol wn hn dn n) (hy : y < hn)
    (hno : ¬ SolOk (rowC wn dn bs y) wn dn → ∀ U', Ext U U' → R (.returned (.tuple #[.slice none 0 0, .float .f32 0, .bool false])) U')
    (hyes : SolOk (rowC wn dn bs y) wn dn → ∀ U' A c' b r, OwnI U' U.heap.size 2 (.slice A b.length c') b → Eqi b (solL (rowC wn dn bs y) p0 p1 dn wn) → Is r (solV (rowC wn dn bs y) p0 p1 dn wn) → Ext U U' → R (.returned (.tuple #[.slice A b.length c', .float .f32 r, .bool true])) U') :
    Calls Try.prog 55 #[.pointer (some ⟨g, 0, none⟩), .agg #[.float .f32 p0, .float .f32 p1], .int .i64 y] U R := by
  obtain ⟨i0, hi, hz0, hz1, hz2⟩ := info_parts infoF
  obtain ⟨j0, ji, jz0, jz1, jz2⟩ := info_parts infoIs
  obtain ⟨n0, ni, nz0, nz1, nz2⟩ := info_parts infoN
  obtain ⟨t0, ti, tz0, tz1, tz2⟩ := info_parts infoT
  have HNO := Lib.hid hno
  have HYES := Lib.hid hyes
  have HCL := Lib.hid (fun (W : World) (hW : Ext U W) (x : Nat) (hx : x < wn) => cellC_any g (wn : Int) (hn : Int) dn gb off n c (x : Int) (y : Int) W (hB.ext hW) hnc hcm hv ⟨by omega, by omega⟩ ⟨by omega, by omega⟩)
  have HKN := Lib.hid (fun (x : Nat) (hx : x < wn) => cell_k hv (x := (x : Int)) (y := (y : Int)) ⟨by omega, by omega⟩ ⟨by omega, by omega⟩)
  have HLW := Lib.hid (fun (W : World) (hW : Ext U W) => hl.ext hW)
  have HLEN := Lib.hid hlen
  have HB4 := Lib.hid (fun (W : World) (hW : Ext U W) => hB.ext hW)
  have HSZ := Lib.hid (⟨by have := hv.1.1; have := hv.1.2.1; omega, by have := hv.2.1; have := hv.2.2.1; omega⟩ : (1 ≤ wn ∧ wn ≤ 24) ∧ 1 ≤ dn ∧ dn ≤ 8)
  have HWD := Lib.hid hwd
  have HRW : Hid (∀ x d, rowC wn dn bs y x d = nrm (bs.getD (cellN (wn : Int) (x : Int) (y : Int) * dn + d) 0)) := Lib.hid (fun _ _ => rfl)
  have ⟨⟨s1, s24⟩, s0, s8⟩ := HSZ.out
  -- a cell's words
  have HCW : Hid (∀ x, x < wn → ∀ W, Ext U W → Lies W gb (off + cellN (wn : Int) (x : Int) (y : Int) * dn) ((bs.drop (cellN (wn : Int) (x : Int) (y : Int) * dn)).take dn)) := Lib.hid (fun x hx W hW i hi => by
    have h1 := HKN.out x hx
    have h2 : i < dn := by have := hi; simp at this; omega
    rw [cell_getD bs _ dn i h2 (by omega), Nat.add_assoc]
    exact HLW.out W hW _ (by omega))
  have HCL2 : Hid (∀ x, x < wn → ((bs.drop (cellN (wn : Int) (x : Int) (y : Int) * dn)).take dn).length = dn) := Lib.hid (fun x hx => by
    have h1 := HKN.out x hx
    simp
    omega)
  obtain ⟨k0, hk0⟩ : ∃ k0 : Nat → Nat, (fun x : Nat => cellN (wn : Int) (x : Int) (y : Int) * dn) = k0 := ⟨_, rfl⟩
  have HK0 : Hid (∀ x : Nat, cellN (wn : Int) (x : Int) (y : Int) * dn = k0 x) := Lib.hid (fun x => by rw [← hk0])
  obtain ⟨L, hL⟩ : ∃ L : Nat → List Nat, (fun x : Nat => (bs.drop (k0 x)).take dn) = L := ⟨_, rfl⟩
  have HLL : Hid (∀ x, (bs.drop (k0 x)).take dn = L x) := Lib.hid (fun x => by rw [← hL])
  have HL1 : Hid (∀ x, x < wn → ∀ W, Ext U W → Lies W gb (off + k0 x) (L x)) := Lib.hid (fun x hx W hW => by have h := HCW.out x hx W hW; rw [HK0.out, HLL.out] at h; exact h)
  have HL2 : Hid (∀ x, x < wn → (L x).length = dn) := Lib.hid (fun x hx => by have h := HCL2.out x hx; rw [HK0.out, HLL.out] at h; exact h)
  have HL3 : Hid (∀ x d, x < wn → d < dn → Is ((L x).getD d 0) (rowC wn dn bs y x d)) := Lib.hid (fun x d hx hd => by
    have h1 := HKN.out x hx
    rw [HRW.out, ← HLL.out, ← HK0.out, cell_getD bs _ dn d hd (by omega)]
    exact ⟨wd_at HWD.out _, rfl⟩)
  have HC1 : Hid (∀ W, Ext U W → ∀ x, x < wn → Calls Try.prog 52 #[.pointer (some ⟨g, 0, none⟩), .int .i64 (x : Int), .int .i64 (y : Int)] W fun e W' => e = .returned (.slice (some ⟨gb, off + k0 x, none⟩) dn dn) ∧ Ext W W') := Lib.hid (fun W hW x hx => by have h := HCL.out W hW x hx; rw [HK0.out] at h; exact h)
  obtain ⟨C, hC⟩ : ∃ C, rowC wn dn bs y = C := ⟨_, rfl⟩
  rw [hC] at HNO HYES HL3
  clear hl hlen hwd hv hy hB hnc hcm hC hno hyes hk0 hL HCW HCL2 HCL HKN HLW HLEN HRW HK0 HLL HWD
  refine callsIn_wide.1 (callsIn_of_wp_marks (n := 8) Try.func55 rfl trivial (wpIn_wide.2 ?_) rfl)
  simp only [Try.ntmps55, List.size_toArray, List.length_cons, List.length_nil, Nat.reduceAdd, Nat.reduceSub, Array.replicate_succ, Array.replicate_zero, List.push_toArray, List.append_toArray, List.nil_append, List.cons_append]
  go_wp2_with fail
  refine calls_at (X := fun w' => Ext U w' ∧ Box2 w' U.heap.size (fl p0) (fl p1)) ⟨(Ext.refl _).alloc _, ⟨by simp [go_sem], by simp [go_sem]⟩⟩ ?_
  rintro W0 ⟨hx0, hq0⟩
  have HQ := Lib.hid (fun (W : World) (hW : Ext W0 W) => hq0.ext hW)
  have HX0 := Lib.hid (fun (W : World) (hW : Ext W0 W) => hx0.trans hW)
  have hU0 := hx0.size
  clear hq0 hx0
  have z0 : (0 : Int) = ((0 : Nat) : Int) := rfl
  refine (show Calls _ _ _ _ _ from (HC1.out W0 (HX0.out _ (Ext.refl _)) 0 (by omega)).mono ?_)
  rintro e w1 ⟨rfl, hx1⟩
  have HP := Lib.hid (fun (W : World) (q d : Nat) (hq : q < dn) (hd : d < dn) => price_any p0 p1 (q : Int) (d : Int) W (by omega) (by omega) (by omega) (by omega))
  go_wp2_with fail
  refine (clone_any gb (off + k0 0) dn dn (L 0) w1 (HL1.out 0 (by omega) _ (HX0.out _ hx1)) (HL2.out 0 (by omega)) (by omega) (by omega)).mono ?_
  rintro e w2 ⟨gT, cT, rfl, hOT, hx2⟩
  have hE := hx1.trans hx2
  have hsz1 := hE.size
  replace hOT := hOT.weaken (base' := W0.heap.size) hx1.size
  have hT : Hid (TabT C p0 p1 dn 0 (L 0)) := Lib.hid ⟨HL2.out 0 (by omega), fun d hd => HL3.out 0 d (by omega) hd⟩
  have ⟨q0, q1, q2, q3⟩ := HB4.out _ (Ext.alloc (HX0.out _ hE) (.cells #[] 102))
  generalize L 0 = ts at hOT hT
  clear hx1 hx2 z0
  go_wp2_with fail
  clear q0 q1 q2 q3
  go_loopw [9, 10, 34] (fun tv fv xv wr => ∃ (x gT cT cF : Nat) (ts : List Nat) (A : Option Addr), x ≤ wn ∧ xv = .int .i64 x ∧ tv = .slice (some ⟨gT, 0, none⟩) dn cT ∧ fv = .slice A (x - 1) cF ∧ OwnF wr W0.heap.size 23 (.slice (some ⟨gT, 0, none⟩) dn cT) ts ∧ Hid (TabT C p0 p1 dn (x - 1) ts) ∧ OwnT wr W0.heap.size (.slice A (x - 1) cF) (x - 1) dn (solP C p0 p1 dn) ∧ Hid (∀ x' d, x' < x → d < dn → geF (C x' d) 0 = true) ∧ Ext W0 wr) (fun _ _ xv _ => wn - (RowKit.intOf xv).toNat)
  case atStart => exact ⟨0, gT, cT, 0, ts, some ⟨w2.heap.size, 0, none⟩, Nat.zero_le _, rfl, rfl, rfl, hOT.ext ((Ext.refl _).alloc _), hT, OwnT.made w2 dn _ _ hsz1, Lib.hid (fun x' d h => by omega), hE.alloc _⟩
  case round =>
    clear hOT hT hE hsz1
    obtain ⟨x, gT, cT, cF, ts, A, hxw, rfl, rfl, rfl, hOT, hT, hOO, hok, hE⟩ := hrel
    by_cases hltx : x < wn
    · go_wp2_with fail
      refine (HC1.out _ (HX0.out _ hE) x hltx).mono ?_
      rintro e w2 ⟨rfl, hx2⟩
      have hE2 := hE.trans hx2
      go_wp2_with fail
      refine (ContainsFunc_any (some ⟨gb, off + k0 x, none⟩) dn dn (L x) (fun b => !geF b 0) 79 #[] w2 (by unfold maxLen; omega) ⟨HL2.out x hltx, fun _ => ⟨gb, off + k0 x, rfl, HL1.out x hltx _ (HX0.out _ hE2)⟩⟩ (by kernel_rfl) (fun b W' _ => solve1_any b W')).mono ?_
      rintro e w3 ⟨rfl, hx3⟩
      have hE3 := hE2.trans hx3
      replace hOT := (hOT.ext hx2).ext hx3
      replace hOO := (hOO.ext hx2).ext hx3
      clear hE hE2 hx2 hx3
      have HANY := Lib.hid (any_geF (L x))
      cases hb : (L x).any (fun b => !geF b 0) with
      | true =>
        have hbad : ¬ SolOk C wn dn := fun h => by
          have h2 := HANY.out.2 (fun d hd => by
            rw [HL2.out x hltx] at hd
            have := h x d hltx hd
            rw [← (HL3.out x d hltx hd).2, geF_nrm] at this
            exact this)
          rw [hb] at h2
          cases h2
        have HR := Lib.hid (HNO.out hbad _ (HX0.out _ hE3))
        clear hbad hb hOT hOO hok
        go_wp2
        try simp only [Exit.inBlock, Exit.then]
        refine leavesM_ret (results_tmp3 rfl _ _ _) ?_
        exact HR.out
      | false =>
        have hok2 : Hid (∀ x' d, x' < x + 1 → d < dn → geF (C x' d) 0 = true) := Lib.hid (fun x' d hx' hd => by
          by_cases h : x' < x
          · exact hok.out x' d h hd
          · obtain rfl : x' = x := by omega
            rw [← (HL3.out x' d hltx hd).2, geF_nrm]
            exact HANY.out.1 hb d (by rw [HL2.out x' hltx]; exact hd))
        clear hb hok HANY
        by_cases hx0 : x = 0
        · subst hx0
          go_wp2
          go_roundw
          case rel => exact ⟨1, gT, cT, cF, ts, A, by omega, by go_num, rfl, rfl, hOT, hT, hOO, hok2, hE3⟩
          case measure => simp [RowKit.intOf]; omega
        · have hxz : ((x : Int) == 0) = false := by simp; omega
          go_wp2_with fail
          refine calls_at (X := fun w' => Ext w3 w' ∧ OwnF w' w3.heap.size 23 (.slice (some ⟨w3.heap.size, 0, none⟩) 0 0) [] ∧ OwnI w' w3.heap.size 3 (.slice (some ⟨w3.heap.size + 1, 0, none⟩) 0 0) []) ⟨((Ext.refl _).alloc _).alloc _, ?_, ?_⟩ ?_
          · exact OwnF.ext (World.ownsRow_made (size := 1) w3 #[] 0 (Nat.le_refl _) (by unfold maxLen; omega) rfl) ((Ext.refl _).alloc _)
          · have h := World.ownsRow_made (size := 1) (base := w3.heap.size) (e := 3) (w3.alloc (.cells #[] 23)) #[] 0 (by simp) (by unfold maxLen; omega) rfl
            simpa [OwnI] using h
          rintro w4 ⟨hx4, hN0, hK0⟩
          refine (HC1.out _ (HX0.out _ (hE3.trans hx4)) x hltx).mono ?_
          rintro e w5 ⟨rfl, hx5⟩
          replace hN0 := hN0.ext hx5
          replace hK0 := hK0.ext hx5
          have hE5 := hx4.trans hx5
          have HOT := Lib.hid (fun (W : World) (hW : Ext w3 W) => hOT.ext hW)
          have HOO := Lib.hid (fun (W : World) (hW : Ext w3 W) => hOO.ext hW)
          have HE3 := Lib.hid (fun (W : World) (hW : Ext w3 W) => hE3.trans hW)
          have hsz3 := hE3.size
          have HGT := Lib.hid hOT.ge
          clear hx4 hx5 hOT hOO hE3
          go_wp2_with fail
          go_loopw [12, 13, 51] (fun nv kv dv wq => ∃ (d : Nat) (An Ak : Option Addr) (cn ck : Nat) (ns : List Nat) (ks : List Int), d ≤ dn ∧ dv = .int .i64 d ∧ nv = .slice An ns.length cn ∧ kv = .slice Ak ks.length ck ∧ OwnF wq w3.heap.size 23 (.slice An ns.length cn) ns ∧ OwnI wq w3.heap.size 3 (.slice Ak ks.length ck) ks ∧ Hid (TabK C p0 p1 dn x d ns ks) ∧ Ext w3 wq) (fun _ _ dv _ => dn - (RowKit.intOf dv).toNat)
          case atStart => exact ⟨0, some ⟨w3.heap.size, 0, none⟩, some ⟨w3.heap.size + 1, 0, none⟩, 0, 0, [], [], Nat.zero_le _, rfl, rfl, rfl, hN0, hK0, Lib.hid ⟨rfl, rfl, fun i hi => by omega⟩, hE5⟩
          case round =>
            clear hN0 hK0 hE5
            obtain ⟨d, An, Ak, cn, ck, ns, ks, hdd, rfl, rfl, rfl, hN, hK, hTK, hE⟩ := hrel
            by_cases hltd : d < dn
            · have hcv := HL1.out x hltx _ (HX0.out _ (HE3.out _ hE)) d (by rw [HL2.out x hltx]; exact hltd)
              have HCV := Lib.hid (HL3.out x d hltx hltd)
              generalize (L x).getD d 0 = cv at hcv HCV
              have d0 : (0 : Int) ≤ (d : Int) := by omega
              have d1 : (d : Int) < (dn : Int) := by omega
              obtain ⟨F, hF'⟩ : ∃ F, solF p0 p1 (solT C p0 p1 dn (x - 1)) d = F := ⟨_, rfl⟩
              have HF : Hid (∀ q, F q = fop .add (solT C p0 p1 dn (x - 1) q) (nrm (priceX p0 p1 (q : Int) (d : Int)))) := Lib.hid (fun q => by rw [← hF']; rfl)
              have HFT : Hid (solT C p0 p1 dn x d = fop .add (F (flI F dn)) (C x d)) := Lib.hid (by rw [solT_next _ _ _ _ _ (by omega : 1 ≤ x), hF'])
              have HFP : Hid (solP C p0 p1 dn (x - 1) d = flI F dn) := Lib.hid (by rw [solP_eq, hF'])
              clear hF'
              obtain ⟨Wd, rfl⟩ : ∃ w', w' = wr := ⟨wr, rfl⟩
              have hcv2 := cell_ext hcv ((Ext.refl _).alloc (.cells #[] 23))
              have hWs := hE.size
              go_wp2_with fail
              go_loopw [16, 59] (fun wv ev wq => ∃ (e : Nat) (Aw : Option Addr) (cw : Nat) (ws : List Nat), e ≤ dn ∧ ev = .int .i64 e ∧ wv = .slice Aw ws.length cw ∧ OwnF wq Wd.heap.size 23 (.slice Aw ws.length cw) ws ∧ Hid (TabW F e ws) ∧ Ext Wd wq) (fun _ ev _ => dn - (RowKit.intOf ev).toNat)
              case atStart => exact ⟨0, some ⟨Wd.heap.size, 0, none⟩, 0, [], Nat.zero_le _, rfl, rfl, World.ownsRow_made (size := 1) Wd #[] 0 (Nat.le_refl _) (by unfold maxLen; omega) rfl, Lib.hid ⟨rfl, fun i hi => by omega⟩, (Ext.refl _).alloc _⟩
              case round =>
                clear hcv2
                obtain ⟨e, Aw, cw, ws, hed, rfl, rfl, hW, hTW, hEd⟩ := hrel
                have hEa := hE.trans hEd
                by_cases hlte : e < dn
                · have hct := (HOT.out _ hEa).cell (i := e) (by rw [hT.out.1]; omega)
                  have HVT := Lib.hid (hT.out.2 e hlte)
                  generalize ts.getD e 0 = te at hct HVT
                  have ⟨pa, pb⟩ := HQ.out _ (HE3.out _ hEa)
                  have e0 : (0 : Int) ≤ (e : Int) := by omega
                  have e1 : (e : Int) < (dn : Int) := by omega
                  go_wp2_with fail
                  refine (HP.out _ e d hlte hltd).mono ?_
                  rintro e' w6 ⟨rfl, hx6⟩
                  have hE6 := hEd.trans hx6
                  have hW6 := hW.ext hx6
                  clear hct pa pb hcv
                  go_wp2_with (at_builtin; refine sapp_here _ _ _ _ rfl ?_)
                  refine Lib.hid ?_
                  generalize hq : flR BinOp.add _ te (priceX p0 p1 (e : Int) (d : Int)) = r
                  have hr : Is r (F e) := by rw [← hq, HF.out]; exact is_fop (flR_is _ _ _ _) HVT.out.2 rfl
                  clear hq
                  refine swl_at (X := fun w' => Ext w6 w' ∧ w'.cell? ⟨w6.heap.size, 0, none⟩ = some (fl r)) ⟨by repeat (first | with_reducible exact Ext.refl _ | (with_reducible refine Ext.drewN ?_ _) | (with_reducible refine Ext.alloc ?_ _)), by first | exact sfreshB _ _ _ _ | exact sfresh _ _ _⟩ ?_
                  rintro z ⟨hez, hcz⟩
                  have hO2 := hW6.ext hez
                  have hrow := hO2.row
                  have hws := hTW.out.1
                  have hszz := (hE6.trans hez).size
                  refine wpList_append_own _ rfl _ _ _ rfl Wd.heap.size 23 i0 (.float .f32 0) 1 4 Try.underlying22 hi hz0 hz1 hz2 rfl (by omega) (.slice Aw ws.length cw) ws.length (ws.map fl) (by rfl) hO2 ⟨w6.heap.size, 0, none⟩ 1 1 [fl r] (by rfl) rfl (one_new hcz) (one_word r) (by unfold maxLen; omega) (by omega) (by omega) ?_
                  intro v' z1 ho2 hg2 _
                  obtain ⟨A2, c2, rfl, ho3⟩ := sown_more ho2
                  have hE7 := Ext.grown (hE6.trans hez) hg2 (fun g hg => (hrow g hg).1)
                  have hTW2 : Hid (TabW F (e + 1) (ws ++ [r])) := Lib.hid (hTW.out.push hr)
                  clear ho2 hg2 hO2 hrow hws hez hcz hE6 hW6 hEd hW hEa hx6 hszz hr
                  go_wp2
                  go_roundw
                  case rel => exact ⟨e + 1, A2, c2, ws ++ [r], by omega, by go_num, by simp, ho3, hTW2, hE7⟩
                  case measure => simp [RowKit.intOf]; omega
                · obtain rfl : dn = e := by omega
                  have hwl := hTW.out.1
                  obtain ⟨gW, rfl⟩ := hW.at (by omega)
                  have hfl := firstLeast_any gW 0 ws.length cw (fun i => ws.getD i 0) wr (by omega) (fun i hi => by rw [Nat.zero_add]; exact hW.cell hi)
                  have hPd : flI (fun i => ws.getD i 0) ws.length = flI F dn := by rw [hwl]; exact flI_congr (fun i hi => (hTW.out.2 i hi).2) dn (Nat.le_refl _)
                  rw [hPd] at hfl
                  have hPl := flI_lt F s0
                  have hcp := hW.cell (i := flI F dn) (by omega)
                  have hvp := hTW.out.2 (flI F dn) hPl
                  have hft := HFT.out
                  have hfp := HFP.out
                  generalize flI F dn = P at hfl hcp hvp hPl hft hfp
                  generalize ws.getD P 0 = wp at hcp hvp
                  have HFL := Lib.hid hfl
                  have HVP := Lib.hid hvp
                  have HFT2 := Lib.hid hft
                  have HFP2 := Lib.hid hfp
                  have P0 : (0 : Int) ≤ (P : Int) := by omega
                  have P1 : (P : Int) < ((ws.length : Nat) : Int) := by omega
                  clear hwl hfl hPd hvp hft hfp hPl
                  go_wp2_with fail
                  refine HFL.out.mono ?_
                  rintro e' w' ⟨rfl, rfl⟩
                  go_wp2_with (at_builtin; refine sapp_here _ _ _ _ rfl ?_)
                  refine Lib.hid ?_
                  generalize hq : flR BinOp.add _ wp cv = r
                  have hr : Is r (solT C p0 p1 dn x d) := by rw [← hq, HFT2.out]; exact is_fop (flR_is _ _ _ _) HVP.out.2 HCV.out.2
                  clear hq
                  refine swl_at (X := fun w' => Ext wr w' ∧ w'.cell? ⟨wr.heap.size, 0, none⟩ = some (fl r)) ⟨by repeat (first | with_reducible exact Ext.refl _ | (with_reducible refine Ext.drewN ?_ _) | (with_reducible refine Ext.alloc ?_ _)), by first | exact sfreshB _ _ _ _ | exact sfresh _ _ _⟩ ?_
                  rintro z ⟨hez, hcz⟩
                  have hEz := hEa.trans hez
                  have hNz := hN.ext (hEd.trans hez)
                  have hKz := hK.ext (hEd.trans hez)
                  have hrow := hNz.row
                  have hap := kinds_apart hKz hNz (by decide)
                  have hnl := hTK.out.1
                  refine wpList_append_own _ rfl _ _ _ rfl w3.heap.size 23 i0 (.float .f32 0) 1 4 Try.underlying22 hi hz0 hz1 hz2 rfl (by omega) (.slice An ns.length cn) ns.length (ns.map fl) (by rfl) hNz ⟨wr.heap.size, 0, none⟩ 1 1 [fl r] (by rfl) rfl (one_new hcz) (one_word r) (by unfold maxLen; omega) (by omega) hEz.size ?_
                  intro v' z1 ho2 hg2 _
                  obtain ⟨A2, c2, rfl, hN1⟩ := sown_more ho2
                  have hK1 := hKz.grown hg2 hap
                  have hE1 := Ext.grown hEz hg2 (fun g hg => (hrow g hg).1)
                  have HR := Lib.hid hr
                  clear ho2 hg2 hrow hap hnl hEz hNz hKz hcz hez hr hcp hW hEa hEd hN hK hE hcv
                  go_wp2_with (at_builtin; refine sapp_here _ _ _ _ rfl ?_)
                  refine Lib.hid ?_
                  refine swl_at (X := fun w' => Ext z1 w' ∧ w'.cell? ⟨z1.heap.size, 0, none⟩ = some (it (P : Int))) ⟨(Ext.refl _).alloc _, sfresh _ _ _⟩ ?_
                  rintro y1 ⟨hey, hcy⟩
                  have hE2 := hE1.trans hey
                  have hN2 := hN1.ext hey
                  have hK2 := hK1.ext hey
                  have hrow2 := hK2.row
                  have hap2 := kinds_apart hN2 hK2 (by decide)
                  have hkl := hTK.out.2.1
                  refine wpList_append_own _ rfl _ _ _ rfl w3.heap.size 3 n0 (.int .i64 0) 1 8 Try.underlying102 ni nz0 nz1 nz2 rfl (by omega) (.slice Ak ks.length ck) ks.length (ks.map it) (by rfl) hK2 ⟨z1.heap.size, 0, none⟩ 1 1 [it (P : Int)] (by rfl) rfl (one_int hcy) (word_int _) (by unfold maxLen; omega) (by omega) hE2.size ?_
                  intro v' y2 ho2 hg2 _
                  obtain ⟨A3, c3, rfl, hK3⟩ := sown_moreI ho2
                  have hN3 := hN2.grown hg2 hap2
                  have hE4 := Ext.grown hE2 hg2 (fun g hg => (hrow2 g hg).1)
                  have hTK2 : Hid (TabK C p0 p1 dn x (d + 1) (ns ++ [r]) (ks ++ [(P : Int)])) := Lib.hid (hTK.out.push HR.out (by rw [HFP2.out]))
                  clear ho2 hg2 hrow2 hap2 hkl hE2 hN2 hK2 hcy hey hE1 hN1 hK1
                  go_wp2
                  go_roundw
                  case rel => exact ⟨d + 1, A2, A3, c2, c3, ns ++ [r], ks ++ [(P : Int)], by omega, by go_num, by simp, by simp, hN3, hK3, hTK2, hE4⟩
                  case measure => simp [RowKit.intOf]; omega
            · obtain rfl : dn = d := by omega
              have hnl := hTK.out.1
              have hkl := hTK.out.2.1
              obtain ⟨gN, rfl⟩ := hN.at (by omega)
              obtain ⟨gK, rfl⟩ := hK.at (by omega)
              rw [hnl, hkl]
              rw [hnl] at hN
              rw [hkl] at hK
              have HNL := Lib.hid hnl
              have HKL := Lib.hid hkl
              clear hnl hkl
              obtain ⟨xs, hrowT, hcellsT⟩ := HOO.out _ hE
              have HRT := Lib.hid hrowT
              clear hrowT
              go_wp2_with (at_builtin; refine sapp_here _ _ _ _ rfl ?_)
              refine Lib.hid ?_
              refine swl_at (X := fun w' => Ext wr w' ∧ w'.cell? ⟨wr.heap.size, 0, none⟩ = some (.slice (some ⟨gK, 0, none⟩) dn ck)) ⟨(Ext.refl _).alloc _, sfresh _ _ _⟩ ?_
              rintro z ⟨hez, hcz⟩
              have hTz := ownsRow_ext1 HRT.out hez
              have hRz := hcellsT.ext hez
              have hNz := hN.ext hez
              have hKz := hK.ext hez
              have hap := kinds_apart hNz hTz (by decide)
              have hrow := World.ownsRow.lt hTz
              have hEz := HE3.out _ (hE.trans hez)
              have hsx : x - 1 + 1 = x := by omega
              refine wpList_append_own _ rfl _ _ _ rfl W0.heap.size 102 t0 (.slice none 0 0) 1 24 Try.underlying100 ti tz0 tz1 tz2 rfl (by omega) (.slice A (x - 1) cF) (x - 1) xs (by rfl) hTz ⟨wr.heap.size, 0, none⟩ 1 1 [.slice (some ⟨gK, 0, none⟩) dn ck] (by rfl) rfl (one_val hcz) (word_slice _ _ _) (by unfold maxLen; omega) (by omega) hEz.size ?_
              intro v' z1 ho2 hg2 _
              have hOT1 := ownT_push hTz hRz hKz HKL.out (fun i hi => (hTK.out.2.2 i hi).2) ho2 hg2 (by omega)
              have hN1 := (hNz.grown hg2 hap).weaken hsz3
              have hE1 := Ext.grown hEz hg2 (fun g hg => (hrow g hg).1)
              rw [hsx] at hOT1
              obtain ⟨A2, c2, rfl⟩ := hOT1.form
              have hT2 : Hid (TabT C p0 p1 dn (x + 1 - 1) ns) := Lib.hid ⟨HNL.out, fun i hi => (hTK.out.2.2 i hi).1⟩
              clear ho2 hg2 hap hrow hEz hNz hKz hRz hTz hcz hez hN hK hE hcellsT hsx
              go_wp2
              go_roundw
              case rel => exact ⟨x + 1, gN, cn, c2, ns, A2, by omega, by go_num, rfl, rfl, hN1, hT2, hOT1, hok2, hE1⟩
              case measure => simp [RowKit.intOf]; omega
    · obtain rfl : wn = x := by omega
      obtain ⟨W3, rfl⟩ : ∃ w', w' = wr := ⟨wr, rfl⟩
      have HY := Lib.hid (HYES.out (fun x d hx hd => hok.out x d hx hd))
      obtain ⟨k, hk⟩ : ∃ k, wn - 1 = k := ⟨_, rfl⟩
      rw [hk] at hOO hT ⊢
      obtain ⟨B, hB⟩ : ∃ B, solB C p0 p1 dn wn = B := ⟨_, rfl⟩
      have HBL : Hid (∀ k, B k < dn) := Lib.hid (fun k => by rw [← hB]; exact solB_lt _ _ _ s0 _ _)
      have HBS : Hid (∀ j, j < k → B (j + 1) = solP C p0 p1 dn (min (k - 1 - j) (k - 1)) (B j)) := Lib.hid (fun j hj => by rw [← hB, show min (k - 1 - j) (k - 1) = wn - 2 - j by omega]; rfl)
      have HL : Hid (solL C p0 p1 dn wn = (List.range wn).map fun x => ((B (wn - 1 - x) : Nat) : Int)) := Lib.hid (by rw [← hB]; rfl)
      have hB0 : flI (fun i => ts.getD i 0) dn = B 0 := by rw [← hB]; unfold solB; rw [hk]; exact flI_congr (fun i hi => (hT.out.2 i hi).2) dn (Nat.le_refl _)
      have hfl := firstLeast_any gT 0 dn cT (fun i => ts.getD i 0) W3 (by omega) (fun i hi => by rw [Nat.zero_add]; exact hOT.cell (by rw [hT.out.1]; exact hi))
      rw [hB0] at hfl
      have hd1 := HBL.out 0
      have HV : Hid (Is (ts.getD (B 0) 0) (solV C p0 p1 dn wn)) := Lib.hid (by
        have h := hT.out.2 (B 0) hd1
        rw [← hB] at h ⊢
        rw [← hk] at h
        exact h)
      have hgc := hOT.cell (i := B 0) (by rw [hT.out.1]; exact hd1)
      obtain ⟨d0, hd0⟩ : ∃ d0, B 0 = d0 := ⟨_, rfl⟩
      rw [hd0] at hfl hd1 HV hgc
      generalize ts.getD d0 0 = r at HV hgc
      have HFL := Lib.hid hfl
      have HD0 := Lib.hid hd0
      have HWK : Hid (wn = k + 1) := Lib.hid (by omega)
      have b0 : (0 : Int) ≤ (d0 : Int) := by omega
      have b1 : (d0 : Int) < (dn : Int) := by omega
      have HGC := Lib.hid (fun (W : World) (hW : Ext W3 W) => cell_ext hgc hW)
      have hk24 : k ≤ 24 := by omega
      have hus := hE.size
      clear hfl hB0 hd0 hB hk hT hOT hok hgc
      go_wp2_with fail
      refine HFL.out.mono ?_
      rintro e w' ⟨rfl, rfl⟩
      go_wp2_with fail
      obtain ⟨gd, hgd⟩ : ∃ gd, W3.heap.size = gd := ⟨_, rfl⟩
      refine wp_at (X := fun w' => Ext W3 w' ∧ Blk w' W3.heap.size 3 [it (d0 : Int)]) ⟨(Ext.refl _).alloc _, Blk.new W3 _ _⟩ ?_
      rintro V0 ⟨hV0, hbd⟩
      rw [hgd] at hbd ⊢
      have HGD := Lib.hid hgd
      clear hgd
      have hdc : V0.cell? ⟨gd, 0, none⟩ = some (it (d0 : Int)) := hbd.cell 0
      have hgc := HGC.out _ hV0
      refine region_wx 8 [] (by kernel_rfl) (by kernel_rfl) ?_
      simp only [List.take_succ_cons, List.take_zero, List.drop_succ_cons, List.drop_zero]
      repeat ((first | refine wx_skip rfl ?_ | refine wx_nilCheck rfl rfl _ rfl _ rfl ?_ | (refine wx_float rfl rfl _ _ _ _ _ _ _ rfl rfl rfl rfl ?_; intro r hr) | (refine wx_k rfl rfl rfl (fun K hK => ?_); go_big_quiet_op; refine hK _ ?_; clear hK K) | (refine wx_alloc rfl rfl 36 rfl #[.slice none 0 0] (fun Z => by simp [Instr.alloc, go_sem]) ?_; intro Va hVa) | (refine wx_bsI rfl rfl _ 2 _ rfl (d0 : Int) rfl (fun Z => bsI1 _ Z) ?_; intro H VO hVO hOb)); (try simp only [Act.put, List.setIfInBounds_toArray, List.set_cons_zero, List.set_cons_succ]); (try simp only [List.tail_nil]))
      refine wx_nil (fun W hW hF => ?_)
      have hbo : Blk W Va.heap.size 36 [.slice none 0 0] := (Blk.new Va _ _).ext (hF 6)
      have hOb2 := hOb.ext (hF 5)
      have hos := hVa.size
      have hds := hbd.lt
      have hgd1 := HGD.out
      obtain ⟨go, hgo⟩ : ∃ g, Va.heap.size = g := ⟨_, rfl⟩
      have hog : gd < go := by omega
      have hHo := hOb2.ne_block (by rw [hgo] at hbo; exact hbo) (by decide) H rfl
      have hOw := hOb2.weaken (base' := W3.heap.size) hV0.size
      have hEw := hV0.trans hW
      have hbdw := hbd.ext hW
      rw [hgo] at hbo ⊢
      have hoc : W.cell? ⟨go, 0, none⟩ = some (.slice none 0 0) := hbo.cell 0
      have hof : W.frozen? ⟨go, 0, none⟩ = false := hbo.frozen 0
      clear hF hOb hOb2 hVa hVO hos hds hgd1 hgo hdc hgc hbd hV0 hW HGC
      go_wp2_with fail
      refine calls_at (X := fun w' => Ext W3 w' ∧ Blk w' gd 3 [it (d0 : Int)] ∧ Blk w' go 36 [.slice (some ⟨H, 0, none⟩) 1 1] ∧ OwnI w' W3.heap.size 2 (.slice (some ⟨H, 0, none⟩) 1 1) [(d0 : Int)]) ⟨hEw.setCell (by have := HGD.out; dsimp only; omega) _, hbdw.other (by dsimp only; omega) _, hbo.set_ 0 _, hOw.set_ne' hHo⟩ ?_
      rintro V1 ⟨hV1, hbd1, hbo1, hO1⟩
      clear hbo hbdw hOw hEw hoc hof
      refine (backward_any A k cF V1).mono ?_
      rintro e w' ⟨rfl, rfl⟩
      go_wp2_with fail
      obtain ⟨xs, hrowT, hRT⟩ := hOO
      obtain ⟨Q, hQ⟩ : ∃ Q : Nat → Nat → Nat, Q = fun i d => solP C p0 p1 dn (min i (k - 1)) d := ⟨_, rfl⟩
      have HQE : Hid (∀ i d, solP C p0 p1 dn (min i (k - 1)) d = Q i d) := Lib.hid (fun i d => by rw [hQ])
      have HQL : Hid (∀ i d, Q i d < dn) := Lib.hid (fun i d => by rw [hQ]; exact solP_lt _ _ _ s0 _ _)
      obtain ⟨V, hV⟩ : ∃ V : Nat → Value, V = fun x => xs.getD (min x (k - 1)) (.int .i64 0) := ⟨_, rfl⟩
      have hxl : xs.length = k := by have := hrowT.1; omega
      have HVX : Hid (∀ x, 0 < k → ∃ ga c, V x = .slice (some ⟨ga, 0, none⟩) dn c ∧ ∀ d, d < dn → W3.cell? ⟨ga, d, none⟩ = some (it ((Q x d : Nat) : Int))) := Lib.hid (fun x h => by
        obtain ⟨ga, c, h1, _, h3⟩ := hRT (min x (k - 1)) (by omega)
        refine ⟨ga, c, by rw [hV]; dsimp only; rw [List.getD_eq_getElem?_getD, h1]; rfl, fun d hd => ?_⟩
        rw [h3 d hd]
        have h4 := HQE.out (min x (k - 1)) d
        rw [show min (min x (k - 1)) (k - 1) = min x (k - 1) by omega] at h4
        rw [h4, ← HQE.out (min x (k - 1)) d, ← HQE.out x d, show min (min x (k - 1)) (k - 1) = min x (k - 1) by omega])
      have hA : 0 < k → ∃ gF, A = some ⟨gF, 0, none⟩ ∧ gF < W3.heap.size ∧ ∀ j, j < k → (V1.alloc (.cells #[.slice A k cF] 100)).cell? ⟨gF, j, none⟩ = some (V j) := fun h => by
        rcases hrowT.2 with ⟨_, h0⟩ | ⟨gF, cap, cur, hv, hb, hh, _⟩
        · omega
        · simp only [Value.slice.injEq] at hv
          obtain ⟨rfl, _, rfl⟩ := hv
          refine ⟨gF, rfl, lt_of_block hh, fun j hj => ?_⟩
          have h1 := World.ownsRow.cellAt hrowT j (by omega)
          refine cell_ext ?_ (hV1.alloc _)
          rw [h1, hV]
          dsimp only
          rw [show min j (k - 1) = j by omega, List.getD_eq_getElem?_getD, List.getElem?_eq_getElem (by omega)]
          rfl
      have hv1s := hV1.size
      have hgdV : gd < V1.heap.size := hbd1.lt
      have hgoV : go < V1.heap.size := hbo1.lt
      have HV1 := Lib.hid hV1
      clear hQ hV hxl hRT hrowT HNO HYES HC1 HL1 HL2 HL3 HP HQ HFL
      refine wp_act ?_
      intro a0 ha0
      refine (wpIn_wide (n := 8)).1 ?_
      refine wpIn_rangeFunc_ownF (F := Fence.wide) (n := 8) rfl (by omega) (gf := 95) (lb := #[.pointer (some ⟨V1.heap.size, 0, none⟩)]) (by rw [ha0]; rfl) trivial (enters_of Try.func95 (by kernel_rfl) rfl)
        (back_stops Fence.wide 7 trivial rfl (by omega) V1.heap.size W3.heap.size k cF A V (by omega) (V1.alloc (.cells #[.slice A k cF] 100)) hA (by simp) (by simp; omega) (by simp [go_sem])) (fun h k => h.trans k) (kpB_b (by simp; omega) (by simp)) (Below.refl _ _) (fun _ => rfl)
        (fun pre W => (Blk W gd 3 [it (((stB Q d0 pre).1 : Nat) : Int)] ∧ Blk W V1.heap.size 100 [.slice A k cF] ∧ ∃ v, Blk W go 36 [v] ∧ OwnI W W3.heap.size 2 v (stB Q d0 pre).2) ∧ Ext W3 W)
        (fun _ _ _ => False)
        (fun s W W' row hs hg hr => ⟨⟨hs.1.1.from hg hr, hs.1.2.1.from hg hr, by obtain ⟨v, h1, h2⟩ := hs.1.2.2; exact ⟨v, h1.from hg hr, h2.from hg hr⟩⟩, Ext.grown hs.2 hg (fun g he => by have := (hr g he).1; simp at this; omega)⟩)
        (fun c s W W' row hs _ _ => hs)
        ⟨⟨hbd1.ext ((Ext.refl _).alloc _), Blk.new V1 _ _, _, hbo1.ext ((Ext.refl _).alloc _), hO1.ext ((Ext.refl _).alloc _)⟩, hV1.alloc _⟩
        (fun x => { tmps := ((a0.tmps.setIfInBounds 106 (.int .i64 (x : Int))).setIfInBounds 107 (V x)).setIfInBounds 24 (V x), defers := [] }) ?assign ?body ?done ?stop
      case assign =>
        subst ha0
        intro l x W K hK
        gi_wp2
        exact hK
      case body =>
        rintro l pre x W ⟨⟨hbd, hbs, v, hbo, hO⟩, hE⟩ hlen
        obtain ⟨ga, cg, hvx, hcx⟩ := HVX.out x (by omega)
        have hzl := stB_lt (Q := Q) hd1 HQL.out pre
        have hst := stB_snoc Q d0 pre x
        have hll := stB_length Q d0 pre
        generalize stB Q d0 pre = st at hbd hO hzl hst hll
        obtain ⟨z, ls⟩ := st
        dsimp only at hbd hO hzl hst hll
        have hcx2 := cell_ext (hcx z hzl) hE
        obtain ⟨A1, c1, rfl, _⟩ := hO.form
        have hdc : W.cell? ⟨gd, 0, none⟩ = some (it (z : Int)) := hbd.cell 0
        have hdf : W.frozen? ⟨gd, 0, none⟩ = false := hbd.frozen 0
        have hoc : W.cell? ⟨go, 0, none⟩ = some (.slice A1 ls.length c1) := hbo.cell 0
        have z0 : (0 : Int) ≤ (z : Int) := by omega
        have z1 : (z : Int) < (dn : Int) := by omega
        generalize Q x z = q at hcx2 hst
        have HST := Lib.hid hst
        have hsW := hE.size
        have hgd3 := HGD.out
        have hdo : ¬ (gd = go) := by omega
        have hod : ¬ (go = gd) := by omega
        subst ha0
        simp only [List.setIfInBounds_toArray, List.set_cons_succ, List.set_cons_zero]
        rw [hvx]
        have HLL := Lib.hid hll
        clear hst hll hcx hvx hgd3
        gi_wp2_with (gi_at_builtin; refine sappIn_here _ _ _ _ rfl ?_)
        refine Lib.hid ?_
        have hgd3 := HGD.out
        refine swlIn_at (X := fun w' => (KeepsOthers W w' ∧ Below W3.heap.size W w' ∧ Ext W3 w') ∧ (Blk w' gd 3 [it (q : Int)] ∧ Blk w' V1.heap.size 100 [.slice A k cF] ∧ Blk w' go 36 [.slice A1 ls.length c1]) ∧ OwnI w' W3.heap.size 2 (.slice A1 ls.length c1) ls ∧ w'.cell? ⟨W.heap.size, 0, none⟩ = some (it (q : Int)))
          ⟨⟨(KeepsOthers.setCell _ _ _).trans (KeepsOthers.alloc _ _), ((Below.refl _ W).setCell (p := ⟨gd, 0, none⟩) (by dsimp only; omega) _).alloc (by simp [World.setCell]; omega) _, (hE.setCell (p := ⟨gd, 0, none⟩) (by dsimp only; omega) _).alloc _⟩, ⟨(hbd.set_ 0 _).ext ((Ext.refl _).alloc _), (hbs.other (by dsimp only; omega) _).ext ((Ext.refl _).alloc _), (hbo.other (by dsimp only; omega) _).ext ((Ext.refl _).alloc _)⟩, (hO.set_ne (hO.ne_blk hbd (by decide)) _).ext ((Ext.refl _).alloc _), by simp [go_sem]⟩ ?_
        rintro w1 ⟨⟨hk1, hb1, hE1⟩, ⟨hbd1, hbs1, hbo1⟩, hO1, hcz⟩
        have hll := HLL.out
        refine wpListIn_append_own _ rfl _ _ _ rfl W3.heap.size 2 j0 (.int .i64 0) 1 8 Try.underlying36 ji jz0 jz1 jz2 rfl (by omega) (.slice A1 ls.length c1) ls.length (ls.map it) (by rfl) hO1 ⟨W.heap.size, 0, none⟩ 1 1 [it (q : Int)] (by rfl) rfl (one_int hcz) (word_int _) (by unfold maxLen; omega) (by omega) hE1.size ?_
        intro v' w2 ho2 hg2 _
        obtain ⟨A2, c2, rfl, hO2⟩ := sown_moreI ho2
        have hrow := hO1.row
        have hk2 := hk1.trans (KeepsOthers.of_grownBy hg2 (own_isCells hO1))
        have hbd2 := hbd1.grown hO1 (by decide) hg2
        have hbs2 := hbs1.grown hO1 (by decide) hg2
        have hbo2 := hbo1.grown hO1 (by decide) hg2
        have hB2 := hb1.grown hg2 hE1.size (fun g hg => (hrow g hg).1)
        have hE2 := Ext.grown hE1 hg2 (fun g hg => (hrow g hg).1)
        have hoc2 : w2.cell? ⟨go, 0, none⟩ = some (.slice A1 ls.length c1) := hbo2.cell 0
        have hof2 : w2.frozen? ⟨go, 0, none⟩ = false := hbo2.frozen 0
        clear ho2 hg2 hrow hll hcz hk1 hb1 hE1 hbd1 hbs1 hbo1 hO1 hdc hdf hoc hcx2
        gi_wp2
        refine ⟨hk2.trans (KeepsOthers.setCell _ _ _), ⟨hB2.setCell (p := ⟨go, 0, none⟩) (by dsimp only; omega) _, ?_⟩, ⟨?_, ?_, _, hbo2.set_ 0 _, ?_⟩, hE2.setCell (p := ⟨go, 0, none⟩) (by dsimp only; omega) _⟩
        · exact ((hbs2.other (by dsimp only; omega) _).cell 0).trans (hbs.cell 0).symm
        · rw [HST.out]; exact hbd2.other (by dsimp only; omega) _
        · exact hbs2.other (by dsimp only; omega) _
        · rw [HST.out]
          rw [show (ls ++ [(q : Int)]).length = ls.length + 1 by simp] at hO2
          exact OwnI.set_ne (a := ⟨go, 0, none⟩) hO2 (hO2.ne_blk hbo2 (by decide)) _
      case done =>
        rintro D ys W hD rfl ⟨⟨hbd, hbs, v, hbo, hO⟩, hE3⟩ hKD
        have hst := stB_backs (Q := Q) (B := B) (k := k) (fun j hj => by rw [HBS.out j hj, HQE.out]) k (Nat.le_refl _)
        rw [HD0.out] at hst
        rw [hst] at hO
        dsimp only at hO
        obtain ⟨ls, hls⟩ : ∃ ls, (List.range (k + 1)).map (fun j => ((B j : Nat) : Int)) = ls := ⟨_, rfl⟩
        rw [hls] at hO
        have hll : ls.length = k + 1 := by rw [← hls]; simp
        have HEQ : Hid (Eqi ls.reverse (solL C p0 p1 dn wn)) := Lib.hid (by
          unfold Eqi
          rw [HL.out, ← hls, HWK.out]
          refine List.ext_getElem (by simp) (fun i h1 h2 => ?_)
          simp)
        obtain ⟨A1, c1, rfl, _⟩ := hO.form
        obtain ⟨gR, rfl⟩ := hO.at (by omega)
        obtain ⟨g', cap', hv', _, _, _, _, _, hHold⟩ := holds_of_ownsRow (enc := encI) (zs := ls) hO (by simp)
        simp only [Value.slice.injEq, Option.some.injEq, Addr.mk.injEq] at hv'
        obtain ⟨⟨rfl, _⟩, _, rfl⟩ := hv'
        have hRo := hO.ne_blk hbo (by decide) gR rfl
        have hRD : ¬ (gR = D) := fun he => by
          rcases hO.2 with ⟨h2, _⟩ | ⟨g', cap, cur, h2, _, hh, _⟩
          · simp at h2
          · simp only [Value.slice.injEq, Option.some.injEq, Addr.mk.injEq] at h2
            obtain ⟨⟨rfl, _⟩, _⟩ := h2
            rw [he, hKD] at hh
            cases hh
        have hR := reverse_any gR 0 c1 ls.toArray W hHold (by simp; omega)
        have hgR := hO.ge
        have hR2 := Lib.hid (show Calls Try.prog 82 #[.slice (some ⟨gR, 0, none⟩) ls.length c1] W fun e w' => e = .returned (.tuple #[]) ∧ Blk w' go 36 [.slice (some ⟨gR, 0, none⟩) ls.length c1] ∧ w'.heap[D]? = some (.deferred (some [])) ∧ OwnI w' W3.heap.size 2 (.slice (some ⟨gR, 0, none⟩) ls.length c1) ls.reverse ∧ Ext W3 w' from by
          have h := hR
          rw [show ls.toArray.size = ls.length by simp] at h
          refine h.mono ?_
          rintro e w' ⟨he, q, rfl⟩
          refine ⟨he, (heap_putRow hRo).trans hbo, (heap_putRow hRD).trans hKD, ?_, below_putRow hE3 hgR.1⟩
          have h9 := ownsRow_putRow (q := q) (enc := encI) (ys := ls.reverse) hO (by simp) (Nat.le_refl _)
          rw [List.take_of_length_le (by simp)] at h9
          unfold OwnI
          rw [List.length_reverse, show ls.toArray.reverse = ls.reverse.toArray by simp]
          exact h9)
        have hoc : W.cell? ⟨go, 0, none⟩ = some (.slice (some ⟨gR, 0, none⟩) ls.length c1) := hbo.cell 0
        have hD2 : W3.heap.size ≤ D := by simp at hD; omega
        clear hR hHold hbd hbs hO hst hls hll hRo hRD hKD hgR hbo hD
        subst ha0
        go_wp2_with fail
        refine hR2.out.mono ?_
        rintro e w5 ⟨rfl, hbo5, hKD5, hO5, hE5⟩
        have hoc5 : w5.cell? ⟨go, 0, none⟩ = some (.slice (some ⟨gR, 0, none⟩) ls.length c1) := hbo5.cell 0
        have HKD := Lib.hid hKD5
        clear hoc hR2 hbo5 hKD5
        go_wp2
        try simp only [Exit.inBlock, Exit.then]
        refine ⟨by simp, .inl ⟨_, _, rfl, run_takeDeferred HKD.out, ?_⟩⟩
        have hgr := grownBy_putObj' w5 D (.deferred none)
        have hO6 : OwnI (w5.putObj D (.deferred none)) W3.heap.size 2 (.slice (some ⟨gR, 0, none⟩) ls.length c1) ls.reverse := hO5.from (B := 0) hgr (fun r hr => by cases hr; exact ⟨Nat.zero_le _, _, HKD.out, rfl⟩)
        have hE6 := Ext.grown hE5 hgr (fun g hg => by cases hg; exact hD2)
        have h := HY.out (w5.putObj D (.deferred none)) (some ⟨gR, 0, none⟩) c1 ls.reverse r (by rw [List.length_reverse]; exact hO6.weaken (by omega)) HEQ.out HV.out (HX0.out _ (hE.trans hE6))
        rw [List.length_reverse] at h
        refine ⟨_, results_tmp3 (t := 6) (u := 7) (v := 8) rfl _ _ _, ?_⟩
        exact h
      case stop =>
        rintro D c pre W _ _ h _
        exact h.elim
end Go.Proofs.Ythkfbmboiabolaa
