/- Steps of the walk over a region whose order is left open: operations that make rows. -/
import Derived.Test.YtgpobhpcbgenoaaCube
import Derived.Test.YtgpobhpcbgenoaaHarA
namespace Go.Proofs.Ytgpobhpcbgenoaa
open Go.RowKit
set_option linter.unusedVariables false

section
variable {P : Program} {ops : Array Oper} {w0 : World} {R : Act → World → Prop} {ql : List (Option (Value → World → Prop))}
theorem wx_new {o : Oper} {rest : List Oper} {k : Nat} {F : Facts} {a : Act} (S : Value → World → Prop) (hq0 : ql.headD none = none) (hw : Region.wanted o (yielded ops a.tmps) = true)
    (hr : ∀ W, Ext w0 W → ∃ u W', (execOp a.eval o).run P W = .ok (.value u) W' ∧ Ext W W' ∧ S u W')
    (h : ∀ u W', Ext w0 W' → S u W' → wx P ops w0 R rest (k + 1) ql.tail (upd F k (Ext W')) (a.put o.dst u)) : wx P ops w0 R (o :: rest) k ql F a :=
  wx_val hq0 hw fun W hW => by
    obtain ⟨u, W', h1, h2, h3⟩ := hr W hW
    exact ⟨u, W', h1, h2, h u W' (hW.trans h2) h3⟩
theorem toList_zeros (n : Nat) : (madeCells (Value.cells (.float .f32 0)) (n * 1)).toList = (List.replicate n 0).map fl := by
  rw [List.map_replicate, show n * 1 = n by omega]
  exact toList_madeCells_one (.float .f32 0) n
/-- A made row of zeros. -/
theorem wx_make {o : Oper} {rest : List Oper} {k : Nat} {F : Facts} {a : Act} (hq0 : ql.headD none = none) (hw : Region.wanted o (yielded ops a.tmps) = true) (t e : TypeId) (i : TypeInfo) (x y : Operand) (ho : o.op = .makeSlice t x y) (n : Nat)
    (ht : P.underlying t = some (.slice e)) (hi : P.info? e = some i) (hz : i.zero = some (.float .f32 0)) (hs : i.size = 1) (hb : i.bytes = 4) (kl kc : IntKind) (hx : a.eval x = .int kl n) (hy : a.eval y = .int kc n) (hn : n ≤ 1048576)
    (h : ∀ (H : Nat) (W : World), Ext w0 W → OwnF W w0.heap.size e (.slice (some ⟨H, 0, none⟩) n n) (List.replicate n 0) → wx P ops w0 R rest (k + 1) ql.tail (upd F k (Ext W)) (a.put o.dst (.slice (some ⟨H, 0, none⟩) n n))) : wx P ops w0 R (o :: rest) k ql F a := by
  refine wx_new (fun u W' => ∃ H, u = .slice (some ⟨H, 0, none⟩) n n ∧ OwnF W' w0.heap.size e (.slice (some ⟨H, 0, none⟩) n n) (List.replicate n 0)) hq0 hw (fun W hW => ?_) (fun u W' hW ⟨H, hu, hO⟩ => by subst hu; exact h H W' hW hO)
  obtain ⟨w', hr, h2, h3⟩ := run_make_full (P := P) W w0.heap.size t e i (.float .f32 0) 1 ht hi hz hs kl kc n (by rw [hb]; omega) (by unfold maxLen; omega) hW.size
  refine ⟨.slice (some ⟨W.heap.size, 0, none⟩) n n, w', ?_, (Below.refl _ _).grown h3 (Nat.le_refl _) (fun k hk => by cases hk), W.heap.size, rfl, ?_⟩
  · unfold execOp
    rw [ho]
    simp [hx, hy, hr]
  · unfold OwnF
    rw [List.length_replicate, ← toList_zeros]
    exact h2
/-- A slice of no words, written out. -/
theorem wx_bs0 {o : Oper} {rest : List Oper} {k : Nat} {F : Facts} {a : Act} (hq0 : ql.headD none = none) (hw : Region.wanted o (yielded ops a.tmps) = true) (t e : TypeId) (ho : o.op = .buildSlice t 0 #[])
    (hr : ∀ W, (Instr.buildSlice t 0 #[]).run P W = .ok (.slice (some ⟨W.heap.size, 0, none⟩) 0 0) (W.alloc (.cells #[] e)))
    (h : ∀ (H : Nat) (W : World), Ext w0 W → OwnF W w0.heap.size e (.slice (some ⟨H, 0, none⟩) 0 0) [] → wx P ops w0 R rest (k + 1) ql.tail (upd F k (Ext W)) (a.put o.dst (.slice (some ⟨H, 0, none⟩) 0 0))) : wx P ops w0 R (o :: rest) k ql F a := by
  refine wx_new (fun u W' => ∃ H, u = .slice (some ⟨H, 0, none⟩) 0 0 ∧ OwnF W' w0.heap.size e (.slice (some ⟨H, 0, none⟩) 0 0) []) hq0 hw (fun W hW => ?_) (fun u W' hW ⟨H, hu, hO⟩ => by subst hu; exact h H W' hW hO)
  refine ⟨.slice (some ⟨W.heap.size, 0, none⟩) 0 0, W.alloc (.cells #[] e), ?_, (Ext.refl _).alloc _, W.heap.size, rfl, ?_⟩
  · unfold execOp
    rw [ho]
    simp [hr]
  · exact World.ownsRow_made (size := 1) W #[] 0 hW.size (by unfold maxLen; omega) rfl
/-- Words added to an empty slice. -/
theorem wx_app {o : Oper} {rest : List Oper} {k : Nat} {F : Facts} {a : Act} (hq0 : ql.headD none = none) (hw : Region.wanted o (yielded ops a.tmps) = true) (t e : TypeId) (i : TypeInfo) (s x : Operand) (ho : o.op = .call { callee := .builtin .append, args := #[s, x], argTypes := #[t, t] })
    (ht : P.underlying t = some (.slice e)) (hi : P.info? e = some i) (hz : i.zero = some (.float .f32 0)) (hs : i.size = 1) (hb : i.bytes = 4) (H m c g off : Nat) (bs : List Nat) (hm : bs.length = m) (h0 : 0 < m) (hn : m ≤ 1048576) (hes : a.eval s = .slice (some ⟨H, 0, none⟩) 0 0) (hex : a.eval x = .slice (some ⟨g, off, none⟩) m c) (hl : Lies w0 g off bs)
    (h : ∀ (G c' : Nat) (W : World), Ext w0 W → OwnF W w0.heap.size e (.slice (some ⟨G, 0, none⟩) m c') bs → wx P ops w0 R rest (k + 1) ql.tail (upd F k (Ext W)) (a.put o.dst (.slice (some ⟨G, 0, none⟩) m c'))) : wx P ops w0 R (o :: rest) k ql F a := by
  refine wx_new (fun u W' => ∃ G c', u = .slice (some ⟨G, 0, none⟩) m c' ∧ OwnF W' w0.heap.size e (.slice (some ⟨G, 0, none⟩) m c') bs) hq0 hw (fun W hW => ?_) (fun u W' hW ⟨G, c', hu, hO⟩ => by subst hu; exact h G c' W' hW hO)
  have hlW := hl.ext hW
  have hr := run_append_grow (P := P) W t o.type e i (.float .f32 0) ht hi hz ⟨H, 0, none⟩ 0 0 [] (by simp) (by simp) ⟨g, off, none⟩ m c (bs.map fl) (by simp [hs, hm]) (fun j u hu => by
    have hj : j < bs.length := by
      rcases Nat.lt_or_ge j bs.length with h1 | h1
      · exact h1
      · simp [List.getElem?_eq_none (show bs.length ≤ j from h1)] at hu
    have := hlW j hj
    rw [show ((⟨g, off, none⟩ : Addr).add j) = ⟨g, off + j, none⟩ by unfold Addr.add; split <;> simp_all, this]
    simp [List.getElem?_eq_getElem hj] at hu
    simp [← hu, List.getElem?_eq_getElem hj]) (by omega) (by omega) (by rw [hb]; exact growslice_fits (by omega) (by omega))
  simp only [Nat.zero_add, Array.empty_append] at hr
  have hge := grownCap_ge W m 0 e
  have hcm : grownCap W m 0 e ≤ maxLen := grownCap_le_maxLen W m 0 e (by unfold maxLen; omega)
  refine ⟨.slice (some ⟨W.heap.size, 0, none⟩) m (grownCap W m 0 e), W.drew.alloc (.cells ((bs.map fl).toArray ++ Builtin.zeroCells (Value.cells (.float .f32 0)) (grownCap W m 0 e - m)) e), ?_, ((Ext.refl W).drew).alloc _, W.heap.size, grownCap W m 0 e, rfl, ?_⟩
  · unfold execOp
    simp only [ho, resolve, invoke, builtin, Sem.run_bind, Sem.run_pure, Result.andThen_ok, List.map_toArray, List.map_cons, List.map_nil, hes, hex]
    rw [hr]
    rfl
  · refine ⟨by simp, .inr ⟨W.heap.size, _, _, by rw [hm], hW.size, heap_alloc_new W.drew _, by omega, hcm, ?_, ?_⟩⟩
    · simp [size_zeroCells, Value.cells, hm]; omega
    · simp [hm]
end
theorem bs0 (W : World) : (Instr.buildSlice 22 0 #[]).run Try.prog W = .ok (.slice (some ⟨W.heap.size, 0, none⟩) 0 0) (W.alloc (.cells #[] 25)) := by
  simp [Instr.buildSlice, go_sem]
end Go.Proofs.Ytgpobhpcbgenoaa
