/- The steps of the walk over a region whose order is left open, by the law of XLoose. No program in sight. -/
import Derived.Test.YtgpobhpcbgenoaaLoose
import Derived.Test.YtgpobhpcbgenoaaMem
import Derived.BigQuiet
import Derived.Deep.RegionHeld3
import Derived.WalkKit
namespace Go.Proofs.Ytgpobhpcbgenoaa
open Go.RowKit

/-- A world that extends w0. -/
structure ExtW (w0 : World) where
  W : World
  h : Ext w0 W
@[go_sem] def Cx (w0 W : World) : Prop := ∃ X : ExtW w0, W = X.W
instance ExtW.some_ (w0 : World) : Nonempty (ExtW w0) := ⟨⟨w0, Ext.refl _⟩⟩

theorem Ext.cells {W W1 : World} (h : Ext W W1) (b o : Nat) (hs : (W.cell? ⟨b, o, none⟩).isSome = true) : W1.cell? ⟨b, o, none⟩ = W.cell? ⟨b, o, none⟩ := by
  obtain ⟨v, hv⟩ := Option.isSome_iff_exists.1 hs
  exact Below.cell h (p := ⟨b, o, none⟩) (lt_of_cell hv)
theorem Ext.marks {W W1 : World} (h : Ext W W1) (b o : Nat) (hs : (W.cell? ⟨b, o, none⟩).isSome = true) : W1.frozen? ⟨b, o, none⟩ = W.frozen? ⟨b, o, none⟩ := by
  obtain ⟨v, hv⟩ := Option.isSome_iff_exists.1 hs
  exact Below.frozen h (p := ⟨b, o, none⟩) (lt_of_cell hv)
@[go_sem] theorem ExtW.cell {w0 : World} (X : ExtW w0) (b o : Nat) (hs : (w0.cell? ⟨b, o, none⟩).isSome = true) : X.W.cell? ⟨b, o, none⟩ = w0.cell? ⟨b, o, none⟩ := X.h.cells b o hs

section
variable {P : Program} {ops : Array Oper} {w0 : World} {R : Act → World → Prop} {ql : List (Option (Value → World → Prop))}

/-- The walk, the next operation's number k; R: what is asked behind the head. -/
def wx (P : Program) (ops : Array Oper) (w0 : World) (R : Act → World → Prop) (l : List Oper) (k : Nat) (ql : List (Option (Value → World → Prop))) (F : Facts) (a : Act) : Prop :=
  (∀ j, k ≤ j → F j = always) → wpX P ops w0 (fun F' a' => ∀ W, Ext w0 W → (∀ i, F' i W) → R a' W) l k ql F a

theorem upd_mono {F F' : Facts} {G : World → Prop} (hF : ∀ i W, F' i W → F i W) (k : Nat) : ∀ i W, upd F' k G i W → upd F k G i W := fun i W h => by
  by_cases hik : i = k
  · subst hik; rw [upd_same] at *; exact h
  · rw [upd_ne _ _ hik] at *; exact hF i W h
theorem anyAt_class {o : Oper} {a : Act} {C C' : World → Prop} {r : Option (Value → World → Prop)} {K : (World → Prop) → Value → Prop} (hC : ∀ w, C' w → C w) (h : anyAt P o a w0 C r K) : anyAt P o a w0 C' r K := by
  cases r with
  | none =>
    rcases h with ⟨v, h1, h2⟩ | h
    · exact .inl ⟨v, fun w hw => h1 w (hC w hw), h2⟩
    · exact .inr fun w hw => h w (hC w hw)
  | some R => exact ⟨fun w hw => h.1 w (hC w hw), h.2⟩
theorem wpX_weak : ∀ (l : List Oper) (k : Nat) (ql : List (Option (Value → World → Prop))) (F F' : Facts) (a : Act), (∀ i W, F' i W → F i W) →
    wpX P ops w0 (fun F' a' => ∀ W, Ext w0 W → (∀ i, F' i W) → R a' W) l k ql F a → wpX P ops w0 (fun F' a' => ∀ W, Ext w0 W → (∀ i, F' i W) → R a' W) l k ql F' a
  | [], _, _, F, F', a, hF, h => fun W hW hF' => h W hW (fun i => hF i W (hF' i))
  | o :: l, k, ql, F, F', a, hF, h => by
    unfold wpX at *
    have hC : ∀ w, Cls ops w0 F' k w → Cls ops w0 F k w := fun w ⟨h1, h2⟩ => ⟨h1, fun i hi => hF i w (h2 i hi)⟩
    split
    · rename_i hw; rw [if_pos hw] at h; exact anyAt_mono (fun G v _ h => wpX_weak l (k + 1) ql.tail _ _ _ (upd_mono hF k) h) (anyAt_class hC h)
    · rename_i hw; rw [if_neg hw] at h; exact wpX_weak l (k + 1) ql.tail _ _ _ (upd_mono hF k) h
theorem blank_step {F : Facts} {k : Nat} (h : ∀ j, k ≤ j → F j = always) (G : World → Prop) : ∀ j, k + 1 ≤ j → upd F k G j = always := fun j hj => by
  rw [upd_ne _ _ (by omega)]; exact h j (by omega)
theorem upd_down {F : Facts} {k : Nat} (h : ∀ j, k ≤ j → F j = always) (G : World → Prop) : ∀ i W, upd F k G i W → F i W := fun i W hi => by
  by_cases hik : i = k
  · subst hik; rw [h i (Nat.le_refl _)]; trivial
  · rwa [upd_ne _ _ hik] at hi

theorem wx_nil {k : Nat} {F : Facts} {a : Act} (h : ∀ W, Ext w0 W → (∀ i, F i W) → R a W) : wx P ops w0 R [] k ql F a := fun _ => h
theorem wx_skip {o : Oper} {rest : List Oper} {k : Nat} {F : Facts} {a : Act} (hw : Region.wanted o (yielded ops a.tmps) = false) (h : wx P ops w0 R rest (k + 1) ql.tail F (a.put o.dst undef)) : wx P ops w0 R (o :: rest) k ql F a := by
  intro hb
  unfold wpX
  rw [if_neg (by rw [hw]; exact Bool.false_ne_true)]
  exact wpX_weak rest (k + 1) ql.tail F _ _ (upd_down hb always) (h fun j hj => hb j (by omega))
theorem wx_val {o : Oper} {rest : List Oper} {k : Nat} {F : Facts} {a : Act} (hq0 : ql.headD none = none) (hw : Region.wanted o (yielded ops a.tmps) = true)
    (h : ∀ W, Ext w0 W → ∃ u W', (execOp a.eval o).run P W = .ok (.value u) W' ∧ Ext W W' ∧ wx P ops w0 R rest (k + 1) ql.tail (upd F k (Ext W')) (a.put o.dst u)) : wx P ops w0 R (o :: rest) k ql F a := by
  intro hb
  unfold wpX
  rw [if_pos hw, hq0]
  exact .inr fun W hW => .inl (by obtain ⟨u, W', h1, h2, h3⟩ := h W hW.1; exact ⟨u, W', h1, h2, h3 (blank_step hb _)⟩)
theorem wx_one {o : Oper} {rest : List Oper} {k : Nat} {F : Facts} {a : Act} (hq0 : ql.headD none = none) (hw : Region.wanted o (yielded ops a.tmps) = true) (u : Value)
    (hr : ∀ W, Ext w0 W → (execOp a.eval o).run P W = .ok (.value u) W) (h : wx P ops w0 R rest (k + 1) ql.tail F (a.put o.dst u)) : wx P ops w0 R (o :: rest) k ql F a := by
  intro hb
  unfold wpX
  rw [if_pos hw, hq0]
  exact .inr fun W hW => .inl ⟨u, W, hr W hW.1, Ext.refl _, wpX_weak rest (k + 1) ql.tail F _ _ (upd_down hb _) (h fun j hj => hb j (by omega))⟩
theorem wx_some {o : Oper} {rest : List Oper} {k : Nat} {F : Facts} {a : Act} (hq0 : ql.headD none = none) (hw : Region.wanted o (yielded ops a.tmps) = true)
    (h : ∀ W, Ext w0 W → ∃ u W', (execOp a.eval o).run P W = .ok (.value u) W' ∧ Ext W W' ∧ wx P ops w0 R rest (k + 1) ql.tail F (a.put o.dst u)) : wx P ops w0 R (o :: rest) k ql F a := by
  intro hb
  unfold wpX
  rw [if_pos hw, hq0]
  exact .inr fun W hW => .inl (by obtain ⟨u, W', h1, h2, h3⟩ := h W hW.1; exact ⟨u, W', h1, h2, wpX_weak rest (k + 1) ql.tail F _ _ (upd_down hb _) (h3 fun j hj => hb j (by omega))⟩)
theorem wx_move {o : Oper} {rest : List Oper} {k : Nat} {F : Facts} {a : Act} (hq0 : ql.headD none = none) (hw : Region.wanted o (yielded ops a.tmps) = true) (x : Operand) (ho : o.op = .move x)
    (h : wx P ops w0 R rest (k + 1) ql.tail F (a.put o.dst (a.eval x))) : wx P ops w0 R (o :: rest) k ql F a :=
  wx_one hq0 hw _ (fun W _ => by unfold execOp; rw [ho]; rfl) h
theorem wx_assign {o : Oper} {rest : List Oper} {k : Nat} {F : Facts} {a : Act} (hq0 : ql.headD none = none) (hw : Region.wanted o (yielded ops a.tmps) = true) (x : Operand) (ho : o.op = .assign x)
    (h : wx P ops w0 R rest (k + 1) ql.tail F (a.put o.dst (a.eval x))) : wx P ops w0 R (o :: rest) k ql F a :=
  wx_one hq0 hw _ (fun W _ => by unfold execOp; rw [ho]; rfl) h

theorem run_value {s : Sem Value} {w w' : World} {f : FuncId} {args : Array Value} (h : (s >>= fun v => (pure (Next.value v) : Sem Next)).run P w = .ok (.enter f args) w') : False := by
  rw [Sem.run_bind] at h
  cases hs : s.run P w with
  | ok v w1 => rw [hs] at h; simp [Result.andThen] at h
  | halt x w1 => rw [hs] at h; simp [Result.andThen] at h

/-- An operation that yields one value, whatever more there is in memory. -/
theorem wx_q {o : Oper} {rest : List Oper} {k : Nat} {F : Facts} {a : Act} (hq0 : ql.headD none = none) (hw : Region.wanted o (yielded ops a.tmps) = true) {s : Sem Value} (hs : execOp a.eval o = (s >>= fun v => (pure (Next.value v) : Sem Next)))
    (hq : ∀ K : Act → Prop, (∀ a', wx P ops w0 R rest (k + 1) ql.tail F a' → K a') → o.quiet P a (Cx w0) K) : wx P ops w0 R (o :: rest) k ql F a := by
  obtain ⟨v, hv, hk⟩ := hq (fun a' => wx P ops w0 R rest (k + 1) ql.tail F a') (fun _ h => h)
  refine wx_one hq0 hw v (fun W hW => ?_) hk
  have := hv W ⟨⟨W, hW⟩, rfl⟩
  unfold Oper.quietAt at this
  generalize hr : (execOp a.eval o).run P W = r at this
  cases r with
  | ok n w' =>
    cases n with
    | value u => obtain ⟨rfl, rfl⟩ := this; rfl
    | enter f args => rw [hs] at hr; exact (run_value hr).elim
    | skip =>
      exfalso
      rw [hs, Sem.run_bind] at hr
      cases h2 : s.run P W with
      | ok v w1 => rw [h2] at hr; simp [Result.andThen] at hr
      | halt x w1 => rw [h2] at hr; simp [Result.andThen] at hr
    | _ => exact this.elim
  | halt x w' => exact this.elim

theorem wx_pure {o : Oper} {rest : List Oper} {k : Nat} {F : Facts} {a : Act} (hq0 : ql.headD none = none) (hw : Region.wanted o (yielded ops a.tmps) = true) {u : Value} (hs : execOp a.eval o = pure (Next.value u))
    (h : wx P ops w0 R rest (k + 1) ql.tail F (a.put o.dst u)) : wx P ops w0 R (o :: rest) k ql F a :=
  wx_one hq0 hw u (fun W _ => by rw [hs]; rfl) h

/-- The plain kinds that the quiet step runs. -/
def kindQ : Op → Bool
  | .move _ | .assign _ | .pick .. | .load .. | .binOp .. | .unOp .. | .convert .. | .fieldAddr .. | .field .. | .indexAddr .. | .index .. | .extract .. | .slice .. | .build .. => true
  | .call { callee := .builtin .len, .. } | .call { callee := .builtin .min, .. } | .call { callee := .builtin .max, .. } => true
  | _ => false
theorem kindQ_value {o : Oper} (hk : kindQ o.op = true) (ρ : Operand → Value) : ∃ s : Sem Value, execOp ρ o = (s >>= fun v => (pure (Next.value v) : Sem Next)) := by
  unfold execOp
  generalize o.op = op at hk
  cases op with
  | call c =>
    obtain ⟨callee, args, tys⟩ := c
    cases callee with
    | builtin b => cases b <;> first | (cases hk; done) | exact ⟨_, rfl⟩
    | _ => cases hk
  | move x => exact ⟨pure (ρ x), rfl⟩
  | assign x => exact ⟨pure (ρ x), rfl⟩
  | pick c x y =>
    cases hc : ρ c with
    | bool b => exact ⟨pure (if b then ρ x else ρ y), by simp only [hc]; rfl⟩
    | _ => exact ⟨asBool (ρ c) >>= fun b => pure (if b then ρ x else ρ y), by simp only [hc]; rfl⟩
  | _ => first | (cases hk; done) | exact ⟨_, rfl⟩
theorem wx_k {o : Oper} {rest : List Oper} {k : Nat} {F : Facts} {a : Act} (hq0 : ql.headD none = none) (hw : Region.wanted o (yielded ops a.tmps) = true) (hk : kindQ o.op = true)
    (hq : ∀ K : Act → Prop, (∀ a', wx P ops w0 R rest (k + 1) ql.tail F a' → K a') → o.quiet P a (Cx w0) K) : wx P ops w0 R (o :: rest) k ql F a :=
  let ⟨_, hs⟩ := kindQ_value hk a.eval
  wx_q hq0 hw hs hq
theorem wx_nilCheck {o : Oper} {rest : List Oper} {k : Nat} {F : Facts} {a : Act} (hq0 : ql.headD none = none) (hw : Region.wanted o (yielded ops a.tmps) = true) (x : Operand) (ho : o.op = .nilCheck x) (ad : Addr) (hx : a.eval x = .pointer (some ad))
    (h : wx P ops w0 R rest (k + 1) ql.tail F (a.put o.dst (.pointer (some ad)))) : wx P ops w0 R (o :: rest) k ql F a :=
  wx_pure hq0 hw (by unfold execOp; rw [ho]; simp only [hx]) h
theorem wx_pick {o : Oper} {rest : List Oper} {k : Nat} {F : Facts} {a : Act} (hq0 : ql.headD none = none) (hw : Region.wanted o (yielded ops a.tmps) = true) (c x y : Operand) (ho : o.op = .pick c x y) (b : Bool) (hc : a.eval c = .bool b)
    (h : wx P ops w0 R rest (k + 1) ql.tail F (a.put o.dst (if b then a.eval x else a.eval y))) : wx P ops w0 R (o :: rest) k ql F a :=
  wx_pure hq0 hw (by unfold execOp; rw [ho]; simp only [hc]; rfl) h

def arithB : BinOp → Bool
  | .add | .sub | .mul | .quo => true
  | _ => false
theorem arithB_or {op : BinOp} (h : arithB op = true) : op = .add ∨ op = .sub ∨ op = .mul ∨ op = .quo := by
  cases op <;> first | (cases h; done) | simp
/-- '+', '-', '*', '/' on single words. -/
theorem wx_float {o : Oper} {rest : List Oper} {k : Nat} {F : Facts} {a : Act} (hq0 : ql.headD none = none) (hw : Region.wanted o (yielded ops a.tmps) = true) (op : BinOp) (t : TypeId) (x y : Operand) (ty : TypeId) (p q : Nat)
    (ho : o.op = .binOp op t x y ty) (hopB : arithB op = true) (hx : a.eval x = .float .f32 p) (hy : a.eval y = .float .f32 q)
    (h : ∀ r, Is r (fop op p q) → wx P ops w0 R rest (k + 1) ql.tail F (a.put o.dst (fl r))) : wx P ops w0 R (o :: rest) k ql F a := by
  have hop := arithB_or hopB
  refine wx_some hq0 hw fun W _ => ⟨fl (flR op W p q), W.drewN (flN op p q), ?_, below_drewN (Below.refl _ _) _, h _ (flR_is op W p q)⟩
  unfold execOp
  rw [ho]
  have he : eqGuard op t x y (.float .f32 p) (.float .f32 q) = pure () := by
    unfold eqGuard
    rcases hop with rfl | rfl | rfl | rfl <;> rfl
  have h2 := run_fl (P := P) W (op := op) t p q hop
  simp only [hx, hy, he]
  simp only [Sem.run_bind, Sem.run_pure, Result.andThen_ok, h2]

theorem run_callF {o : Oper} {a : Act} (f : FuncId) (args : List Operand) (tys : Array TypeId) (ho : o.op = .call { callee := .value (.func f), args := args.toArray, argTypes := tys })
    (hf : (P.funcs[f]?).any (fun fn => !(fn.name == "runtime.NumGoroutine") && fn.body.isSome) = true) (W : World) : (execOp a.eval o).run P W = .ok (.enter f (args.map a.eval).toArray) W := by
  cases hfn : P.funcs[f]? with
  | none => rw [hfn] at hf; cases hf
  | some fn =>
    rw [hfn] at hf
    simp only [Option.any_some, Bool.and_eq_true, Bool.not_eq_true'] at hf
    unfold execOp
    rw [ho]
    have hb : fn.body ≠ none := by
      intro hbb; rw [hbb] at hf; simp at hf
    have hn : ¬ fn.name = "runtime.NumGoroutine" := by simpa using hf.1
    simp [resolve, Act.eval, Deferred.ofValue, invoke, callFunc, Sem.run, program, hfn, hn, hb, List.map_toArray]

/-- A call of a Go function that hands back one value, and makes memory at most. -/
theorem wx_call {o : Oper} {rest : List Oper} {k : Nat} {F : Facts} {a : Act} (hq0 : ql.headD none = none) (hw : Region.wanted o (yielded ops a.tmps) = true) (f : FuncId) (args : List Operand) (tys : Array TypeId)
    (ho : o.op = .call { callee := .value (.func f), args := args.toArray, argTypes := tys }) (hi : P.inits.idxOf? f = none)
    (hf : (P.funcs[f]?).any (fun fn => !(fn.name == "runtime.NumGoroutine") && fn.body.isSome) = true) (v : Value)
    (hc : ∀ W, Ext w0 W → (∀ i, Region.waitsFor .any ops k i = true → F i W) → Calls P f (args.map a.eval).toArray W fun e W' => e = .returned v ∧ Ext W W')
    (h : wx P ops w0 R rest (k + 1) ql.tail F (a.put o.dst v)) : wx P ops w0 R (o :: rest) k ql F a := by
  intro hb
  unfold wpX
  rw [if_pos hw, hq0]
  exact .inl ⟨v, fun W hW => ⟨f, (args.map a.eval).toArray, run_callF f args tys ho hf W, hi, hc W hW.1 hW.2⟩, wpX_weak rest (k + 1) ql.tail F _ _ (upd_down hb _) (h fun j hj => hb j (by omega))⟩

/-- A call of a Go function that hands back some u of S, a relation laid ahead. -/
theorem wx_callR {o : Oper} {rest : List Oper} {k : Nat} {F : Facts} {a : Act} (S : Value → World → Prop) (hq0 : ql.headD none = some S) (hw : Region.wanted o (yielded ops a.tmps) = true) (f : FuncId) (args : List Operand) (tys : Array TypeId)
    (ho : o.op = .call { callee := .value (.func f), args := args.toArray, argTypes := tys })
    (hf : (P.funcs[f]?).any (fun fn => !(fn.name == "runtime.NumGoroutine") && fn.body.isSome) = true)
    (hc : ∀ W, Ext w0 W → (∀ i, Region.waitsFor .any ops k i = true → F i W) → Calls P f (args.map a.eval).toArray W fun e W' => ∃ u, e = .returned u ∧ S u W' ∧ Ext W W')
    (h : ∀ u W, Ext w0 W → S u W → wx P ops w0 R rest (k + 1) ql.tail (upd F k (Ext W)) (a.put o.dst u)) : wx P ops w0 R (o :: rest) k ql F a := by
  intro hb
  unfold wpX
  rw [if_pos hw, hq0]
  exact ⟨fun W hW => ⟨f, (args.map a.eval).toArray, run_callF f args tys ho hf W, hc W hW.1 hW.2⟩, fun u W hW hS => h u W hW hS (blank_step hb _)⟩

theorem run_callV {o : Oper} {a : Act} (x : Operand) (args : List Operand) (tys : Array TypeId) (ho : o.op = .call { callee := .value x, args := args.toArray, argTypes := tys }) (g : FuncId) (lb : Array Value) (hx : a.eval x = .func (.func g) #[] lb)
    (hf : (P.funcs[g]?).any (fun fn => !(fn.name == "runtime.NumGoroutine") && fn.body.isSome) = true) (W : World) : (execOp a.eval o).run P W = .ok (.enter g ((args.map a.eval).toArray ++ lb)) W := by
  cases hfn : P.funcs[g]? with
  | none => rw [hfn] at hf; cases hf
  | some fn =>
    rw [hfn] at hf
    simp only [Option.any_some, Bool.and_eq_true, Bool.not_eq_true'] at hf
    unfold execOp
    rw [ho]
    have hb : fn.body ≠ none := by
      intro hbb; rw [hbb] at hf; simp at hf
    have hn : ¬ fn.name = "runtime.NumGoroutine" := by simpa using hf.1
    simp [resolve, hx, Deferred.ofValue, invoke, callFunc, Sem.run, program, hfn, hn, hb, List.map_toArray]

theorem enters_any {g : FuncId} (hf : (P.funcs[g]?).any (fun fn => !(fn.name == "runtime.NumGoroutine") && fn.body.isSome) = true) (args : Array Value) (W : World) : (callFunc g args).run P W = .ok (.enter g args) W := by
  cases hfn : P.funcs[g]? with
  | none => rw [hfn] at hf; cases hf
  | some fn =>
    rw [hfn] at hf
    simp only [Option.any_some, Bool.and_eq_true, Bool.not_eq_true'] at hf
    have hb : fn.body ≠ none := by
      intro hbb; rw [hbb] at hf; simp at hf
    have hn : ¬ fn.name = "runtime.NumGoroutine" := by simpa using hf.1
    simp [callFunc, Sem.run, program, hfn, hn, hb]
/-- A call through a function value, that hands back some u of S, a relation laid ahead. -/
theorem wx_callV {o : Oper} {rest : List Oper} {k : Nat} {F : Facts} {a : Act} (S : Value → World → Prop) (hq0 : ql.headD none = some S) (hw : Region.wanted o (yielded ops a.tmps) = true) (x : Operand) (args : List Operand) (tys : Array TypeId)
    (ho : o.op = .call { callee := .value x, args := args.toArray, argTypes := tys }) (g : FuncId) (lb : Array Value) (hx : a.eval x = .func (.func g) #[] lb)
    (hf : (P.funcs[g]?).any (fun fn => !(fn.name == "runtime.NumGoroutine") && fn.body.isSome) = true)
    (hc : ∀ W, Ext w0 W → (∀ i, Region.waitsFor .any ops k i = true → F i W) → Calls P g ((args.map a.eval).toArray ++ lb) W fun e W' => ∃ u, e = .returned u ∧ S u W' ∧ Ext W W')
    (h : ∀ u W, Ext w0 W → S u W → wx P ops w0 R rest (k + 1) ql.tail (upd F k (Ext W)) (a.put o.dst u)) : wx P ops w0 R (o :: rest) k ql F a := by
  intro hb
  unfold wpX
  rw [if_pos hw, hq0]
  exact ⟨fun W hW => ⟨g, (args.map a.eval).toArray ++ lb, run_callV x args tys ho g lb hx hf W, hc W hW.1 hW.2⟩, fun u W hW hS => h u W hW hS (blank_step hb _)⟩

/-- A slice of one word, written out. -/
theorem wx_bs {o : Oper} {rest : List Oper} {k : Nat} {F : Facts} {a : Act} (hq0 : ql.headD none = none) (hw : Region.wanted o (yielded ops a.tmps) = true) (t e : TypeId) (x : Operand) (ho : o.op = .buildSlice t 1 #[(0, x)]) (b : Nat) (hx : a.eval x = .float .f32 b)
    (hr : ∀ W, (Instr.buildSlice t 1 #[(0, .float .f32 b)]).run P W = .ok (.slice (some ⟨W.heap.size, 0, none⟩) 1 1) (W.alloc (.cells #[.float .f32 b] e)))
    (h : ∀ (H : Nat) (W : World), Ext w0 W → W.cell? ⟨H, 0, none⟩ = some (.float .f32 b) → wx P ops w0 R rest (k + 1) ql.tail (upd F k (Ext W)) (a.put o.dst (.slice (some ⟨H, 0, none⟩) 1 1))) : wx P ops w0 R (o :: rest) k ql F a := by
  refine wx_val hq0 hw fun W hW => ⟨_, W.alloc (.cells #[.float .f32 b] e), ?_, Below.alloc (Below.refl _ _) (Nat.le_refl _) _, h W.heap.size _ (Below.alloc hW hW.size _) (by rw [World.cell?_alloc_at _ _ _ 0 rfl]; rfl)⟩
  unfold execOp
  rw [ho]
  simp [hx, hr]

/-- A new variable. -/
theorem wx_alloc {o : Oper} {rest : List Oper} {k : Nat} {F : Facts} {a : Act} (hq0 : ql.headD none = none) (hw : Region.wanted o (yielded ops a.tmps) = true) (t : TypeId) (ho : o.op = .alloc t) (cs : Array Value)
    (hr : ∀ W, (Instr.alloc t true (.tuple #[])).run P W = .ok (.pointer (some ⟨W.heap.size, 0, none⟩)) (W.alloc (.cells cs t)))
    (h : ∀ W : World, Ext w0 W → wx P ops w0 R rest (k + 1) ql.tail (upd F k (Ext (W.alloc (.cells cs t)))) (a.put o.dst (.pointer (some ⟨W.heap.size, 0, none⟩)))) : wx P ops w0 R (o :: rest) k ql F a := by
  refine wx_val hq0 hw fun W hW => ⟨_, W.alloc (.cells cs t), ?_, Below.alloc (Below.refl _ _) (Nat.le_refl _) _, h W hW⟩
  unfold execOp
  rw [ho]
  simp only [Sem.run_bind, Sem.run_pure, Result.andThen_ok, hr]

/-- float64(x). -/
theorem wx_conv {o : Oper} {rest : List Oper} {k : Nat} {F : Facts} {a : Act} (hq0 : ql.headD none = none) (hw : Region.wanted o (yielded ops a.tmps) = true) (s t : TypeId) (x : Operand) (p : Nat)
    (ho : o.op = .convert s t x) (hx : a.eval x = .float .f32 p) (hs : (P.underlying s).isSome = true) (ht : P.underlying t = some (.float .f64))
    (h : ∀ W : World, wx P ops w0 R rest (k + 1) ql.tail F (a.put o.dst (.float .f64 (cvR W p)))) : wx P ops w0 R (o :: rest) k ql F a := by
  refine wx_some hq0 hw fun W _ => ⟨.float .f64 (cvR W p), W.drewN (cvN p), ?_, below_drewN (Below.refl _ _) _, h W⟩
  unfold execOp
  rw [ho]
  have h2 := run_cv (P := P) W s t p hs ht
  simp only [hx]
  simp only [Sem.run_bind, Sem.run_pure, Result.andThen_ok, h2]

/-- An operation that yields the same in whatever world. -/
theorem pre_q {o : Oper} {a : Act} {K : Act → Prop} (hw : Region.wanted o (yielded ops a.tmps) = true) (hk : kindQ o.op = true)
    (hq : ∀ K' : Act → Prop, (∀ a', K a' → K' a') → o.quiet P a (fun _ => True) K') : ∃ v, Yields P ops o v a ∧ K (a.put o.dst v) := by
  obtain ⟨s, hs⟩ := kindQ_value hk a.eval
  obtain ⟨v, hv, hk⟩ := hq K (fun _ h => h)
  refine ⟨v, .inl ⟨hw, fun W => ?_⟩, hk⟩
  have := hv W trivial
  unfold Oper.quietAt at this
  generalize hr : (execOp a.eval o).run P W = r at this
  cases r with
  | ok n w' =>
    cases n with
    | value u => obtain ⟨rfl, rfl⟩ := this; rfl
    | enter f args => rw [hs] at hr; exact (run_value hr).elim
    | skip =>
      exfalso
      rw [hs, Sem.run_bind] at hr
      cases h2 : s.run P W with
      | ok v w1 => rw [h2] at hr; simp [Result.andThen] at hr
      | halt x w1 => rw [h2] at hr; simp [Result.andThen] at hr
    | _ => exact this.elim
  | halt x w' => exact this.elim

/-- The region, written out. -/
theorem region_wy {id : Nat} {Q : Exit → Act → World → Prop} {a : Act} {w : World} {l : List Oper} (pre : List Nat) (n : Nat) (tl : List Nat) (ql : List (Option (Value → World → Prop))) (hm : P.follows .mixedOrders = true) (hB : orderB l.toArray pre n tl = true)
    (h : wpPre P l.toArray (wx P l.toArray w (fun a' W => wpList P l.toArray (NoPanic Q) (theOps l.toArray tl) a' W) (l.take n) 0 ql noFacts) pre a) : (Code.region id l.toArray true).wp P Q a w := by
  refine wp_region_noPanic ?_
  refine wp_region_Y pre n tl ql hm hB (.inr fun _ _ _ _ _ h => h) ?_
  clear hB
  induction pre generalizing a with
  | nil => exact h fun _ _ => rfl
  | cons i is ih =>
    obtain ⟨o, ho, v, hy, h⟩ := h
    exact ⟨o, ho, v, hy, ih h⟩
theorem theOps_drop (l : List Oper) : ∀ (m n : Nat), l.length - n = m → theOps l.toArray (List.range' n m) = l.drop n
  | 0, n, h => by rw [List.drop_of_length_le (by omega)]; rfl
  | m + 1, n, h => by
    have hn : n < l.length := by omega
    have h1 : (l.toArray)[n]? = some l[n] := by simp [hn]
    have ih := theOps_drop l m (n + 1) (by omega)
    unfold theOps at ih ⊢
    rw [List.range'_succ, List.filterMap_cons_some h1, ih, ← List.drop_eq_getElem_cons hn]
/-- The region, written out: its first n operations in whatever order, the rest in that of the text. -/
theorem region_wx {id : Nat} {Q : Exit → Act → World → Prop} {a : Act} {w : World} {l : List Oper} (n : Nat) (ql : List (Option (Value → World → Prop))) (hm : P.follows .mixedOrders = true) (hB : orderB l.toArray [] n (List.range' n (l.length - n)) = true)
    (h : wx P l.toArray w (fun a' W => wpList P l.toArray Q (l.drop n) a' W) (l.take n) 0 ql noFacts a) : (Code.region id l.toArray true).wp P Q a w := by
  refine wp_region_Y [] n _ ql hm hB (.inl rfl) ?_
  rw [theOps_drop l _ n rfl]
  exact h fun _ _ => rfl
/-- The region, written out, no forced end. -/
theorem region_wx0 {id : Nat} {Q : Exit → Act → World → Prop} {a : Act} {w : World} {l : List Oper} (ql : List (Option (Value → World → Prop))) (hm : P.follows .mixedOrders = true) (hB : orderB l.toArray [] l.length [] = true)
    (h : wx P l.toArray w (fun a' W => Q .normal a' W) l 0 ql noFacts a) : (Code.region id l.toArray true).wp P Q a w := by
  refine wp_region_Y [] l.length [] ql hm hB (.inl rfl) ?_
  simp only [List.take_length, wpPre]
  exact h fun _ _ => rfl

@[go_sem] theorem noPanic_normal (Q : Exit → Act → World → Prop) (a : Act) (w : World) : NoPanic Q .normal a w = Q .normal a w := rfl
/-- A block that has just been laid, its world behind a name. -/
theorem gen_alloc {c : Code} {Q : Exit → Act → World → Prop} {a : Act} {w : World} {cs : Array Value} {t : TypeId}
    (h : ∀ W0, Ext w W0 → (∀ i, W0.cell? ⟨w.heap.size, i, none⟩ = cs[i]?) → (∀ i, W0.frozen? ⟨w.heap.size, i, none⟩ = false) → W0.heap.size = w.heap.size + 1 → c.wp P Q a W0) : c.wp P Q a (w.alloc (.cells cs t)) :=
  h _ (Below.alloc (Below.refl _ _) (Nat.le_refl _) _) (fun i => World.cell?_alloc_at cs t _ i rfl) (fun i => World.frozen?_alloc_at cs t _ i rfl) (by simp)
end
section
variable {P : Program} (w : World) (t : TypeId) (x y : Nat)
@[go_sem] theorem run_fadd : (binOp .add t (.float .f32 x) (.float .f32 y)).run P w = .ok (.float .f32 (flR .add w x y)) (w.drewN (flN .add x y)) := run_fl w t x y (by simp)
@[go_sem] theorem run_fsub : (binOp .sub t (.float .f32 x) (.float .f32 y)).run P w = .ok (.float .f32 (flR .sub w x y)) (w.drewN (flN .sub x y)) := run_fl w t x y (by simp)
@[go_sem] theorem run_fmul : (binOp .mul t (.float .f32 x) (.float .f32 y)).run P w = .ok (.float .f32 (flR .mul w x y)) (w.drewN (flN .mul x y)) := run_fl w t x y (by simp)
@[go_sem] theorem run_fdiv : (binOp .quo t (.float .f32 x) (.float .f32 y)).run P w = .ok (.float .f32 (flR .quo w x y)) (w.drewN (flN .quo x y)) := run_fl w t x y (by simp)
end
theorem ext_of {w w' : World} (h : Below w.heap.size w w') : Ext w w' := h
theorem ext_drewN (w : World) (n : Nat) : Ext w (w.drewN n) := below_drewN (Below.refl _ _) n
theorem Ext.drewN {w w' : World} (h : Ext w w') (n : Nat) : Ext w (w'.drewN n) := below_drewN h n
theorem Ext.drew {w w' : World} (h : Ext w w') : Ext w w'.drew := Below.drew h
theorem Ext.alloc {w w' : World} (h : Ext w w') (o : Obj) : Ext w (w'.alloc o) := Below.alloc h h.size o
theorem Ext.setCell {w w' : World} (h : Ext w w') {p : Addr} (hp : w.heap.size ≤ p.block) (u : Value) : Ext w (w'.setCell p u) := Below.setCell h hp u
theorem Reads.ext {w w' : World} {A : Option Addr} {n : Nat} {bs : List Nat} (h : Reads w A n bs) (e : Ext w w') : Reads w' A n bs := h.keep e
theorem OwnF.ext {w w' : World} {base : Nat} {e : TypeId} {v : Value} {bs : List Nat} (h : OwnF w base e v bs) (k : Ext w w') : OwnF w' base e v bs := h.keep k
theorem Lies.ext {w w' : World} {g off : Nat} {bs : List Nat} (h : Lies w g off bs) (e : Ext w w') : Lies w' g off bs :=
  fun i hi => by rw [e.cells _ _ (by rw [h i hi]; rfl)]; exact h i hi
attribute [irreducible] wx
end Go.Proofs.Ytgpobhpcbgenoaa
