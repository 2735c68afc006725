/- A law of my own: a region whose order of evaluation is left open is walked once, in the order of the text, where each operation at the head of the region reads, reckons, makes new memory or calls what makes new memory at most, and the operations at its end follow in one forced order. No program in sight. -/
import Derived.StillTail
import Derived.Below
import Derived.Deep.Quiet
namespace Go.Proofs.Ythcpnbjlgbobaaa
open Go.RowKit

/-- w' is w with more blocks: what was there is as it was. -/
def Ext (w w' : World) : Prop := Below w.heap.size w w'
theorem Ext.refl (w : World) : Ext w w := Below.refl _ _
theorem Ext.trans {a b c : World} (h : Ext a b) (k : Ext b c) : Ext a c := Below.trans h (k.mono h.size)

section
variable {P : Program} {ops : Array Oper} {md : Region.Mode} {w0 : World} {rs : Nat → Option (Value → World → Prop)}

/-- The call hands back v, whatever more there is in memory. -/
def callAt (P : Program) (o : Oper) (a : Act) (w : World) (v : Value) : Prop :=
  ∃ f args, (execOp a.eval o).run P w = .ok (.enter f args) w ∧ P.inits.idxOf? f = none ∧ Calls P f args w (fun e w'' => e = .returned v ∧ Ext w w'')
def valAt (P : Program) (o : Oper) (a : Act) (w : World) (K : (World → Prop) → Value → Prop) : Prop :=
  (∃ u w', (execOp a.eval o).run P w = .ok (.value u) w' ∧ Ext w w' ∧ K (Ext w') u) ∨ (∃ w', (execOp a.eval o).run P w = .ok .skip w' ∧ Ext w w' ∧ K (Ext w') undef)
def always : World → Prop := fun _ => True
def andF (F G : World → Prop) : World → Prop := fun w => F w ∧ G w
theorem andF_swap (F G H : World → Prop) : andF (andF F G) H = andF (andF F H) G := by
  funext w; exact propext ⟨fun ⟨⟨a, b⟩, c⟩ => ⟨⟨a, c⟩, b⟩, fun ⟨⟨a, b⟩, c⟩ => ⟨⟨a, c⟩, b⟩⟩

/-- The call hands back some u of R, whatever more there is in memory. -/
def callR (P : Program) (o : Oper) (a : Act) (w : World) (R : Value → World → Prop) : Prop :=
  ∃ f args, (execOp a.eval o).run P w = .ok (.enter f args) w ∧ Calls P f args w (fun e w'' => ∃ u, e = .returned u ∧ R u w'' ∧ Ext w w'')

def loAt (P : Program) (o : Oper) (a : Act) (w0 : World) (K : (World → Prop) → Value → Prop) : Prop :=
  (∃ v, (∀ w, Ext w0 w → callAt P o a w v) ∧ K always v) ∨ (∀ w, Ext w0 w → valAt P o a w K)
def rAt (P : Program) (o : Oper) (a : Act) (w0 : World) (R : Value → World → Prop) (K : (World → Prop) → Value → Prop) : Prop :=
  (∀ w, Ext w0 w → callR P o a w R) ∧ ∀ u w', Ext w0 w' → R u w' → K (Ext w') u

theorem valAt_mono {o : Oper} {a : Act} {w : World} {K K' : (World → Prop) → Value → Prop} (hK : ∀ G v, K G v → K' G v) (h : valAt P o a w K) : valAt P o a w K' := by
  rcases h with ⟨u, w', h1, h2, h3⟩ | ⟨w', h1, h2, h3⟩
  · exact .inl ⟨u, w', h1, h2, hK _ _ h3⟩
  · exact .inr ⟨w', h1, h2, hK _ _ h3⟩
theorem loAt_mono {o : Oper} {a : Act} {K K' : (World → Prop) → Value → Prop} (hK : ∀ G v, K G v → K' G v) (h : loAt P o a w0 K) : loAt P o a w0 K' := by
  rcases h with ⟨v, h1, h2⟩ | h
  · exact .inl ⟨v, h1, hK _ _ h2⟩
  · exact .inr fun w hw => valAt_mono hK (h w hw)
theorem loAt_some {o : Oper} {a : Act} {K : (World → Prop) → Value → Prop} (h : loAt P o a w0 K) : ∃ G v, K G v := by
  rcases h with ⟨v, _, h2⟩ | h
  · exact ⟨_, v, h2⟩
  · rcases h w0 (Ext.refl _) with ⟨u, w', _, _, h3⟩ | ⟨w', _, _, h3⟩
    · exact ⟨_, _, h3⟩
    · exact ⟨_, _, h3⟩

/-- What an operation yields: told by a relation laid ahead where there is one. -/
def anyAt (P : Program) (o : Oper) (a : Act) (w0 : World) (r : Option (Value → World → Prop)) (K : (World → Prop) → Value → Prop) : Prop :=
  match r with
  | none => loAt P o a w0 K
  | some R => rAt P o a w0 R K
theorem anyAt_mono {o : Oper} {a : Act} {r : Option (Value → World → Prop)} {K K' : (World → Prop) → Value → Prop} (hK : ∀ G v, K G v → K' G v) (h : anyAt P o a w0 r K) : anyAt P o a w0 r K' := by
  cases r with
  | none => exact loAt_mono hK h
  | some R => exact ⟨h.1, fun u w' hx hr => hK _ _ (h.2 u w' hx hr)⟩
theorem anyAt_some {o : Oper} {a : Act} {r : Option (Value → World → Prop)} {K : (World → Prop) → Value → Prop} (h : anyAt P o a w0 r K) : ∃ G v, K G v := by
  cases r with
  | none => exact loAt_some h
  | some R =>
    obtain ⟨f, args, _, hc⟩ := h.1 w0 (Ext.refl _)
    obtain ⟨e, w', _, ⟨u, _, hr, hx⟩, _⟩ := hc []
    exact ⟨_, u, h.2 u w' hx hr⟩

/-- Operation number i comes up; F: what is known of the world so far. -/
def xOp (P : Program) (ops : Array Oper) (rs : Nat → Option (Value → World → Prop)) (w0 : World) (i : Nat) (F : World → Prop) (K : (World → Prop) → Act → Prop) (a : Act) : Prop :=
  match ops[i]? with
  | none => K F a
  | some o => if Region.wanted o (yielded ops a.tmps) then anyAt P o a w0 (rs i) (fun G v => K (andF F G) (a.put o.dst v)) else K (andF F always) (a.put o.dst undef)

theorem xOp_mono {i : Nat} {F : World → Prop} {K K' : (World → Prop) → Act → Prop} {a : Act} (hK : ∀ F a, K F a → K' F a) (h : xOp P ops rs w0 i F K a) : xOp P ops rs w0 i F K' a := by
  unfold xOp at *
  split
  · rename_i ho; rw [ho] at h; exact hK _ _ h
  · rename_i o ho
    rw [ho] at h
    dsimp only at h
    split
    · rename_i hw; rw [if_pos hw] at h; exact anyAt_mono (fun _ _ h => hK _ _ h) h
    · rename_i hw; rw [if_neg hw] at h; exact hK _ _ h

/-- The head of the region in whatever order; L: what is asked where n operations have come up. -/
def wpAnyX (P : Program) (md : Region.Mode) (ops : Array Oper) (rs : Nat → Option (Value → World → Prop)) (w0 : World) (n : Nat) (L : (World → Prop) → Array Bool → Act → Prop) : Nat → (World → Prop) → Array Bool → Act → Prop
  | 0, F, listed, a => L F listed a
  | f + 1, F, listed, a => Region.ready md ops listed ≠ [] ∧ ∀ i ∈ Region.ready md ops listed, i < n ∧ xOp P ops rs w0 i F (fun F' a' => wpAnyX P md ops rs w0 n L f F' (listed.setIfInBounds i true) a') a

/-- What has been learned stays true. -/
def Stays (F : World → Prop) : Prop := ∀ w w', F w → Ext w w' → F w'
theorem Stays.and {F G : World → Prop} (h : Stays F) (k : Stays G) : Stays (andF F G) := fun w w' ⟨a, b⟩ e => ⟨h w w' a e, k w w' b e⟩
theorem stays_ext (w : World) : Stays (Ext w) := fun _ _ h e => Ext.trans h e
theorem stays_always : Stays always := fun _ _ h _ => h

theorem wpOp_of_xOp {i : Nat} {F : World → Prop} {K : (World → Prop) → Act → Prop} {K' : Act → World → Prop} {Q' : Exit → Act → World → Prop} {a : Act} {w : World} (hw : Ext w0 w) (hF : F w) (hs : Stays F)
    (h : ∀ F' a' w', Ext w0 w' → F' w' → Stays F' → K F' a' → K' a' w') (hh : xOp P ops rs w0 i F K a) : wpOp P ops Q' i K' a w := by
  unfold xOp at hh
  unfold wpOp
  split
  · rename_i ho; rw [ho] at hh; exact h _ _ _ hw hF hs hh
  · rename_i o ho
    rw [ho] at hh
    dsimp only at hh
    split
    · rename_i hwd
      rw [if_pos hwd] at hh
      refine .inl ?_
      unfold Oper.wp
      cases hr : rs i with
      | some R =>
        rw [hr] at hh
        obtain ⟨f, args, hrun, hc⟩ := hh.1 w hw
        rw [hrun]
        exact hc.mono fun e w'' ⟨u, he, hR, hx⟩ => by subst he; exact h _ _ _ (Ext.trans hw hx) ⟨hs _ _ hF hx, Ext.refl _⟩ (hs.and (stays_ext _)) (hh.2 u w'' (Ext.trans hw hx) hR)
      | none =>
      rw [hr] at hh
      rcases hh with ⟨v, h1, h2⟩ | hh
      · obtain ⟨f, args, hrun, _, hc⟩ := h1 w hw
        rw [hrun]
        exact hc.mono fun e w'' ⟨he, hx⟩ => by subst he; exact h _ _ _ (Ext.trans hw hx) ⟨hs _ _ hF hx, trivial⟩ (hs.and stays_always) h2
      · rcases hh w hw with ⟨u, w', hrun, hx, hk⟩ | ⟨w', hrun, hx, hk⟩
        · rw [hrun]; exact h _ _ _ (Ext.trans hw hx) ⟨hs _ _ hF hx, Ext.refl _⟩ (hs.and (stays_ext _)) hk
        · rw [hrun]; exact h _ _ _ (Ext.trans hw hx) ⟨hs _ _ hF hx, Ext.refl _⟩ (hs.and (stays_ext _)) hk
    · rename_i hwd
      rw [if_neg hwd] at hh
      exact h _ _ _ hw ⟨hF, trivial⟩ (hs.and stays_always) hh

theorem wpAny_of_X {n g : Nat} {L : (World → Prop) → Array Bool → Act → Prop} {Q' : Exit → Act → World → Prop} (hL : ∀ F listed a w, Ext w0 w → F w → L F listed a → wpAny P md ops Q' g listed a w) :
    ∀ (f : Nat) (F : World → Prop) (listed : Array Bool) (a : Act) (w : World), Ext w0 w → F w → Stays F → wpAnyX P md ops rs w0 n L f F listed a → wpAny P md ops Q' (f + g) listed a w
  | 0, F, listed, a, w, hw, hF, _, h => by rw [Nat.zero_add]; exact hL _ _ _ _ hw hF h
  | f + 1, F, listed, a, w, hw, hF, hs, h => by
    rw [show f + 1 + g = (f + g) + 1 by omega]
    exact ⟨fun h0 => absurd h0 h.1, fun i hi => wpOp_of_xOp hw hF hs (fun F' a' w' hw' hF' hs' h' => wpAny_of_X hL f F' _ a' w' hw' hF' hs' h') (h.2 i hi).2⟩

/-- In state a, operation o yields (v, knowing G) of V alone. -/
def Yl (P : Program) (ops : Array Oper) (w0 : World) (r : Option (Value → World → Prop)) (o : Oper) (a : Act) (V : (World → Prop) → Value → Prop) : Prop :=
  (Region.wanted o (yielded ops a.tmps) = true ∧ anyAt P o a w0 r V) ∨ (Region.wanted o (yielded ops a.tmps) = false ∧ V always undef)

theorem Yl.some_ {r : Option (Value → World → Prop)} {o : Oper} {a : Act} {V : (World → Prop) → Value → Prop} (h : Yl P ops w0 r o a V) : ∃ G v, V G v := by
  rcases h with ⟨_, h⟩ | ⟨_, h⟩
  · exact anyAt_some h
  · exact ⟨_, _, h⟩
theorem Yl.xOp {i : Nat} {o : Oper} {a : Act} {V : (World → Prop) → Value → Prop} {F : World → Prop} {K : (World → Prop) → Act → Prop} (hi : ops[i]? = some o) (h : Yl P ops w0 (rs i) o a V)
    (hK : ∀ G v, V G v → K (andF F G) (a.put o.dst v)) : xOp P ops rs w0 i F K a := by
  unfold Go.Proofs.Ythcpnbjlgbobaaa.xOp
  rw [hi]
  dsimp only
  rcases h with ⟨hw, h⟩ | ⟨hw, h⟩
  · rw [if_pos hw]; exact anyAt_mono hK h
  · rw [if_neg (by rw [hw]; exact Bool.false_ne_true)]; exact hK _ _ h
theorem yl_of_xOp {i : Nat} {o : Oper} {a : Act} {F : World → Prop} {K : (World → Prop) → Act → Prop} (hi : ops[i]? = some o) (h : xOp P ops rs w0 i F K a) : Yl P ops w0 (rs i) o a (fun G v => K (andF F G) (a.put o.dst v)) := by
  unfold xOp at h
  rw [hi] at h
  dsimp only at h
  by_cases hw : Region.wanted o (yielded ops a.tmps) = true
  · rw [if_pos hw] at h; exact .inl ⟨hw, h⟩
  · rw [if_neg hw] at h; exact .inr ⟨by simpa using hw, h⟩
theorem loAt_congr {o : Oper} {a a' : Act} {V : (World → Prop) → Value → Prop} (he : execOp a'.eval o = execOp a.eval o) (h : loAt P o a w0 V) : loAt P o a' w0 V := by
  unfold loAt callAt valAt at *
  rw [he]; exact h
theorem anyAt_congr {r : Option (Value → World → Prop)} {o : Oper} {a a' : Act} {V : (World → Prop) → Value → Prop} (he : execOp a'.eval o = execOp a.eval o) (h : anyAt P o a w0 r V) : anyAt P o a' w0 r V := by
  cases r with
  | none => exact loAt_congr he h
  | some R =>
    unfold anyAt rAt callR at *
    rw [he]; exact h
theorem Yl.of_same {r : Option (Value → World → Prop)} {o : Oper} {a a' : Act} {V : (World → Prop) → Value → Prop} (hy : Yl P ops w0 r o a V) (he : execOp a'.eval o = execOp a.eval o)
    (hw : Region.wanted o (yielded ops a'.tmps) = Region.wanted o (yielded ops a.tmps)) : Yl P ops w0 r o a' V := by
  unfold Yl at *
  rw [hw]
  exact hy.imp (fun ⟨h1, h2⟩ => ⟨h1, anyAt_congr he h2⟩) id

/-- One call from one world ends in one way. -/
theorem calls_one {f : FuncId} {args : Array Value} {w : World} {v v' : Value} {R R' : World → Prop} (hi : P.inits.idxOf? f = none)
    (h : Calls P f args w fun e w' => e = .returned v ∧ R w') (h' : Calls P f args w fun e w' => e = .returned v' ∧ R' w') : v = v' := by
  obtain ⟨n, u, w1, hr, hu⟩ := (h.mono (R' := fun | .returned u, w' => u = v ∧ R w' | _, _ => False) (fun e w' ⟨he, hw⟩ => by subst he; exact ⟨rfl, hw⟩)).done (R := fun u w' => u = v ∧ R w') hi
  obtain ⟨n', u', w1', hr', hu'⟩ := (h'.mono (R' := fun | .returned u, w' => u = v' ∧ R' w' | _, _ => False) (fun e w' ⟨he, hw⟩ => by subst he; exact ⟨rfl, hw⟩)).done (R := fun u w' => u = v' ∧ R' w') hi
  obtain ⟨rfl, _⟩ := hu
  obtain ⟨rfl, _⟩ := hu'
  have key : ∀ (a b : Nat) (m : Machine) (x y : Value) (p q : World), runN P a m = .ended (.done x) p → runN P (a + b) m = .ended (.done y) q → x = y := by
    intro a b m x y p q h1 h2
    rw [runN_add, h1] at h2
    simp only [Stepped.ended.injEq, Outcome.done.injEq] at h2
    exact h2.1
  rcases Nat.le_total n n' with hle | hle
  · obtain ⟨d, rfl⟩ := Nat.exists_eq_add_of_le hle
    exact key n d _ _ _ _ _ hr hr'
  · obtain ⟨d, rfl⟩ := Nat.exists_eq_add_of_le hle
    exact (key n' d _ _ _ _ _ hr' hr).symm

/-- An operation apart from oi comes up ahead of it. -/
theorem xOp_put {r : Option (Value → World → Prop)} {j : Nat} {oi oj : Oper} {V : (World → Prop) → Value → Prop} (hj : ops[j]? = some oj) (hap : oi.apart ops oj = true)
    (hsi : ∀ cs b, oi.op ≠ .select cs b) (hsj : ∀ cs b, oj.op ≠ .select cs b) {F : World → Prop} {K : (World → Prop) → Act → Prop} {a : Act}
    (hy : Yl P ops w0 r oi a V) (h : ∀ G v, V G v → xOp P ops rs w0 j (andF F G) K (a.put oi.dst v)) :
    xOp P ops rs w0 j F (fun F' a' => Yl P ops w0 r oi a' V ∧ ∀ G v, V G v → K (andF F' G) (a'.put oi.dst v)) a := by
  obtain ⟨h1, h2, h3⟩ := Oper.apart_spec hap
  have keep : ∀ u, Yl P ops w0 r oi (a.put oj.dst u) V := fun u => hy.of_same (execOp_put oi hsi a oj.dst u h3) (wanted_put oi a oj.dst u h3)
  obtain ⟨G0, v0, hv0⟩ := hy.some_
  unfold xOp at *
  simp only [hj] at *
  have hw : ∀ v, Region.wanted oj (yielded ops (a.put oi.dst v).tmps) = Region.wanted oj (yielded ops a.tmps) := fun v => wanted_put oj a oi.dst v h1
  have hx : ∀ v, execOp (a.put oi.dst v).eval oj = execOp a.eval oj := fun v => execOp_put oj hsj a oi.dst v h1
  by_cases hwd : Region.wanted oj (yielded ops a.tmps) = true
  · rw [if_pos hwd]
    cases hrj : rs j with
    | some R =>
      rw [hrj] at h
      have h' : ∀ G v, V G v → rAt P oj a w0 R (fun G' u => K (andF (andF F G) G') ((a.put oi.dst v).put oj.dst u)) := fun G v hv => by
        have := h G v hv
        rw [hw, if_pos hwd] at this
        exact anyAt_congr (r := some R) (hx v).symm this
      refine ⟨(h' G0 v0 hv0).1, fun u w' hx' hR => ⟨keep u, fun G v hv => ?_⟩⟩
      rw [andF_swap, ← Act.put_comm a v u h2]
      exact (h' G v hv).2 u w' hx' hR
    | none =>
    rw [hrj] at h
    have h' : ∀ G v, V G v → loAt P oj a w0 (fun G' u => K (andF (andF F G) G') ((a.put oi.dst v).put oj.dst u)) := fun G v hv => by
      have := h G v hv
      rw [hw, if_pos hwd] at this
      exact loAt_congr (hx v).symm this
    by_cases hE : ∃ f args, (execOp a.eval oj).run P w0 = .ok (.enter f args) w0
    · obtain ⟨f, args, hE⟩ := hE
      have h'' : ∀ G v, V G v → ∃ u, (∀ w, Ext w0 w → callAt P oj a w u) ∧ K (andF (andF F G) always) ((a.put oi.dst v).put oj.dst u) := fun G v hv => by
        rcases h' G v hv with ⟨u, h1, h2⟩ | h1
        · exact ⟨u, h1, h2⟩
        · rcases h1 w0 (Ext.refl _) with ⟨_, _, hr, _⟩ | ⟨_, hr, _⟩ <;> rw [hE] at hr <;> cases hr
      obtain ⟨u0, hu0, _⟩ := h'' G0 v0 hv0
      refine .inl ⟨u0, hu0, keep u0, fun G v hv => ?_⟩
      obtain ⟨u, hu, hk⟩ := h'' G v hv
      obtain ⟨f1, args1, hr1, hi1, hc1⟩ := hu0 w0 (Ext.refl _)
      obtain ⟨f2, args2, hr2, _, hc2⟩ := hu w0 (Ext.refl _)
      have heq : f1 = f2 ∧ args1 = args2 := by
        rw [hr1] at hr2; injection hr2 with e1 _; injection e1 with e1 e2; exact ⟨e1, e2⟩
      obtain ⟨rfl, rfl⟩ := heq
      have : u0 = u := calls_one hi1 hc1 hc2
      subst this
      rw [andF_swap, ← Act.put_comm a v u0 h2]
      exact hk
    · refine .inr fun w hw' => ?_
      have h'' : ∀ G v, V G v → valAt P oj a w (fun G' u => K (andF (andF F G) G') ((a.put oi.dst v).put oj.dst u)) := fun G v hv => by
        rcases h' G v hv with ⟨u, h1, h2⟩ | h1
        · obtain ⟨f, args, hr, _⟩ := h1 w0 (Ext.refl _)
          exact absurd ⟨f, args, hr⟩ hE
        · exact h1 w hw'
      rcases h'' G0 v0 hv0 with ⟨u, w', hr, hx', _⟩ | ⟨w', hr, hx', _⟩
      · refine .inl ⟨u, w', hr, hx', keep u, fun G v hv => ?_⟩
        rcases h'' G v hv with ⟨u1, w1, hr1, _, hk⟩ | ⟨w1, hr1, _, _⟩
        · rw [hr] at hr1
          injection hr1 with e1 e2
          injection e1 with e1
          subst e1 e2
          rw [andF_swap, ← Act.put_comm a v u h2]
          exact hk
        · rw [hr] at hr1; cases hr1
      · refine .inr ⟨w', hr, hx', keep undef, fun G v hv => ?_⟩
        rcases h'' G v hv with ⟨u1, w1, hr1, _, hk⟩ | ⟨w1, hr1, _, hk⟩
        · rw [hr] at hr1; cases hr1
        · rw [hr] at hr1
          injection hr1 with e1 e2
          subst e2
          rw [andF_swap, ← Act.put_comm a v undef h2]
          exact hk
  · rw [if_neg hwd]
    refine ⟨keep _, fun G v hv => ?_⟩
    have := h G v hv
    rw [hw, if_neg hwd] at this
    rw [andF_swap, ← Act.put_comm a v undef h2]
    exact this

theorem wpAnyX_first {n i : Nat} {oi : Oper} {V : (World → Prop) → Value → Prop} {L : (World → Prop) → Array Bool → Act → Prop} (hi : ops[i]? = some oi) (hsel : ∀ (j : Nat) (o : Oper) cs b, ops[j]? = some o → o.op ≠ .select cs b)
    (hin : i < n) (hlt : ∀ listed : Array Bool, HeadInv md ops n listed → listed.getD i true = false → ∀ j ∈ Region.ready md ops listed, j < n)
    (hdone : ∀ F listed a, L F listed a → ∀ j ∈ Region.ready md ops listed, n ≤ j) :
    ∀ (f : Nat) (F : World → Prop) (listed : Array Bool) (a : Act), HeadInv md ops n listed →
      (∀ j oj, ops[j]? = some oj → j ≠ i → listed.getD j true = false → (∀ e ∈ oj.after, Region.binds md e = true → e.on ≠ i) → oi.apart ops oj = true) →
      i ∈ Region.ready md ops listed → Yl P ops w0 (rs i) oi a V →
      (∀ G v, V G v → wpAnyX P md ops rs w0 n L f (andF F G) (listed.setIfInBounds i true) (a.put oi.dst v)) → wpAnyX P md ops rs w0 n L (f + 1) F listed a := by
  intro f
  induction f with
  | zero =>
    intro F listed a inv _ hr hy H
    have hun := (mem_ready.1 hr).1
    refine ⟨fun h => (by rw [h] at hr; cases hr), fun j hj => ?_⟩
    have hjn := hlt listed inv hun j hj
    refine ⟨hjn, ?_⟩
    by_cases hji : j = i
    · subst hji; exact hy.xOp hi H
    · obtain ⟨G, v, hv⟩ := hy.some_
      have := hdone _ _ _ (H G v hv) j (ready_mono hj hji)
      omega
  | succ f ih =>
    intro F listed a inv hfree hr hy H
    have hun := (mem_ready.1 hr).1
    refine ⟨fun h => (by rw [h] at hr; cases hr), fun j hj => ?_⟩
    have hjn := hlt listed inv hun j hj
    refine ⟨hjn, ?_⟩
    by_cases hji : j = i
    · subst hji; exact hy.xOp hi H
    · obtain ⟨hjun, oj, hoj, hall⟩ := mem_ready.1 hj
      have hnot : ∀ e ∈ oj.after, Region.binds md e = true → e.on ≠ i := fun e he hb heq => by
        have h1 := hall e he hb
        rw [heq, getD_both hun] at h1
        cases h1
      have h2 := xOp_put hoj (hfree j oj hoj hji hjun hnot) (fun cs b => hsel i oi cs b hi) (fun cs b => hsel j oj cs b hoj) hy
        (fun G v hv => ((H G v hv).2 j (ready_mono hj hji)).2)
      have hfree' : ∀ k ok, ops[k]? = some ok → k ≠ i → (listed.setIfInBounds j true).getD k true = false →
          (∀ e ∈ ok.after, Region.binds md e = true → e.on ≠ i) → oi.apart ops ok = true := fun k ok hk hki hun hno => by
        refine hfree k ok hk hki ?_ hno
        by_cases hjk : j = k
        · subst hjk; exact hjun
        · rw [getD_set_ne true hjk] at hun; exact hun
      refine xOp_mono (fun F' a' h3 => ih F' (listed.setIfInBounds j true) a' (inv.set hj hjn) hfree' (ready_mono hr (Ne.symm hji)) h3.1 fun G v hv => ?_) h2
      rw [Array.setIfInBounds_comm _ _ hji]
      exact h3.2 G v hv

/-- The walk in the order of the text. -/
def wpX (P : Program) (ops : Array Oper) (w0 : World) (L : (World → Prop) → Act → Prop) : List Oper → List (Option (Value → World → Prop)) → (World → Prop) → Act → Prop
  | [], _, F, a => L F a
  | o :: rest, rs, F, a => if Region.wanted o (yielded ops a.tmps) then anyAt P o a w0 (rs.headD none) (fun G v => wpX P ops w0 L rest rs.tail (andF F G) (a.put o.dst v)) else wpX P ops w0 L rest rs.tail (andF F always) (a.put o.dst undef)

theorem headX {n g : Nat} {L : (World → Prop) → Act → Prop} (hs : Region.noSelect ops = true)
    (hlt : ∀ i, i < n → ∀ listed : Array Bool, HeadInv md ops n listed → listed.getD i true = false → ∀ j ∈ Region.ready md ops listed, j < n) :
    ∀ (l : List Oper) (k : Nat) (F : World → Prop) (listed : Array Bool) (a : Act), k + l.length = n → (∀ j, j < l.length → l[j]? = ops[k + j]?) → HeadInv md ops n listed →
    ∀ ql : List (Option (Value → World → Prop)), (∀ j, rs (k + j) = ql.getD j none) →
    Region.lexHead md ops g l.length k listed = true → wpX P ops w0 L l ql F a →
    wpAnyX P md ops rs w0 n (fun F' listed' a' => Region.seqB md ops g n listed' = true ∧ L F' a') l.length F listed a
  | [], k, F, listed, a, hk, _, _, _, _, hB, h => by
    have e : k = n := by simpa using hk
    subst e
    exact ⟨by simpa [Region.lexHead] using hB, h⟩
  | o :: l, k, F, listed, a, hk, hl, inv, ql, hq, hB, h => by
    have h0 : ops[k]? = some o := by simpa using (hl 0 (by simp)).symm
    simp only [List.length_cons] at hk
    simp only [List.length_cons, Region.lexHead, Bool.and_eq_true] at hB
    obtain ⟨⟨hr, hf⟩, hB'⟩ := hB
    have hst : xOp P ops rs w0 k F (fun F' a' => wpX P ops w0 L l ql.tail F' a') a := by
      have h1 : rs k = ql.headD none := by
        have := hq 0
        rw [Nat.add_zero] at this
        rw [this]; cases ql <;> rfl
      unfold xOp; rw [h0, h1]; exact h
    have hy := yl_of_xOp h0 hst
    refine wpAnyX_first h0 (Region.noSelect_spec hs) (by omega) (hlt k (by omega)) (fun F' listed' a' h1 j hj => seqB_ready h1.1 j hj) l.length F listed a inv (Region.free_spec h0 hf) (by simpa using hr) hy ?_
    intro G v hv
    exact headX hs hlt l (k + 1) _ _ _ (by omega) (fun j hj => by have := hl (j + 1) (by simpa using hj); simpa [Nat.add_assoc, Nat.add_comm 1 j] using this) (inv.set (by simpa using hr) (by omega)) ql.tail (fun j => by have := hq (j + 1); rw [show k + (j + 1) = k + 1 + j by omega] at this; rw [this]; cases ql <;> rfl) hB' hv

/-- The region: its first n operations in whatever order, the rest in a forced one. -/
theorem wp_region_X {id : Nat} {Q : Exit → Act → World → Prop} {a : Act} {w : World} (n : Nat) (ql : List (Option (Value → World → Prop))) (hm : P.follows .mixedOrders = true) (hB : Region.lexTailB .any ops n = true)
    (h : wpX P ops w (fun F a' => ∀ W, Ext w W → F W → wpList P ops Q (ops.toList.drop n) a' W) (ops.toList.take n) ql always a) : (Code.region id ops true).wp P Q a w := by
  unfold Region.lexTailB at hB
  simp only [Bool.and_eq_true, decide_eq_true_eq] at hB
  obtain ⟨⟨⟨⟨hs, hn⟩, hk⟩, hc⟩, hB⟩ := hB
  refine wp_region_any hm ?_
  have hlen : (ops.toList.take n).length = n := by simp; omega
  have inv : HeadInv .any ops n (Array.replicate ops.size false) := ⟨by simp, (fun j oj _ hl => by rw [getD_replicate_false] at hl; cases hl), (fun t _ ht => by simp [ht])⟩
  have hX := headX (P := P) (rs := fun j => ql.getD j none) (md := .any) (w0 := w) (n := n) (g := ops.size - n) (L := fun F a' => ∀ W, Ext w W → F W → wpList P ops Q (ops.toList.drop n) a' W) hs
    (fun i hi listed inv hun j hj => by
      rcases Nat.lt_or_ge j n with h | h
      · exact h
      · exact absurd hj (tail_waits hk hc hn inv _ i rfl hi hun j h))
    (ops.toList.take n) 0 always (Array.replicate ops.size false) a (by rw [hlen, Nat.zero_add]) (fun j hj => by rw [hlen] at hj; simp [hj]) inv ql (fun j => by rw [Nat.zero_add]) (by rw [hlen]; exact hB) h
  rw [hlen] at hX
  have hfin := wpAny_of_X (P := P) (rs := fun j => ql.getD j none) (md := .any) (w0 := w) (n := n) (L := fun F' listed' a' => Region.seqB .any ops (ops.size - n) n listed' = true ∧ ∀ W, Ext w W → F' W → wpList P ops Q (ops.toList.drop n) a' W) (g := ops.size - n) (Q' := Q) (fun F listed a' w' hw' hF' ⟨hseq, hL⟩ => by
    have hl2 : (ops.toList.drop n).length = ops.size - n := by simp
    have := wpAny_of_seq (P := P) (md := .any) (Q' := Q) (ops.toList.drop n) n listed a' w' (fun j => by simp [List.getElem?_drop]) (by rw [hl2]; exact hseq) (hL w' hw' hF')
    rwa [hl2] at this) n always _ a { w with drawn := w.drawn + 1 } ⟨rfl, rfl, rfl, Nat.le_refl _, fun _ _ => rfl⟩ trivial stays_always hX
  rw [show n + (ops.size - n) = ops.size by omega] at hfin
  exact hfin

/-- The region, all of it in whatever order. -/
theorem wp_region_X0 {id : Nat} {Q : Exit → Act → World → Prop} {a : Act} {w : World} (ql : List (Option (Value → World → Prop))) (hm : P.follows .mixedOrders = true) (hB : Region.lexB .any ops = true)
    (h : wpX P ops w (fun F a' => ∀ W, Ext w W → F W → Q .normal a' W) ops.toList ql always a) : (Code.region id ops true).wp P Q a w := by
  unfold Region.lexB at hB
  simp only [Bool.and_eq_true] at hB
  obtain ⟨hs, hB⟩ := hB
  refine wp_region_any hm ?_
  have inv : HeadInv .any ops ops.size (Array.replicate ops.size false) := ⟨by simp, (fun j oj _ hl => by rw [getD_replicate_false] at hl; cases hl), (fun t ht ht' => by omega)⟩
  have conv : ∀ (f k : Nat) (listed : Array Bool), Region.lexFrom .any ops f k listed = true → Region.lexHead .any ops 0 f k listed = true := by
    intro f
    induction f with
    | zero => intro k listed h; exact h
    | succ f ih =>
      intro k listed h
      simp only [Region.lexFrom, Bool.and_eq_true] at h
      simp only [Region.lexHead, Bool.and_eq_true]
      exact ⟨h.1, ih _ _ h.2⟩
  have hX := headX (P := P) (rs := fun j => ql.getD j none) (md := .any) (w0 := w) (n := ops.size) (g := 0) (L := fun F a' => ∀ W, Ext w W → F W → Q .normal a' W) hs
    (fun i _ listed _ _ j hj => by
      obtain ⟨_, o, ho, _⟩ := mem_ready.1 hj
      exact (Array.getElem?_eq_some_iff.1 ho).1)
    ops.toList 0 always (Array.replicate ops.size false) a (by simp) (fun j hj => by simp) inv ql (fun j => by rw [Nat.zero_add]) (conv _ _ _ (by simpa using hB)) h
  have hfin := wpAny_of_X (P := P) (rs := fun j => ql.getD j none) (md := .any) (w0 := w) (n := ops.size) (g := 0) (Q' := Q) (L := fun F' listed' a' => Region.seqB .any ops 0 ops.size listed' = true ∧ ∀ W, Ext w W → F' W → Q .normal a' W)
    (fun F listed a' w' hw' hF' ⟨hseq, hL⟩ => ⟨by simpa [Region.seqB] using hseq, hL w' hw' hF'⟩) ops.toList.length always _ a { w with drawn := w.drawn + 1 } ⟨rfl, rfl, rfl, Nat.le_refl _, fun _ _ => rfl⟩ trivial stays_always hX
  simpa using hfin
end
end Go.Proofs.Ythcpnbjlgbobaaa
