/- A law of my own: a region whose order of evaluation is left open is walked once, in the order of the text, where each operation at the head of the region reads, reckons, makes new memory or calls what makes new memory at most, and the operations at its end follow in one forced order. What an operation has made may be used by those that wait for it. No program in sight. -/
import Derived.StillTail
import Derived.Below
import Derived.Deep.Quiet
namespace Go.Proofs.Ytgpobhpcbgenoaa
open Go.RowKit

/-- w' is w with more blocks: what was there is as it was. -/
def Ext (w w' : World) : Prop := Below w.heap.size w w'
theorem Ext.refl (w : World) : Ext w w := Below.refl _ _
theorem Ext.trans {a b c : World} (h : Ext a b) (k : Ext b c) : Ext a c := Below.trans h (k.mono h.size)

/-- What is known of the world, operation by operation. -/
abbrev Facts := Nat → World → Prop
def upd (F : Facts) (i : Nat) (G : World → Prop) : Facts := fun j => if j = i then G else F j
theorem upd_same (F : Facts) (i : Nat) (G : World → Prop) : upd F i G i = G := by simp [upd]
theorem upd_ne (F : Facts) {i j : Nat} (G : World → Prop) (h : j ≠ i) : upd F i G j = F j := by simp [upd, h]
theorem upd_swap (F : Facts) {i j : Nat} (G H : World → Prop) (h : i ≠ j) : upd (upd F i G) j H = upd (upd F j H) i G := by
  funext k
  by_cases hi : k = i
  · subst hi; rw [upd_ne _ _ h, upd_same, upd_same]
  · by_cases hj : k = j
    · subst hj; rw [upd_same, upd_ne _ _ hi, upd_same]
    · rw [upd_ne _ _ hj, upd_ne _ _ hi, upd_ne _ _ hi, upd_ne _ _ hj]
def always : World → Prop := fun _ => True
def noFacts : Facts := fun _ => always

section
variable {P : Program} {ops : Array Oper} {w0 : World} {rs : Nat → Option (Value → World → Prop)}

/-- The worlds in which operation k may come up. -/
def Cls (ops : Array Oper) (w0 : World) (F : Facts) (k : Nat) (w : World) : Prop := Ext w0 w ∧ ∀ i, Region.waitsFor .any ops k i = true → F i w
theorem cls_upd {F : Facts} {k i : Nat} {G : World → Prop} (h : Region.waitsFor .any ops k i = false) : Cls ops w0 (upd F i G) k = Cls ops w0 F k := by
  funext w
  refine propext ⟨fun ⟨h1, h2⟩ => ⟨h1, fun j hj => ?_⟩, fun ⟨h1, h2⟩ => ⟨h1, fun j hj => ?_⟩⟩
  · have hne : j ≠ i := fun e => by rw [e, h] at hj; cases hj
    have := h2 j hj
    rwa [upd_ne _ _ hne] at this
  · have hne : j ≠ i := fun e => by rw [e, h] at hj; cases hj
    rw [upd_ne _ _ hne]
    exact h2 j hj
/-- What has been learned stays true. -/
def Stb (G : World → Prop) : Prop := ∀ w w', G w → Ext w w' → G w'
theorem Stb.ext (w1 : World) : Stb (Ext w1) := fun _ _ h e => Ext.trans h e
theorem Stb.always : Stb always := fun _ _ _ _ => trivial
def Stays (F : Facts) : Prop := ∀ i, Stb (F i)
theorem stays_upd {F : Facts} (h : Stays F) (i : Nat) {G : World → Prop} (hG : Stb G) : Stays (upd F i G) := fun j => by
  by_cases hji : j = i
  · subst hji; rw [upd_same]; exact hG
  · rw [upd_ne _ _ hji]; exact h j
/-- Some world meets all that is known. -/
def Sat (w0 : World) (F : Facts) : Prop := Stays F ∧ ∃ w, Ext w0 w ∧ ∀ i, F i w
theorem all_upd {F : Facts} {w w' : World} (hs : Stays F) (h : ∀ i, F i w) (hx : Ext w w') (i : Nat) {G : World → Prop} (hG : G w') : ∀ j, upd F i G j w' := fun j => by
  by_cases hji : j = i
  · subst hji; rw [upd_same]; exact hG
  · rw [upd_ne _ _ hji]; exact hs j w w' (h j) hx

/-- The call hands back v, whatever more there is in memory. -/
def callAt (P : Program) (o : Oper) (a : Act) (w : World) (v : Value) : Prop :=
  ∃ f args, (execOp a.eval o).run P w = .ok (.enter f args) w ∧ P.inits.idxOf? f = none ∧ Calls P f args w (fun e w'' => e = .returned v ∧ Ext w w'')
def valAt (P : Program) (o : Oper) (a : Act) (w : World) (K : (World → Prop) → Value → Prop) : Prop :=
  (∃ u w', (execOp a.eval o).run P w = .ok (.value u) w' ∧ Ext w w' ∧ K (Ext w') u) ∨ (∃ w', (execOp a.eval o).run P w = .ok .skip w' ∧ Ext w w' ∧ K (Ext w') undef)
/-- The call hands back some u of R, whatever more there is in memory. -/
def callR (P : Program) (o : Oper) (a : Act) (w : World) (R : Value → World → Prop) : Prop :=
  ∃ f args, (execOp a.eval o).run P w = .ok (.enter f args) w ∧ Calls P f args w (fun e w'' => ∃ u, e = .returned u ∧ R u w'' ∧ Ext w w'')
def loAt (P : Program) (o : Oper) (a : Act) (C : World → Prop) (K : (World → Prop) → Value → Prop) : Prop :=
  (∃ v, (∀ w, C w → callAt P o a w v) ∧ K always v) ∨ (∀ w, C w → valAt P o a w K)
def rAt (P : Program) (o : Oper) (a : Act) (w0 : World) (C : World → Prop) (R : Value → World → Prop) (K : (World → Prop) → Value → Prop) : Prop :=
  (∀ w, C w → callR P o a w R) ∧ ∀ u w', Ext w0 w' → R u w' → K (Ext w') u
/-- What an operation yields: told by a relation laid ahead where there is one. -/
def anyAt (P : Program) (o : Oper) (a : Act) (w0 : World) (C : World → Prop) (r : Option (Value → World → Prop)) (K : (World → Prop) → Value → Prop) : Prop :=
  match r with
  | none => loAt P o a C K
  | some R => rAt P o a w0 C R K

theorem valAt_mono {o : Oper} {a : Act} {w : World} {K K' : (World → Prop) → Value → Prop} (hK : ∀ G v, Stb G → K G v → K' G v) (h : valAt P o a w K) : valAt P o a w K' := by
  rcases h with ⟨u, w', h1, h2, h3⟩ | ⟨w', h1, h2, h3⟩
  · exact .inl ⟨u, w', h1, h2, hK _ _ (Stb.ext _) h3⟩
  · exact .inr ⟨w', h1, h2, hK _ _ (Stb.ext _) h3⟩
theorem loAt_mono {o : Oper} {a : Act} {C : World → Prop} {K K' : (World → Prop) → Value → Prop} (hK : ∀ G v, Stb G → K G v → K' G v) (h : loAt P o a C K) : loAt P o a C K' := by
  rcases h with ⟨v, h1, h2⟩ | h
  · exact .inl ⟨v, h1, hK _ _ Stb.always h2⟩
  · exact .inr fun w hw => valAt_mono hK (h w hw)
theorem anyAt_mono {o : Oper} {a : Act} {C : World → Prop} {r : Option (Value → World → Prop)} {K K' : (World → Prop) → Value → Prop} (hK : ∀ G v, Stb G → K G v → K' G v) (h : anyAt P o a w0 C r K) : anyAt P o a w0 C r K' := by
  cases r with
  | none => exact loAt_mono hK h
  | some R => exact ⟨h.1, fun u w' hx hr => hK _ _ (Stb.ext _) (h.2 u w' hx hr)⟩
theorem anyAt_congr {r : Option (Value → World → Prop)} {o : Oper} {a a' : Act} {C : World → Prop} {V : (World → Prop) → Value → Prop} (he : execOp a'.eval o = execOp a.eval o) (h : anyAt P o a w0 C r V) : anyAt P o a' w0 C r V := by
  cases r with
  | none => unfold anyAt loAt callAt valAt at *; rw [he]; exact h
  | some R => unfold anyAt rAt callR at *; rw [he]; exact h
/-- From a world of the class it yields something, and a later world knows it. -/
theorem anyAt_some {o : Oper} {a : Act} {C : World → Prop} {r : Option (Value → World → Prop)} {K : (World → Prop) → Value → Prop} {w : World} (hC : C w) (hw : Ext w0 w) (h : anyAt P o a w0 C r K) : ∃ G v w', Ext w w' ∧ G w' ∧ Stb G ∧ K G v := by
  cases r with
  | none =>
    rcases h with ⟨v, _, h2⟩ | h
    · exact ⟨_, v, w, Ext.refl _, trivial, Stb.always, h2⟩
    · rcases h w hC with ⟨u, w', _, hx, h3⟩ | ⟨w', _, hx, h3⟩
      · exact ⟨_, _, w', hx, Ext.refl _, Stb.ext _, h3⟩
      · exact ⟨_, _, w', hx, Ext.refl _, Stb.ext _, h3⟩
  | some R =>
    obtain ⟨f, args, _, hc⟩ := h.1 w hC
    obtain ⟨e, w', _, ⟨u, _, hr, hx⟩, _⟩ := hc []
    exact ⟨_, u, w', hx, Ext.refl _, Stb.ext _, h.2 u w' (Ext.trans hw hx) hr⟩

/-- Operation number i comes up. -/
def xOp (P : Program) (ops : Array Oper) (rs : Nat → Option (Value → World → Prop)) (w0 : World) (i : Nat) (F : Facts) (K : Facts → Act → Prop) (a : Act) : Prop :=
  match ops[i]? with
  | none => K F a
  | some o => if Region.wanted o (yielded ops a.tmps) then anyAt P o a w0 (Cls ops w0 F i) (rs i) (fun G v => K (upd F i G) (a.put o.dst v)) else K (upd F i always) (a.put o.dst undef)

theorem xOp_mono {i : Nat} {o : Oper} {F : Facts} {K K' : Facts → Act → Prop} {a : Act} (ho : ops[i]? = some o) (hK : ∀ G a, Stb G → K (upd F i G) a → K' (upd F i G) a) (h : xOp P ops rs w0 i F K a) : xOp P ops rs w0 i F K' a := by
  unfold xOp at *
  rw [ho] at h ⊢
  dsimp only at h ⊢
  split
  · rename_i hw; rw [if_pos hw] at h; exact anyAt_mono (fun _ _ hG h => hK _ _ hG h) h
  · rename_i hw; rw [if_neg hw] at h; exact hK _ _ Stb.always h

/-- The head of the region in whatever order, tl: its end; L: what is asked where the head has come up. -/
def wpAnyX (P : Program) (ops : Array Oper) (rs : Nat → Option (Value → World → Prop)) (w0 : World) (tl : List Nat) (L : Facts → Array Bool → Act → Prop) : Nat → Facts → Array Bool → Act → Prop
  | 0, F, listed, a => Sat w0 F → L F listed a
  | f + 1, F, listed, a => Sat w0 F → Region.ready .any ops listed ≠ [] ∧ ∀ i ∈ Region.ready .any ops listed, i ∉ tl ∧ xOp P ops rs w0 i F (fun F' a' => wpAnyX P ops rs w0 tl L f F' (listed.setIfInBounds i true) a') a

theorem wpOp_of_xOp {i : Nat} {F : Facts} {K : Facts → Act → Prop} {K' : Act → World → Prop} {Q' : Exit → Act → World → Prop} {a : Act} {w : World} (hw : Ext w0 w) (hF : ∀ i, F i w) (hs : Stays F)
    (h : ∀ F' a' w', Ext w0 w' → (∀ i, F' i w') → Stays F' → K F' a' → K' a' w') (hh : xOp P ops rs w0 i F K a) : wpOp P ops Q' i K' a w := by
  unfold xOp at hh
  unfold wpOp
  split
  · rename_i ho; rw [ho] at hh; exact h _ _ _ hw hF hs hh
  · rename_i o ho
    rw [ho] at hh
    dsimp only at hh
    have hC : Cls ops w0 F i w := ⟨hw, fun j _ => hF j⟩
    split
    · rename_i hwd
      rw [if_pos hwd] at hh
      refine .inl ?_
      unfold Oper.wp
      cases hr : rs i with
      | some R =>
        rw [hr] at hh
        obtain ⟨f, args, hrun, hc⟩ := hh.1 w hC
        rw [hrun]
        exact hc.mono fun e w'' ⟨u, he, hR, hx⟩ => by subst he; exact h _ _ _ (Ext.trans hw hx) (all_upd hs hF hx i (Ext.refl _)) (stays_upd hs i (Stb.ext _)) (hh.2 u w'' (Ext.trans hw hx) hR)
      | none =>
      rw [hr] at hh
      rcases hh with ⟨v, h1, h2⟩ | hh
      · obtain ⟨f, args, hrun, _, hc⟩ := h1 w hC
        rw [hrun]
        exact hc.mono fun e w'' ⟨he, hx⟩ => by subst he; exact h _ _ _ (Ext.trans hw hx) (all_upd hs hF hx i trivial) (stays_upd hs i Stb.always) h2
      · rcases hh w hC with ⟨u, w', hrun, hx, hk⟩ | ⟨w', hrun, hx, hk⟩
        · rw [hrun]; exact h _ _ _ (Ext.trans hw hx) (all_upd hs hF hx i (Ext.refl _)) (stays_upd hs i (Stb.ext _)) hk
        · rw [hrun]; exact h _ _ _ (Ext.trans hw hx) (all_upd hs hF hx i (Ext.refl _)) (stays_upd hs i (Stb.ext _)) hk
    · rename_i hwd
      rw [if_neg hwd] at hh
      exact h _ _ _ hw (all_upd hs hF (Ext.refl _) i trivial) (stays_upd hs i Stb.always) hh

theorem wpAny_of_X {tl : List Nat} {g : Nat} {L : Facts → Array Bool → Act → Prop} {Q' : Exit → Act → World → Prop} (hL : ∀ F listed a w, Ext w0 w → (∀ i, F i w) → L F listed a → wpAny P .any ops Q' g listed a w) :
    ∀ (f : Nat) (F : Facts) (listed : Array Bool) (a : Act) (w : World), Ext w0 w → (∀ i, F i w) → Stays F → wpAnyX P ops rs w0 tl L f F listed a → wpAny P .any ops Q' (f + g) listed a w
  | 0, F, listed, a, w, hw, hF, hs, h => by rw [Nat.zero_add]; exact hL _ _ _ _ hw hF (h ⟨hs, w, hw, hF⟩)
  | f + 1, F, listed, a, w, hw, hF, hs, h => by
    rw [show f + 1 + g = (f + g) + 1 by omega]
    have h := h ⟨hs, w, hw, hF⟩
    exact ⟨fun h0 => absurd h0 h.1, fun i hi => wpOp_of_xOp hw hF hs (fun F' a' w' hw' hF' hs' h' => wpAny_of_X hL f F' _ a' w' hw' hF' hs' h') (h.2 i hi).2⟩

/-- In state a, operation o yields (v, knowing G) of V alone. -/
def Yl (P : Program) (ops : Array Oper) (w0 : World) (C : World → Prop) (r : Option (Value → World → Prop)) (o : Oper) (a : Act) (V : (World → Prop) → Value → Prop) : Prop :=
  (Region.wanted o (yielded ops a.tmps) = true ∧ anyAt P o a w0 C r V) ∨ (Region.wanted o (yielded ops a.tmps) = false ∧ V always undef)

theorem Yl.some_ {C : World → Prop} {r : Option (Value → World → Prop)} {o : Oper} {a : Act} {V : (World → Prop) → Value → Prop} {w : World} (hC : C w) (hw : Ext w0 w) (h : Yl P ops w0 C r o a V) : ∃ G v w', Ext w w' ∧ G w' ∧ Stb G ∧ V G v := by
  rcases h with ⟨_, h⟩ | ⟨_, h⟩
  · exact anyAt_some hC hw h
  · exact ⟨_, _, w, Ext.refl _, trivial, Stb.always, h⟩
theorem Yl.xOp {i : Nat} {o : Oper} {a : Act} {V : (World → Prop) → Value → Prop} {F : Facts} {K : Facts → Act → Prop} (hi : ops[i]? = some o) (h : Yl P ops w0 (Cls ops w0 F i) (rs i) o a V)
    (hK : ∀ G v, V G v → K (upd F i G) (a.put o.dst v)) : xOp P ops rs w0 i F K a := by
  unfold Go.Proofs.Ytgpobhpcbgenoaa.xOp
  rw [hi]
  dsimp only
  rcases h with ⟨hw, h⟩ | ⟨hw, h⟩
  · rw [if_pos hw]; exact anyAt_mono (fun G v _ h => hK G v h) h
  · rw [if_neg (by rw [hw]; exact Bool.false_ne_true)]; exact hK _ _ h
theorem yl_of_xOp {i : Nat} {o : Oper} {a : Act} {F : Facts} {K : Facts → Act → Prop} (hi : ops[i]? = some o) (h : xOp P ops rs w0 i F K a) : Yl P ops w0 (Cls ops w0 F i) (rs i) o a (fun G v => K (upd F i G) (a.put o.dst v)) := by
  unfold xOp at h
  rw [hi] at h
  dsimp only at h
  by_cases hw : Region.wanted o (yielded ops a.tmps) = true
  · rw [if_pos hw] at h; exact .inl ⟨hw, h⟩
  · rw [if_neg hw] at h; exact .inr ⟨by simpa using hw, h⟩
theorem Yl.of_same {C : World → Prop} {r : Option (Value → World → Prop)} {o : Oper} {a a' : Act} {V : (World → Prop) → Value → Prop} (hy : Yl P ops w0 C r o a V) (he : execOp a'.eval o = execOp a.eval o)
    (hw : Region.wanted o (yielded ops a'.tmps) = Region.wanted o (yielded ops a.tmps)) : Yl P ops w0 C r o a' V := by
  unfold Yl at *
  rw [hw]
  exact hy.imp (fun ⟨h1, h2⟩ => ⟨h1, anyAt_congr he h2⟩) id

/-- One call from one world ends in one way. -/
theorem calls_one {f : FuncId} {args : Array Value} {w : World} {v v' : Value} {R R' : World → Prop} (hi : P.inits.idxOf? f = none)
    (h : Calls P f args w fun e w' => e = .returned v ∧ R w') (h' : Calls P f args w fun e w' => e = .returned v' ∧ R' w') : v = v' := by
  obtain ⟨n, u, w1, hr, hu⟩ := (h.mono (R' := fun | .returned u, w' => u = v ∧ R w' | _, _ => False) (fun e w' ⟨he, hw⟩ => by subst he; exact ⟨rfl, hw⟩)).done (R := fun u w' => u = v ∧ R w') hi
  obtain ⟨n', u', w1', hr', hu'⟩ := (h'.mono (R' := fun | .returned u, w' => u = v' ∧ R' w' | _, _ => False) (fun e w' ⟨he, hw⟩ => by subst he; exact ⟨rfl, hw⟩)).done (R := fun u w' => u = v' ∧ R' w') hi
  obtain ⟨rfl, _⟩ := hu
  obtain ⟨rfl, _⟩ := hu'
  have key : ∀ (a b : Nat) (m : Machine) (x y : Value) (p q : World), runN P a m = .ended (.done x) p → runN P (a + b) m = .ended (.done y) q → x = y := by
    intro a b m x y p q h1 h2
    rw [runN_add, h1] at h2
    simp only [Stepped.ended.injEq, Outcome.done.injEq] at h2
    exact h2.1
  rcases Nat.le_total n n' with hle | hle
  · obtain ⟨d, rfl⟩ := Nat.exists_eq_add_of_le hle
    exact key n d _ _ _ _ _ hr hr'
  · obtain ⟨d, rfl⟩ := Nat.exists_eq_add_of_le hle
    exact (key n' d _ _ _ _ _ hr' hr).symm

/-- An operation apart from oi, that does not wait for it, comes up ahead of it. -/
theorem xOp_put {i j : Nat} {oi oj : Oper} {V : (World → Prop) → Value → Prop} (hij : i ≠ j) (hj : ops[j]? = some oj) (hap : oi.apart ops oj = true)
    (hsi : ∀ cs b, oi.op ≠ .select cs b) (hsj : ∀ cs b, oj.op ≠ .select cs b) (hji : Region.waitsFor .any ops j i = false) (hii : Region.waitsFor .any ops i j = false)
    {F : Facts} {K : Facts → Act → Prop} {a : Act} {w : World} (hw : Ext w0 w) (hF : ∀ i, F i w) (hs : Stays F)
    (hy : Yl P ops w0 (Cls ops w0 F i) (rs i) oi a V) (h : ∀ G v, V G v → Sat w0 (upd F i G) → xOp P ops rs w0 j (upd F i G) K (a.put oi.dst v)) :
    xOp P ops rs w0 j F (fun F' a' => Yl P ops w0 (Cls ops w0 F' i) (rs i) oi a' V ∧ ∀ G v, V G v → Sat w0 (upd F i G) → K (upd F' i G) (a'.put oi.dst v)) a := by
  obtain ⟨h1, h2, h3⟩ := Oper.apart_spec hap
  have keep : ∀ u G, Yl P ops w0 (Cls ops w0 (upd F j G) i) (rs i) oi (a.put oj.dst u) V := fun u G => by
    rw [cls_upd hii]
    exact hy.of_same (execOp_put oi hsi a oj.dst u h3) (wanted_put oi a oj.dst u h3)
  obtain ⟨G0, v0, w1, hx1, hG0, hB0, hv0⟩ := hy.some_ (w := w) ⟨hw, fun k _ => hF k⟩ hw
  have sat0 : Sat w0 (upd F i G0) := ⟨stays_upd hs i hB0, w1, Ext.trans hw hx1, all_upd hs hF hx1 i hG0⟩
  unfold xOp at *
  simp only [hj] at *
  have hwt : ∀ v, Region.wanted oj (yielded ops (a.put oi.dst v).tmps) = Region.wanted oj (yielded ops a.tmps) := fun v => wanted_put oj a oi.dst v h1
  have hx : ∀ v, execOp (a.put oi.dst v).eval oj = execOp a.eval oj := fun v => execOp_put oj hsj a oi.dst v h1
  by_cases hwd : Region.wanted oj (yielded ops a.tmps) = true
  · rw [if_pos hwd]
    have hC0 : Cls ops w0 F j w := ⟨hw, fun k _ => hF k⟩
    have h' : ∀ G v, V G v → Sat w0 (upd F i G) → anyAt P oj a w0 (Cls ops w0 F j) (rs j) (fun G' u => K (upd (upd F i G) j G') ((a.put oi.dst v).put oj.dst u)) := fun G v hv hsat => by
      have := h G v hv hsat
      rw [hwt, if_pos hwd, cls_upd hji] at this
      exact anyAt_congr (hx v).symm this
    cases hrj : rs j with
    | some R =>
      rw [hrj] at h'
      refine ⟨(h' G0 v0 hv0 sat0).1, fun u w' hx' hR => ⟨keep u _, fun G v hv hsat => ?_⟩⟩
      rw [← upd_swap _ _ _ hij, ← Act.put_comm a v u h2]
      exact (h' G v hv hsat).2 u w' hx' hR
    | none =>
    rw [hrj] at h'
    by_cases hE : ∃ f args, (execOp a.eval oj).run P w = .ok (.enter f args) w
    · obtain ⟨f, args, hE⟩ := hE
      have h'' : ∀ G v, V G v → Sat w0 (upd F i G) → ∃ u, (∀ w, Cls ops w0 F j w → callAt P oj a w u) ∧ K (upd (upd F i G) j always) ((a.put oi.dst v).put oj.dst u) := fun G v hv hsat => by
        rcases h' G v hv hsat with ⟨u, h1, h2⟩ | h1
        · exact ⟨u, h1, h2⟩
        · rcases h1 w hC0 with ⟨_, _, hr, _⟩ | ⟨_, hr, _⟩ <;> rw [hE] at hr <;> cases hr
      obtain ⟨u0, hu0, _⟩ := h'' G0 v0 hv0 sat0
      refine .inl ⟨u0, hu0, keep u0 _, fun G v hv hsat => ?_⟩
      obtain ⟨u, hu, hk⟩ := h'' G v hv hsat
      obtain ⟨f1, args1, hr1, hi1, hc1⟩ := hu0 w hC0
      obtain ⟨f2, args2, hr2, _, hc2⟩ := hu w hC0
      have heq : f1 = f2 ∧ args1 = args2 := by
        rw [hr1] at hr2; injection hr2 with e1 _; injection e1 with e1 e2; exact ⟨e1, e2⟩
      obtain ⟨rfl, rfl⟩ := heq
      have : u0 = u := calls_one hi1 hc1 hc2
      subst this
      rw [← upd_swap _ _ _ hij, ← Act.put_comm a v u0 h2]
      exact hk
    · refine .inr fun w' hw' => ?_
      have h'' : ∀ G v, V G v → Sat w0 (upd F i G) → valAt P oj a w' (fun G' u => K (upd (upd F i G) j G') ((a.put oi.dst v).put oj.dst u)) := fun G v hv hsat => by
        rcases h' G v hv hsat with ⟨u, h1, h2⟩ | h1
        · obtain ⟨f, args, hr, _⟩ := h1 w hC0
          exact absurd ⟨f, args, hr⟩ hE
        · exact h1 w' hw'
      rcases h'' G0 v0 hv0 sat0 with ⟨u, w2, hr, hx', _⟩ | ⟨w2, hr, hx', _⟩
      · refine .inl ⟨u, w2, hr, hx', keep u _, fun G v hv hsat => ?_⟩
        rcases h'' G v hv hsat with ⟨u1, w3, hr1, _, hk⟩ | ⟨w3, hr1, _, _⟩
        · rw [hr] at hr1
          injection hr1 with e1 e2
          injection e1 with e1
          subst e1 e2
          rw [← upd_swap _ _ _ hij, ← Act.put_comm a v u h2]
          exact hk
        · rw [hr] at hr1; cases hr1
      · refine .inr ⟨w2, hr, hx', keep undef _, fun G v hv hsat => ?_⟩
        rcases h'' G v hv hsat with ⟨u1, w3, hr1, _, hk⟩ | ⟨w3, hr1, _, hk⟩
        · rw [hr] at hr1; cases hr1
        · rw [hr] at hr1
          injection hr1 with e1 e2
          subst e2
          rw [← upd_swap _ _ _ hij, ← Act.put_comm a v undef h2]
          exact hk
  · rw [if_neg hwd]
    refine ⟨keep _ _, fun G v hv hsat => ?_⟩
    have := h G v hv hsat
    rw [hwt, if_neg hwd] at this
    rw [← upd_swap _ _ _ hij, ← Act.put_comm a v undef h2]
    exact this

/-- What has come up is closed under what it waited for; none of the end has come up. -/
structure HInv (ops : Array Oper) (tl : List Nat) (listed : Array Bool) : Prop where
  size : listed.size = ops.size
  closed : ∀ j oj, ops[j]? = some oj → listed.getD j false = true → ∀ e ∈ oj.after, Region.binds .any e = true → listed.getD e.on false = true
  tail : ∀ t ∈ tl, listed.getD t true = false

theorem HInv.set {tl : List Nat} {i : Nat} {listed : Array Bool} (inv : HInv ops tl listed) (hi : i ∈ Region.ready .any ops listed) (hin : i ∉ tl) : HInv ops tl (listed.setIfInBounds i true) := by
  obtain ⟨_, oi, hoi, hall⟩ := mem_ready.1 hi
  refine ⟨by simp [inv.size], fun j oj hj hl e he hb => ?_, fun t ht => by rw [getD_set_ne true (fun e => by subst e; exact hin ht)]; exact inv.tail t ht⟩
  by_cases hij : i = j
  · subst hij
    have : oj = oi := Option.some.inj (hj.symm.trans hoi)
    subst this
    exact getD_set_true (hall e he hb)
  · rw [getD_set_ne false hij] at hl
    exact getD_set_true (inv.closed j oj hj hl e he hb)

def chainL (ops : Array Oper) : Nat → List Nat → Bool
  | _, [] => true
  | t, u :: us => Region.waitsFor .any ops u t && chainL ops u us
theorem chainL_spec : ∀ (us : List Nat) (t : Nat), chainL ops t us = true → ∀ u ∈ us, ∃ q ∈ t :: us, Region.waitsFor .any ops u q = true
  | [], _, _, u, hu => by cases hu
  | v :: us, t, h, u, hu => by
    simp only [chainL, Bool.and_eq_true] at h
    rcases List.mem_cons.1 hu with rfl | hu
    · exact ⟨t, by simp, h.1⟩
    · obtain ⟨q, hq, hw⟩ := chainL_spec us v h.2 u hu
      exact ⟨q, by simp only [List.mem_cons] at hq ⊢; exact .inr hq, hw⟩
/-- The end's operations wait for one another, the first of them for the whole head. -/
def endB (ops : Array Oper) (n : Nat) : List Nat → Bool
  | [] => true
  | t :: ts => chainL ops t ts && (List.range n).all fun i => ((List.range n).any fun j => decide (i < j) && Region.waitsFor .any ops j i) || Region.waitsFor .any ops t i
theorem end_waits {n : Nat} {tl : List Nat} {listed : Array Bool} (hB : endB ops n tl = true) (hn : n ≤ ops.size) (inv : HInv ops tl listed) :
    ∀ (d i : Nat), n - i = d → i < n → listed.getD i true = false → ∀ t ∈ tl, t ∉ Region.ready .any ops listed := by
  cases tl with
  | nil => intro _ _ _ _ _ t ht; cases ht
  | cons t0 ts =>
    simp only [endB, Bool.and_eq_true] at hB
    intro d
    induction d using Nat.strongRecOn with
    | _ d ih =>
      intro i hd hi hun t ht hr
      obtain ⟨_, ot, hot, hall⟩ := mem_ready.1 hr
      rcases List.mem_cons.1 ht with rfl | ht'
      · have h1 := List.all_eq_true.1 hB.2 i (List.mem_range.2 hi)
        simp only [Bool.or_eq_true] at h1
        rcases h1 with h1 | h1
        · obtain ⟨j, hj, hj2⟩ := List.any_eq_true.1 h1
          simp only [Bool.and_eq_true, decide_eq_true_eq] at hj2
          obtain ⟨oj, hoj, e, he, hb, hon⟩ := Region.waitsFor_spec hj2.2
          have hjn := List.mem_range.1 hj
          cases hl : listed.getD j false with
          | true =>
            have h2 := inv.closed j oj hoj hl e he hb
            rw [hon, getD_both hun] at h2
            cases h2
          | false =>
            have hjs : j < listed.size := by rw [inv.size]; omega
            exact ih (n - j) (by omega) j rfl (by omega) (getD_in hjs hl) t (by simp) hr
        · obtain ⟨o', ho', e, he, hb, hon⟩ := Region.waitsFor_spec h1
          have : o' = ot := Option.some.inj (ho'.symm.trans hot)
          subst this
          have h2 := hall e he hb
          rw [hon, getD_both hun] at h2
          cases h2
      · obtain ⟨q, hq, hw⟩ := chainL_spec ts t0 hB.1 t ht'
        obtain ⟨o', ho', e, he, hb, hon⟩ := Region.waitsFor_spec hw
        have : o' = ot := Option.some.inj (ho'.symm.trans hot)
        subst this
        have h2 := hall e he hb
        rw [hon, getD_both (inv.tail q hq)] at h2
        cases h2

/-- The end comes up one by one. -/
def seqL (ops : Array Oper) : List Nat → Array Bool → Bool
  | [], listed => (Region.ready .any ops listed).isEmpty
  | t :: ts, listed => decide (Region.ready .any ops listed = [t]) && seqL ops ts (listed.setIfInBounds t true)
theorem seqL_ready {tl : List Nat} {listed : Array Bool} (h : seqL ops tl listed = true) : ∀ j ∈ Region.ready .any ops listed, j ∈ tl := by
  cases tl with
  | nil => intro j hj; simp only [seqL, List.isEmpty_iff] at h; rw [h] at hj; cases hj
  | cons t ts =>
    intro j hj
    simp only [seqL, Bool.and_eq_true, decide_eq_true_eq] at h
    rw [h.1] at hj
    have : j = t := by simpa using hj
    subst this; simp
def theOps (ops : Array Oper) (tl : List Nat) : List Oper := tl.filterMap fun i => ops[i]?
theorem wpAny_of_seqL {Q' : Exit → Act → World → Prop} : ∀ (tl : List Nat) (listed : Array Bool) (a : Act) (w : World),
    seqL ops tl listed = true → wpList P ops Q' (theOps ops tl) a w → wpAny P .any ops Q' tl.length listed a w
  | [], _, _, _, hB, h => ⟨by simpa [seqL] using hB, h⟩
  | t :: ts, listed, a, w, hB, h => by
    simp only [seqL, Bool.and_eq_true, decide_eq_true_eq] at hB
    have ht : t ∈ Region.ready .any ops listed := by rw [hB.1]; simp
    obtain ⟨_, o, ho, _⟩ := mem_ready.1 ht
    have he : theOps ops (t :: ts) = o :: theOps ops ts := by simp [theOps, ho]
    rw [he] at h
    refine ⟨fun h1 => (by rw [hB.1] at h1; cases h1), fun i hi => ?_⟩
    rw [hB.1] at hi
    have hik : i = t := by simpa using hi
    subst hik
    have hw : wpOp P ops Q' i (wpList P ops Q' (theOps ops ts)) a w := by unfold wpOp; simp only [ho]; exact h
    exact wpOp_mono (fun a' w' h' => wpAny_of_seqL ts _ a' w' hB.2 h') hw

theorem not_waits {i j : Nat} {listed : Array Bool} (hi : i ∈ Region.ready .any ops listed) (hj : listed.getD j true = false) : Region.waitsFor .any ops i j = false := by
  cases h : Region.waitsFor .any ops i j with
  | false => rfl
  | true =>
    obtain ⟨oi, hoi, e, he, hb, hon⟩ := Region.waitsFor_spec h
    obtain ⟨_, o', ho', hall⟩ := mem_ready.1 hi
    have : o' = oi := Option.some.inj (ho'.symm.trans hoi)
    subst this
    have h2 := hall e he hb
    rw [hon, getD_both hj] at h2
    cases h2

theorem Sat.of_upd {F : Facts} {i j : Nat} {G H : World → Prop} (hFj : F j = always) (h : Sat w0 (upd (upd F j H) i G)) : Sat w0 (upd F i G) := by
  obtain ⟨hs, w, hw, h⟩ := h
  have key : ∀ k, upd F i G k = upd (upd F j H) i G k ∨ upd F i G k = always := fun k => by
    by_cases hki : k = i
    · subst hki; rw [upd_same, upd_same]; exact .inl rfl
    · rw [upd_ne _ _ hki, upd_ne _ _ hki]
      by_cases hkj : k = j
      · subst hkj; exact .inr hFj
      · rw [upd_ne _ _ hkj]; exact .inl rfl
  refine ⟨fun k => ?_, w, hw, fun k => ?_⟩
  · rcases key k with e | e <;> rw [e]
    · exact hs k
    · exact Stb.always
  · rcases key k with e | e <;> rw [e]
    · exact h k
    · trivial

/-- What is known of those that have not come up yet: nothing. -/
def Blank (F : Facts) (listed : Array Bool) : Prop := ∀ k, listed.getD k false = false → F k = always
theorem blank_upd {F : Facts} {listed : Array Bool} {i : Nat} (h : Blank F listed) (hi : i < listed.size) (G : World → Prop) : Blank (upd F i G) (listed.setIfInBounds i true) := fun k hk => by
  by_cases hki : k = i
  · subst hki
    rw [Array.getD_eq_getD_getElem?, Array.getElem?_setIfInBounds_self_of_lt hi] at hk
    cases hk
  · rw [upd_ne _ _ hki]
    refine h k ?_
    rwa [getD_set_ne false (Ne.symm hki)] at hk

theorem wpAnyX_guard {tl : List Nat} {L : Facts → Array Bool → Act → Prop} : ∀ {f : Nat} {F : Facts} {listed : Array Bool} {a : Act}, (Sat w0 F → wpAnyX P ops rs w0 tl L f F listed a) → wpAnyX P ops rs w0 tl L f F listed a
  | 0, _, _, _, h => fun hs => h hs hs
  | _ + 1, _, _, _, h => fun hs => h hs hs

theorem wpAnyX_first {n i : Nat} {tl : List Nat} {oi : Oper} {V : (World → Prop) → Value → Prop} {L : Facts → Array Bool → Act → Prop} (hi : ops[i]? = some oi) (hsel : ∀ (j : Nat) (o : Oper) cs b, ops[j]? = some o → o.op ≠ .select cs b)
    (hin : i < n) (hlt : ∀ listed : Array Bool, HInv ops tl listed → listed.getD i true = false → ∀ j ∈ Region.ready .any ops listed, j ∉ tl)
    (hdone : ∀ F listed a, L F listed a → ∀ j ∈ Region.ready .any ops listed, j ∈ tl) :
    ∀ (f : Nat) (F : Facts) (listed : Array Bool) (a : Act), HInv ops tl listed → Blank F listed →
      (∀ j oj, ops[j]? = some oj → j ≠ i → listed.getD j true = false → (∀ e ∈ oj.after, Region.binds .any e = true → e.on ≠ i) → oi.apart ops oj = true) →
      i ∈ Region.ready .any ops listed → Yl P ops w0 (Cls ops w0 F i) (rs i) oi a V →
      (∀ G v, V G v → wpAnyX P ops rs w0 tl L f (upd F i G) (listed.setIfInBounds i true) (a.put oi.dst v)) → wpAnyX P ops rs w0 tl L (f + 1) F listed a := by
  intro f
  induction f with
  | zero =>
    intro F listed a inv _ _ hr hy H hsat
    have hun := (mem_ready.1 hr).1
    obtain ⟨hst, w, hw, hF⟩ := hsat
    refine ⟨fun h => (by rw [h] at hr; cases hr), fun j hj => ?_⟩
    have hjn := hlt listed inv hun j hj
    refine ⟨hjn, ?_⟩
    by_cases hji : j = i
    · subst hji; exact hy.xOp hi H
    · obtain ⟨G, v, w', hx, hG, hB, hv⟩ := hy.some_ (w := w) ⟨hw, fun k _ => hF k⟩ hw
      exact absurd (hdone _ _ _ (H G v hv ⟨stays_upd hst i hB, w', Ext.trans hw hx, all_upd hst hF hx i hG⟩) j (ready_mono hj hji)) hjn
  | succ f ih =>
    intro F listed a inv hbl hfree hr hy H hsat
    have hun := (mem_ready.1 hr).1
    obtain ⟨hst, w, hw, hF⟩ := hsat
    refine ⟨fun h => (by rw [h] at hr; cases hr), fun j hj => ?_⟩
    have hjn := hlt listed inv hun j hj
    refine ⟨hjn, ?_⟩
    by_cases hji : j = i
    · subst hji; exact hy.xOp hi H
    · obtain ⟨hjun, oj, hoj, hall⟩ := mem_ready.1 hj
      have hnot : ∀ e ∈ oj.after, Region.binds .any e = true → e.on ≠ i := fun e he hb heq => by
        have h1 := hall e he hb
        rw [heq, getD_both hun] at h1
        cases h1
      have hjs : j < listed.size := by
        rcases Nat.lt_or_ge j listed.size with h' | h'
        · exact h'
        · simp [Array.getD_eq_getD_getElem?, Array.getElem?_eq_none h'] at hjun
      have h2 := xOp_put (rs := rs) (Ne.symm hji) hoj (hfree j oj hoj hji hjun hnot) (fun cs b => hsel i oi cs b hi) (fun cs b => hsel j oj cs b hoj) (not_waits hj hun) (not_waits hr hjun) hw hF hst hy
        (fun G v hv hs2 => ((H G v hv hs2).2 j (ready_mono hj hji)).2)
      have hfree' : ∀ k ok, ops[k]? = some ok → k ≠ i → (listed.setIfInBounds j true).getD k true = false →
          (∀ e ∈ ok.after, Region.binds .any e = true → e.on ≠ i) → oi.apart ops ok = true := fun k ok hk hki hun hno => by
        refine hfree k ok hk hki ?_ hno
        by_cases hjk : j = k
        · subst hjk; exact hjun
        · rw [getD_set_ne true hjk] at hun; exact hun
      refine xOp_mono hoj (fun G' a' _ h3 => ih (upd F j G') (listed.setIfInBounds j true) a' (inv.set hj hjn) (blank_upd hbl hjs G') hfree' (ready_mono hr (Ne.symm hji)) h3.1 fun G v hv => ?_) h2
      rw [Array.setIfInBounds_comm _ _ hji]
      exact wpAnyX_guard fun hs2 => h3.2 G v hv (Sat.of_upd (hbl j (getD_both hjun)) hs2)

/-- The walk in the order of the text. -/
def wpX (P : Program) (ops : Array Oper) (w0 : World) (L : Facts → Act → Prop) : List Oper → Nat → List (Option (Value → World → Prop)) → Facts → Act → Prop
  | [], _, _, F, a => L F a
  | o :: rest, k, rs, F, a => if Region.wanted o (yielded ops a.tmps) then anyAt P o a w0 (Cls ops w0 F k) (rs.headD none) (fun G v => wpX P ops w0 L rest (k + 1) rs.tail (upd F k G) (a.put o.dst v)) else wpX P ops w0 L rest (k + 1) rs.tail (upd F k always) (a.put o.dst undef)

/-- The head in the order of the text, then the end. -/
def headB (ops : Array Oper) (tl : List Nat) : Nat → Nat → Array Bool → Bool
  | 0, _, listed => seqL ops tl listed
  | f + 1, k, listed => (Region.ready .any ops listed).contains k && Region.free .any ops listed k && !tl.contains k && headB ops tl f (k + 1) (listed.setIfInBounds k true)

theorem headX {n : Nat} {tl : List Nat} {L : Facts → Act → Prop} (hs : Region.noSelect ops = true)
    (hlt : ∀ i, i < n → ∀ listed : Array Bool, HInv ops tl listed → listed.getD i true = false → ∀ j ∈ Region.ready .any ops listed, j ∉ tl) :
    ∀ (l : List Oper) (k : Nat) (F : Facts) (listed : Array Bool) (a : Act), k + l.length = n → (∀ j, j < l.length → l[j]? = ops[k + j]?) → HInv ops tl listed → Blank F listed →
    ∀ ql : List (Option (Value → World → Prop)), (∀ j, rs (k + j) = ql.getD j none) →
    headB ops tl l.length k listed = true → wpX P ops w0 L l k ql F a →
    wpAnyX P ops rs w0 tl (fun F' listed' a' => seqL ops tl listed' = true ∧ L F' a') l.length F listed a
  | [], k, F, listed, a, hk, _, _, _, _, _, hB, h => fun _ => ⟨by simpa [headB] using hB, h⟩
  | o :: l, k, F, listed, a, hk, hl, inv, hbl, ql, hq, hB, h => by
    have h0 : ops[k]? = some o := by simpa using (hl 0 (by simp)).symm
    simp only [List.length_cons] at hk
    simp only [List.length_cons, headB, Bool.and_eq_true] at hB
    obtain ⟨⟨⟨hr, hf⟩, hnt⟩, hB'⟩ := hB
    have hst : xOp P ops rs w0 k F (fun F' a' => wpX P ops w0 L l (k + 1) ql.tail F' a') a := by
      have h1 : rs k = ql.headD none := by
        have := hq 0
        rw [Nat.add_zero] at this
        rw [this]; cases ql <;> rfl
      unfold xOp; rw [h0, h1]; exact h
    have hy := yl_of_xOp h0 hst
    have hr' : k ∈ Region.ready .any ops listed := by simpa using hr
    have hks : k < listed.size := by
      rcases Nat.lt_or_ge k listed.size with h' | h'
      · exact h'
      · have := (mem_ready.1 hr').1
        simp [Array.getD_eq_getD_getElem?, Array.getElem?_eq_none h'] at this
    refine wpAnyX_first (n := n) h0 (Region.noSelect_spec hs) (by omega) (hlt k (by omega)) (fun F' listed' a' h1 j hj => seqL_ready h1.1 j hj) l.length F listed a inv hbl (Region.free_spec h0 hf) hr' hy ?_
    intro G v hv
    exact headX hs hlt l (k + 1) _ _ _ (by omega) (fun j hj => by have := hl (j + 1) (by simpa using hj); simpa [Nat.add_assoc, Nat.add_comm 1 j] using this) (inv.set hr' (by simpa using hnt)) (blank_upd hbl hks G) ql.tail (fun j => by have := hq (j + 1); rw [show k + (j + 1) = k + 1 + j by omega] at this; rw [this]; cases ql <;> rfl) hB' hv

theorem stays_none : Stays noFacts := fun _ => Stb.always
theorem blank_none (listed : Array Bool) : Blank noFacts listed := fun _ _ => rfl

/-- Operations that yield in whatever world are taken first. -/
def preB (ops : Array Oper) (n : Nat) (tl : List Nat) : List Nat → Array Bool → Bool
  | [], listed => headB ops tl n 0 listed
  | i :: is, listed => (Region.ready .any ops listed).contains i && Region.free .any ops listed i && !tl.contains i && preB ops n tl is (listed.setIfInBounds i true)
def wpPre (P : Program) (ops : Array Oper) (K : Act → Prop) : List Nat → Act → Prop
  | [], a => K a
  | i :: is, a => ∃ o, ops[i]? = some o ∧ ∃ v, Yields P ops o v a ∧ wpPre P ops K is (a.put o.dst v)
def orderB (ops : Array Oper) (pre : List Nat) (n : Nat) (tl : List Nat) : Bool :=
  Region.noSelect ops && decide (pre.length + n + tl.length = ops.size) && tl.all (fun t => decide (t < ops.size)) && endB ops n tl && preB ops n tl pre (Array.replicate ops.size false)
def NoFrame (Q : Exit → Act → World → Prop) : Prop := ∀ c d v a w, Q (.panic c) (a.put d v) w → Q (.panic c) a w

/-- The region: some operations taken first (pre), its first n in whatever order, the rest (tl) in a forced one. -/
theorem wp_region_Y {id : Nat} {Q : Exit → Act → World → Prop} {a : Act} {w : World} (pre : List Nat) (n : Nat) (tl : List Nat) (ql : List (Option (Value → World → Prop))) (hm : P.follows .mixedOrders = true) (hB : orderB ops pre n tl = true) (hQ : pre = [] ∨ NoFrame Q)
    (h : wpPre P ops (wpX P ops w (fun F a' => ∀ W, Ext w W → (∀ i, F i W) → wpList P ops Q (theOps ops tl) a' W) (ops.toList.take n) 0 ql noFacts) pre a) : (Code.region id ops true).wp P Q a w := by
  unfold orderB at hB
  simp only [Bool.and_eq_true, decide_eq_true_eq] at hB
  obtain ⟨⟨⟨⟨hs, hsz⟩, htl⟩, hend⟩, hB⟩ := hB
  refine wp_region_any hm ?_
  have hlen : (ops.toList.take n).length = n := by simp; omega
  have inv0 : HInv ops tl (Array.replicate ops.size false) := ⟨by simp, (fun j oj _ hl => by rw [getD_replicate_false] at hl; cases hl), (fun t ht => by
    have h1 := List.all_eq_true.1 htl t ht
    have h2 : t < ops.size := by simpa using h1
    simp [h2])⟩
  have key : ∀ (pre : List Nat) (listed : Array Bool) (a : Act), (pre = [] ∨ NoFrame Q) → HInv ops tl listed → preB ops n tl pre listed = true →
      wpPre P ops (wpX P ops w (fun F a' => ∀ W, Ext w W → (∀ i, F i W) → wpList P ops Q (theOps ops tl) a' W) (ops.toList.take n) 0 ql noFacts) pre a →
      wpAny P .any ops Q (pre.length + (n + tl.length)) listed a { w with drawn := w.drawn + 1 } := by
    intro pre
    induction pre with
    | nil =>
      intro listed a _ inv hB h
      simp only [preB] at hB
      have hX := headX (P := P) (rs := fun j => ql.getD j none) (w0 := w) (n := n) (tl := tl) (L := fun F a' => ∀ W, Ext w W → (∀ i, F i W) → wpList P ops Q (theOps ops tl) a' W) hs
        (fun i hi listed inv hun j hj hjt => end_waits hend (by omega) inv _ i rfl hi hun j hjt hj)
        (ops.toList.take n) 0 noFacts listed a (by rw [hlen, Nat.zero_add]) (fun j hj => by rw [hlen] at hj; simp [hj]) inv (blank_none _) ql (fun j => by rw [Nat.zero_add]) (by rw [hlen]; exact hB) h
      rw [hlen] at hX
      have hfin := wpAny_of_X (P := P) (rs := fun j => ql.getD j none) (w0 := w) (tl := tl) (L := fun F' listed' a' => seqL ops tl listed' = true ∧ ∀ W, Ext w W → (∀ i, F' i W) → wpList P ops Q (theOps ops tl) a' W) (g := tl.length) (Q' := Q) (fun F listed a' w' hw' hF' ⟨hseq, hL⟩ =>
        wpAny_of_seqL tl listed a' w' hseq (hL w' hw' hF')) n noFacts _ a { w with drawn := w.drawn + 1 } ⟨rfl, rfl, rfl, Nat.le_refl _, fun _ _ => rfl⟩ (fun _ => trivial) stays_none hX
      simpa using hfin
    | cons i is ih =>
      intro listed a hQ inv hB h
      simp only [preB, Bool.and_eq_true] at hB
      obtain ⟨⟨⟨hr, hf⟩, hnt⟩, hB'⟩ := hB
      obtain ⟨o, ho, v, hy, h⟩ := h
      have hQ' : NoFrame Q := hQ.resolve_left (by simp)
      rw [show (i :: is).length + (n + tl.length) = (is.length + (n + tl.length)) + 1 by simp only [List.length_cons]; omega]
      exact wpAny_take ho hs hf hr (fun c a w => hQ' c o.dst v a w) hy (ih _ _ (.inr hQ') (inv.set (by simpa using hr) (by simpa using hnt)) hB' h)
  have hfin := key pre (Array.replicate ops.size false) a hQ inv0 hB h
  rwa [show pre.length + (n + tl.length) = ops.size by omega] at hfin
end
end Go.Proofs.Ytgpobhpcbgenoaa
