/- Contracts: the reference's row that costs least. -/
import Derived.Test.YthkfbmboiabolaaSolveN
import Derived.Test.YthkfbmboiabolaaTurn
import Derived.Test.YthkfbmboiabolaaNew
import Derived.Test.YthkfbmboiabolaaPrice
import Derived.Test.YthkfbmboiabolaaMade
namespace Go.Proofs.Ythkfbmboiabolaa
open Go.RowKit
set_option linter.unusedVariables false

theorem is_fop {op : BinOp} {q a b A B : Nat} (h : Is q (fop op a b)) (ha : nrm a = A) (hb : nrm b = B) : Is q (fop op A B) := by
  subst ha hb
  rw [fop_nrm]
  exact h
theorem infoIs : (Try.prog.info? 2).map (fun i => (i.zero, i.size, i.bytes)) = some (some (.int .i64 0), 1, 8) := by kernel_rfl
section
variable {P : Program} {ops : Array Oper} {w0 : World} {R : Act → World → Prop} {ql : List (Option (Value → World → Prop))}
theorem toList_zerosI (n : Nat) : (madeCells (Value.cells (.int .i64 0)) (n * 1)).toList = (List.replicate n (0 : Int)).map it := by
  rw [List.map_replicate, show n * 1 = n by omega]
  exact toList_madeCells_one (.int .i64 0) n
/-- A made row of whole zeros. -/
theorem wx_makeI {o : Oper} {rest : List Oper} {k : Nat} {F : Facts} {a : Act} (hq0 : ql.headD none = none) (hw : Region.wanted o (yielded ops a.tmps) = true) (t e : TypeId) (i : TypeInfo) (x y : Operand) (ho : o.op = .makeSlice t x y) (n : Nat)
    (ht : P.underlying t = some (.slice e)) (hi : P.info? e = some i) (hz : i.zero = some (.int .i64 0)) (hs : i.size = 1) (hb : i.bytes = 8) (kl kc : IntKind) (hx : a.eval x = .int kl n) (hy : a.eval y = .int kc n) (hn : n ≤ 1048576)
    (h : ∀ (H : Nat) (W : World), Ext w0 W → OwnI W w0.heap.size e (.slice (some ⟨H, 0, none⟩) n n) (List.replicate n 0) → wx P ops w0 R rest (k + 1) ql.tail (upd F k (Ext W)) (a.put o.dst (.slice (some ⟨H, 0, none⟩) n n))) : wx P ops w0 R (o :: rest) k ql F a := by
  refine wx_new (fun u W' => ∃ H, u = .slice (some ⟨H, 0, none⟩) n n ∧ OwnI W' w0.heap.size e (.slice (some ⟨H, 0, none⟩) n n) (List.replicate n 0)) hq0 hw (fun W hW => ?_) (fun u W' hW ⟨H, hu, hO⟩ => by subst hu; exact h H W' hW hO)
  obtain ⟨w', hr, h2, h3⟩ := run_make_full (P := P) W w0.heap.size t e i (.int .i64 0) 1 ht hi hz hs kl kc n (by rw [hb]; omega) (by unfold maxLen; omega) hW.size
  refine ⟨.slice (some ⟨W.heap.size, 0, none⟩) n n, w', ?_, (Below.refl _ _).grown h3 (Nat.le_refl _) (fun k hk => by cases hk), W.heap.size, rfl, ?_⟩
  · unfold execOp
    rw [ho]
    simp [hx, hy, hr]
  · unfold OwnI
    rw [List.length_replicate, ← toList_zerosI]
    exact h2
end
/-- The words of a cell. -/
theorem cell_getD (bs : List Nat) (k dn d : Nat) (h : d < dn) (hk : k + dn ≤ bs.length) : ((bs.drop k).take dn).getD d 0 = bs.getD (k + d) 0 := by
  have h1 : d < ((bs.drop k).take dn).length := by simp; omega
  rw [List.getD_eq_getElem?_getD, List.getD_eq_getElem?_getD, List.getElem?_eq_getElem h1, List.getElem?_eq_getElem (show k + d < bs.length by omega)]
  simp
theorem flI_one (F : Nat → Nat) : flI F 1 = 0 := by unfold flI; split <;> rfl
/-- Words, but for the not-a-numbers. -/
def WordsN (bs : List Nat) : Prop := ∀ k, isN (bs.getD k 0) = false → bs.getD k 0 < 4294967296
theorem Words.n {bs : List Nat} (h : Words bs) : WordsN bs := fun k _ => wd_at h k
theorem wordsN_of {b L : List Nat} (h : b.map nrm = L) (hL : ∀ l ∈ L, l < 4294967296) : WordsN b := fun k hk => by
  by_cases hlt : k < b.length
  · have h1 : b.getD k 0 = b[k] := by simp [List.getD_eq_getElem?_getD, List.getElem?_eq_getElem hlt]
    rw [h1] at hk ⊢
    have h2 := hL (nrm b[k]) (by rw [← h]; exact List.mem_map.2 ⟨_, List.getElem_mem hlt, rfl⟩)
    rw [nrm_of _ hk] at h2
    exact h2
  · have h1 : b.getD k 0 = 0 := by simp [List.getD_eq_getElem?_getD, List.getElem?_eq_none (show b.length ≤ k by omega)]
    rw [h1]
    decide
theorem geF_not {a : Nat} (h : geF a 0 = true) : isN a = false := by
  cases hn : isN a with
  | false => rfl
  | true =>
    unfold geF at h
    rw [order_nan_left a 0 hn] at h
    cases h
theorem rowC_nrm (wn dn : Nat) (b : List Nat) (y : Nat) : rowC wn dn (b.map nrm) y = rowC wn dn b y := by
  funext x d
  unfold rowC
  generalize cellN (wn : Int) (x : Int) (y : Int) * dn + d = k
  by_cases hlt : k < b.length
  · simp [List.getD_eq_getElem?_getD, List.getElem?_eq_getElem hlt, nrm_nrm]
  · simp [List.getD_eq_getElem?_getD, List.getElem?_eq_none (show b.length ≤ k by omega)]
/-- The table so far: the last row of costs, the ways. -/
def TabT (C : Nat → Nat → Nat) (p0 p1 dn x : Nat) (ts : List Nat) : Prop := ts.length = dn ∧ ∀ d, d < dn → Is (ts.getD d 0) (solT C p0 p1 dn x d)
def TabP (C : Nat → Nat → Nat) (p0 p1 wn dn x j : Nat) (ps : List Int) : Prop := ps.length = wn * dn ∧ (∀ u d, 1 ≤ u → u < x → d < dn → ps.getD (u * dn + d) 0 = ((solP C p0 p1 dn (u - 1) d : Nat) : Int)) ∧ ∀ d, d < j → ps.getD (x * dn + d) 0 = ((solP C p0 p1 dn (x - 1) d : Nat) : Int)
def TabN (C : Nat → Nat → Nat) (p0 p1 dn x j : Nat) (ns : List Nat) : Prop := ns.length = dn ∧ ∀ d, d < j → Is (ns.getD d 0) (solT C p0 p1 dn x d)
theorem idx_lt {wn dn x d : Nat} (hx : x < wn) (hd : d < dn) : x * dn + d < wn * dn := by
  have h1 : (x + 1) * dn ≤ wn * dn := Nat.mul_le_mul_right _ hx
  rw [Nat.succ_mul] at h1
  omega
theorem idx_inj {dn u d x j : Nat} (hd : d < dn) (hj : j < dn) (h : u * dn + d = x * dn + j) : u = x ∧ d = j := by
  have h1 : (u * dn + d) / dn = u := by rw [Nat.mul_comm, Nat.mul_add_div (by omega), Nat.div_eq_of_lt hd]; rfl
  have h2 : (x * dn + j) / dn = x := by rw [Nat.mul_comm, Nat.mul_add_div (by omega), Nat.div_eq_of_lt hj]; rfl
  have h3 : u = x := by rw [← h1, h, h2]
  subst h3
  exact ⟨rfl, by omega⟩
theorem TabP.put {C : Nat → Nat → Nat} {p0 p1 wn dn x j : Nat} {ps : List Int} (h : TabP C p0 p1 wn dn x j ps) (hx : x < wn) (hj : j < dn) : TabP C p0 p1 wn dn x (j + 1) (ps.set (x * dn + j) ((solP C p0 p1 dn (x - 1) j : Nat) : Int)) := by
  obtain ⟨hl, h1, h2⟩ := h
  have hi := idx_lt hx hj
  refine ⟨by simp [hl], fun u d hu hux hd => ?_, fun d hd => ?_⟩
  · have hne : ¬ (x * dn + j = u * dn + d) := fun he => by have := (idx_inj hd hj he.symm).1; omega
    rw [List.getD_eq_getElem?_getD, List.getElem?_set_ne hne, ← List.getD_eq_getElem?_getD]
    exact h1 u d hu hux hd
  · by_cases hdj : d = j
    · subst hdj
      simp [List.getD_eq_getElem?_getD, hl, hi]
    · have hne : ¬ (x * dn + j = x * dn + d) := by omega
      rw [List.getD_eq_getElem?_getD, List.getElem?_set_ne hne, ← List.getD_eq_getElem?_getD]
      exact h2 d (by omega)
theorem TabP.next {C : Nat → Nat → Nat} {p0 p1 wn dn x : Nat} {ps : List Int} (h : TabP C p0 p1 wn dn x dn ps) : TabP C p0 p1 wn dn (x + 1) 0 ps :=
  ⟨h.1, fun u d hu hux hd => by
    by_cases hu2 : u < x
    · exact h.2.1 u d hu hu2 hd
    · obtain rfl : u = x := by omega
      exact h.2.2 d hd, fun d hd => by omega⟩
theorem TabN.put {C : Nat → Nat → Nat} {p0 p1 dn x j : Nat} {ns : List Nat} (h : TabN C p0 p1 dn x j ns) (hj : j < dn) {r : Nat} (hr : Is r (solT C p0 p1 dn x j)) : TabN C p0 p1 dn x (j + 1) (ns.set j r) := by
  obtain ⟨hl, h1⟩ := h
  refine ⟨by simp [hl], fun d hd => ?_⟩
  by_cases hdj : d = j
  · subst hdj
    rw [show (ns.set d r).getD d 0 = r by simp [List.getD_eq_getElem?_getD, hl, hj]]
    exact hr
  · rw [List.getD_eq_getElem?_getD, List.getElem?_set_ne (by omega), ← List.getD_eq_getElem?_getD]
    exact h1 d (by omega)
theorem TabN.next {C : Nat → Nat → Nat} {p0 p1 dn x : Nat} {ns : List Nat} (h : TabN C p0 p1 dn x dn ns) : TabT C p0 p1 dn (x + 1 - 1) ns := ⟨h.1, fun d hd => by rw [Nat.add_sub_cancel]; exact h.2 d hd⟩
theorem solT_next (C : Nat → Nat → Nat) (p0 p1 dn d : Nat) {x : Nat} (hx : 1 ≤ x) : solT C p0 p1 dn x d = fop .add (solF p0 p1 (solT C p0 p1 dn (x - 1)) d (flI (solF p0 p1 (solT C p0 p1 dn (x - 1)) d) dn)) (C x d) := by
  obtain ⟨k, rfl⟩ : ∃ k, x = k + 1 := ⟨x - 1, by omega⟩
  rfl
theorem solP_eq (C : Nat → Nat → Nat) (p0 p1 dn x d : Nat) : solP C p0 p1 dn x d = flI (solF p0 p1 (solT C p0 p1 dn x) d) dn := rfl
theorem OwnF.set_ne' {w : World} {base : Nat} {e : TypeId} {g n c : Nat} {bs : List Nat} (h : OwnF w base e (.slice (some ⟨g, 0, none⟩) n c) bs) {g' i : Nat} {u : Value} (ha : ¬ g = g') : OwnF (w.setCell ⟨g', i, none⟩ u) base e (.slice (some ⟨g, 0, none⟩) n c) bs := h.set_ne (fun q hq => by simp [Value.ownBlock] at hq; subst hq; exact ha) u
theorem OwnI.set_ne' {w : World} {base : Nat} {e : TypeId} {g n c : Nat} {bs : List Int} (h : OwnI w base e (.slice (some ⟨g, 0, none⟩) n c) bs) {g' i : Nat} {u : Value} (ha : ¬ g = g') : OwnI (w.setCell ⟨g', i, none⟩ u) base e (.slice (some ⟨g, 0, none⟩) n c) bs := h.set_ne (fun q hq => by simp [Value.ownBlock] at hq; subst hq; exact ha) u
theorem OwnI.drewN {w : World} {base : Nat} {e : TypeId} {v : Value} {bs : List Int} (h : OwnI w base e v bs) (k : Nat) : OwnI (w.drewN k) base e v bs := h
/-- The way back so far. -/
def TabR (B : Nat → Nat) (wn k : Nat) (rs : List Int) : Prop := rs.length = wn ∧ ∀ i, wn - k ≤ i → i < wn → rs.getD i 0 = ((B (wn - 1 - i) : Nat) : Int)
theorem TabR.put {B : Nat → Nat} {wn k : Nat} {rs : List Int} (h : TabR B wn k rs) (hk : k < wn) : TabR B wn (k + 1) (rs.set (wn - 1 - k) ((B k : Nat) : Int)) := by
  obtain ⟨hl, h1⟩ := h
  refine ⟨by simp [hl], fun i hi hw => ?_⟩
  by_cases he : i = wn - 1 - k
  · subst he
    rw [show wn - 1 - (wn - 1 - k) = k by omega]
    have hlt : wn - 1 - k < wn := by omega
    simp [List.getD_eq_getElem?_getD, hl, hlt]
  · rw [List.getD_eq_getElem?_getD, List.getElem?_set_ne (by omega), ← List.getD_eq_getElem?_getD]
    exact h1 i (by omega) hw
theorem TabR.all {C : Nat → Nat → Nat} {p0 p1 dn wn : Nat} {rs : List Int} (h : TabR (solB C p0 p1 dn wn) wn wn rs) : Eqi rs (solL C p0 p1 dn wn) := by
  obtain ⟨hl, h1⟩ := h
  refine List.ext_getElem (by simp [solL, hl]) (fun i h2 h3 => ?_)
  have := h1 i (by omega) (by omega)
  rw [List.getD_eq_getElem?_getD, List.getElem?_eq_getElem h2] at this
  simp only [Option.getD_some] at this
  rw [this]
  simp [solL]
end Go.Proofs.Ythkfbmboiabolaa
