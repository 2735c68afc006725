/- Lists of pictures in memory, and the volume that they make. -/
import Derived.Test.YtgpobhpcbgenoaaSpecV
import Derived.Test.YtgpobhpcbgenoaaAcc2
import Derived.Test.YtgpobhpcbgenoaaMade
import Derived.Test.YtgpobhpcbgenoaaVolOf
import Derived.Test.YtgpobhpcbgenoaaCell
namespace Go.Proofs.Ytgpobhpcbgenoaa
open Go.RowKit
set_option linter.unusedVariables false

/-- Pictures of one size that lie in a row; L j: the words of the j-th, all not-a-numbers made one. -/
def PicL (w : World) (gp off d : Nat) (wn hn : Int) (n : Nat) (L : Nat → List Nat) : Prop :=
  ∀ j, j < d → ∃ ga oa c b, w.cell? ⟨gp, off + j * 3, none⟩ = some (.int .i64 wn) ∧ w.cell? ⟨gp, off + j * 3 + 1, none⟩ = some (.int .i64 hn) ∧ w.cell? ⟨gp, off + j * 3 + 2, none⟩ = some (.slice (some ⟨ga, oa, none⟩) n c) ∧ Lies w ga oa b ∧ b.length = n ∧ b.map nrm = L j
theorem PicL.ext {w w' : World} {gp off d : Nat} {wn hn : Int} {n : Nat} {L : Nat → List Nat} (h : PicL w gp off d wn hn n L) (hx : Ext w w') : PicL w' gp off d wn hn n L := fun j hj => by
  obtain ⟨ga, oa, c, b, h0, h1, h2, h3, h4, h5⟩ := h j hj
  exact ⟨ga, oa, c, b, cell_ext h0 hx, cell_ext h1 hx, cell_ext h2 hx, h3.ext hx, h4, h5⟩
/-- The words of the volume that they make. -/
def stL (L : Nat → List Nat) (d k : Nat) : List Nat := (List.range k).map fun m => (L (m % d)).getD (m / d) 0
theorem stL_length (L : Nat → List Nat) (d k : Nat) : (stL L d k).length = k := by simp [stL]
theorem stL_step (L : Nat → List Nat) (d i j : Nat) (hj : j < d) : stL L d (i * d + j + 1) = stL L d (i * d + j) ++ [(L j).getD i 0] := by
  have h1 : (i * d + j) % d = j := by rw [Nat.mul_comm i d, Nat.mul_add_mod, Nat.mod_eq_of_lt hj]
  have h2 : (i * d + j) / d = i := by rw [Nat.mul_comm i d, Nat.mul_add_div (by omega), Nat.div_eq_of_lt hj, Nat.add_zero]
  unfold stL
  rw [List.range_succ, List.map_append]
  show _ ++ [(L ((i * d + j) % d)).getD ((i * d + j) / d) 0] = _
  rw [h1, h2]
theorem nrm_getD (b L : List Nat) (h : b.map nrm = L) (i : Nat) (hi : i < b.length) : nrm (b.getD i 0) = L.getD i 0 := by
  subst h
  simp [List.getD_eq_getElem?_getD, List.getElem?_eq_getElem hi]
theorem getD_at {b : List Nat} {x : Nat} {i : Nat} (h : b.getD i 0 = x) : b.getD i 0 = x := h
/-- What the cells of a row of pictures tell. -/
def PicF (w : World) (tF : TypeId) (wn hn : Int) (n : Nat) (L : Nat → List Nat) (xs : List Value) (k : Nat) : Prop :=
  ∀ j, j < k → ∃ ga c b, xs[j * 3]? = some (.int .i64 wn) ∧ xs[j * 3 + 1]? = some (.int .i64 hn) ∧ xs[j * 3 + 2]? = some (.slice (some ⟨ga, 0, none⟩) n c) ∧ Lies w ga 0 b ∧ b.length = n ∧ b.map nrm = L j ∧ ∃ cs fz, w.heap[ga]? = some (.cells cs tF fz)
theorem PicF.ext {w w' : World} {tF : TypeId} {wn hn : Int} {n : Nat} {L : Nat → List Nat} {xs : List Value} {k : Nat} (h : PicF w tF wn hn n L xs k) (hx : Ext w w') : PicF w' tF wn hn n L xs k := fun j hj => by
  obtain ⟨ga, c, b, h0, h1, h2, h3, h4, h5, cs, fz, h6⟩ := h j hj
  exact ⟨ga, c, b, h0, h1, h2, h3.ext hx, h4, h5, cs, fz, (hx.block _ (lt_of_block h6)).trans h6⟩
/-- A row of pictures of the call's own. -/
def OwnP (w : World) (base : Nat) (e tF : TypeId) (v : Value) (wn hn : Int) (n : Nat) (L : Nat → List Nat) (k : Nat) : Prop :=
  ∃ xs, w.ownsRow base e 3 v k xs ∧ PicF w tF wn hn n L xs k
theorem ownsRow_ext3 {w w' : World} {base n : Nat} {e : TypeId} {v : Value} {xs : List Value} (h : w.ownsRow base e 3 v n xs) (k : Ext w w') : w'.ownsRow base e 3 v n xs := by
  refine ⟨h.1, ?_⟩
  rcases h.2 with h2 | ⟨g, cap, cur, hv, hg, hh, r⟩
  · exact .inl h2
  · exact .inr ⟨g, cap, cur, hv, hg, (k.block g (lt_of_block hh)).trans hh, r⟩
theorem OwnP.ext {w w' : World} {base : Nat} {e tF : TypeId} {v : Value} {wn hn : Int} {n : Nat} {L : Nat → List Nat} {k : Nat} (h : OwnP w base e tF v wn hn n L k) (hx : Ext w w') : OwnP w' base e tF v wn hn n L k := by
  obtain ⟨xs, h1, h2⟩ := h
  exact ⟨xs, ownsRow_ext3 h1 hx, h2.ext hx⟩
theorem OwnP.made (w : World) (e tF : TypeId) (wn hn : Int) (n : Nat) (L : Nat → List Nat) : OwnP (w.alloc (.cells #[] e)) w.heap.size e tF (.slice (some ⟨w.heap.size, 0, none⟩) 0 0) wn hn n L 0 :=
  ⟨[], World.ownsRow_made (size := 3) w #[] 0 (Nat.le_refl _) (by unfold maxLen; omega) rfl, fun j hj => by omega⟩
theorem OwnP.form {w : World} {base : Nat} {e tF : TypeId} {v : Value} {wn hn : Int} {n : Nat} {L : Nat → List Nat} {k : Nat} (h : OwnP w base e tF v wn hn n L k) : ∃ A c, v = .slice A k c := by
  obtain ⟨xs, h1, h2⟩ := h
  rcases h1.2 with ⟨rfl, rfl⟩ | ⟨g, cap, cur, rfl, r⟩
  · exact ⟨_, _, rfl⟩
  · exact ⟨_, _, rfl⟩
theorem OwnP.pics {w : World} {base : Nat} {e tF : TypeId} {A : Option Addr} {c : Nat} {wn hn : Int} {n : Nat} {L : Nat → List Nat} {k : Nat} (h : OwnP w base e tF (.slice A k c) wn hn n L k) (hk : 0 < k) : ∃ gp, A = some ⟨gp, 0, none⟩ ∧ PicL w gp 0 k wn hn n L := by
  obtain ⟨xs, h1, h2⟩ := h
  obtain ⟨gp, rfl⟩ : ∃ gp, A = some ⟨gp, 0, none⟩ := by
    rcases h1.2 with ⟨_, h0⟩ | ⟨g, cap, cur, hv, r⟩
    · omega
    · simp only [Value.slice.injEq] at hv
      exact ⟨g, hv.1⟩
  refine ⟨gp, rfl, fun j hj => ?_⟩
  obtain ⟨ga, c', b, q0, q1, q2, q3, q4, q5, _⟩ := h2 j hj
  refine ⟨ga, 0, c', b, ?_, ?_, ?_, q3, q4, q5⟩
  · rw [Nat.zero_add, World.ownsRow.cellAt h1 _ (by omega), q0]
  · rw [Nat.zero_add, World.ownsRow.cellAt h1 _ (by omega), q1]
  · rw [Nat.zero_add, World.ownsRow.cellAt h1 _ (by omega), q2]
/-- One picture more. -/
theorem OwnP.push {Z w2 : World} {base B : Nat} {e tF : TypeId} {v v' : Value} {wn hn : Int} {n : Nat} {L : Nat → List Nat} {k : Nat} {xs : List Value} (hrow : Z.ownsRow base e 3 v k xs) (hp : PicF Z tF wn hn n L xs k) (hne : tF ≠ e) {A : Option Addr} {c : Nat} {b : List Nat} (hb : OwnF Z B tF (.slice A b.length c) b) (hl : b.length = n) (hn0 : 0 < n) (hL : b.map nrm = L k)
    (ho : w2.ownsRow base e 3 v' (k + 1) (xs ++ [.int .i64 wn, .int .i64 hn, .slice A b.length c])) (hg : Z.grownBy w2 v.ownBlock) : OwnP w2 base e tF v' wn hn n L (k + 1) := by
  have hxl := hrow.1
  have key : ∀ ga (cs : Array Value) fz, Z.heap[ga]? = some (.cells cs tF fz) → some ga ≠ v.ownBlock := by
    intro ga cs fz hga he
    rcases hrow.2 with ⟨rfl, _⟩ | ⟨g, cap, cur, rfl, _, hh, _⟩
    · simp [Value.ownBlock] at he
    · simp [Value.ownBlock] at he
      subst he
      rw [hh] at hga
      simp at hga
      exact hne hga.2.1.symm
  refine ⟨_, ho, fun j hj => ?_⟩
  by_cases hjk : j < k
  · obtain ⟨ga, c', b', q0, q1, q2, q3, q4, q5, cs, fz, q6⟩ := hp j hjk
    refine ⟨ga, c', b', ?_, ?_, ?_, fun i hi => hg.cell (q3 i hi) (key ga cs fz q6), q4, q5, cs, fz, (hg.block _ (lt_of_block q6) (key ga cs fz q6)).trans q6⟩
    · rw [List.getElem?_append_left (by omega), q0]
    · rw [List.getElem?_append_left (by omega), q1]
    · rw [List.getElem?_append_left (by omega), q2]
  · obtain rfl : j = k := by omega
    obtain ⟨ga, rfl⟩ := hb.at (by omega)
    have hlz := hb.lies
    obtain ⟨cs, fz, q6⟩ : ∃ cs fz, Z.heap[ga]? = some (.cells cs tF fz) := by
      rcases hb.2 with ⟨h2, _⟩ | ⟨g', cap, cur, hv, hg', hh, _⟩
      · simp at h2
      · simp only [Value.slice.injEq, Option.some.injEq, Addr.mk.injEq] at hv
        obtain ⟨⟨rfl, _⟩, _⟩ := hv
        exact ⟨_, _, hh⟩
    refine ⟨ga, c, b, ?_, ?_, ?_, fun i hi => hg.cell (hlz i hi) (key ga cs fz q6), hl, hL, cs, fz, (hg.block _ (lt_of_block q6) (key ga cs fz q6)).trans q6⟩
    · rw [List.getElem?_append_right (by omega), hxl]; simp
    · rw [List.getElem?_append_right (by omega), hxl, show j * 3 + 1 - j * 3 = 1 by omega]; rfl
    · rw [List.getElem?_append_right (by omega), hxl, show j * 3 + 2 - j * 3 = 2 by omega, hl]; rfl
theorem OwnP.set {w : World} {base : Nat} {e tF t : TypeId} {v : Value} {wn hn : Int} {n : Nat} {L : Nat → List Nat} {k : Nat} (h : OwnP w base e tF v wn hn n L k) {g : Nat} {cs : Array Value} {fz : Nat × Nat} (hg : w.heap[g]? = some (.cells cs t fz)) (h1 : t ≠ e) (h2 : t ≠ tF) (i : Nat) (u : Value) : OwnP (w.setCell ⟨g, i, none⟩ u) base e tF v wn hn n L k := by
  obtain ⟨xs, hr, hp⟩ := h
  have key : ∀ (q : Nat) (cs' : Array Value) (t' : TypeId) fz', w.heap[q]? = some (.cells cs' t' fz') → t ≠ t' → q ≠ g := by
    intro q cs' t' fz' hq ht he
    subst he
    rw [hq] at hg
    simp at hg
    exact ht hg.2.1.symm
  have hblk : ∀ (q : Nat) o, q ≠ g → w.heap[q]? = some o → (w.setCell ⟨g, i, none⟩ u).heap[q]? = some o := fun q o hq ho => by
    simp [World.setCell, Array.getElem?_modify, Ne.symm hq, ho]
  refine ⟨xs, ⟨hr.1, ?_⟩, fun j hj => ?_⟩
  · rcases hr.2 with h3 | ⟨q, cap, cur, hv, hb, hh, r⟩
    · exact .inl h3
    · exact .inr ⟨q, cap, cur, hv, hb, hblk _ _ (key _ _ _ _ hh h1) hh, r⟩
  · obtain ⟨ga, c, b, q0, q1, q2, q3, q4, q5, cs', fz', q6⟩ := hp j hj
    have hne := key _ _ _ _ q6 h2
    exact ⟨ga, c, b, q0, q1, q2, fun k hk => set_cell_ne (q3 k hk) hne, q4, q5, cs', fz', hblk _ _ hne q6⟩
theorem pic_new {w : World} {H : Nat} {a b c : Value} (h0 : w.cell? ⟨H, 0, none⟩ = some a) (h1 : w.cell? ⟨H, 1, none⟩ = some b) (h2 : w.cell? ⟨H, 2, none⟩ = some c) : ∀ j u, [a, b, c][j]? = some u → w.cell? ((⟨H, 0, none⟩ : Addr).add j) = some u := fun j u hu => by
  match j, hu with
  | 0, hu => simp only [List.getElem?_cons_zero, Option.some.injEq] at hu; subst hu; exact h0
  | 1, hu => simp only [List.getElem?_cons_succ, List.getElem?_cons_zero, Option.some.injEq] at hu; subst hu; exact h1
  | 2, hu => simp only [List.getElem?_cons_succ, List.getElem?_cons_zero, Option.some.injEq] at hu; subst hu; exact h2
  | j + 3, hu => simp at hu
theorem pic_words (wn hn : Int) (A : Option Addr) (n c : Nat) : ∀ u ∈ [Value.int .i64 wn, .int .i64 hn, .slice A n c], u.oneCell' = true := fun u hu => by
  simp at hu
  rcases hu with rfl | rfl | rfl <;> rfl
theorem wlp_at {P : Program} {ops : Array Oper} {Q : Exit → Act → World → Prop} {l : List Oper} {a : Act} {w : World} {X : World → Prop} (hX : X w) (h : ∀ w', X w' → wpList P ops Q l a w') : wpList P ops Q l a w := h w hX
theorem infoP : (Try.prog.info? 58).map (fun i => (i.zero, i.size, i.bytes)) = some (some (.agg #[.int .i64 0, .int .i64 0, .slice none 0 0]), 3, 40) := by kernel_rfl
set_option maxHeartbeats 4000000 in
set_option maxRecDepth 8000 in
theorem l03Stack_any (gp off d c n : Nat) (wn hn : Int) (L : Nat → List Nat) (U : World) (hP : PicL U gp off d wn hn n L) (hd : 1 ≤ d ∧ d ≤ 8) (hn0 : 0 < n ∧ n ≤ 256) :
    Calls Try.prog 84 #[.slice (some ⟨gp, off, none⟩) d c] U fun e U' => ∃ A c' b, e = .returned (.agg #[.int .i64 wn, .int .i64 hn, .int .i64 d, .slice A b.length c']) ∧ OwnF U' U.heap.size 25 (.slice A b.length c') b ∧ b.map nrm = stL L d (n * d) ∧ Ext U U' := by
  obtain ⟨i0, hi, hz0, hz1, hz2⟩ := info_parts infoF
  obtain ⟨g0, o0, k0, b0, hc0, hc1, hc2, hl0, hlen0, _⟩ := hP 0 (by omega)
  have hgl := lt_of_cell hc0
  rw [Nat.zero_mul, Nat.add_zero] at hc0 hc1 hc2
  have hnd : n * d ≤ 256 * 8 := Nat.mul_le_mul hn0.2 hd.2
  have HP := Lib.hid (fun (i l : Nat) (hi' : i < n) (hl' : l < d) => (show i * d + l < 2048 by
    have h1 : i * d + d ≤ n * d := by rw [← Nat.succ_mul]; exact Nat.mul_le_mul_right _ hi'
    omega))
  have HPL := Lib.hid (fun (W : World) (hW : Ext U W) => hP.ext hW)
  have HD := Lib.hid hd
  have HN := Lib.hid hn0
  have d0 : (0 : Int) < (d : Int) := by omega
  clear hP hl0 hlen0 hnd hn0
  go_enter Try.func84, Try.ntmps84
  go_wp2_with fail
  refine wp_at (X := fun w' => Ext U w' ∧ U.heap.size + 1 ≤ w'.heap.size ∧ Res4 w' U.heap.size) ⟨(Ext.refl _).alloc _, by simp, ⟨by simp [go_sem], by simp [go_sem], by simp [go_sem], by simp [go_sem], by simp [go_sem], by simp [go_sem], by simp [go_sem], by simp [go_sem]⟩⟩ ?_
  rintro w0 ⟨hx0, hs0, hres⟩
  replace hc0 := cell_ext hc0 hx0
  replace hc1 := cell_ext hc1 hx0
  replace hc2 := cell_ext hc2 hx0
  refine region_wx 12 [] (by kernel_rfl) (by kernel_rfl) ?_
  simp only [List.take_succ_cons, List.take_zero, List.drop_succ_cons, List.drop_zero]
  repeat ((first | refine wx_skip rfl ?_ | refine wx_nilCheck rfl rfl _ rfl _ rfl ?_ | (refine wx_float rfl rfl _ _ _ _ _ _ _ rfl rfl rfl rfl ?_; intro r hr) | (refine wx_k rfl rfl rfl (fun K hK => ?_); go_big_quiet_op; refine hK _ ?_; clear hK K) | (refine wx_alloc rfl rfl 34 rfl #[.int .i64 0, .int .i64 0, .int .i64 0, .slice none 0 0] (fun Z => by simp [Instr.alloc, go_sem]) ?_; intro Va hVa)); (try simp only [Act.put, List.setIfInBounds_toArray, List.set_cons_zero, List.set_cons_succ]); (try simp only [List.tail_nil]))
  refine wx_nil (fun W hW hF => ?_)
  have hAW : Ext (Va.alloc (.cells #[.int .i64 0, .int .i64 0, .int .i64 0, .slice none 0 0] 34)) W := hF 11
  have hAg := hVa.size
  have rB := (⟨by simp [go_sem], by simp [go_sem], by simp [go_sem], by simp [go_sem], by simp [go_sem], by simp [go_sem], by simp [go_sem], by simp [go_sem]⟩ : Res4 (Va.alloc (.cells #[.int .i64 0, .int .i64 0, .int .i64 0, .slice none 0 0] 34)) Va.heap.size).ext hAW
  have rH : W.heap[Va.heap.size]? = some (.cells #[.int .i64 0, .int .i64 0, .int .i64 0, .slice none 0 0] 34 (0, 0)) := (hAW.block _ (by simp)).trans (heap_alloc_new _ _)
  clear hAW
  generalize Va.heap.size = go at hAg rB rH ⊢
  have hgo := rB.lt
  clear hF hVa
  have ⟨r0, r1, r2, r3, rf0, rf1, rf2, rf3⟩ := rB
  replace hc0 := cell_ext hc0 hW
  replace hc1 := cell_ext hc1 hW
  replace hc2 := cell_ext hc2 hW
  have gng : ¬ (go = gp) := by have := hx0.size; omega
  go_wp2_with fail
  go_loopw [22] (fun iv wr => ∃ (i : Nat) (A : Option Addr) (c' : Nat) (b : List Nat), i ≤ n ∧ iv = .int .i64 i ∧ Acc2 w0 wr w0.heap.size 25 34 go 3 A c' b (stL L d (i * d)) ∧ wr.cell? ⟨go, 0, none⟩ = some (.int .i64 wn) ∧ wr.cell? ⟨go, 1, none⟩ = some (.int .i64 hn) ∧ wr.cell? ⟨go, 2, none⟩ = some (.int .i64 d)) (fun iv _ => n - (intOf iv).toNat)
  case atStart =>
    refine ⟨0, none, 0, [], Nat.zero_le _, rfl, ⟨OwnF.nil _ _ _, ?_, by simp [go_sem, *], by simp [go_sem, *], by simp [stL], ?_, Nat.le_refl _, hAg⟩, by simp [go_sem, *], by simp [go_sem, *], by simp [go_sem, *]⟩
    · repeat (first | with_reducible exact ⟨_, _, rH⟩ | with_reducible refine blk_set ?_)
    · repeat (first | with_reducible exact hW | (with_reducible refine Ext.setCell ?_ (by dsimp only; omega) _))
  case round =>
    clear r0 r1 r2 r3 rf0 rf1 rf2 rf3 rB rH hgo hW hc0 hc1 hc2
    obtain ⟨i, A, c', b, hin, rfl, hacc, v0, v1, v2⟩ := hrel
    have ⟨n1, n2⟩ := HN.out
    by_cases hlt : i < n
    · go_wp2_with fail
      go_loopw [27] (fun jv wq => ∃ (j : Nat) (A : Option Addr) (c' : Nat) (b : List Nat), j ≤ d ∧ jv = .int .i64 j ∧ Acc2 w0 wq w0.heap.size 25 34 go 3 A c' b (stL L d (i * d + j)) ∧ wq.cell? ⟨go, 0, none⟩ = some (.int .i64 wn) ∧ wq.cell? ⟨go, 1, none⟩ = some (.int .i64 hn) ∧ wq.cell? ⟨go, 2, none⟩ = some (.int .i64 d)) (fun jv _ => d - (intOf jv).toNat)
      case atStart => exact ⟨0, A, c', b, Nat.zero_le _, rfl, hacc, v0, v1, v2⟩
      case round =>
        clear hacc v0 v1 v2
        obtain ⟨j, A, c', b, hjd, rfl, hacc, v0, v1, v2⟩ := hrel
        have ⟨d1, d8⟩ := HD.out
        by_cases hltj : j < d
        · obtain ⟨ga, oa, ka, ba, q0, q1, q2, hl, hbl, hbm⟩ := HPL.out wr (hx0.trans hacc.ext) j hltj
          have hca := hl i (by omega)
          have hnv := nrm_getD ba (L j) hbm i (by omega)
          generalize ba.getD i 0 = X at hca hnv
          have hst := stL_step L d i j hltj
          rw [← hnv] at hst
          have HST := Lib.hid hst
          have x0 : (0 : Int) ≤ (j : Int) := by omega
          have x1 : (j : Int) < (d : Int) := by omega
          have y0 : (0 : Int) ≤ (i : Int) := by omega
          have y1 : (i : Int) < (n : Int) := by omega
          have hhdr := hacc.hdr
          clear hl hbl hbm hnv hst q0 q1
          go_wp2_with fail
          refine region_wx 11 [] (by kernel_rfl) (by kernel_rfl) ?_
          simp only [List.take_succ_cons, List.take_zero, List.drop_succ_cons, List.drop_zero]
          repeat ((first | refine wx_skip rfl ?_ | refine wx_nilCheck rfl rfl _ rfl _ rfl ?_ | (refine wx_float rfl rfl _ _ _ _ _ _ _ rfl rfl rfl rfl ?_; intro r hr) | (refine wx_k rfl rfl rfl (fun K hK => ?_); go_big_quiet_op; refine hK _ ?_; clear hK K) | (refine wx_bs rfl rfl _ _ _ rfl _ rfl (fun Z => bs1 _ Z) ?_; intro H V2 hV2 hcell)); (try simp only [Act.put, List.setIfInBounds_toArray, List.set_cons_zero, List.set_cons_succ]); (try simp only [List.tail_nil]))
          refine wx_nil (fun W hW hF => ?_)
          have hVW : Ext V2 W := hF 10
          have hcell1 := cell_ext hcell hVW
          have hown1 := hacc.own.ext hW
          have hcl := hacc.len
          rw [stL_length] at hcl
          have hpp := HP.out i j hlt hltj
          have hsz1 := hacc.ext.size
          have hsz2 := hW.size
          have hHl := lt_of_cell hcell1
          clear hF hcell hVW hV2
          refine wpList_append_own _ rfl _ _ _ rfl w0.heap.size 25 i0 (.float .f32 0) 1 4 Try.underlying22 hi hz0 hz1 hz2 rfl (by omega) (.slice A b.length c') b.length (b.map fl) (by rfl) hown1 ⟨H, 0, none⟩ 1 1 [fl X] (by rfl) rfl (one_new hcell1) (one_word _) (by unfold maxLen; omega) (by omega) (by omega) ?_
          intro v' w2 ho2 hg2 _
          obtain ⟨A', c2', b2', rfl, hacc', ⟨hh2, hf2⟩, hold, holdf⟩ := hacc.push (by decide) hW (rs := [X]) (Xs := [nrm X]) ho2 hg2 rfl
          have m0 := hold _ _ _ v0 (hacc.ne (by decide)) (by simp)
          have m1 := hold _ _ _ v1 (hacc.ne (by decide)) (by simp)
          have m2 := hold _ _ _ v2 (hacc.ne (by decide)) (by simp)
          rw [← HST.out] at hacc'
          clear hold holdf hown1 hhdr hacc ho2 hg2 hW v0 v1 v2 hcell1 q2 hca hcl
          go_wp2
          go_roundw
          case rel => exact ⟨j + 1, A', c2', b2', by omega, by go_num, hacc', m0, m1, m2⟩
          case measure => simp [intOf]; omega
        · have e1 : j = d := by omega
          have hst : stL L d (i * d + j) = stL L d ((i + 1) * d) := by rw [Nat.succ_mul, e1]
          rw [hst] at hacc
          clear hst e1
          go_wp2
          go_roundw
          case rel => exact ⟨i + 1, A, c', b, by omega, by go_num, hacc, v0, v1, v2⟩
          case measure => simp [intOf]; omega
    · have e1 : i = n := by omega
      have ⟨c0, c1, c2, c3, f0, f1, f2, f3⟩ := hres.ext hacc.ext
      have hhdr := hacc.hdr
      have hE2 := hx0.trans hacc.ext
      have hown := hacc.own
      have hlike := hacc.like
      rw [e1] at hlike
      have HLK := Lib.hid hlike
      clear hacc hlike e1
      go_wp2
      refine bodyPost_ret (v := .agg #[.int .i64 wn, .int .i64 hn, .int .i64 d, .slice A b.length c']) (by simp [results, Try.results84, go_sem, *]) rfl ⟨A, c', b, rfl, ?_, HLK.out, ?_⟩
      · refine OwnF.weaken (base := w0.heap.size) ?_ (by omega)
        repeat (first | (with_reducible exact hown) | (with_reducible refine OwnF.set_below ?_ (by dsimp only; omega) _))
      · repeat (first | (with_reducible exact hE2) | (with_reducible refine Ext.setCell ?_ (by dsimp only; omega) _))
end Go.Proofs.Ytgpobhpcbgenoaa
