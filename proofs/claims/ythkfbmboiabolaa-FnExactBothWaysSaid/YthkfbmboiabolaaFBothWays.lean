/- The law on BothWays holds. -/
import Derived.Test.YthkfbmboiabolaaPathC
import Derived.Test.YthkfbmboiabolaaPathSR
import Derived.Test.YthkfbmboiabolaaSpecV
import Derived.Test.YthkfbmboiabolaaPathOk
import Derived.Test.YthkfbmboiabolaaTwins
import Derived.Test.YthkfbmboiabolaaCBothWays
namespace Go.Proofs.Ythkfbmboiabolaa
open Go.RowKit
set_option linter.unusedVariables false

/-- What a cell of the sum is. -/
def bothF (wn dn : Nat) (LA LB bs : List Nat) (x y e : Nat) : Nat := fop .sub (fop .add (LA.getD ((x + wn * y) * dn + e) 0) (LB.getD ((x + wn * y) * dn + e) 0)) (nrm (bs.getD ((x + wn * y) * dn + e) 0))
theorem set_same {l : Array Bool} {k n : Nat} (hs : l.size = n) (hk : k < n) : (l.setIfInBounds k true).getD k false = true := by
  simp [Array.getD_eq_getD_getElem?, hs, hk]
theorem set_other {l : Array Bool} {k j : Nat} (h : k ≠ j) : (l.setIfInBounds k true).getD j false = l.getD j false := by
  simp [Array.getD_eq_getD_getElem?, h]
theorem dep_on {ops : Array Oper} {listed : Array Bool} {k : Nat} {o : Oper} (ho : ops[k]? = some o) (hk : k ∈ Region.ready .any ops listed) (j : Nat) (hj : (o.after.any fun e => Region.binds .any e && e.on == j) = true) : listed.getD j false = true := by
  obtain ⟨_, o', ho', h⟩ := mem_ready.1 hk
  have : o' = o := Option.some.inj (ho'.symm.trans ho)
  subst this
  obtain ⟨e, he, hb⟩ := Array.any_eq_true'.1 hj
  simp only [Bool.and_eq_true, beq_iff_eq] at hb
  rw [← hb.2]; exact h e he hb.1
theorem done_before {ops : Array Oper} {listed : Array Bool} {k : Nat} (hk : k ∈ Region.ready .any ops listed) : listed.getD k true = false := (mem_ready.1 hk).1
theorem ready_of {ops : Array Oper} {listed : Array Bool} {k : Nat} {o : Oper} (ho : ops[k]? = some o) (hk : k < listed.size) (hun : listed.getD k false = false) (ds : List Nat) (hB : (o.after.all fun e => !Region.binds .any e || ds.contains e.on) = true) (hds : ∀ j ∈ ds, listed.getD j false = true) : k ∈ Region.ready .any ops listed := by
  refine mem_ready.2 ⟨?_, o, ho, fun e he hb => hds _ ?_⟩
  · rw [Array.getD_eq_getD_getElem?, Array.getElem?_eq_getElem hk] at hun ⊢
    exact hun
  · have := Array.all_eq_true_iff_forall_mem.1 hB e he
    rw [hb] at this
    simpa using this
theorem not_nil {α : Type} {x : α} {l : List α} (h : x ∈ l) : l ≠ [] := fun e => by rw [e] at h; cases h
theorem full10 {l : Array Bool} (hs : l.size = 10) (h0 : l.getD 0 false = true) (h1 : l.getD 1 false = true) (h2 : l.getD 2 false = true) (h3 : l.getD 3 false = true) (h4 : l.getD 4 false = true) (h5 : l.getD 5 false = true) (h6 : l.getD 6 false = true) (h7 : l.getD 7 false = true) (h8 : l.getD 8 false = false) (h9 : l.getD 9 false = false) :
    l = #[true, true, true, true, true, true, true, true, false, false] := by
  obtain ⟨xs⟩ := l
  match xs, hs with
  | [a, b, c, d, e, f, g, h, i, j], _ =>
    simp [Array.getD_eq_getD_getElem?] at h0 h1 h2 h3 h4 h5 h6 h7 h8 h9
    subst h0 h1 h2 h3 h4 h5 h6 h7 h8 h9
    rfl
set_option maxHeartbeats 1000000 in
theorem both1_any (wn hn dn gb off n c ha ca hb' cb ga gbb gv : Nat) (bs ba bb LA LB : List Nat) (B1 B2 : Nat) (x y e : Nat) (U : World) (hB : Box4 U gv (.int .i64 wn) (.int .i64 hn) (.int .i64 dn) (.slice (some ⟨gb, off, none⟩) n c)) (hBa : Box4 U ga (.int .i64 wn) (.int .i64 hn) (.int .i64 dn) (.slice (some ⟨ha, 0, none⟩) n ca)) (hBb : Box4 U gbb (.int .i64 wn) (.int .i64 hn) (.int .i64 dn) (.slice (some ⟨hb', 0, none⟩) n cb)) (hl : Lies U gb off bs) (hlen : bs.length = n) (hwd : Words bs) (hnc : n ≤ c) (hcm : c ≤ maxLen) (hv : VVol wn hn dn n)
    (hoa : OwnF U B1 23 (.slice (some ⟨ha, 0, none⟩) n ca) ba) (hma : ba.map nrm = LA) (hwa : Words ba) (hca : n ≤ ca ∧ ca ≤ maxLen) (hob : OwnF U B2 23 (.slice (some ⟨hb', 0, none⟩) n cb) bb) (hmb : bb.map nrm = LB) (hwb : Words bb) (hcb : n ≤ cb ∧ cb ≤ maxLen) (hx : x < wn) (hy : y < hn) (he : e < dn) :
    Calls Try.prog 68 #[.int .i64 x, .int .i64 y, .int .i64 e, .pointer (some ⟨ga, 0, none⟩), .pointer (some ⟨gbb, 0, none⟩), .pointer (some ⟨gv, 0, none⟩)] U fun e' U' => ∃ r, e' = .returned (.float .f32 r) ∧ Is r (bothF wn dn LA LB bs x y e) ∧ Ext U U' := by
  have hd8 : dn ≤ 8 := by have := hv.2.2.1; omega
  have hbx : (0 : Int) ≤ (x : Int) ∧ (x : Int) ≤ (wn : Int) - 1 := ⟨by omega, by omega⟩
  have hby : (0 : Int) ≤ (y : Int) ∧ (y : Int) ≤ (hn : Int) - 1 := ⟨by omega, by omega⟩
  have hcell := fun (W : World) (hx' : Ext U W) => cellC_any gv wn hn dn gb off n c (x : Int) (y : Int) W (hB.ext hx') hnc hcm hv hbx hby
  have hcela := fun (W : World) (hx' : Ext U W) => cellC_any ga wn hn dn ha 0 n ca (x : Int) (y : Int) W (hBa.ext hx') hca.1 hca.2 hv hbx hby
  have hcelb := fun (W : World) (hx' : Ext U W) => cellC_any gbb wn hn dn hb' 0 n cb (x : Int) (y : Int) W (hBb.ext hx') hcb.1 hcb.2 hv hbx hby
  have hkn := cell_k hv hbx hby
  have hlaa : n = ba.length := hoa.len
  have hlbb : n = bb.length := hob.len
  unfold bothF
  rw [← cellN_nat]
  generalize cellN (wn : Int) (x : Int) (y : Int) * dn = k at hcell hcela hcelb hkn ⊢
  have hga := getD_of_map hma (k + e)
  have hgb := getD_of_map hmb (k + e)
  rw [← hga, ← hgb]
  have hcv := hl (k + e) (by omega)
  rw [← Nat.add_assoc] at hcv
  have hcva := hoa.cell (i := k + e) (by omega)
  have hcvb := hob.cell (i := k + e) (by omega)
  have hwv := wd_at hwd (k + e)
  have hwva := wd_at hwa (k + e)
  have hwvb := wd_at hwb (k + e)
  generalize bs.getD (k + e) 0 = v at hcv hwv ⊢
  generalize ba.getD (k + e) 0 = va at hcva hwva ⊢
  generalize bb.getD (k + e) 0 = vb at hcvb hwvb ⊢
  have HC := Lib.hid hcell
  have HCA := Lib.hid (fun W hW => (by have := hcela W hW; rw [Nat.zero_add] at this; exact this : Calls Try.prog 52 #[.pointer (some ⟨ga, 0, none⟩), .int .i64 x, .int .i64 y] W fun e U' => e = .returned (.slice (some ⟨ha, k, none⟩) dn dn) ∧ Ext W U'))
  have HCB := Lib.hid (fun W hW => (by have := hcelb W hW; rw [Nat.zero_add] at this; exact this : Calls Try.prog 52 #[.pointer (some ⟨gbb, 0, none⟩), .int .i64 x, .int .i64 y] W fun e U' => e = .returned (.slice (some ⟨hb', k, none⟩) dn dn) ∧ Ext W U'))
  obtain ⟨q0, q1, q2, q3⟩ := hB
  obtain ⟨a0, a1, a2, a3⟩ := hBa
  obtain ⟨b0, b1, b2, b3⟩ := hBb
  have j0 : (0 : Int) ≤ (e : Int) := by omega
  have j1 : (e : Int) < (dn : Int) := by omega
  clear hl hlen hnc hcm hv hcell hcela hcelb hbx hby hkn hwd hoa hob hma hmb hwa hwb hca hcb hga hgb hlaa hlbb
  go_enter Try.func68, Try.ntmps68
  go_wp2_with fail
  refine region_wx 20 [] (by kernel_rfl) (by kernel_rfl) ?_
  simp only [List.take_succ_cons, List.take_zero, List.drop_succ_cons, List.drop_zero]
  repeat ((first | refine wx_skip rfl ?_ | refine wx_nilCheck rfl rfl _ rfl _ rfl ?_ | (refine wx_float rfl rfl _ _ _ _ _ _ _ rfl rfl rfl rfl ?_; intro r hr) | (refine wx_k rfl rfl rfl (fun K hK => ?_); go_big_quiet_op; refine hK _ ?_; clear hK K) | (refine wx_call rfl rfl 52 _ _ rfl (by kernel_rfl) (by kernel_rfl) (.slice (some ⟨gb, off + k, none⟩) dn dn) (fun W hW hF => ?_) ?_; go_simp; (with_reducible refine (HC.out W hW).mono ?_); rintro e w' h; exact h) | (refine wx_call rfl rfl 52 _ _ rfl (by kernel_rfl) (by kernel_rfl) (.slice (some ⟨ha, k, none⟩) dn dn) (fun W hW hF => ?_) ?_; go_simp; (with_reducible refine (HCA.out W hW).mono ?_); rintro e w' h; exact h) | (refine wx_call rfl rfl 52 _ _ rfl (by kernel_rfl) (by kernel_rfl) (.slice (some ⟨hb', k, none⟩) dn dn) (fun W hW hF => ?_) ?_; go_simp; (with_reducible refine (HCB.out W hW).mono ?_); rintro e w' h; exact h)); (try simp only [Act.put, List.setIfInBounds_toArray, List.set_cons_zero, List.set_cons_succ]); (try simp only [List.tail_nil]))
  refine wx_nil (fun W hW hF => ?_)
  rename_i r1 hr1
  go_wp2
  go_ret
  exact ⟨_, rfl, Is.op (Is.op (nrm_word hwva) (nrm_word hwvb) hr1) (nrm_word hwv) hr, hW⟩
/-- What the two calls hand back. -/
def RawV (wn hn dn n : Nat) (e : TypeId) (base : Nat) (L : List Nat) (v : Value) (w : World) : Prop := ∃ H c b, v = .agg #[.int .i64 wn, .int .i64 hn, .int .i64 dn, .slice (some ⟨H, 0, none⟩) n c] ∧ OwnF w base e (.slice (some ⟨H, 0, none⟩) n c) b ∧ b.map nrm = L ∧ Words b
theorem RawV.ext {wn hn dn n : Nat} {e : TypeId} {base : Nat} {L : List Nat} {v : Value} {w w' : World} (h : RawV wn hn dn n e base L v w) (k : Ext w w') : RawV wn hn dn n e base L v w' := by
  obtain ⟨H, c, b, h1, h2, h3, h4⟩ := h
  exact ⟨H, c, b, h1, h2.ext k, h3, h4⟩
/-- A new volume's block. -/
def NewB (t : TypeId) (w0 : Nat) (p : Value) (w : World) : Prop := ∃ g, p = .pointer (some ⟨g, 0, none⟩) ∧ w0 ≤ g ∧ w.heap[g]? = some (.cells #[.int .i64 0, .int .i64 0, .int .i64 0, .slice none 0 0] t (0, 0))
theorem NewB.ext {t : TypeId} {w0 : Nat} {p : Value} {w w' : World} (h : NewB t w0 p w) (k : Ext w w') : NewB t w0 p w' := by
  obtain ⟨g, h1, h2, h3⟩ := h
  exact ⟨g, h1, h2, (k.block g (lt_of_block h3)).trans h3⟩
theorem NewB.ne {t : TypeId} {w0 g : Nat} {p : Value} {w : World} (h : NewB t w0 p w) (hg : w.heap.size ≤ g) : p ≠ .pointer (some ⟨g, 0, none⟩) := by
  obtain ⟨g', h1, h2, h3⟩ := h
  have := lt_of_block h3
  rw [h1]
  intro he
  simp only [Value.pointer.injEq, Option.some.injEq, Addr.mk.injEq] at he
  omega
set_option maxHeartbeats 8000000 in
set_option maxRecDepth 8000 in
theorem implBothWays_yes (wn hn dn gb off n c p0 p1 : Nat) (bs LA LB : List Nat) (U : World) (hl : Lies U gb off bs) (hlen : bs.length = n) (hwd : Words bs) (hnc : n ≤ c) (hcm : c ≤ maxLen) (hok : POk wn hn dn n p0 p1 0)
    (hraw0 : ∀ W, Ext U W → Calls Try.prog 66 #[.agg #[.int .i64 wn, .int .i64 hn, .int .i64 dn, .slice (some ⟨gb, off, none⟩) n c], .agg #[.float .f32 p0, .float .f32 p1], .int .i64 0] W fun e W' => ∃ H c' b, e = .returned (.agg #[.int .i64 wn, .int .i64 hn, .int .i64 dn, .slice (some ⟨H, 0, none⟩) n c']) ∧ OwnF W' W.heap.size 23 (.slice (some ⟨H, 0, none⟩) n c') b ∧ b.map nrm = LA ∧ Words b ∧ Ext W W')
    (hraw1 : ∀ W, Ext U W → Calls Try.prog 66 #[.agg #[.int .i64 wn, .int .i64 hn, .int .i64 dn, .slice (some ⟨gb, off, none⟩) n c], .agg #[.float .f32 p0, .float .f32 p1], .int .i64 1] W fun e W' => ∃ H c' b, e = .returned (.agg #[.int .i64 wn, .int .i64 hn, .int .i64 dn, .slice (some ⟨H, 0, none⟩) n c']) ∧ OwnF W' W.heap.size 23 (.slice (some ⟨H, 0, none⟩) n c') b ∧ b.map nrm = LB ∧ Words b ∧ Ext W W') :
    Calls Try.prog 37 #[.agg #[.int .i64 wn, .int .i64 hn, .int .i64 dn, .slice (some ⟨gb, off, none⟩) n c], .agg #[.float .f32 p0, .float .f32 p1]] U fun e U' => ∃ A c' b, e = .returned (.tuple #[.agg #[.int .i64 wn, .int .i64 hn, .int .i64 dn, .slice A b.length c'], .bool true]) ∧ OwnF U' U.heap.size 23 (.slice A b.length c') b ∧ b.map nrm = cells3 (bothF wn dn LA LB bs) wn dn (wn * hn * dn) ∧ Ext U U' := by
  have hv := hok.1
  have hnm := Nat.le_trans hnc hcm
  have HOK := Lib.hid hok
  have HR0 := Lib.hid hraw0
  have HR1 := Lib.hid hraw1
  have HCL := Lib.hid (fun (W : World) (hE : Ext U W) (ga gbb : Nat) (ha ca hb' cb : Nat) (ba bb : List Nat) (B1 B2 : Nat) (hB : Box4 W U.heap.size (.int .i64 wn) (.int .i64 hn) (.int .i64 dn) (.slice (some ⟨gb, off, none⟩) n c)) (hBa : Box4 W ga (.int .i64 wn) (.int .i64 hn) (.int .i64 dn) (.slice (some ⟨ha, 0, none⟩) n ca)) (hBb : Box4 W gbb (.int .i64 wn) (.int .i64 hn) (.int .i64 dn) (.slice (some ⟨hb', 0, none⟩) n cb)) (hoa : OwnF W B1 23 (.slice (some ⟨ha, 0, none⟩) n ca) ba) (hma : ba.map nrm = LA) (hwa : Words ba) (hca : n ≤ ca ∧ ca ≤ maxLen) (hob : OwnF W B2 23 (.slice (some ⟨hb', 0, none⟩) n cb) bb) (hmb : bb.map nrm = LB) (hwb : Words bb) (hcb : n ≤ cb ∧ cb ≤ maxLen) =>
    revolume_yes wn hn dn (some ⟨gb, off, none⟩) n c hnm hv 68 #[.pointer (some ⟨ga, 0, none⟩), .pointer (some ⟨gbb, 0, none⟩), .pointer (some ⟨U.heap.size, 0, none⟩)] (bothF wn dn LA LB bs) W (by kernel_rfl)
      (fun x y e W' hx h1 h2 h3 => both1_any wn hn dn gb off n c ha ca hb' cb ga gbb U.heap.size bs ba bb LA LB B1 B2 x y e W' (hB.ext hx) (hBa.ext hx) (hBb.ext hx) ((hl.ext hE).ext hx) hlen hwd hnc hcm hv (hoa.ext hx) hma hwa hca (hob.ext hx) hmb hwb hcb h1 h2 h3))
  clear hl hlen hwd hnc hcm hok hraw0 hraw1 hv
  go_enter Try.func37, Try.ntmps37
  go_wp2_with fail
  refine calls_at (X := fun w' => Ext U w' ∧ Box4 w' U.heap.size (.int .i64 wn) (.int .i64 hn) (.int .i64 dn) (.slice (some ⟨gb, off, none⟩) n c) ∧ Box2 w' (U.heap.size + 1) (fl p0) (fl p1) ∧ Res4 w' (U.heap.size + 1 + 1) ∧ U.heap.size + 1 + 1 + 1 ≤ w'.heap.size) ⟨(((Ext.refl _).alloc _).alloc _).alloc _, ⟨by simp [go_sem], by simp [go_sem], by simp [go_sem], by simp [go_sem]⟩, ⟨by simp [go_sem], by simp [go_sem]⟩, ⟨by simp [go_sem], by simp [go_sem], by simp [go_sem], by simp [go_sem], by simp [go_sem], by simp [go_sem], by simp [go_sem], by simp [go_sem]⟩, by simp⟩ ?_
  rintro w0 ⟨hE, hb, hq, hr, hs⟩
  refine (pathOk_yes wn hn dn _ n c p0 p1 0 hnm HOK.out _).mono ?_
  rintro e w1 ⟨rfl, hx⟩
  replace hE := hE.trans hx
  replace hb := hb.ext hx
  replace hq := hq.ext hx
  replace hr := hr.ext hx
  replace hs := Nat.le_trans hs hx.size
  clear hx
  have ⟨b0, b1, b2, b3⟩ := hb
  have ⟨q0, q1⟩ := hq
  go_wp2_with fail
  refine region_keep (by kernel_rfl) 8 (fun listed a w => ∃ (x6 x7 x13 x14 x15 x16 x17 x18 : Value), a = { tmps := #[.agg #[.int .i64 (wn : Int), .int .i64 (hn : Int), .int .i64 (dn : Int), .slice (some ⟨gb, off, none⟩) n c], .agg #[.float .f32 p0, .float .f32 p1], .pointer (some ⟨U.heap.size, 0, none⟩), .pointer (some ⟨U.heap.size + 1, 0, none⟩), .pointer (some ⟨U.heap.size + 1 + 1, 0, none⟩), .bool false, x6, x7, .agg #[.int .i64 (wn : Int), .int .i64 (hn : Int), .int .i64 (dn : Int), .slice (some ⟨gb, off, none⟩) n c], .agg #[.float .f32 p0, .float .f32 p1], .bool true, .bool false, undef, x13, x14, x15, x16, x17, x18, undef, undef, undef, undef, undef], defers := [] } ∧ Ext w1 w ∧ (listed.getD 0 false = true → x13 = .agg #[.int .i64 (wn : Int), .int .i64 (hn : Int), .int .i64 (dn : Int), .slice (some ⟨gb, off, none⟩) n c]) ∧ (listed.getD 1 false = true → x14 = .agg #[.float .f32 p0, .float .f32 p1]) ∧ (listed.getD 2 false = true → RawV wn hn dn n 23 U.heap.size LA x15 w) ∧ (listed.getD 3 false = true → x16 = .agg #[.int .i64 (wn : Int), .int .i64 (hn : Int), .int .i64 (dn : Int), .slice (some ⟨gb, off, none⟩) n c]) ∧ (listed.getD 4 false = true → x17 = .agg #[.float .f32 p0, .float .f32 p1]) ∧ (listed.getD 5 false = true → (RawV wn hn dn n 23 U.heap.size LB x18 w) ∧ listed.getD 4 false = true) ∧ (listed.getD 6 false = true → NewB 40 w1.heap.size x6 w) ∧ (listed.getD 7 false = true → NewB 40 w1.heap.size x7 w) ∧ (listed.getD 6 false = true → listed.getD 7 false = true → x6 ≠ x7) ∧ listed.getD 8 false = false ∧ listed.getD 9 false = false) #[true, true, true, true, true, true, true, true, false, false] ?_ ?_ ?_ ?_
  · exact ⟨undef, undef, undef, undef, undef, undef, undef, undef, rfl, ⟨rfl, rfl, rfl, Nat.le_refl _, fun _ _ => rfl⟩, (fun h => by cases h), (fun h => by cases h), (fun h => by cases h), (fun h => by cases h), (fun h => by cases h), (fun h => by cases h), (fun h => by cases h), (fun h => by cases h), (fun h => by cases h), rfl, rfl⟩
  · clear b0 b1 b2 b3 q0 q1
    rintro listed a w hsz ⟨x6, x7, x13, x14, x15, x16, x17, x18, rfl, hX, F0, F1, F2, F3, F4, F5, F6, F7, FD, F8, F9⟩ k hk hkn
    replace hsz : listed.size = 10 := hsz
    have hEw := hE.trans hX
    have ⟨b0, b1, b2, b3⟩ := hb.ext hX
    have ⟨q0, q1⟩ := hq.ext hX
    rcases (show k = 0 ∨ k = 1 ∨ k = 2 ∨ k = 3 ∨ k = 4 ∨ k = 5 ∨ k = 6 ∨ k = 7 by omega) with rfl | rfl | rfl | rfl | rfl | rfl | rfl | rfl
    · refine step_wx rfl none ?_
      simp only [List.getElem_toArray, List.getElem_cons_zero]
      refine wx_k rfl rfl rfl (fun K hK => ?_)
      go_big_quiet_op
      refine hK _ ?_
      clear hK K
      (try dsimp only [Act.put])
      refine wx_nil (fun W hW hF => ?_)
      exact ⟨x6, x7, .agg #[.int .i64 (wn : Int), .int .i64 (hn : Int), .int .i64 (dn : Int), .slice (some ⟨gb, off, none⟩) n c], x14, x15, x16, x17, x18, rfl, hX.trans hW, (fun _ => rfl), (fun h => F1 (by rwa [set_other (by decide)] at h)), (fun h => (F2 (by rwa [set_other (by decide)] at h)).ext hW), (fun h => F3 (by rwa [set_other (by decide)] at h)), (fun h => F4 (by rwa [set_other (by decide)] at h)), (fun h => ⟨(F5 (by rwa [set_other (by decide)] at h)).1.ext hW, by first | exact set_same hsz (by decide) | (rw [set_other (by decide)]; exact (F5 (by rwa [set_other (by decide)] at h)).2)⟩), (fun h => (F6 (by rwa [set_other (by decide)] at h)).ext hW), (fun h => (F7 (by rwa [set_other (by decide)] at h)).ext hW), (fun h h' => FD (by rwa [set_other (by decide)] at h) (by rwa [set_other (by decide)] at h')), by rw [set_other (by decide)]; exact F8, by rw [set_other (by decide)]; exact F9⟩
    · refine step_wx rfl none ?_
      simp only [List.getElem_toArray, List.getElem_cons_succ, List.getElem_cons_zero]
      refine wx_k rfl rfl rfl (fun K hK => ?_)
      go_big_quiet_op
      refine hK _ ?_
      clear hK K
      (try dsimp only [Act.put])
      refine wx_nil (fun W hW hF => ?_)
      exact ⟨x6, x7, x13, .agg #[.float .f32 p0, .float .f32 p1], x15, x16, x17, x18, rfl, hX.trans hW, (fun h => F0 (by rwa [set_other (by decide)] at h)), (fun _ => rfl), (fun h => (F2 (by rwa [set_other (by decide)] at h)).ext hW), (fun h => F3 (by rwa [set_other (by decide)] at h)), (fun h => F4 (by rwa [set_other (by decide)] at h)), (fun h => ⟨(F5 (by rwa [set_other (by decide)] at h)).1.ext hW, by first | exact set_same hsz (by decide) | (rw [set_other (by decide)]; exact (F5 (by rwa [set_other (by decide)] at h)).2)⟩), (fun h => (F6 (by rwa [set_other (by decide)] at h)).ext hW), (fun h => (F7 (by rwa [set_other (by decide)] at h)).ext hW), (fun h h' => FD (by rwa [set_other (by decide)] at h) (by rwa [set_other (by decide)] at h')), by rw [set_other (by decide)]; exact F8, by rw [set_other (by decide)]; exact F9⟩
    · have e1 := F0 (dep_on rfl hk 0 (by kernel_rfl))
      have D4 := dep_on rfl hk 1 (by kernel_rfl)
      have e2 := F1 D4
      subst e1 e2
      refine step_wx rfl (some (fun u W => RawV wn hn dn n 23 U.heap.size LA u W)) ?_
      refine wx_callR _ rfl rfl 66 _ _ rfl (by kernel_rfl) (fun W hW hF => ?_) ?_
      · go_simp
        refine (HR0.out W (hEw.trans hW)).mono ?_
        rintro e w' ⟨H, c', b, rfl, ho, hm, hwb, hx⟩
        exact ⟨_, rfl, ⟨H, c', b, rfl, ho.weaken (hEw.trans hW).size, hm, hwb⟩, hx⟩
      rintro u V hV hu
      (try dsimp only [Act.put])
      refine wx_nil (fun W hW hF => ?_)
      have hVW : Ext V W := hF 2
      exact ⟨x6, x7, .agg #[.int .i64 (wn : Int), .int .i64 (hn : Int), .int .i64 (dn : Int), .slice (some ⟨gb, off, none⟩) n c], .agg #[.float .f32 p0, .float .f32 p1], u, x16, x17, x18, rfl, hX.trans hW, (fun h => F0 (by rwa [set_other (by decide)] at h)), (fun h => F1 (by rwa [set_other (by decide)] at h)), (fun _ => hu.ext hVW), (fun h => F3 (by rwa [set_other (by decide)] at h)), (fun h => F4 (by rwa [set_other (by decide)] at h)), (fun h => ⟨(F5 (by rwa [set_other (by decide)] at h)).1.ext hW, by first | exact set_same hsz (by decide) | (rw [set_other (by decide)]; exact (F5 (by rwa [set_other (by decide)] at h)).2)⟩), (fun h => (F6 (by rwa [set_other (by decide)] at h)).ext hW), (fun h => (F7 (by rwa [set_other (by decide)] at h)).ext hW), (fun h h' => FD (by rwa [set_other (by decide)] at h) (by rwa [set_other (by decide)] at h')), by rw [set_other (by decide)]; exact F8, by rw [set_other (by decide)]; exact F9⟩
    · refine step_wx rfl none ?_
      simp only [List.getElem_toArray, List.getElem_cons_succ, List.getElem_cons_zero]
      refine wx_k rfl rfl rfl (fun K hK => ?_)
      go_big_quiet_op
      refine hK _ ?_
      clear hK K
      (try dsimp only [Act.put])
      refine wx_nil (fun W hW hF => ?_)
      exact ⟨x6, x7, x13, x14, x15, .agg #[.int .i64 (wn : Int), .int .i64 (hn : Int), .int .i64 (dn : Int), .slice (some ⟨gb, off, none⟩) n c], x17, x18, rfl, hX.trans hW, (fun h => F0 (by rwa [set_other (by decide)] at h)), (fun h => F1 (by rwa [set_other (by decide)] at h)), (fun h => (F2 (by rwa [set_other (by decide)] at h)).ext hW), (fun _ => rfl), (fun h => F4 (by rwa [set_other (by decide)] at h)), (fun h => ⟨(F5 (by rwa [set_other (by decide)] at h)).1.ext hW, by first | exact set_same hsz (by decide) | (rw [set_other (by decide)]; exact (F5 (by rwa [set_other (by decide)] at h)).2)⟩), (fun h => (F6 (by rwa [set_other (by decide)] at h)).ext hW), (fun h => (F7 (by rwa [set_other (by decide)] at h)).ext hW), (fun h h' => FD (by rwa [set_other (by decide)] at h) (by rwa [set_other (by decide)] at h')), by rw [set_other (by decide)]; exact F8, by rw [set_other (by decide)]; exact F9⟩
    · refine step_wx rfl none ?_
      simp only [List.getElem_toArray, List.getElem_cons_succ, List.getElem_cons_zero]
      refine wx_k rfl rfl rfl (fun K hK => ?_)
      go_big_quiet_op
      refine hK _ ?_
      clear hK K
      (try dsimp only [Act.put])
      refine wx_nil (fun W hW hF => ?_)
      exact ⟨x6, x7, x13, x14, x15, x16, .agg #[.float .f32 p0, .float .f32 p1], x18, rfl, hX.trans hW, (fun h => F0 (by rwa [set_other (by decide)] at h)), (fun h => F1 (by rwa [set_other (by decide)] at h)), (fun h => (F2 (by rwa [set_other (by decide)] at h)).ext hW), (fun h => F3 (by rwa [set_other (by decide)] at h)), (fun _ => rfl), (fun h => ⟨(F5 (by rwa [set_other (by decide)] at h)).1.ext hW, by first | exact set_same hsz (by decide) | (rw [set_other (by decide)]; exact (F5 (by rwa [set_other (by decide)] at h)).2)⟩), (fun h => (F6 (by rwa [set_other (by decide)] at h)).ext hW), (fun h => (F7 (by rwa [set_other (by decide)] at h)).ext hW), (fun h h' => FD (by rwa [set_other (by decide)] at h) (by rwa [set_other (by decide)] at h')), by rw [set_other (by decide)]; exact F8, by rw [set_other (by decide)]; exact F9⟩
    · have e1 := F3 (dep_on rfl hk 3 (by kernel_rfl))
      have D4 := dep_on rfl hk 4 (by kernel_rfl)
      have e2 := F4 D4
      subst e1 e2
      refine step_wx rfl (some (fun u W => RawV wn hn dn n 23 U.heap.size LB u W)) ?_
      refine wx_callR _ rfl rfl 66 _ _ rfl (by kernel_rfl) (fun W hW hF => ?_) ?_
      · go_simp
        refine (HR1.out W (hEw.trans hW)).mono ?_
        rintro e w' ⟨H, c', b, rfl, ho, hm, hwb, hx⟩
        exact ⟨_, rfl, ⟨H, c', b, rfl, ho.weaken (hEw.trans hW).size, hm, hwb⟩, hx⟩
      rintro u V hV hu
      (try dsimp only [Act.put])
      refine wx_nil (fun W hW hF => ?_)
      have hVW : Ext V W := hF 5
      exact ⟨x6, x7, x13, x14, x15, .agg #[.int .i64 (wn : Int), .int .i64 (hn : Int), .int .i64 (dn : Int), .slice (some ⟨gb, off, none⟩) n c], .agg #[.float .f32 p0, .float .f32 p1], u, rfl, hX.trans hW, (fun h => F0 (by rwa [set_other (by decide)] at h)), (fun h => F1 (by rwa [set_other (by decide)] at h)), (fun h => (F2 (by rwa [set_other (by decide)] at h)).ext hW), (fun h => F3 (by rwa [set_other (by decide)] at h)), (fun h => F4 (by rwa [set_other (by decide)] at h)), (fun _ => ⟨hu.ext hVW, by rw [set_other (by decide)]; exact D4⟩), (fun h => (F6 (by rwa [set_other (by decide)] at h)).ext hW), (fun h => (F7 (by rwa [set_other (by decide)] at h)).ext hW), (fun h h' => FD (by rwa [set_other (by decide)] at h) (by rwa [set_other (by decide)] at h')), by rw [set_other (by decide)]; exact F8, by rw [set_other (by decide)]; exact F9⟩
    · refine step_wx rfl none ?_
      refine wx_alloc rfl rfl 40 rfl #[.int .i64 0, .int .i64 0, .int .i64 0, .slice none 0 0] (fun Z => by simp [Instr.alloc, go_sem]) ?_
      intro V hV
      (try dsimp only [Act.put])
      refine wx_nil (fun W hW hF => ?_)
      have hVW : Ext (V.alloc (.cells #[.int .i64 0, .int .i64 0, .int .i64 0, .slice none 0 0] 40)) W := hF 6
      have hVs := hV.size
      exact ⟨.pointer (some ⟨V.heap.size, 0, none⟩), x7, x13, x14, x15, x16, x17, x18, rfl, hX.trans hW, (fun h => F0 (by rwa [set_other (by decide)] at h)), (fun h => F1 (by rwa [set_other (by decide)] at h)), (fun h => (F2 (by rwa [set_other (by decide)] at h)).ext hW), (fun h => F3 (by rwa [set_other (by decide)] at h)), (fun h => F4 (by rwa [set_other (by decide)] at h)), (fun h => ⟨(F5 (by rwa [set_other (by decide)] at h)).1.ext hW, by first | exact set_same hsz (by decide) | (rw [set_other (by decide)]; exact (F5 (by rwa [set_other (by decide)] at h)).2)⟩), (fun _ => ⟨V.heap.size, rfl, by have := hX.size; omega, (hVW.block _ (by simp)).trans (heap_alloc_new _ _)⟩), (fun h => (F7 (by rwa [set_other (by decide)] at h)).ext hW), (fun _ h => ((F7 (by rwa [set_other (by decide)] at h)).ne hVs).symm), by rw [set_other (by decide)]; exact F8, by rw [set_other (by decide)]; exact F9⟩
    · refine step_wx rfl none ?_
      refine wx_alloc rfl rfl 40 rfl #[.int .i64 0, .int .i64 0, .int .i64 0, .slice none 0 0] (fun Z => by simp [Instr.alloc, go_sem]) ?_
      intro V hV
      (try dsimp only [Act.put])
      refine wx_nil (fun W hW hF => ?_)
      have hVW : Ext (V.alloc (.cells #[.int .i64 0, .int .i64 0, .int .i64 0, .slice none 0 0] 40)) W := hF 7
      have hVs := hV.size
      exact ⟨x6, .pointer (some ⟨V.heap.size, 0, none⟩), x13, x14, x15, x16, x17, x18, rfl, hX.trans hW, (fun h => F0 (by rwa [set_other (by decide)] at h)), (fun h => F1 (by rwa [set_other (by decide)] at h)), (fun h => (F2 (by rwa [set_other (by decide)] at h)).ext hW), (fun h => F3 (by rwa [set_other (by decide)] at h)), (fun h => F4 (by rwa [set_other (by decide)] at h)), (fun h => ⟨(F5 (by rwa [set_other (by decide)] at h)).1.ext hW, by first | exact set_same hsz (by decide) | (rw [set_other (by decide)]; exact (F5 (by rwa [set_other (by decide)] at h)).2)⟩), (fun h => (F6 (by rwa [set_other (by decide)] at h)).ext hW), (fun _ => ⟨V.heap.size, rfl, by have := hX.size; omega, (hVW.block _ (by simp)).trans (heap_alloc_new _ _)⟩), (fun h _ => (F6 (by rwa [set_other (by decide)] at h)).ne hVs), by rw [set_other (by decide)]; exact F8, by rw [set_other (by decide)]; exact F9⟩
  · clear b0 b1 b2 b3 q0 q1
    rintro listed a w hsz ⟨x6, x7, x13, x14, x15, x16, x17, x18, rfl, hX, F0, F1, F2, F3, F4, F5, F6, F7, FD, F8, F9⟩ ⟨k, hk, hkn⟩
    replace hsz : listed.size = 10 := hsz
    have hk8 : k = 8 := by
      rcases (show k = 8 ∨ k = 9 ∨ 10 ≤ k by omega) with h | rfl | h
      · exact h
      · have := dep_on rfl hk 8 (by kernel_rfl)
        rw [F8] at this; cases this
      · obtain ⟨_, o, ho, _⟩ := mem_ready.1 hk
        have := (Array.getElem?_eq_some_iff.1 ho).1
        replace this : k < 10 := this
        omega
    subst hk8
    have D0 := dep_on rfl hk 0 (by kernel_rfl)
    have D1 := dep_on rfl hk 1 (by kernel_rfl)
    have D2 := dep_on rfl hk 2 (by kernel_rfl)
    have D3 := dep_on rfl hk 3 (by kernel_rfl)
    have D5 := dep_on rfl hk 5 (by kernel_rfl)
    have D6 := dep_on rfl hk 6 (by kernel_rfl)
    have D7 := dep_on rfl hk 7 (by kernel_rfl)
    have D4 := (F5 D5).2
    refine ⟨full10 hsz D0 D1 D2 D3 D4 D5 D6 D7 F8 F9, ?_⟩
    refine wpAny_of_seqL [8, 9] _ _ _ (by kernel_rfl) ?_
    simp only [theOps, List.filterMap_cons, List.filterMap_nil, List.getElem?_toArray, List.getElem?_cons_succ, List.getElem?_cons_zero]
    obtain ⟨gA, rfl, hgA, hbA⟩ := F6 D6
    obtain ⟨gB, rfl, hgB, hbB⟩ := F7 D7
    obtain ⟨ha, ca, ba, rfl, hoa, hma, hwa⟩ := F2 D2
    obtain ⟨hb', cb, bb, rfl, hob, hmb, hwb⟩ := (F5 D5).1
    have hAB : ¬ (gA = gB) := fun h => FD D6 D7 (by rw [h])
    have hBA : ¬ (gB = gA) := fun h => hAB h.symm
    have e0 := F0 D0
    have e1 := F1 D1
    have e3 := F3 D3
    have e4 := F4 D4
    subst e0 e1 e3 e4
    have kA0 : w.cell? ⟨gA, 0, none⟩ = some (.int .i64 0) := Blk.cell (xs := [.int .i64 0, .int .i64 0, .int .i64 0, .slice none 0 0]) hbA 0
    have kA1 : w.cell? ⟨gA, 1, none⟩ = some (.int .i64 0) := Blk.cell (xs := [.int .i64 0, .int .i64 0, .int .i64 0, .slice none 0 0]) hbA 1
    have kA2 : w.cell? ⟨gA, 2, none⟩ = some (.int .i64 0) := Blk.cell (xs := [.int .i64 0, .int .i64 0, .int .i64 0, .slice none 0 0]) hbA 2
    have kA3 : w.cell? ⟨gA, 3, none⟩ = some (.slice none 0 0) := Blk.cell (xs := [.int .i64 0, .int .i64 0, .int .i64 0, .slice none 0 0]) hbA 3
    have kB0 : w.cell? ⟨gB, 0, none⟩ = some (.int .i64 0) := Blk.cell (xs := [.int .i64 0, .int .i64 0, .int .i64 0, .slice none 0 0]) hbB 0
    have kB1 : w.cell? ⟨gB, 1, none⟩ = some (.int .i64 0) := Blk.cell (xs := [.int .i64 0, .int .i64 0, .int .i64 0, .slice none 0 0]) hbB 1
    have kB2 : w.cell? ⟨gB, 2, none⟩ = some (.int .i64 0) := Blk.cell (xs := [.int .i64 0, .int .i64 0, .int .i64 0, .slice none 0 0]) hbB 2
    have kB3 : w.cell? ⟨gB, 3, none⟩ = some (.slice none 0 0) := Blk.cell (xs := [.int .i64 0, .int .i64 0, .int .i64 0, .slice none 0 0]) hbB 3
    have fA : ∀ i, w.frozen? ⟨gA, i, none⟩ = false := fun i => Blk.frozen (xs := [.int .i64 0, .int .i64 0, .int .i64 0, .slice none 0 0]) hbA i
    have fB : ∀ i, w.frozen? ⟨gB, i, none⟩ = false := fun i => Blk.frozen (xs := [.int .i64 0, .int .i64 0, .int .i64 0, .slice none 0 0]) hbB i
    have fA0 := fA 0
    have fA1 := fA 1
    have fA2 := fA 2
    have fA3 := fA 3
    have fB0 := fB 0
    have fB1 := fB 1
    have fB2 := fB 2
    have fB3 := fB 3
    have nA := hoa.ne_block hbA (by decide)
    have nAB := hoa.ne_block hbB (by decide)
    have nB := hob.ne_block hbB (by decide)
    have nBA := hob.ne_block hbA (by decide)
    have ⟨b0, b1, b2, b3⟩ := hb.ext hX
    have hcaf := hoa.form
    have hcbf := hob.form
    have hca : n ≤ ca ∧ ca ≤ maxLen := by
      obtain ⟨A', c', he, h1, h2, _⟩ := hoa.form
      have := hoa.len
      simp only [Value.slice.injEq] at he
      omega
    have hcb : n ≤ cb ∧ cb ≤ maxLen := by
      obtain ⟨A', c', he, h1, h2, _⟩ := hob.form
      have := hob.len
      simp only [Value.slice.injEq] at he
      omega
    have hUA : ¬ (gA = U.heap.size) := by have := hb.lt; omega
    have hUB : ¬ (gB = U.heap.size) := by have := hb.lt; omega
    have hUA' : ¬ (U.heap.size = gA) := by have := hb.lt; omega
    have hUB' : ¬ (U.heap.size = gB) := by have := hb.lt; omega
    clear hk F0 F1 F2 F3 F4 F5 F6 F7 FD F8 F9 D0 D1 D2 D3 D4 D5 D6 D7 fA fB hcaf hcbf
    have hbX := hb.ext hX
    have hrX := hr.ext hX
    go_wp2_with fail
    refine calls_at (X := fun w' => Ext w1 w' ∧ Box4 w' gA (.int .i64 wn) (.int .i64 hn) (.int .i64 dn) (.slice (some ⟨ha, 0, none⟩) n ca) ∧ Box4 w' gB (.int .i64 wn) (.int .i64 hn) (.int .i64 dn) (.slice (some ⟨hb', 0, none⟩) n cb) ∧ OwnF w' U.heap.size 23 (.slice (some ⟨ha, 0, none⟩) n ca) ba ∧ OwnF w' U.heap.size 23 (.slice (some ⟨hb', 0, none⟩) n cb) bb ∧ w.heap.size ≤ w'.heap.size) ⟨?_, ⟨?_, ?_, ?_, ?_⟩, ⟨?_, ?_, ?_, ?_⟩, ?_, ?_, ?_⟩ ?_
    · repeat (first | with_reducible exact hX | (with_reducible refine Ext.setCell ?_ (by dsimp only; omega) _))
    · simp [go_sem, *]
    · simp [go_sem, *]
    · simp [go_sem, *]
    · simp [go_sem, *]
    · simp [go_sem, *]
    · simp [go_sem, *]
    · simp [go_sem, *]
    · simp [go_sem, *]
    · repeat (first | with_reducible exact hoa | (with_reducible refine OwnF.set_ne ?_ nA _) | (with_reducible refine OwnF.set_ne ?_ nAB _))
    · repeat (first | with_reducible exact hob | (with_reducible refine OwnF.set_ne ?_ nB _) | (with_reducible refine OwnF.set_ne ?_ nBA _))
    · simp
    rintro w2 ⟨hx2, hA4, hB4, hoa2, hob2, hsz2⟩
    have hE2 := hE.trans hx2
    have hr2 := hr.ext hx2
    have hs2 := Nat.le_trans hs hx2.size
    have hcall := HCL.out w2 hE2 gA gB ha ca hb' cb ba bb _ _ (hb.ext hx2) hA4 hB4 hoa2 hma hwa hca hob2 hmb hwb hcb
    clear hoa hob hma hmb hwa hwb hoa2 hob2 hA4 hB4 nA nAB nB nBA hbA hbB kA0 kA1 kA2 kA3 kB0 kB1 kB2 kB3 fA0 fA1 fA2 fA3 fB0 fB1 fB2 fB3 b0 b1 b2 b3 hbX hrX hX hx2 hE hr
    refine hcall.mono ?_
    rintro e w3 ⟨A, c', b, rfl, ho, hm, hx⟩
    have ⟨c0, c1, c2, c3, f0, f1, f2, f3⟩ := hr2.ext hx
    have hE3 := hE2.trans hx
    clear hx hr2 hcall
    go_wp2
    refine bodyPost_ret (v := .tuple #[.agg #[.int .i64 wn, .int .i64 hn, .int .i64 dn, .slice A b.length c'], .bool true]) (by simp [results, Try.results37, go_sem, *]) rfl ⟨A, c', b, rfl, ?_, hm, ?_⟩
    · refine OwnF.weaken (base := w2.heap.size) ?_ (by omega)
      repeat (first | (with_reducible exact ho) | (with_reducible refine OwnF.set_below ?_ (by dsimp only; omega) _))
    · repeat (first | (with_reducible exact hE3) | (with_reducible refine Ext.setCell ?_ (by dsimp only; omega) _))
  · rintro listed a w hsz ⟨x6, x7, x13, x14, x15, x16, x17, x18, rfl, hX, F0, F1, F2, F3, F4, F5, F6, F7, FD, F8, F9⟩
    replace hsz : listed.size = 10 := hsz
    cases D0 : listed.getD 0 false with
    | false => exact not_nil (x := 0) (ready_of rfl (by omega) D0 [] (by kernel_rfl) (by simp))
    | true =>
    cases D1 : listed.getD 1 false with
    | false => exact not_nil (x := 1) (ready_of rfl (by omega) D1 [] (by kernel_rfl) (by simp))
    | true =>
    cases D2 : listed.getD 2 false with
    | false => exact not_nil (x := 2) (ready_of rfl (by omega) D2 [0, 1] (by kernel_rfl) (by intro j hj; simp only [List.mem_cons, List.not_mem_nil, or_false] at hj; rcases hj with rfl | rfl <;> assumption))
    | true =>
    cases D3 : listed.getD 3 false with
    | false => exact not_nil (x := 3) (ready_of rfl (by omega) D3 [] (by kernel_rfl) (by simp))
    | true =>
    cases D4 : listed.getD 4 false with
    | false => exact not_nil (x := 4) (ready_of rfl (by omega) D4 [] (by kernel_rfl) (by simp))
    | true =>
    cases D5 : listed.getD 5 false with
    | false => exact not_nil (x := 5) (ready_of rfl (by omega) D5 [2, 3, 4] (by kernel_rfl) (by intro j hj; simp only [List.mem_cons, List.not_mem_nil, or_false] at hj; rcases hj with rfl | rfl | rfl <;> assumption))
    | true =>
    cases D6 : listed.getD 6 false with
    | false => exact not_nil (x := 6) (ready_of rfl (by omega) D6 [] (by kernel_rfl) (by simp))
    | true =>
    cases D7 : listed.getD 7 false with
    | false => exact not_nil (x := 7) (ready_of rfl (by omega) D7 [] (by kernel_rfl) (by simp))
    | true => exact not_nil (x := 8) (ready_of rfl (by omega) F8 [0, 1, 2, 3, 4, 5, 6, 7] (by kernel_rfl) (by intro j hj; simp only [List.mem_cons, List.not_mem_nil, or_false] at hj; rcases hj with rfl | rfl | rfl | rfl | rfl | rfl | rfl | rfl <;> assumption))
theorem implBothWays_no (z0 z1 z2 : Int) (A : Option Addr) (n c : Nat) (p0 p1 : Nat) (hn : n ≤ maxLen) (U : World) (hno : ¬ (VVol z0 z1 z2 n ∧ PV p0 p1)) :
    Calls Try.prog 37 #[.agg #[.int .i64 z0, .int .i64 z1, .int .i64 z2, .slice A n c], .agg #[.float .f32 p0, .float .f32 p1]] U fun e U' => ∃ A' c' b, e = .returned (.tuple #[.agg #[.int .i64 0, .int .i64 0, .int .i64 0, .slice A' b.length c'], .bool false]) ∧ OwnF U' U.heap.size 23 (.slice A' b.length c') b ∧ b.map nrm = [] ∧ Ext U U' := by
  have HN := Lib.hid hno
  clear hno
  go_enter Try.func37, Try.ntmps37
  go_wp2_with fail
  refine calls_at (X := fun w' => Ext U w' ∧ Box4 w' U.heap.size (.int .i64 z0) (.int .i64 z1) (.int .i64 z2) (.slice A n c) ∧ Box2 w' (U.heap.size + 1) (fl p0) (fl p1) ∧ Res4 w' (U.heap.size + 1 + 1) ∧ U.heap.size + 1 + 1 + 1 ≤ w'.heap.size) ⟨(((Ext.refl _).alloc _).alloc _).alloc _, ⟨by simp [go_sem], by simp [go_sem], by simp [go_sem], by simp [go_sem]⟩, ⟨by simp [go_sem], by simp [go_sem]⟩, ⟨by simp [go_sem], by simp [go_sem], by simp [go_sem], by simp [go_sem], by simp [go_sem], by simp [go_sem], by simp [go_sem], by simp [go_sem]⟩, by simp⟩ ?_
  rintro w0 ⟨hE, hb, hq, hr, hs⟩
  refine (pathOk_no z0 z1 z2 A n c p0 p1 0 hn (fun h => HN.out ⟨h.1, h.2.1⟩) _).mono ?_
  rintro e w1 ⟨rfl, hx⟩
  replace hE := hE.trans hx
  replace hb := hb.ext hx
  replace hq := hq.ext hx
  replace hr := hr.ext hx
  replace hs := Nat.le_trans hs hx.size
  clear hx
  have ⟨c0, c1, c2, c3, f0, f1, f2, f3⟩ := hr
  go_wp2
  refine bodyPost_ret (v := .tuple #[.agg #[.int .i64 0, .int .i64 0, .int .i64 0, .slice none 0 0], .bool false]) (by simp [results, Try.results37, go_sem, *]) rfl ⟨none, 0, [], rfl, OwnF.nil _ _ _, rfl, ?_⟩
  repeat (first | (with_reducible exact hE) | (with_reducible refine Ext.setCell ?_ (by dsimp only; omega) _))
theorem specBothWays_no1 (z0 z1 z2 : Int) (A : Option Addr) (n c : Nat) (p0 p1 : Nat) (hn : n ≤ maxLen) (U : World) (hno : ¬ VVol z0 z1 z2 n) :
    Calls Try.prog 36 #[.agg #[.int .i64 z0, .int .i64 z1, .int .i64 z2, .slice A n c], .agg #[.float .f32 p0, .float .f32 p1]] U fun e U' => ∃ A' c' b, e = .returned (.tuple #[.agg #[.int .i64 0, .int .i64 0, .int .i64 0, .slice A' b.length c'], .bool false]) ∧ OwnF U' U.heap.size 23 (.slice A' b.length c') b ∧ b.map nrm = [] ∧ Ext U U' := by
  have HN := Lib.hid hno
  clear hno
  go_enter Try.func36, Try.ntmps36
  go_wp2_with fail
  refine calls_at (X := fun w' => Ext U w' ∧ Box4 w' U.heap.size (.int .i64 z0) (.int .i64 z1) (.int .i64 z2) (.slice A n c) ∧ Box2 w' (U.heap.size + 1) (fl p0) (fl p1) ∧ Res4 w' (U.heap.size + 1 + 1) ∧ U.heap.size + 1 + 1 + 1 ≤ w'.heap.size) ⟨(((Ext.refl _).alloc _).alloc _).alloc _, ⟨by simp [go_sem], by simp [go_sem], by simp [go_sem], by simp [go_sem]⟩, ⟨by simp [go_sem], by simp [go_sem]⟩, ⟨by simp [go_sem], by simp [go_sem], by simp [go_sem], by simp [go_sem], by simp [go_sem], by simp [go_sem], by simp [go_sem], by simp [go_sem]⟩, by simp⟩ ?_
  rintro w0 ⟨hE, hb, hq, hr, hs⟩
  refine (l03Is_not _ _ _ _ _ _ _ _ hn hb.1 hb.2.1 hb.2.2.1 hb.2.2.2 HN.out).mono ?_
  rintro e w1 ⟨rfl, hx⟩
  replace hE := hE.trans hx
  replace hb := hb.ext hx
  replace hq := hq.ext hx
  replace hr := hr.ext hx
  replace hs := Nat.le_trans hs hx.size
  clear hx
  have ⟨c0, c1, c2, c3, f0, f1, f2, f3⟩ := hr
  go_wp2
  refine bodyPost_ret (v := .tuple #[.agg #[.int .i64 0, .int .i64 0, .int .i64 0, .slice none 0 0], .bool false]) (by simp [results, Try.results36, go_sem, *]) rfl ⟨none, 0, [], rfl, OwnF.nil _ _ _, rfl, ?_⟩
  repeat (first | (with_reducible exact hE) | (with_reducible refine Ext.setCell ?_ (by dsimp only; omega) _))
theorem specBothWays_no2 (z0 z1 z2 : Int) (A : Option Addr) (n c : Nat) (p0 p1 : Nat) (hn : n ≤ maxLen) (U : World) (hv : VVol z0 z1 z2 n) (hno : ¬ PV p0 p1) :
    Calls Try.prog 36 #[.agg #[.int .i64 z0, .int .i64 z1, .int .i64 z2, .slice A n c], .agg #[.float .f32 p0, .float .f32 p1]] U fun e U' => ∃ A' c' b, e = .returned (.tuple #[.agg #[.int .i64 0, .int .i64 0, .int .i64 0, .slice A' b.length c'], .bool false]) ∧ OwnF U' U.heap.size 23 (.slice A' b.length c') b ∧ b.map nrm = [] ∧ Ext U U' := by
  have HN := Lib.hid hno
  have HV := Lib.hid hv
  clear hno hv
  go_enter Try.func36, Try.ntmps36
  go_wp2_with fail
  refine calls_at (X := fun w' => Ext U w' ∧ Box4 w' U.heap.size (.int .i64 z0) (.int .i64 z1) (.int .i64 z2) (.slice A n c) ∧ Box2 w' (U.heap.size + 1) (fl p0) (fl p1) ∧ Res4 w' (U.heap.size + 1 + 1) ∧ U.heap.size + 1 + 1 + 1 ≤ w'.heap.size) ⟨(((Ext.refl _).alloc _).alloc _).alloc _, ⟨by simp [go_sem], by simp [go_sem], by simp [go_sem], by simp [go_sem]⟩, ⟨by simp [go_sem], by simp [go_sem]⟩, ⟨by simp [go_sem], by simp [go_sem], by simp [go_sem], by simp [go_sem], by simp [go_sem], by simp [go_sem], by simp [go_sem], by simp [go_sem]⟩, by simp⟩ ?_
  rintro w0 ⟨hE, hb, hq, hr, hs⟩
  refine (l03Is_yes _ _ _ _ _ _ _ _ hn hb.1 hb.2.1 hb.2.2.1 hb.2.2.2 HV.out).mono ?_
  rintro e w1 ⟨rfl, hx⟩
  replace hE := hE.trans hx
  replace hb := hb.ext hx
  replace hq := hq.ext hx
  replace hr := hr.ext hx
  replace hs := Nat.le_trans hs hx.size
  clear hx
  go_wp2_with fail
  refine (l04Is_no _ p0 p1 _ hq.1 hq.2 HN.out).mono ?_
  rintro e w2 ⟨rfl, hx⟩
  replace hE := hE.trans hx
  replace hb := hb.ext hx
  replace hq := hq.ext hx
  replace hr := hr.ext hx
  replace hs := Nat.le_trans hs hx.size
  clear hx
  have ⟨c0, c1, c2, c3, f0, f1, f2, f3⟩ := hr
  go_wp2
  refine bodyPost_ret (v := .tuple #[.agg #[.int .i64 0, .int .i64 0, .int .i64 0, .slice none 0 0], .bool false]) (by simp [results, Try.results36, go_sem, *]) rfl ⟨none, 0, [], rfl, OwnF.nil _ _ _, rfl, ?_⟩
  repeat (first | (with_reducible exact hE) | (with_reducible refine Ext.setCell ?_ (by dsimp only; omega) _))
set_option maxHeartbeats 8000000 in
set_option maxRecDepth 8000 in
theorem specBothWays_yes (wn hn dn gb off n c p0 p1 : Nat) (bs LA LB : List Nat) (U : World) (hl : Lies U gb off bs) (hlen : bs.length = n) (hwd : Words bs) (hnc : n ≤ c) (hcm : c ≤ maxLen) (hv : VVol wn hn dn n) (hp : PV p0 p1)
    (hraw0 : ∀ W gq, Ext U W → Box4 W U.heap.size (.int .i64 wn) (.int .i64 hn) (.int .i64 dn) (.slice (some ⟨gb, off, none⟩) n c) → Box2 W (U.heap.size + 1) (fl p0) (fl p1) → W.cell? ⟨gq, 0, none⟩ = some (.int .i64 0) → Calls Try.prog 63 #[.pointer (some ⟨U.heap.size, 0, none⟩), .pointer (some ⟨(U.heap.size + 1), 0, none⟩), .int .i64 0, .bool true, .pointer (some ⟨gq, 0, none⟩)] W fun e W' => ∃ H c' b, e = .returned (.agg #[.int .i64 wn, .int .i64 hn, .int .i64 dn, .slice (some ⟨H, 0, none⟩) n c']) ∧ OwnF W' W.heap.size 23 (.slice (some ⟨H, 0, none⟩) n c') b ∧ b.map nrm = LA ∧ Words b ∧ Ext W W')
    (hraw1 : ∀ W gq, Ext U W → Box4 W U.heap.size (.int .i64 wn) (.int .i64 hn) (.int .i64 dn) (.slice (some ⟨gb, off, none⟩) n c) → Box2 W (U.heap.size + 1) (fl p0) (fl p1) → W.cell? ⟨gq, 0, none⟩ = some (.int .i64 0) → Calls Try.prog 63 #[.pointer (some ⟨U.heap.size, 0, none⟩), .pointer (some ⟨(U.heap.size + 1), 0, none⟩), .int .i64 1, .bool true, .pointer (some ⟨gq, 0, none⟩)] W fun e W' => ∃ H c' b, e = .returned (.agg #[.int .i64 wn, .int .i64 hn, .int .i64 dn, .slice (some ⟨H, 0, none⟩) n c']) ∧ OwnF W' W.heap.size 23 (.slice (some ⟨H, 0, none⟩) n c') b ∧ b.map nrm = LB ∧ Words b ∧ Ext W W') :
    Calls Try.prog 36 #[.agg #[.int .i64 wn, .int .i64 hn, .int .i64 dn, .slice (some ⟨gb, off, none⟩) n c], .agg #[.float .f32 p0, .float .f32 p1]] U fun e U' => ∃ A c' b, e = .returned (.tuple #[.agg #[.int .i64 wn, .int .i64 hn, .int .i64 dn, .slice A b.length c'], .bool true]) ∧ OwnF U' U.heap.size 23 (.slice A b.length c') b ∧ b.map nrm = (List.range n).map (fun i => fop .sub (fop .add (LA.getD i 0) (LB.getD i 0)) (nrm (bs.getD i 0))) ∧ Ext U U' := by
  have hnm := Nat.le_trans hnc hcm
  obtain ⟨hnn, h0, hn2⟩ := vol_n hv
  have HV := Lib.hid hv
  have HP := Lib.hid hp
  have HR0 := Lib.hid hraw0
  have HR1 := Lib.hid hraw1
  have HL := Lib.hid hl
  have HLEN := Lib.hid hlen
  have HWD := Lib.hid hwd
  have HNC := Lib.hid (And.intro hnc hcm)
  unfold maxLen at hcm
  clear hl hlen hwd hnc hv hp hraw0 hraw1 hnn
  go_enter Try.func36, Try.ntmps36
  go_wp2_with fail
  refine calls_at (X := fun w' => Ext U w' ∧ Box4 w' U.heap.size (.int .i64 wn) (.int .i64 hn) (.int .i64 dn) (.slice (some ⟨gb, off, none⟩) n c) ∧ Box2 w' (U.heap.size + 1) (fl p0) (fl p1) ∧ Res4 w' (U.heap.size + 1 + 1) ∧ U.heap.size + 1 + 1 + 1 ≤ w'.heap.size) ⟨(((Ext.refl _).alloc _).alloc _).alloc _, ⟨by simp [go_sem], by simp [go_sem], by simp [go_sem], by simp [go_sem]⟩, ⟨by simp [go_sem], by simp [go_sem]⟩, ⟨by simp [go_sem], by simp [go_sem], by simp [go_sem], by simp [go_sem], by simp [go_sem], by simp [go_sem], by simp [go_sem], by simp [go_sem]⟩, by simp⟩ ?_
  rintro w0 ⟨hE, hb, hq, hr, hs⟩
  refine (l03Is_yes _ wn hn dn _ n c _ hnm hb.1 hb.2.1 hb.2.2.1 hb.2.2.2 HV.out).mono ?_
  rintro e w1 ⟨rfl, hx⟩
  replace hE := hE.trans hx
  replace hb := hb.ext hx
  replace hq := hq.ext hx
  replace hr := hr.ext hx
  replace hs := Nat.le_trans hs hx.size
  clear hx
  go_wp2_with fail
  refine (l04Is_yes _ p0 p1 _ hq.1 hq.2 HP.out).mono ?_
  rintro e w2 ⟨rfl, hx⟩
  replace hE := hE.trans hx
  replace hb := hb.ext hx
  replace hq := hq.ext hx
  replace hr := hr.ext hx
  replace hs := Nat.le_trans hs hx.size
  clear hx
  go_wp2_with fail
  refine calls_at (X := fun w' => Ext w2 w' ∧ w'.cell? ⟨w2.heap.size, 0, none⟩ = some (.int .i64 0)) ⟨(Ext.refl _).alloc _, by simp [go_sem]⟩ ?_
  rintro w3 ⟨hx, hz⟩
  replace hE := hE.trans hx
  replace hb := hb.ext hx
  replace hq := hq.ext hx
  replace hr := hr.ext hx
  replace hs := Nat.le_trans hs hx.size
  refine (HR0.out w3 _ hE hb hq hz).mono ?_
  rintro e w4 ⟨ha, ca, ba, rfl, hoa, hma, hwa, hx'⟩
  have hsa := hx'.size
  replace hoa := hoa.weaken (show w3.heap.size ≤ w3.heap.size from Nat.le_refl _)
  replace hE := hE.trans hx'
  replace hb := hb.ext hx'
  replace hq := hq.ext hx'
  replace hr := hr.ext hx'
  replace hs := Nat.le_trans hs hx'.size
  clear hx hz hx'
  go_wp2_with fail
  refine calls_at (X := fun w' => Ext w4 w' ∧ Box4 w' w4.heap.size (.int .i64 wn) (.int .i64 hn) (.int .i64 dn) (.slice (some ⟨ha, 0, none⟩) n ca) ∧ w'.cell? ⟨w4.heap.size + 1, 0, none⟩ = some (.int .i64 0)) ⟨?_, ⟨?_, ?_, ?_, ?_⟩, ?_⟩ ?_
  · repeat (first | with_reducible exact Ext.refl _ | (with_reducible refine Ext.setCell ?_ (by simp) _) | (with_reducible refine Ext.alloc ?_ _))
  · simp [go_sem]
  · simp [go_sem]
  · simp [go_sem]
  · simp [go_sem]
  · simp [go_sem]
  rintro w5 ⟨hx, hA4, hz⟩
  replace hoa := hoa.ext hx
  replace hE := hE.trans hx
  replace hb := hb.ext hx
  replace hq := hq.ext hx
  replace hr := hr.ext hx
  replace hs := Nat.le_trans hs hx.size
  clear hx
  refine (HR1.out w5 _ hE hb hq hz).mono ?_
  rintro e w6 ⟨hb', cb, bb, rfl, hob, hmb, hwb, hx⟩
  replace hoa := hoa.ext hx
  replace hA4 := hA4.ext hx
  replace hE := hE.trans hx
  replace hb := hb.ext hx
  replace hr := hr.ext hx
  replace hs := Nat.le_trans hs hx.size
  clear hx hq hz
  go_wp2_with fail
  refine calls_at (X := fun w' => Ext w6 w' ∧ Box4 w' w6.heap.size (.int .i64 wn) (.int .i64 hn) (.int .i64 dn) (.slice (some ⟨hb', 0, none⟩) n cb)) ⟨?_, ⟨?_, ?_, ?_, ?_⟩⟩ ?_
  · repeat (first | with_reducible exact Ext.refl _ | (with_reducible refine Ext.setCell ?_ (by simp) _) | (with_reducible refine Ext.alloc ?_ _))
  · simp [go_sem]
  · simp [go_sem]
  · simp [go_sem]
  · simp [go_sem]
  rintro w7 ⟨hx, hB4⟩
  replace hoa := hoa.ext hx
  replace hob := hob.ext hx
  replace hA4 := hA4.ext hx
  replace hE := hE.trans hx
  replace hb := hb.ext hx
  replace hr := hr.ext hx
  replace hs := Nat.le_trans hs hx.size
  clear hx
  have HB7 := Lib.hid hs
  have hla : Lies w7 ha 0 ba := by
    obtain ⟨g, off, he, hl⟩ := hoa.reads.2 (by omega)
    cases he
    exact hl
  have hlb : Lies w7 hb' 0 bb := by
    obtain ⟨g, off, he, hl⟩ := hob.reads.2 (by omega)
    cases he
    exact hl
  have hca : n ≤ ca ∧ ca ≤ maxLen := by
    obtain ⟨A', c', he, h1, h2, _⟩ := hoa.form
    have := hoa.len
    simp only [Value.slice.injEq] at he
    omega
  have hcb : n ≤ cb ∧ cb ≤ maxLen := by
    obtain ⟨A', c', he, h1, h2, _⟩ := hob.form
    have := hob.len
    simp only [Value.slice.injEq] at he
    omega
  refine (l04Sum_any _ _ wn hn dn ha 0 n ca hb' 0 cb ba bb w7 hA4 hB4 hla hlb hoa.len.symm hob.len.symm h0 hn2 hca.1 hca.2 hcb.1 hcb.2).mono ?_
  rintro e w8 ⟨H, cH, b, rfl, hbl, ho, hmm, hx⟩
  have hval : ∀ i, i < n → nrm (b.getD i 0) = fop .add (LA.getD i 0) (LB.getD i 0) := fun i hi => by
    have h1 := getD_of_map hmm i
    rw [h1, ← getD_of_map hma i, ← getD_of_map hmb i, fop_nrm]
    simp [List.getD, hi]
  have HVAL := Lib.hid hval
  replace hE := hE.trans hx
  replace hb := hb.ext hx
  replace hr := hr.ext hx
  have hs7 := hx.size
  replace hs := Nat.le_trans hs hx.size
  clear hx hla hlb hca hcb hA4 hB4 hoa hob hma hmb hwa hwb hmm hval hsa hs7
  go_wp2_with fail
  refine wp_at (X := fun w' => Ext w8 w' ∧ Box4 w' w8.heap.size (.int .i64 wn) (.int .i64 hn) (.int .i64 dn) (.slice (some ⟨H, 0, none⟩) n cH)) ⟨?_, ⟨?_, ?_, ?_, ?_⟩⟩ ?_
  · repeat (first | with_reducible exact Ext.refl _ | (with_reducible refine Ext.setCell ?_ (by simp) _) | (with_reducible refine Ext.alloc ?_ _))
  · simp [go_sem]
  · simp [go_sem]
  · simp [go_sem]
  · simp [go_sem]
  rintro w9 ⟨hx, hO4⟩
  have hH := ho.ge
  have hgU := hb.lt
  have hgR := hr.lt
  replace ho := ho.ext hx
  replace hE := hE.trans hx
  replace hb := hb.ext hx
  replace hr := hr.ext hx
  have hx9 := hx.size
  replace hs := Nat.le_trans hs hx.size
  have hl9 := HL.out.ext hE
  clear hx
  have hO9 := hO4.lt
  obtain ⟨B0, hB0⟩ : ∃ B, w7.heap.size = B := ⟨_, rfl⟩
  rw [hB0] at ho hH
  obtain ⟨go, hgo⟩ : ∃ g, w8.heap.size = g := ⟨_, rfl⟩
  rw [hgo] at hO4 hO9 hH ⊢
  have hUB : U.heap.size + 1 + 1 + 1 ≤ B0 := by rw [← hB0]; exact HB7.out
  have hgb : gb < U.heap.size := HL.out.lt (by have := HLEN.out; omega)
  clear hB0 hgo
  go_loopw [9] (fun i wr => ∃ k : Nat, k ≤ n ∧ i = .int .i64 k ∧ Fil U wr B0 23 H n cH b k (fun i => fop .sub (fop .add (LA.getD i 0) (LB.getD i 0)) (nrm (bs.getD i 0))) ∧ Box4 wr U.heap.size (.int .i64 wn) (.int .i64 hn) (.int .i64 dn) (.slice (some ⟨gb, off, none⟩) n c) ∧ Lies wr gb off bs ∧ Res4 wr (U.heap.size + 1 + 1) ∧ Box4 wr go (.int .i64 wn) (.int .i64 hn) (.int .i64 dn) (.slice (some ⟨H, 0, none⟩) n cH)) (fun i _ => n - (intOf i).toNat)
  case atStart => exact ⟨0, Nat.zero_le _, rfl, Fil.start ho hE, hb, hl9, hr, hO4⟩
  case round =>
    clear ho hb hl9 hr hO4 hE
    obtain ⟨k, hk, rfl, hfil, hB, hl, hres, hO⟩ := hrel
    by_cases hlt : k < n
    · have hc1 := hl k (by have := HLEN.out; omega)
      have hc0 := hfil.cell hlt (Nat.le_refl _)
      have HVK := Lib.hid (HVAL.out k hlt)
      obtain ⟨bk, hbk⟩ : ∃ x, b.getD k 0 = x := ⟨_, rfl⟩
      obtain ⟨vk, hvk⟩ : ∃ x, bs.getD k 0 = x := ⟨_, rfl⟩
      rw [hbk] at hc0 HVK
      rw [hvk] at hc1
      have HVV := Lib.hid hvk
      clear hbk hvk
      have ⟨p0, p1, p2, p3⟩ := hB
      have ⟨o0, o1, o2, o3⟩ := hO
      have hk0 : (0 : Int) ≤ (k : Int) := by omega
      have hk1 : (k : Int) < (n : Int) := by omega
      go_wp2_with fail
      refine region_wx 15 [] (by kernel_rfl) (by kernel_rfl) ?_
      simp only [List.take_succ_cons, List.take_zero, List.drop_succ_cons, List.drop_zero]
      repeat ((first | refine wx_skip rfl ?_ | refine wx_nilCheck rfl rfl _ rfl _ rfl ?_ | (refine wx_float rfl rfl _ _ _ _ _ _ _ rfl rfl rfl rfl ?_; intro r hr) | (refine wx_k rfl rfl rfl (fun K hK => ?_); go_big_quiet_op; refine hK _ ?_; clear hK K) ); (try simp only [Act.put, List.setIfInBounds_toArray, List.set_cons_zero, List.set_cons_succ]); (try simp only [List.tail_nil]))
      refine wx_nil (fun W hW hF => ?_)
      have hct := (hfil.later hW).cell hlt (Nat.le_refl _)
      have hcf := (hfil.later hW).cool k
      have hG : Is r (fop .sub (fop .add (LA.getD k 0) (LB.getD k 0)) (nrm (bs.getD k 0))) := by
        rw [HVV.out, ← HVK.out, fop_nrm]; exact hr
      have hfil' := (hfil.later hW).put hlt (by omega) (r := r) hG
      have hB' := (hB.ext hW).set_ne (g := H) (i := k) (u := fl r) (by omega)
      have hl' := (hl.ext hW).set_ne (g := H) (i := k) (u := fl r) (by omega)
      have hres' := (hres.ext hW).set_ne (g := H) (i := k) (u := fl r) (by omega)
      have hO' := (hO.ext hW).set_ne (g := H) (i := k) (u := fl r) (by omega)
      clear p0 p1 p2 p3 o0 o1 o2 o3 hF hB hl hres hO hfil hc1 hc0 hG
      go_wp2
      go_roundw
      case rel => exact ⟨k + 1, by omega, by go_num, hfil', hB', hl', hres', hO'⟩
      case measure => simp [intOf]; omega
    · have e1 : k = n := by omega
      subst e1
      obtain ⟨b2, hbl3, hb1, hb2⟩ := hfil.done
      have hE := hfil.ext
      have ⟨o0, o1, o2, o3⟩ := hO
      have ⟨c0, c1, c2, c3, f0, f1, f2, f3⟩ := hres
      clear hB hl hres hO hfil
      go_wp2
      refine bodyPost_ret (v := .tuple #[.agg #[.int .i64 wn, .int .i64 hn, .int .i64 dn, .slice (some ⟨H, 0, none⟩) k cH], .bool true]) (by simp [results, Try.results36, go_sem, *]) rfl ⟨some ⟨H, 0, none⟩, cH, b2, by rw [hbl3], ?_, hb2, ?_⟩
      · rw [hbl3]
        refine OwnF.weaken (base := B0) ?_ (by omega)
        repeat (first | (with_reducible exact hb1) | (with_reducible refine OwnF.set_below ?_ (by dsimp only; omega) _))
      · repeat (first | (with_reducible exact hE) | (with_reducible refine Ext.setCell ?_ (by dsimp only; omega) _))
theorem both_flat (wn hn dn : Nat) (LA LB bs : List Nat) : cells3 (bothF wn dn LA LB bs) wn dn (wn * hn * dn) = (List.range (wn * hn * dn)).map (fun i => fop .sub (fop .add (LA.getD i 0) (LB.getD i 0)) (nrm (bs.getD i 0))) :=
  cells3_flat (fun x y e _ _ _ => rfl)
set_option maxRecDepth 8000 in
theorem lawBothWays_any (W : World) (z0 z1 z2 : Int) (_ : -9223372036854775808 ≤ z0 ∧ z0 ≤ 9223372036854775807) (_ : -9223372036854775808 ≤ z1 ∧ z1 ≤ 9223372036854775807) (_ : -9223372036854775808 ≤ z2 ∧ z2 ≤ 9223372036854775807) (A : Option Addr) (n m : Nat) (bs : List Nat) (hc : n ≤ m) (hm : m ≤ maxLen) (hr : Reads W A n bs) (hw : Words bs) (p0 p1 : Nat) (h0 : p0 < 4294967296) (h1 : p1 < 4294967296) :
    Calls Try.prog 8 #[.agg #[.int .i64 z0, .int .i64 z1, .int .i64 z2, .slice A n m], .agg #[.float .f32 p0, .float .f32 p1]] W fun e W' => e = .returned (.bool true) ∧ Ext W W' := by
  have hn : n ≤ maxLen := Nat.le_trans hc hm
  by_cases hok : VVol z0 z1 z2 n ∧ PV p0 p1
  · obtain ⟨hv, hp⟩ := hok
    obtain ⟨wn, rfl⟩ := Int.eq_ofNat_of_zero_le (show 0 ≤ z0 by have := hv.1.1; omega)
    obtain ⟨hn', rfl⟩ := Int.eq_ofNat_of_zero_le (show 0 ≤ z1 by have := hv.1.2.2.1; omega)
    obtain ⟨dn, rfl⟩ := Int.eq_ofNat_of_zero_le (show 0 ≤ z2 by have := hv.2.1; omega)
    obtain ⟨hnn, hn0, hn2⟩ := vol_n hv
    refine lawBothWays_core W wn hn' dn A n m bs hn hr p0 p1 wn hn' dn (cells3 (bothF wn dn (cells3 (fun x y e => ((pathT (fun _ _ _ _ => rawG (nrm p0) (nrm p1)) (ownC bs wn dn) wn hn' (wayX 0) (wayY 0)) x y).getD e 0) wn dn (wn * hn' * dn)) (cells3 (fun x y e => ((pathT (fun _ _ _ _ => rawG (nrm p0) (nrm p1)) (ownC bs wn dn) wn hn' (wayX 1) (wayY 1)) x y).getD e 0) wn dn (wn * hn' * dn)) bs) wn dn (wn * hn' * dn)) (by rw [cells3_length]; omega) true ?_ ?_
    · intro w D hd
      obtain ⟨gb, off, rfl, hl⟩ := hd.2 (by omega)
      have t := specBothWays_yes wn hn' dn gb off n n p0 p1 bs (cells3 (fun x y e => ((pathT (fun _ _ _ _ => rawG (nrm p0) (nrm p1)) (ownC bs wn dn) wn hn' (wayX 0) (wayY 0)) x y).getD e 0) wn dn (wn * hn' * dn)) (cells3 (fun x y e => ((pathT (fun _ _ _ _ => rawG (nrm p0) (nrm p1)) (ownC bs wn dn) wn hn' (wayX 1) (wayY 1)) x y).getD e 0) wn dn (wn * hn' * dn)) w hl hd.1 hw (Nat.le_refl _) hn hv hp
        (fun w0 gq hx0 hb0 hq0 hz => l04PathR_any w.heap.size (w.heap.size + 1) gq wn hn' dn gb off n n bs 0 (by omega) (by omega) p0 p1 _ _ ⟨h0, rfl⟩ ⟨h1, rfl⟩ w0 hb0 hq0 hz (hl.ext hx0) hd.1 hw (Nat.le_refl _) hn hv)
        (fun w0 gq hx0 hb0 hq0 hz => l04PathR_any w.heap.size (w.heap.size + 1) gq wn hn' dn gb off n n bs 1 (by omega) (by omega) p0 p1 _ _ ⟨h0, rfl⟩ ⟨h1, rfl⟩ w0 hb0 hq0 hz (hl.ext hx0) hd.1 hw (Nat.le_refl _) hn hv)
      refine t.mono (fun e w1 h => ?_)
      obtain ⟨A', c', b, he, ho, hm1, hx1⟩ := h
      exact ⟨A', c', b, he, ho, hm1.trans (by rw [both_flat]; exact congrArg (fun q => (List.range q).map _) hnn), hx1⟩
    · intro w D hd
      obtain ⟨gb, off, rfl, hl⟩ := hd.2 (by omega)
      exact implBothWays_yes wn hn' dn gb off n n p0 p1 bs (cells3 (fun x y e => ((pathT (fun _ _ _ _ => rawG (nrm p0) (nrm p1)) (ownC bs wn dn) wn hn' (wayX 0) (wayY 0)) x y).getD e 0) wn dn (wn * hn' * dn)) (cells3 (fun x y e => ((pathT (fun _ _ _ _ => rawG (nrm p0) (nrm p1)) (ownC bs wn dn) wn hn' (wayX 1) (wayY 1)) x y).getD e 0) wn dn (wn * hn' * dn)) w hl hd.1 hw (Nat.le_refl _) hn ⟨hv, hp, by omega, by omega⟩
        (fun w0 hx0 => raw_any wn hn' dn gb off n n bs 0 (by omega) (by omega) p0 p1 _ _ ⟨h0, rfl⟩ ⟨h1, rfl⟩ w0 (hl.ext hx0) hd.1 hw (Nat.le_refl _) hn hv)
        (fun w0 hx0 => raw_any wn hn' dn gb off n n bs 1 (by omega) (by omega) p0 p1 _ _ ⟨h0, rfl⟩ ⟨h1, rfl⟩ w0 (hl.ext hx0) hd.1 hw (Nat.le_refl _) hn hv)
  · refine lawBothWays_core W z0 z1 z2 A n m bs hn hr p0 p1 0 0 0 [] (by simp) false (fun w D hd => ?_) (fun w D hd => implBothWays_no z0 z1 z2 D n n p0 p1 hn w hok)
    by_cases hv : VVol z0 z1 z2 n
    · exact specBothWays_no2 z0 z1 z2 D n n p0 p1 hn w hv (fun hp => hok ⟨hv, hp⟩)
    · exact specBothWays_no1 z0 z1 z2 D n n p0 p1 hn w hv
end Go.Proofs.Ythkfbmboiabolaa
