/- Contracts: the reference's volume of ranks. -/
import Derived.Test.YtgpobhpcbgenoaaRankC
import Derived.Test.YtgpobhpcbgenoaaInts
import Derived.Test.YtgpobhpcbgenoaaAcc2
namespace Go.Proofs.Ytgpobhpcbgenoaa
open Go.RowKit
set_option linter.unusedVariables false

/-- The ranks of the cells. -/
def rkL (wn hn r : Nat) (ps : List Nat) (k : Nat) : List Int := (List.range k).map fun i => ((rkW wn hn r ps ((i % wn : Nat) : Int) ((i / wn : Nat) : Int) : Nat) : Int)
theorem rkL_length (wn hn r : Nat) (ps : List Nat) (k : Nat) : (rkL wn hn r ps k).length = k := by simp [rkL]
theorem rkL_getD (wn hn r : Nat) (ps : List Nat) (k i : Nat) (h : i < k) : (rkL wn hn r ps k).getD i 0 = ((rkW wn hn r ps ((i % wn : Nat) : Int) ((i / wn : Nat) : Int) : Nat) : Int) := by simp [rkL, List.getD, h]
theorem rkL_step (wn hn r : Nat) (ps : List Nat) (k j : Nat) (hj : j < wn) : rkL wn hn r ps (k * wn + j + 1) = rkL wn hn r ps (k * wn + j) ++ [((rkW wn hn r ps (j : Int) (k : Int) : Nat) : Int)] := by
  have h1 : (k * wn + j) % wn = j := by rw [Nat.mul_comm k wn, Nat.mul_add_mod, Nat.mod_eq_of_lt hj]
  have h2 : (k * wn + j) / wn = k := by rw [Nat.mul_comm k wn, Nat.mul_add_div (by omega), Nat.div_eq_of_lt hj, Nat.add_zero]
  unfold rkL
  rw [List.range_succ, List.map_append]
  show _ ++ [((rkW wn hn r ps (((k * wn + j) % wn : Nat) : Int) (((k * wn + j) / wn : Nat) : Int) : Nat) : Int)] = _
  rw [h1, h2]
theorem map_n {wn hn n : Nat} (hv : VMap wn hn n) : n = wn * hn ∧ 0 < n ∧ n ≤ 256 := by
  have h1 := hv.2
  have h2 := mul_bounds hv.1.1 hv.1.2.1 hv.1.2.2.1 hv.1.2.2.2.1
  have h3 := hv.1.2.2.2.2
  have h4 : ((wn * hn : Nat) : Int) = (wn : Int) * (hn : Int) := by simp
  omega
theorem own_moreI {w2 : World} {B : Nat} {e : TypeId} {v : Value} {cs : List Int} {r : Int} (ho2 : w2.ownsRow B e 1 v (cs.length + 1) (cs.map it ++ [it r])) :
    ∃ A' c', v = .slice A' (cs ++ [r]).length c' ∧ OwnI w2 B e (.slice A' (cs ++ [r]).length c') (cs ++ [r]) := by
  have ho' : OwnI w2 B e v (cs ++ [r]) := by
    unfold OwnI
    rw [List.length_append, List.map_append]
    exact ho2
  obtain ⟨A', c', rfl, _⟩ := ho'.form
  exact ⟨A', c', rfl, ho'⟩
theorem int_new {w : World} {H : Nat} {r : Int} (h : w.cell? ⟨H, 0, none⟩ = some (it r)) : ∀ j u, [it r][j]? = some u → w.cell? ((⟨H, 0, none⟩ : Addr).add j) = some u := fun j u hu => by
  cases j with
  | zero => simp only [List.getElem?_cons_zero, Option.some.injEq] at hu; subst hu; exact h
  | succ j => simp at hu
theorem int_word (r : Int) : ∀ u ∈ [it r], u.oneCell' = true := fun u hu => by
  have : u = it r := by simpa using hu
  subst this; rfl
theorem infoIr : (Try.prog.info? 2).map (fun i => (i.zero, i.size, i.bytes)) = some (some (.int .i64 0), 1, 8) := by kernel_rfl
theorem cells3_at (F : Nat → Nat → Nat → Nat) (w d i l : Nat) (hw : 0 < w) (hl : l < d) : cells3 F w d (i * d + l + 1) = cells3 F w d (i * d + l) ++ [F (i % w) (i / w) l] := by
  have h := cells3_step F w d (i / w) (i % w) l (Nat.mod_lt _ hw) hl
  rw [show i / w * w + i % w = i from Nat.div_add_mod' i w] at h
  exact h
set_option maxHeartbeats 4000000 in
set_option maxRecDepth 8000 in
theorem l02Ranks_any (g wn hn gb off n c r : Nat) (bs : List Nat) (U : World) (hB : Box3 U g (.int .i64 wn) (.int .i64 hn) (.slice (some ⟨gb, off, none⟩) n c)) (hl : Lies U gb off bs) (hlen : bs.length = n) (hv : VMap wn hn n) (hr : 1 ≤ r ∧ r ≤ 2) :
    Calls Try.prog 64 #[.pointer (some ⟨g, 0, none⟩), .int .i64 r] U fun e U' => ∃ A c' b, e = .returned (.slice A b.length c') ∧ OwnI U' U.heap.size 2 (.slice A b.length c') b ∧ Eqi b (rkL wn hn r bs (hn * wn)) ∧ Ext U U' := by
  obtain ⟨i0, hi, hz0, hz1, hz2⟩ := info_parts infoIr
  obtain ⟨hmn, hm0, hm2⟩ := map_n hv
  have hw24 : wn ≤ 24 := by have := hv.1.2.1; omega
  have hh24 : hn ≤ 24 := by have := hv.1.2.2.2.1; omega
  have HA := Lib.hid (fun (W : World) (hx' : Ext U W) (x y : Nat) (hx : x < wn) (hy : y < hn) => l02Rank_any g (x : Int) (y : Int) r (GQ (wn : Int) (hn : Int) bs) W (by omega) (by omega) hr.2 (fun W' hW' u v => l02At_any g wn hn (some ⟨gb, off, none⟩) n c bs u v W' ((hB.ext hx').ext hW') ⟨hlen, fun _ => ⟨gb, off, rfl, (hl.ext hx').ext hW'⟩⟩ hv))
  have HP := Lib.hid (fun (k j : Nat) (hk : k < hn) (hj : j < wn) => (show k * wn + j < 256 by
    have h1 : k * wn + wn ≤ hn * wn := by rw [← Nat.succ_mul]; exact Nat.mul_le_mul_right _ hk
    rw [Nat.mul_comm hn wn] at h1
    omega))
  clear hl hlen hv hr hmn hm0 hm2
  go_enter Try.func64, Try.ntmps64
  go_wp2_with fail
  go_loopw [5, 6] (fun sv yv wr => ∃ (k : Nat) (A : Option Addr) (c' : Nat) (b : List Int), k ≤ hn ∧ yv = .int .i64 k ∧ sv = .slice A b.length c' ∧ OwnI wr U.heap.size 2 (.slice A b.length c') b ∧ Eqi b (rkL wn hn r bs (k * wn)) ∧ Ext U wr) (fun _ yv _ => hn - (intOf yv).toNat)
  case atStart =>
    refine ⟨0, some ⟨U.heap.size, 0, none⟩, 0, [], Nat.zero_le _, rfl, rfl, ?_, ?_, (Ext.refl _).alloc _⟩
    · exact World.ownsRow_made (size := 1) U #[] 0 (Nat.le_refl _) (by unfold maxLen; omega) rfl
    · unfold Eqi rkL; simp
  case round =>
    obtain ⟨k, A, c', b, hk, rfl, rfl, hown, hq, hE⟩ := hrel
    have ⟨p0, p1, p2⟩ := hB.ext hE
    by_cases hlt : k < hn
    · go_wp2_with fail
      clear p0 p1 p2
      go_loopw [5, 7] (fun sv xv wq => ∃ (j : Nat) (A : Option Addr) (c' : Nat) (b : List Int), j ≤ wn ∧ xv = .int .i64 j ∧ sv = .slice A b.length c' ∧ OwnI wq U.heap.size 2 (.slice A b.length c') b ∧ Eqi b (rkL wn hn r bs (k * wn + j)) ∧ Ext U wq) (fun _ xv _ => wn - (intOf xv).toNat)
      case atStart => exact ⟨0, A, c', b, Nat.zero_le _, rfl, rfl, hown, hq, hE⟩
      case round =>
        clear hown hq hE
        obtain ⟨j, A, c', b, hj, rfl, rfl, hown, hq, hE⟩ := hrel
        have ⟨p0, p1, p2⟩ := hB.ext hE
        by_cases hltj : j < wn
        · have HC := Lib.hid (HA.out _ hE j k hltj hlt)
          have hst := rkL_step wn hn r bs k j hltj
          unfold rkW at hst
          generalize rkTo (rkB (GQ (wn : Int) (hn : Int) bs) (j : Int) (k : Int) r) r (2 * r + 1) = z at HC hst
          have HST := Lib.hid hst
          clear hst
          go_wp2_with fail
          refine HC.out.mono ?_
          rintro e w1 ⟨rfl, hx1⟩
          go_wp2_with (at_builtin; refine Hid.out ?_)
          refine Lib.hid ?_
          refine wl_at (X := fun w' => Ext w1 w' ∧ w'.cell? ⟨w1.heap.size, 0, none⟩ = some (it (z : Int))) ⟨(Ext.refl _).alloc _, cell_fresh0 _ _ _⟩ ?_
          rintro Z ⟨hZ, hcell⟩
          have hlen : b.length = k * wn + j := by rw [hq.out, rkL_length]
          have hzs := hZ.size
          have hzc := lt_of_cell hcell
          have hE1 := hE.trans hx1
          have hzb := hE1.size
          have hpp := HP.out k j hlt hltj
          have hown1 := (hown.ext hx1).ext hZ
          have hrow := hown1.row
          refine wpList_append_own _ rfl _ _ _ rfl U.heap.size 2 i0 (.int .i64 0) 1 8 Try.underlying45 hi hz0 hz1 hz2 rfl (by omega) (.slice A b.length c') b.length (b.map it) (by rfl) hown1 ⟨w1.heap.size, 0, none⟩ 1 1 [it (z : Int)] (by rfl) rfl (int_new hcell) (int_word _) (by unfold maxLen; omega) (by omega) (by omega) ?_
          intro v' w2 ho2 hg2 _
          have hE2 := Ext.grown (hE1.trans hZ) hg2 (fun g hg => by have := hrow g hg; omega)
          obtain ⟨A', c2, rfl, ho3⟩ := own_moreI ho2
          have hq2 : Eqi (b ++ [(z : Int)]) (rkL wn hn r bs (k * wn + j + 1)) := by unfold Eqi; rw [HST.out, hq.out]
          clear ho2 hg2 hown hown1 hrow hcell hZ hE hE1 hq hx1 p0 p1 p2 hlen hpp hzc hzs hzb
          go_wp2
          go_roundw
          case rel => exact ⟨j + 1, A', c2, b ++ [(z : Int)], by omega, by go_num, by simp, ho3, hq2, hE2⟩
          case measure => simp [intOf]; omega
        · have e1 : j = wn := by omega
          have hq2 : Eqi b (rkL wn hn r bs ((k + 1) * wn)) := by rw [Nat.succ_mul, ← e1]; exact e1 ▸ hq
          clear hq e1
          go_wp2
          go_roundw
          case rel => exact ⟨k + 1, A, c', b, by omega, by go_num, rfl, hown, hq2, hE⟩
          case measure => simp [intOf]; omega
    · have e1 : k = hn := by omega
      have hq2 : Eqi b (rkL wn hn r bs (hn * wn)) := e1 ▸ hq
      clear hq e1
      go_wp2
      go_ret
      exact ⟨A, c', b, rfl, hown, hq2, hE⟩
end Go.Proofs.Ytgpobhpcbgenoaa
