/- Contracts: sums of paths. -/
import Derived.Test.YtpjlfgaflbghmaaPathC
import Derived.Test.YtpjlfgaflbghmaaSpecV
namespace Go.Proofs.Ytpjlfgaflbghmaa
open Go.RowKit
set_option linter.unusedVariables false

/-- The sums of k rows of words. -/
def sumL (P : Nat → List Nat) (n : Nat) : Nat → List Nat
  | 0 => List.replicate n 0
  | k + 1 => (List.range n).map fun i => fop .add ((sumL P n k).getD i 0) ((P k).getD i 0)
theorem sumL_len (P : Nat → List Nat) (n : Nat) : ∀ k, (sumL P n k).length = n
  | 0 => by simp [sumL]
  | k + 1 => by simp [sumL]
theorem cells3_rep (wn dn n : Nat) : cells3 (fun _ _ _ => 0) wn dn n = List.replicate n 0 := by
  unfold cells3; simp [List.map_const']
theorem len_of_map {b L : List Nat} {n : Nat} (h : b.map nrm = L) (hL : L.length = n) : b.length = n := by have := congrArg List.length h; rw [List.length_map, hL] at this; exact this
@[go_sem] theorem field_vol3 (a b c : Int) (A : Option Addr) (n k : Nat) (w : World) : (Instr.field 33 (.agg #[.int .i64 a, .int .i64 b, .int .i64 c, .slice A n k]) 3).run Try.prog w = .ok (.slice A n k) w := by kernel_rfl
theorem sums1_any (x y e : Int) (U : World) : Calls Try.prog 115 #[.int .i64 x, .int .i64 y, .int .i64 e] U fun e' U' => e' = .returned (.float .f32 0) ∧ Ext U U' := by
  go_enter Try.func115, Try.ntmps115
  go_wp2
  go_ret
  exact ⟨rfl, Ext.refl _⟩
set_option maxHeartbeats 4000000 in
set_option maxRecDepth 8000 in
theorem sums_any (wn hn dn gb off n c m : Nat) (hm8 : m ≤ 8) (g : FuncId) (lp lb : Array Value) (P : Nat → List Nat) (U : World) (hv : VVol wn hn dn n) (hPl : ∀ k, (P k).length = n)
    (hpath : ∀ (W : World) (k : Nat), Ext U W → k < m → Calls Try.prog 72 #[.agg #[.int .i64 wn, .int .i64 hn, .int .i64 dn, .slice (some ⟨gb, off, none⟩) n c], .int .i64 k, .func (.func g) lp lb] W fun e U' => ∃ H c' b, e = .returned (.agg #[.int .i64 wn, .int .i64 hn, .int .i64 dn, .slice (some ⟨H, 0, none⟩) n c']) ∧ OwnF U' W.heap.size 25 (.slice (some ⟨H, 0, none⟩) n c') b ∧ b.map nrm = P k ∧ Words b ∧ Ext W U') :
    Calls Try.prog 76 #[.agg #[.int .i64 wn, .int .i64 hn, .int .i64 dn, .slice (some ⟨gb, off, none⟩) n c], .int .i64 m, .func (.func g) lp lb] U fun e U' => ∃ H c' b, e = .returned (.agg #[.int .i64 wn, .int .i64 hn, .int .i64 dn, .slice (some ⟨H, 0, none⟩) n c']) ∧ OwnF U' U.heap.size 25 (.slice (some ⟨H, 0, none⟩) n c') b ∧ b.map nrm = sumL P n m ∧ Words b ∧ Ext U U' := by
  obtain ⟨hnn, h0, hn2⟩ := vol_n hv
  have hwh := vol_wh hv
  have hs := hv.1
  have h1 : wn ≤ 24 := by have := hs.2.1; omega
  have h2 : hn ≤ 24 := by have := hs.2.2.2.1; omega
  have hd8 : dn ≤ 8 := by have := hv.2.2.1; omega
  have HK := Lib.hid (fun (w1 : World) => ((volumeOf_any wn hn dn hwh hd8 h1 h2 115 #[] (fun _ _ _ => 0) w1 (by kernel_rfl) (fun x y e U' h1 h2 h3 h4 => (sums1_any x y e U').mono (fun e' w' h => by obtain ⟨rfl, hx⟩ := h; exact ⟨0, rfl, Is.zero, hx⟩))).mono (fun e w' h => by
    obtain ⟨A, c', b, rfl, ho, hm, hwb, hx⟩ := h
    rw [cells3_rep] at hm
    have hbl : b.length = n := by rw [len_of_map hm (List.length_replicate ..)]; omega
    obtain ⟨H, rfl⟩ := ho.at (by omega)
    rw [hbl] at ho ⊢
    exact ⟨H, c', b, rfl, ho, by rw [hm, sumL, hnn], hwb, hx⟩) : Calls Try.prog 100 #[.int .i64 wn, .int .i64 hn, .int .i64 dn, .func (.func 115) #[] #[]] w1 fun e U' => ∃ H c' b, e = .returned (.agg #[.int .i64 wn, .int .i64 hn, .int .i64 dn, .slice (some ⟨H, 0, none⟩) n c']) ∧ OwnF U' w1.heap.size 25 (.slice (some ⟨H, 0, none⟩) n c') b ∧ b.map nrm = sumL P n 0 ∧ Words b ∧ Ext w1 U'))
  have HPA := Lib.hid hpath
  have HPL := Lib.hid hPl
  clear hpath hPl hv hs hwh hnn h1 h2 hd8
  go_enter Try.func76, Try.ntmps76
  go_wp2_with fail
  refine calls_at (X := fun w' => Ext U w' ∧ Box4 w' U.heap.size (.int .i64 wn) (.int .i64 hn) (.int .i64 dn) (.slice (some ⟨gb, off, none⟩) n c) ∧ Res4 w' (U.heap.size + 1) ∧ U.heap.size + 1 + 1 ≤ w'.heap.size) ⟨((Ext.refl _).alloc _).alloc _, ⟨by simp [go_sem], by simp [go_sem], by simp [go_sem], by simp [go_sem]⟩, ⟨by simp [go_sem], by simp [go_sem], by simp [go_sem], by simp [go_sem], by simp [go_sem], by simp [go_sem], by simp [go_sem], by simp [go_sem]⟩, by simp⟩ ?_
  rintro w0 ⟨hx0, hb0, hr0, hs0⟩
  refine (HK.out w0).mono ?_
  rintro e w1 ⟨H, cH, b0, rfl, ho, hm, hwb, hx⟩
  have hb1 := hb0.ext hx
  have hr1 := hr0.ext hx
  have hE1 := hx0.trans hx
  have hs1 := Nat.le_trans hs0 hx.size
  have hHg := ho.ge
  clear hx hx0 hb0 hr0
  go_wp2_with fail
  refine wp_at (X := fun w' => Ext w1 w' ∧ Box4 w' w1.heap.size (.int .i64 wn) (.int .i64 hn) (.int .i64 dn) (.slice (some ⟨H, 0, none⟩) n cH)) ⟨(Ext.refl _).alloc _, ⟨by simp [go_sem], by simp [go_sem], by simp [go_sem], by simp [go_sem]⟩⟩ ?_
  rintro w2 ⟨hx2, hbo⟩
  obtain ⟨go, hgo⟩ : ∃ go, w1.heap.size = go := ⟨_, rfl⟩
  rw [hgo] at hbo hHg ⊢
  have hbv := hb1.ext hx2
  have hr2 := hr1.ext hx2
  have hE2 := hE1.trans hx2
  have ho2 := ho.ext hx2
  clear hx2 hE1 hr1 ho hb1
  go_loopw [19] (fun iv wr => ∃ (k : Nat) (cs : List Nat), k ≤ m ∧ iv = .int .i64 k ∧ OwnF wr w0.heap.size 25 (.slice (some ⟨H, 0, none⟩) n cH) cs ∧ cs.map nrm = sumL P n k ∧ Words cs ∧ But H w2 wr) (fun iv _ => m - (intOf iv).toNat)
  case atStart => exact ⟨0, b0, Nat.zero_le _, rfl, ho2, hm, hwb, But.refl _ _⟩
  case round =>
    clear ho2 hm hwb
    obtain ⟨k, cs, hk, rfl, hown, hcm', hcw, hbut⟩ := hrel
    have hEr := But.toExt hE2 (by omega) hbut
    by_cases hlt : k < m
    · have hlt' : (k : Int) < (m : Int) := by omega
      have ⟨p0, p1, p2, p3⟩ := hbv.but hbut (by omega)
      go_wp2_with fail
      refine (HPA.out _ k hEr hlt).mono ?_
      rintro e w3 ⟨Hp, cp, pb, rfl, hop, hpm, hpw, hx3⟩
      have hpl := len_of_map hpm (HPL.out k)
      have hcl := len_of_map hcm' (sumL_len P n k)
      have hHp := hop.ge
      have hsz3 := hx3.size
      have hHw := hown.ge
      have hb3 := hbut.ext hx3
      have hown3 := hown.ext hx3
      have hsz2 := hbut.size
      have HPM := Lib.hid (fun i => getD_of_map hpm i)
      have HSM := Lib.hid (fun i => getD_of_map hcm' i)
      have HPC := Lib.hid (fun i (hi : i < n) => hop.cell (i := i) (by rw [hpl]; exact hi))
      clear p0 p1 p2 p3 hpm hcm' hpw hx3 hown hbut hpl hcl hop
      go_wp2_with fail
      go_loopw [28] (fun iv wr => ∃ i : Nat, i ≤ n ∧ iv = .int .i64 i ∧ FilB w3 wr w0.heap.size 25 H n cH cs i (fun i => fop .add ((sumL P n k).getD i 0) ((P k).getD i 0))) (fun iv _ => n - (intOf iv).toNat)
      case atStart => exact ⟨0, Nat.zero_le _, rfl, FilB.start hown3⟩
      case round =>
        clear hown3
        obtain ⟨i, hi, rfl, hfil⟩ := hrel
        by_cases hlti : i < n
        · have hcH := hfil.cell hlti (Nat.le_refl _)
          have hcP := cell_but (HPC.out i hlti) hfil.but (by omega)
          have ⟨o0, o1, o2, o3⟩ := hbo.but (hb3.trans hfil.but) (by omega)
          obtain ⟨vj, hvj⟩ : ∃ v, cs.getD i 0 = v := ⟨_, rfl⟩
          obtain ⟨vo, hvo⟩ : ∃ v, pb.getD i 0 = v := ⟨_, rfl⟩
          have HVJ := Lib.hid hvj
          have HVO := Lib.hid hvo
          rw [hvj] at hcH
          rw [hvo] at hcP
          have hk0 : (0 : Int) ≤ (i : Int) := by omega
          have hk1 : (i : Int) < (n : Int) := by omega
          clear hvj hvo
          have hcf := hfil.cool i
          go_wp2
          go_roundw
          case rel => exact ⟨i + 1, by omega, by go_num, (hfil.later (Ext.drewN (Ext.refl _) _)).put hlti (by show Is _ (fop .add ((sumL P n k).getD i 0) ((P k).getD i 0)); rw [← HSM.out i, ← HPM.out i, HVJ.out, HVO.out, add_nn]; exact flR_is _ _ _ _)⟩
          case measure => simp [intOf]; omega
        · have e1 : i = n := by omega
          rw [e1] at hfil
          obtain ⟨b2, hb2l, hb2o, hb2m, hb2w⟩ := hfil.done
          have hb4 := hb3.trans hfil.but
          clear hfil hb3
          go_wp2
          go_roundw
          case rel => exact ⟨k + 1, b2, by omega, by go_num, hb2o, hb2m, hb2w, hb4⟩
          case measure => simp [intOf]; omega
    · have e1 : k = m := by omega
      rw [e1] at hcm'
      have ⟨c0, c1, c2, c3, f0, f1, f2, f3⟩ := hr2.but hbut (by omega)
      have ⟨o0, o1, o2, o3⟩ := hbo.but hbut (by omega)
      clear hbut
      go_wp2
      refine bodyPost_ret (v := .agg #[.int .i64 wn, .int .i64 hn, .int .i64 dn, .slice (some ⟨H, 0, none⟩) n cH]) (by simp [results, Try.results76, go_sem, *]) rfl ⟨H, cH, cs, rfl, ?_, hcm', hcw, ?_⟩
      · refine OwnF.weaken (base := w0.heap.size) ?_ (by omega)
        repeat (first | (with_reducible exact hown) | (with_reducible refine OwnF.set_below ?_ (by dsimp only; omega) _))
      · repeat (first | (with_reducible exact hEr) | (with_reducible refine Ext.setCell ?_ (by dsimp only; omega) _))
theorem Box4.reset {w : World} {g : Nat} {p q r s p' q' r' s' : Value} (h : Box4 w g p q r s) : Box4 ((((w.setCell ⟨g, 0, none⟩ p').setCell ⟨g, 1, none⟩ q').setCell ⟨g, 2, none⟩ r').setCell ⟨g, 3, none⟩ s') g p' q' r' s' := by
  obtain ⟨a0, a1, a2, a3⟩ := h
  exact ⟨by simp [go_sem, *], by simp [go_sem, *], by simp [go_sem, *], by simp [go_sem, *]⟩
/-- Four cells that may be written. -/
def Cool4 (w : World) (g : Nat) : Prop := w.frozen? ⟨g, 0, none⟩ = false ∧ w.frozen? ⟨g, 1, none⟩ = false ∧ w.frozen? ⟨g, 2, none⟩ = false ∧ w.frozen? ⟨g, 3, none⟩ = false
theorem Cool4.reset {w : World} {g : Nat} {p' q' r' s' : Value} (h : Cool4 w g) : Cool4 ((((w.setCell ⟨g, 0, none⟩ p').setCell ⟨g, 1, none⟩ q').setCell ⟨g, 2, none⟩ r').setCell ⟨g, 3, none⟩ s') g := by
  obtain ⟨a0, a1, a2, a3⟩ := h
  exact ⟨by simp [go_sem, *], by simp [go_sem, *], by simp [go_sem, *], by simp [go_sem, *]⟩
theorem Cool4.ext {w w' : World} {g : Nat} {p q r s : Value} (h : Cool4 w g) (hb : Box4 w g p q r s) (hx : Ext w w') : Cool4 w' g := by
  obtain ⟨a0, a1, a2, a3⟩ := h
  exact ⟨(hx.marks _ _ (by rw [hb.1]; rfl)).trans a0, (hx.marks _ _ (by rw [hb.2.1]; rfl)).trans a1, (hx.marks _ _ (by rw [hb.2.2.1]; rfl)).trans a2, (hx.marks _ _ (by rw [hb.2.2.2]; rfl)).trans a3⟩
set_option maxHeartbeats 4000000 in
set_option maxRecDepth 8000 in
theorem l04Sums_any (g gp gq wn hn dn gb off n c m : Nat) (hm8 : m ≤ 8) (P : Nat → List Nat) (U : World) (hB : Box4 U g (.int .i64 wn) (.int .i64 hn) (.int .i64 dn) (.slice (some ⟨gb, off, none⟩) n c)) (hv : VVol wn hn dn n) (hPl : ∀ k, (P k).length = n)
    (hpath : ∀ (W : World) (k : Nat), Ext U W → k < m → Calls Try.prog 69 #[.pointer (some ⟨g, 0, none⟩), .pointer (some ⟨gp, 0, none⟩), .int .i64 k, .bool false, .pointer (some ⟨gq, 0, none⟩)] W fun e U' => ∃ H c' b, e = .returned (.agg #[.int .i64 wn, .int .i64 hn, .int .i64 dn, .slice (some ⟨H, 0, none⟩) n c']) ∧ OwnF U' W.heap.size 25 (.slice (some ⟨H, 0, none⟩) n c') b ∧ b.map nrm = P k ∧ Words b ∧ Ext W U') :
    Calls Try.prog 75 #[.pointer (some ⟨g, 0, none⟩), .pointer (some ⟨gp, 0, none⟩), .int .i64 m, .pointer (some ⟨gq, 0, none⟩)] U fun e U' => ∃ H c' b, e = .returned (.agg #[.int .i64 wn, .int .i64 hn, .int .i64 dn, .slice (some ⟨H, 0, none⟩) n c']) ∧ OwnF U' U.heap.size 25 (.slice (some ⟨H, 0, none⟩) n c') b ∧ b.map nrm = sumL P n m ∧ Ext U U' := by
  obtain ⟨hnn, h0, hn2⟩ := vol_n hv
  have hgl := hB.lt
  have hNEW := Lib.hid (fun (W : World) (hE : Ext U W) => l04New_any g wn hn dn gb off n c W (hB.ext hE) h0 hn2)
  have HPA := Lib.hid hpath
  have HPL := Lib.hid hPl
  clear hpath hPl hv hnn hB
  go_enter Try.func75, Try.ntmps75
  go_wp2_with fail
  refine calls_at (X := fun w' => Ext U w' ∧ Res4 w' U.heap.size ∧ U.heap.size + 1 ≤ w'.heap.size) ⟨(Ext.refl _).alloc _, ⟨by simp [go_sem], by simp [go_sem], by simp [go_sem], by simp [go_sem], by simp [go_sem], by simp [go_sem], by simp [go_sem], by simp [go_sem]⟩, by simp⟩ ?_
  rintro w0 ⟨hx0, hr0, hs0⟩
  refine (hNEW.out w0 hx0).mono ?_
  rintro e w1 ⟨H0, cH0, rfl, ho, hx⟩
  have hr1 := hr0.ext hx
  have hE1 := hx0.trans hx
  have hHc0 : n ≤ cH0 ∧ cH0 ≤ maxLen := by
    obtain ⟨A', c', he, q1, q2, _⟩ := ho.form
    simp only [Value.slice.injEq, List.length_replicate] at he q1
    omega
  have hs1 := hx.size
  clear hx hx0 hr0
  go_wp2_with fail
  refine wp_at (X := fun w' => Ext w1 w' ∧ Box4 w' w1.heap.size (.int .i64 wn) (.int .i64 hn) (.int .i64 dn) (.slice (some ⟨H0, 0, none⟩) n cH0) ∧ Cool4 w' w1.heap.size ∧ w1.heap.size < w'.heap.size) ⟨(Ext.refl _).alloc _, ⟨by simp [go_sem], by simp [go_sem], by simp [go_sem], by simp [go_sem]⟩, ⟨by simp [go_sem], by simp [go_sem], by simp [go_sem], by simp [go_sem]⟩, by simp⟩ ?_
  rintro w2 ⟨hx2, hbo0, hco0, hs2⟩
  obtain ⟨go, hgo⟩ : ∃ go, w1.heap.size = go := ⟨_, rfl⟩
  rw [hgo] at hbo0 hco0 hs2 hs1 ⊢
  have hr2 := hr1.ext hx2
  have hE2 := hE1.trans hx2
  have ho2 := ho.ext hx2
  have hHg0 := ho.ge
  rw [hgo] at hHg0
  clear hx2 hE1 hr1 ho
  go_loopw [10] (fun iv wr => ∃ (k H cH : Nat) (cs : List Nat), k ≤ m ∧ iv = .int .i64 k ∧ Box4 wr go (.int .i64 wn) (.int .i64 hn) (.int .i64 dn) (.slice (some ⟨H, 0, none⟩) n cH) ∧ Cool4 wr go ∧ OwnF wr w0.heap.size 25 (.slice (some ⟨H, 0, none⟩) n cH) cs ∧ H ≠ go ∧ (n ≤ cH ∧ cH ≤ maxLen) ∧ cs.map nrm = sumL P n k ∧ But go w2 wr) (fun iv _ => m - (intOf iv).toNat)
  case atStart => exact ⟨0, H0, cH0, _, Nat.zero_le _, rfl, hbo0, hco0, ho2, by omega, hHc0, by rw [sumL, List.map_replicate]; rfl, But.refl _ _⟩
  case round =>
    clear ho2 hbo0 hco0
    obtain ⟨k, H, cH, cs, hk, rfl, hbo, hco, hown, hHgo, hHc, hcm', hbut⟩ := hrel
    have hEr := But.toExt hE2 (by omega) hbut
    have hbsz := hbut.size
    by_cases hlt : k < m
    · have hlt' : (k : Int) < (m : Int) := by omega
      go_wp2_with fail
      refine (HPA.out _ k hEr hlt).mono ?_
      rintro e w3 ⟨Hp, cp, pb, rfl, hop, hpm, hpw, hx3⟩
      have hpl := len_of_map hpm (HPL.out k)
      have hcl := len_of_map hcm' (sumL_len P n k)
      have hHpc : n ≤ cp ∧ cp ≤ maxLen := by
        obtain ⟨A', c', he, q1, q2, _⟩ := hop.form
        simp only [Value.slice.injEq] at he
        omega
      have hbo3 := hbo.ext hx3
      have hco3 := hco.ext hbo hx3
      have hown3 := hown.ext hx3
      have hbut3 := hbut.ext hx3
      have hsz3 := hx3.size
      clear hbo hco hown hbut hx3
      go_wp2_with fail
      refine calls_at (X := fun w' => Ext w3 w' ∧ Box4 w' w3.heap.size (.int .i64 wn) (.int .i64 hn) (.int .i64 dn) (.slice (some ⟨Hp, 0, none⟩) n cp)) ⟨(Ext.refl _).alloc _, ⟨by simp [go_sem], by simp [go_sem], by simp [go_sem], by simp [go_sem]⟩⟩ ?_
      rintro w4 ⟨hx4, hbp⟩
      have hbo4 := hbo3.ext hx4
      have hco4 := hco3.ext hbo3 hx4
      have hbut4 := hbut3.ext hx4
      have hsz4 := hx4.size
      refine (l04Sum_any go w3.heap.size wn hn dn H 0 n cH Hp 0 cp cs pb w4 hbo4 hbp (hown3.ext hx4).lies (hop.ext hx4).lies hcl hpl h0 hn2 hHc.1 hHc.2 hHpc.1 hHpc.2).mono ?_
      rintro e w5 ⟨Hs, cS, b, rfl, hbl, hos, hsm, hx5⟩
      have hbo5 := hbo4.ext hx5
      have hco5 := hco4.ext hbo4 hx5
      have hbut5 := hbut4.ext hx5
      have hHsg := hos.ge
      have hHsc : n ≤ cS ∧ cS ≤ maxLen := by
        obtain ⟨A', c', he, q1, q2, _⟩ := hos.form
        simp only [Value.slice.injEq] at he
        omega
      have hsm2 : b.map nrm = sumL P n (k + 1) := by
        rw [hsm, sumL]
        refine List.map_congr_left fun i hi => ?_
        rw [← getD_of_map hcm' i, ← getD_of_map hpm i, add_nn]
      have ⟨o0, o1, o2, o3⟩ := hbo5
      have ⟨q0, q1, q2, q3⟩ := hco5
      clear hbo3 hco3 hown3 hbut3 hbo4 hco4 hbut4 hbp hop hx4 hx5 hpm hcm' hsm hpw
      go_wp2
      go_roundw
      case rel => exact ⟨k + 1, Hs, cS, b, by omega, by go_num, hbo5.reset, hco5.reset, OwnF.weaken (base := w4.heap.size) ((((hos.set_below (by dsimp only; omega) _).set_below (by dsimp only; omega) _).set_below (by dsimp only; omega) _).set_below (by dsimp only; omega) _) (by omega), by omega, hHsc, hsm2, (((hbut5.set 0 _).set 1 _).set 2 _).set 3 _⟩
      case measure => simp [intOf]; omega
    · have e1 : k = m := by omega
      rw [e1] at hcm'
      have ⟨c0, c1, c2, c3, f0, f1, f2, f3⟩ := hr2.but hbut (by omega)
      have ⟨o0, o1, o2, o3⟩ := hbo
      clear hbut hbo hco
      go_wp2
      refine bodyPost_ret (v := .agg #[.int .i64 wn, .int .i64 hn, .int .i64 dn, .slice (some ⟨H, 0, none⟩) n cH]) (by simp [results, Try.results75, go_sem, *]) rfl ⟨H, cH, cs, rfl, ?_, hcm', ?_⟩
      · refine OwnF.weaken (base := w0.heap.size) ?_ (by omega)
        repeat (first | (with_reducible exact hown) | (with_reducible refine OwnF.set_below ?_ (by dsimp only; omega) _))
      · repeat (first | (with_reducible exact hEr) | (with_reducible refine Ext.setCell ?_ (by dsimp only; omega) _))
end Go.Proofs.Ytpjlfgaflbghmaa
