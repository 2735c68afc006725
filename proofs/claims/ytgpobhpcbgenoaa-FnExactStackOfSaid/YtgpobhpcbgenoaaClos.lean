/- Contracts of the function values that tell a volume's costs. -/
import Derived.Test.YtgpobhpcbgenoaaCell
namespace Go.Proofs.Ytgpobhpcbgenoaa
open Go.RowKit
set_option linter.unusedVariables false

theorem fcmp_nrm_left (x y : Nat) : fcmp (nrm x) y = fcmp x y := by
  have h1 := fcmp_nrm (nrm x) y
  have h2 := fcmp_nrm x y
  rw [nrm_nrm] at h1
  rw [← h1, h2]
theorem fop_nrm_left (o : BinOp) (x y : Nat) : fop o (nrm x) y = fop o x y := by
  have h1 := fop_nrm o (nrm x) y
  have h2 := fop_nrm o x y
  rw [nrm_nrm] at h1
  rw [← h1, h2]
theorem fop_nrm_right (o : BinOp) (x y : Nat) : fop o x (nrm y) = fop o x y := by
  have h1 := fop_nrm o x (nrm y)
  have h2 := fop_nrm o x y
  rw [nrm_nrm] at h1
  rw [← h1, h2]
theorem is_l {v p P r : Nat} {o : BinOp} (hv : v < 4294967296) (hp : Is p P) (h : Is r (fop o v p)) : Is r (fop o v P) := by
  have := Is.op (nrm_word hv) hp h
  rwa [fop_nrm_left] at this
theorem is_ll {v w r : Nat} {o : BinOp} (hv : v < 4294967296) (hw : w < 4294967296) (h : Is r (fop o v w)) : Is r (fop o v w) := h
theorem shallow1 (wn hn dn gb off n c : Nat) (bs : List Nat) (gv : Nat) (x y e : Nat) (U : World) (hB : Box4 U gv (.int .i64 wn) (.int .i64 hn) (.int .i64 dn) (.slice (some ⟨gb, off, none⟩) n c)) (hl : Lies U gb off bs) (hlen : bs.length = n) (hwd : Words bs) (hnc : n ≤ c) (hcm : c ≤ maxLen) (hv : VVol wn hn dn n) (hx : x < wn) (hy : y < hn) (he : e < dn) :
    Calls Try.prog 95 #[.int .i64 x, .int .i64 y, .int .i64 e, .pointer (some ⟨gv, 0, none⟩)] U fun e' U' => ∃ r, e' = .returned (.float .f32 r) ∧ Is r (nrm (bs.getD (cellN wn ((x : Int)) ((y : Int)) * dn + e) 0)) ∧ Ext U U' := by
  have hs := hv.1
  have h1 := hs.2.1
  have h2 := hs.2.2.2.1
  have hd8 := hv.2.2.1
  have hbx : 0 ≤ ((x : Int)) ∧ ((x : Int)) ≤ (wn : Int) - 1 := ⟨by omega, by omega⟩
  have hby : 0 ≤ ((y : Int)) ∧ ((y : Int)) ≤ (hn : Int) - 1 := ⟨by omega, by omega⟩
  have hcell := fun (W : World) (hx' : Ext U W) => cellC_any gv wn hn dn gb off n c ((x : Int)) ((y : Int)) W (hB.ext hx') hnc hcm hv hbx hby
  have hkn := cell_k hv hbx hby
  generalize cellN (wn : Int) ((x : Int)) ((y : Int)) * dn = k at hcell hkn ⊢
  have hcv := hl (k + e) (by omega)
  rw [← Nat.add_assoc] at hcv
  have hwv := wd_at hwd (k + e)
  generalize bs.getD (k + e) 0 = v at hcv hwv ⊢
  have HC := Lib.hid hcell
  obtain ⟨p0, p1, p2, p3⟩ := hB
  have b0 : (0 : Int) ≤ (e : Int) := by omega
  have b1 : (e : Int) < (dn : Int) := by omega
  clear hl hlen hnc hcm hv hcell hbx hby hkn hwd hs
  go_enter Try.func95, Try.ntmps95
  go_wp2_with fail
  refine (HC.out _ (Ext.refl _)).mono ?_
  rintro e' w1 ⟨rfl, hx1⟩
  replace hcv := cell_ext hcv hx1
  clear p0 p1 p2 p3
  go_wp2
  go_ret
  exact ⟨_, rfl, ⟨hwv, rfl⟩, hx1⟩
end Go.Proofs.Ytgpobhpcbgenoaa
