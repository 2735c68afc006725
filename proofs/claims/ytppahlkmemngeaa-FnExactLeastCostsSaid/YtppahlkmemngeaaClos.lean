/- Contracts of the function values that tell a volume's costs. -/
import Derived.Test.YtppahlkmemngeaaCell
namespace Go.Proofs.Ytppahlkmemngeaa
open Go.RowKit
set_option linter.unusedVariables false

theorem fcmp_nrm_left (x y : Nat) : fcmp (nrm x) y = fcmp x y := by
  have h1 := fcmp_nrm (nrm x) y
  have h2 := fcmp_nrm x y
  rw [nrm_nrm] at h1
  rw [← h1, h2]
theorem fop_nrm_left (o : BinOp) (x y : Nat) : fop o (nrm x) y = fop o x y := by
  have h1 := fop_nrm o (nrm x) y
  have h2 := fop_nrm o x y
  rw [nrm_nrm] at h1
  rw [← h1, h2]
theorem fop_nrm_right (o : BinOp) (x y : Nat) : fop o x (nrm y) = fop o x y := by
  have h1 := fop_nrm o x (nrm y)
  have h2 := fop_nrm o x y
  rw [nrm_nrm] at h1
  rw [← h1, h2]
theorem is_l {v p P r : Nat} {o : BinOp} (hv : v < 4294967296) (hp : Is p P) (h : Is r (fop o v p)) : Is r (fop o v P) := by
  have := Is.op (nrm_word hv) hp h
  rwa [fop_nrm_left] at this
theorem is_ll {v w r : Nat} {o : BinOp} (hv : v < 4294967296) (hw : w < 4294967296) (h : Is r (fop o v w)) : Is r (fop o v w) := h
theorem scale1 (wn hn dn gb off n c : Nat) (bs : List Nat) (gv : Nat) (gp : Nat) (p P : Nat) (hp : Is p P) (x y e : Nat) (U : World) (hB : Box4 U gv (.int .i64 wn) (.int .i64 hn) (.int .i64 dn) (.slice (some ⟨gb, off, none⟩) n c)) (hl : Lies U gb off bs) (hlen : bs.length = n) (hwd : Words bs) (hnc : n ≤ c) (hcm : c ≤ maxLen) (hv : VVol wn hn dn n) (hcp : U.cell? ⟨gp, 0, none⟩ = some (fl p)) (hx : x < wn) (hy : y < hn) (he : e < dn) :
    Calls Try.prog 55 #[.int .i64 x, .int .i64 y, .int .i64 e, .pointer (some ⟨gv, 0, none⟩), .pointer (some ⟨gp, 0, none⟩)] U fun e' U' => ∃ r, e' = .returned (.float .f32 r) ∧ Is r (fop .mul (bs.getD (cellN wn ((x : Int)) ((y : Int)) * dn + e) 0) P) ∧ Ext U U' := by
  have hs := hv.1
  have h1 := hs.2.1
  have h2 := hs.2.2.2.1
  have hd8 := hv.2.2.1
  have hbx : 0 ≤ ((x : Int)) ∧ ((x : Int)) ≤ (wn : Int) - 1 := ⟨by omega, by omega⟩
  have hby : 0 ≤ ((y : Int)) ∧ ((y : Int)) ≤ (hn : Int) - 1 := ⟨by omega, by omega⟩
  have hcell := fun (W : World) (hx' : Ext U W) => cellC_any gv wn hn dn gb off n c ((x : Int)) ((y : Int)) W (hB.ext hx') hnc hcm hv hbx hby
  have hkn := cell_k hv hbx hby
  generalize cellN (wn : Int) ((x : Int)) ((y : Int)) * dn = k at hcell hkn ⊢
  have hcv := hl (k + e) (by omega)
  rw [← Nat.add_assoc] at hcv
  have hwv := wd_at hwd (k + e)
  generalize bs.getD (k + e) 0 = v at hcv hwv ⊢
  have HC := Lib.hid hcell
  obtain ⟨p0, p1, p2, p3⟩ := hB
  have b0 : (0 : Int) ≤ (e : Int) := by omega
  have b1 : (e : Int) < (dn : Int) := by omega
  clear hl hlen hnc hcm hv hcell hbx hby hkn hwd hs
  go_enter Try.func55, Try.ntmps55
  go_wp2_with fail
  refine region_wx 8 [] (by kernel_rfl) (by kernel_rfl) ?_
  simp only [List.take_succ_cons, List.take_zero, List.drop_succ_cons, List.drop_zero]
  repeat ((first | refine wx_skip rfl ?_ | refine wx_nilCheck rfl rfl _ rfl _ rfl ?_ | (refine wx_float rfl rfl _ _ _ _ _ _ _ rfl rfl rfl rfl ?_; intro r hr) | (refine wx_k rfl rfl rfl (fun K hK => ?_); go_big_quiet_op; refine hK _ ?_; clear hK K) | (refine wx_call rfl rfl 56 _ _ rfl (by kernel_rfl) (by kernel_rfl) (.slice (some ⟨gb, off + k, none⟩) dn dn) (fun W hW hF => ?_) ?_; go_simp; (with_reducible refine (HC.out W hW).mono ?_); rintro e w' h; exact h)); (try simp only [Act.put, List.setIfInBounds_toArray, List.set_cons_zero, List.set_cons_succ]); (try simp only [List.tail_nil]))
  refine wx_nil (fun W hW hF => ?_)
  go_wp2
  go_ret
  exact ⟨_, rfl, is_l hwv hp (by assumption), hW⟩
theorem cap1 (wn hn dn gb off n c : Nat) (bs : List Nat) (gv : Nat) (gp : Nat) (p P : Nat) (hp : Is p P) (x y e : Nat) (U : World) (hB : Box4 U gv (.int .i64 wn) (.int .i64 hn) (.int .i64 dn) (.slice (some ⟨gb, off, none⟩) n c)) (hl : Lies U gb off bs) (hlen : bs.length = n) (hwd : Words bs) (hnc : n ≤ c) (hcm : c ≤ maxLen) (hv : VVol wn hn dn n) (hcp : U.cell? ⟨gp, 0, none⟩ = some (fl p)) (hx : x < wn) (hy : y < hn) (he : e < dn) :
    Calls Try.prog 61 #[.int .i64 x, .int .i64 y, .int .i64 e, .pointer (some ⟨gv, 0, none⟩), .pointer (some ⟨gp, 0, none⟩)] U fun e' U' => ∃ r, e' = .returned (.float .f32 r) ∧ Is r (if gtF (bs.getD (cellN wn ((x : Int)) ((y : Int)) * dn + e) 0) P = true then P else nrm (bs.getD (cellN wn ((x : Int)) ((y : Int)) * dn + e) 0)) ∧ Ext U U' := by
  have hs := hv.1
  have h1 := hs.2.1
  have h2 := hs.2.2.2.1
  have hd8 := hv.2.2.1
  have hbx : 0 ≤ ((x : Int)) ∧ ((x : Int)) ≤ (wn : Int) - 1 := ⟨by omega, by omega⟩
  have hby : 0 ≤ ((y : Int)) ∧ ((y : Int)) ≤ (hn : Int) - 1 := ⟨by omega, by omega⟩
  have hcell := fun (W : World) (hx' : Ext U W) => cellC_any gv wn hn dn gb off n c ((x : Int)) ((y : Int)) W (hB.ext hx') hnc hcm hv hbx hby
  have hkn := cell_k hv hbx hby
  generalize cellN (wn : Int) ((x : Int)) ((y : Int)) * dn = k at hcell hkn ⊢
  have hcv := hl (k + e) (by omega)
  rw [← Nat.add_assoc] at hcv
  have hwv := wd_at hwd (k + e)
  generalize bs.getD (k + e) 0 = v at hcv hwv ⊢
  have HC := Lib.hid hcell
  obtain ⟨p0, p1, p2, p3⟩ := hB
  have b0 : (0 : Int) ≤ (e : Int) := by omega
  have b1 : (e : Int) < (dn : Int) := by omega
  clear hl hlen hnc hcm hv hcell hbx hby hkn hwd hs
  by_cases hgt : gtF v P = true
  · have hgt' : (FloatKind.f32.format.order v p == some .gt) = true := by rw [Is.cmp (nrm_word hwv) hp, fcmp_nrm_left]; exact hgt
    go_enter Try.func61, Try.ntmps61
    go_wp2_with fail
    refine (HC.out _ (Ext.refl _)).mono ?_
    rintro e' w1 ⟨rfl, hx1⟩
    replace hcv := cell_ext hcv hx1
    replace hcp := cell_ext hcp hx1
    clear p0 p1 p2 p3
    go_wp2
    go_ret
    exact ⟨_, rfl, by first | exact hp | (rw [if_pos hgt]; exact hp), hx1⟩
  · have hgt' : (FloatKind.f32.format.order v p == some .gt) = false := by rw [Is.cmp (nrm_word hwv) hp, fcmp_nrm_left]; simpa [gtF] using hgt
    go_enter Try.func61, Try.ntmps61
    go_wp2_with fail
    refine (HC.out _ (Ext.refl _)).mono ?_
    rintro e' w1 ⟨rfl, hx1⟩
    replace hcv := cell_ext hcv hx1
    replace hcp := cell_ext hcp hx1
    clear p0 p1 p2 p3
    go_wp2
    go_ret
    exact ⟨_, rfl, by first | exact ⟨hwv, rfl⟩ | (rw [if_neg hgt]; exact ⟨hwv, rfl⟩), hx1⟩
theorem shallow1 (wn hn dn gb off n c : Nat) (bs : List Nat) (gv : Nat) (x y e : Nat) (U : World) (hB : Box4 U gv (.int .i64 wn) (.int .i64 hn) (.int .i64 dn) (.slice (some ⟨gb, off, none⟩) n c)) (hl : Lies U gb off bs) (hlen : bs.length = n) (hwd : Words bs) (hnc : n ≤ c) (hcm : c ≤ maxLen) (hv : VVol wn hn dn n) (hx : x < wn) (hy : y < hn) (he : e < dn) :
    Calls Try.prog 68 #[.int .i64 x, .int .i64 y, .int .i64 e, .pointer (some ⟨gv, 0, none⟩)] U fun e' U' => ∃ r, e' = .returned (.float .f32 r) ∧ Is r (nrm (bs.getD (cellN wn ((x : Int)) ((y : Int)) * dn + e) 0)) ∧ Ext U U' := by
  have hs := hv.1
  have h1 := hs.2.1
  have h2 := hs.2.2.2.1
  have hd8 := hv.2.2.1
  have hbx : 0 ≤ ((x : Int)) ∧ ((x : Int)) ≤ (wn : Int) - 1 := ⟨by omega, by omega⟩
  have hby : 0 ≤ ((y : Int)) ∧ ((y : Int)) ≤ (hn : Int) - 1 := ⟨by omega, by omega⟩
  have hcell := fun (W : World) (hx' : Ext U W) => cellC_any gv wn hn dn gb off n c ((x : Int)) ((y : Int)) W (hB.ext hx') hnc hcm hv hbx hby
  have hkn := cell_k hv hbx hby
  generalize cellN (wn : Int) ((x : Int)) ((y : Int)) * dn = k at hcell hkn ⊢
  have hcv := hl (k + e) (by omega)
  rw [← Nat.add_assoc] at hcv
  have hwv := wd_at hwd (k + e)
  generalize bs.getD (k + e) 0 = v at hcv hwv ⊢
  have HC := Lib.hid hcell
  obtain ⟨p0, p1, p2, p3⟩ := hB
  have b0 : (0 : Int) ≤ (e : Int) := by omega
  have b1 : (e : Int) < (dn : Int) := by omega
  clear hl hlen hnc hcm hv hcell hbx hby hkn hwd hs
  go_enter Try.func68, Try.ntmps68
  go_wp2_with fail
  refine (HC.out _ (Ext.refl _)).mono ?_
  rintro e' w1 ⟨rfl, hx1⟩
  replace hcv := cell_ext hcv hx1
  clear p0 p1 p2 p3
  go_wp2
  go_ret
  exact ⟨_, rfl, ⟨hwv, rfl⟩, hx1⟩
theorem other1 (wn hn dn gb off n c : Nat) (bs : List Nat) (gv : Nat) (x y e : Nat) (U : World) (hB : Box4 U gv (.int .i64 wn) (.int .i64 hn) (.int .i64 dn) (.slice (some ⟨gb, off, none⟩) n c)) (hl : Lies U gb off bs) (hlen : bs.length = n) (hwd : Words bs) (hnc : n ≤ c) (hcm : c ≤ maxLen) (hv : VVol wn hn dn n) (hx : x < wn) (hy : y < hn) (he : e < dn) :
    Calls Try.prog 78 #[.int .i64 x, .int .i64 y, .int .i64 e, .pointer (some ⟨gv, 0, none⟩)] U fun e' U' => ∃ r, e' = .returned (.float .f32 r) ∧ Is r (nrm (bs.getD (cellN wn (min ((x : Int) + (e : Int)) ((wn : Int) - 1)) ((y : Int)) * dn + e) 0)) ∧ Ext U U' := by
  have hs := hv.1
  have h1 := hs.2.1
  have h2 := hs.2.2.2.1
  have hd8 := hv.2.2.1
  have hw1 : IntKind.i64.wrap ((x : Int) + (e : Int)) = (x : Int) + (e : Int) := wrap_small _ (by omega) (by omega)
  have hw2 : IntKind.i64.wrap ((wn : Int) - 1) = (wn : Int) - 1 := wrap_small _ (by omega) (by omega)
  have hbx : 0 ≤ (min ((x : Int) + (e : Int)) ((wn : Int) - 1)) ∧ (min ((x : Int) + (e : Int)) ((wn : Int) - 1)) ≤ (wn : Int) - 1 := ⟨by omega, by omega⟩
  have hby : 0 ≤ ((y : Int)) ∧ ((y : Int)) ≤ (hn : Int) - 1 := ⟨by omega, by omega⟩
  have hcell := fun (W : World) (hx' : Ext U W) => cellC_any gv wn hn dn gb off n c (min ((x : Int) + (e : Int)) ((wn : Int) - 1)) ((y : Int)) W (hB.ext hx') hnc hcm hv hbx hby
  have hkn := cell_k hv hbx hby
  generalize cellN (wn : Int) (min ((x : Int) + (e : Int)) ((wn : Int) - 1)) ((y : Int)) * dn = k at hcell hkn ⊢
  have hcv := hl (k + e) (by omega)
  rw [← Nat.add_assoc] at hcv
  have hwv := wd_at hwd (k + e)
  generalize bs.getD (k + e) 0 = v at hcv hwv ⊢
  have HC := Lib.hid (fun (W : World) (hx' : Ext U W) (a : Int) (ha : a = min ((x : Int) + (e : Int)) ((wn : Int) - 1)) => ha ▸ hcell W hx')
  obtain ⟨p0, p1, p2, p3⟩ := hB
  have b0 : (0 : Int) ≤ (e : Int) := by omega
  have b1 : (e : Int) < (dn : Int) := by omega
  clear hl hlen hnc hcm hv hcell hbx hby hkn hwd hs
  go_enter Try.func78, Try.ntmps78
  go_wp2_with fail
  all_goals
    refine (HC.out _ (Ext.refl _) _ (by omega)).mono ?_
    rintro e' w1 ⟨rfl, hx1⟩
    replace hcv := cell_ext hcv hx1
    clear p0 p1 p2 p3
    go_wp2
    go_ret
    exact ⟨_, rfl, ⟨hwv, rfl⟩, hx1⟩
theorem swap1 (wn hn dn gb off n c : Nat) (bs : List Nat) (gv : Nat) (x y e : Nat) (U : World) (hB : Box4 U gv (.int .i64 wn) (.int .i64 hn) (.int .i64 dn) (.slice (some ⟨gb, off, none⟩) n c)) (hl : Lies U gb off bs) (hlen : bs.length = n) (hwd : Words bs) (hnc : n ≤ c) (hcm : c ≤ maxLen) (hv : VVol wn hn dn n) (hx : x < hn) (hy : y < wn) (he : e < dn) :
    Calls Try.prog 80 #[.int .i64 x, .int .i64 y, .int .i64 e, .pointer (some ⟨gv, 0, none⟩)] U fun e' U' => ∃ r, e' = .returned (.float .f32 r) ∧ Is r (nrm (bs.getD (cellN wn ((y : Int)) ((x : Int)) * dn + e) 0)) ∧ Ext U U' := by
  have hs := hv.1
  have h1 := hs.2.1
  have h2 := hs.2.2.2.1
  have hd8 := hv.2.2.1
  have hbx : 0 ≤ ((y : Int)) ∧ ((y : Int)) ≤ (wn : Int) - 1 := ⟨by omega, by omega⟩
  have hby : 0 ≤ ((x : Int)) ∧ ((x : Int)) ≤ (hn : Int) - 1 := ⟨by omega, by omega⟩
  have hcell := fun (W : World) (hx' : Ext U W) => cellC_any gv wn hn dn gb off n c ((y : Int)) ((x : Int)) W (hB.ext hx') hnc hcm hv hbx hby
  have hkn := cell_k hv hbx hby
  generalize cellN (wn : Int) ((y : Int)) ((x : Int)) * dn = k at hcell hkn ⊢
  have hcv := hl (k + e) (by omega)
  rw [← Nat.add_assoc] at hcv
  have hwv := wd_at hwd (k + e)
  generalize bs.getD (k + e) 0 = v at hcv hwv ⊢
  have HC := Lib.hid hcell
  obtain ⟨p0, p1, p2, p3⟩ := hB
  have b0 : (0 : Int) ≤ (e : Int) := by omega
  have b1 : (e : Int) < (dn : Int) := by omega
  clear hl hlen hnc hcm hv hcell hbx hby hkn hwd hs
  go_enter Try.func80, Try.ntmps80
  go_wp2_with fail
  refine (HC.out _ (Ext.refl _)).mono ?_
  rintro e' w1 ⟨rfl, hx1⟩
  replace hcv := cell_ext hcv hx1
  clear p0 p1 p2 p3
  go_wp2
  go_ret
  exact ⟨_, rfl, ⟨hwv, rfl⟩, hx1⟩
theorem flip1 (wn hn dn gb off n c : Nat) (bs : List Nat) (gv : Nat) (x y e : Nat) (U : World) (hB : Box4 U gv (.int .i64 wn) (.int .i64 hn) (.int .i64 dn) (.slice (some ⟨gb, off, none⟩) n c)) (hl : Lies U gb off bs) (hlen : bs.length = n) (hwd : Words bs) (hnc : n ≤ c) (hcm : c ≤ maxLen) (hv : VVol wn hn dn n) (hx : x < wn) (hy : y < hn) (he : e < dn) :
    Calls Try.prog 81 #[.int .i64 x, .int .i64 y, .int .i64 e, .pointer (some ⟨gv, 0, none⟩)] U fun e' U' => ∃ r, e' = .returned (.float .f32 r) ∧ Is r (nrm (bs.getD (cellN wn ((x : Int)) ((hn : Int) - 1 - (y : Int)) * dn + e) 0)) ∧ Ext U U' := by
  have hs := hv.1
  have h1 := hs.2.1
  have h2 := hs.2.2.2.1
  have hd8 := hv.2.2.1
  have hw1 : IntKind.i64.wrap ((hn : Int) - 1) = (hn : Int) - 1 := wrap_small _ (by omega) (by omega)
  have hw2 : IntKind.i64.wrap ((hn : Int) - 1 - (y : Int)) = (hn : Int) - 1 - (y : Int) := wrap_small _ (by omega) (by omega)
  have hbx : 0 ≤ ((x : Int)) ∧ ((x : Int)) ≤ (wn : Int) - 1 := ⟨by omega, by omega⟩
  have hby : 0 ≤ ((hn : Int) - 1 - (y : Int)) ∧ ((hn : Int) - 1 - (y : Int)) ≤ (hn : Int) - 1 := ⟨by omega, by omega⟩
  have hcell := fun (W : World) (hx' : Ext U W) => cellC_any gv wn hn dn gb off n c ((x : Int)) ((hn : Int) - 1 - (y : Int)) W (hB.ext hx') hnc hcm hv hbx hby
  have hkn := cell_k hv hbx hby
  generalize cellN (wn : Int) ((x : Int)) ((hn : Int) - 1 - (y : Int)) * dn = k at hcell hkn ⊢
  have hcv := hl (k + e) (by omega)
  rw [← Nat.add_assoc] at hcv
  have hwv := wd_at hwd (k + e)
  generalize bs.getD (k + e) 0 = v at hcv hwv ⊢
  have HC := Lib.hid hcell
  obtain ⟨p0, p1, p2, p3⟩ := hB
  have b0 : (0 : Int) ≤ (e : Int) := by omega
  have b1 : (e : Int) < (dn : Int) := by omega
  clear hl hlen hnc hcm hv hcell hbx hby hkn hwd hs
  go_enter Try.func81, Try.ntmps81
  go_wp2_with fail
  refine (HC.out _ (Ext.refl _)).mono ?_
  rintro e' w1 ⟨rfl, hx1⟩
  replace hcv := cell_ext hcv hx1
  clear p0 p1 p2 p3
  go_wp2
  go_ret
  exact ⟨_, rfl, ⟨hwv, rfl⟩, hx1⟩
theorem mirror1 (wn hn dn gb off n c : Nat) (bs : List Nat) (gv : Nat) (x y e : Nat) (U : World) (hB : Box4 U gv (.int .i64 wn) (.int .i64 hn) (.int .i64 dn) (.slice (some ⟨gb, off, none⟩) n c)) (hl : Lies U gb off bs) (hlen : bs.length = n) (hwd : Words bs) (hnc : n ≤ c) (hcm : c ≤ maxLen) (hv : VVol wn hn dn n) (hx : x < wn) (hy : y < hn) (he : e < dn) :
    Calls Try.prog 82 #[.int .i64 x, .int .i64 y, .int .i64 e, .pointer (some ⟨gv, 0, none⟩)] U fun e' U' => ∃ r, e' = .returned (.float .f32 r) ∧ Is r (nrm (bs.getD (cellN wn ((wn : Int) - 1 - (x : Int)) ((y : Int)) * dn + e) 0)) ∧ Ext U U' := by
  have hs := hv.1
  have h1 := hs.2.1
  have h2 := hs.2.2.2.1
  have hd8 := hv.2.2.1
  have hw1 : IntKind.i64.wrap ((wn : Int) - 1) = (wn : Int) - 1 := wrap_small _ (by omega) (by omega)
  have hw2 : IntKind.i64.wrap ((wn : Int) - 1 - (x : Int)) = (wn : Int) - 1 - (x : Int) := wrap_small _ (by omega) (by omega)
  have hbx : 0 ≤ ((wn : Int) - 1 - (x : Int)) ∧ ((wn : Int) - 1 - (x : Int)) ≤ (wn : Int) - 1 := ⟨by omega, by omega⟩
  have hby : 0 ≤ ((y : Int)) ∧ ((y : Int)) ≤ (hn : Int) - 1 := ⟨by omega, by omega⟩
  have hcell := fun (W : World) (hx' : Ext U W) => cellC_any gv wn hn dn gb off n c ((wn : Int) - 1 - (x : Int)) ((y : Int)) W (hB.ext hx') hnc hcm hv hbx hby
  have hkn := cell_k hv hbx hby
  generalize cellN (wn : Int) ((wn : Int) - 1 - (x : Int)) ((y : Int)) * dn = k at hcell hkn ⊢
  have hcv := hl (k + e) (by omega)
  rw [← Nat.add_assoc] at hcv
  have hwv := wd_at hwd (k + e)
  generalize bs.getD (k + e) 0 = v at hcv hwv ⊢
  have HC := Lib.hid hcell
  obtain ⟨p0, p1, p2, p3⟩ := hB
  have b0 : (0 : Int) ≤ (e : Int) := by omega
  have b1 : (e : Int) < (dn : Int) := by omega
  clear hl hlen hnc hcm hv hcell hbx hby hkn hwd hs
  go_enter Try.func82, Try.ntmps82
  go_wp2_with fail
  refine (HC.out _ (Ext.refl _)).mono ?_
  rintro e' w1 ⟨rfl, hx1⟩
  replace hcv := cell_ext hcv hx1
  clear p0 p1 p2 p3
  go_wp2
  go_ret
  exact ⟨_, rfl, ⟨hwv, rfl⟩, hx1⟩
theorem mix1 (wn hn dn gb off n c : Nat) (bs : List Nat) (gb2 off2 n2 c2 : Nat) (bs2 : List Nat) (gv : Nat) (gp : Nat) (gw : Nat) (gq : Nat) (p P : Nat) (hp : Is p P) (q Q : Nat) (hq : Is q Q) (x y e : Nat) (U : World) (hB : Box4 U gv (.int .i64 wn) (.int .i64 hn) (.int .i64 dn) (.slice (some ⟨gb, off, none⟩) n c)) (hl : Lies U gb off bs) (hlen : bs.length = n) (hwd : Words bs) (hnc : n ≤ c) (hcm : c ≤ maxLen) (hv : VVol wn hn dn n) (hB2 : Box4 U gw (.int .i64 wn) (.int .i64 hn) (.int .i64 dn) (.slice (some ⟨gb2, off2, none⟩) n2 c2)) (hl2 : Lies U gb2 off2 bs2) (hlen2 : bs2.length = n2) (hwd2 : Words bs2) (hnc2 : n2 ≤ c2) (hcm2 : c2 ≤ maxLen) (hv2 : VVol wn hn dn n2) (hcp : U.cell? ⟨gp, 0, none⟩ = some (fl p)) (hcq : U.cell? ⟨gq, 0, none⟩ = some (fl q)) (hx : x < wn) (hy : y < hn) (he : e < dn) :
    Calls Try.prog 73 #[.int .i64 x, .int .i64 y, .int .i64 e, .pointer (some ⟨gv, 0, none⟩), .pointer (some ⟨gp, 0, none⟩), .pointer (some ⟨gw, 0, none⟩), .pointer (some ⟨gq, 0, none⟩)] U fun e' U' => ∃ r, e' = .returned (.float .f32 r) ∧ Is r (fop .add (fop .mul (bs.getD (cellN wn ((x : Int)) ((y : Int)) * dn + e) 0) P) (fop .mul (bs2.getD (cellN wn ((x : Int)) ((y : Int)) * dn + e) 0) Q)) ∧ Ext U U' := by
  have hs := hv.1
  have h1 := hs.2.1
  have h2 := hs.2.2.2.1
  have hd8 := hv.2.2.1
  have hbx : 0 ≤ ((x : Int)) ∧ ((x : Int)) ≤ (wn : Int) - 1 := ⟨by omega, by omega⟩
  have hby : 0 ≤ ((y : Int)) ∧ ((y : Int)) ≤ (hn : Int) - 1 := ⟨by omega, by omega⟩
  have hcell := fun (W : World) (hx' : Ext U W) => cellC_any gv wn hn dn gb off n c ((x : Int)) ((y : Int)) W (hB.ext hx') hnc hcm hv hbx hby
  have hkn := cell_k hv hbx hby
  have hcell2 := fun (W : World) (hx' : Ext U W) => cellC_any gw wn hn dn gb2 off2 n2 c2 ((x : Int)) ((y : Int)) W (hB2.ext hx') hnc2 hcm2 hv2 hbx hby
  have hkn2 := cell_k hv2 hbx hby
  generalize cellN (wn : Int) ((x : Int)) ((y : Int)) * dn = k at hcell hkn hcell2 hkn2 ⊢
  have hcv := hl (k + e) (by omega)
  rw [← Nat.add_assoc] at hcv
  have hwv := wd_at hwd (k + e)
  generalize bs.getD (k + e) 0 = v at hcv hwv ⊢
  have HC := Lib.hid hcell
  have hcv2 := hl2 (k + e) (by omega)
  rw [← Nat.add_assoc] at hcv2
  have hwv2 := wd_at hwd2 (k + e)
  generalize bs2.getD (k + e) 0 = v2 at hcv2 hwv2 ⊢
  have HC2 := Lib.hid hcell2
  obtain ⟨p0, p1, p2, p3⟩ := hB
  obtain ⟨q0, q1, q2, q3⟩ := hB2
  have b0 : (0 : Int) ≤ (e : Int) := by omega
  have b1 : (e : Int) < (dn : Int) := by omega
  clear hl hlen hnc hcm hv hcell hbx hby hkn hwd hs hl2 hlen2 hnc2 hcm2 hv2 hcell2 hkn2 hwd2
  go_enter Try.func73, Try.ntmps73
  go_wp2_with fail
  refine region_wx 17 [] (by kernel_rfl) (by kernel_rfl) ?_
  simp only [List.take_succ_cons, List.take_zero, List.drop_succ_cons, List.drop_zero]
  repeat ((first | refine wx_skip rfl ?_ | refine wx_nilCheck rfl rfl _ rfl _ rfl ?_ | (refine wx_float rfl rfl _ _ _ _ _ _ _ rfl rfl rfl rfl ?_; intro r hr) | (refine wx_k rfl rfl rfl (fun K hK => ?_); go_big_quiet_op; refine hK _ ?_; clear hK K) | (refine wx_call rfl rfl 56 _ _ rfl (by kernel_rfl) (by kernel_rfl) (.slice (some ⟨gb, off + k, none⟩) dn dn) (fun W hW hF => ?_) ?_; go_simp; (with_reducible refine (HC.out W hW).mono ?_); rintro e w' h; exact h) | (refine wx_call rfl rfl 56 _ _ rfl (by kernel_rfl) (by kernel_rfl) (.slice (some ⟨gb2, off2 + k, none⟩) dn dn) (fun W hW hF => ?_) ?_; go_simp; (with_reducible refine (HC2.out W hW).mono ?_); rintro e w' h; exact h)); (try simp only [Act.put, List.setIfInBounds_toArray, List.set_cons_zero, List.set_cons_succ]); (try simp only [List.tail_nil]))
  refine wx_nil (fun W hW hF => ?_)
  go_wp2
  go_ret
  exact ⟨_, rfl, Is.op (is_l hwv hp (by assumption)) (is_l hwv2 hq (by assumption)) (by assumption), hW⟩
theorem add1 (wn hn dn gb off n c : Nat) (bs : List Nat) (gb2 off2 n2 c2 : Nat) (bs2 : List Nat) (gv : Nat) (gw : Nat) (x y e : Nat) (U : World) (hB : Box4 U gv (.int .i64 wn) (.int .i64 hn) (.int .i64 dn) (.slice (some ⟨gb, off, none⟩) n c)) (hl : Lies U gb off bs) (hlen : bs.length = n) (hwd : Words bs) (hnc : n ≤ c) (hcm : c ≤ maxLen) (hv : VVol wn hn dn n) (hB2 : Box4 U gw (.int .i64 wn) (.int .i64 hn) (.int .i64 dn) (.slice (some ⟨gb2, off2, none⟩) n2 c2)) (hl2 : Lies U gb2 off2 bs2) (hlen2 : bs2.length = n2) (hwd2 : Words bs2) (hnc2 : n2 ≤ c2) (hcm2 : c2 ≤ maxLen) (hv2 : VVol wn hn dn n2) (hx : x < wn) (hy : y < hn) (he : e < dn) :
    Calls Try.prog 76 #[.int .i64 x, .int .i64 y, .int .i64 e, .pointer (some ⟨gv, 0, none⟩), .pointer (some ⟨gw, 0, none⟩)] U fun e' U' => ∃ r, e' = .returned (.float .f32 r) ∧ Is r (fop .add (bs.getD (cellN wn ((x : Int)) ((y : Int)) * dn + e) 0) (bs2.getD (cellN wn ((x : Int)) ((y : Int)) * dn + e) 0)) ∧ Ext U U' := by
  have hs := hv.1
  have h1 := hs.2.1
  have h2 := hs.2.2.2.1
  have hd8 := hv.2.2.1
  have hbx : 0 ≤ ((x : Int)) ∧ ((x : Int)) ≤ (wn : Int) - 1 := ⟨by omega, by omega⟩
  have hby : 0 ≤ ((y : Int)) ∧ ((y : Int)) ≤ (hn : Int) - 1 := ⟨by omega, by omega⟩
  have hcell := fun (W : World) (hx' : Ext U W) => cellC_any gv wn hn dn gb off n c ((x : Int)) ((y : Int)) W (hB.ext hx') hnc hcm hv hbx hby
  have hkn := cell_k hv hbx hby
  have hcell2 := fun (W : World) (hx' : Ext U W) => cellC_any gw wn hn dn gb2 off2 n2 c2 ((x : Int)) ((y : Int)) W (hB2.ext hx') hnc2 hcm2 hv2 hbx hby
  have hkn2 := cell_k hv2 hbx hby
  generalize cellN (wn : Int) ((x : Int)) ((y : Int)) * dn = k at hcell hkn hcell2 hkn2 ⊢
  have hcv := hl (k + e) (by omega)
  rw [← Nat.add_assoc] at hcv
  have hwv := wd_at hwd (k + e)
  generalize bs.getD (k + e) 0 = v at hcv hwv ⊢
  have HC := Lib.hid hcell
  have hcv2 := hl2 (k + e) (by omega)
  rw [← Nat.add_assoc] at hcv2
  have hwv2 := wd_at hwd2 (k + e)
  generalize bs2.getD (k + e) 0 = v2 at hcv2 hwv2 ⊢
  have HC2 := Lib.hid hcell2
  obtain ⟨p0, p1, p2, p3⟩ := hB
  obtain ⟨q0, q1, q2, q3⟩ := hB2
  have b0 : (0 : Int) ≤ (e : Int) := by omega
  have b1 : (e : Int) < (dn : Int) := by omega
  clear hl hlen hnc hcm hv hcell hbx hby hkn hwd hs hl2 hlen2 hnc2 hcm2 hv2 hcell2 hkn2 hwd2
  go_enter Try.func76, Try.ntmps76
  go_wp2_with fail
  refine region_wx 13 [] (by kernel_rfl) (by kernel_rfl) ?_
  simp only [List.take_succ_cons, List.take_zero, List.drop_succ_cons, List.drop_zero]
  repeat ((first | refine wx_skip rfl ?_ | refine wx_nilCheck rfl rfl _ rfl _ rfl ?_ | (refine wx_float rfl rfl _ _ _ _ _ _ _ rfl rfl rfl rfl ?_; intro r hr) | (refine wx_k rfl rfl rfl (fun K hK => ?_); go_big_quiet_op; refine hK _ ?_; clear hK K) | (refine wx_call rfl rfl 56 _ _ rfl (by kernel_rfl) (by kernel_rfl) (.slice (some ⟨gb, off + k, none⟩) dn dn) (fun W hW hF => ?_) ?_; go_simp; (with_reducible refine (HC.out W hW).mono ?_); rintro e w' h; exact h) | (refine wx_call rfl rfl 56 _ _ rfl (by kernel_rfl) (by kernel_rfl) (.slice (some ⟨gb2, off2 + k, none⟩) dn dn) (fun W hW hF => ?_) ?_; go_simp; (with_reducible refine (HC2.out W hW).mono ?_); rintro e w' h; exact h)); (try simp only [Act.put, List.setIfInBounds_toArray, List.set_cons_zero, List.set_cons_succ]); (try simp only [List.tail_nil]))
  refine wx_nil (fun W hW hF => ?_)
  go_wp2
  go_ret
  exact ⟨_, rfl, is_ll hwv hwv2 (by assumption), hW⟩
end Go.Proofs.Ytppahlkmemngeaa
