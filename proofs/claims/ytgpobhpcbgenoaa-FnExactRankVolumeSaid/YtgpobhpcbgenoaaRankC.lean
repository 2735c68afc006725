/- Contracts: the program's volume of ranks. -/
import Derived.Test.YtgpobhpcbgenoaaRankD
import Derived.Test.YtgpobhpcbgenoaaRank
import Derived.Test.YtgpobhpcbgenoaaCompare
import Derived.Test.YtgpobhpcbgenoaaWholeS
namespace Go.Proofs.Ytgpobhpcbgenoaa
open Go.RowKit
set_option linter.unusedVariables false

def GQ (w h : Int) (bs : List Nat) (u v : Int) : Nat := bs.getD (cellN w (clampI u w) (clampI v h)) 0
/-- The rank of a cell. -/
def rkW (wn hn r : Nat) (ps : List Nat) (x y : Int) : Nat := rkTo (rkB (GQ (wn : Int) (hn : Int) ps) x y r) r (2 * r + 1)
def rkF (wn hn r : Nat) (ls rs : List Nat) (x y e : Nat) : Nat := floatOfInt .f32 ((pcN 24 ((rkW wn hn r ls (x : Int) (y : Int) ^^^ rkW wn hn r rs (clampI ((x : Int) - (e : Int)) wn) (y : Int)) % 16777216) : Nat) : Int)
theorem rkW_lt (wn hn r : Nat) (hr : r ≤ 2) (ps : List Nat) (x y : Int) : rkW wn hn r ps x y < 1073741824 := by
  have := rkTo_lt (rkB (GQ (wn : Int) (hn : Int) ps) x y r) hr (2 * r + 1) (Nat.le_refl _)
  unfold rkW
  omega
set_option maxHeartbeats 2000000 in
set_option maxRecDepth 8000 in
theorem rk1_any (wn hn gb off n c gb2 off2 c2 : Nat) (bs bs2 : List Nat) (gl gr gq : Nat) (x y e r : Nat) (U : World) (hB : Box3 U gl (.int .i64 wn) (.int .i64 hn) (.slice (some ⟨gb, off, none⟩) n c)) (hB2 : Box3 U gr (.int .i64 wn) (.int .i64 hn) (.slice (some ⟨gb2, off2, none⟩) n c2)) (hq : U.cell? ⟨gq, 0, none⟩ = some (.int .i64 r)) (hl : Lies U gb off bs) (hlen : bs.length = n) (hl2 : Lies U gb2 off2 bs2) (hlen2 : bs2.length = n) (hv : VMap wn hn n) (hx : x < wn) (hy : y < hn) (he : e < 8) (hr : 1 ≤ r ∧ r ≤ 2) :
    Calls Try.prog 69 #[.int .i64 x, .int .i64 y, .int .i64 e, .pointer (some ⟨gl, 0, none⟩), .pointer (some ⟨gq, 0, none⟩), .pointer (some ⟨gr, 0, none⟩)] U fun e' U' => ∃ r', e' = .returned (.float .f32 r') ∧ Is r' (rkF wn hn r bs bs2 x y e) ∧ Ext U U' := by
  have h1 := hv.1.2.1
  have h2 := hv.1.2.2.2.1
  have h1w : 1 ≤ (wn : Int) := hv.1.1
  have hw1 : IntKind.i64.wrap ((x : Int) - (e : Int)) = (x : Int) - (e : Int) := wrap_small _ (by omega) (by omega)
  have hcb := clampI_bounds ((x : Int) - (e : Int)) h1w
  have HA := Lib.hid (fun (W : World) (hx' : Ext U W) => rank_any gl (x : Int) (y : Int) r (GQ (wn : Int) (hn : Int) bs) W (by omega) (by omega) hr.2 (fun W' hW' u v => about_any gl wn hn (some ⟨gb, off, none⟩) n c bs u v W' ((hB.ext hx').ext hW') ⟨hlen, fun _ => ⟨gb, off, rfl, (hl.ext hx').ext hW'⟩⟩ hv))
  have HB := Lib.hid (fun (W : World) (hx' : Ext U W) => rank_any gr (clampI ((x : Int) - (e : Int)) wn) (y : Int) r (GQ (wn : Int) (hn : Int) bs2) W (by omega) (by omega) hr.2 (fun W' hW' u v => about_any gr wn hn (some ⟨gb2, off2, none⟩) n c2 bs2 u v W' ((hB2.ext hx').ext hW') ⟨hlen2, fun _ => ⟨gb2, off2, rfl, (hl2.ext hx').ext hW'⟩⟩ hv))
  have hla := rkW_lt wn hn r hr.2 bs (x : Int) (y : Int)
  have hlb := rkW_lt wn hn r hr.2 bs2 (clampI ((x : Int) - (e : Int)) wn) (y : Int)
  have hF : rkF wn hn r bs bs2 x y e = floatOfInt .f32 ((pcN 24 ((rkW wn hn r bs (x : Int) (y : Int) ^^^ rkW wn hn r bs2 (clampI ((x : Int) - (e : Int)) wn) (y : Int)) % 16777216) : Nat) : Int) := rfl
  unfold rkW at hla hlb hF
  generalize rkF wn hn r bs bs2 x y e = X at hF ⊢
  generalize rkTo (rkB (GQ (wn : Int) (hn : Int) bs) (x : Int) (y : Int) r) r (2 * r + 1) = a at hla hF HA
  generalize rkTo (rkB (GQ (wn : Int) (hn : Int) bs2) (clampI ((x : Int) - (e : Int)) wn) (y : Int) r) r (2 * r + 1) = b at hlb hF HB
  have HD := Lib.hid (fun (W : World) => rankDist_any a b hla hlb W)
  generalize pcN 24 ((a ^^^ b) % 16777216) = p at HD hF
  have HF := Lib.hid hF
  have ⟨q0, q1, q2⟩ := hB2
  have HW : Hid ((1 : Int) ≤ (wn : Int) ∧ (wn : Int) ≤ 24) := Lib.hid ⟨h1w, h1⟩
  clear hF hB hB2 hl hlen hl2 hlen2 hv hla hlb hcb h1 h2 h1w hr
  go_enter Try.func69, Try.ntmps69
  go_wp2_with fail
  refine region_wx 15 [] (by kernel_rfl) (by kernel_rfl) ?_
  simp only [List.take_succ_cons, List.take_zero, List.drop_succ_cons, List.drop_zero]
  repeat ((first | refine wx_skip rfl ?_ | refine wx_nilCheck rfl rfl _ rfl _ rfl ?_ | (refine wx_float rfl rfl _ _ _ _ _ _ _ rfl rfl rfl rfl ?_; intro r hr) | (refine wx_k rfl rfl rfl (fun K hK => ?_); go_big_quiet_op; refine hK _ ?_; clear hK K) | (refine wx_call rfl rfl 71 _ _ rfl (by kernel_rfl) (by kernel_rfl) (.int .i64 (a : Int)) (fun W hW hF => ?_) ?_; go_simp; (with_reducible refine (HA.out W hW).mono ?_); rintro e w' h; exact h) | (refine wx_call rfl rfl 71 _ _ rfl (by kernel_rfl) (by kernel_rfl) (.int .i64 (b : Int)) (fun W hW hF => ?_) ?_; go_simp; (with_reducible refine (HB.out W hW).mono ?_); rintro e w' h; exact h) | (refine wx_call rfl rfl 72 _ _ rfl (by kernel_rfl) (by kernel_rfl) (.int .i64 (clampI ((x : Int) - (e : Int)) wn)) (fun W hW hF => ?_) ?_; go_simp; (with_reducible refine (callsExt (clamp_any ((x : Int) - (e : Int)) wn W HW.out.1 HW.out.2)).mono ?_); rintro e w' h; exact h) | (refine wx_call rfl rfl 70 _ _ rfl (by kernel_rfl) (by kernel_rfl) (.int .i64 (p : Int)) (fun W hW hF => ?_) ?_; go_simp; (with_reducible refine (callsExt (HD.out W)).mono ?_); rintro e w' h; exact h)); (try simp only [Act.put, List.setIfInBounds_toArray, List.set_cons_zero, List.set_cons_succ]); (try simp only [List.tail_nil]))
  refine wx_nil (fun W hW hF => ?_)
  go_wp2
  go_ret
  exact ⟨_, rfl, by rw [HF.out]; exact ⟨ofInt_lt _, nrm_of _ (isN_ofInt _)⟩, hW⟩
theorem implRankVolume_of (z0 z1 : Int) (A : Option Addr) (n c : Nat) (y0 y1 : Int) (A' : Option Addr) (n' c' : Nat) (rr d : Int) (o0 o1 o2 : Int) (ok : Bool) (L : List Nat) (U : World) (hrr : 1 ≤ rr ∧ rr ≤ 2)
    (hcall : ∀ w0, Ext U w0 → Box3 w0 U.heap.size (.int .i64 z0) (.int .i64 z1) (.slice A n c) → Box3 w0 (U.heap.size + 1) (.int .i64 y0) (.int .i64 y1) (.slice A' n' c') → w0.cell? ⟨U.heap.size + 1 + 1, 0, none⟩ = some (.int .i64 rr) → Calls Try.prog 68 #[.agg #[.int .i64 z0, .int .i64 z1, .slice A n c], .agg #[.int .i64 y0, .int .i64 y1, .slice A' n' c'], .int .i64 d, .func (.func 69) #[] #[.pointer (some ⟨U.heap.size, 0, none⟩), .pointer (some ⟨U.heap.size + 1 + 1, 0, none⟩), .pointer (some ⟨U.heap.size + 1, 0, none⟩)]] w0 fun e U' => ∃ A c' b, e = .returned (.tuple #[.agg #[.int .i64 o0, .int .i64 o1, .int .i64 o2, .slice A b.length c'], .bool ok]) ∧ OwnF U' w0.heap.size 25 (.slice A b.length c') b ∧ b.map nrm = L ∧ Ext w0 U') :
    Calls Try.prog 30 #[.agg #[.int .i64 z0, .int .i64 z1, .slice A n c], .agg #[.int .i64 y0, .int .i64 y1, .slice A' n' c'], .int .i64 rr, .int .i64 d] U fun e U' => ∃ A c' b, e = .returned (.tuple #[.agg #[.int .i64 o0, .int .i64 o1, .int .i64 o2, .slice A b.length c'], .bool ok]) ∧ OwnF U' U.heap.size 25 (.slice A b.length c') b ∧ b.map nrm = L ∧ Ext U U' := by
  have HK := Lib.hid hcall
  have HR := Lib.hid hrr
  clear hcall hrr
  go_enter Try.func30, Try.ntmps30
  go_wp2_with (go_at_call 67; refine (implIn_yes _ _ _ _ HR.out.1 HR.out.2).mono ?_; rintro e w' ⟨rfl, rfl⟩)
  refine calls_at (X := fun w' => Ext U w' ∧ Box3 w' U.heap.size (.int .i64 z0) (.int .i64 z1) (.slice A n c) ∧ Box3 w' (U.heap.size + 1) (.int .i64 y0) (.int .i64 y1) (.slice A' n' c') ∧ w'.cell? ⟨U.heap.size + 1 + 1, 0, none⟩ = some (.int .i64 rr) ∧ Res4 w' (U.heap.size + 1 + 1 + 1) ∧ U.heap.size + 1 + 1 + 1 + 1 ≤ w'.heap.size) ⟨((((Ext.refl _).alloc _).alloc _).alloc _).alloc _, ⟨by simp [go_sem], by simp [go_sem], by simp [go_sem]⟩, ⟨by simp [go_sem], by simp [go_sem], by simp [go_sem]⟩, by simp [go_sem], ⟨by simp [go_sem], by simp [go_sem], by simp [go_sem], by simp [go_sem], by simp [go_sem], by simp [go_sem], by simp [go_sem], by simp [go_sem]⟩, by simp⟩ ?_
  rintro w0 ⟨hx0, hb0, hb1, hb2, hr0, hs0⟩
  refine (HK.out w0 hx0 hb0 hb1 hb2).mono ?_
  rintro e w1 ⟨A1, cc, b1, rfl, ho, hm, hx⟩
  have ⟨c0, c1, c2, c3, f0, f1, f2, f3⟩ := hr0.ext hx
  have hE2 := hx0.trans hx
  clear hx hx0 hb0 hb1 hb2 hr0
  go_wp2
  refine bodyPost_ret (v := .tuple #[.agg #[.int .i64 o0, .int .i64 o1, .int .i64 o2, .slice A1 b1.length cc], .bool ok]) (by simp [results, Try.results30, go_sem, *]) rfl ⟨A1, cc, b1, rfl, ?_, hm, ?_⟩
  · refine OwnF.weaken (base := w0.heap.size) ?_ (by omega)
    repeat (first | (with_reducible exact ho) | (with_reducible refine OwnF.set_below ?_ (by dsimp only; omega) _))
  · repeat (first | (with_reducible exact hE2) | (with_reducible refine Ext.setCell ?_ (by dsimp only; omega) _))
theorem implRankVolume_no (z0 z1 : Int) (A : Option Addr) (n c : Nat) (y0 y1 : Int) (A' : Option Addr) (n' c' : Nat) (rr d : Int) (U : World) (hrr : rr < 1 ∨ 2 < rr) :
    Calls Try.prog 30 #[.agg #[.int .i64 z0, .int .i64 z1, .slice A n c], .agg #[.int .i64 y0, .int .i64 y1, .slice A' n' c'], .int .i64 rr, .int .i64 d] U fun e U' => ∃ A c' b, e = .returned (.tuple #[.agg #[.int .i64 0, .int .i64 0, .int .i64 0, .slice A b.length c'], .bool false]) ∧ OwnF U' U.heap.size 25 (.slice A b.length c') b ∧ b.map nrm = [] ∧ Ext U U' := by
  have HR := Lib.hid hrr
  clear hrr
  go_enter Try.func30, Try.ntmps30
  go_wp2_with fail
  refine calls_at (X := fun w' => Ext U w' ∧ Res4 w' (U.heap.size + 1 + 1 + 1) ∧ U.heap.size + 1 + 1 + 1 + 1 ≤ w'.heap.size) ⟨((((Ext.refl _).alloc _).alloc _).alloc _).alloc _, ⟨by simp [go_sem], by simp [go_sem], by simp [go_sem], by simp [go_sem], by simp [go_sem], by simp [go_sem], by simp [go_sem], by simp [go_sem]⟩, by simp⟩ ?_
  rintro w0 ⟨hx0, hr0, hs0⟩
  have ⟨c0, c1, c2, c3, f0, f1, f2, f3⟩ := hr0
  refine (implIn_no _ _ _ _ HR.out).mono ?_
  rintro e w1 ⟨rfl, rfl⟩
  go_wp2
  refine bodyPost_ret (v := .tuple #[.agg #[.int .i64 0, .int .i64 0, .int .i64 0, .slice none 0 0], .bool false]) (by simp [results, Try.results30, go_sem, *]) rfl ⟨none, 0, [], rfl, OwnF.nil _ _ _, rfl, ?_⟩
  repeat (first | (with_reducible exact hx0) | (with_reducible refine Ext.setCell ?_ (by dsimp only; omega) _))
end Go.Proofs.Ytgpobhpcbgenoaa
