/- Contracts of the laws' own helpers on maps, pictures and volumes: sz, to, eq, mark, held. -/
import Derived.Test.YtgpobhpcbgenoaaHarB
namespace Go.Proofs.Ytgpobhpcbgenoaa
open Go.RowKit

/-- What a copy leaves: a slice in new memory that reads as bs. -/
def Made (mk : Value → Value) (t : TypeId) (w : World) (n : Nat) (bs : List Nat) (e : Ending) (w' : World) : Prop := ∃ g, w.heap.size ≤ g ∧ e = .returned (mk (.slice (some ⟨g, 0, none⟩) n n)) ∧ OwnF w' w.heap.size t (.slice (some ⟨g, 0, none⟩) n n) bs ∧ Ext w w'

theorem grownBy_trans {a b c : World} {row : Option Nat} (h : a.grownBy b row) (k : b.grownBy c row) : a.grownBy c row :=
  ⟨k.os.trans h.os, k.tape.trans h.tape, k.output.trans h.output, Nat.le_trans h.size k.size, fun i hi hne => (k.block i (Nat.lt_of_lt_of_le hi h.size) hne).trans (h.block i hi hne)⟩

theorem szMap_over (wide high : Int) (A : Option Addr) (n c : Nat) (left : Int) (w : World) (hn : n ≤ maxLen) (h0 : 0 ≤ left) (h1 : left ≤ 1048576) (hlt : left < n) :
    Calls Try.prog 11 #[.agg #[.int .i64 wide, .int .i64 high, .slice A n c], .int .i64 left] w fun e w' => e = .returned (.int .i64 (-1)) ∧ Ext w w' := by
  go_enter Try.func11, Try.ntmps11
  go_wp2_with (go_at_call 46; refine (szF_over _ _ _ _ _ hn h0 h1 hlt).mono ?_; rintro e w' ⟨rfl, rfl⟩)
  go_ret
  exact ⟨rfl, (Ext.refl w).alloc _⟩
theorem szMap_fits (wide high : Int) (A : Option Addr) (n c : Nat) (left : Int) (w : World) (hn : n ≤ maxLen) (h0 : 0 ≤ left) (h1 : left ≤ 1048576) (hlt : (n : Int) ≤ left) :
    Calls Try.prog 11 #[.agg #[.int .i64 wide, .int .i64 high, .slice A n c], .int .i64 left] w fun e w' => e = .returned (.int .i64 (left - n)) ∧ Ext w w' := by
  have hge : ¬ left - (n : Int) < 0 := by omega
  go_enter Try.func11, Try.ntmps11
  go_wp2_with (go_at_call 46; refine (szF_fits _ _ _ _ _ hn h0 h1 hlt).mono ?_; rintro e w' ⟨rfl, rfl⟩)
  go_ret
  exact ⟨rfl, (Ext.refl w).alloc _⟩
theorem toMap_any (wide high : Int) (A : Option Addr) (n c : Nat) (bs : List Nat) (w : World) (hn : n ≤ 1048576) (hr : Reads w A n bs) :
    Calls Try.prog 15 #[.agg #[.int .i64 wide, .int .i64 high, .slice A n c]] w (Made (fun s => .agg #[.int .i64 wide, .int .i64 high, s]) 25 w n bs) := by
  go_enter Try.func15, Try.ntmps15
  go_wp2_with fail
  refine (toF_any A n c bs _ hn ?_).mono ?_
  · exact hr.ext (by repeat (first | exact Ext.refl _ | apply Ext.alloc | (apply Ext.setCell; · (simp; done))))
  rintro e w1 ⟨rfl, ho, hx⟩
  have ac0 : w1.cell? ⟨w.heap.size + 1 + 1, 0, none⟩ = some (.int .i64 wide) := (Ext.cells hx _ _ (by simp [go_sem])).trans (by simp [go_sem])
  have af0 : w1.frozen? ⟨w.heap.size + 1 + 1, 0, none⟩ = false := (Ext.marks hx _ _ (by simp [go_sem])).trans (by simp [go_sem])
  have ac1 : w1.cell? ⟨w.heap.size + 1 + 1, 1, none⟩ = some (.int .i64 high) := (Ext.cells hx _ _ (by simp [go_sem])).trans (by simp [go_sem])
  have af1 : w1.frozen? ⟨w.heap.size + 1 + 1, 1, none⟩ = false := (Ext.marks hx _ _ (by simp [go_sem])).trans (by simp [go_sem])
  have ac2 : w1.cell? ⟨w.heap.size + 1 + 1, 2, none⟩ = some (.slice none 0 0) := (Ext.cells hx _ _ (by simp [go_sem])).trans (by simp [go_sem])
  have af2 : w1.frozen? ⟨w.heap.size + 1 + 1, 2, none⟩ = false := (Ext.marks hx _ _ (by simp [go_sem])).trans (by simp [go_sem])
  have bc0 : w1.cell? ⟨w.heap.size + 1, 0, none⟩ = some (.int .i64 0) := (Ext.cells hx _ _ (by simp [go_sem])).trans (by simp [go_sem])
  have bf0 : w1.frozen? ⟨w.heap.size + 1, 0, none⟩ = false := (Ext.marks hx _ _ (by simp [go_sem])).trans (by simp [go_sem])
  have bc1 : w1.cell? ⟨w.heap.size + 1, 1, none⟩ = some (.int .i64 0) := (Ext.cells hx _ _ (by simp [go_sem])).trans (by simp [go_sem])
  have bf1 : w1.frozen? ⟨w.heap.size + 1, 1, none⟩ = false := (Ext.marks hx _ _ (by simp [go_sem])).trans (by simp [go_sem])
  have bc2 : w1.cell? ⟨w.heap.size + 1, 2, none⟩ = some (.slice none 0 0) := (Ext.cells hx _ _ (by simp [go_sem])).trans (by simp [go_sem])
  have bf2 : w1.frozen? ⟨w.heap.size + 1, 2, none⟩ = false := (Ext.marks hx _ _ (by simp [go_sem])).trans (by simp [go_sem])
  have ho' : OwnF w1 (w.heap.size + 1 + 1 + 1) 25 (.slice (some ⟨w.heap.size + 1 + 1 + 1, 0, none⟩) n n) bs := by simpa using ho
  have hx' : Ext w w1 := Ext.trans (by repeat (first | exact Ext.refl _ | apply Ext.alloc | (apply Ext.setCell; · (simp; done)))) hx
  clear ho hx
  go_wp2
  refine bodyPost_ret (v := .agg #[.int .i64 wide, .int .i64 high, .slice (some ⟨w.heap.size + 1 + 1 + 1, 0, none⟩) n n]) (by simp [results, Try.results15, go_sem, *]) rfl ⟨w.heap.size + 1 + 1 + 1, by omega, rfl, OwnF.weaken (base := w.heap.size + 1 + 1 + 1) ?_ (by omega), ?_⟩
  · repeat (first | (with_reducible exact ho') | (with_reducible refine OwnF.set_below ?_ (by simp) _))
  · repeat (first | (with_reducible exact hx') | (with_reducible refine Ext.setCell ?_ (by simp; try omega) _))
theorem eqMap_any (wide high : Int) (A A' : Option Addr) (n n' c c' : Nat) (bs bs' : List Nat) (w : World) (hn : n ≤ maxLen) (hr : Reads w A n bs) (hr' : Reads w A' n' bs') (he : bs.map nrm = bs'.map nrm) :
    Calls Try.prog 19 #[.agg #[.int .i64 wide, .int .i64 high, .slice A n c], .agg #[.int .i64 wide, .int .i64 high, .slice A' n' c']] w fun e w' => e = .returned (.bool true) ∧ Ext w w' := by
  have hne_wide : (wide != wide) = false := by simp
  have hne_high : (high != high) = false := by simp
  go_enter Try.func19, Try.ntmps19
  go_wp2_with fail
  refine (eqF_any A A' n n' c c' bs bs' _ hn (hr.ext (((Ext.refl w).alloc _).alloc _)) (hr'.ext (((Ext.refl w).alloc _).alloc _)) he).mono ?_
  rintro e w1 ⟨rfl, hx⟩
  go_wp2
  go_ret
  exact ⟨rfl, (((Ext.refl w).alloc _).alloc _).trans hx⟩
theorem markMap_any (wide high : Int) (A : Option Addr) (n c : Nat) (bs : List Nat) (k : Nat) (base : Nat) (w : World) (hk : k + bs.length ≤ 4294967296) (ho : OwnF w base 25 (.slice A n c) bs) :
    Calls Try.prog 24 #[.agg #[.int .i64 wide, .int .i64 high, .slice A n c], .int .i64 k] w fun e w' => e = .returned (.int .i64 ((k : Int) + (bs.length : Int))) ∧ OwnF w' base 25 (.slice A n c) (marks k bs.length) ∧ w.grownBy w' (Value.slice A n c).ownBlock := by
  go_enter Try.func24, Try.ntmps24
  go_wp2_with fail
  refine (markF_any (.slice A n c) bs k base _ hk (ho.ext ((Ext.refl w).alloc _))).mono ?_
  rintro e w1 ⟨rfl, h1, h2⟩
  go_wp2
  go_ret
  exact ⟨rfl, h1, grownBy_trans (World.grownBy_alloc w _ _) h2⟩
theorem markMap_i (wide high : Int) (A : Option Addr) (n c : Nat) (bs : List Nat) (k : Int) (base : Nat) (w : World) (h0 : 0 ≤ k) (hk : k + bs.length ≤ 4294967296) (ho : OwnF w base 25 (.slice A n c) bs) :
    Calls Try.prog 24 #[.agg #[.int .i64 wide, .int .i64 high, .slice A n c], .int .i64 k] w fun e w' => e = .returned (.int .i64 (k + (bs.length : Int))) ∧ OwnF w' base 25 (.slice A n c) (marks k.toNat bs.length) ∧ w.grownBy w' (Value.slice A n c).ownBlock := by
  obtain ⟨m, rfl⟩ := Int.eq_ofNat_of_zero_le h0
  exact markMap_any wide high A n c bs m base w (by omega) ho
theorem szPicture_over (wide high : Int) (A : Option Addr) (n c : Nat) (left : Int) (w : World) (hn : n ≤ maxLen) (h0 : 0 ≤ left) (h1 : left ≤ 1048576) (hlt : left < n) :
    Calls Try.prog 27 #[.agg #[.int .i64 wide, .int .i64 high, .slice A n c], .int .i64 left] w fun e w' => e = .returned (.int .i64 (-1)) ∧ Ext w w' := by
  go_enter Try.func27, Try.ntmps27
  go_wp2_with (go_at_call 46; refine (szF_over _ _ _ _ _ hn h0 h1 hlt).mono ?_; rintro e w' ⟨rfl, rfl⟩)
  go_ret
  exact ⟨rfl, (Ext.refl w).alloc _⟩
theorem szPicture_fits (wide high : Int) (A : Option Addr) (n c : Nat) (left : Int) (w : World) (hn : n ≤ maxLen) (h0 : 0 ≤ left) (h1 : left ≤ 1048576) (hlt : (n : Int) ≤ left) :
    Calls Try.prog 27 #[.agg #[.int .i64 wide, .int .i64 high, .slice A n c], .int .i64 left] w fun e w' => e = .returned (.int .i64 (left - n)) ∧ Ext w w' := by
  have hge : ¬ left - (n : Int) < 0 := by omega
  go_enter Try.func27, Try.ntmps27
  go_wp2_with (go_at_call 46; refine (szF_fits _ _ _ _ _ hn h0 h1 hlt).mono ?_; rintro e w' ⟨rfl, rfl⟩)
  go_ret
  exact ⟨rfl, (Ext.refl w).alloc _⟩
theorem toPicture_any (wide high : Int) (A : Option Addr) (n c : Nat) (bs : List Nat) (w : World) (hn : n ≤ 1048576) (hr : Reads w A n bs) :
    Calls Try.prog 29 #[.agg #[.int .i64 wide, .int .i64 high, .slice A n c]] w (Made (fun s => .agg #[.int .i64 wide, .int .i64 high, s]) 25 w n bs) := by
  go_enter Try.func29, Try.ntmps29
  go_wp2_with fail
  refine (toF_any A n c bs _ hn ?_).mono ?_
  · exact hr.ext (by repeat (first | exact Ext.refl _ | apply Ext.alloc | (apply Ext.setCell; · (simp; done))))
  rintro e w1 ⟨rfl, ho, hx⟩
  have ac0 : w1.cell? ⟨w.heap.size + 1 + 1, 0, none⟩ = some (.int .i64 wide) := (Ext.cells hx _ _ (by simp [go_sem])).trans (by simp [go_sem])
  have af0 : w1.frozen? ⟨w.heap.size + 1 + 1, 0, none⟩ = false := (Ext.marks hx _ _ (by simp [go_sem])).trans (by simp [go_sem])
  have ac1 : w1.cell? ⟨w.heap.size + 1 + 1, 1, none⟩ = some (.int .i64 high) := (Ext.cells hx _ _ (by simp [go_sem])).trans (by simp [go_sem])
  have af1 : w1.frozen? ⟨w.heap.size + 1 + 1, 1, none⟩ = false := (Ext.marks hx _ _ (by simp [go_sem])).trans (by simp [go_sem])
  have ac2 : w1.cell? ⟨w.heap.size + 1 + 1, 2, none⟩ = some (.slice none 0 0) := (Ext.cells hx _ _ (by simp [go_sem])).trans (by simp [go_sem])
  have af2 : w1.frozen? ⟨w.heap.size + 1 + 1, 2, none⟩ = false := (Ext.marks hx _ _ (by simp [go_sem])).trans (by simp [go_sem])
  have bc0 : w1.cell? ⟨w.heap.size + 1, 0, none⟩ = some (.int .i64 0) := (Ext.cells hx _ _ (by simp [go_sem])).trans (by simp [go_sem])
  have bf0 : w1.frozen? ⟨w.heap.size + 1, 0, none⟩ = false := (Ext.marks hx _ _ (by simp [go_sem])).trans (by simp [go_sem])
  have bc1 : w1.cell? ⟨w.heap.size + 1, 1, none⟩ = some (.int .i64 0) := (Ext.cells hx _ _ (by simp [go_sem])).trans (by simp [go_sem])
  have bf1 : w1.frozen? ⟨w.heap.size + 1, 1, none⟩ = false := (Ext.marks hx _ _ (by simp [go_sem])).trans (by simp [go_sem])
  have bc2 : w1.cell? ⟨w.heap.size + 1, 2, none⟩ = some (.slice none 0 0) := (Ext.cells hx _ _ (by simp [go_sem])).trans (by simp [go_sem])
  have bf2 : w1.frozen? ⟨w.heap.size + 1, 2, none⟩ = false := (Ext.marks hx _ _ (by simp [go_sem])).trans (by simp [go_sem])
  have ho' : OwnF w1 (w.heap.size + 1 + 1 + 1) 25 (.slice (some ⟨w.heap.size + 1 + 1 + 1, 0, none⟩) n n) bs := by simpa using ho
  have hx' : Ext w w1 := Ext.trans (by repeat (first | exact Ext.refl _ | apply Ext.alloc | (apply Ext.setCell; · (simp; done)))) hx
  clear ho hx
  go_wp2
  refine bodyPost_ret (v := .agg #[.int .i64 wide, .int .i64 high, .slice (some ⟨w.heap.size + 1 + 1 + 1, 0, none⟩) n n]) (by simp [results, Try.results29, go_sem, *]) rfl ⟨w.heap.size + 1 + 1 + 1, by omega, rfl, OwnF.weaken (base := w.heap.size + 1 + 1 + 1) ?_ (by omega), ?_⟩
  · repeat (first | (with_reducible exact ho') | (with_reducible refine OwnF.set_below ?_ (by simp) _))
  · repeat (first | (with_reducible exact hx') | (with_reducible refine Ext.setCell ?_ (by simp; try omega) _))
theorem eqPicture_any (wide high : Int) (A A' : Option Addr) (n n' c c' : Nat) (bs bs' : List Nat) (w : World) (hn : n ≤ maxLen) (hr : Reads w A n bs) (hr' : Reads w A' n' bs') (he : bs.map nrm = bs'.map nrm) :
    Calls Try.prog 31 #[.agg #[.int .i64 wide, .int .i64 high, .slice A n c], .agg #[.int .i64 wide, .int .i64 high, .slice A' n' c']] w fun e w' => e = .returned (.bool true) ∧ Ext w w' := by
  have hne_wide : (wide != wide) = false := by simp
  have hne_high : (high != high) = false := by simp
  go_enter Try.func31, Try.ntmps31
  go_wp2_with fail
  refine (eqF_any A A' n n' c c' bs bs' _ hn (hr.ext (((Ext.refl w).alloc _).alloc _)) (hr'.ext (((Ext.refl w).alloc _).alloc _)) he).mono ?_
  rintro e w1 ⟨rfl, hx⟩
  go_wp2
  go_ret
  exact ⟨rfl, (((Ext.refl w).alloc _).alloc _).trans hx⟩
theorem markPicture_any (wide high : Int) (A : Option Addr) (n c : Nat) (bs : List Nat) (k : Nat) (base : Nat) (w : World) (hk : k + bs.length ≤ 4294967296) (ho : OwnF w base 25 (.slice A n c) bs) :
    Calls Try.prog 32 #[.agg #[.int .i64 wide, .int .i64 high, .slice A n c], .int .i64 k] w fun e w' => e = .returned (.int .i64 ((k : Int) + (bs.length : Int))) ∧ OwnF w' base 25 (.slice A n c) (marks k bs.length) ∧ w.grownBy w' (Value.slice A n c).ownBlock := by
  go_enter Try.func32, Try.ntmps32
  go_wp2_with fail
  refine (markF_any (.slice A n c) bs k base _ hk (ho.ext ((Ext.refl w).alloc _))).mono ?_
  rintro e w1 ⟨rfl, h1, h2⟩
  go_wp2
  go_ret
  exact ⟨rfl, h1, grownBy_trans (World.grownBy_alloc w _ _) h2⟩
theorem markPicture_i (wide high : Int) (A : Option Addr) (n c : Nat) (bs : List Nat) (k : Int) (base : Nat) (w : World) (h0 : 0 ≤ k) (hk : k + bs.length ≤ 4294967296) (ho : OwnF w base 25 (.slice A n c) bs) :
    Calls Try.prog 32 #[.agg #[.int .i64 wide, .int .i64 high, .slice A n c], .int .i64 k] w fun e w' => e = .returned (.int .i64 (k + (bs.length : Int))) ∧ OwnF w' base 25 (.slice A n c) (marks k.toNat bs.length) ∧ w.grownBy w' (Value.slice A n c).ownBlock := by
  obtain ⟨m, rfl⟩ := Int.eq_ofNat_of_zero_le h0
  exact markPicture_any wide high A n c bs m base w (by omega) ho
theorem szVolume_over (wide high deep : Int) (A : Option Addr) (n c : Nat) (left : Int) (w : World) (hn : n ≤ maxLen) (h0 : 0 ≤ left) (h1 : left ≤ 1048576) (hlt : left < n) :
    Calls Try.prog 10 #[.agg #[.int .i64 wide, .int .i64 high, .int .i64 deep, .slice A n c], .int .i64 left] w fun e w' => e = .returned (.int .i64 (-1)) ∧ Ext w w' := by
  go_enter Try.func10, Try.ntmps10
  go_wp2_with (go_at_call 46; refine (szF_over _ _ _ _ _ hn h0 h1 hlt).mono ?_; rintro e w' ⟨rfl, rfl⟩)
  go_ret
  exact ⟨rfl, (Ext.refl w).alloc _⟩
theorem szVolume_fits (wide high deep : Int) (A : Option Addr) (n c : Nat) (left : Int) (w : World) (hn : n ≤ maxLen) (h0 : 0 ≤ left) (h1 : left ≤ 1048576) (hlt : (n : Int) ≤ left) :
    Calls Try.prog 10 #[.agg #[.int .i64 wide, .int .i64 high, .int .i64 deep, .slice A n c], .int .i64 left] w fun e w' => e = .returned (.int .i64 (left - n)) ∧ Ext w w' := by
  have hge : ¬ left - (n : Int) < 0 := by omega
  go_enter Try.func10, Try.ntmps10
  go_wp2_with (go_at_call 46; refine (szF_fits _ _ _ _ _ hn h0 h1 hlt).mono ?_; rintro e w' ⟨rfl, rfl⟩)
  go_ret
  exact ⟨rfl, (Ext.refl w).alloc _⟩
theorem toVolume_any (wide high deep : Int) (A : Option Addr) (n c : Nat) (bs : List Nat) (w : World) (hn : n ≤ 1048576) (hr : Reads w A n bs) :
    Calls Try.prog 13 #[.agg #[.int .i64 wide, .int .i64 high, .int .i64 deep, .slice A n c]] w (Made (fun s => .agg #[.int .i64 wide, .int .i64 high, .int .i64 deep, s]) 25 w n bs) := by
  go_enter Try.func13, Try.ntmps13
  go_wp2_with fail
  refine (toF_any A n c bs _ hn ?_).mono ?_
  · exact hr.ext (by repeat (first | exact Ext.refl _ | apply Ext.alloc | (apply Ext.setCell; · (simp; done))))
  rintro e w1 ⟨rfl, ho, hx⟩
  have ac0 : w1.cell? ⟨w.heap.size + 1 + 1, 0, none⟩ = some (.int .i64 wide) := (Ext.cells hx _ _ (by simp [go_sem])).trans (by simp [go_sem])
  have af0 : w1.frozen? ⟨w.heap.size + 1 + 1, 0, none⟩ = false := (Ext.marks hx _ _ (by simp [go_sem])).trans (by simp [go_sem])
  have ac1 : w1.cell? ⟨w.heap.size + 1 + 1, 1, none⟩ = some (.int .i64 high) := (Ext.cells hx _ _ (by simp [go_sem])).trans (by simp [go_sem])
  have af1 : w1.frozen? ⟨w.heap.size + 1 + 1, 1, none⟩ = false := (Ext.marks hx _ _ (by simp [go_sem])).trans (by simp [go_sem])
  have ac2 : w1.cell? ⟨w.heap.size + 1 + 1, 2, none⟩ = some (.int .i64 deep) := (Ext.cells hx _ _ (by simp [go_sem])).trans (by simp [go_sem])
  have af2 : w1.frozen? ⟨w.heap.size + 1 + 1, 2, none⟩ = false := (Ext.marks hx _ _ (by simp [go_sem])).trans (by simp [go_sem])
  have ac3 : w1.cell? ⟨w.heap.size + 1 + 1, 3, none⟩ = some (.slice none 0 0) := (Ext.cells hx _ _ (by simp [go_sem])).trans (by simp [go_sem])
  have af3 : w1.frozen? ⟨w.heap.size + 1 + 1, 3, none⟩ = false := (Ext.marks hx _ _ (by simp [go_sem])).trans (by simp [go_sem])
  have bc0 : w1.cell? ⟨w.heap.size + 1, 0, none⟩ = some (.int .i64 0) := (Ext.cells hx _ _ (by simp [go_sem])).trans (by simp [go_sem])
  have bf0 : w1.frozen? ⟨w.heap.size + 1, 0, none⟩ = false := (Ext.marks hx _ _ (by simp [go_sem])).trans (by simp [go_sem])
  have bc1 : w1.cell? ⟨w.heap.size + 1, 1, none⟩ = some (.int .i64 0) := (Ext.cells hx _ _ (by simp [go_sem])).trans (by simp [go_sem])
  have bf1 : w1.frozen? ⟨w.heap.size + 1, 1, none⟩ = false := (Ext.marks hx _ _ (by simp [go_sem])).trans (by simp [go_sem])
  have bc2 : w1.cell? ⟨w.heap.size + 1, 2, none⟩ = some (.int .i64 0) := (Ext.cells hx _ _ (by simp [go_sem])).trans (by simp [go_sem])
  have bf2 : w1.frozen? ⟨w.heap.size + 1, 2, none⟩ = false := (Ext.marks hx _ _ (by simp [go_sem])).trans (by simp [go_sem])
  have bc3 : w1.cell? ⟨w.heap.size + 1, 3, none⟩ = some (.slice none 0 0) := (Ext.cells hx _ _ (by simp [go_sem])).trans (by simp [go_sem])
  have bf3 : w1.frozen? ⟨w.heap.size + 1, 3, none⟩ = false := (Ext.marks hx _ _ (by simp [go_sem])).trans (by simp [go_sem])
  have ho' : OwnF w1 (w.heap.size + 1 + 1 + 1) 25 (.slice (some ⟨w.heap.size + 1 + 1 + 1, 0, none⟩) n n) bs := by simpa using ho
  have hx' : Ext w w1 := Ext.trans (by repeat (first | exact Ext.refl _ | apply Ext.alloc | (apply Ext.setCell; · (simp; done)))) hx
  clear ho hx
  go_wp2
  refine bodyPost_ret (v := .agg #[.int .i64 wide, .int .i64 high, .int .i64 deep, .slice (some ⟨w.heap.size + 1 + 1 + 1, 0, none⟩) n n]) (by simp [results, Try.results13, go_sem, *]) rfl ⟨w.heap.size + 1 + 1 + 1, by omega, rfl, OwnF.weaken (base := w.heap.size + 1 + 1 + 1) ?_ (by omega), ?_⟩
  · repeat (first | (with_reducible exact ho') | (with_reducible refine OwnF.set_below ?_ (by simp) _))
  · repeat (first | (with_reducible exact hx') | (with_reducible refine Ext.setCell ?_ (by simp; try omega) _))
theorem eqVolume_any (wide high deep : Int) (A A' : Option Addr) (n n' c c' : Nat) (bs bs' : List Nat) (w : World) (hn : n ≤ maxLen) (hr : Reads w A n bs) (hr' : Reads w A' n' bs') (he : bs.map nrm = bs'.map nrm) :
    Calls Try.prog 18 #[.agg #[.int .i64 wide, .int .i64 high, .int .i64 deep, .slice A n c], .agg #[.int .i64 wide, .int .i64 high, .int .i64 deep, .slice A' n' c']] w fun e w' => e = .returned (.bool true) ∧ Ext w w' := by
  have hne_wide : (wide != wide) = false := by simp
  have hne_high : (high != high) = false := by simp
  have hne_deep : (deep != deep) = false := by simp
  go_enter Try.func18, Try.ntmps18
  go_wp2_with fail
  refine (eqF_any A A' n n' c c' bs bs' _ hn (hr.ext (((Ext.refl w).alloc _).alloc _)) (hr'.ext (((Ext.refl w).alloc _).alloc _)) he).mono ?_
  rintro e w1 ⟨rfl, hx⟩
  go_wp2
  go_ret
  exact ⟨rfl, (((Ext.refl w).alloc _).alloc _).trans hx⟩
theorem markVolume_any (wide high deep : Int) (A : Option Addr) (n c : Nat) (bs : List Nat) (k : Nat) (base : Nat) (w : World) (hk : k + bs.length ≤ 4294967296) (ho : OwnF w base 25 (.slice A n c) bs) :
    Calls Try.prog 23 #[.agg #[.int .i64 wide, .int .i64 high, .int .i64 deep, .slice A n c], .int .i64 k] w fun e w' => e = .returned (.int .i64 ((k : Int) + (bs.length : Int))) ∧ OwnF w' base 25 (.slice A n c) (marks k bs.length) ∧ w.grownBy w' (Value.slice A n c).ownBlock := by
  go_enter Try.func23, Try.ntmps23
  go_wp2_with fail
  refine (markF_any (.slice A n c) bs k base _ hk (ho.ext ((Ext.refl w).alloc _))).mono ?_
  rintro e w1 ⟨rfl, h1, h2⟩
  go_wp2
  go_ret
  exact ⟨rfl, h1, grownBy_trans (World.grownBy_alloc w _ _) h2⟩
theorem markVolume_i (wide high deep : Int) (A : Option Addr) (n c : Nat) (bs : List Nat) (k : Int) (base : Nat) (w : World) (h0 : 0 ≤ k) (hk : k + bs.length ≤ 4294967296) (ho : OwnF w base 25 (.slice A n c) bs) :
    Calls Try.prog 23 #[.agg #[.int .i64 wide, .int .i64 high, .int .i64 deep, .slice A n c], .int .i64 k] w fun e w' => e = .returned (.int .i64 (k + (bs.length : Int))) ∧ OwnF w' base 25 (.slice A n c) (marks k.toNat bs.length) ∧ w.grownBy w' (Value.slice A n c).ownBlock := by
  obtain ⟨m, rfl⟩ := Int.eq_ofNat_of_zero_le h0
  exact markVolume_any wide high deep A n c bs m base w (by omega) ho
theorem heldVolume_any (wide high deep : Int) (A : Option Addr) (n c : Nat) (m : Nat) (k : Nat) (base : Nat) (w : World) (hk : k + m ≤ 4294967296) (ho : OwnF w base 25 (.slice A n c) (marks k m)) :
    Calls Try.prog 33 #[.agg #[.int .i64 wide, .int .i64 high, .int .i64 deep, .slice A n c], .int .i64 k] w fun e w' => e = .returned (.int .i64 ((k : Int) + (m : Int))) ∧ Ext w w' := by
  have hge : ¬ (k : Int) + (m : Int) < 0 := by omega
  go_enter Try.func33, Try.ntmps33
  go_wp2_with fail
  refine (heldF_any (.slice A n c) m k base _ hk (ho.ext ((Ext.refl w).alloc _))).mono ?_
  rintro e w1 ⟨rfl, rfl⟩
  go_wp2
  go_ret
  exact ⟨rfl, (Ext.refl w).alloc _⟩
theorem heldVolume_i (wide high deep : Int) (A : Option Addr) (n c : Nat) (m : Nat) (k : Int) (base : Nat) (w : World) (h0 : 0 ≤ k) (hk : k + m ≤ 4294967296) (ho : OwnF w base 25 (.slice A n c) (marks k.toNat m)) :
    Calls Try.prog 33 #[.agg #[.int .i64 wide, .int .i64 high, .int .i64 deep, .slice A n c], .int .i64 k] w fun e w' => e = .returned (.int .i64 (k + (m : Int))) ∧ Ext w w' := by
  obtain ⟨q, rfl⟩ := Int.eq_ofNat_of_zero_le h0
  exact heldVolume_any wide high deep A n c m q base w (by omega) ho
theorem toPrices_any (b0 b1 : Nat) (w : World) :
    Calls Try.prog 14 #[.agg #[.float .f32 b0, .float .f32 b1]] w fun e w' => e = .returned (.agg #[.float .f32 b0, .float .f32 b1]) ∧ Ext w w' := by
  go_enter Try.func14, Try.ntmps14
  go_wp2
  refine bodyPost_ret (v := .agg #[.float .f32 b0, .float .f32 b1]) (by simp [results, Try.results14, go_sem, *]) rfl ⟨rfl, ?_⟩
  repeat (first | with_reducible exact Ext.refl _ | (with_reducible refine Ext.setCell ?_ (by simp; try omega) _) | (with_reducible refine Ext.alloc ?_ _))
end Go.Proofs.Ytgpobhpcbgenoaa
