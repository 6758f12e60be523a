/- The walks of package dyadic. -/
import Derived.Test.YtgihapdlliidgaaDoorNum
import Derived.Test.YtgihapdlliidgaaDoorShelf
namespace Go.Proofs.YtgihapdlliidgaaDoor
open Go Go.RowKit
set_option linter.unusedVariables false
set_option linter.unusedSimpArgs false

/-- a dyadic in form -/
def DyF (m e : Int) : Prop := -1048576 ≤ e ∧ e ≤ 1048576 ∧ (m % 2 = 1 ∨ (m = 0 ∧ e = 0))
def IsDy (w : World) (neg : Bool) (v : Value) (e m : Int) : Prop := IsZ w neg v m ∧ DyF m e

theorem IsDy.below {w w' : World} {neg : Bool} {v : Value} {e m : Int} (h : IsDy w neg v e m) (hb : Below w.heap.size w w') : IsDy w' neg v e m := ⟨h.1.below hb, h.2⟩
theorem IsDy.same_lt {N n : Nat} {w w' : World} {neg : Bool} {v : Value} {e m : Int} (h : IsDy w neg v e m) (hb : Bd N v) (hs : SameB N n w w') : IsDy w' neg v e m := ⟨h.1.same_lt hb hs, h.2⟩
theorem IsDy.same_ge {N n M : Nat} {w w' : World} {neg : Bool} {v : Value} {e m : Int} (h : IsDy w neg v e m) (hb : Ge M v) (hM : N + n ≤ M) (hs : SameB N n w w') : IsDy w' neg v e m := ⟨h.1.same_ge hb hM hs, h.2⟩
theorem IsDy.zsame_lt {N n : Nat} {w w' : World} {neg : Bool} {v : Value} {e m : Int} (h : IsDy w neg v e m) (hb : Bd N v) (hs : SameB N n w w') : IsZ w' neg v m := h.1.same_lt hb hs
theorem IsDy.nsame_lt {N n : Nat} {w w' : World} {neg : Bool} {v : Value} {e m : Int} (h : IsDy w neg v e m) (hb : Bd N v) (hs : SameB N n w w') : IsNat w' v m.natAbs := h.1.1.same_lt hb hs
theorem IsDy.zsame_ge {N n M : Nat} {w w' : World} {neg : Bool} {v : Value} {e m : Int} (h : IsDy w neg v e m) (hb : Ge M v) (hM : N + n ≤ M) (hs : SameB N n w w') : IsZ w' neg v m := h.1.same_ge hb hM hs
theorem IsDy.nsame_ge {N n M : Nat} {w w' : World} {neg : Bool} {v : Value} {e m : Int} (h : IsDy w neg v e m) (hb : Ge M v) (hM : N + n ≤ M) (hs : SameB N n w w') : IsNat w' v m.natAbs := h.1.1.same_ge hb hM hs
theorem IsZ.nsame_ge {N n M : Nat} {w w' : World} {neg : Bool} {v : Value} {z : Int} (h : IsZ w neg v z) (hb : Ge M v) (hM : N + n ≤ M) (hs : SameB N n w w') : IsNat w' v z.natAbs := h.1.same_ge hb hM hs
theorem IsDy.zbelow {w w' : World} {neg : Bool} {v : Value} {e m : Int} (h : IsDy w neg v e m) (hb : Below w.heap.size w w') : IsZ w' neg v m := h.1.below hb
theorem IsDy.nbelow {w w' : World} {neg : Bool} {v : Value} {e m : Int} (h : IsDy w neg v e m) (hb : Below w.heap.size w w') : IsNat w' v m.natAbs := h.1.1.below hb
theorem IsDy.bd {w : World} {neg : Bool} {v : Value} {e m : Int} (h : IsDy w neg v e m) : Bd w.heap.size v := h.1.1.bd
theorem IsDy.nat {w : World} {neg : Bool} {v : Value} {e m : Int} (h : IsDy w neg v e m) : IsNat w v m.natAbs := h.1.1
theorem IsZ.nbelow {w w' : World} {neg : Bool} {v : Value} {z : Int} (h : IsZ w neg v z) (hb : Below w.heap.size w w') : IsNat w' v z.natAbs := h.1.below hb

theorem buildDy (neg : Bool) (A : Option Addr) (n c : Nat) (e : Int) (w : World) : (Instr.build 60 #[(0, .agg #[.bool neg, .slice A n c]), (1, .int .i64 e)]).run Tryd.prog w = .ok (.agg #[.bool neg, .slice A n c, .int .i64 e]) w := run_build w 60 _ _ (by kernel_rfl)
theorem buildDy0 (w : World) : (Instr.build 60 #[]).run Tryd.prog w = .ok (.agg #[.bool false, .slice none 0 0, .int .i64 0]) w := run_build w 60 _ _ (by kernel_rfl)
attribute [go_sem] buildDy buildDy0

set_option maxHeartbeats 800000 in
theorem dyNought_calls {w : World} {neg : Bool} {v : Value} {e : Int} {m : Nat} (h : IsNat w v m) (b : Bool) (hb : decide (m = 0) = b) :
    Calls Tryd.prog 51 #[dyV neg v e] w fun E w' => E = .returned (.bool b) ∧ Below w.heap.size w w' := by
  obtain ⟨A, n, c, rfl, h8, hz1, hz2⟩ := h.form
  have hd : ((n : Int) == 0) = b := by
    rw [← hb, Bool.eq_iff_iff, beq_iff_eq, decide_eq_true_iff]
    constructor
    · intro a; exact hz2 (by omega)
    · intro a; have := hz1 a; omega
  clear h hz1 hz2 hb
  unfold dyV
  go_enter Tryd.func51, Tryd.ntmps51
  go_wp2_with fail
  go_ret
  exact ⟨rfl, (Below.refl _ _).alloc (Nat.le_refl _) _⟩

/-- the lowest limb -/
theorem IsNat.first {w : World} {A : Option Addr} {n c m : Nat} (h : IsNat w (.slice A n c) m) (h0 : m ≠ 0) : ∃ b o x, A = some ⟨b, o, none⟩ ∧ b < w.heap.size ∧ 0 < n ∧ w.cell? ⟨b, o, none⟩ = some (.int .u64 ((x : Nat) : Int)) ∧ x < B64 ∧ x % 2 = m % 2 ∧ (n = 1 → m = x) ∧ (m < B64 → n = 1) := by
  obtain ⟨A', c', l, e, h1, h2, h3, h4, h5, rfl⟩ := h
  simp only [Value.slice.injEq] at e
  obtain ⟨rfl, rfl, rfl⟩ := e
  have hp : 0 < l.length := by
    rcases Nat.eq_zero_or_pos l.length with hl | hl
    · exfalso; apply h0; rw [List.eq_nil_of_length_eq_zero hl]; rfl
    · exact hl
  obtain ⟨b, o, rfl, hlt, hc⟩ := h3 hp
  obtain ⟨x, r, rfl⟩ := List.exists_cons_of_length_pos hp
  have e0 := hc 0 hp
  simp only [Nat.add_zero, List.getD_cons_zero] at e0
  refine ⟨b, o, x, rfl, hlt, hp, e0, h4 x (by simp), ?_, ?_, ?_⟩
  · rw [lv_cons, B64_eq]; omega
  · intro h; simp at h; subst h; simp [lv]
  · intro h
    rcases Nat.eq_zero_or_pos r.length with hr | hr
    · simp [hr]
    · exfalso
      have := lv_ge B64 (x :: r) B64_pos h5 (by simp)
      have h6 : B64 ^ 1 ≤ B64 ^ ((x :: r).length - 1) := Nat.pow_le_pow_right B64_pos (by simp; omega)
      rw [Nat.pow_one] at h6
      omega

theorem and_one (x : Nat) (hx : x < B64) : Go.bits .and .u64 (x : Int) 1 = ((x % 2 : Nat) : Int) := by
  rw [B64_eq] at hx
  have := bits_and_u64_nat x 1 hx (by decide)
  rw [Nat.and_one_is_mod] at this
  exact this

set_option maxRecDepth 100000 in
set_option maxHeartbeats 1600000 in
theorem dyForm_calls {w : World} {neg : Bool} {v : Value} {e m : Int} (h : IsDy w neg v e m) :
    Calls Tryd.prog 50 #[dyV neg v e] w fun E w' => E = .returned (.bool true) ∧ Below w.heap.size w w' := by
  obtain ⟨A, n, c, rfl, h8, hz1, hz2⟩ := h.nat.form
  have H := Lib.hid h
  have HBd := Lib.hid h.bd
  obtain ⟨he1, he2, hf⟩ := h.2
  have t1 : ¬ e < -1048576 := by omega
  have t2 : ¬ e > 1048576 := by omega
  by_cases h0 : m = 0
  · have HD : Hid (decide (m.natAbs = 0) = true) := Lib.hid <| by rw [decide_eq_true_iff]; omega
    have e0 : e = 0 := by rcases hf with hf | hf <;> omega
    subst e0
    clear h hz1 hz2 he1 he2 hf h0 t1 t2
    unfold dyV
    have HW0 : Hid (Below w.heap.size w w) := Lib.hid (Below.refl _ _)
    go_enter Tryd.func50, Tryd.ntmps50
    go_wp2_with fail
    refine Calls.mono (numForm_calls (H.out.zbelow (by (repeat (first | with_reducible exact HW0.out | refine Below.setCell (p := ⟨_, _, _⟩) ?_ (by first | omega | (simp; done) | (simp; omega)) _ | refine Below.alloc ?_ (by first | omega | (simp; done) | (simp; omega)) _ | refine Below.drew ?_ | refine below_dn ?_ _))))) ?_
    rintro E w1 ⟨rfl, hb1⟩
    obtain ⟨hc1, hf1⟩ := bcell hb1
    have HW1 : Hid (Below w.heap.size w w1) := Lib.hid (by
      refine Below.trans ?_ (hb1.mono ?_)
      · (repeat (first | with_reducible exact HW0.out | refine Below.setCell (p := ⟨_, _, _⟩) ?_ (by first | omega | (simp; done) | (simp; omega)) _ | refine Below.alloc ?_ (by first | omega | (simp; done) | (simp; omega)) _ | refine Below.drew ?_ | refine below_dn ?_ _))
      · first | omega | (simp; done) | (simp; omega))
    have hS0_1 : Hid (SameB w.heap.size 1 w w1) := Lib.hid (by
      refine SameB.below ?_ hb1
      (repeat (first | with_reducible exact SameB.refl _ _ _ | refine SameB.setCell (p := ⟨_, _, _⟩) ?_ (by first | omega | (simp; done) | (simp; omega)) (by first | omega | (simp; done) | (simp; omega)) _ | refine SameB.setNew (p := ⟨_, _, _⟩) ?_ (by first | omega | (simp; done) | (simp; omega)) _ | refine SameB.alloc ?_ _ | refine SameB.drew ?_ | refine SameB.drewN ?_ _)))
    have hs1 : w.heap.size + 1 ≤ w1.heap.size := by have := hb1.size; (try simp at this); omega
    have hc1_0 := fun o : Nat => hc1 (w.heap.size) o (by first | omega | (simp; done) | (simp; omega))
    have hf1_0 := fun o : Nat => hf1 (w.heap.size) o (by first | omega | (simp; done) | (simp; omega))
    clear hc1 hf1
    clear hb1
    go_wp2_with fail
    refine Calls.mono (dyNought_calls (H.out.nbelow HW1.out) _ HD.out) ?_
    rintro E w2 ⟨rfl, hb2⟩
    obtain ⟨hc2, hf2⟩ := bcell hb2
    have HW2 : Hid (Below w.heap.size w w2) := Lib.hid (by
      refine Below.trans ?_ (hb2.mono ?_)
      · (repeat (first | with_reducible exact HW1.out | refine Below.setCell (p := ⟨_, _, _⟩) ?_ (by first | omega | (simp; done) | (simp; omega)) _ | refine Below.alloc ?_ (by first | omega | (simp; done) | (simp; omega)) _ | refine Below.drew ?_ | refine below_dn ?_ _))
      · first | omega | (simp; done) | (simp; omega))
    have hS1_2 : Hid (SameB w.heap.size 1 w1 w2) := Lib.hid (by
      refine SameB.below ?_ hb2
      (repeat (first | with_reducible exact SameB.refl _ _ _ | refine SameB.setCell (p := ⟨_, _, _⟩) ?_ (by first | omega | (simp; done) | (simp; omega)) (by first | omega | (simp; done) | (simp; omega)) _ | refine SameB.setNew (p := ⟨_, _, _⟩) ?_ (by first | omega | (simp; done) | (simp; omega)) _ | refine SameB.alloc ?_ _ | refine SameB.drew ?_ | refine SameB.drewN ?_ _)))
    have hS0_2 := Lib.hid (hS0_1.out.trans hS1_2.out)
    have hs2 : w.heap.size + 1 ≤ w2.heap.size := by have := hb2.size; (try simp at this); omega
    have hc2_0 := fun o : Nat => hc2 (w.heap.size) o (by first | omega | (simp; done) | (simp; omega))
    have hf2_0 := fun o : Nat => hf2 (w.heap.size) o (by first | omega | (simp; done) | (simp; omega))
    clear hc2 hf2
    clear hb2
    go_wp2_with fail
    go_ret
    exact ⟨rfl, by (repeat (first | with_reducible exact HW2.out | refine Below.setCell (p := ⟨_, _, _⟩) ?_ (by first | omega | (simp; done) | (simp; omega)) _ | refine Below.alloc ?_ (by first | omega | (simp; done) | (simp; omega)) _ | refine Below.drew ?_ | refine below_dn ?_ _))⟩
  · have HD : Hid (decide (m.natAbs = 0) = false) := Lib.hid <| by rw [decide_eq_false_iff_not]; omega
    obtain ⟨b, o, x, rfl, hlt, hp, hcell, hxB, hx2, _, _⟩ := h.nat.first (by omega)
    have ho : ((Go.bits .and .u64 (x : Int) 1) == 1) = true := by
      rw [and_one x hxB, beq_iff_eq]; rcases hf with hf | hf <;> omega
    have i1 : (0 : Int) < (n : Int) := by omega
    clear h hz1 hz2 he1 he2 hf h0 hxB hx2
    unfold dyV
    have HW0 : Hid (Below w.heap.size w w) := Lib.hid (Below.refl _ _)
    go_enter Tryd.func50, Tryd.ntmps50
    go_wp2_with fail
    refine Calls.mono (numForm_calls (H.out.zbelow (by (repeat (first | with_reducible exact HW0.out | refine Below.setCell (p := ⟨_, _, _⟩) ?_ (by first | omega | (simp; done) | (simp; omega)) _ | refine Below.alloc ?_ (by first | omega | (simp; done) | (simp; omega)) _ | refine Below.drew ?_ | refine below_dn ?_ _))))) ?_
    rintro E w1 ⟨rfl, hb1⟩
    obtain ⟨hc1, hf1⟩ := bcell hb1
    have HW1 : Hid (Below w.heap.size w w1) := Lib.hid (by
      refine Below.trans ?_ (hb1.mono ?_)
      · (repeat (first | with_reducible exact HW0.out | refine Below.setCell (p := ⟨_, _, _⟩) ?_ (by first | omega | (simp; done) | (simp; omega)) _ | refine Below.alloc ?_ (by first | omega | (simp; done) | (simp; omega)) _ | refine Below.drew ?_ | refine below_dn ?_ _))
      · first | omega | (simp; done) | (simp; omega))
    have hS0_1 : Hid (SameB w.heap.size 1 w w1) := Lib.hid (by
      refine SameB.below ?_ hb1
      (repeat (first | with_reducible exact SameB.refl _ _ _ | refine SameB.setCell (p := ⟨_, _, _⟩) ?_ (by first | omega | (simp; done) | (simp; omega)) (by first | omega | (simp; done) | (simp; omega)) _ | refine SameB.setNew (p := ⟨_, _, _⟩) ?_ (by first | omega | (simp; done) | (simp; omega)) _ | refine SameB.alloc ?_ _ | refine SameB.drew ?_ | refine SameB.drewN ?_ _)))
    have hs1 : w.heap.size + 1 ≤ w1.heap.size := by have := hb1.size; (try simp at this); omega
    have hc1_0 := fun o : Nat => hc1 (w.heap.size) o (by first | omega | (simp; done) | (simp; omega))
    have hf1_0 := fun o : Nat => hf1 (w.heap.size) o (by first | omega | (simp; done) | (simp; omega))
    clear hc1 hf1
    clear hb1
    go_wp2_with fail
    refine Calls.mono (dyNought_calls (H.out.nbelow HW1.out) _ HD.out) ?_
    rintro E w2 ⟨rfl, hb2⟩
    obtain ⟨hc2, hf2⟩ := bcell hb2
    have HW2 : Hid (Below w.heap.size w w2) := Lib.hid (by
      refine Below.trans ?_ (hb2.mono ?_)
      · (repeat (first | with_reducible exact HW1.out | refine Below.setCell (p := ⟨_, _, _⟩) ?_ (by first | omega | (simp; done) | (simp; omega)) _ | refine Below.alloc ?_ (by first | omega | (simp; done) | (simp; omega)) _ | refine Below.drew ?_ | refine below_dn ?_ _))
      · first | omega | (simp; done) | (simp; omega))
    have hS1_2 : Hid (SameB w.heap.size 1 w1 w2) := Lib.hid (by
      refine SameB.below ?_ hb2
      (repeat (first | with_reducible exact SameB.refl _ _ _ | refine SameB.setCell (p := ⟨_, _, _⟩) ?_ (by first | omega | (simp; done) | (simp; omega)) (by first | omega | (simp; done) | (simp; omega)) _ | refine SameB.setNew (p := ⟨_, _, _⟩) ?_ (by first | omega | (simp; done) | (simp; omega)) _ | refine SameB.alloc ?_ _ | refine SameB.drew ?_ | refine SameB.drewN ?_ _)))
    have hS0_2 := Lib.hid (hS0_1.out.trans hS1_2.out)
    have hs2 : w.heap.size + 1 ≤ w2.heap.size := by have := hb2.size; (try simp at this); omega
    have hc2_0 := fun o : Nat => hc2 (w.heap.size) o (by first | omega | (simp; done) | (simp; omega))
    have hf2_0 := fun o : Nat => hf2 (w.heap.size) o (by first | omega | (simp; done) | (simp; omega))
    clear hc2 hf2
    clear hb2
    have hcell2 := (HW2.out.cell (p := ⟨b, o, none⟩) hlt).trans hcell
    clear hcell
    go_wp2_with fail
    go_ret
    exact ⟨rfl, by (repeat (first | with_reducible exact HW2.out | refine Below.setCell (p := ⟨_, _, _⟩) ?_ (by first | omega | (simp; done) | (simp; omega)) _ | refine Below.alloc ?_ (by first | omega | (simp; done) | (simp; omega)) _ | refine Below.drew ?_ | refine below_dn ?_ _))⟩


theorem ownsRow_zero {w : World} {base T : Nat} {v : Value} {l : List Nat} (h : w.ownsRow base T 1 v l.length (cells .u64 l)) (hB : ∀ x ∈ l, x < B64) (h8 : l.length ≤ 8192) (hc : canon l) : IsNat w v (lv B64 l) ∧ Ge base v := by
  rcases h.2 with ⟨rfl, h0⟩ | ⟨g, cap, cur, rfl, hb, hh, hn, hcap, hsz, htk⟩
  · have : l = [] := List.eq_nil_of_length_eq_zero h0
    subst this
    exact ⟨IsNat.zero w, Ge.nil _ _ _⟩
  · refine ⟨⟨some ⟨g, 0, none⟩, cap, l, rfl, hn, h8, ?_, hB, hc, rfl⟩, Ge.at_ hb⟩
    intro hl
    have hlt : g < w.heap.size := by
      rcases Nat.lt_or_ge g w.heap.size with h1 | h1
      · exact h1
      · rw [Array.getElem?_eq_none h1] at hh; cases hh
    refine ⟨g, 0, rfl, hlt, fun i hi => ?_⟩
    rw [Nat.zero_add, h.cellAt i (by omega), cells_get _ _ _ hi]

theorem natClone_calls {w : World} {v : Value} {m : Nat} (h : IsNat w v m) (hs : Spot v) :
    Calls Tryd.prog 71 #[v] w fun E w' => ∃ v', E = .returned v' ∧ IsNat w' v' m ∧ Ge w.heap.size v' ∧ Below w.heap.size w w' := by
  obtain ⟨A, c, l, rfl, h1, h2, h3, h4, h5, rfl⟩ := h
  obtain ⟨i0, hi, hz0, hz1, hz2⟩ := info_parts info22
  cases A with
  | none =>
    have hl : l = [] := by
      rcases Nat.eq_zero_or_pos l.length with h0 | h0
      · exact List.eq_nil_of_length_eq_zero h0
      · obtain ⟨b, o, e, _⟩ := h3 h0; cases e
    subst hl
    refine (Tryd.slices_Clone_nil 0 c w).mono ?_
    rintro E w' ⟨rfl, rfl⟩
    exact ⟨_, rfl, IsNat.zero _, Ge.nil _ _ _, Below.refl _ _⟩
  | some a =>
    obtain ⟨b, o, k⟩ := a
    obtain rfl : k = none := hs b o k _ _ rfl
    refine (Tryd.slices_Clone i0 _ 1 8 hi hz0 hz1 hz2 rfl (by decide) (fun w => by kernel_rfl) b o l.length c (cells .u64 l) w (by rw [cells_length]; omega) (by unfold maxLen; omega) (by omega) ?_ ?_).mono ?_
    · intro j u hu
      have hj : j < l.length := by
        rcases Nat.lt_or_ge j l.length with hj | hj
        · exact hj
        · rw [List.getElem?_eq_none (by rw [cells_length]; exact hj)] at hu; cases hu
      obtain ⟨b', o', e, hlt, hc⟩ := h3 (by omega)
      simp only [Option.some.injEq, Addr.mk.injEq] at e
      obtain ⟨rfl, rfl, _⟩ := e
      rw [cells_get _ _ _ hj] at hu
      rw [hc j hj, hu]
    · intro u hu
      simp only [cells, List.mem_map] at hu
      obtain ⟨x, _, rfl⟩ := hu
      rfl
    · rintro E w' ⟨v', rfl, ho, _, hb⟩
      obtain ⟨a1, a2⟩ := ownsRow_zero ho h4 h2 h5
      exact ⟨v', rfl, a1, a2, hb⟩

/-- the answer: a dyadic alone; a dyadic and no error -/
def DRet (w : World) (m e : Int) (E : Ending) (w' : World) : Prop := ∃ neg v, E = .returned (dyV neg v e) ∧ IsDy w' neg v e m ∧ Ge w.heap.size v ∧ Below w.heap.size w w'
def DRes (w : World) (m e : Int) (E : Ending) (w' : World) : Prop := ∃ neg v, E = .returned (.tuple #[dyV neg v e, .int .i64 0]) ∧ IsDy w' neg v e m ∧ Ge w.heap.size v ∧ Below w.heap.size w w'

set_option maxRecDepth 100000 in
set_option maxHeartbeats 1600000 in
theorem dyTwin_calls {w : World} {neg : Bool} {v : Value} {e m : Int} (h : IsDy w neg v e m) :
    Calls Tryd.prog 52 #[dyV neg v e] w fun E w' => ∃ v', E = .returned (dyV neg v' e) ∧ IsDy w' neg v' e m ∧ Ge w.heap.size v' ∧ Below w.heap.size w w' := by
  obtain ⟨A, n, c, rfl, h8, hz1, hz2⟩ := h.nat.form
  have H := Lib.hid h
  have HSp := Lib.hid h.1.2.2
  clear h hz1 hz2
  unfold dyV
  have HW0 : Hid (Below w.heap.size w w) := Lib.hid (Below.refl _ _)
  go_enter Tryd.func52, Tryd.ntmps52
  go_wp2_with fail
  refine Calls.mono (natClone_calls (H.out.nbelow (by (repeat (first | with_reducible exact HW0.out | refine Below.setCell (p := ⟨_, _, _⟩) ?_ (by first | omega | (simp; done) | (simp; omega)) _ | refine Below.alloc ?_ (by first | omega | (simp; done) | (simp; omega)) _ | refine Below.drew ?_ | refine below_dn ?_ _)))) HSp.out) ?_
  rintro E w1 ⟨v1, rfl, hv1, hg1, hb1⟩
  obtain ⟨hc1, hf1⟩ := bcell hb1
  have HW1 : Hid (Below w.heap.size w w1) := Lib.hid (by
    refine Below.trans ?_ (hb1.mono ?_)
    · (repeat (first | with_reducible exact HW0.out | refine Below.setCell (p := ⟨_, _, _⟩) ?_ (by first | omega | (simp; done) | (simp; omega)) _ | refine Below.alloc ?_ (by first | omega | (simp; done) | (simp; omega)) _ | refine Below.drew ?_ | refine below_dn ?_ _))
    · first | omega | (simp; done) | (simp; omega))
  have hS0_1 : Hid (SameB w.heap.size 2 w w1) := Lib.hid (by
    refine SameB.below ?_ hb1
    (repeat (first | with_reducible exact SameB.refl _ _ _ | refine SameB.setCell (p := ⟨_, _, _⟩) ?_ (by first | omega | (simp; done) | (simp; omega)) (by first | omega | (simp; done) | (simp; omega)) _ | refine SameB.setNew (p := ⟨_, _, _⟩) ?_ (by first | omega | (simp; done) | (simp; omega)) _ | refine SameB.alloc ?_ _ | refine SameB.drew ?_ | refine SameB.drewN ?_ _)))
  have hs1 : w.heap.size + 1 + 1 ≤ w1.heap.size := by have := hb1.size; (try simp at this); omega
  have hc1_0 := fun o : Nat => hc1 (w.heap.size) o (by first | omega | (simp; done) | (simp; omega))
  have hf1_0 := fun o : Nat => hf1 (w.heap.size) o (by first | omega | (simp; done) | (simp; omega))
  have hc1_1 := fun o : Nat => hc1 (w.heap.size + 1) o (by first | omega | (simp; done) | (simp; omega))
  have hf1_1 := fun o : Nat => hf1 (w.heap.size + 1) o (by first | omega | (simp; done) | (simp; omega))
  clear hc1 hf1
  clear hb1
  obtain ⟨A1, k1, c1, rfl, _, _, _⟩ := hv1.form
  have HV1 := Lib.hid hv1
  have HG1 : Hid (Ge (w.heap.size + 1 + 1) _) := Lib.hid (hg1.mono (by first | omega | (simp; done) | (simp; omega)))
  clear hv1 hg1
  go_wp2_with fail
  refine bodyPost_ret (v := dyV neg (.slice A1 k1 c1) e) (by simp [results, Tryd.results52, go_sem, intV, dyV, hc1_0, hf1_0, hc1_1, hf1_1]) rfl ?_
  exact ⟨_, rfl, ⟨⟨(HV1.out.same_ge (N := w.heap.size) (n := 2) HG1.out (by omega) (by (repeat (first | with_reducible exact SameB.refl _ _ _ | refine SameB.setCell (p := ⟨_, _, _⟩) ?_ (by first | omega | (simp; done) | (simp; omega)) (by first | omega | (simp; done) | (simp; omega)) _ | refine SameB.setNew (p := ⟨_, _, _⟩) ?_ (by first | omega | (simp; done) | (simp; omega)) _ | refine SameB.alloc ?_ _ | refine SameB.drew ?_ | refine SameB.drewN ?_ _)))), H.out.1.2.1, HG1.out.spot⟩, H.out.2⟩, HG1.out.mono (by omega), by (repeat (first | with_reducible exact HW1.out | refine Below.setCell (p := ⟨_, _, _⟩) ?_ (by first | omega | (simp; done) | (simp; omega)) _ | refine Below.alloc ?_ (by first | omega | (simp; done) | (simp; omega)) _ | refine Below.drew ?_ | refine below_dn ?_ _))⟩


/-- the odd part of a whole number, and the exponent that goes with it -/
def dyM (z : Int) : Int := if z = 0 then 0 else z / 2 ^ tzn z.natAbs
def dyE (z e : Int) : Int := if z = 0 then 0 else e + tzn z.natAbs

theorem dyM_spec (z : Int) (h : z ≠ 0) : z = dyM z * 2 ^ tzn z.natAbs ∧ dyM z % 2 = 1 ∧ (dyM z).natAbs = z.natAbs / 2 ^ tzn z.natAbs ∧ (dyM z < 0 ↔ z < 0) := by
  obtain ⟨t, e⟩ := tzn_spec z.natAbs (by omega)
  unfold dyM
  rw [if_neg h]
  generalize tzn z.natAbs = k at *
  have hp : (0 : Int) < 2 ^ k := Int.pow_pos (by decide)
  have hpn : 0 < 2 ^ k := Nat.two_pow_pos k
  have hc : ((2 ^ k : Nat) : Int) = 2 ^ k := by simp
  rcases Int.lt_trichotomy z 0 with hz | hz | hz
  · have e1 : z = -(2 * (t : Int) + 1) * 2 ^ k := by
      have : (z.natAbs : Int) = ((2 ^ k * (2 * t + 1) : Nat) : Int) := by rw [← e]
      rw [Int.natCast_mul, hc] at this
      simp only [Int.natCast_add, Int.natCast_mul] at this
      grind
    have e2 : z / 2 ^ k = -(2 * (t : Int) + 1) := by rw [e1, Int.mul_ediv_cancel _ (by omega)]
    rw [e2]
    refine ⟨e1, by omega, ?_, by omega⟩
    rw [e, Nat.mul_div_cancel_left _ hpn]; omega
  · exact absurd hz h
  · have e1 : z = (2 * (t : Int) + 1) * 2 ^ k := by
      have : (z.natAbs : Int) = ((2 ^ k * (2 * t + 1) : Nat) : Int) := by rw [← e]
      rw [Int.natCast_mul, hc] at this
      simp only [Int.natCast_add, Int.natCast_mul] at this
      grind
    have e2 : z / 2 ^ k = 2 * (t : Int) + 1 := by rw [e1, Int.mul_ediv_cancel _ (by omega)]
    rw [e2]
    refine ⟨e1, by omega, ?_, by omega⟩
    rw [e, Nat.mul_div_cancel_left _ hpn]; omega

theorem tzn_le {m : Nat} (h0 : m ≠ 0) (h : m < LIM) : tzn m < 524288 := by
  obtain ⟨t, e⟩ := tzn_spec m h0
  have a : 2 ^ tzn m ≤ m := by rw (occs := .pos [2]) [e]; exact Nat.le_mul_of_pos_right _ (by omega)
  rw [LIM_eq] at h
  have c : tzn m < LIMB := (Nat.pow_lt_pow_iff_right (a := 2) (by decide)).1 (Nat.lt_of_le_of_lt a h)
  rwa [LIMB_eq] at c

/-- what Make asks of the exponents -/
def MkOk (z e : Int) : Prop := z ≠ 0 → e ≤ 1048576 ∧ -1572864 ≤ e ∧ -1048576 ≤ e + tzn z.natAbs ∧ e + tzn z.natAbs ≤ 1048576

set_option maxRecDepth 100000 in
set_option maxHeartbeats 3200000 in
theorem dyMake_calls {w : World} {neg : Bool} {v : Value} {z : Int} (h : IsZ w neg v z) (e : Int) (hT : Tab w) (hk : MkOk z e) :
    Calls Tryd.prog 69 #[intV neg v, .int .i64 e] w (DRes w (dyM z) (dyE z e)) := by
  obtain ⟨A, n, c, rfl, h8, hz1, hz2⟩ := h.1.form
  have H := Lib.hid h
  have HBd := Lib.hid h.1.bd
  have HT := Lib.hid hT
  have hlt := h.1.lt
  by_cases h0 : z = 0
  · subst h0
    have hn0 : n = 0 := hz1 rfl
    subst hn0
    clear h hz1 hz2 hT hlt hk
    unfold intV
    have HW0 : Hid (Below w.heap.size w w) := Lib.hid (Below.refl _ _)
    go_enter Tryd.func69, Tryd.ntmps69
    go_wp2_with fail
    refine Calls.mono (numForm_calls (H.out.below (by (repeat (first | with_reducible exact HW0.out | refine Below.setCell (p := ⟨_, _, _⟩) ?_ (by first | omega | (simp; done) | (simp; omega)) _ | refine Below.alloc ?_ (by first | omega | (simp; done) | (simp; omega)) _ | refine Below.drew ?_ | refine below_dn ?_ _))))) ?_
    rintro E w1 ⟨rfl, hb1⟩
    obtain ⟨hc1, hf1⟩ := bcell hb1
    have HW1 : Hid (Below w.heap.size w w1) := Lib.hid (by
      refine Below.trans ?_ (hb1.mono ?_)
      · (repeat (first | with_reducible exact HW0.out | refine Below.setCell (p := ⟨_, _, _⟩) ?_ (by first | omega | (simp; done) | (simp; omega)) _ | refine Below.alloc ?_ (by first | omega | (simp; done) | (simp; omega)) _ | refine Below.drew ?_ | refine below_dn ?_ _))
      · first | omega | (simp; done) | (simp; omega))
    have hS0_1 : Hid (SameB w.heap.size 2 w w1) := Lib.hid (by
      refine SameB.below ?_ hb1
      (repeat (first | with_reducible exact SameB.refl _ _ _ | refine SameB.setCell (p := ⟨_, _, _⟩) ?_ (by first | omega | (simp; done) | (simp; omega)) (by first | omega | (simp; done) | (simp; omega)) _ | refine SameB.setNew (p := ⟨_, _, _⟩) ?_ (by first | omega | (simp; done) | (simp; omega)) _ | refine SameB.alloc ?_ _ | refine SameB.drew ?_ | refine SameB.drewN ?_ _)))
    have hs1 : w.heap.size + 1 + 1 ≤ w1.heap.size := by have := hb1.size; (try simp at this); omega
    have hc1_0 := fun o : Nat => hc1 (w.heap.size) o (by first | omega | (simp; done) | (simp; omega))
    have hf1_0 := fun o : Nat => hf1 (w.heap.size) o (by first | omega | (simp; done) | (simp; omega))
    have hc1_1 := fun o : Nat => hc1 (w.heap.size + 1) o (by first | omega | (simp; done) | (simp; omega))
    have hf1_1 := fun o : Nat => hf1 (w.heap.size + 1) o (by first | omega | (simp; done) | (simp; omega))
    clear hc1 hf1
    clear hb1
    go_wp2_with fail
    refine bodyPost_ret (v := .tuple #[dyV false (.slice none 0 0) 0, .int .i64 0]) (by simp [results, Tryd.results69, go_sem, intV, dyV, hc1_0, hf1_0, hc1_1, hf1_1]) rfl ?_
    exact ⟨_, _, rfl, ⟨⟨IsNat.zero _, by decide, (Ge.nil 0 0 0).spot⟩, by simp [dyE], by simp [dyE], Or.inr ⟨by simp [dyM], by simp [dyE]⟩⟩, Ge.nil _ _ _, by (repeat (first | with_reducible exact HW1.out | refine Below.setCell (p := ⟨_, _, _⟩) ?_ (by first | omega | (simp; done) | (simp; omega)) _ | refine Below.alloc ?_ (by first | omega | (simp; done) | (simp; omega)) _ | refine Below.drew ?_ | refine below_dn ?_ _))⟩
  · have hn0 : ((n : Int) == 0) = false := by
      rw [beq_eq_false_iff_ne]; intro e; have := hz2 (by omega); omega
    obtain ⟨k1, k2, k3, k4⟩ := hk h0
    have ht : tzn z.natAbs < 524288 := tzn_le (by omega) hlt
    have hm0 : z.natAbs ≠ 0 := by omega
    obtain ⟨s1, s2, s3, s4⟩ := dyM_spec z h0
    have hE : dyE z e = e + tzn z.natAbs := by unfold dyE; rw [if_neg h0]
    rw [hE]
    have HM0 := Lib.hid hm0
    have HN := h.2.1
    have hneg : neg = decide (dyM z < 0) := by rw [HN, decide_eq_decide]; exact s4.symm
    have S2 := Lib.hid s2
    have S3 := Lib.hid s3
    have HNeg := Lib.hid hneg
    generalize dyM z = mm at *
    generalize hM : z.natAbs = M at *
    have HM := Lib.hid hM
    generalize hK : tzn M = K at *
    have HK := Lib.hid hK
    have u1 : ¬ (e > 1048576) := by omega
    have u2 : ¬ (e < -1572864) := by omega
    have u3 : ¬ (e + (K : Int) < -1048576) := by omega
    have u4 : ¬ (e + (K : Int) > 1048576) := by omega
    clear h hz1 hz2 hT hlt hk h0 hm0 s1 s2 s3 s4 HN hneg hM hK hE
    unfold intV
    have HW0 : Hid (Below w.heap.size w w) := Lib.hid (Below.refl _ _)
    go_enter Tryd.func69, Tryd.ntmps69
    go_wp2_with fail
    refine Calls.mono (numForm_calls (H.out.below (by (repeat (first | with_reducible exact HW0.out | refine Below.setCell (p := ⟨_, _, _⟩) ?_ (by first | omega | (simp; done) | (simp; omega)) _ | refine Below.alloc ?_ (by first | omega | (simp; done) | (simp; omega)) _ | refine Below.drew ?_ | refine below_dn ?_ _))))) ?_
    rintro E w1 ⟨rfl, hb1⟩
    obtain ⟨hc1, hf1⟩ := bcell hb1
    have HW1 : Hid (Below w.heap.size w w1) := Lib.hid (by
      refine Below.trans ?_ (hb1.mono ?_)
      · (repeat (first | with_reducible exact HW0.out | refine Below.setCell (p := ⟨_, _, _⟩) ?_ (by first | omega | (simp; done) | (simp; omega)) _ | refine Below.alloc ?_ (by first | omega | (simp; done) | (simp; omega)) _ | refine Below.drew ?_ | refine below_dn ?_ _))
      · first | omega | (simp; done) | (simp; omega))
    have hS0_1 : Hid (SameB w.heap.size 2 w w1) := Lib.hid (by
      refine SameB.below ?_ hb1
      (repeat (first | with_reducible exact SameB.refl _ _ _ | refine SameB.setCell (p := ⟨_, _, _⟩) ?_ (by first | omega | (simp; done) | (simp; omega)) (by first | omega | (simp; done) | (simp; omega)) _ | refine SameB.setNew (p := ⟨_, _, _⟩) ?_ (by first | omega | (simp; done) | (simp; omega)) _ | refine SameB.alloc ?_ _ | refine SameB.drew ?_ | refine SameB.drewN ?_ _)))
    have hs1 : w.heap.size + 1 + 1 ≤ w1.heap.size := by have := hb1.size; (try simp at this); omega
    have hc1_0 := fun o : Nat => hc1 (w.heap.size) o (by first | omega | (simp; done) | (simp; omega))
    have hf1_0 := fun o : Nat => hf1 (w.heap.size) o (by first | omega | (simp; done) | (simp; omega))
    have hc1_1 := fun o : Nat => hc1 (w.heap.size + 1) o (by first | omega | (simp; done) | (simp; omega))
    have hf1_1 := fun o : Nat => hf1 (w.heap.size + 1) o (by first | omega | (simp; done) | (simp; omega))
    clear hc1 hf1
    clear hb1
    go_wp2_with fail
    refine Calls.mono (natTrail_calls (HM.out ▸ H.out.nbelow HW1.out) HM0.out (HT.out.below HW1.out)) ?_
    rintro E w1' ⟨rfl, rfl⟩
    rw [HK.out]
    go_wp2_with fail
    refine Calls.mono (natShr_calls (HM.out ▸ H.out.nbelow HW1.out) K (by omega)) ?_
    rintro E w2 ⟨v2, rfl, hv2, hg2, hb2⟩
    obtain ⟨hc2, hf2⟩ := bcell hb2
    have HW2 : Hid (Below w.heap.size w w2) := Lib.hid (by
      refine Below.trans ?_ (hb2.mono ?_)
      · (repeat (first | with_reducible exact HW1.out | refine Below.setCell (p := ⟨_, _, _⟩) ?_ (by first | omega | (simp; done) | (simp; omega)) _ | refine Below.alloc ?_ (by first | omega | (simp; done) | (simp; omega)) _ | refine Below.drew ?_ | refine below_dn ?_ _))
      · first | omega | (simp; done) | (simp; omega))
    have hS1_2 : Hid (SameB w.heap.size 2 w1 w2) := Lib.hid (by
      refine SameB.below ?_ hb2
      (repeat (first | with_reducible exact SameB.refl _ _ _ | refine SameB.setCell (p := ⟨_, _, _⟩) ?_ (by first | omega | (simp; done) | (simp; omega)) (by first | omega | (simp; done) | (simp; omega)) _ | refine SameB.setNew (p := ⟨_, _, _⟩) ?_ (by first | omega | (simp; done) | (simp; omega)) _ | refine SameB.alloc ?_ _ | refine SameB.drew ?_ | refine SameB.drewN ?_ _)))
    have hS0_2 := Lib.hid (hS0_1.out.trans hS1_2.out)
    have hs2 : w.heap.size + 1 + 1 ≤ w2.heap.size := by have := hb2.size; (try simp at this); omega
    have hc2_0 := fun o : Nat => hc2 (w.heap.size) o (by first | omega | (simp; done) | (simp; omega))
    have hf2_0 := fun o : Nat => hf2 (w.heap.size) o (by first | omega | (simp; done) | (simp; omega))
    have hc2_1 := fun o : Nat => hc2 (w.heap.size + 1) o (by first | omega | (simp; done) | (simp; omega))
    have hf2_1 := fun o : Nat => hf2 (w.heap.size + 1) o (by first | omega | (simp; done) | (simp; omega))
    clear hc2 hf2
    clear hb2
    obtain ⟨A2, k2, c2, rfl, _, _, _⟩ := hv2.form
    have HV2 := Lib.hid hv2
    have HG2 : Hid (Ge (w.heap.size + 1 + 1) _) := Lib.hid (hg2.mono (by first | omega | (simp; done) | (simp; omega)))
    clear hv2 hg2
    go_wp2_with fail
    refine bodyPost_ret (v := .tuple #[dyV neg (.slice A2 k2 c2) (e + K), .int .i64 0]) (by simp [results, Tryd.results69, go_sem, intV, dyV, hc1_0, hf1_0, hc1_1, hf1_1, hc2_0, hf2_0, hc2_1, hf2_1]) rfl ?_
    refine ⟨neg, _, rfl, ⟨⟨?_, HNeg.out, HG2.out.spot⟩, by omega, by omega, Or.inl S2.out⟩, HG2.out.mono (by omega), by (repeat (first | with_reducible exact HW2.out | refine Below.setCell (p := ⟨_, _, _⟩) ?_ (by first | omega | (simp; done) | (simp; omega)) _ | refine Below.alloc ?_ (by first | omega | (simp; done) | (simp; omega)) _ | refine Below.drew ?_ | refine below_dn ?_ _))⟩
    rw [S3.out]
    exact (HV2.out.same_ge (N := w.heap.size) (n := 2) HG2.out (by omega) (by (repeat (first | with_reducible exact SameB.refl _ _ _ | refine SameB.setCell (p := ⟨_, _, _⟩) ?_ (by first | omega | (simp; done) | (simp; omega)) (by first | omega | (simp; done) | (simp; omega)) _ | refine SameB.setNew (p := ⟨_, _, _⟩) ?_ (by first | omega | (simp; done) | (simp; omega)) _ | refine SameB.alloc ?_ _ | refine SameB.drew ?_ | refine SameB.drewN ?_ _))))


/-- the top of a dyadic -/
def dyTop (e m : Int) : Int := e + blen m.natAbs - 1

set_option maxRecDepth 100000 in
set_option maxHeartbeats 1600000 in
theorem dyTop_calls {w : World} {neg : Bool} {v : Value} {e m : Int} (h : IsDy w neg v e m) :
    Calls Tryd.prog 73 #[dyV neg v e] w fun E w' => E = .returned (.int .i64 (dyTop e m)) ∧ Below w.heap.size w w' := by
  obtain ⟨A, n, c, rfl, h8, hz1, hz2⟩ := h.nat.form
  have H := Lib.hid h
  obtain ⟨he1, he2, hf⟩ := h.2
  have hbl : blen m.natAbs ≤ 524288 := by
    by_cases h0 : m.natAbs = 0
    · rw [h0]; decide
    · have := blen_fits (n := 0) h0 (by simpa using h.nat.lt); omega
  have HN := Lib.hid (fun w0 (hb : Below w.heap.size w w0) => natBits_calls (h.nbelow hb))
  have HD : Hid (dyTop e m = e + blen m.natAbs - 1) := Lib.hid rfl
  generalize dyTop e m = dt at *
  generalize blen m.natAbs = bl at *
  clear h hz1 hz2 hf
  unfold dyV
  go_enter Tryd.func73, Tryd.ntmps73
  go_wp2_with fail
  go_quiet ((go_at_call 72; exact Calls.quiet_of_same ((HN.out _ (by first | exact (Below.refl _ _).alloc (Nat.le_refl _) _ | exact ((Below.refl _ _).alloc (Nat.le_refl _) _).drew | exact below_dn ((Below.refl _ _).alloc (Nat.le_refl _) _) _)).mono fun _ _ ⟨a, b⟩ => ⟨a, b.symm⟩)))
  go_wp2_with fail
  go_ret
  exact ⟨ret_int (by rw [HD.out]), below_dn ((Below.refl _ _).alloc (Nat.le_refl _) _) _⟩

end Go.Proofs.YtgihapdlliidgaaDoor
