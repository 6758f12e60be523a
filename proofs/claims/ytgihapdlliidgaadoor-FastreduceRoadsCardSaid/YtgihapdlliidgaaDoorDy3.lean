/- The walks of package dyadic, to the end. -/
import Derived.Test.YtgihapdlliidgaaDoorDy2
namespace Go.Proofs.YtgihapdlliidgaaDoor
open Go Go.RowKit
set_option linter.unusedVariables false
set_option linter.unusedSimpArgs false

set_option maxRecDepth 100000 in
set_option maxHeartbeats 3200000 in
theorem dySub_calls {w : World} {na nb : Bool} {a b : Value} {ma ea mb eb : Int} (ha : IsDy w na a ea ma) (hb : IsDy w nb b eb mb) (hT : Tab w) (hok : AddOk ma ea (-mb) eb) :
    Calls Tryd.prog 27 #[dyV na a ea, dyV nb b eb] w (DRes w (dyM (dyZ ma ea (-mb) eb)) (dyE (dyZ ma ea (-mb) eb) (min ea eb))) := by
  obtain ⟨Aa, ka, ca, rfl, _⟩ := ha.nat.form
  obtain ⟨Ab, kb, cb, rfl, _⟩ := hb.nat.form
  have HA := Lib.hid ha
  have HB := Lib.hid hb
  have HT := Lib.hid hT
  have HO := Lib.hid hok
  have HBa := Lib.hid ha.bd
  clear ha hb hT hok
  unfold dyV
  have HW0 : Hid (Below w.heap.size w w) := Lib.hid (Below.refl _ _)
  go_enter Tryd.func27, Tryd.ntmps27
  go_wp2_with fail
  refine Calls.mono (dyNeg_calls (HB.out.below (by (repeat (first | with_reducible exact HW0.out | refine Below.setCell (p := ⟨_, _, _⟩) ?_ (by first | omega | (simp; done) | (simp; omega)) _ | refine Below.alloc ?_ (by first | omega | (simp; done) | (simp; omega)) _ | refine Below.drew ?_ | refine below_dn ?_ _))))) ?_
  rintro E w1 ⟨n1, v1, rfl, hv1, hg1, hb1⟩
  obtain ⟨hc1, hf1⟩ := bcell hb1
  have HW1 : Hid (Below w.heap.size w w1) := Lib.hid (by
    refine Below.trans ?_ (hb1.mono ?_)
    · (repeat (first | with_reducible exact HW0.out | refine Below.setCell (p := ⟨_, _, _⟩) ?_ (by first | omega | (simp; done) | (simp; omega)) _ | refine Below.alloc ?_ (by first | omega | (simp; done) | (simp; omega)) _ | refine Below.drew ?_ | refine below_dn ?_ _))
    · first | omega | (simp; done) | (simp; omega))
  have hS0_1 : Hid (SameB w.heap.size 3 w w1) := Lib.hid (by
    refine SameB.below ?_ hb1
    (repeat (first | with_reducible exact SameB.refl _ _ _ | refine SameB.setCell (p := ⟨_, _, _⟩) ?_ (by first | omega | (simp; done) | (simp; omega)) (by first | omega | (simp; done) | (simp; omega)) _ | refine SameB.setNew (p := ⟨_, _, _⟩) ?_ (by first | omega | (simp; done) | (simp; omega)) _ | refine SameB.alloc ?_ _ | refine SameB.drew ?_ | refine SameB.drewN ?_ _)))
  have hs1 : w.heap.size + 1 + 1 + 1 ≤ w1.heap.size := by have := hb1.size; (try simp at this); omega
  have hc1_0 := fun o : Nat => hc1 (w.heap.size) o (by first | omega | (simp; done) | (simp; omega))
  have hf1_0 := fun o : Nat => hf1 (w.heap.size) o (by first | omega | (simp; done) | (simp; omega))
  have hc1_1 := fun o : Nat => hc1 (w.heap.size + 1) o (by first | omega | (simp; done) | (simp; omega))
  have hf1_1 := fun o : Nat => hf1 (w.heap.size + 1) o (by first | omega | (simp; done) | (simp; omega))
  have hc1_2 := fun o : Nat => hc1 (w.heap.size + 1 + 1) o (by first | omega | (simp; done) | (simp; omega))
  have hf1_2 := fun o : Nat => hf1 (w.heap.size + 1 + 1) o (by first | omega | (simp; done) | (simp; omega))
  clear hc1 hf1
  clear hb1
  obtain ⟨A1, k1, c1, rfl, _, _, _⟩ := hv1.nat.form
  have HV1 := Lib.hid hv1
  have HG1 : Hid (Ge (w.heap.size + 1 + 1 + 1) _) := Lib.hid (hg1.mono (by first | omega | (simp; done) | (simp; omega)))
  clear hv1 hg1
  unfold dyV
  have hlt2_0 : w.heap.size < w1.heap.size := by omega
  have hne2_0 : ¬ (w.heap.size = w1.heap.size) := by omega
  have hen2_0 : ¬ (w1.heap.size = w.heap.size) := by omega
  have hlt2_1 : w.heap.size + 1 < w1.heap.size := by omega
  have hne2_1 : ¬ (w.heap.size + 1 = w1.heap.size) := by omega
  have hen2_1 : ¬ (w1.heap.size = w.heap.size + 1) := by omega
  have hlt2_2 : w.heap.size + 1 + 1 < w1.heap.size := by omega
  have hne2_2 : ¬ (w.heap.size + 1 + 1 = w1.heap.size) := by omega
  have hen2_2 : ¬ (w1.heap.size = w.heap.size + 1 + 1) := by omega
  go_wp2_with fail
  refine Calls.mono (dyAdd_calls (HA.out.below (by (repeat (first | with_reducible exact HW1.out | refine Below.setCell (p := ⟨_, _, _⟩) ?_ (by first | omega | (simp; done) | (simp; omega)) _ | refine Below.alloc ?_ (by first | omega | (simp; done) | (simp; omega)) _ | refine Below.drew ?_ | refine below_dn ?_ _)))) (HV1.out.same_ge (N := w.heap.size) (n := 3) HG1.out (by omega) (by (repeat (first | with_reducible exact SameB.refl _ _ _ | refine SameB.setCell (p := ⟨_, _, _⟩) ?_ (by first | omega | (simp; done) | (simp; omega)) (by first | omega | (simp; done) | (simp; omega)) _ | refine SameB.setNew (p := ⟨_, _, _⟩) ?_ (by first | omega | (simp; done) | (simp; omega)) _ | refine SameB.alloc ?_ _ | refine SameB.drew ?_ | refine SameB.drewN ?_ _)))) (HT.out.below (by (repeat (first | with_reducible exact HW1.out | refine Below.setCell (p := ⟨_, _, _⟩) ?_ (by first | omega | (simp; done) | (simp; omega)) _ | refine Below.alloc ?_ (by first | omega | (simp; done) | (simp; omega)) _ | refine Below.drew ?_ | refine below_dn ?_ _)))) HO.out) ?_
  rintro E w2 ⟨n2, v2, rfl, hv2, hg2, hb2⟩
  obtain ⟨hc2, hf2⟩ := bcell hb2
  have HW2 : Hid (Below w.heap.size w w2) := Lib.hid (by
    refine Below.trans ?_ (hb2.mono ?_)
    · (repeat (first | with_reducible exact HW1.out | refine Below.setCell (p := ⟨_, _, _⟩) ?_ (by first | omega | (simp; done) | (simp; omega)) _ | refine Below.alloc ?_ (by first | omega | (simp; done) | (simp; omega)) _ | refine Below.drew ?_ | refine below_dn ?_ _))
    · first | omega | (simp; done) | (simp; omega))
  have hS1_2 : Hid (SameB w.heap.size 3 w1 w2) := Lib.hid (by
    refine SameB.below ?_ hb2
    (repeat (first | with_reducible exact SameB.refl _ _ _ | refine SameB.setCell (p := ⟨_, _, _⟩) ?_ (by first | omega | (simp; done) | (simp; omega)) (by first | omega | (simp; done) | (simp; omega)) _ | refine SameB.setNew (p := ⟨_, _, _⟩) ?_ (by first | omega | (simp; done) | (simp; omega)) _ | refine SameB.alloc ?_ _ | refine SameB.drew ?_ | refine SameB.drewN ?_ _)))
  have hS0_2 := Lib.hid (hS0_1.out.trans hS1_2.out)
  have hs2 : w.heap.size + 1 + 1 + 1 ≤ w2.heap.size := by have := hb2.size; (try simp at this); omega
  have hc2_0 := fun o : Nat => hc2 (w.heap.size) o (by first | omega | (simp; done) | (simp; omega))
  have hf2_0 := fun o : Nat => hf2 (w.heap.size) o (by first | omega | (simp; done) | (simp; omega))
  have hc2_1 := fun o : Nat => hc2 (w.heap.size + 1) o (by first | omega | (simp; done) | (simp; omega))
  have hf2_1 := fun o : Nat => hf2 (w.heap.size + 1) o (by first | omega | (simp; done) | (simp; omega))
  have hc2_2 := fun o : Nat => hc2 (w.heap.size + 1 + 1) o (by first | omega | (simp; done) | (simp; omega))
  have hf2_2 := fun o : Nat => hf2 (w.heap.size + 1 + 1) o (by first | omega | (simp; done) | (simp; omega))
  have hsx2_0 : w1.heap.size + 1 ≤ w2.heap.size := by have := hb2.size; (try simp at this); omega
  have hx2_0 := fun o : Nat => hc2 (w1.heap.size) o (by first | omega | (simp; done) | (simp; omega))
  have hxf2_0 := fun o : Nat => hf2 (w1.heap.size) o (by first | omega | (simp; done) | (simp; omega))
  clear hc2 hf2
  clear hb2
  obtain ⟨A2, k2, c2, rfl, _, _, _⟩ := hv2.nat.form
  have HV2 := Lib.hid hv2
  have HG2 : Hid (Ge (w.heap.size + 1 + 1 + 1) _) := Lib.hid (hg2.mono (by first | omega | (simp; done) | (simp; omega)))
  clear hv2 hg2
  generalize dyE (dyZ ma ea (-mb) eb) (min ea eb) = re at *
  generalize dyM (dyZ ma ea (-mb) eb) = rm at *
  unfold dyV
  go_wp2_with fail
  refine bodyPost_ret (v := .tuple #[dyV n2 (.slice A2 k2 c2) re, .int .i64 0]) (by simp [results, Tryd.results27, go_sem, intV, dyV, hc1_0, hf1_0, hc1_1, hf1_1, hc1_2, hf1_2, hc2_0, hf2_0, hc2_1, hf2_1, hc2_2, hf2_2, hlt2_0, hne2_0, hen2_0, hlt2_1, hne2_1, hen2_1, hlt2_2, hne2_2, hen2_2, hx2_0, hxf2_0]) rfl ?_
  exact ⟨n2, _, rfl, (HV2.out.same_ge (N := w.heap.size) (n := 3) HG2.out (by omega) (by (repeat (first | with_reducible exact SameB.refl _ _ _ | refine SameB.setCell (p := ⟨_, _, _⟩) ?_ (by first | omega | (simp; done) | (simp; omega)) (by first | omega | (simp; done) | (simp; omega)) _ | refine SameB.setNew (p := ⟨_, _, _⟩) ?_ (by first | omega | (simp; done) | (simp; omega)) _ | refine SameB.alloc ?_ _ | refine SameB.drew ?_ | refine SameB.drewN ?_ _)))), HG2.out.mono (by omega), by (repeat (first | with_reducible exact HW2.out | refine Below.setCell (p := ⟨_, _, _⟩) ?_ (by first | omega | (simp; done) | (simp; omega)) _ | refine Below.alloc ?_ (by first | omega | (simp; done) | (simp; omega)) _ | refine Below.drew ?_ | refine below_dn ?_ _))⟩

theorem cell_twice (w : World) (a : Addr) (v u : Value) (h : (w.cell? a).isSome = true) : ((w.setCell a v).setCell a u).cell? a = some u := by
  refine World.cell?_setCell_same' _ _ _ ?_
  rw [World.cell?_setCell_same' _ _ _ h]; rfl
attribute [go_sem] cell_twice

set_option maxRecDepth 100000 in
set_option maxHeartbeats 3200000 in
theorem dyScale_calls {w : World} {na : Bool} {a : Value} {m e : Int} (n : Int) (h : IsDy w na a e m) (hn : m ≠ 0 → -2097152 ≤ n ∧ n ≤ 2097152 ∧ e + n ≤ 1048576 ∧ -1048576 ≤ e + n) :
    Calls Tryd.prog 28 #[dyV na a e, .int .i64 n] w (DRes w m (if m = 0 then 0 else e + n)) := by
  obtain ⟨A, ka, ca, rfl, h8, hz1, hz2⟩ := h.nat.form
  clear h8 hz1 hz2
  have H := Lib.hid h
  have HF := h.2
  by_cases h0 : m = 0
  · subst h0
    have HD : Hid (decide ((0 : Int).natAbs = 0) = true) := Lib.hid rfl
    rw [if_pos rfl]
    clear h hn HF
    unfold dyV
    have HW0 : Hid (Below w.heap.size w w) := Lib.hid (Below.refl _ _)
    go_enter Tryd.func28, Tryd.ntmps28
    go_wp2_with fail
    refine Calls.mono (dyForm_calls (H.out.below (by (repeat (first | with_reducible exact HW0.out | refine Below.setCell (p := ⟨_, _, _⟩) ?_ (by first | omega | (simp; done) | (simp; omega)) _ | refine Below.alloc ?_ (by first | omega | (simp; done) | (simp; omega)) _ | refine Below.drew ?_ | refine below_dn ?_ _))))) ?_
    rintro E w1 ⟨rfl, hb1⟩
    obtain ⟨hc1, hf1⟩ := bcell hb1
    have HW1 : Hid (Below w.heap.size w w1) := Lib.hid (by
      refine Below.trans ?_ (hb1.mono ?_)
      · (repeat (first | with_reducible exact HW0.out | refine Below.setCell (p := ⟨_, _, _⟩) ?_ (by first | omega | (simp; done) | (simp; omega)) _ | refine Below.alloc ?_ (by first | omega | (simp; done) | (simp; omega)) _ | refine Below.drew ?_ | refine below_dn ?_ _))
      · first | omega | (simp; done) | (simp; omega))
    have hS0_1 : Hid (SameB w.heap.size 2 w w1) := Lib.hid (by
      refine SameB.below ?_ hb1
      (repeat (first | with_reducible exact SameB.refl _ _ _ | refine SameB.setCell (p := ⟨_, _, _⟩) ?_ (by first | omega | (simp; done) | (simp; omega)) (by first | omega | (simp; done) | (simp; omega)) _ | refine SameB.setNew (p := ⟨_, _, _⟩) ?_ (by first | omega | (simp; done) | (simp; omega)) _ | refine SameB.alloc ?_ _ | refine SameB.drew ?_ | refine SameB.drewN ?_ _)))
    have hs1 : w.heap.size + 1 + 1 ≤ w1.heap.size := by have := hb1.size; (try simp at this); omega
    have hc1_0 := fun o : Nat => hc1 (w.heap.size) o (by first | omega | (simp; done) | (simp; omega))
    have hf1_0 := fun o : Nat => hf1 (w.heap.size) o (by first | omega | (simp; done) | (simp; omega))
    have hc1_1 := fun o : Nat => hc1 (w.heap.size + 1) o (by first | omega | (simp; done) | (simp; omega))
    have hf1_1 := fun o : Nat => hf1 (w.heap.size + 1) o (by first | omega | (simp; done) | (simp; omega))
    clear hc1 hf1
    clear hb1
    go_wp2_with fail
    refine Calls.mono (dyNought_calls (H.out.nbelow HW1.out) _ HD.out) ?_
    rintro E w2 ⟨rfl, hb2⟩
    obtain ⟨hc2, hf2⟩ := bcell hb2
    have HW2 : Hid (Below w.heap.size w w2) := Lib.hid (by
      refine Below.trans ?_ (hb2.mono ?_)
      · (repeat (first | with_reducible exact HW1.out | refine Below.setCell (p := ⟨_, _, _⟩) ?_ (by first | omega | (simp; done) | (simp; omega)) _ | refine Below.alloc ?_ (by first | omega | (simp; done) | (simp; omega)) _ | refine Below.drew ?_ | refine below_dn ?_ _))
      · first | omega | (simp; done) | (simp; omega))
    have hS1_2 : Hid (SameB w.heap.size 2 w1 w2) := Lib.hid (by
      refine SameB.below ?_ hb2
      (repeat (first | with_reducible exact SameB.refl _ _ _ | refine SameB.setCell (p := ⟨_, _, _⟩) ?_ (by first | omega | (simp; done) | (simp; omega)) (by first | omega | (simp; done) | (simp; omega)) _ | refine SameB.setNew (p := ⟨_, _, _⟩) ?_ (by first | omega | (simp; done) | (simp; omega)) _ | refine SameB.alloc ?_ _ | refine SameB.drew ?_ | refine SameB.drewN ?_ _)))
    have hS0_2 := Lib.hid (hS0_1.out.trans hS1_2.out)
    have hs2 : w.heap.size + 1 + 1 ≤ w2.heap.size := by have := hb2.size; (try simp at this); omega
    have hc2_0 := fun o : Nat => hc2 (w.heap.size) o (by first | omega | (simp; done) | (simp; omega))
    have hf2_0 := fun o : Nat => hf2 (w.heap.size) o (by first | omega | (simp; done) | (simp; omega))
    have hc2_1 := fun o : Nat => hc2 (w.heap.size + 1) o (by first | omega | (simp; done) | (simp; omega))
    have hf2_1 := fun o : Nat => hf2 (w.heap.size + 1) o (by first | omega | (simp; done) | (simp; omega))
    clear hc2 hf2
    clear hb2
    go_wp2_with fail
    refine bodyPost_ret (v := .tuple #[dyV false (.slice none 0 0) 0, .int .i64 0]) (by simp [results, Tryd.results28, go_sem, intV, dyV, hc1_0, hf1_0, hc1_1, hf1_1, hc2_0, hf2_0, hc2_1, hf2_1]) rfl ?_
    exact ⟨_, _, rfl, ⟨⟨IsNat.zero _, by decide, (Ge.nil 0 0 0).spot⟩, by decide, by decide, Or.inr ⟨rfl, rfl⟩⟩, Ge.nil _ _ _, by (repeat (first | with_reducible exact HW2.out | refine Below.setCell (p := ⟨_, _, _⟩) ?_ (by first | omega | (simp; done) | (simp; omega)) _ | refine Below.alloc ?_ (by first | omega | (simp; done) | (simp; omega)) _ | refine Below.drew ?_ | refine below_dn ?_ _))⟩
  · obtain ⟨t1, t2, t3, t4⟩ := hn h0
    have HD : Hid (decide (m.natAbs = 0) = false) := Lib.hid (by rw [decide_eq_false_iff_not]; omega)
    rw [if_neg h0]
    obtain ⟨f1, f2, f3⟩ := HF
    have HF : Hid (DyF m (e + n)) := Lib.hid ⟨t4, t3, by rcases f3 with f3 | f3 <;> omega⟩
    have u1 : ¬ n > 2097152 := by omega
    have u2 : ¬ n < -2097152 := by omega
    have u3 : ¬ e + n > 1048576 := by omega
    have u4 : ¬ e + n < -1048576 := by omega
    clear h hn f1 f2 f3 h0
    unfold dyV
    have HW0 : Hid (Below w.heap.size w w) := Lib.hid (Below.refl _ _)
    go_enter Tryd.func28, Tryd.ntmps28
    go_wp2_with fail
    refine Calls.mono (dyForm_calls (H.out.below (by (repeat (first | with_reducible exact HW0.out | refine Below.setCell (p := ⟨_, _, _⟩) ?_ (by first | omega | (simp; done) | (simp; omega)) _ | refine Below.alloc ?_ (by first | omega | (simp; done) | (simp; omega)) _ | refine Below.drew ?_ | refine below_dn ?_ _))))) ?_
    rintro E w1 ⟨rfl, hb1⟩
    obtain ⟨hc1, hf1⟩ := bcell hb1
    have HW1 : Hid (Below w.heap.size w w1) := Lib.hid (by
      refine Below.trans ?_ (hb1.mono ?_)
      · (repeat (first | with_reducible exact HW0.out | refine Below.setCell (p := ⟨_, _, _⟩) ?_ (by first | omega | (simp; done) | (simp; omega)) _ | refine Below.alloc ?_ (by first | omega | (simp; done) | (simp; omega)) _ | refine Below.drew ?_ | refine below_dn ?_ _))
      · first | omega | (simp; done) | (simp; omega))
    have hS0_1 : Hid (SameB w.heap.size 2 w w1) := Lib.hid (by
      refine SameB.below ?_ hb1
      (repeat (first | with_reducible exact SameB.refl _ _ _ | refine SameB.setCell (p := ⟨_, _, _⟩) ?_ (by first | omega | (simp; done) | (simp; omega)) (by first | omega | (simp; done) | (simp; omega)) _ | refine SameB.setNew (p := ⟨_, _, _⟩) ?_ (by first | omega | (simp; done) | (simp; omega)) _ | refine SameB.alloc ?_ _ | refine SameB.drew ?_ | refine SameB.drewN ?_ _)))
    have hs1 : w.heap.size + 1 + 1 ≤ w1.heap.size := by have := hb1.size; (try simp at this); omega
    have hc1_0 := fun o : Nat => hc1 (w.heap.size) o (by first | omega | (simp; done) | (simp; omega))
    have hf1_0 := fun o : Nat => hf1 (w.heap.size) o (by first | omega | (simp; done) | (simp; omega))
    have hc1_1 := fun o : Nat => hc1 (w.heap.size + 1) o (by first | omega | (simp; done) | (simp; omega))
    have hf1_1 := fun o : Nat => hf1 (w.heap.size + 1) o (by first | omega | (simp; done) | (simp; omega))
    clear hc1 hf1
    clear hb1
    go_wp2_with fail
    refine Calls.mono (dyNought_calls (H.out.nbelow HW1.out) _ HD.out) ?_
    rintro E w2 ⟨rfl, hb2⟩
    obtain ⟨hc2, hf2⟩ := bcell hb2
    have HW2 : Hid (Below w.heap.size w w2) := Lib.hid (by
      refine Below.trans ?_ (hb2.mono ?_)
      · (repeat (first | with_reducible exact HW1.out | refine Below.setCell (p := ⟨_, _, _⟩) ?_ (by first | omega | (simp; done) | (simp; omega)) _ | refine Below.alloc ?_ (by first | omega | (simp; done) | (simp; omega)) _ | refine Below.drew ?_ | refine below_dn ?_ _))
      · first | omega | (simp; done) | (simp; omega))
    have hS1_2 : Hid (SameB w.heap.size 2 w1 w2) := Lib.hid (by
      refine SameB.below ?_ hb2
      (repeat (first | with_reducible exact SameB.refl _ _ _ | refine SameB.setCell (p := ⟨_, _, _⟩) ?_ (by first | omega | (simp; done) | (simp; omega)) (by first | omega | (simp; done) | (simp; omega)) _ | refine SameB.setNew (p := ⟨_, _, _⟩) ?_ (by first | omega | (simp; done) | (simp; omega)) _ | refine SameB.alloc ?_ _ | refine SameB.drew ?_ | refine SameB.drewN ?_ _)))
    have hS0_2 := Lib.hid (hS0_1.out.trans hS1_2.out)
    have hs2 : w.heap.size + 1 + 1 ≤ w2.heap.size := by have := hb2.size; (try simp at this); omega
    have hc2_0 := fun o : Nat => hc2 (w.heap.size) o (by first | omega | (simp; done) | (simp; omega))
    have hf2_0 := fun o : Nat => hf2 (w.heap.size) o (by first | omega | (simp; done) | (simp; omega))
    have hc2_1 := fun o : Nat => hc2 (w.heap.size + 1) o (by first | omega | (simp; done) | (simp; omega))
    have hf2_1 := fun o : Nat => hf2 (w.heap.size + 1) o (by first | omega | (simp; done) | (simp; omega))
    clear hc2 hf2
    clear hb2
    go_wp2_with fail
    refine Calls.mono (dyTwin_calls (H.out.below HW2.out)) ?_
    rintro E w3 ⟨v3, rfl, hv3, hg3, hb3⟩
    obtain ⟨hc3, hf3⟩ := bcell hb3
    have HW3 : Hid (Below w.heap.size w w3) := Lib.hid (by
      refine Below.trans ?_ (hb3.mono ?_)
      · (repeat (first | with_reducible exact HW2.out | refine Below.setCell (p := ⟨_, _, _⟩) ?_ (by first | omega | (simp; done) | (simp; omega)) _ | refine Below.alloc ?_ (by first | omega | (simp; done) | (simp; omega)) _ | refine Below.drew ?_ | refine below_dn ?_ _))
      · first | omega | (simp; done) | (simp; omega))
    have hS2_3 : Hid (SameB w.heap.size 2 w2 w3) := Lib.hid (by
      refine SameB.below ?_ hb3
      (repeat (first | with_reducible exact SameB.refl _ _ _ | refine SameB.setCell (p := ⟨_, _, _⟩) ?_ (by first | omega | (simp; done) | (simp; omega)) (by first | omega | (simp; done) | (simp; omega)) _ | refine SameB.setNew (p := ⟨_, _, _⟩) ?_ (by first | omega | (simp; done) | (simp; omega)) _ | refine SameB.alloc ?_ _ | refine SameB.drew ?_ | refine SameB.drewN ?_ _)))
    have hS0_3 := Lib.hid (hS0_2.out.trans hS2_3.out)
    have hS1_3 := Lib.hid (hS1_2.out.trans hS2_3.out)
    have hs3 : w.heap.size + 1 + 1 ≤ w3.heap.size := by have := hb3.size; (try simp at this); omega
    have hc3_0 := fun o : Nat => hc3 (w.heap.size) o (by first | omega | (simp; done) | (simp; omega))
    have hf3_0 := fun o : Nat => hf3 (w.heap.size) o (by first | omega | (simp; done) | (simp; omega))
    have hc3_1 := fun o : Nat => hc3 (w.heap.size + 1) o (by first | omega | (simp; done) | (simp; omega))
    have hf3_1 := fun o : Nat => hf3 (w.heap.size + 1) o (by first | omega | (simp; done) | (simp; omega))
    clear hc3 hf3
    clear hb3
    obtain ⟨A3, k3, c3, rfl, _, _, _⟩ := hv3.nat.form
    have HV3 := Lib.hid hv3
    have HG3 : Hid (Ge (w.heap.size + 1 + 1) _) := Lib.hid (hg3.mono (by first | omega | (simp; done) | (simp; omega)))
    clear hv3 hg3
    unfold dyV
    go_wp2_with fail
    refine bodyPost_ret (v := .tuple #[dyV na (.slice A3 k3 c3) (e + n), .int .i64 0]) (by simp [results, Tryd.results28, go_sem, intV, dyV, hc1_0, hf1_0, hc1_1, hf1_1, hc2_0, hf2_0, hc2_1, hf2_1, hc3_0, hf3_0, hc3_1, hf3_1]) rfl ?_
    exact ⟨na, _, rfl, ⟨⟨(HV3.out.nsame_ge (N := w.heap.size) (n := 2) HG3.out (by omega) (by (repeat (first | with_reducible exact SameB.refl _ _ _ | refine SameB.setCell (p := ⟨_, _, _⟩) ?_ (by first | omega | (simp; done) | (simp; omega)) (by first | omega | (simp; done) | (simp; omega)) _ | refine SameB.setNew (p := ⟨_, _, _⟩) ?_ (by first | omega | (simp; done) | (simp; omega)) _ | refine SameB.alloc ?_ _ | refine SameB.drew ?_ | refine SameB.drewN ?_ _)))), H.out.1.2.1, HG3.out.spot⟩, HF.out⟩, HG3.out.mono (by omega), by (repeat (first | with_reducible exact HW3.out | refine Below.setCell (p := ⟨_, _, _⟩) ?_ (by first | omega | (simp; done) | (simp; omega)) _ | refine Below.alloc ?_ (by first | omega | (simp; done) | (simp; omega)) _ | refine Below.drew ?_ | refine below_dn ?_ _))⟩

/-- how the sizes of two that are not nought compare -/
def dySize (ma ea mb eb : Int) : Int := if dyTop ea ma < dyTop eb mb then -1 else if dyTop ea ma > dyTop eb mb then 1 else cmpN (ma.natAbs * 2 ^ (ea - min ea eb).toNat) (mb.natAbs * 2 ^ (eb - min ea eb).toNat)

set_option maxRecDepth 100000 in
set_option maxHeartbeats 6400000 in
theorem dySize_calls {w : World} {na nb : Bool} {a b : Value} {ma ea mb eb : Int} (ha : IsDy w na a ea ma) (hb : IsDy w nb b eb mb) (o1 : ma.natAbs * 2 ^ (ea - min ea eb).toNat < LIM) (o2 : mb.natAbs * 2 ^ (eb - min ea eb).toNat < LIM) :
    Calls Tryd.prog 54 #[dyV na a ea, dyV nb b eb] w fun E w' => E = .returned (.int .i64 (dySize ma ea mb eb)) ∧ Below w.heap.size w w' := by
  obtain ⟨Aa, ka, ca, rfl, x, y, z⟩ := ha.nat.form
  clear x y z
  obtain ⟨Ab, kb, cb, rfl, x, y, z⟩ := hb.nat.form
  clear x y z
  have HA := Lib.hid ha
  have HB := Lib.hid hb
  obtain ⟨x1, x2, _⟩ := ha.2
  obtain ⟨x3, x4, _⟩ := hb.2
  have HTa : Hid (∀ w0, IsDy w0 na (.slice Aa ka ca) ea ma → Calls Tryd.prog 73 #[dyV na (.slice Aa ka ca) ea] w0 fun E w' => E = .returned (.int .i64 (dyTop ea ma)) ∧ Below w0.heap.size w0 w') := Lib.hid fun w0 h => dyTop_calls h
  have HTb : Hid (∀ w0, IsDy w0 nb (.slice Ab kb cb) eb mb → Calls Tryd.prog 73 #[dyV nb (.slice Ab kb cb) eb] w0 fun E w' => E = .returned (.int .i64 (dyTop eb mb)) ∧ Below w0.heap.size w0 w') := Lib.hid fun w0 h => dyTop_calls h
  rcases Int.lt_trichotomy (dyTop ea ma) (dyTop eb mb) with hlt | heq | hgt
  · have e0 : dySize ma ea mb eb = -1 := by unfold dySize; rw [if_pos hlt]
    rw [e0]
    generalize dyTop ea ma = ta at *
    generalize dyTop eb mb = tb at *
    clear ha hb o1 o2 x1 x2 x3 x4 e0
    unfold dyV at *
    have HW0 : Hid (Below w.heap.size w w) := Lib.hid (Below.refl _ _)
    go_enter Tryd.func54, Tryd.ntmps54
    go_wp2_with fail
    go_region_with (first
        | ((have hguard := HW1; clear hguard)
           go_at_call 73
           refine Calls.mono (HTb.out _ (HB.out.below (by (repeat (first | with_reducible exact HW1.out | refine Below.setCell (p := ⟨_, _, _⟩) ?_ (by first | omega | (simp; done) | (simp; omega)) _ | refine Below.alloc ?_ (by first | omega | (simp; done) | (simp; omega)) _ | refine Below.drew ?_ | refine below_dn ?_ _))))) ?_
           rintro E w2 ⟨rfl, hb2⟩
           obtain ⟨hc2, hf2⟩ := bcell hb2
           have HW2 : Hid (Below w.heap.size w w2) := Lib.hid (by
             refine Below.trans ?_ (hb2.mono ?_)
             · (repeat (first | with_reducible exact HW1.out | refine Below.setCell (p := ⟨_, _, _⟩) ?_ (by first | omega | (simp; done) | (simp; omega)) _ | refine Below.alloc ?_ (by first | omega | (simp; done) | (simp; omega)) _ | refine Below.drew ?_ | refine below_dn ?_ _))
             · first | omega | (simp; done) | (simp; omega))
           have hS1_2 : Hid (SameB w.heap.size 2 w1 w2) := Lib.hid (by
             refine SameB.below ?_ hb2
             (repeat (first | with_reducible exact SameB.refl _ _ _ | refine SameB.setCell (p := ⟨_, _, _⟩) ?_ (by first | omega | (simp; done) | (simp; omega)) (by first | omega | (simp; done) | (simp; omega)) _ | refine SameB.setNew (p := ⟨_, _, _⟩) ?_ (by first | omega | (simp; done) | (simp; omega)) _ | refine SameB.alloc ?_ _ | refine SameB.drew ?_ | refine SameB.drewN ?_ _)))
           have hS0_2 := Lib.hid (hS0_1.out.trans hS1_2.out)
           have hs2 : w.heap.size + 1 + 1 ≤ w2.heap.size := by have := hb2.size; (try simp at this); omega
           have hc2_0 := fun o : Nat => hc2 (w.heap.size) o (by first | omega | (simp; done) | (simp; omega))
           have hf2_0 := fun o : Nat => hf2 (w.heap.size) o (by first | omega | (simp; done) | (simp; omega))
           have hc2_1 := fun o : Nat => hc2 (w.heap.size + 1) o (by first | omega | (simp; done) | (simp; omega))
           have hf2_1 := fun o : Nat => hf2 (w.heap.size + 1) o (by first | omega | (simp; done) | (simp; omega))
           clear hc2 hf2
           clear hb2)
        | ((have hguard := HW0; clear hguard)
           go_at_call 73
           refine Calls.mono (HTa.out _ (HA.out.below (by (repeat (first | with_reducible exact HW0.out | refine Below.setCell (p := ⟨_, _, _⟩) ?_ (by first | omega | (simp; done) | (simp; omega)) _ | refine Below.alloc ?_ (by first | omega | (simp; done) | (simp; omega)) _ | refine Below.drew ?_ | refine below_dn ?_ _))))) ?_
           rintro E w1 ⟨rfl, hb1⟩
           obtain ⟨hc1, hf1⟩ := bcell hb1
           have HW1 : Hid (Below w.heap.size w w1) := Lib.hid (by
             refine Below.trans ?_ (hb1.mono ?_)
             · (repeat (first | with_reducible exact HW0.out | refine Below.setCell (p := ⟨_, _, _⟩) ?_ (by first | omega | (simp; done) | (simp; omega)) _ | refine Below.alloc ?_ (by first | omega | (simp; done) | (simp; omega)) _ | refine Below.drew ?_ | refine below_dn ?_ _))
             · first | omega | (simp; done) | (simp; omega))
           have hS0_1 : Hid (SameB w.heap.size 2 w w1) := Lib.hid (by
             refine SameB.below ?_ hb1
             (repeat (first | with_reducible exact SameB.refl _ _ _ | refine SameB.setCell (p := ⟨_, _, _⟩) ?_ (by first | omega | (simp; done) | (simp; omega)) (by first | omega | (simp; done) | (simp; omega)) _ | refine SameB.setNew (p := ⟨_, _, _⟩) ?_ (by first | omega | (simp; done) | (simp; omega)) _ | refine SameB.alloc ?_ _ | refine SameB.drew ?_ | refine SameB.drewN ?_ _)))
           have hs1 : w.heap.size + 1 + 1 ≤ w1.heap.size := by have := hb1.size; (try simp at this); omega
           have hc1_0 := fun o : Nat => hc1 (w.heap.size) o (by first | omega | (simp; done) | (simp; omega))
           have hf1_0 := fun o : Nat => hf1 (w.heap.size) o (by first | omega | (simp; done) | (simp; omega))
           have hc1_1 := fun o : Nat => hc1 (w.heap.size + 1) o (by first | omega | (simp; done) | (simp; omega))
           have hf1_1 := fun o : Nat => hf1 (w.heap.size + 1) o (by first | omega | (simp; done) | (simp; omega))
           clear hc1 hf1
           clear hb1))
    all_goals
      go_wp2_with fail
      go_ret
      exact ⟨rfl, by (repeat (first | with_reducible exact HW2.out | refine Below.setCell (p := ⟨_, _, _⟩) ?_ (by first | omega | (simp; done) | (simp; omega)) _ | refine Below.alloc ?_ (by first | omega | (simp; done) | (simp; omega)) _ | refine Below.drew ?_ | refine below_dn ?_ _))⟩
  · have e0 : dySize ma ea mb eb = cmpN (ma.natAbs * 2 ^ (ea - min ea eb).toNat) (mb.natAbs * 2 ^ (eb - min ea eb).toNat) := by unfold dySize; rw [if_neg (by omega), if_neg (by omega)]
    rw [e0]
    have hka : ea - min ea eb = (((ea - min ea eb).toNat : Nat) : Int) := by omega
    have hkb : eb - min ea eb = (((eb - min ea eb).toNat : Nat) : Int) := by omega
    have hm1 : -1048576 ≤ min ea eb := by omega
    have hm2 : min ea eb ≤ 1048576 := by omega
    have l1 : (ea - min ea eb).toNat ≤ 9223372036854775807 := by omega
    have l2 : (eb - min ea eb).toNat ≤ 9223372036854775807 := by omega
    have L1 := Lib.hid l1
    have L2 := Lib.hid l2
    have O1 := Lib.hid o1
    have O2 := Lib.hid o2
    have u1 : ¬ (dyTop ea ma < dyTop eb mb) := by omega
    have u2 : ¬ (dyTop ea ma > dyTop eb mb) := by omega
    generalize dyTop ea ma = ta at *
    generalize dyTop eb mb = tb at *
    generalize (ea - min ea eb).toNat = sa at *
    generalize (eb - min ea eb).toNat = sb at *
    generalize hmn : min ea eb = mn at *
    clear ha hb o1 o2 e0 l1 l2 heq
    unfold dyV at *
    have HW0 : Hid (Below w.heap.size w w) := Lib.hid (Below.refl _ _)
    go_enter Tryd.func54, Tryd.ntmps54
    go_wp2_with fail
    go_region_with (first
        | ((have hguard := HW1; clear hguard)
           go_at_call 73
           refine Calls.mono (HTb.out _ (HB.out.below (by (repeat (first | with_reducible exact HW1.out | refine Below.setCell (p := ⟨_, _, _⟩) ?_ (by first | omega | (simp; done) | (simp; omega)) _ | refine Below.alloc ?_ (by first | omega | (simp; done) | (simp; omega)) _ | refine Below.drew ?_ | refine below_dn ?_ _))))) ?_
           rintro E w2 ⟨rfl, hb2⟩
           obtain ⟨hc2, hf2⟩ := bcell hb2
           have HW2 : Hid (Below w.heap.size w w2) := Lib.hid (by
             refine Below.trans ?_ (hb2.mono ?_)
             · (repeat (first | with_reducible exact HW1.out | refine Below.setCell (p := ⟨_, _, _⟩) ?_ (by first | omega | (simp; done) | (simp; omega)) _ | refine Below.alloc ?_ (by first | omega | (simp; done) | (simp; omega)) _ | refine Below.drew ?_ | refine below_dn ?_ _))
             · first | omega | (simp; done) | (simp; omega))
           have hS1_2 : Hid (SameB w.heap.size 2 w1 w2) := Lib.hid (by
             refine SameB.below ?_ hb2
             (repeat (first | with_reducible exact SameB.refl _ _ _ | refine SameB.setCell (p := ⟨_, _, _⟩) ?_ (by first | omega | (simp; done) | (simp; omega)) (by first | omega | (simp; done) | (simp; omega)) _ | refine SameB.setNew (p := ⟨_, _, _⟩) ?_ (by first | omega | (simp; done) | (simp; omega)) _ | refine SameB.alloc ?_ _ | refine SameB.drew ?_ | refine SameB.drewN ?_ _)))
           have hS0_2 := Lib.hid (hS0_1.out.trans hS1_2.out)
           have hs2 : w.heap.size + 1 + 1 ≤ w2.heap.size := by have := hb2.size; (try simp at this); omega
           have hc2_0 := fun o : Nat => hc2 (w.heap.size) o (by first | omega | (simp; done) | (simp; omega))
           have hf2_0 := fun o : Nat => hf2 (w.heap.size) o (by first | omega | (simp; done) | (simp; omega))
           have hc2_1 := fun o : Nat => hc2 (w.heap.size + 1) o (by first | omega | (simp; done) | (simp; omega))
           have hf2_1 := fun o : Nat => hf2 (w.heap.size + 1) o (by first | omega | (simp; done) | (simp; omega))
           clear hc2 hf2
           clear hb2)
        | ((have hguard := HW0; clear hguard)
           go_at_call 73
           refine Calls.mono (HTa.out _ (HA.out.below (by (repeat (first | with_reducible exact HW0.out | refine Below.setCell (p := ⟨_, _, _⟩) ?_ (by first | omega | (simp; done) | (simp; omega)) _ | refine Below.alloc ?_ (by first | omega | (simp; done) | (simp; omega)) _ | refine Below.drew ?_ | refine below_dn ?_ _))))) ?_
           rintro E w1 ⟨rfl, hb1⟩
           obtain ⟨hc1, hf1⟩ := bcell hb1
           have HW1 : Hid (Below w.heap.size w w1) := Lib.hid (by
             refine Below.trans ?_ (hb1.mono ?_)
             · (repeat (first | with_reducible exact HW0.out | refine Below.setCell (p := ⟨_, _, _⟩) ?_ (by first | omega | (simp; done) | (simp; omega)) _ | refine Below.alloc ?_ (by first | omega | (simp; done) | (simp; omega)) _ | refine Below.drew ?_ | refine below_dn ?_ _))
             · first | omega | (simp; done) | (simp; omega))
           have hS0_1 : Hid (SameB w.heap.size 2 w w1) := Lib.hid (by
             refine SameB.below ?_ hb1
             (repeat (first | with_reducible exact SameB.refl _ _ _ | refine SameB.setCell (p := ⟨_, _, _⟩) ?_ (by first | omega | (simp; done) | (simp; omega)) (by first | omega | (simp; done) | (simp; omega)) _ | refine SameB.setNew (p := ⟨_, _, _⟩) ?_ (by first | omega | (simp; done) | (simp; omega)) _ | refine SameB.alloc ?_ _ | refine SameB.drew ?_ | refine SameB.drewN ?_ _)))
           have hs1 : w.heap.size + 1 + 1 ≤ w1.heap.size := by have := hb1.size; (try simp at this); omega
           have hc1_0 := fun o : Nat => hc1 (w.heap.size) o (by first | omega | (simp; done) | (simp; omega))
           have hf1_0 := fun o : Nat => hf1 (w.heap.size) o (by first | omega | (simp; done) | (simp; omega))
           have hc1_1 := fun o : Nat => hc1 (w.heap.size + 1) o (by first | omega | (simp; done) | (simp; omega))
           have hf1_1 := fun o : Nat => hf1 (w.heap.size + 1) o (by first | omega | (simp; done) | (simp; omega))
           clear hc1 hf1
           clear hb1))
    all_goals
      go_wp2_with fail
      refine Calls.mono (natShl_calls (HA.out.nbelow HW2.out) sa L1.out O1.out) ?_
      rintro E w3 ⟨v3, rfl, hv3, hg3, hb3⟩
      obtain ⟨hc3, hf3⟩ := bcell hb3
      have HW3 : Hid (Below w.heap.size w w3) := Lib.hid (by
        refine Below.trans ?_ (hb3.mono ?_)
        · (repeat (first | with_reducible exact HW2.out | refine Below.setCell (p := ⟨_, _, _⟩) ?_ (by first | omega | (simp; done) | (simp; omega)) _ | refine Below.alloc ?_ (by first | omega | (simp; done) | (simp; omega)) _ | refine Below.drew ?_ | refine below_dn ?_ _))
        · first | omega | (simp; done) | (simp; omega))
      have hS2_3 : Hid (SameB w.heap.size 2 w2 w3) := Lib.hid (by
        refine SameB.below ?_ hb3
        (repeat (first | with_reducible exact SameB.refl _ _ _ | refine SameB.setCell (p := ⟨_, _, _⟩) ?_ (by first | omega | (simp; done) | (simp; omega)) (by first | omega | (simp; done) | (simp; omega)) _ | refine SameB.setNew (p := ⟨_, _, _⟩) ?_ (by first | omega | (simp; done) | (simp; omega)) _ | refine SameB.alloc ?_ _ | refine SameB.drew ?_ | refine SameB.drewN ?_ _)))
      have hS0_3 := Lib.hid (hS0_2.out.trans hS2_3.out)
      have hS1_3 := Lib.hid (hS1_2.out.trans hS2_3.out)
      have hs3 : w.heap.size + 1 + 1 ≤ w3.heap.size := by have := hb3.size; (try simp at this); omega
      have hc3_0 := fun o : Nat => hc3 (w.heap.size) o (by first | omega | (simp; done) | (simp; omega))
      have hf3_0 := fun o : Nat => hf3 (w.heap.size) o (by first | omega | (simp; done) | (simp; omega))
      have hc3_1 := fun o : Nat => hc3 (w.heap.size + 1) o (by first | omega | (simp; done) | (simp; omega))
      have hf3_1 := fun o : Nat => hf3 (w.heap.size + 1) o (by first | omega | (simp; done) | (simp; omega))
      clear hc3 hf3
      clear hb3
      obtain ⟨A3, k3, c3, rfl, _, _, _⟩ := hv3.form
      have HV3 := Lib.hid hv3
      have HG3 : Hid (Ge (w.heap.size + 1 + 1) _) := Lib.hid (hg3.mono (by first | omega | (simp; done) | (simp; omega)))
      clear hv3 hg3
      go_wp2_with fail
      refine Calls.mono (natShl_calls (HB.out.nbelow HW3.out) sb L2.out O2.out) ?_
      rintro E w4 ⟨v4, rfl, hv4, hg4, hb4⟩
      obtain ⟨hc4, hf4⟩ := bcell hb4
      have HW4 : Hid (Below w.heap.size w w4) := Lib.hid (by
        refine Below.trans ?_ (hb4.mono ?_)
        · (repeat (first | with_reducible exact HW3.out | refine Below.setCell (p := ⟨_, _, _⟩) ?_ (by first | omega | (simp; done) | (simp; omega)) _ | refine Below.alloc ?_ (by first | omega | (simp; done) | (simp; omega)) _ | refine Below.drew ?_ | refine below_dn ?_ _))
        · first | omega | (simp; done) | (simp; omega))
      have hS3_4 : Hid (SameB w.heap.size 2 w3 w4) := Lib.hid (by
        refine SameB.below ?_ hb4
        (repeat (first | with_reducible exact SameB.refl _ _ _ | refine SameB.setCell (p := ⟨_, _, _⟩) ?_ (by first | omega | (simp; done) | (simp; omega)) (by first | omega | (simp; done) | (simp; omega)) _ | refine SameB.setNew (p := ⟨_, _, _⟩) ?_ (by first | omega | (simp; done) | (simp; omega)) _ | refine SameB.alloc ?_ _ | refine SameB.drew ?_ | refine SameB.drewN ?_ _)))
      have hS0_4 := Lib.hid (hS0_3.out.trans hS3_4.out)
      have hS1_4 := Lib.hid (hS1_3.out.trans hS3_4.out)
      have hS2_4 := Lib.hid (hS2_3.out.trans hS3_4.out)
      have hs4 : w.heap.size + 1 + 1 ≤ w4.heap.size := by have := hb4.size; (try simp at this); omega
      have hc4_0 := fun o : Nat => hc4 (w.heap.size) o (by first | omega | (simp; done) | (simp; omega))
      have hf4_0 := fun o : Nat => hf4 (w.heap.size) o (by first | omega | (simp; done) | (simp; omega))
      have hc4_1 := fun o : Nat => hc4 (w.heap.size + 1) o (by first | omega | (simp; done) | (simp; omega))
      have hf4_1 := fun o : Nat => hf4 (w.heap.size + 1) o (by first | omega | (simp; done) | (simp; omega))
      clear hc4 hf4
      clear hb4
      obtain ⟨A4, k4, c4, rfl, _, _, _⟩ := hv4.form
      have HV4 := Lib.hid hv4
      have HG4 : Hid (Ge (w.heap.size + 1 + 1) _) := Lib.hid (hg4.mono (by first | omega | (simp; done) | (simp; omega)))
      clear hv4 hg4
      go_wp2_with fail
      refine Calls.mono (natCmp_calls (HV3.out.same_ge (N := w.heap.size) (n := 2) HG3.out (by omega) (by (refine SameB.trans hS3_4.out ?_; (repeat (first | with_reducible exact SameB.refl _ _ _ | refine SameB.setCell (p := ⟨_, _, _⟩) ?_ (by first | omega | (simp; done) | (simp; omega)) (by first | omega | (simp; done) | (simp; omega)) _ | refine SameB.setNew (p := ⟨_, _, _⟩) ?_ (by first | omega | (simp; done) | (simp; omega)) _ | refine SameB.alloc ?_ _ | refine SameB.drew ?_ | refine SameB.drewN ?_ _))))) HV4.out) ?_
      rintro E w5 ⟨rfl, hb5⟩
      obtain ⟨hc5, hf5⟩ := bcell hb5
      have HW5 : Hid (Below w.heap.size w w5) := Lib.hid (by
        refine Below.trans ?_ (hb5.mono ?_)
        · (repeat (first | with_reducible exact HW4.out | refine Below.setCell (p := ⟨_, _, _⟩) ?_ (by first | omega | (simp; done) | (simp; omega)) _ | refine Below.alloc ?_ (by first | omega | (simp; done) | (simp; omega)) _ | refine Below.drew ?_ | refine below_dn ?_ _))
        · first | omega | (simp; done) | (simp; omega))
      have hS4_5 : Hid (SameB w.heap.size 2 w4 w5) := Lib.hid (by
        refine SameB.below ?_ hb5
        (repeat (first | with_reducible exact SameB.refl _ _ _ | refine SameB.setCell (p := ⟨_, _, _⟩) ?_ (by first | omega | (simp; done) | (simp; omega)) (by first | omega | (simp; done) | (simp; omega)) _ | refine SameB.setNew (p := ⟨_, _, _⟩) ?_ (by first | omega | (simp; done) | (simp; omega)) _ | refine SameB.alloc ?_ _ | refine SameB.drew ?_ | refine SameB.drewN ?_ _)))
      have hS0_5 := Lib.hid (hS0_4.out.trans hS4_5.out)
      have hS1_5 := Lib.hid (hS1_4.out.trans hS4_5.out)
      have hS2_5 := Lib.hid (hS2_4.out.trans hS4_5.out)
      have hS3_5 := Lib.hid (hS3_4.out.trans hS4_5.out)
      have hs5 : w.heap.size + 1 + 1 ≤ w5.heap.size := by have := hb5.size; (try simp at this); omega
      have hc5_0 := fun o : Nat => hc5 (w.heap.size) o (by first | omega | (simp; done) | (simp; omega))
      have hf5_0 := fun o : Nat => hf5 (w.heap.size) o (by first | omega | (simp; done) | (simp; omega))
      have hc5_1 := fun o : Nat => hc5 (w.heap.size + 1) o (by first | omega | (simp; done) | (simp; omega))
      have hf5_1 := fun o : Nat => hf5 (w.heap.size + 1) o (by first | omega | (simp; done) | (simp; omega))
      clear hc5 hf5
      clear hb5
      go_wp2_with fail
      go_ret
      exact ⟨rfl, by (repeat (first | with_reducible exact HW5.out | refine Below.setCell (p := ⟨_, _, _⟩) ?_ (by first | omega | (simp; done) | (simp; omega)) _ | refine Below.alloc ?_ (by first | omega | (simp; done) | (simp; omega)) _ | refine Below.drew ?_ | refine below_dn ?_ _))⟩
  · have e0 : dySize ma ea mb eb = 1 := by unfold dySize; rw [if_neg (by omega), if_pos hgt]
    rw [e0]
    have hnl : ¬ (dyTop ea ma < dyTop eb mb) := by omega
    generalize dyTop ea ma = ta at *
    generalize dyTop eb mb = tb at *
    clear ha hb o1 o2 x1 x2 x3 x4 e0
    unfold dyV at *
    have HW0 : Hid (Below w.heap.size w w) := Lib.hid (Below.refl _ _)
    go_enter Tryd.func54, Tryd.ntmps54
    go_wp2_with fail
    go_region_with (first
        | ((have hguard := HW1; clear hguard)
           go_at_call 73
           refine Calls.mono (HTb.out _ (HB.out.below (by (repeat (first | with_reducible exact HW1.out | refine Below.setCell (p := ⟨_, _, _⟩) ?_ (by first | omega | (simp; done) | (simp; omega)) _ | refine Below.alloc ?_ (by first | omega | (simp; done) | (simp; omega)) _ | refine Below.drew ?_ | refine below_dn ?_ _))))) ?_
           rintro E w2 ⟨rfl, hb2⟩
           obtain ⟨hc2, hf2⟩ := bcell hb2
           have HW2 : Hid (Below w.heap.size w w2) := Lib.hid (by
             refine Below.trans ?_ (hb2.mono ?_)
             · (repeat (first | with_reducible exact HW1.out | refine Below.setCell (p := ⟨_, _, _⟩) ?_ (by first | omega | (simp; done) | (simp; omega)) _ | refine Below.alloc ?_ (by first | omega | (simp; done) | (simp; omega)) _ | refine Below.drew ?_ | refine below_dn ?_ _))
             · first | omega | (simp; done) | (simp; omega))
           have hS1_2 : Hid (SameB w.heap.size 2 w1 w2) := Lib.hid (by
             refine SameB.below ?_ hb2
             (repeat (first | with_reducible exact SameB.refl _ _ _ | refine SameB.setCell (p := ⟨_, _, _⟩) ?_ (by first | omega | (simp; done) | (simp; omega)) (by first | omega | (simp; done) | (simp; omega)) _ | refine SameB.setNew (p := ⟨_, _, _⟩) ?_ (by first | omega | (simp; done) | (simp; omega)) _ | refine SameB.alloc ?_ _ | refine SameB.drew ?_ | refine SameB.drewN ?_ _)))
           have hS0_2 := Lib.hid (hS0_1.out.trans hS1_2.out)
           have hs2 : w.heap.size + 1 + 1 ≤ w2.heap.size := by have := hb2.size; (try simp at this); omega
           have hc2_0 := fun o : Nat => hc2 (w.heap.size) o (by first | omega | (simp; done) | (simp; omega))
           have hf2_0 := fun o : Nat => hf2 (w.heap.size) o (by first | omega | (simp; done) | (simp; omega))
           have hc2_1 := fun o : Nat => hc2 (w.heap.size + 1) o (by first | omega | (simp; done) | (simp; omega))
           have hf2_1 := fun o : Nat => hf2 (w.heap.size + 1) o (by first | omega | (simp; done) | (simp; omega))
           clear hc2 hf2
           clear hb2)
        | ((have hguard := HW0; clear hguard)
           go_at_call 73
           refine Calls.mono (HTa.out _ (HA.out.below (by (repeat (first | with_reducible exact HW0.out | refine Below.setCell (p := ⟨_, _, _⟩) ?_ (by first | omega | (simp; done) | (simp; omega)) _ | refine Below.alloc ?_ (by first | omega | (simp; done) | (simp; omega)) _ | refine Below.drew ?_ | refine below_dn ?_ _))))) ?_
           rintro E w1 ⟨rfl, hb1⟩
           obtain ⟨hc1, hf1⟩ := bcell hb1
           have HW1 : Hid (Below w.heap.size w w1) := Lib.hid (by
             refine Below.trans ?_ (hb1.mono ?_)
             · (repeat (first | with_reducible exact HW0.out | refine Below.setCell (p := ⟨_, _, _⟩) ?_ (by first | omega | (simp; done) | (simp; omega)) _ | refine Below.alloc ?_ (by first | omega | (simp; done) | (simp; omega)) _ | refine Below.drew ?_ | refine below_dn ?_ _))
             · first | omega | (simp; done) | (simp; omega))
           have hS0_1 : Hid (SameB w.heap.size 2 w w1) := Lib.hid (by
             refine SameB.below ?_ hb1
             (repeat (first | with_reducible exact SameB.refl _ _ _ | refine SameB.setCell (p := ⟨_, _, _⟩) ?_ (by first | omega | (simp; done) | (simp; omega)) (by first | omega | (simp; done) | (simp; omega)) _ | refine SameB.setNew (p := ⟨_, _, _⟩) ?_ (by first | omega | (simp; done) | (simp; omega)) _ | refine SameB.alloc ?_ _ | refine SameB.drew ?_ | refine SameB.drewN ?_ _)))
           have hs1 : w.heap.size + 1 + 1 ≤ w1.heap.size := by have := hb1.size; (try simp at this); omega
           have hc1_0 := fun o : Nat => hc1 (w.heap.size) o (by first | omega | (simp; done) | (simp; omega))
           have hf1_0 := fun o : Nat => hf1 (w.heap.size) o (by first | omega | (simp; done) | (simp; omega))
           have hc1_1 := fun o : Nat => hc1 (w.heap.size + 1) o (by first | omega | (simp; done) | (simp; omega))
           have hf1_1 := fun o : Nat => hf1 (w.heap.size + 1) o (by first | omega | (simp; done) | (simp; omega))
           clear hc1 hf1
           clear hb1))
    all_goals
      go_wp2_with fail
      go_ret
      exact ⟨rfl, by (repeat (first | with_reducible exact HW2.out | refine Below.setCell (p := ⟨_, _, _⟩) ?_ (by first | omega | (simp; done) | (simp; omega)) _ | refine Below.alloc ?_ (by first | omega | (simp; done) | (simp; omega)) _ | refine Below.drew ?_ | refine below_dn ?_ _))⟩

end Go.Proofs.YtgihapdlliidgaaDoor
