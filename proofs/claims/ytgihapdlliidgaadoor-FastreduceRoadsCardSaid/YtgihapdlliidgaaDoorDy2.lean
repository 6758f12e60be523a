/- The walks of package dyadic, on. -/
import Derived.Test.YtgihapdlliidgaaDoorDy
namespace Go.Proofs.YtgihapdlliidgaaDoor
open Go Go.RowKit
set_option linter.unusedVariables false
set_option linter.unusedSimpArgs false

theorem notF (b : Bool) : (b == false) = !b := by cases b <;> rfl

set_option maxRecDepth 100000 in
set_option maxHeartbeats 1600000 in
theorem dyNeg_calls {w : World} {neg : Bool} {v : Value} {e m : Int} (h : IsDy w neg v e m) :
    Calls Tryd.prog 49 #[dyV neg v e] w (DRes w (-m) e) := by
  obtain ⟨A, n, c, rfl, h8, hz1, hz2⟩ := h.nat.form
  have H := Lib.hid h
  have HBd := Lib.hid h.bd
  have hres : (!neg && !decide (m.natAbs = 0)) = decide (-m < 0) := by
    rw [h.1.2.1, Bool.eq_iff_iff]; simp; omega
  have HR := Lib.hid hres
  have HF : Hid (DyF (-m) e) := Lib.hid (by obtain ⟨a, b, c⟩ := h.2; exact ⟨a, b, by omega⟩)
  have HA : Hid ((-m).natAbs = m.natAbs) := Lib.hid (by omega)
  clear h hz1 hz2 hres
  generalize hD : decide (m.natAbs = 0) = D at *
  have HD := Lib.hid hD
  clear hD
  unfold dyV
  cases neg
  · cases D
    · have HW0 : Hid (Below w.heap.size w w) := Lib.hid (Below.refl _ _)
      go_enter Tryd.func49, Tryd.ntmps49
      go_wp2_with fail
      refine Calls.mono (dyForm_calls (H.out.below (by (repeat (first | with_reducible exact HW0.out | refine Below.setCell (p := ⟨_, _, _⟩) ?_ (by first | omega | (simp; done) | (simp; omega)) _ | refine Below.alloc ?_ (by first | omega | (simp; done) | (simp; omega)) _ | refine Below.drew ?_ | refine below_dn ?_ _))))) ?_
      rintro E w1 ⟨rfl, hb1⟩
      obtain ⟨hc1, hf1⟩ := bcell hb1
      have HW1 : Hid (Below w.heap.size w w1) := Lib.hid (by
        refine Below.trans ?_ (hb1.mono ?_)
        · (repeat (first | with_reducible exact HW0.out | refine Below.setCell (p := ⟨_, _, _⟩) ?_ (by first | omega | (simp; done) | (simp; omega)) _ | refine Below.alloc ?_ (by first | omega | (simp; done) | (simp; omega)) _ | refine Below.drew ?_ | refine below_dn ?_ _))
        · first | omega | (simp; done) | (simp; omega))
      have hS0_1 : Hid (SameB w.heap.size 2 w w1) := Lib.hid (by
        refine SameB.below ?_ hb1
        (repeat (first | with_reducible exact SameB.refl _ _ _ | refine SameB.setCell (p := ⟨_, _, _⟩) ?_ (by first | omega | (simp; done) | (simp; omega)) (by first | omega | (simp; done) | (simp; omega)) _ | refine SameB.setNew (p := ⟨_, _, _⟩) ?_ (by first | omega | (simp; done) | (simp; omega)) _ | refine SameB.alloc ?_ _ | refine SameB.drew ?_ | refine SameB.drewN ?_ _)))
      have hs1 : w.heap.size + 1 + 1 ≤ w1.heap.size := by have := hb1.size; (try simp at this); omega
      have hc1_0 := fun o : Nat => hc1 (w.heap.size) o (by first | omega | (simp; done) | (simp; omega))
      have hf1_0 := fun o : Nat => hf1 (w.heap.size) o (by first | omega | (simp; done) | (simp; omega))
      have hc1_1 := fun o : Nat => hc1 (w.heap.size + 1) o (by first | omega | (simp; done) | (simp; omega))
      have hf1_1 := fun o : Nat => hf1 (w.heap.size + 1) o (by first | omega | (simp; done) | (simp; omega))
      clear hc1 hf1
      clear hb1
      go_wp2_with fail
      refine Calls.mono (dyTwin_calls (H.out.below HW1.out)) ?_
      rintro E w2 ⟨v2, rfl, hv2, hg2, hb2⟩
      obtain ⟨hc2, hf2⟩ := bcell hb2
      have HW2 : Hid (Below w.heap.size w w2) := Lib.hid (by
        refine Below.trans ?_ (hb2.mono ?_)
        · (repeat (first | with_reducible exact HW1.out | refine Below.setCell (p := ⟨_, _, _⟩) ?_ (by first | omega | (simp; done) | (simp; omega)) _ | refine Below.alloc ?_ (by first | omega | (simp; done) | (simp; omega)) _ | refine Below.drew ?_ | refine below_dn ?_ _))
        · first | omega | (simp; done) | (simp; omega))
      have hS1_2 : Hid (SameB w.heap.size 2 w1 w2) := Lib.hid (by
        refine SameB.below ?_ hb2
        (repeat (first | with_reducible exact SameB.refl _ _ _ | refine SameB.setCell (p := ⟨_, _, _⟩) ?_ (by first | omega | (simp; done) | (simp; omega)) (by first | omega | (simp; done) | (simp; omega)) _ | refine SameB.setNew (p := ⟨_, _, _⟩) ?_ (by first | omega | (simp; done) | (simp; omega)) _ | refine SameB.alloc ?_ _ | refine SameB.drew ?_ | refine SameB.drewN ?_ _)))
      have hS0_2 := Lib.hid (hS0_1.out.trans hS1_2.out)
      have hs2 : w.heap.size + 1 + 1 ≤ w2.heap.size := by have := hb2.size; (try simp at this); omega
      have hc2_0 := fun o : Nat => hc2 (w.heap.size) o (by first | omega | (simp; done) | (simp; omega))
      have hf2_0 := fun o : Nat => hf2 (w.heap.size) o (by first | omega | (simp; done) | (simp; omega))
      have hc2_1 := fun o : Nat => hc2 (w.heap.size + 1) o (by first | omega | (simp; done) | (simp; omega))
      have hf2_1 := fun o : Nat => hf2 (w.heap.size + 1) o (by first | omega | (simp; done) | (simp; omega))
      clear hc2 hf2
      clear hb2
      obtain ⟨A2, k2, c2, rfl, _, _, _⟩ := hv2.nat.form
      have HV2 := Lib.hid hv2
      have HG2 : Hid (Ge (w.heap.size + 1 + 1) _) := Lib.hid (hg2.mono (by first | omega | (simp; done) | (simp; omega)))
      clear hv2 hg2
      unfold dyV
      go_wp2_with fail
      refine Calls.mono (dyNought_calls (HV2.out.nsame_ge (N := w.heap.size) (n := 2) HG2.out (by omega) (by (repeat (first | with_reducible exact SameB.refl _ _ _ | refine SameB.setCell (p := ⟨_, _, _⟩) ?_ (by first | omega | (simp; done) | (simp; omega)) (by first | omega | (simp; done) | (simp; omega)) _ | refine SameB.setNew (p := ⟨_, _, _⟩) ?_ (by first | omega | (simp; done) | (simp; omega)) _ | refine SameB.alloc ?_ _ | refine SameB.drew ?_ | refine SameB.drewN ?_ _)))) _ HD.out) ?_
      rintro E w3 ⟨rfl, hb3⟩
      obtain ⟨hc3, hf3⟩ := bcell hb3
      have HW3 : Hid (Below w.heap.size w w3) := Lib.hid (by
        refine Below.trans ?_ (hb3.mono ?_)
        · (repeat (first | with_reducible exact HW2.out | refine Below.setCell (p := ⟨_, _, _⟩) ?_ (by first | omega | (simp; done) | (simp; omega)) _ | refine Below.alloc ?_ (by first | omega | (simp; done) | (simp; omega)) _ | refine Below.drew ?_ | refine below_dn ?_ _))
        · first | omega | (simp; done) | (simp; omega))
      have hS2_3 : Hid (SameB w.heap.size 2 w2 w3) := Lib.hid (by
        refine SameB.below ?_ hb3
        (repeat (first | with_reducible exact SameB.refl _ _ _ | refine SameB.setCell (p := ⟨_, _, _⟩) ?_ (by first | omega | (simp; done) | (simp; omega)) (by first | omega | (simp; done) | (simp; omega)) _ | refine SameB.setNew (p := ⟨_, _, _⟩) ?_ (by first | omega | (simp; done) | (simp; omega)) _ | refine SameB.alloc ?_ _ | refine SameB.drew ?_ | refine SameB.drewN ?_ _)))
      have hS0_3 := Lib.hid (hS0_2.out.trans hS2_3.out)
      have hS1_3 := Lib.hid (hS1_2.out.trans hS2_3.out)
      have hs3 : w.heap.size + 1 + 1 ≤ w3.heap.size := by have := hb3.size; (try simp at this); omega
      have hc3_0 := fun o : Nat => hc3 (w.heap.size) o (by first | omega | (simp; done) | (simp; omega))
      have hf3_0 := fun o : Nat => hf3 (w.heap.size) o (by first | omega | (simp; done) | (simp; omega))
      have hc3_1 := fun o : Nat => hc3 (w.heap.size + 1) o (by first | omega | (simp; done) | (simp; omega))
      have hf3_1 := fun o : Nat => hf3 (w.heap.size + 1) o (by first | omega | (simp; done) | (simp; omega))
      clear hc3 hf3
      clear hb3
      go_wp2_with fail
      refine bodyPost_ret (v := .tuple #[dyV true (.slice A2 k2 c2) e, .int .i64 0]) (by simp [results, Tryd.results49, go_sem, intV, dyV, hc1_0, hf1_0, hc1_1, hf1_1, hc2_0, hf2_0, hc2_1, hf2_1, hc3_0, hf3_0, hc3_1, hf3_1]) rfl ?_
      refine ⟨true, _, rfl, ⟨⟨?_, HR.out, HG2.out.spot⟩, HF.out⟩, HG2.out.mono (by omega), by (repeat (first | with_reducible exact HW3.out | refine Below.setCell (p := ⟨_, _, _⟩) ?_ (by first | omega | (simp; done) | (simp; omega)) _ | refine Below.alloc ?_ (by first | omega | (simp; done) | (simp; omega)) _ | refine Below.drew ?_ | refine below_dn ?_ _))⟩
      rw [HA.out]
      exact (HV2.out.nsame_ge (N := w.heap.size) (n := 2) HG2.out (by omega) (by (refine SameB.trans hS2_3.out ?_; (repeat (first | with_reducible exact SameB.refl _ _ _ | refine SameB.setCell (p := ⟨_, _, _⟩) ?_ (by first | omega | (simp; done) | (simp; omega)) (by first | omega | (simp; done) | (simp; omega)) _ | refine SameB.setNew (p := ⟨_, _, _⟩) ?_ (by first | omega | (simp; done) | (simp; omega)) _ | refine SameB.alloc ?_ _ | refine SameB.drew ?_ | refine SameB.drewN ?_ _)))))
    · have HW0 : Hid (Below w.heap.size w w) := Lib.hid (Below.refl _ _)
      go_enter Tryd.func49, Tryd.ntmps49
      go_wp2_with fail
      refine Calls.mono (dyForm_calls (H.out.below (by (repeat (first | with_reducible exact HW0.out | refine Below.setCell (p := ⟨_, _, _⟩) ?_ (by first | omega | (simp; done) | (simp; omega)) _ | refine Below.alloc ?_ (by first | omega | (simp; done) | (simp; omega)) _ | refine Below.drew ?_ | refine below_dn ?_ _))))) ?_
      rintro E w1 ⟨rfl, hb1⟩
      obtain ⟨hc1, hf1⟩ := bcell hb1
      have HW1 : Hid (Below w.heap.size w w1) := Lib.hid (by
        refine Below.trans ?_ (hb1.mono ?_)
        · (repeat (first | with_reducible exact HW0.out | refine Below.setCell (p := ⟨_, _, _⟩) ?_ (by first | omega | (simp; done) | (simp; omega)) _ | refine Below.alloc ?_ (by first | omega | (simp; done) | (simp; omega)) _ | refine Below.drew ?_ | refine below_dn ?_ _))
        · first | omega | (simp; done) | (simp; omega))
      have hS0_1 : Hid (SameB w.heap.size 2 w w1) := Lib.hid (by
        refine SameB.below ?_ hb1
        (repeat (first | with_reducible exact SameB.refl _ _ _ | refine SameB.setCell (p := ⟨_, _, _⟩) ?_ (by first | omega | (simp; done) | (simp; omega)) (by first | omega | (simp; done) | (simp; omega)) _ | refine SameB.setNew (p := ⟨_, _, _⟩) ?_ (by first | omega | (simp; done) | (simp; omega)) _ | refine SameB.alloc ?_ _ | refine SameB.drew ?_ | refine SameB.drewN ?_ _)))
      have hs1 : w.heap.size + 1 + 1 ≤ w1.heap.size := by have := hb1.size; (try simp at this); omega
      have hc1_0 := fun o : Nat => hc1 (w.heap.size) o (by first | omega | (simp; done) | (simp; omega))
      have hf1_0 := fun o : Nat => hf1 (w.heap.size) o (by first | omega | (simp; done) | (simp; omega))
      have hc1_1 := fun o : Nat => hc1 (w.heap.size + 1) o (by first | omega | (simp; done) | (simp; omega))
      have hf1_1 := fun o : Nat => hf1 (w.heap.size + 1) o (by first | omega | (simp; done) | (simp; omega))
      clear hc1 hf1
      clear hb1
      go_wp2_with fail
      refine Calls.mono (dyTwin_calls (H.out.below HW1.out)) ?_
      rintro E w2 ⟨v2, rfl, hv2, hg2, hb2⟩
      obtain ⟨hc2, hf2⟩ := bcell hb2
      have HW2 : Hid (Below w.heap.size w w2) := Lib.hid (by
        refine Below.trans ?_ (hb2.mono ?_)
        · (repeat (first | with_reducible exact HW1.out | refine Below.setCell (p := ⟨_, _, _⟩) ?_ (by first | omega | (simp; done) | (simp; omega)) _ | refine Below.alloc ?_ (by first | omega | (simp; done) | (simp; omega)) _ | refine Below.drew ?_ | refine below_dn ?_ _))
        · first | omega | (simp; done) | (simp; omega))
      have hS1_2 : Hid (SameB w.heap.size 2 w1 w2) := Lib.hid (by
        refine SameB.below ?_ hb2
        (repeat (first | with_reducible exact SameB.refl _ _ _ | refine SameB.setCell (p := ⟨_, _, _⟩) ?_ (by first | omega | (simp; done) | (simp; omega)) (by first | omega | (simp; done) | (simp; omega)) _ | refine SameB.setNew (p := ⟨_, _, _⟩) ?_ (by first | omega | (simp; done) | (simp; omega)) _ | refine SameB.alloc ?_ _ | refine SameB.drew ?_ | refine SameB.drewN ?_ _)))
      have hS0_2 := Lib.hid (hS0_1.out.trans hS1_2.out)
      have hs2 : w.heap.size + 1 + 1 ≤ w2.heap.size := by have := hb2.size; (try simp at this); omega
      have hc2_0 := fun o : Nat => hc2 (w.heap.size) o (by first | omega | (simp; done) | (simp; omega))
      have hf2_0 := fun o : Nat => hf2 (w.heap.size) o (by first | omega | (simp; done) | (simp; omega))
      have hc2_1 := fun o : Nat => hc2 (w.heap.size + 1) o (by first | omega | (simp; done) | (simp; omega))
      have hf2_1 := fun o : Nat => hf2 (w.heap.size + 1) o (by first | omega | (simp; done) | (simp; omega))
      clear hc2 hf2
      clear hb2
      obtain ⟨A2, k2, c2, rfl, _, _, _⟩ := hv2.nat.form
      have HV2 := Lib.hid hv2
      have HG2 : Hid (Ge (w.heap.size + 1 + 1) _) := Lib.hid (hg2.mono (by first | omega | (simp; done) | (simp; omega)))
      clear hv2 hg2
      unfold dyV
      go_wp2_with fail
      refine Calls.mono (dyNought_calls (HV2.out.nsame_ge (N := w.heap.size) (n := 2) HG2.out (by omega) (by (repeat (first | with_reducible exact SameB.refl _ _ _ | refine SameB.setCell (p := ⟨_, _, _⟩) ?_ (by first | omega | (simp; done) | (simp; omega)) (by first | omega | (simp; done) | (simp; omega)) _ | refine SameB.setNew (p := ⟨_, _, _⟩) ?_ (by first | omega | (simp; done) | (simp; omega)) _ | refine SameB.alloc ?_ _ | refine SameB.drew ?_ | refine SameB.drewN ?_ _)))) _ HD.out) ?_
      rintro E w3 ⟨rfl, hb3⟩
      obtain ⟨hc3, hf3⟩ := bcell hb3
      have HW3 : Hid (Below w.heap.size w w3) := Lib.hid (by
        refine Below.trans ?_ (hb3.mono ?_)
        · (repeat (first | with_reducible exact HW2.out | refine Below.setCell (p := ⟨_, _, _⟩) ?_ (by first | omega | (simp; done) | (simp; omega)) _ | refine Below.alloc ?_ (by first | omega | (simp; done) | (simp; omega)) _ | refine Below.drew ?_ | refine below_dn ?_ _))
        · first | omega | (simp; done) | (simp; omega))
      have hS2_3 : Hid (SameB w.heap.size 2 w2 w3) := Lib.hid (by
        refine SameB.below ?_ hb3
        (repeat (first | with_reducible exact SameB.refl _ _ _ | refine SameB.setCell (p := ⟨_, _, _⟩) ?_ (by first | omega | (simp; done) | (simp; omega)) (by first | omega | (simp; done) | (simp; omega)) _ | refine SameB.setNew (p := ⟨_, _, _⟩) ?_ (by first | omega | (simp; done) | (simp; omega)) _ | refine SameB.alloc ?_ _ | refine SameB.drew ?_ | refine SameB.drewN ?_ _)))
      have hS0_3 := Lib.hid (hS0_2.out.trans hS2_3.out)
      have hS1_3 := Lib.hid (hS1_2.out.trans hS2_3.out)
      have hs3 : w.heap.size + 1 + 1 ≤ w3.heap.size := by have := hb3.size; (try simp at this); omega
      have hc3_0 := fun o : Nat => hc3 (w.heap.size) o (by first | omega | (simp; done) | (simp; omega))
      have hf3_0 := fun o : Nat => hf3 (w.heap.size) o (by first | omega | (simp; done) | (simp; omega))
      have hc3_1 := fun o : Nat => hc3 (w.heap.size + 1) o (by first | omega | (simp; done) | (simp; omega))
      have hf3_1 := fun o : Nat => hf3 (w.heap.size + 1) o (by first | omega | (simp; done) | (simp; omega))
      clear hc3 hf3
      clear hb3
      go_wp2_with fail
      refine bodyPost_ret (v := .tuple #[dyV false (.slice A2 k2 c2) e, .int .i64 0]) (by simp [results, Tryd.results49, go_sem, intV, dyV, hc1_0, hf1_0, hc1_1, hf1_1, hc2_0, hf2_0, hc2_1, hf2_1, hc3_0, hf3_0, hc3_1, hf3_1]) rfl ?_
      refine ⟨false, _, rfl, ⟨⟨?_, HR.out, HG2.out.spot⟩, HF.out⟩, HG2.out.mono (by omega), by (repeat (first | with_reducible exact HW3.out | refine Below.setCell (p := ⟨_, _, _⟩) ?_ (by first | omega | (simp; done) | (simp; omega)) _ | refine Below.alloc ?_ (by first | omega | (simp; done) | (simp; omega)) _ | refine Below.drew ?_ | refine below_dn ?_ _))⟩
      rw [HA.out]
      exact (HV2.out.nsame_ge (N := w.heap.size) (n := 2) HG2.out (by omega) (by (refine SameB.trans hS2_3.out ?_; (repeat (first | with_reducible exact SameB.refl _ _ _ | refine SameB.setCell (p := ⟨_, _, _⟩) ?_ (by first | omega | (simp; done) | (simp; omega)) (by first | omega | (simp; done) | (simp; omega)) _ | refine SameB.setNew (p := ⟨_, _, _⟩) ?_ (by first | omega | (simp; done) | (simp; omega)) _ | refine SameB.alloc ?_ _ | refine SameB.drew ?_ | refine SameB.drewN ?_ _)))))
  · have hD := HD.out
    clear HD hD
    have HW0 : Hid (Below w.heap.size w w) := Lib.hid (Below.refl _ _)
    go_enter Tryd.func49, Tryd.ntmps49
    go_wp2_with fail
    refine Calls.mono (dyForm_calls (H.out.below (by (repeat (first | with_reducible exact HW0.out | refine Below.setCell (p := ⟨_, _, _⟩) ?_ (by first | omega | (simp; done) | (simp; omega)) _ | refine Below.alloc ?_ (by first | omega | (simp; done) | (simp; omega)) _ | refine Below.drew ?_ | refine below_dn ?_ _))))) ?_
    rintro E w1 ⟨rfl, hb1⟩
    obtain ⟨hc1, hf1⟩ := bcell hb1
    have HW1 : Hid (Below w.heap.size w w1) := Lib.hid (by
      refine Below.trans ?_ (hb1.mono ?_)
      · (repeat (first | with_reducible exact HW0.out | refine Below.setCell (p := ⟨_, _, _⟩) ?_ (by first | omega | (simp; done) | (simp; omega)) _ | refine Below.alloc ?_ (by first | omega | (simp; done) | (simp; omega)) _ | refine Below.drew ?_ | refine below_dn ?_ _))
      · first | omega | (simp; done) | (simp; omega))
    have hS0_1 : Hid (SameB w.heap.size 2 w w1) := Lib.hid (by
      refine SameB.below ?_ hb1
      (repeat (first | with_reducible exact SameB.refl _ _ _ | refine SameB.setCell (p := ⟨_, _, _⟩) ?_ (by first | omega | (simp; done) | (simp; omega)) (by first | omega | (simp; done) | (simp; omega)) _ | refine SameB.setNew (p := ⟨_, _, _⟩) ?_ (by first | omega | (simp; done) | (simp; omega)) _ | refine SameB.alloc ?_ _ | refine SameB.drew ?_ | refine SameB.drewN ?_ _)))
    have hs1 : w.heap.size + 1 + 1 ≤ w1.heap.size := by have := hb1.size; (try simp at this); omega
    have hc1_0 := fun o : Nat => hc1 (w.heap.size) o (by first | omega | (simp; done) | (simp; omega))
    have hf1_0 := fun o : Nat => hf1 (w.heap.size) o (by first | omega | (simp; done) | (simp; omega))
    have hc1_1 := fun o : Nat => hc1 (w.heap.size + 1) o (by first | omega | (simp; done) | (simp; omega))
    have hf1_1 := fun o : Nat => hf1 (w.heap.size + 1) o (by first | omega | (simp; done) | (simp; omega))
    clear hc1 hf1
    clear hb1
    go_wp2_with fail
    refine Calls.mono (dyTwin_calls (H.out.below HW1.out)) ?_
    rintro E w2 ⟨v2, rfl, hv2, hg2, hb2⟩
    obtain ⟨hc2, hf2⟩ := bcell hb2
    have HW2 : Hid (Below w.heap.size w w2) := Lib.hid (by
      refine Below.trans ?_ (hb2.mono ?_)
      · (repeat (first | with_reducible exact HW1.out | refine Below.setCell (p := ⟨_, _, _⟩) ?_ (by first | omega | (simp; done) | (simp; omega)) _ | refine Below.alloc ?_ (by first | omega | (simp; done) | (simp; omega)) _ | refine Below.drew ?_ | refine below_dn ?_ _))
      · first | omega | (simp; done) | (simp; omega))
    have hS1_2 : Hid (SameB w.heap.size 2 w1 w2) := Lib.hid (by
      refine SameB.below ?_ hb2
      (repeat (first | with_reducible exact SameB.refl _ _ _ | refine SameB.setCell (p := ⟨_, _, _⟩) ?_ (by first | omega | (simp; done) | (simp; omega)) (by first | omega | (simp; done) | (simp; omega)) _ | refine SameB.setNew (p := ⟨_, _, _⟩) ?_ (by first | omega | (simp; done) | (simp; omega)) _ | refine SameB.alloc ?_ _ | refine SameB.drew ?_ | refine SameB.drewN ?_ _)))
    have hS0_2 := Lib.hid (hS0_1.out.trans hS1_2.out)
    have hs2 : w.heap.size + 1 + 1 ≤ w2.heap.size := by have := hb2.size; (try simp at this); omega
    have hc2_0 := fun o : Nat => hc2 (w.heap.size) o (by first | omega | (simp; done) | (simp; omega))
    have hf2_0 := fun o : Nat => hf2 (w.heap.size) o (by first | omega | (simp; done) | (simp; omega))
    have hc2_1 := fun o : Nat => hc2 (w.heap.size + 1) o (by first | omega | (simp; done) | (simp; omega))
    have hf2_1 := fun o : Nat => hf2 (w.heap.size + 1) o (by first | omega | (simp; done) | (simp; omega))
    clear hc2 hf2
    clear hb2
    obtain ⟨A2, k2, c2, rfl, _, _, _⟩ := hv2.nat.form
    have HV2 := Lib.hid hv2
    have HG2 : Hid (Ge (w.heap.size + 1 + 1) _) := Lib.hid (hg2.mono (by first | omega | (simp; done) | (simp; omega)))
    clear hv2 hg2
    unfold dyV
    go_wp2_with fail
    refine bodyPost_ret (v := .tuple #[dyV false (.slice A2 k2 c2) e, .int .i64 0]) (by simp [results, Tryd.results49, go_sem, intV, dyV, hc1_0, hf1_0, hc1_1, hf1_1, hc2_0, hf2_0, hc2_1, hf2_1]) rfl ?_
    refine ⟨false, _, rfl, ⟨⟨?_, HR.out, HG2.out.spot⟩, HF.out⟩, HG2.out.mono (by omega), by (repeat (first | with_reducible exact HW2.out | refine Below.setCell (p := ⟨_, _, _⟩) ?_ (by first | omega | (simp; done) | (simp; omega)) _ | refine Below.alloc ?_ (by first | omega | (simp; done) | (simp; omega)) _ | refine Below.drew ?_ | refine below_dn ?_ _))⟩
    rw [HA.out]
    exact (HV2.out.nsame_ge (N := w.heap.size) (n := 2) HG2.out (by omega) (by (repeat (first | with_reducible exact SameB.refl _ _ _ | refine SameB.setCell (p := ⟨_, _, _⟩) ?_ (by first | omega | (simp; done) | (simp; omega)) (by first | omega | (simp; done) | (simp; omega)) _ | refine SameB.setNew (p := ⟨_, _, _⟩) ?_ (by first | omega | (simp; done) | (simp; omega)) _ | refine SameB.alloc ?_ _ | refine SameB.drew ?_ | refine SameB.drewN ?_ _))))

/-- what two dyadics are at the lesser exponent, and what is asked so that Add can tell their sum -/
def dyZ (ma ea mb eb : Int) : Int := ma * 2 ^ (ea - min ea eb).toNat + mb * 2 ^ (eb - min ea eb).toNat
def AddOk (ma ea mb eb : Int) : Prop := ma.natAbs * 2 ^ (ea - min ea eb).toNat < LIM ∧ mb.natAbs * 2 ^ (eb - min ea eb).toNat < LIM ∧ (dyZ ma ea mb eb).natAbs < LIM ∧ MkOk (dyZ ma ea mb eb) (min ea eb)

theorem tzn_odd_shift {m : Nat} (k : Nat) (h : m % 2 = 1) : tzn (m * 2 ^ k) = k := by
  have hp := Nat.two_pow_pos k
  obtain ⟨t, e⟩ := tzn_spec (m * 2 ^ k) (by have := Nat.mul_pos (show 0 < m by omega) hp; omega)
  generalize tzn (m * 2 ^ k) = j at *
  rcases Nat.lt_trichotomy j k with hj | hj | hj
  · exfalso
    obtain ⟨d, rfl⟩ := Nat.exists_eq_add_of_lt hj
    rw [Nat.pow_succ, Nat.pow_add] at e
    have : 2 ^ j * (m * (2 ^ d * 2)) = 2 ^ j * (2 * t + 1) := by rw [← e]; grind
    have := Nat.eq_of_mul_eq_mul_left (Nat.two_pow_pos j) this
    rw [← Nat.mul_assoc] at this
    omega
  · exact hj
  · exfalso
    obtain ⟨d, rfl⟩ := Nat.exists_eq_add_of_lt hj
    rw [Nat.pow_succ, Nat.pow_add] at e
    have : 2 ^ k * m = 2 ^ k * (2 ^ d * 2 * (2 * t + 1)) := by rw [Nat.mul_comm, e]; grind
    have := Nat.eq_of_mul_eq_mul_left (Nat.two_pow_pos k) this
    rw [this, Nat.mul_comm _ 2, Nat.mul_assoc] at h
    omega

theorem dy_shift {m e : Int} (h : DyF m e) (k : Nat) (e' : Int) (he : m ≠ 0 → e = e' + k) : dyM (m * 2 ^ k) = m ∧ dyE (m * 2 ^ k) e' = e := by
  obtain ⟨_, _, h⟩ := h
  have hp : (0 : Int) < 2 ^ k := Int.pow_pos (by decide)
  by_cases h0 : m = 0
  · subst h0
    have : e = 0 := by rcases h with h | h <;> omega
    subst this
    simp [dyM, dyE]
  · have hm : m % 2 = 1 := by rcases h with h | h <;> omega
    have hn : m * 2 ^ k ≠ 0 := by intro a; rcases Int.mul_eq_zero.1 a with a | a <;> omega
    have ht : tzn (m * 2 ^ k).natAbs = k := by
      have : (m * 2 ^ k).natAbs = m.natAbs * 2 ^ k := by rw [Int.natAbs_mul, Int.natAbs_pow]; rfl
      rw [this]; exact tzn_odd_shift k (by omega)
    unfold dyM dyE
    rw [if_neg hn, if_neg hn, ht]
    exact ⟨Int.mul_ediv_cancel _ (by omega), (he h0).symm⟩

theorem dyZ_left {ma ea mb eb : Int} (h : ma = 0) (hb : DyF mb eb) : dyM (dyZ ma ea mb eb) = mb ∧ dyE (dyZ ma ea mb eb) (min ea eb) = eb := by
  unfold dyZ
  rw [h, Int.zero_mul, Int.zero_add]
  exact dy_shift hb _ _ (fun _ => by omega)
theorem dyZ_right {ma ea mb eb : Int} (h : mb = 0) (ha : DyF ma ea) : dyM (dyZ ma ea mb eb) = ma ∧ dyE (dyZ ma ea mb eb) (min ea eb) = ea := by
  unfold dyZ
  rw [h, Int.zero_mul, Int.add_zero]
  exact dy_shift ha _ _ (fun _ => by omega)

set_option maxRecDepth 100000 in
set_option maxHeartbeats 6400000 in
theorem dyAdd_calls {w : World} {na nb : Bool} {a b : Value} {ma ea mb eb : Int} (ha : IsDy w na a ea ma) (hb : IsDy w nb b eb mb) (hT : Tab w) (hok : AddOk ma ea mb eb) :
    Calls Tryd.prog 48 #[dyV na a ea, dyV nb b eb] w (DRes w (dyM (dyZ ma ea mb eb)) (dyE (dyZ ma ea mb eb) (min ea eb))) := by
  obtain ⟨Aa, ka, ca, rfl, _⟩ := ha.nat.form
  obtain ⟨Ab, kb, cb, rfl, _⟩ := hb.nat.form
  have HA := Lib.hid ha
  have HB := Lib.hid hb
  have HBa := Lib.hid ha.bd
  have HBb := Lib.hid hb.bd
  have HT := Lib.hid hT
  obtain ⟨x1, x2, _⟩ := ha.2
  obtain ⟨x3, x4, _⟩ := hb.2
  by_cases h0 : ma = 0
  · obtain ⟨q1, q2⟩ := dyZ_left (ea := ea) h0 hb.2
    rw [q1, q2]
    have HD : Hid (decide (ma.natAbs = 0) = true) := Lib.hid (by rw [decide_eq_true_iff]; omega)
    clear ha hb hT hok h0 q1 q2 x1 x2 x3 x4
    unfold dyV
    have HW0 : Hid (Below w.heap.size w w) := Lib.hid (Below.refl _ _)
    go_enter Tryd.func48, Tryd.ntmps48
    go_wp2_with fail
    refine Calls.mono (dyForm_calls (HA.out.below (by (repeat (first | with_reducible exact HW0.out | refine Below.setCell (p := ⟨_, _, _⟩) ?_ (by first | omega | (simp; done) | (simp; omega)) _ | refine Below.alloc ?_ (by first | omega | (simp; done) | (simp; omega)) _ | refine Below.drew ?_ | refine below_dn ?_ _))))) ?_
    rintro E w1 ⟨rfl, hb1⟩
    obtain ⟨hc1, hf1⟩ := bcell hb1
    have HW1 : Hid (Below w.heap.size w w1) := Lib.hid (by
      refine Below.trans ?_ (hb1.mono ?_)
      · (repeat (first | with_reducible exact HW0.out | refine Below.setCell (p := ⟨_, _, _⟩) ?_ (by first | omega | (simp; done) | (simp; omega)) _ | refine Below.alloc ?_ (by first | omega | (simp; done) | (simp; omega)) _ | refine Below.drew ?_ | refine below_dn ?_ _))
      · first | omega | (simp; done) | (simp; omega))
    have hS0_1 : Hid (SameB w.heap.size 3 w w1) := Lib.hid (by
      refine SameB.below ?_ hb1
      (repeat (first | with_reducible exact SameB.refl _ _ _ | refine SameB.setCell (p := ⟨_, _, _⟩) ?_ (by first | omega | (simp; done) | (simp; omega)) (by first | omega | (simp; done) | (simp; omega)) _ | refine SameB.setNew (p := ⟨_, _, _⟩) ?_ (by first | omega | (simp; done) | (simp; omega)) _ | refine SameB.alloc ?_ _ | refine SameB.drew ?_ | refine SameB.drewN ?_ _)))
    have hs1 : w.heap.size + 1 + 1 + 1 ≤ w1.heap.size := by have := hb1.size; (try simp at this); omega
    have hc1_0 := fun o : Nat => hc1 (w.heap.size) o (by first | omega | (simp; done) | (simp; omega))
    have hf1_0 := fun o : Nat => hf1 (w.heap.size) o (by first | omega | (simp; done) | (simp; omega))
    have hc1_1 := fun o : Nat => hc1 (w.heap.size + 1) o (by first | omega | (simp; done) | (simp; omega))
    have hf1_1 := fun o : Nat => hf1 (w.heap.size + 1) o (by first | omega | (simp; done) | (simp; omega))
    have hc1_2 := fun o : Nat => hc1 (w.heap.size + 1 + 1) o (by first | omega | (simp; done) | (simp; omega))
    have hf1_2 := fun o : Nat => hf1 (w.heap.size + 1 + 1) o (by first | omega | (simp; done) | (simp; omega))
    clear hc1 hf1
    clear hb1
    go_wp2_with fail
    refine Calls.mono (dyForm_calls (HB.out.below HW1.out)) ?_
    rintro E w2 ⟨rfl, hb2⟩
    obtain ⟨hc2, hf2⟩ := bcell hb2
    have HW2 : Hid (Below w.heap.size w w2) := Lib.hid (by
      refine Below.trans ?_ (hb2.mono ?_)
      · (repeat (first | with_reducible exact HW1.out | refine Below.setCell (p := ⟨_, _, _⟩) ?_ (by first | omega | (simp; done) | (simp; omega)) _ | refine Below.alloc ?_ (by first | omega | (simp; done) | (simp; omega)) _ | refine Below.drew ?_ | refine below_dn ?_ _))
      · first | omega | (simp; done) | (simp; omega))
    have hS1_2 : Hid (SameB w.heap.size 3 w1 w2) := Lib.hid (by
      refine SameB.below ?_ hb2
      (repeat (first | with_reducible exact SameB.refl _ _ _ | refine SameB.setCell (p := ⟨_, _, _⟩) ?_ (by first | omega | (simp; done) | (simp; omega)) (by first | omega | (simp; done) | (simp; omega)) _ | refine SameB.setNew (p := ⟨_, _, _⟩) ?_ (by first | omega | (simp; done) | (simp; omega)) _ | refine SameB.alloc ?_ _ | refine SameB.drew ?_ | refine SameB.drewN ?_ _)))
    have hS0_2 := Lib.hid (hS0_1.out.trans hS1_2.out)
    have hs2 : w.heap.size + 1 + 1 + 1 ≤ w2.heap.size := by have := hb2.size; (try simp at this); omega
    have hc2_0 := fun o : Nat => hc2 (w.heap.size) o (by first | omega | (simp; done) | (simp; omega))
    have hf2_0 := fun o : Nat => hf2 (w.heap.size) o (by first | omega | (simp; done) | (simp; omega))
    have hc2_1 := fun o : Nat => hc2 (w.heap.size + 1) o (by first | omega | (simp; done) | (simp; omega))
    have hf2_1 := fun o : Nat => hf2 (w.heap.size + 1) o (by first | omega | (simp; done) | (simp; omega))
    have hc2_2 := fun o : Nat => hc2 (w.heap.size + 1 + 1) o (by first | omega | (simp; done) | (simp; omega))
    have hf2_2 := fun o : Nat => hf2 (w.heap.size + 1 + 1) o (by first | omega | (simp; done) | (simp; omega))
    clear hc2 hf2
    clear hb2
    go_wp2_with fail
    refine Calls.mono (dyNought_calls (HA.out.nbelow HW2.out) _ HD.out) ?_
    rintro E w3 ⟨rfl, hb3⟩
    obtain ⟨hc3, hf3⟩ := bcell hb3
    have HW3 : Hid (Below w.heap.size w w3) := Lib.hid (by
      refine Below.trans ?_ (hb3.mono ?_)
      · (repeat (first | with_reducible exact HW2.out | refine Below.setCell (p := ⟨_, _, _⟩) ?_ (by first | omega | (simp; done) | (simp; omega)) _ | refine Below.alloc ?_ (by first | omega | (simp; done) | (simp; omega)) _ | refine Below.drew ?_ | refine below_dn ?_ _))
      · first | omega | (simp; done) | (simp; omega))
    have hS2_3 : Hid (SameB w.heap.size 3 w2 w3) := Lib.hid (by
      refine SameB.below ?_ hb3
      (repeat (first | with_reducible exact SameB.refl _ _ _ | refine SameB.setCell (p := ⟨_, _, _⟩) ?_ (by first | omega | (simp; done) | (simp; omega)) (by first | omega | (simp; done) | (simp; omega)) _ | refine SameB.setNew (p := ⟨_, _, _⟩) ?_ (by first | omega | (simp; done) | (simp; omega)) _ | refine SameB.alloc ?_ _ | refine SameB.drew ?_ | refine SameB.drewN ?_ _)))
    have hS0_3 := Lib.hid (hS0_2.out.trans hS2_3.out)
    have hS1_3 := Lib.hid (hS1_2.out.trans hS2_3.out)
    have hs3 : w.heap.size + 1 + 1 + 1 ≤ w3.heap.size := by have := hb3.size; (try simp at this); omega
    have hc3_0 := fun o : Nat => hc3 (w.heap.size) o (by first | omega | (simp; done) | (simp; omega))
    have hf3_0 := fun o : Nat => hf3 (w.heap.size) o (by first | omega | (simp; done) | (simp; omega))
    have hc3_1 := fun o : Nat => hc3 (w.heap.size + 1) o (by first | omega | (simp; done) | (simp; omega))
    have hf3_1 := fun o : Nat => hf3 (w.heap.size + 1) o (by first | omega | (simp; done) | (simp; omega))
    have hc3_2 := fun o : Nat => hc3 (w.heap.size + 1 + 1) o (by first | omega | (simp; done) | (simp; omega))
    have hf3_2 := fun o : Nat => hf3 (w.heap.size + 1 + 1) o (by first | omega | (simp; done) | (simp; omega))
    clear hc3 hf3
    clear hb3
    go_wp2_with fail
    refine Calls.mono (dyTwin_calls (HB.out.below HW3.out)) ?_
    rintro E w4 ⟨v4, rfl, hv4, hg4, hb4⟩
    obtain ⟨hc4, hf4⟩ := bcell hb4
    have HW4 : Hid (Below w.heap.size w w4) := Lib.hid (by
      refine Below.trans ?_ (hb4.mono ?_)
      · (repeat (first | with_reducible exact HW3.out | refine Below.setCell (p := ⟨_, _, _⟩) ?_ (by first | omega | (simp; done) | (simp; omega)) _ | refine Below.alloc ?_ (by first | omega | (simp; done) | (simp; omega)) _ | refine Below.drew ?_ | refine below_dn ?_ _))
      · first | omega | (simp; done) | (simp; omega))
    have hS3_4 : Hid (SameB w.heap.size 3 w3 w4) := Lib.hid (by
      refine SameB.below ?_ hb4
      (repeat (first | with_reducible exact SameB.refl _ _ _ | refine SameB.setCell (p := ⟨_, _, _⟩) ?_ (by first | omega | (simp; done) | (simp; omega)) (by first | omega | (simp; done) | (simp; omega)) _ | refine SameB.setNew (p := ⟨_, _, _⟩) ?_ (by first | omega | (simp; done) | (simp; omega)) _ | refine SameB.alloc ?_ _ | refine SameB.drew ?_ | refine SameB.drewN ?_ _)))
    have hS0_4 := Lib.hid (hS0_3.out.trans hS3_4.out)
    have hS1_4 := Lib.hid (hS1_3.out.trans hS3_4.out)
    have hS2_4 := Lib.hid (hS2_3.out.trans hS3_4.out)
    have hs4 : w.heap.size + 1 + 1 + 1 ≤ w4.heap.size := by have := hb4.size; (try simp at this); omega
    have hc4_0 := fun o : Nat => hc4 (w.heap.size) o (by first | omega | (simp; done) | (simp; omega))
    have hf4_0 := fun o : Nat => hf4 (w.heap.size) o (by first | omega | (simp; done) | (simp; omega))
    have hc4_1 := fun o : Nat => hc4 (w.heap.size + 1) o (by first | omega | (simp; done) | (simp; omega))
    have hf4_1 := fun o : Nat => hf4 (w.heap.size + 1) o (by first | omega | (simp; done) | (simp; omega))
    have hc4_2 := fun o : Nat => hc4 (w.heap.size + 1 + 1) o (by first | omega | (simp; done) | (simp; omega))
    have hf4_2 := fun o : Nat => hf4 (w.heap.size + 1 + 1) o (by first | omega | (simp; done) | (simp; omega))
    clear hc4 hf4
    clear hb4
    obtain ⟨A4, k4, c4, rfl, _, _, _⟩ := hv4.nat.form
    have HV4 := Lib.hid hv4
    have HG4 : Hid (Ge (w.heap.size + 1 + 1 + 1) _) := Lib.hid (hg4.mono (by first | omega | (simp; done) | (simp; omega)))
    clear hv4 hg4
    unfold dyV
    go_wp2_with fail
    refine bodyPost_ret (v := .tuple #[dyV nb (.slice A4 k4 c4) eb, .int .i64 0]) (by simp [results, Tryd.results48, go_sem, intV, dyV, hc1_0, hf1_0, hc1_1, hf1_1, hc1_2, hf1_2, hc2_0, hf2_0, hc2_1, hf2_1, hc2_2, hf2_2, hc3_0, hf3_0, hc3_1, hf3_1, hc3_2, hf3_2, hc4_0, hf4_0, hc4_1, hf4_1, hc4_2, hf4_2]) rfl ?_
    exact ⟨nb, _, rfl, (HV4.out.same_ge (N := w.heap.size) (n := 3) HG4.out (by omega) (by (repeat (first | with_reducible exact SameB.refl _ _ _ | refine SameB.setCell (p := ⟨_, _, _⟩) ?_ (by first | omega | (simp; done) | (simp; omega)) (by first | omega | (simp; done) | (simp; omega)) _ | refine SameB.setNew (p := ⟨_, _, _⟩) ?_ (by first | omega | (simp; done) | (simp; omega)) _ | refine SameB.alloc ?_ _ | refine SameB.drew ?_ | refine SameB.drewN ?_ _)))), HG4.out.mono (by omega), by (repeat (first | with_reducible exact HW4.out | refine Below.setCell (p := ⟨_, _, _⟩) ?_ (by first | omega | (simp; done) | (simp; omega)) _ | refine Below.alloc ?_ (by first | omega | (simp; done) | (simp; omega)) _ | refine Below.drew ?_ | refine below_dn ?_ _))⟩
  have HDa : Hid (decide (ma.natAbs = 0) = false) := Lib.hid (by rw [decide_eq_false_iff_not]; omega)
  by_cases h1 : mb = 0
  · obtain ⟨q1, q2⟩ := dyZ_right (eb := eb) h1 ha.2
    rw [q1, q2]
    have HD : Hid (decide (mb.natAbs = 0) = true) := Lib.hid (by rw [decide_eq_true_iff]; omega)
    clear ha hb hT hok h0 h1 q1 q2 x1 x2 x3 x4
    unfold dyV
    have HW0 : Hid (Below w.heap.size w w) := Lib.hid (Below.refl _ _)
    go_enter Tryd.func48, Tryd.ntmps48
    go_wp2_with fail
    refine Calls.mono (dyForm_calls (HA.out.below (by (repeat (first | with_reducible exact HW0.out | refine Below.setCell (p := ⟨_, _, _⟩) ?_ (by first | omega | (simp; done) | (simp; omega)) _ | refine Below.alloc ?_ (by first | omega | (simp; done) | (simp; omega)) _ | refine Below.drew ?_ | refine below_dn ?_ _))))) ?_
    rintro E w1 ⟨rfl, hb1⟩
    obtain ⟨hc1, hf1⟩ := bcell hb1
    have HW1 : Hid (Below w.heap.size w w1) := Lib.hid (by
      refine Below.trans ?_ (hb1.mono ?_)
      · (repeat (first | with_reducible exact HW0.out | refine Below.setCell (p := ⟨_, _, _⟩) ?_ (by first | omega | (simp; done) | (simp; omega)) _ | refine Below.alloc ?_ (by first | omega | (simp; done) | (simp; omega)) _ | refine Below.drew ?_ | refine below_dn ?_ _))
      · first | omega | (simp; done) | (simp; omega))
    have hS0_1 : Hid (SameB w.heap.size 3 w w1) := Lib.hid (by
      refine SameB.below ?_ hb1
      (repeat (first | with_reducible exact SameB.refl _ _ _ | refine SameB.setCell (p := ⟨_, _, _⟩) ?_ (by first | omega | (simp; done) | (simp; omega)) (by first | omega | (simp; done) | (simp; omega)) _ | refine SameB.setNew (p := ⟨_, _, _⟩) ?_ (by first | omega | (simp; done) | (simp; omega)) _ | refine SameB.alloc ?_ _ | refine SameB.drew ?_ | refine SameB.drewN ?_ _)))
    have hs1 : w.heap.size + 1 + 1 + 1 ≤ w1.heap.size := by have := hb1.size; (try simp at this); omega
    have hc1_0 := fun o : Nat => hc1 (w.heap.size) o (by first | omega | (simp; done) | (simp; omega))
    have hf1_0 := fun o : Nat => hf1 (w.heap.size) o (by first | omega | (simp; done) | (simp; omega))
    have hc1_1 := fun o : Nat => hc1 (w.heap.size + 1) o (by first | omega | (simp; done) | (simp; omega))
    have hf1_1 := fun o : Nat => hf1 (w.heap.size + 1) o (by first | omega | (simp; done) | (simp; omega))
    have hc1_2 := fun o : Nat => hc1 (w.heap.size + 1 + 1) o (by first | omega | (simp; done) | (simp; omega))
    have hf1_2 := fun o : Nat => hf1 (w.heap.size + 1 + 1) o (by first | omega | (simp; done) | (simp; omega))
    clear hc1 hf1
    clear hb1
    go_wp2_with fail
    refine Calls.mono (dyForm_calls (HB.out.below HW1.out)) ?_
    rintro E w2 ⟨rfl, hb2⟩
    obtain ⟨hc2, hf2⟩ := bcell hb2
    have HW2 : Hid (Below w.heap.size w w2) := Lib.hid (by
      refine Below.trans ?_ (hb2.mono ?_)
      · (repeat (first | with_reducible exact HW1.out | refine Below.setCell (p := ⟨_, _, _⟩) ?_ (by first | omega | (simp; done) | (simp; omega)) _ | refine Below.alloc ?_ (by first | omega | (simp; done) | (simp; omega)) _ | refine Below.drew ?_ | refine below_dn ?_ _))
      · first | omega | (simp; done) | (simp; omega))
    have hS1_2 : Hid (SameB w.heap.size 3 w1 w2) := Lib.hid (by
      refine SameB.below ?_ hb2
      (repeat (first | with_reducible exact SameB.refl _ _ _ | refine SameB.setCell (p := ⟨_, _, _⟩) ?_ (by first | omega | (simp; done) | (simp; omega)) (by first | omega | (simp; done) | (simp; omega)) _ | refine SameB.setNew (p := ⟨_, _, _⟩) ?_ (by first | omega | (simp; done) | (simp; omega)) _ | refine SameB.alloc ?_ _ | refine SameB.drew ?_ | refine SameB.drewN ?_ _)))
    have hS0_2 := Lib.hid (hS0_1.out.trans hS1_2.out)
    have hs2 : w.heap.size + 1 + 1 + 1 ≤ w2.heap.size := by have := hb2.size; (try simp at this); omega
    have hc2_0 := fun o : Nat => hc2 (w.heap.size) o (by first | omega | (simp; done) | (simp; omega))
    have hf2_0 := fun o : Nat => hf2 (w.heap.size) o (by first | omega | (simp; done) | (simp; omega))
    have hc2_1 := fun o : Nat => hc2 (w.heap.size + 1) o (by first | omega | (simp; done) | (simp; omega))
    have hf2_1 := fun o : Nat => hf2 (w.heap.size + 1) o (by first | omega | (simp; done) | (simp; omega))
    have hc2_2 := fun o : Nat => hc2 (w.heap.size + 1 + 1) o (by first | omega | (simp; done) | (simp; omega))
    have hf2_2 := fun o : Nat => hf2 (w.heap.size + 1 + 1) o (by first | omega | (simp; done) | (simp; omega))
    clear hc2 hf2
    clear hb2
    go_wp2_with fail
    refine Calls.mono (dyNought_calls (HA.out.nbelow HW2.out) _ HDa.out) ?_
    rintro E w3 ⟨rfl, hb3⟩
    obtain ⟨hc3, hf3⟩ := bcell hb3
    have HW3 : Hid (Below w.heap.size w w3) := Lib.hid (by
      refine Below.trans ?_ (hb3.mono ?_)
      · (repeat (first | with_reducible exact HW2.out | refine Below.setCell (p := ⟨_, _, _⟩) ?_ (by first | omega | (simp; done) | (simp; omega)) _ | refine Below.alloc ?_ (by first | omega | (simp; done) | (simp; omega)) _ | refine Below.drew ?_ | refine below_dn ?_ _))
      · first | omega | (simp; done) | (simp; omega))
    have hS2_3 : Hid (SameB w.heap.size 3 w2 w3) := Lib.hid (by
      refine SameB.below ?_ hb3
      (repeat (first | with_reducible exact SameB.refl _ _ _ | refine SameB.setCell (p := ⟨_, _, _⟩) ?_ (by first | omega | (simp; done) | (simp; omega)) (by first | omega | (simp; done) | (simp; omega)) _ | refine SameB.setNew (p := ⟨_, _, _⟩) ?_ (by first | omega | (simp; done) | (simp; omega)) _ | refine SameB.alloc ?_ _ | refine SameB.drew ?_ | refine SameB.drewN ?_ _)))
    have hS0_3 := Lib.hid (hS0_2.out.trans hS2_3.out)
    have hS1_3 := Lib.hid (hS1_2.out.trans hS2_3.out)
    have hs3 : w.heap.size + 1 + 1 + 1 ≤ w3.heap.size := by have := hb3.size; (try simp at this); omega
    have hc3_0 := fun o : Nat => hc3 (w.heap.size) o (by first | omega | (simp; done) | (simp; omega))
    have hf3_0 := fun o : Nat => hf3 (w.heap.size) o (by first | omega | (simp; done) | (simp; omega))
    have hc3_1 := fun o : Nat => hc3 (w.heap.size + 1) o (by first | omega | (simp; done) | (simp; omega))
    have hf3_1 := fun o : Nat => hf3 (w.heap.size + 1) o (by first | omega | (simp; done) | (simp; omega))
    have hc3_2 := fun o : Nat => hc3 (w.heap.size + 1 + 1) o (by first | omega | (simp; done) | (simp; omega))
    have hf3_2 := fun o : Nat => hf3 (w.heap.size + 1 + 1) o (by first | omega | (simp; done) | (simp; omega))
    clear hc3 hf3
    clear hb3
    go_wp2_with fail
    refine Calls.mono (dyNought_calls (HB.out.nbelow HW3.out) _ HD.out) ?_
    rintro E w4 ⟨rfl, hb4⟩
    obtain ⟨hc4, hf4⟩ := bcell hb4
    have HW4 : Hid (Below w.heap.size w w4) := Lib.hid (by
      refine Below.trans ?_ (hb4.mono ?_)
      · (repeat (first | with_reducible exact HW3.out | refine Below.setCell (p := ⟨_, _, _⟩) ?_ (by first | omega | (simp; done) | (simp; omega)) _ | refine Below.alloc ?_ (by first | omega | (simp; done) | (simp; omega)) _ | refine Below.drew ?_ | refine below_dn ?_ _))
      · first | omega | (simp; done) | (simp; omega))
    have hS3_4 : Hid (SameB w.heap.size 3 w3 w4) := Lib.hid (by
      refine SameB.below ?_ hb4
      (repeat (first | with_reducible exact SameB.refl _ _ _ | refine SameB.setCell (p := ⟨_, _, _⟩) ?_ (by first | omega | (simp; done) | (simp; omega)) (by first | omega | (simp; done) | (simp; omega)) _ | refine SameB.setNew (p := ⟨_, _, _⟩) ?_ (by first | omega | (simp; done) | (simp; omega)) _ | refine SameB.alloc ?_ _ | refine SameB.drew ?_ | refine SameB.drewN ?_ _)))
    have hS0_4 := Lib.hid (hS0_3.out.trans hS3_4.out)
    have hS1_4 := Lib.hid (hS1_3.out.trans hS3_4.out)
    have hS2_4 := Lib.hid (hS2_3.out.trans hS3_4.out)
    have hs4 : w.heap.size + 1 + 1 + 1 ≤ w4.heap.size := by have := hb4.size; (try simp at this); omega
    have hc4_0 := fun o : Nat => hc4 (w.heap.size) o (by first | omega | (simp; done) | (simp; omega))
    have hf4_0 := fun o : Nat => hf4 (w.heap.size) o (by first | omega | (simp; done) | (simp; omega))
    have hc4_1 := fun o : Nat => hc4 (w.heap.size + 1) o (by first | omega | (simp; done) | (simp; omega))
    have hf4_1 := fun o : Nat => hf4 (w.heap.size + 1) o (by first | omega | (simp; done) | (simp; omega))
    have hc4_2 := fun o : Nat => hc4 (w.heap.size + 1 + 1) o (by first | omega | (simp; done) | (simp; omega))
    have hf4_2 := fun o : Nat => hf4 (w.heap.size + 1 + 1) o (by first | omega | (simp; done) | (simp; omega))
    clear hc4 hf4
    clear hb4
    go_wp2_with fail
    refine Calls.mono (dyTwin_calls (HA.out.below HW4.out)) ?_
    rintro E w5 ⟨v5, rfl, hv5, hg5, hb5⟩
    obtain ⟨hc5, hf5⟩ := bcell hb5
    have HW5 : Hid (Below w.heap.size w w5) := Lib.hid (by
      refine Below.trans ?_ (hb5.mono ?_)
      · (repeat (first | with_reducible exact HW4.out | refine Below.setCell (p := ⟨_, _, _⟩) ?_ (by first | omega | (simp; done) | (simp; omega)) _ | refine Below.alloc ?_ (by first | omega | (simp; done) | (simp; omega)) _ | refine Below.drew ?_ | refine below_dn ?_ _))
      · first | omega | (simp; done) | (simp; omega))
    have hS4_5 : Hid (SameB w.heap.size 3 w4 w5) := Lib.hid (by
      refine SameB.below ?_ hb5
      (repeat (first | with_reducible exact SameB.refl _ _ _ | refine SameB.setCell (p := ⟨_, _, _⟩) ?_ (by first | omega | (simp; done) | (simp; omega)) (by first | omega | (simp; done) | (simp; omega)) _ | refine SameB.setNew (p := ⟨_, _, _⟩) ?_ (by first | omega | (simp; done) | (simp; omega)) _ | refine SameB.alloc ?_ _ | refine SameB.drew ?_ | refine SameB.drewN ?_ _)))
    have hS0_5 := Lib.hid (hS0_4.out.trans hS4_5.out)
    have hS1_5 := Lib.hid (hS1_4.out.trans hS4_5.out)
    have hS2_5 := Lib.hid (hS2_4.out.trans hS4_5.out)
    have hS3_5 := Lib.hid (hS3_4.out.trans hS4_5.out)
    have hs5 : w.heap.size + 1 + 1 + 1 ≤ w5.heap.size := by have := hb5.size; (try simp at this); omega
    have hc5_0 := fun o : Nat => hc5 (w.heap.size) o (by first | omega | (simp; done) | (simp; omega))
    have hf5_0 := fun o : Nat => hf5 (w.heap.size) o (by first | omega | (simp; done) | (simp; omega))
    have hc5_1 := fun o : Nat => hc5 (w.heap.size + 1) o (by first | omega | (simp; done) | (simp; omega))
    have hf5_1 := fun o : Nat => hf5 (w.heap.size + 1) o (by first | omega | (simp; done) | (simp; omega))
    have hc5_2 := fun o : Nat => hc5 (w.heap.size + 1 + 1) o (by first | omega | (simp; done) | (simp; omega))
    have hf5_2 := fun o : Nat => hf5 (w.heap.size + 1 + 1) o (by first | omega | (simp; done) | (simp; omega))
    clear hc5 hf5
    clear hb5
    obtain ⟨A5, k5, c5, rfl, _, _, _⟩ := hv5.nat.form
    have HV5 := Lib.hid hv5
    have HG5 : Hid (Ge (w.heap.size + 1 + 1 + 1) _) := Lib.hid (hg5.mono (by first | omega | (simp; done) | (simp; omega)))
    clear hv5 hg5
    unfold dyV
    go_wp2_with fail
    refine bodyPost_ret (v := .tuple #[dyV na (.slice A5 k5 c5) ea, .int .i64 0]) (by simp [results, Tryd.results48, go_sem, intV, dyV, hc1_0, hf1_0, hc1_1, hf1_1, hc1_2, hf1_2, hc2_0, hf2_0, hc2_1, hf2_1, hc2_2, hf2_2, hc3_0, hf3_0, hc3_1, hf3_1, hc3_2, hf3_2, hc4_0, hf4_0, hc4_1, hf4_1, hc4_2, hf4_2, hc5_0, hf5_0, hc5_1, hf5_1, hc5_2, hf5_2]) rfl ?_
    exact ⟨na, _, rfl, (HV5.out.same_ge (N := w.heap.size) (n := 3) HG5.out (by omega) (by (repeat (first | with_reducible exact SameB.refl _ _ _ | refine SameB.setCell (p := ⟨_, _, _⟩) ?_ (by first | omega | (simp; done) | (simp; omega)) (by first | omega | (simp; done) | (simp; omega)) _ | refine SameB.setNew (p := ⟨_, _, _⟩) ?_ (by first | omega | (simp; done) | (simp; omega)) _ | refine SameB.alloc ?_ _ | refine SameB.drew ?_ | refine SameB.drewN ?_ _)))), HG5.out.mono (by omega), by (repeat (first | with_reducible exact HW5.out | refine Below.setCell (p := ⟨_, _, _⟩) ?_ (by first | omega | (simp; done) | (simp; omega)) _ | refine Below.alloc ?_ (by first | omega | (simp; done) | (simp; omega)) _ | refine Below.drew ?_ | refine below_dn ?_ _))⟩
  have HDb : Hid (decide (mb.natAbs = 0) = false) := Lib.hid (by rw [decide_eq_false_iff_not]; omega)
  obtain ⟨o1, o2, o3, o4⟩ := hok
  have hka : ea - min ea eb = (((ea - min ea eb).toNat : Nat) : Int) := by omega
  have hkb : eb - min ea eb = (((eb - min ea eb).toNat : Nat) : Int) := by omega
  have hm1 : -1048576 ≤ min ea eb := by omega
  have hm2 : min ea eb ≤ 1048576 := by omega
  have l1 : (ea - min ea eb).toNat ≤ 9223372036854775807 := by omega
  have l2 : (eb - min ea eb).toNat ≤ 9223372036854775807 := by omega
  have L1 := Lib.hid l1
  have L2 := Lib.hid l2
  unfold dyZ at o3 o4 ⊢
  have O1 := Lib.hid o1
  have O2 := Lib.hid o2
  have O3 := Lib.hid o3
  have O4 := Lib.hid o4
  generalize (ea - min ea eb).toNat = sa at *
  generalize (eb - min ea eb).toNat = sb at *
  generalize hmn : min ea eb = mn at *
  clear ha hb hT h0 h1 o1 o2 o3 o4 l1 l2
  unfold dyV
  have HW0 : Hid (Below w.heap.size w w) := Lib.hid (Below.refl _ _)
  go_enter Tryd.func48, Tryd.ntmps48
  go_wp2_with fail
  refine Calls.mono (dyForm_calls (HA.out.below (by (repeat (first | with_reducible exact HW0.out | refine Below.setCell (p := ⟨_, _, _⟩) ?_ (by first | omega | (simp; done) | (simp; omega)) _ | refine Below.alloc ?_ (by first | omega | (simp; done) | (simp; omega)) _ | refine Below.drew ?_ | refine below_dn ?_ _))))) ?_
  rintro E w1 ⟨rfl, hb1⟩
  obtain ⟨hc1, hf1⟩ := bcell hb1
  have HW1 : Hid (Below w.heap.size w w1) := Lib.hid (by
    refine Below.trans ?_ (hb1.mono ?_)
    · (repeat (first | with_reducible exact HW0.out | refine Below.setCell (p := ⟨_, _, _⟩) ?_ (by first | omega | (simp; done) | (simp; omega)) _ | refine Below.alloc ?_ (by first | omega | (simp; done) | (simp; omega)) _ | refine Below.drew ?_ | refine below_dn ?_ _))
    · first | omega | (simp; done) | (simp; omega))
  have hS0_1 : Hid (SameB w.heap.size 3 w w1) := Lib.hid (by
    refine SameB.below ?_ hb1
    (repeat (first | with_reducible exact SameB.refl _ _ _ | refine SameB.setCell (p := ⟨_, _, _⟩) ?_ (by first | omega | (simp; done) | (simp; omega)) (by first | omega | (simp; done) | (simp; omega)) _ | refine SameB.setNew (p := ⟨_, _, _⟩) ?_ (by first | omega | (simp; done) | (simp; omega)) _ | refine SameB.alloc ?_ _ | refine SameB.drew ?_ | refine SameB.drewN ?_ _)))
  have hs1 : w.heap.size + 1 + 1 + 1 ≤ w1.heap.size := by have := hb1.size; (try simp at this); omega
  have hc1_0 := fun o : Nat => hc1 (w.heap.size) o (by first | omega | (simp; done) | (simp; omega))
  have hf1_0 := fun o : Nat => hf1 (w.heap.size) o (by first | omega | (simp; done) | (simp; omega))
  have hc1_1 := fun o : Nat => hc1 (w.heap.size + 1) o (by first | omega | (simp; done) | (simp; omega))
  have hf1_1 := fun o : Nat => hf1 (w.heap.size + 1) o (by first | omega | (simp; done) | (simp; omega))
  have hc1_2 := fun o : Nat => hc1 (w.heap.size + 1 + 1) o (by first | omega | (simp; done) | (simp; omega))
  have hf1_2 := fun o : Nat => hf1 (w.heap.size + 1 + 1) o (by first | omega | (simp; done) | (simp; omega))
  clear hc1 hf1
  clear hb1
  go_wp2_with fail
  refine Calls.mono (dyForm_calls (HB.out.below HW1.out)) ?_
  rintro E w2 ⟨rfl, hb2⟩
  obtain ⟨hc2, hf2⟩ := bcell hb2
  have HW2 : Hid (Below w.heap.size w w2) := Lib.hid (by
    refine Below.trans ?_ (hb2.mono ?_)
    · (repeat (first | with_reducible exact HW1.out | refine Below.setCell (p := ⟨_, _, _⟩) ?_ (by first | omega | (simp; done) | (simp; omega)) _ | refine Below.alloc ?_ (by first | omega | (simp; done) | (simp; omega)) _ | refine Below.drew ?_ | refine below_dn ?_ _))
    · first | omega | (simp; done) | (simp; omega))
  have hS1_2 : Hid (SameB w.heap.size 3 w1 w2) := Lib.hid (by
    refine SameB.below ?_ hb2
    (repeat (first | with_reducible exact SameB.refl _ _ _ | refine SameB.setCell (p := ⟨_, _, _⟩) ?_ (by first | omega | (simp; done) | (simp; omega)) (by first | omega | (simp; done) | (simp; omega)) _ | refine SameB.setNew (p := ⟨_, _, _⟩) ?_ (by first | omega | (simp; done) | (simp; omega)) _ | refine SameB.alloc ?_ _ | refine SameB.drew ?_ | refine SameB.drewN ?_ _)))
  have hS0_2 := Lib.hid (hS0_1.out.trans hS1_2.out)
  have hs2 : w.heap.size + 1 + 1 + 1 ≤ w2.heap.size := by have := hb2.size; (try simp at this); omega
  have hc2_0 := fun o : Nat => hc2 (w.heap.size) o (by first | omega | (simp; done) | (simp; omega))
  have hf2_0 := fun o : Nat => hf2 (w.heap.size) o (by first | omega | (simp; done) | (simp; omega))
  have hc2_1 := fun o : Nat => hc2 (w.heap.size + 1) o (by first | omega | (simp; done) | (simp; omega))
  have hf2_1 := fun o : Nat => hf2 (w.heap.size + 1) o (by first | omega | (simp; done) | (simp; omega))
  have hc2_2 := fun o : Nat => hc2 (w.heap.size + 1 + 1) o (by first | omega | (simp; done) | (simp; omega))
  have hf2_2 := fun o : Nat => hf2 (w.heap.size + 1 + 1) o (by first | omega | (simp; done) | (simp; omega))
  clear hc2 hf2
  clear hb2
  go_wp2_with fail
  refine Calls.mono (dyNought_calls (HA.out.nbelow HW2.out) _ HDa.out) ?_
  rintro E w3 ⟨rfl, hb3⟩
  obtain ⟨hc3, hf3⟩ := bcell hb3
  have HW3 : Hid (Below w.heap.size w w3) := Lib.hid (by
    refine Below.trans ?_ (hb3.mono ?_)
    · (repeat (first | with_reducible exact HW2.out | refine Below.setCell (p := ⟨_, _, _⟩) ?_ (by first | omega | (simp; done) | (simp; omega)) _ | refine Below.alloc ?_ (by first | omega | (simp; done) | (simp; omega)) _ | refine Below.drew ?_ | refine below_dn ?_ _))
    · first | omega | (simp; done) | (simp; omega))
  have hS2_3 : Hid (SameB w.heap.size 3 w2 w3) := Lib.hid (by
    refine SameB.below ?_ hb3
    (repeat (first | with_reducible exact SameB.refl _ _ _ | refine SameB.setCell (p := ⟨_, _, _⟩) ?_ (by first | omega | (simp; done) | (simp; omega)) (by first | omega | (simp; done) | (simp; omega)) _ | refine SameB.setNew (p := ⟨_, _, _⟩) ?_ (by first | omega | (simp; done) | (simp; omega)) _ | refine SameB.alloc ?_ _ | refine SameB.drew ?_ | refine SameB.drewN ?_ _)))
  have hS0_3 := Lib.hid (hS0_2.out.trans hS2_3.out)
  have hS1_3 := Lib.hid (hS1_2.out.trans hS2_3.out)
  have hs3 : w.heap.size + 1 + 1 + 1 ≤ w3.heap.size := by have := hb3.size; (try simp at this); omega
  have hc3_0 := fun o : Nat => hc3 (w.heap.size) o (by first | omega | (simp; done) | (simp; omega))
  have hf3_0 := fun o : Nat => hf3 (w.heap.size) o (by first | omega | (simp; done) | (simp; omega))
  have hc3_1 := fun o : Nat => hc3 (w.heap.size + 1) o (by first | omega | (simp; done) | (simp; omega))
  have hf3_1 := fun o : Nat => hf3 (w.heap.size + 1) o (by first | omega | (simp; done) | (simp; omega))
  have hc3_2 := fun o : Nat => hc3 (w.heap.size + 1 + 1) o (by first | omega | (simp; done) | (simp; omega))
  have hf3_2 := fun o : Nat => hf3 (w.heap.size + 1 + 1) o (by first | omega | (simp; done) | (simp; omega))
  clear hc3 hf3
  clear hb3
  go_wp2_with fail
  refine Calls.mono (dyNought_calls (HB.out.nbelow HW3.out) _ HDb.out) ?_
  rintro E w4 ⟨rfl, hb4⟩
  obtain ⟨hc4, hf4⟩ := bcell hb4
  have HW4 : Hid (Below w.heap.size w w4) := Lib.hid (by
    refine Below.trans ?_ (hb4.mono ?_)
    · (repeat (first | with_reducible exact HW3.out | refine Below.setCell (p := ⟨_, _, _⟩) ?_ (by first | omega | (simp; done) | (simp; omega)) _ | refine Below.alloc ?_ (by first | omega | (simp; done) | (simp; omega)) _ | refine Below.drew ?_ | refine below_dn ?_ _))
    · first | omega | (simp; done) | (simp; omega))
  have hS3_4 : Hid (SameB w.heap.size 3 w3 w4) := Lib.hid (by
    refine SameB.below ?_ hb4
    (repeat (first | with_reducible exact SameB.refl _ _ _ | refine SameB.setCell (p := ⟨_, _, _⟩) ?_ (by first | omega | (simp; done) | (simp; omega)) (by first | omega | (simp; done) | (simp; omega)) _ | refine SameB.setNew (p := ⟨_, _, _⟩) ?_ (by first | omega | (simp; done) | (simp; omega)) _ | refine SameB.alloc ?_ _ | refine SameB.drew ?_ | refine SameB.drewN ?_ _)))
  have hS0_4 := Lib.hid (hS0_3.out.trans hS3_4.out)
  have hS1_4 := Lib.hid (hS1_3.out.trans hS3_4.out)
  have hS2_4 := Lib.hid (hS2_3.out.trans hS3_4.out)
  have hs4 : w.heap.size + 1 + 1 + 1 ≤ w4.heap.size := by have := hb4.size; (try simp at this); omega
  have hc4_0 := fun o : Nat => hc4 (w.heap.size) o (by first | omega | (simp; done) | (simp; omega))
  have hf4_0 := fun o : Nat => hf4 (w.heap.size) o (by first | omega | (simp; done) | (simp; omega))
  have hc4_1 := fun o : Nat => hc4 (w.heap.size + 1) o (by first | omega | (simp; done) | (simp; omega))
  have hf4_1 := fun o : Nat => hf4 (w.heap.size + 1) o (by first | omega | (simp; done) | (simp; omega))
  have hc4_2 := fun o : Nat => hc4 (w.heap.size + 1 + 1) o (by first | omega | (simp; done) | (simp; omega))
  have hf4_2 := fun o : Nat => hf4 (w.heap.size + 1 + 1) o (by first | omega | (simp; done) | (simp; omega))
  clear hc4 hf4
  clear hb4
  go_wp2_with fail
  refine Calls.mono (numShl_calls (HA.out.zbelow HW4.out) sa L1.out O1.out) ?_
  rintro E w5 ⟨n5, v5, rfl, hv5, hg5, hb5⟩
  obtain ⟨hc5, hf5⟩ := bcell hb5
  have HW5 : Hid (Below w.heap.size w w5) := Lib.hid (by
    refine Below.trans ?_ (hb5.mono ?_)
    · (repeat (first | with_reducible exact HW4.out | refine Below.setCell (p := ⟨_, _, _⟩) ?_ (by first | omega | (simp; done) | (simp; omega)) _ | refine Below.alloc ?_ (by first | omega | (simp; done) | (simp; omega)) _ | refine Below.drew ?_ | refine below_dn ?_ _))
    · first | omega | (simp; done) | (simp; omega))
  have hS4_5 : Hid (SameB w.heap.size 3 w4 w5) := Lib.hid (by
    refine SameB.below ?_ hb5
    (repeat (first | with_reducible exact SameB.refl _ _ _ | refine SameB.setCell (p := ⟨_, _, _⟩) ?_ (by first | omega | (simp; done) | (simp; omega)) (by first | omega | (simp; done) | (simp; omega)) _ | refine SameB.setNew (p := ⟨_, _, _⟩) ?_ (by first | omega | (simp; done) | (simp; omega)) _ | refine SameB.alloc ?_ _ | refine SameB.drew ?_ | refine SameB.drewN ?_ _)))
  have hS0_5 := Lib.hid (hS0_4.out.trans hS4_5.out)
  have hS1_5 := Lib.hid (hS1_4.out.trans hS4_5.out)
  have hS2_5 := Lib.hid (hS2_4.out.trans hS4_5.out)
  have hS3_5 := Lib.hid (hS3_4.out.trans hS4_5.out)
  have hs5 : w.heap.size + 1 + 1 + 1 ≤ w5.heap.size := by have := hb5.size; (try simp at this); omega
  have hc5_0 := fun o : Nat => hc5 (w.heap.size) o (by first | omega | (simp; done) | (simp; omega))
  have hf5_0 := fun o : Nat => hf5 (w.heap.size) o (by first | omega | (simp; done) | (simp; omega))
  have hc5_1 := fun o : Nat => hc5 (w.heap.size + 1) o (by first | omega | (simp; done) | (simp; omega))
  have hf5_1 := fun o : Nat => hf5 (w.heap.size + 1) o (by first | omega | (simp; done) | (simp; omega))
  have hc5_2 := fun o : Nat => hc5 (w.heap.size + 1 + 1) o (by first | omega | (simp; done) | (simp; omega))
  have hf5_2 := fun o : Nat => hf5 (w.heap.size + 1 + 1) o (by first | omega | (simp; done) | (simp; omega))
  clear hc5 hf5
  clear hb5
  obtain ⟨A5, k5, c5, rfl, _, _, _⟩ := hv5.1.form
  have HV5 := Lib.hid hv5
  have HG5 : Hid (Ge (w.heap.size + 1 + 1 + 1) _) := Lib.hid (hg5.mono (by first | omega | (simp; done) | (simp; omega)))
  clear hv5 hg5
  unfold intV
  have hlt6_0 : w.heap.size < w5.heap.size := by omega
  have hne6_0 : ¬ (w.heap.size = w5.heap.size) := by omega
  have hen6_0 : ¬ (w5.heap.size = w.heap.size) := by omega
  have hlt6_1 : w.heap.size + 1 < w5.heap.size := by omega
  have hne6_1 : ¬ (w.heap.size + 1 = w5.heap.size) := by omega
  have hen6_1 : ¬ (w5.heap.size = w.heap.size + 1) := by omega
  have hlt6_2 : w.heap.size + 1 + 1 < w5.heap.size := by omega
  have hne6_2 : ¬ (w.heap.size + 1 + 1 = w5.heap.size) := by omega
  have hen6_2 : ¬ (w5.heap.size = w.heap.size + 1 + 1) := by omega
  go_wp2_with fail
  refine Calls.mono (numShl_calls (HB.out.zbelow (by (repeat (first | with_reducible exact HW5.out | refine Below.setCell (p := ⟨_, _, _⟩) ?_ (by first | omega | (simp; done) | (simp; omega)) _ | refine Below.alloc ?_ (by first | omega | (simp; done) | (simp; omega)) _ | refine Below.drew ?_ | refine below_dn ?_ _)))) sb L2.out O2.out) ?_
  rintro E w6 ⟨n6, v6, rfl, hv6, hg6, hb6⟩
  obtain ⟨hc6, hf6⟩ := bcell hb6
  have HW6 : Hid (Below w.heap.size w w6) := Lib.hid (by
    refine Below.trans ?_ (hb6.mono ?_)
    · (repeat (first | with_reducible exact HW5.out | refine Below.setCell (p := ⟨_, _, _⟩) ?_ (by first | omega | (simp; done) | (simp; omega)) _ | refine Below.alloc ?_ (by first | omega | (simp; done) | (simp; omega)) _ | refine Below.drew ?_ | refine below_dn ?_ _))
    · first | omega | (simp; done) | (simp; omega))
  have hS5_6 : Hid (SameB w.heap.size 3 w5 w6) := Lib.hid (by
    refine SameB.below ?_ hb6
    (repeat (first | with_reducible exact SameB.refl _ _ _ | refine SameB.setCell (p := ⟨_, _, _⟩) ?_ (by first | omega | (simp; done) | (simp; omega)) (by first | omega | (simp; done) | (simp; omega)) _ | refine SameB.setNew (p := ⟨_, _, _⟩) ?_ (by first | omega | (simp; done) | (simp; omega)) _ | refine SameB.alloc ?_ _ | refine SameB.drew ?_ | refine SameB.drewN ?_ _)))
  have hS0_6 := Lib.hid (hS0_5.out.trans hS5_6.out)
  have hS1_6 := Lib.hid (hS1_5.out.trans hS5_6.out)
  have hS2_6 := Lib.hid (hS2_5.out.trans hS5_6.out)
  have hS3_6 := Lib.hid (hS3_5.out.trans hS5_6.out)
  have hS4_6 := Lib.hid (hS4_5.out.trans hS5_6.out)
  have hs6 : w.heap.size + 1 + 1 + 1 ≤ w6.heap.size := by have := hb6.size; (try simp at this); omega
  have hc6_0 := fun o : Nat => hc6 (w.heap.size) o (by first | omega | (simp; done) | (simp; omega))
  have hf6_0 := fun o : Nat => hf6 (w.heap.size) o (by first | omega | (simp; done) | (simp; omega))
  have hc6_1 := fun o : Nat => hc6 (w.heap.size + 1) o (by first | omega | (simp; done) | (simp; omega))
  have hf6_1 := fun o : Nat => hf6 (w.heap.size + 1) o (by first | omega | (simp; done) | (simp; omega))
  have hc6_2 := fun o : Nat => hc6 (w.heap.size + 1 + 1) o (by first | omega | (simp; done) | (simp; omega))
  have hf6_2 := fun o : Nat => hf6 (w.heap.size + 1 + 1) o (by first | omega | (simp; done) | (simp; omega))
  have hsx6_0 : w5.heap.size + 1 ≤ w6.heap.size := by have := hb6.size; (try simp at this); omega
  have hx6_0 := fun o : Nat => hc6 (w5.heap.size) o (by first | omega | (simp; done) | (simp; omega))
  have hxf6_0 := fun o : Nat => hf6 (w5.heap.size) o (by first | omega | (simp; done) | (simp; omega))
  clear hc6 hf6
  clear hb6
  obtain ⟨A6, k6, c6, rfl, _, _, _⟩ := hv6.1.form
  have HV6 := Lib.hid hv6
  have HG6 : Hid (Ge (w.heap.size + 1 + 1 + 1) _) := Lib.hid (hg6.mono (by first | omega | (simp; done) | (simp; omega)))
  clear hv6 hg6
  unfold intV
  have hlt7_0 : w.heap.size < w6.heap.size := by omega
  have hne7_0 : ¬ (w.heap.size = w6.heap.size) := by omega
  have hen7_0 : ¬ (w6.heap.size = w.heap.size) := by omega
  have hlt7_1 : w.heap.size + 1 < w6.heap.size := by omega
  have hne7_1 : ¬ (w.heap.size + 1 = w6.heap.size) := by omega
  have hen7_1 : ¬ (w6.heap.size = w.heap.size + 1) := by omega
  have hlt7_2 : w.heap.size + 1 + 1 < w6.heap.size := by omega
  have hne7_2 : ¬ (w.heap.size + 1 + 1 = w6.heap.size) := by omega
  have hen7_2 : ¬ (w6.heap.size = w.heap.size + 1 + 1) := by omega
  have hlt7_3 : w5.heap.size < w6.heap.size := by omega
  have hne7_3 : ¬ (w5.heap.size = w6.heap.size) := by omega
  have hen7_3 : ¬ (w6.heap.size = w5.heap.size) := by omega
  go_wp2_with fail
  refine Calls.mono (numAdd_calls (HV5.out.same_ge (N := w.heap.size) (n := 3) HG5.out (by omega) (by (refine SameB.trans hS5_6.out ?_; (repeat (first | with_reducible exact SameB.refl _ _ _ | refine SameB.setCell (p := ⟨_, _, _⟩) ?_ (by first | omega | (simp; done) | (simp; omega)) (by first | omega | (simp; done) | (simp; omega)) _ | refine SameB.setNew (p := ⟨_, _, _⟩) ?_ (by first | omega | (simp; done) | (simp; omega)) _ | refine SameB.alloc ?_ _ | refine SameB.drew ?_ | refine SameB.drewN ?_ _))))) (HV6.out.same_ge (N := w.heap.size) (n := 3) HG6.out (by omega) (by (repeat (first | with_reducible exact SameB.refl _ _ _ | refine SameB.setCell (p := ⟨_, _, _⟩) ?_ (by first | omega | (simp; done) | (simp; omega)) (by first | omega | (simp; done) | (simp; omega)) _ | refine SameB.setNew (p := ⟨_, _, _⟩) ?_ (by first | omega | (simp; done) | (simp; omega)) _ | refine SameB.alloc ?_ _ | refine SameB.drew ?_ | refine SameB.drewN ?_ _)))) O3.out) ?_
  rintro E w7 ⟨n7, v7, rfl, hv7, hg7, hb7⟩
  obtain ⟨hc7, hf7⟩ := bcell hb7
  have HW7 : Hid (Below w.heap.size w w7) := Lib.hid (by
    refine Below.trans ?_ (hb7.mono ?_)
    · (repeat (first | with_reducible exact HW6.out | refine Below.setCell (p := ⟨_, _, _⟩) ?_ (by first | omega | (simp; done) | (simp; omega)) _ | refine Below.alloc ?_ (by first | omega | (simp; done) | (simp; omega)) _ | refine Below.drew ?_ | refine below_dn ?_ _))
    · first | omega | (simp; done) | (simp; omega))
  have hS6_7 : Hid (SameB w.heap.size 3 w6 w7) := Lib.hid (by
    refine SameB.below ?_ hb7
    (repeat (first | with_reducible exact SameB.refl _ _ _ | refine SameB.setCell (p := ⟨_, _, _⟩) ?_ (by first | omega | (simp; done) | (simp; omega)) (by first | omega | (simp; done) | (simp; omega)) _ | refine SameB.setNew (p := ⟨_, _, _⟩) ?_ (by first | omega | (simp; done) | (simp; omega)) _ | refine SameB.alloc ?_ _ | refine SameB.drew ?_ | refine SameB.drewN ?_ _)))
  have hS0_7 := Lib.hid (hS0_6.out.trans hS6_7.out)
  have hS1_7 := Lib.hid (hS1_6.out.trans hS6_7.out)
  have hS2_7 := Lib.hid (hS2_6.out.trans hS6_7.out)
  have hS3_7 := Lib.hid (hS3_6.out.trans hS6_7.out)
  have hS4_7 := Lib.hid (hS4_6.out.trans hS6_7.out)
  have hS5_7 := Lib.hid (hS5_6.out.trans hS6_7.out)
  have hs7 : w.heap.size + 1 + 1 + 1 ≤ w7.heap.size := by have := hb7.size; (try simp at this); omega
  have hc7_0 := fun o : Nat => hc7 (w.heap.size) o (by first | omega | (simp; done) | (simp; omega))
  have hf7_0 := fun o : Nat => hf7 (w.heap.size) o (by first | omega | (simp; done) | (simp; omega))
  have hc7_1 := fun o : Nat => hc7 (w.heap.size + 1) o (by first | omega | (simp; done) | (simp; omega))
  have hf7_1 := fun o : Nat => hf7 (w.heap.size + 1) o (by first | omega | (simp; done) | (simp; omega))
  have hc7_2 := fun o : Nat => hc7 (w.heap.size + 1 + 1) o (by first | omega | (simp; done) | (simp; omega))
  have hf7_2 := fun o : Nat => hf7 (w.heap.size + 1 + 1) o (by first | omega | (simp; done) | (simp; omega))
  have hsx7_0 : w5.heap.size + 1 ≤ w7.heap.size := by have := hb7.size; (try simp at this); omega
  have hx7_0 := fun o : Nat => hc7 (w5.heap.size) o (by first | omega | (simp; done) | (simp; omega))
  have hxf7_0 := fun o : Nat => hf7 (w5.heap.size) o (by first | omega | (simp; done) | (simp; omega))
  have hsx7_1 : w6.heap.size + 1 ≤ w7.heap.size := by have := hb7.size; (try simp at this); omega
  have hx7_1 := fun o : Nat => hc7 (w6.heap.size) o (by first | omega | (simp; done) | (simp; omega))
  have hxf7_1 := fun o : Nat => hf7 (w6.heap.size) o (by first | omega | (simp; done) | (simp; omega))
  clear hc7 hf7
  clear hb7
  obtain ⟨A7, k7, c7, rfl, _, _, _⟩ := hv7.1.form
  have HV7 := Lib.hid hv7
  have HG7 : Hid (Ge (w.heap.size + 1 + 1 + 1) _) := Lib.hid (hg7.mono (by first | omega | (simp; done) | (simp; omega)))
  clear hv7 hg7
  unfold intV
  have hlt8_0 : w.heap.size < w7.heap.size := by omega
  have hne8_0 : ¬ (w.heap.size = w7.heap.size) := by omega
  have hen8_0 : ¬ (w7.heap.size = w.heap.size) := by omega
  have hlt8_1 : w.heap.size + 1 < w7.heap.size := by omega
  have hne8_1 : ¬ (w.heap.size + 1 = w7.heap.size) := by omega
  have hen8_1 : ¬ (w7.heap.size = w.heap.size + 1) := by omega
  have hlt8_2 : w.heap.size + 1 + 1 < w7.heap.size := by omega
  have hne8_2 : ¬ (w.heap.size + 1 + 1 = w7.heap.size) := by omega
  have hen8_2 : ¬ (w7.heap.size = w.heap.size + 1 + 1) := by omega
  go_wp2_with fail
  refine Calls.mono (dyMake_calls (HV7.out.same_ge (N := w.heap.size) (n := 3) HG7.out (by omega) (by (repeat (first | with_reducible exact SameB.refl _ _ _ | refine SameB.setCell (p := ⟨_, _, _⟩) ?_ (by first | omega | (simp; done) | (simp; omega)) (by first | omega | (simp; done) | (simp; omega)) _ | refine SameB.setNew (p := ⟨_, _, _⟩) ?_ (by first | omega | (simp; done) | (simp; omega)) _ | refine SameB.alloc ?_ _ | refine SameB.drew ?_ | refine SameB.drewN ?_ _)))) mn (HT.out.below (by (repeat (first | with_reducible exact HW7.out | refine Below.setCell (p := ⟨_, _, _⟩) ?_ (by first | omega | (simp; done) | (simp; omega)) _ | refine Below.alloc ?_ (by first | omega | (simp; done) | (simp; omega)) _ | refine Below.drew ?_ | refine below_dn ?_ _)))) O4.out) ?_
  rintro E w8 ⟨n8, v8, rfl, hv8, hg8, hb8⟩
  obtain ⟨hc8, hf8⟩ := bcell hb8
  have HW8 : Hid (Below w.heap.size w w8) := Lib.hid (by
    refine Below.trans ?_ (hb8.mono ?_)
    · (repeat (first | with_reducible exact HW7.out | refine Below.setCell (p := ⟨_, _, _⟩) ?_ (by first | omega | (simp; done) | (simp; omega)) _ | refine Below.alloc ?_ (by first | omega | (simp; done) | (simp; omega)) _ | refine Below.drew ?_ | refine below_dn ?_ _))
    · first | omega | (simp; done) | (simp; omega))
  have hS7_8 : Hid (SameB w.heap.size 3 w7 w8) := Lib.hid (by
    refine SameB.below ?_ hb8
    (repeat (first | with_reducible exact SameB.refl _ _ _ | refine SameB.setCell (p := ⟨_, _, _⟩) ?_ (by first | omega | (simp; done) | (simp; omega)) (by first | omega | (simp; done) | (simp; omega)) _ | refine SameB.setNew (p := ⟨_, _, _⟩) ?_ (by first | omega | (simp; done) | (simp; omega)) _ | refine SameB.alloc ?_ _ | refine SameB.drew ?_ | refine SameB.drewN ?_ _)))
  have hS0_8 := Lib.hid (hS0_7.out.trans hS7_8.out)
  have hS1_8 := Lib.hid (hS1_7.out.trans hS7_8.out)
  have hS2_8 := Lib.hid (hS2_7.out.trans hS7_8.out)
  have hS3_8 := Lib.hid (hS3_7.out.trans hS7_8.out)
  have hS4_8 := Lib.hid (hS4_7.out.trans hS7_8.out)
  have hS5_8 := Lib.hid (hS5_7.out.trans hS7_8.out)
  have hS6_8 := Lib.hid (hS6_7.out.trans hS7_8.out)
  have hs8 : w.heap.size + 1 + 1 + 1 ≤ w8.heap.size := by have := hb8.size; (try simp at this); omega
  have hc8_0 := fun o : Nat => hc8 (w.heap.size) o (by first | omega | (simp; done) | (simp; omega))
  have hf8_0 := fun o : Nat => hf8 (w.heap.size) o (by first | omega | (simp; done) | (simp; omega))
  have hc8_1 := fun o : Nat => hc8 (w.heap.size + 1) o (by first | omega | (simp; done) | (simp; omega))
  have hf8_1 := fun o : Nat => hf8 (w.heap.size + 1) o (by first | omega | (simp; done) | (simp; omega))
  have hc8_2 := fun o : Nat => hc8 (w.heap.size + 1 + 1) o (by first | omega | (simp; done) | (simp; omega))
  have hf8_2 := fun o : Nat => hf8 (w.heap.size + 1 + 1) o (by first | omega | (simp; done) | (simp; omega))
  have hsx8_0 : w7.heap.size + 1 ≤ w8.heap.size := by have := hb8.size; (try simp at this); omega
  have hx8_0 := fun o : Nat => hc8 (w7.heap.size) o (by first | omega | (simp; done) | (simp; omega))
  have hxf8_0 := fun o : Nat => hf8 (w7.heap.size) o (by first | omega | (simp; done) | (simp; omega))
  clear hc8 hf8
  clear hb8
  obtain ⟨A8, k8, c8, rfl, _, _, _⟩ := hv8.nat.form
  have HV8 := Lib.hid hv8
  have HG8 : Hid (Ge (w.heap.size + 1 + 1 + 1) _) := Lib.hid (hg8.mono (by first | omega | (simp; done) | (simp; omega)))
  clear hv8 hg8
  generalize dyE (ma * 2 ^ sa + mb * 2 ^ sb) mn = re at *
  generalize dyM (ma * 2 ^ sa + mb * 2 ^ sb) = rm at *
  unfold dyV
  go_wp2_with fail
  refine bodyPost_ret (v := .tuple #[dyV n8 (.slice A8 k8 c8) re, .int .i64 0]) (by simp [results, Tryd.results48, go_sem, intV, dyV, hc1_0, hf1_0, hc1_1, hf1_1, hc1_2, hf1_2, hc2_0, hf2_0, hc2_1, hf2_1, hc2_2, hf2_2, hc3_0, hf3_0, hc3_1, hf3_1, hc3_2, hf3_2, hc4_0, hf4_0, hc4_1, hf4_1, hc4_2, hf4_2, hc5_0, hf5_0, hc5_1, hf5_1, hc5_2, hf5_2, hc6_0, hf6_0, hc6_1, hf6_1, hc6_2, hf6_2, hc7_0, hf7_0, hc7_1, hf7_1, hc7_2, hf7_2, hc8_0, hf8_0, hc8_1, hf8_1, hc8_2, hf8_2, hlt6_0, hne6_0, hen6_0, hlt6_1, hne6_1, hen6_1, hlt6_2, hne6_2, hen6_2, hx6_0, hxf6_0, hlt7_0, hne7_0, hen7_0, hlt7_1, hne7_1, hen7_1, hlt7_2, hne7_2, hen7_2, hlt7_3, hne7_3, hen7_3, hx7_0, hxf7_0, hx7_1, hxf7_1, hlt8_0, hne8_0, hen8_0, hlt8_1, hne8_1, hen8_1, hlt8_2, hne8_2, hen8_2, hx8_0, hxf8_0]) rfl ?_
  exact ⟨n8, _, rfl, (HV8.out.same_ge (N := w.heap.size) (n := 3) HG8.out (by omega) (by (repeat (first | with_reducible exact SameB.refl _ _ _ | refine SameB.setCell (p := ⟨_, _, _⟩) ?_ (by first | omega | (simp; done) | (simp; omega)) (by first | omega | (simp; done) | (simp; omega)) _ | refine SameB.setNew (p := ⟨_, _, _⟩) ?_ (by first | omega | (simp; done) | (simp; omega)) _ | refine SameB.alloc ?_ _ | refine SameB.drew ?_ | refine SameB.drewN ?_ _)))), HG8.out.mono (by omega), by (repeat (first | with_reducible exact HW8.out | refine Below.setCell (p := ⟨_, _, _⟩) ?_ (by first | omega | (simp; done) | (simp; omega)) _ | refine Below.alloc ?_ (by first | omega | (simp; done) | (simp; omega)) _ | refine Below.drew ?_ | refine below_dn ?_ _))⟩

end Go.Proofs.YtgihapdlliidgaaDoor
