/- The walks of package binary, on. -/
import Derived.Test.YtgihapdlliidgaaDoorBin
namespace Go.Proofs.YtgihapdlliidgaaDoor
open Go Go.RowKit
set_option linter.unusedVariables false
set_option linter.unusedSimpArgs false

/-- the number of a finite pattern: man with its sign, and the exponent -/
def pInt (b : Nat) : Int := if pNeg b = true then -(pMan (pSz b) : Int) else (pMan (pSz b) : Int)

set_option maxRecDepth 100000 in
set_option maxHeartbeats 3200000 in
theorem binNumber_calls (neg : Bool) (m : Nat) (e : Int) (hm : m < B64) (w : World) (hT : Tab w) (hk : MkOk (if neg = true then -(m : Int) else (m : Int)) e) :
    Calls Tryd.prog 66 #[.bool neg, .int .u64 m, .int .i64 e] w (DRes w (dyM (if neg = true then -(m : Int) else (m : Int))) (dyE (if neg = true then -(m : Int) else (m : Int)) e)) := by
  have HT := Lib.hid hT
  have HM := Lib.hid hm
  have HK := Lib.hid hk
  have hbe : (neg && !((m : Int) == 0)) = (neg && decide (m ≠ 0)) := by
    congr 1
    by_cases h0 : m = 0
    · subst h0; rfl
    · rw [decide_eq_true h0]
      have : ((m : Int) == 0) = false := by rw [beq_eq_false_iff_ne]; omega
      rw [this]; rfl
  have hbe2 : (neg && ((m : Int) != 0)) = (neg && decide (m ≠ 0)) := hbe
  have HR : Hid (∀ w' v', IsNat w' v' m → Spot v' → IsZ w' (neg && decide (m ≠ 0)) v' (if neg = true then -(m : Int) else (m : Int))) := Lib.hid fun w' v' hv hsp => IsZ.mk_mag hv hsp
  generalize (if neg = true then -(m : Int) else (m : Int)) = z at *
  generalize (neg && decide (m ≠ 0)) = ng at *
  clear hT hk hm
  cases neg
  · rw [Bool.false_and] at hbe hbe2
    subst hbe
    clear hbe2
    have HW0 : Hid (Below w.heap.size w w) := Lib.hid (Below.refl _ _)
    go_enter Tryd.func66, Tryd.ntmps66
    go_wp2_with fail
    refine Calls.mono (natWord_calls m HM.out _) ?_
    rintro E w1 ⟨v1, rfl, hv1, hg1, hb1⟩
    obtain ⟨hc1, hf1⟩ := bcell hb1
    have HW1 : Hid (Below w.heap.size w w1) := Lib.hid (by
      refine Below.trans ?_ (hb1.mono ?_)
      · (repeat (first | with_reducible exact HW0.out | refine Below.setCell (p := ⟨_, _, _⟩) ?_ (by first | omega | (simp; done) | (simp; omega)) _ | refine Below.alloc ?_ (by first | omega | (simp; done) | (simp; omega)) _ | refine Below.drew ?_ | refine below_dn ?_ _))
      · first | omega | (simp; done) | (simp; omega))
    have hS0_1 : Hid (SameB w.heap.size 1 w w1) := Lib.hid (by
      refine SameB.below ?_ hb1
      (repeat (first | with_reducible exact SameB.refl _ _ _ | refine SameB.setCell (p := ⟨_, _, _⟩) ?_ (by first | omega | (simp; done) | (simp; omega)) (by first | omega | (simp; done) | (simp; omega)) _ | refine SameB.setNew (p := ⟨_, _, _⟩) ?_ (by first | omega | (simp; done) | (simp; omega)) _ | refine SameB.alloc ?_ _ | refine SameB.drew ?_ | refine SameB.drewN ?_ _)))
    have hs1 : w.heap.size + 1 ≤ w1.heap.size := by have := hb1.size; (try simp at this); omega
    have hc1_0 := fun o : Nat => hc1 (w.heap.size) o (by first | omega | (simp; done) | (simp; omega))
    have hf1_0 := fun o : Nat => hf1 (w.heap.size) o (by first | omega | (simp; done) | (simp; omega))
    clear hc1 hf1
    clear hb1
    obtain ⟨A1, k1, c1, rfl, _, _, _⟩ := hv1.form
    have HV1 := Lib.hid hv1
    have HG1 : Hid (Ge (w.heap.size + 1) _) := Lib.hid (hg1.mono (by first | omega | (simp; done) | (simp; omega)))
    clear hv1 hg1
    go_wp2_with fail
    refine Calls.mono (dyMake_calls (HR.out _ _ HV1.out HG1.out.spot) e (HT.out.below HW1.out) HK.out) ?_
    rintro E w2 ⟨n2, v2, rfl, hv2, hg2, hb2⟩
    obtain ⟨hc2, hf2⟩ := bcell hb2
    have HW2 : Hid (Below w.heap.size w w2) := Lib.hid (by
      refine Below.trans ?_ (hb2.mono ?_)
      · (repeat (first | with_reducible exact HW1.out | refine Below.setCell (p := ⟨_, _, _⟩) ?_ (by first | omega | (simp; done) | (simp; omega)) _ | refine Below.alloc ?_ (by first | omega | (simp; done) | (simp; omega)) _ | refine Below.drew ?_ | refine below_dn ?_ _))
      · first | omega | (simp; done) | (simp; omega))
    have hS1_2 : Hid (SameB w.heap.size 1 w1 w2) := Lib.hid (by
      refine SameB.below ?_ hb2
      (repeat (first | with_reducible exact SameB.refl _ _ _ | refine SameB.setCell (p := ⟨_, _, _⟩) ?_ (by first | omega | (simp; done) | (simp; omega)) (by first | omega | (simp; done) | (simp; omega)) _ | refine SameB.setNew (p := ⟨_, _, _⟩) ?_ (by first | omega | (simp; done) | (simp; omega)) _ | refine SameB.alloc ?_ _ | refine SameB.drew ?_ | refine SameB.drewN ?_ _)))
    have hS0_2 := Lib.hid (hS0_1.out.trans hS1_2.out)
    have hs2 : w.heap.size + 1 ≤ w2.heap.size := by have := hb2.size; (try simp at this); omega
    have hc2_0 := fun o : Nat => hc2 (w.heap.size) o (by first | omega | (simp; done) | (simp; omega))
    have hf2_0 := fun o : Nat => hf2 (w.heap.size) o (by first | omega | (simp; done) | (simp; omega))
    clear hc2 hf2
    clear hb2
    obtain ⟨A2, k2, c2, rfl, _, _, _⟩ := hv2.nat.form
    have HV2 := Lib.hid hv2
    have HG2 : Hid (Ge (w.heap.size + 1) _) := Lib.hid (hg2.mono (by first | omega | (simp; done) | (simp; omega)))
    clear hv2 hg2
    generalize dyE z e = re at *
    generalize dyM z = rm at *
    unfold dyV
    go_wp2_with fail
    refine bodyPost_ret (v := .tuple #[dyV n2 (.slice A2 k2 c2) re, .int .i64 0]) (by simp [results, Tryd.results66, go_sem, intV, dyV, hc1_0, hf1_0, hc2_0, hf2_0]) rfl ?_
    exact ⟨n2, _, rfl, (HV2.out.same_ge (N := w.heap.size) (n := 1) HG2.out (by omega) (by (repeat (first | with_reducible exact SameB.refl _ _ _ | refine SameB.setCell (p := ⟨_, _, _⟩) ?_ (by first | omega | (simp; done) | (simp; omega)) (by first | omega | (simp; done) | (simp; omega)) _ | refine SameB.setNew (p := ⟨_, _, _⟩) ?_ (by first | omega | (simp; done) | (simp; omega)) _ | refine SameB.alloc ?_ _ | refine SameB.drew ?_ | refine SameB.drewN ?_ _)))), HG2.out.mono (by omega), by (repeat (first | with_reducible exact HW2.out | refine Below.setCell (p := ⟨_, _, _⟩) ?_ (by first | omega | (simp; done) | (simp; omega)) _ | refine Below.alloc ?_ (by first | omega | (simp; done) | (simp; omega)) _ | refine Below.drew ?_ | refine below_dn ?_ _))⟩
  · rw [Bool.true_and] at hbe hbe2
    have HW0 : Hid (Below w.heap.size w w) := Lib.hid (Below.refl _ _)
    go_enter Tryd.func66, Tryd.ntmps66
    go_wp2_with fail
    refine Calls.mono (natWord_calls m HM.out _) ?_
    rintro E w1 ⟨v1, rfl, hv1, hg1, hb1⟩
    obtain ⟨hc1, hf1⟩ := bcell hb1
    have HW1 : Hid (Below w.heap.size w w1) := Lib.hid (by
      refine Below.trans ?_ (hb1.mono ?_)
      · (repeat (first | with_reducible exact HW0.out | refine Below.setCell (p := ⟨_, _, _⟩) ?_ (by first | omega | (simp; done) | (simp; omega)) _ | refine Below.alloc ?_ (by first | omega | (simp; done) | (simp; omega)) _ | refine Below.drew ?_ | refine below_dn ?_ _))
      · first | omega | (simp; done) | (simp; omega))
    have hS0_1 : Hid (SameB w.heap.size 1 w w1) := Lib.hid (by
      refine SameB.below ?_ hb1
      (repeat (first | with_reducible exact SameB.refl _ _ _ | refine SameB.setCell (p := ⟨_, _, _⟩) ?_ (by first | omega | (simp; done) | (simp; omega)) (by first | omega | (simp; done) | (simp; omega)) _ | refine SameB.setNew (p := ⟨_, _, _⟩) ?_ (by first | omega | (simp; done) | (simp; omega)) _ | refine SameB.alloc ?_ _ | refine SameB.drew ?_ | refine SameB.drewN ?_ _)))
    have hs1 : w.heap.size + 1 ≤ w1.heap.size := by have := hb1.size; (try simp at this); omega
    have hc1_0 := fun o : Nat => hc1 (w.heap.size) o (by first | omega | (simp; done) | (simp; omega))
    have hf1_0 := fun o : Nat => hf1 (w.heap.size) o (by first | omega | (simp; done) | (simp; omega))
    clear hc1 hf1
    clear hb1
    obtain ⟨A1, k1, c1, rfl, _, _, _⟩ := hv1.form
    have HV1 := Lib.hid hv1
    have HG1 : Hid (Ge (w.heap.size + 1) _) := Lib.hid (hg1.mono (by first | omega | (simp; done) | (simp; omega)))
    clear hv1 hg1
    go_wp2_with fail
    refine Calls.mono (dyMake_calls (HR.out _ _ HV1.out HG1.out.spot) e (HT.out.below HW1.out) HK.out) ?_
    rintro E w2 ⟨n2, v2, rfl, hv2, hg2, hb2⟩
    obtain ⟨hc2, hf2⟩ := bcell hb2
    have HW2 : Hid (Below w.heap.size w w2) := Lib.hid (by
      refine Below.trans ?_ (hb2.mono ?_)
      · (repeat (first | with_reducible exact HW1.out | refine Below.setCell (p := ⟨_, _, _⟩) ?_ (by first | omega | (simp; done) | (simp; omega)) _ | refine Below.alloc ?_ (by first | omega | (simp; done) | (simp; omega)) _ | refine Below.drew ?_ | refine below_dn ?_ _))
      · first | omega | (simp; done) | (simp; omega))
    have hS1_2 : Hid (SameB w.heap.size 1 w1 w2) := Lib.hid (by
      refine SameB.below ?_ hb2
      (repeat (first | with_reducible exact SameB.refl _ _ _ | refine SameB.setCell (p := ⟨_, _, _⟩) ?_ (by first | omega | (simp; done) | (simp; omega)) (by first | omega | (simp; done) | (simp; omega)) _ | refine SameB.setNew (p := ⟨_, _, _⟩) ?_ (by first | omega | (simp; done) | (simp; omega)) _ | refine SameB.alloc ?_ _ | refine SameB.drew ?_ | refine SameB.drewN ?_ _)))
    have hS0_2 := Lib.hid (hS0_1.out.trans hS1_2.out)
    have hs2 : w.heap.size + 1 ≤ w2.heap.size := by have := hb2.size; (try simp at this); omega
    have hc2_0 := fun o : Nat => hc2 (w.heap.size) o (by first | omega | (simp; done) | (simp; omega))
    have hf2_0 := fun o : Nat => hf2 (w.heap.size) o (by first | omega | (simp; done) | (simp; omega))
    clear hc2 hf2
    clear hb2
    obtain ⟨A2, k2, c2, rfl, _, _, _⟩ := hv2.nat.form
    have HV2 := Lib.hid hv2
    have HG2 : Hid (Ge (w.heap.size + 1) _) := Lib.hid (hg2.mono (by first | omega | (simp; done) | (simp; omega)))
    clear hv2 hg2
    generalize dyE z e = re at *
    generalize dyM z = rm at *
    unfold dyV
    go_wp2_with fail
    refine bodyPost_ret (v := .tuple #[dyV n2 (.slice A2 k2 c2) re, .int .i64 0]) (by simp [results, Tryd.results66, go_sem, intV, dyV, hc1_0, hf1_0, hc2_0, hf2_0]) rfl ?_
    exact ⟨n2, _, rfl, (HV2.out.same_ge (N := w.heap.size) (n := 1) HG2.out (by omega) (by (repeat (first | with_reducible exact SameB.refl _ _ _ | refine SameB.setCell (p := ⟨_, _, _⟩) ?_ (by first | omega | (simp; done) | (simp; omega)) (by first | omega | (simp; done) | (simp; omega)) _ | refine SameB.setNew (p := ⟨_, _, _⟩) ?_ (by first | omega | (simp; done) | (simp; omega)) _ | refine SameB.alloc ?_ _ | refine SameB.drew ?_ | refine SameB.drewN ?_ _)))), HG2.out.mono (by omega), by (repeat (first | with_reducible exact HW2.out | refine Below.setCell (p := ⟨_, _, _⟩) ?_ (by first | omega | (simp; done) | (simp; omega)) _ | refine Below.alloc ?_ (by first | omega | (simp; done) | (simp; omega)) _ | refine Below.drew ?_ | refine below_dn ?_ _))⟩

end Go.Proofs.YtgihapdlliidgaaDoor
