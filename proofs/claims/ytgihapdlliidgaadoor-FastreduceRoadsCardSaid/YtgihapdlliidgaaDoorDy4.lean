/- The walk of dyadic.Cmp. -/
import Derived.Test.YtgihapdlliidgaaDoorDy3
namespace Go.Proofs.YtgihapdlliidgaaDoor
open Go Go.RowKit
set_option linter.unusedVariables false
set_option linter.unusedSimpArgs false

/-- how two dyadics compare -/
def dyCmp (ma ea mb eb : Int) : Int := if ma.sign < mb.sign then -1 else if ma.sign > mb.sign then 1 else if ma.sign = 0 then 0 else ma.sign * dySize ma ea mb eb

theorem dySize_range (ma ea mb eb : Int) : -1 ≤ dySize ma ea mb eb ∧ dySize ma ea mb eb ≤ 1 := by
  unfold dySize cmpN
  repeat' split
  all_goals omega

set_option maxRecDepth 100000 in
set_option maxHeartbeats 12800000 in
theorem dyCmp_calls {w : World} {na nb : Bool} {a b : Value} {ma ea mb eb : Int} (ha : IsDy w na a ea ma) (hb : IsDy w nb b eb mb) (o1 : ma.natAbs * 2 ^ (ea - min ea eb).toNat < LIM) (o2 : mb.natAbs * 2 ^ (eb - min ea eb).toNat < LIM) :
    Calls Tryd.prog 29 #[dyV na a ea, dyV nb b eb] w fun E w' => E = .returned (.tuple #[.int .i64 (dyCmp ma ea mb eb), .int .i64 0]) ∧ Below w.heap.size w w' := by
  obtain ⟨Aa, ka, ca, rfl, x, y, z⟩ := ha.nat.form
  clear x y z
  obtain ⟨Ab, kb, cb, rfl, x, y, z⟩ := hb.nat.form
  clear x y z
  have HA := Lib.hid ha
  have HB := Lib.hid hb
  have HSa : Hid (∀ w0, IsZ w0 na (.slice Aa ka ca) ma → Calls Tryd.prog 53 #[intV na (.slice Aa ka ca)] w0 fun E w' => E = .returned (.int .i64 ma.sign) ∧ Below w0.heap.size w0 w') := Lib.hid fun w0 h => numSign_calls h
  have HSb : Hid (∀ w0, IsZ w0 nb (.slice Ab kb cb) mb → Calls Tryd.prog 53 #[intV nb (.slice Ab kb cb)] w0 fun E w' => E = .returned (.int .i64 mb.sign) ∧ Below w0.heap.size w0 w') := Lib.hid fun w0 h => numSign_calls h
  have HZ : Hid (∀ w0, IsDy w0 na (.slice Aa ka ca) ea ma → IsDy w0 nb (.slice Ab kb cb) eb mb → Calls Tryd.prog 54 #[dyV na (.slice Aa ka ca) ea, dyV nb (.slice Ab kb cb) eb] w0 fun E w' => E = .returned (.int .i64 (dySize ma ea mb eb)) ∧ Below w0.heap.size w0 w') := Lib.hid fun w0 h k => dySize_calls h k o1 o2
  have hc : dyCmp ma ea mb eb = if ma.sign < mb.sign then -1 else if ma.sign > mb.sign then 1 else if ma.sign = 0 then 0 else ma.sign * dySize ma ea mb eb := rfl
  have hr := dySize_range ma ea mb eb
  have hs : ma.sign = -1 ∨ ma.sign = 0 ∨ ma.sign = 1 := by
    rcases Int.lt_trichotomy ma 0 with h | h | h
    · left; exact Int.sign_eq_neg_one_of_neg h
    · right; left; rw [h]; rfl
    · right; right; exact Int.sign_eq_one_of_pos h
  generalize dyCmp ma ea mb eb = rc at *
  generalize ma.sign = sa at *
  generalize mb.sign = sb at *
  generalize dySize ma ea mb eb = sz at *
  clear ha hb o1 o2
  rcases Int.lt_trichotomy sa sb with hlt | heq | hgt
  · have e0 : rc = -1 := by rw [hc, if_pos hlt]
    rw [e0]
    clear hc e0 hs hr HZ
    unfold dyV intV at *
    have HW0 : Hid (Below w.heap.size w w) := Lib.hid (Below.refl _ _)
    go_enter Tryd.func29, Tryd.ntmps29
    go_wp2_with fail
    refine Calls.mono (dyForm_calls (HA.out.below (by (repeat (first | with_reducible exact HW0.out | refine Below.setCell (p := ⟨_, _, _⟩) ?_ (by first | omega | (simp; done) | (simp; omega)) _ | refine Below.alloc ?_ (by first | omega | (simp; done) | (simp; omega)) _ | refine Below.drew ?_ | refine below_dn ?_ _))))) ?_
    rintro E w1 ⟨rfl, hb1⟩
    obtain ⟨hc1, hf1⟩ := bcell hb1
    have HW1 : Hid (Below w.heap.size w w1) := Lib.hid (by
      refine Below.trans ?_ (hb1.mono ?_)
      · (repeat (first | with_reducible exact HW0.out | refine Below.setCell (p := ⟨_, _, _⟩) ?_ (by first | omega | (simp; done) | (simp; omega)) _ | refine Below.alloc ?_ (by first | omega | (simp; done) | (simp; omega)) _ | refine Below.drew ?_ | refine below_dn ?_ _))
      · first | omega | (simp; done) | (simp; omega))
    have hS0_1 : Hid (SameB w.heap.size 2 w w1) := Lib.hid (by
      refine SameB.below ?_ hb1
      (repeat (first | with_reducible exact SameB.refl _ _ _ | refine SameB.setCell (p := ⟨_, _, _⟩) ?_ (by first | omega | (simp; done) | (simp; omega)) (by first | omega | (simp; done) | (simp; omega)) _ | refine SameB.setNew (p := ⟨_, _, _⟩) ?_ (by first | omega | (simp; done) | (simp; omega)) _ | refine SameB.alloc ?_ _ | refine SameB.drew ?_ | refine SameB.drewN ?_ _)))
    have hs1 : w.heap.size + 1 + 1 ≤ w1.heap.size := by have := hb1.size; (try simp at this); omega
    have hc1_0 := fun o : Nat => hc1 (w.heap.size) o (by first | omega | (simp; done) | (simp; omega))
    have hf1_0 := fun o : Nat => hf1 (w.heap.size) o (by first | omega | (simp; done) | (simp; omega))
    have hc1_1 := fun o : Nat => hc1 (w.heap.size + 1) o (by first | omega | (simp; done) | (simp; omega))
    have hf1_1 := fun o : Nat => hf1 (w.heap.size + 1) o (by first | omega | (simp; done) | (simp; omega))
    clear hc1 hf1
    clear hb1
    go_wp2_with fail
    refine Calls.mono (dyForm_calls (HB.out.below HW1.out)) ?_
    rintro E w2 ⟨rfl, hb2⟩
    obtain ⟨hc2, hf2⟩ := bcell hb2
    have HW2 : Hid (Below w.heap.size w w2) := Lib.hid (by
      refine Below.trans ?_ (hb2.mono ?_)
      · (repeat (first | with_reducible exact HW1.out | refine Below.setCell (p := ⟨_, _, _⟩) ?_ (by first | omega | (simp; done) | (simp; omega)) _ | refine Below.alloc ?_ (by first | omega | (simp; done) | (simp; omega)) _ | refine Below.drew ?_ | refine below_dn ?_ _))
      · first | omega | (simp; done) | (simp; omega))
    have hS1_2 : Hid (SameB w.heap.size 2 w1 w2) := Lib.hid (by
      refine SameB.below ?_ hb2
      (repeat (first | with_reducible exact SameB.refl _ _ _ | refine SameB.setCell (p := ⟨_, _, _⟩) ?_ (by first | omega | (simp; done) | (simp; omega)) (by first | omega | (simp; done) | (simp; omega)) _ | refine SameB.setNew (p := ⟨_, _, _⟩) ?_ (by first | omega | (simp; done) | (simp; omega)) _ | refine SameB.alloc ?_ _ | refine SameB.drew ?_ | refine SameB.drewN ?_ _)))
    have hS0_2 := Lib.hid (hS0_1.out.trans hS1_2.out)
    have hs2 : w.heap.size + 1 + 1 ≤ w2.heap.size := by have := hb2.size; (try simp at this); omega
    have hc2_0 := fun o : Nat => hc2 (w.heap.size) o (by first | omega | (simp; done) | (simp; omega))
    have hf2_0 := fun o : Nat => hf2 (w.heap.size) o (by first | omega | (simp; done) | (simp; omega))
    have hc2_1 := fun o : Nat => hc2 (w.heap.size + 1) o (by first | omega | (simp; done) | (simp; omega))
    have hf2_1 := fun o : Nat => hf2 (w.heap.size + 1) o (by first | omega | (simp; done) | (simp; omega))
    clear hc2 hf2
    clear hb2
    go_wp2_with fail
    go_region_with (first
        | ((have hguard := HW3; clear hguard)
           go_at_call 53
           refine Calls.mono (HSb.out _ (HB.out.zbelow (by (repeat (first | with_reducible exact HW3.out | refine Below.setCell (p := ⟨_, _, _⟩) ?_ (by first | omega | (simp; done) | (simp; omega)) _ | refine Below.alloc ?_ (by first | omega | (simp; done) | (simp; omega)) _ | refine Below.drew ?_ | refine below_dn ?_ _))))) ?_
           rintro E w4 ⟨rfl, hb4⟩
           obtain ⟨hc4, hf4⟩ := bcell hb4
           have HW4 : Hid (Below w.heap.size w w4) := Lib.hid (by
             refine Below.trans ?_ (hb4.mono ?_)
             · (repeat (first | with_reducible exact HW3.out | refine Below.setCell (p := ⟨_, _, _⟩) ?_ (by first | omega | (simp; done) | (simp; omega)) _ | refine Below.alloc ?_ (by first | omega | (simp; done) | (simp; omega)) _ | refine Below.drew ?_ | refine below_dn ?_ _))
             · first | omega | (simp; done) | (simp; omega))
           have hS3_4 : Hid (SameB w.heap.size 2 w3 w4) := Lib.hid (by
             refine SameB.below ?_ hb4
             (repeat (first | with_reducible exact SameB.refl _ _ _ | refine SameB.setCell (p := ⟨_, _, _⟩) ?_ (by first | omega | (simp; done) | (simp; omega)) (by first | omega | (simp; done) | (simp; omega)) _ | refine SameB.setNew (p := ⟨_, _, _⟩) ?_ (by first | omega | (simp; done) | (simp; omega)) _ | refine SameB.alloc ?_ _ | refine SameB.drew ?_ | refine SameB.drewN ?_ _)))
           have hS0_4 := Lib.hid (hS0_3.out.trans hS3_4.out)
           have hS1_4 := Lib.hid (hS1_3.out.trans hS3_4.out)
           have hS2_4 := Lib.hid (hS2_3.out.trans hS3_4.out)
           have hs4 : w.heap.size + 1 + 1 ≤ w4.heap.size := by have := hb4.size; (try simp at this); omega
           have hc4_0 := fun o : Nat => hc4 (w.heap.size) o (by first | omega | (simp; done) | (simp; omega))
           have hf4_0 := fun o : Nat => hf4 (w.heap.size) o (by first | omega | (simp; done) | (simp; omega))
           have hc4_1 := fun o : Nat => hc4 (w.heap.size + 1) o (by first | omega | (simp; done) | (simp; omega))
           have hf4_1 := fun o : Nat => hf4 (w.heap.size + 1) o (by first | omega | (simp; done) | (simp; omega))
           clear hc4 hf4
           clear hb4)
        | ((have hguard := HW2; clear hguard)
           go_at_call 53
           refine Calls.mono (HSa.out _ (HA.out.zbelow (by (repeat (first | with_reducible exact HW2.out | refine Below.setCell (p := ⟨_, _, _⟩) ?_ (by first | omega | (simp; done) | (simp; omega)) _ | refine Below.alloc ?_ (by first | omega | (simp; done) | (simp; omega)) _ | refine Below.drew ?_ | refine below_dn ?_ _))))) ?_
           rintro E w3 ⟨rfl, hb3⟩
           obtain ⟨hc3, hf3⟩ := bcell hb3
           have HW3 : Hid (Below w.heap.size w w3) := Lib.hid (by
             refine Below.trans ?_ (hb3.mono ?_)
             · (repeat (first | with_reducible exact HW2.out | refine Below.setCell (p := ⟨_, _, _⟩) ?_ (by first | omega | (simp; done) | (simp; omega)) _ | refine Below.alloc ?_ (by first | omega | (simp; done) | (simp; omega)) _ | refine Below.drew ?_ | refine below_dn ?_ _))
             · first | omega | (simp; done) | (simp; omega))
           have hS2_3 : Hid (SameB w.heap.size 2 w2 w3) := Lib.hid (by
             refine SameB.below ?_ hb3
             (repeat (first | with_reducible exact SameB.refl _ _ _ | refine SameB.setCell (p := ⟨_, _, _⟩) ?_ (by first | omega | (simp; done) | (simp; omega)) (by first | omega | (simp; done) | (simp; omega)) _ | refine SameB.setNew (p := ⟨_, _, _⟩) ?_ (by first | omega | (simp; done) | (simp; omega)) _ | refine SameB.alloc ?_ _ | refine SameB.drew ?_ | refine SameB.drewN ?_ _)))
           have hS0_3 := Lib.hid (hS0_2.out.trans hS2_3.out)
           have hS1_3 := Lib.hid (hS1_2.out.trans hS2_3.out)
           have hs3 : w.heap.size + 1 + 1 ≤ w3.heap.size := by have := hb3.size; (try simp at this); omega
           have hc3_0 := fun o : Nat => hc3 (w.heap.size) o (by first | omega | (simp; done) | (simp; omega))
           have hf3_0 := fun o : Nat => hf3 (w.heap.size) o (by first | omega | (simp; done) | (simp; omega))
           have hc3_1 := fun o : Nat => hc3 (w.heap.size + 1) o (by first | omega | (simp; done) | (simp; omega))
           have hf3_1 := fun o : Nat => hf3 (w.heap.size + 1) o (by first | omega | (simp; done) | (simp; omega))
           clear hc3 hf3
           clear hb3))
    all_goals
      go_wp2_with fail
      refine bodyPost_ret (v := .tuple #[.int .i64 (-1), .int .i64 0]) (by simp [results, Tryd.results29, go_sem, intV, dyV, hc1_0, hf1_0, hc1_1, hf1_1, hc2_0, hf2_0, hc2_1, hf2_1, hc3_0, hf3_0, hc3_1, hf3_1, hc4_0, hf4_0, hc4_1, hf4_1]) rfl ?_
      exact ⟨rfl, by (repeat (first | with_reducible exact HW4.out | refine Below.setCell (p := ⟨_, _, _⟩) ?_ (by first | omega | (simp; done) | (simp; omega)) _ | refine Below.alloc ?_ (by first | omega | (simp; done) | (simp; omega)) _ | refine Below.drew ?_ | refine below_dn ?_ _))⟩
  · subst heq
    by_cases h0 : sa = 0
    · have e0 : rc = 0 := by rw [hc, if_neg (by omega), if_neg (by omega), if_pos h0]
      rw [e0]
      subst h0
      clear hc e0 hs hr HZ
      unfold dyV intV at *
      have HW0 : Hid (Below w.heap.size w w) := Lib.hid (Below.refl _ _)
      go_enter Tryd.func29, Tryd.ntmps29
      go_wp2_with fail
      refine Calls.mono (dyForm_calls (HA.out.below (by (repeat (first | with_reducible exact HW0.out | refine Below.setCell (p := ⟨_, _, _⟩) ?_ (by first | omega | (simp; done) | (simp; omega)) _ | refine Below.alloc ?_ (by first | omega | (simp; done) | (simp; omega)) _ | refine Below.drew ?_ | refine below_dn ?_ _))))) ?_
      rintro E w1 ⟨rfl, hb1⟩
      obtain ⟨hc1, hf1⟩ := bcell hb1
      have HW1 : Hid (Below w.heap.size w w1) := Lib.hid (by
        refine Below.trans ?_ (hb1.mono ?_)
        · (repeat (first | with_reducible exact HW0.out | refine Below.setCell (p := ⟨_, _, _⟩) ?_ (by first | omega | (simp; done) | (simp; omega)) _ | refine Below.alloc ?_ (by first | omega | (simp; done) | (simp; omega)) _ | refine Below.drew ?_ | refine below_dn ?_ _))
        · first | omega | (simp; done) | (simp; omega))
      have hS0_1 : Hid (SameB w.heap.size 2 w w1) := Lib.hid (by
        refine SameB.below ?_ hb1
        (repeat (first | with_reducible exact SameB.refl _ _ _ | refine SameB.setCell (p := ⟨_, _, _⟩) ?_ (by first | omega | (simp; done) | (simp; omega)) (by first | omega | (simp; done) | (simp; omega)) _ | refine SameB.setNew (p := ⟨_, _, _⟩) ?_ (by first | omega | (simp; done) | (simp; omega)) _ | refine SameB.alloc ?_ _ | refine SameB.drew ?_ | refine SameB.drewN ?_ _)))
      have hs1 : w.heap.size + 1 + 1 ≤ w1.heap.size := by have := hb1.size; (try simp at this); omega
      have hc1_0 := fun o : Nat => hc1 (w.heap.size) o (by first | omega | (simp; done) | (simp; omega))
      have hf1_0 := fun o : Nat => hf1 (w.heap.size) o (by first | omega | (simp; done) | (simp; omega))
      have hc1_1 := fun o : Nat => hc1 (w.heap.size + 1) o (by first | omega | (simp; done) | (simp; omega))
      have hf1_1 := fun o : Nat => hf1 (w.heap.size + 1) o (by first | omega | (simp; done) | (simp; omega))
      clear hc1 hf1
      clear hb1
      go_wp2_with fail
      refine Calls.mono (dyForm_calls (HB.out.below HW1.out)) ?_
      rintro E w2 ⟨rfl, hb2⟩
      obtain ⟨hc2, hf2⟩ := bcell hb2
      have HW2 : Hid (Below w.heap.size w w2) := Lib.hid (by
        refine Below.trans ?_ (hb2.mono ?_)
        · (repeat (first | with_reducible exact HW1.out | refine Below.setCell (p := ⟨_, _, _⟩) ?_ (by first | omega | (simp; done) | (simp; omega)) _ | refine Below.alloc ?_ (by first | omega | (simp; done) | (simp; omega)) _ | refine Below.drew ?_ | refine below_dn ?_ _))
        · first | omega | (simp; done) | (simp; omega))
      have hS1_2 : Hid (SameB w.heap.size 2 w1 w2) := Lib.hid (by
        refine SameB.below ?_ hb2
        (repeat (first | with_reducible exact SameB.refl _ _ _ | refine SameB.setCell (p := ⟨_, _, _⟩) ?_ (by first | omega | (simp; done) | (simp; omega)) (by first | omega | (simp; done) | (simp; omega)) _ | refine SameB.setNew (p := ⟨_, _, _⟩) ?_ (by first | omega | (simp; done) | (simp; omega)) _ | refine SameB.alloc ?_ _ | refine SameB.drew ?_ | refine SameB.drewN ?_ _)))
      have hS0_2 := Lib.hid (hS0_1.out.trans hS1_2.out)
      have hs2 : w.heap.size + 1 + 1 ≤ w2.heap.size := by have := hb2.size; (try simp at this); omega
      have hc2_0 := fun o : Nat => hc2 (w.heap.size) o (by first | omega | (simp; done) | (simp; omega))
      have hf2_0 := fun o : Nat => hf2 (w.heap.size) o (by first | omega | (simp; done) | (simp; omega))
      have hc2_1 := fun o : Nat => hc2 (w.heap.size + 1) o (by first | omega | (simp; done) | (simp; omega))
      have hf2_1 := fun o : Nat => hf2 (w.heap.size + 1) o (by first | omega | (simp; done) | (simp; omega))
      clear hc2 hf2
      clear hb2
      go_wp2_with fail
      go_region_with (first
          | ((have hguard := HW3; clear hguard)
             go_at_call 53
             refine Calls.mono (HSb.out _ (HB.out.zbelow (by (repeat (first | with_reducible exact HW3.out | refine Below.setCell (p := ⟨_, _, _⟩) ?_ (by first | omega | (simp; done) | (simp; omega)) _ | refine Below.alloc ?_ (by first | omega | (simp; done) | (simp; omega)) _ | refine Below.drew ?_ | refine below_dn ?_ _))))) ?_
             rintro E w4 ⟨rfl, hb4⟩
             obtain ⟨hc4, hf4⟩ := bcell hb4
             have HW4 : Hid (Below w.heap.size w w4) := Lib.hid (by
               refine Below.trans ?_ (hb4.mono ?_)
               · (repeat (first | with_reducible exact HW3.out | refine Below.setCell (p := ⟨_, _, _⟩) ?_ (by first | omega | (simp; done) | (simp; omega)) _ | refine Below.alloc ?_ (by first | omega | (simp; done) | (simp; omega)) _ | refine Below.drew ?_ | refine below_dn ?_ _))
               · first | omega | (simp; done) | (simp; omega))
             have hS3_4 : Hid (SameB w.heap.size 2 w3 w4) := Lib.hid (by
               refine SameB.below ?_ hb4
               (repeat (first | with_reducible exact SameB.refl _ _ _ | refine SameB.setCell (p := ⟨_, _, _⟩) ?_ (by first | omega | (simp; done) | (simp; omega)) (by first | omega | (simp; done) | (simp; omega)) _ | refine SameB.setNew (p := ⟨_, _, _⟩) ?_ (by first | omega | (simp; done) | (simp; omega)) _ | refine SameB.alloc ?_ _ | refine SameB.drew ?_ | refine SameB.drewN ?_ _)))
             have hS0_4 := Lib.hid (hS0_3.out.trans hS3_4.out)
             have hS1_4 := Lib.hid (hS1_3.out.trans hS3_4.out)
             have hS2_4 := Lib.hid (hS2_3.out.trans hS3_4.out)
             have hs4 : w.heap.size + 1 + 1 ≤ w4.heap.size := by have := hb4.size; (try simp at this); omega
             have hc4_0 := fun o : Nat => hc4 (w.heap.size) o (by first | omega | (simp; done) | (simp; omega))
             have hf4_0 := fun o : Nat => hf4 (w.heap.size) o (by first | omega | (simp; done) | (simp; omega))
             have hc4_1 := fun o : Nat => hc4 (w.heap.size + 1) o (by first | omega | (simp; done) | (simp; omega))
             have hf4_1 := fun o : Nat => hf4 (w.heap.size + 1) o (by first | omega | (simp; done) | (simp; omega))
             clear hc4 hf4
             clear hb4)
          | ((have hguard := HW2; clear hguard)
             go_at_call 53
             refine Calls.mono (HSa.out _ (HA.out.zbelow (by (repeat (first | with_reducible exact HW2.out | refine Below.setCell (p := ⟨_, _, _⟩) ?_ (by first | omega | (simp; done) | (simp; omega)) _ | refine Below.alloc ?_ (by first | omega | (simp; done) | (simp; omega)) _ | refine Below.drew ?_ | refine below_dn ?_ _))))) ?_
             rintro E w3 ⟨rfl, hb3⟩
             obtain ⟨hc3, hf3⟩ := bcell hb3
             have HW3 : Hid (Below w.heap.size w w3) := Lib.hid (by
               refine Below.trans ?_ (hb3.mono ?_)
               · (repeat (first | with_reducible exact HW2.out | refine Below.setCell (p := ⟨_, _, _⟩) ?_ (by first | omega | (simp; done) | (simp; omega)) _ | refine Below.alloc ?_ (by first | omega | (simp; done) | (simp; omega)) _ | refine Below.drew ?_ | refine below_dn ?_ _))
               · first | omega | (simp; done) | (simp; omega))
             have hS2_3 : Hid (SameB w.heap.size 2 w2 w3) := Lib.hid (by
               refine SameB.below ?_ hb3
               (repeat (first | with_reducible exact SameB.refl _ _ _ | refine SameB.setCell (p := ⟨_, _, _⟩) ?_ (by first | omega | (simp; done) | (simp; omega)) (by first | omega | (simp; done) | (simp; omega)) _ | refine SameB.setNew (p := ⟨_, _, _⟩) ?_ (by first | omega | (simp; done) | (simp; omega)) _ | refine SameB.alloc ?_ _ | refine SameB.drew ?_ | refine SameB.drewN ?_ _)))
             have hS0_3 := Lib.hid (hS0_2.out.trans hS2_3.out)
             have hS1_3 := Lib.hid (hS1_2.out.trans hS2_3.out)
             have hs3 : w.heap.size + 1 + 1 ≤ w3.heap.size := by have := hb3.size; (try simp at this); omega
             have hc3_0 := fun o : Nat => hc3 (w.heap.size) o (by first | omega | (simp; done) | (simp; omega))
             have hf3_0 := fun o : Nat => hf3 (w.heap.size) o (by first | omega | (simp; done) | (simp; omega))
             have hc3_1 := fun o : Nat => hc3 (w.heap.size + 1) o (by first | omega | (simp; done) | (simp; omega))
             have hf3_1 := fun o : Nat => hf3 (w.heap.size + 1) o (by first | omega | (simp; done) | (simp; omega))
             clear hc3 hf3
             clear hb3))
      all_goals
        go_wp2_with fail
        refine bodyPost_ret (v := .tuple #[.int .i64 0, .int .i64 0]) (by simp [results, Tryd.results29, go_sem, intV, dyV, hc1_0, hf1_0, hc1_1, hf1_1, hc2_0, hf2_0, hc2_1, hf2_1, hc3_0, hf3_0, hc3_1, hf3_1, hc4_0, hf4_0, hc4_1, hf4_1]) rfl ?_
        exact ⟨rfl, by (repeat (first | with_reducible exact HW4.out | refine Below.setCell (p := ⟨_, _, _⟩) ?_ (by first | omega | (simp; done) | (simp; omega)) _ | refine Below.alloc ?_ (by first | omega | (simp; done) | (simp; omega)) _ | refine Below.drew ?_ | refine below_dn ?_ _))⟩
    · have e0 : rc = sa * sz := by rw [hc, if_neg (by omega), if_neg (by omega), if_neg h0]
      rw [e0]
      have hnl : ¬ sa < sa := by omega
      have hw : wrap64 (sa * sz) = sa * sz := by
        have h1 : sz = -1 ∨ sz = 0 ∨ sz = 1 := by omega
        rcases hs with rfl | rfl | rfl <;> rcases h1 with rfl | rfl | rfl <;> decide +kernel
      have HMul : Hid (sa * sz = sa * sz) := Lib.hid rfl
      clear hc e0 hs hr HMul
      unfold dyV intV at *
      have HW0 : Hid (Below w.heap.size w w) := Lib.hid (Below.refl _ _)
      go_enter Tryd.func29, Tryd.ntmps29
      go_wp2_with fail
      refine Calls.mono (dyForm_calls (HA.out.below (by (repeat (first | with_reducible exact HW0.out | refine Below.setCell (p := ⟨_, _, _⟩) ?_ (by first | omega | (simp; done) | (simp; omega)) _ | refine Below.alloc ?_ (by first | omega | (simp; done) | (simp; omega)) _ | refine Below.drew ?_ | refine below_dn ?_ _))))) ?_
      rintro E w1 ⟨rfl, hb1⟩
      obtain ⟨hc1, hf1⟩ := bcell hb1
      have HW1 : Hid (Below w.heap.size w w1) := Lib.hid (by
        refine Below.trans ?_ (hb1.mono ?_)
        · (repeat (first | with_reducible exact HW0.out | refine Below.setCell (p := ⟨_, _, _⟩) ?_ (by first | omega | (simp; done) | (simp; omega)) _ | refine Below.alloc ?_ (by first | omega | (simp; done) | (simp; omega)) _ | refine Below.drew ?_ | refine below_dn ?_ _))
        · first | omega | (simp; done) | (simp; omega))
      have hS0_1 : Hid (SameB w.heap.size 2 w w1) := Lib.hid (by
        refine SameB.below ?_ hb1
        (repeat (first | with_reducible exact SameB.refl _ _ _ | refine SameB.setCell (p := ⟨_, _, _⟩) ?_ (by first | omega | (simp; done) | (simp; omega)) (by first | omega | (simp; done) | (simp; omega)) _ | refine SameB.setNew (p := ⟨_, _, _⟩) ?_ (by first | omega | (simp; done) | (simp; omega)) _ | refine SameB.alloc ?_ _ | refine SameB.drew ?_ | refine SameB.drewN ?_ _)))
      have hs1 : w.heap.size + 1 + 1 ≤ w1.heap.size := by have := hb1.size; (try simp at this); omega
      have hc1_0 := fun o : Nat => hc1 (w.heap.size) o (by first | omega | (simp; done) | (simp; omega))
      have hf1_0 := fun o : Nat => hf1 (w.heap.size) o (by first | omega | (simp; done) | (simp; omega))
      have hc1_1 := fun o : Nat => hc1 (w.heap.size + 1) o (by first | omega | (simp; done) | (simp; omega))
      have hf1_1 := fun o : Nat => hf1 (w.heap.size + 1) o (by first | omega | (simp; done) | (simp; omega))
      clear hc1 hf1
      clear hb1
      go_wp2_with fail
      refine Calls.mono (dyForm_calls (HB.out.below HW1.out)) ?_
      rintro E w2 ⟨rfl, hb2⟩
      obtain ⟨hc2, hf2⟩ := bcell hb2
      have HW2 : Hid (Below w.heap.size w w2) := Lib.hid (by
        refine Below.trans ?_ (hb2.mono ?_)
        · (repeat (first | with_reducible exact HW1.out | refine Below.setCell (p := ⟨_, _, _⟩) ?_ (by first | omega | (simp; done) | (simp; omega)) _ | refine Below.alloc ?_ (by first | omega | (simp; done) | (simp; omega)) _ | refine Below.drew ?_ | refine below_dn ?_ _))
        · first | omega | (simp; done) | (simp; omega))
      have hS1_2 : Hid (SameB w.heap.size 2 w1 w2) := Lib.hid (by
        refine SameB.below ?_ hb2
        (repeat (first | with_reducible exact SameB.refl _ _ _ | refine SameB.setCell (p := ⟨_, _, _⟩) ?_ (by first | omega | (simp; done) | (simp; omega)) (by first | omega | (simp; done) | (simp; omega)) _ | refine SameB.setNew (p := ⟨_, _, _⟩) ?_ (by first | omega | (simp; done) | (simp; omega)) _ | refine SameB.alloc ?_ _ | refine SameB.drew ?_ | refine SameB.drewN ?_ _)))
      have hS0_2 := Lib.hid (hS0_1.out.trans hS1_2.out)
      have hs2 : w.heap.size + 1 + 1 ≤ w2.heap.size := by have := hb2.size; (try simp at this); omega
      have hc2_0 := fun o : Nat => hc2 (w.heap.size) o (by first | omega | (simp; done) | (simp; omega))
      have hf2_0 := fun o : Nat => hf2 (w.heap.size) o (by first | omega | (simp; done) | (simp; omega))
      have hc2_1 := fun o : Nat => hc2 (w.heap.size + 1) o (by first | omega | (simp; done) | (simp; omega))
      have hf2_1 := fun o : Nat => hf2 (w.heap.size + 1) o (by first | omega | (simp; done) | (simp; omega))
      clear hc2 hf2
      clear hb2
      go_wp2_with fail
      go_region_with (first
          | ((have hguard := HW3; clear hguard)
             go_at_call 53
             refine Calls.mono (HSb.out _ (HB.out.zbelow (by (repeat (first | with_reducible exact HW3.out | refine Below.setCell (p := ⟨_, _, _⟩) ?_ (by first | omega | (simp; done) | (simp; omega)) _ | refine Below.alloc ?_ (by first | omega | (simp; done) | (simp; omega)) _ | refine Below.drew ?_ | refine below_dn ?_ _))))) ?_
             rintro E w4 ⟨rfl, hb4⟩
             obtain ⟨hc4, hf4⟩ := bcell hb4
             have HW4 : Hid (Below w.heap.size w w4) := Lib.hid (by
               refine Below.trans ?_ (hb4.mono ?_)
               · (repeat (first | with_reducible exact HW3.out | refine Below.setCell (p := ⟨_, _, _⟩) ?_ (by first | omega | (simp; done) | (simp; omega)) _ | refine Below.alloc ?_ (by first | omega | (simp; done) | (simp; omega)) _ | refine Below.drew ?_ | refine below_dn ?_ _))
               · first | omega | (simp; done) | (simp; omega))
             have hS3_4 : Hid (SameB w.heap.size 2 w3 w4) := Lib.hid (by
               refine SameB.below ?_ hb4
               (repeat (first | with_reducible exact SameB.refl _ _ _ | refine SameB.setCell (p := ⟨_, _, _⟩) ?_ (by first | omega | (simp; done) | (simp; omega)) (by first | omega | (simp; done) | (simp; omega)) _ | refine SameB.setNew (p := ⟨_, _, _⟩) ?_ (by first | omega | (simp; done) | (simp; omega)) _ | refine SameB.alloc ?_ _ | refine SameB.drew ?_ | refine SameB.drewN ?_ _)))
             have hS0_4 := Lib.hid (hS0_3.out.trans hS3_4.out)
             have hS1_4 := Lib.hid (hS1_3.out.trans hS3_4.out)
             have hS2_4 := Lib.hid (hS2_3.out.trans hS3_4.out)
             have hs4 : w.heap.size + 1 + 1 ≤ w4.heap.size := by have := hb4.size; (try simp at this); omega
             have hc4_0 := fun o : Nat => hc4 (w.heap.size) o (by first | omega | (simp; done) | (simp; omega))
             have hf4_0 := fun o : Nat => hf4 (w.heap.size) o (by first | omega | (simp; done) | (simp; omega))
             have hc4_1 := fun o : Nat => hc4 (w.heap.size + 1) o (by first | omega | (simp; done) | (simp; omega))
             have hf4_1 := fun o : Nat => hf4 (w.heap.size + 1) o (by first | omega | (simp; done) | (simp; omega))
             clear hc4 hf4
             clear hb4)
          | ((have hguard := HW2; clear hguard)
             go_at_call 53
             refine Calls.mono (HSa.out _ (HA.out.zbelow (by (repeat (first | with_reducible exact HW2.out | refine Below.setCell (p := ⟨_, _, _⟩) ?_ (by first | omega | (simp; done) | (simp; omega)) _ | refine Below.alloc ?_ (by first | omega | (simp; done) | (simp; omega)) _ | refine Below.drew ?_ | refine below_dn ?_ _))))) ?_
             rintro E w3 ⟨rfl, hb3⟩
             obtain ⟨hc3, hf3⟩ := bcell hb3
             have HW3 : Hid (Below w.heap.size w w3) := Lib.hid (by
               refine Below.trans ?_ (hb3.mono ?_)
               · (repeat (first | with_reducible exact HW2.out | refine Below.setCell (p := ⟨_, _, _⟩) ?_ (by first | omega | (simp; done) | (simp; omega)) _ | refine Below.alloc ?_ (by first | omega | (simp; done) | (simp; omega)) _ | refine Below.drew ?_ | refine below_dn ?_ _))
               · first | omega | (simp; done) | (simp; omega))
             have hS2_3 : Hid (SameB w.heap.size 2 w2 w3) := Lib.hid (by
               refine SameB.below ?_ hb3
               (repeat (first | with_reducible exact SameB.refl _ _ _ | refine SameB.setCell (p := ⟨_, _, _⟩) ?_ (by first | omega | (simp; done) | (simp; omega)) (by first | omega | (simp; done) | (simp; omega)) _ | refine SameB.setNew (p := ⟨_, _, _⟩) ?_ (by first | omega | (simp; done) | (simp; omega)) _ | refine SameB.alloc ?_ _ | refine SameB.drew ?_ | refine SameB.drewN ?_ _)))
             have hS0_3 := Lib.hid (hS0_2.out.trans hS2_3.out)
             have hS1_3 := Lib.hid (hS1_2.out.trans hS2_3.out)
             have hs3 : w.heap.size + 1 + 1 ≤ w3.heap.size := by have := hb3.size; (try simp at this); omega
             have hc3_0 := fun o : Nat => hc3 (w.heap.size) o (by first | omega | (simp; done) | (simp; omega))
             have hf3_0 := fun o : Nat => hf3 (w.heap.size) o (by first | omega | (simp; done) | (simp; omega))
             have hc3_1 := fun o : Nat => hc3 (w.heap.size + 1) o (by first | omega | (simp; done) | (simp; omega))
             have hf3_1 := fun o : Nat => hf3 (w.heap.size + 1) o (by first | omega | (simp; done) | (simp; omega))
             clear hc3 hf3
             clear hb3))
      all_goals
        go_wp2_with fail
        refine Calls.mono (HZ.out _ (HA.out.below (by (repeat (first | with_reducible exact HW4.out | refine Below.setCell (p := ⟨_, _, _⟩) ?_ (by first | omega | (simp; done) | (simp; omega)) _ | refine Below.alloc ?_ (by first | omega | (simp; done) | (simp; omega)) _ | refine Below.drew ?_ | refine below_dn ?_ _)))) (HB.out.below (by (repeat (first | with_reducible exact HW4.out | refine Below.setCell (p := ⟨_, _, _⟩) ?_ (by first | omega | (simp; done) | (simp; omega)) _ | refine Below.alloc ?_ (by first | omega | (simp; done) | (simp; omega)) _ | refine Below.drew ?_ | refine below_dn ?_ _))))) ?_
        rintro E w5 ⟨rfl, hb5⟩
        obtain ⟨hc5, hf5⟩ := bcell hb5
        have HW5 : Hid (Below w.heap.size w w5) := Lib.hid (by
          refine Below.trans ?_ (hb5.mono ?_)
          · (repeat (first | with_reducible exact HW4.out | refine Below.setCell (p := ⟨_, _, _⟩) ?_ (by first | omega | (simp; done) | (simp; omega)) _ | refine Below.alloc ?_ (by first | omega | (simp; done) | (simp; omega)) _ | refine Below.drew ?_ | refine below_dn ?_ _))
          · first | omega | (simp; done) | (simp; omega))
        have hS4_5 : Hid (SameB w.heap.size 2 w4 w5) := Lib.hid (by
          refine SameB.below ?_ hb5
          (repeat (first | with_reducible exact SameB.refl _ _ _ | refine SameB.setCell (p := ⟨_, _, _⟩) ?_ (by first | omega | (simp; done) | (simp; omega)) (by first | omega | (simp; done) | (simp; omega)) _ | refine SameB.setNew (p := ⟨_, _, _⟩) ?_ (by first | omega | (simp; done) | (simp; omega)) _ | refine SameB.alloc ?_ _ | refine SameB.drew ?_ | refine SameB.drewN ?_ _)))
        have hS0_5 := Lib.hid (hS0_4.out.trans hS4_5.out)
        have hS1_5 := Lib.hid (hS1_4.out.trans hS4_5.out)
        have hS2_5 := Lib.hid (hS2_4.out.trans hS4_5.out)
        have hS3_5 := Lib.hid (hS3_4.out.trans hS4_5.out)
        have hs5 : w.heap.size + 1 + 1 ≤ w5.heap.size := by have := hb5.size; (try simp at this); omega
        have hc5_0 := fun o : Nat => hc5 (w.heap.size) o (by first | omega | (simp; done) | (simp; omega))
        have hf5_0 := fun o : Nat => hf5 (w.heap.size) o (by first | omega | (simp; done) | (simp; omega))
        have hc5_1 := fun o : Nat => hc5 (w.heap.size + 1) o (by first | omega | (simp; done) | (simp; omega))
        have hf5_1 := fun o : Nat => hf5 (w.heap.size + 1) o (by first | omega | (simp; done) | (simp; omega))
        clear hc5 hf5
        clear hb5
        go_wp2_with fail
        refine bodyPost_ret (v := .tuple #[.int .i64 (sa * sz), .int .i64 0]) (by simp [results, Tryd.results29, go_sem, intV, dyV, hw, hc1_0, hf1_0, hc1_1, hf1_1, hc2_0, hf2_0, hc2_1, hf2_1, hc3_0, hf3_0, hc3_1, hf3_1, hc4_0, hf4_0, hc4_1, hf4_1, hc5_0, hf5_0, hc5_1, hf5_1]) rfl ?_
        exact ⟨rfl, by (repeat (first | with_reducible exact HW5.out | refine Below.setCell (p := ⟨_, _, _⟩) ?_ (by first | omega | (simp; done) | (simp; omega)) _ | refine Below.alloc ?_ (by first | omega | (simp; done) | (simp; omega)) _ | refine Below.drew ?_ | refine below_dn ?_ _))⟩
  · have e0 : rc = 1 := by rw [hc, if_neg (by omega), if_pos hgt]
    rw [e0]
    have hnl : ¬ sa < sb := by omega
    clear hc e0 hs hr HZ
    unfold dyV intV at *
    have HW0 : Hid (Below w.heap.size w w) := Lib.hid (Below.refl _ _)
    go_enter Tryd.func29, Tryd.ntmps29
    go_wp2_with fail
    refine Calls.mono (dyForm_calls (HA.out.below (by (repeat (first | with_reducible exact HW0.out | refine Below.setCell (p := ⟨_, _, _⟩) ?_ (by first | omega | (simp; done) | (simp; omega)) _ | refine Below.alloc ?_ (by first | omega | (simp; done) | (simp; omega)) _ | refine Below.drew ?_ | refine below_dn ?_ _))))) ?_
    rintro E w1 ⟨rfl, hb1⟩
    obtain ⟨hc1, hf1⟩ := bcell hb1
    have HW1 : Hid (Below w.heap.size w w1) := Lib.hid (by
      refine Below.trans ?_ (hb1.mono ?_)
      · (repeat (first | with_reducible exact HW0.out | refine Below.setCell (p := ⟨_, _, _⟩) ?_ (by first | omega | (simp; done) | (simp; omega)) _ | refine Below.alloc ?_ (by first | omega | (simp; done) | (simp; omega)) _ | refine Below.drew ?_ | refine below_dn ?_ _))
      · first | omega | (simp; done) | (simp; omega))
    have hS0_1 : Hid (SameB w.heap.size 2 w w1) := Lib.hid (by
      refine SameB.below ?_ hb1
      (repeat (first | with_reducible exact SameB.refl _ _ _ | refine SameB.setCell (p := ⟨_, _, _⟩) ?_ (by first | omega | (simp; done) | (simp; omega)) (by first | omega | (simp; done) | (simp; omega)) _ | refine SameB.setNew (p := ⟨_, _, _⟩) ?_ (by first | omega | (simp; done) | (simp; omega)) _ | refine SameB.alloc ?_ _ | refine SameB.drew ?_ | refine SameB.drewN ?_ _)))
    have hs1 : w.heap.size + 1 + 1 ≤ w1.heap.size := by have := hb1.size; (try simp at this); omega
    have hc1_0 := fun o : Nat => hc1 (w.heap.size) o (by first | omega | (simp; done) | (simp; omega))
    have hf1_0 := fun o : Nat => hf1 (w.heap.size) o (by first | omega | (simp; done) | (simp; omega))
    have hc1_1 := fun o : Nat => hc1 (w.heap.size + 1) o (by first | omega | (simp; done) | (simp; omega))
    have hf1_1 := fun o : Nat => hf1 (w.heap.size + 1) o (by first | omega | (simp; done) | (simp; omega))
    clear hc1 hf1
    clear hb1
    go_wp2_with fail
    refine Calls.mono (dyForm_calls (HB.out.below HW1.out)) ?_
    rintro E w2 ⟨rfl, hb2⟩
    obtain ⟨hc2, hf2⟩ := bcell hb2
    have HW2 : Hid (Below w.heap.size w w2) := Lib.hid (by
      refine Below.trans ?_ (hb2.mono ?_)
      · (repeat (first | with_reducible exact HW1.out | refine Below.setCell (p := ⟨_, _, _⟩) ?_ (by first | omega | (simp; done) | (simp; omega)) _ | refine Below.alloc ?_ (by first | omega | (simp; done) | (simp; omega)) _ | refine Below.drew ?_ | refine below_dn ?_ _))
      · first | omega | (simp; done) | (simp; omega))
    have hS1_2 : Hid (SameB w.heap.size 2 w1 w2) := Lib.hid (by
      refine SameB.below ?_ hb2
      (repeat (first | with_reducible exact SameB.refl _ _ _ | refine SameB.setCell (p := ⟨_, _, _⟩) ?_ (by first | omega | (simp; done) | (simp; omega)) (by first | omega | (simp; done) | (simp; omega)) _ | refine SameB.setNew (p := ⟨_, _, _⟩) ?_ (by first | omega | (simp; done) | (simp; omega)) _ | refine SameB.alloc ?_ _ | refine SameB.drew ?_ | refine SameB.drewN ?_ _)))
    have hS0_2 := Lib.hid (hS0_1.out.trans hS1_2.out)
    have hs2 : w.heap.size + 1 + 1 ≤ w2.heap.size := by have := hb2.size; (try simp at this); omega
    have hc2_0 := fun o : Nat => hc2 (w.heap.size) o (by first | omega | (simp; done) | (simp; omega))
    have hf2_0 := fun o : Nat => hf2 (w.heap.size) o (by first | omega | (simp; done) | (simp; omega))
    have hc2_1 := fun o : Nat => hc2 (w.heap.size + 1) o (by first | omega | (simp; done) | (simp; omega))
    have hf2_1 := fun o : Nat => hf2 (w.heap.size + 1) o (by first | omega | (simp; done) | (simp; omega))
    clear hc2 hf2
    clear hb2
    go_wp2_with fail
    go_region_with (first
        | ((have hguard := HW3; clear hguard)
           go_at_call 53
           refine Calls.mono (HSb.out _ (HB.out.zbelow (by (repeat (first | with_reducible exact HW3.out | refine Below.setCell (p := ⟨_, _, _⟩) ?_ (by first | omega | (simp; done) | (simp; omega)) _ | refine Below.alloc ?_ (by first | omega | (simp; done) | (simp; omega)) _ | refine Below.drew ?_ | refine below_dn ?_ _))))) ?_
           rintro E w4 ⟨rfl, hb4⟩
           obtain ⟨hc4, hf4⟩ := bcell hb4
           have HW4 : Hid (Below w.heap.size w w4) := Lib.hid (by
             refine Below.trans ?_ (hb4.mono ?_)
             · (repeat (first | with_reducible exact HW3.out | refine Below.setCell (p := ⟨_, _, _⟩) ?_ (by first | omega | (simp; done) | (simp; omega)) _ | refine Below.alloc ?_ (by first | omega | (simp; done) | (simp; omega)) _ | refine Below.drew ?_ | refine below_dn ?_ _))
             · first | omega | (simp; done) | (simp; omega))
           have hS3_4 : Hid (SameB w.heap.size 2 w3 w4) := Lib.hid (by
             refine SameB.below ?_ hb4
             (repeat (first | with_reducible exact SameB.refl _ _ _ | refine SameB.setCell (p := ⟨_, _, _⟩) ?_ (by first | omega | (simp; done) | (simp; omega)) (by first | omega | (simp; done) | (simp; omega)) _ | refine SameB.setNew (p := ⟨_, _, _⟩) ?_ (by first | omega | (simp; done) | (simp; omega)) _ | refine SameB.alloc ?_ _ | refine SameB.drew ?_ | refine SameB.drewN ?_ _)))
           have hS0_4 := Lib.hid (hS0_3.out.trans hS3_4.out)
           have hS1_4 := Lib.hid (hS1_3.out.trans hS3_4.out)
           have hS2_4 := Lib.hid (hS2_3.out.trans hS3_4.out)
           have hs4 : w.heap.size + 1 + 1 ≤ w4.heap.size := by have := hb4.size; (try simp at this); omega
           have hc4_0 := fun o : Nat => hc4 (w.heap.size) o (by first | omega | (simp; done) | (simp; omega))
           have hf4_0 := fun o : Nat => hf4 (w.heap.size) o (by first | omega | (simp; done) | (simp; omega))
           have hc4_1 := fun o : Nat => hc4 (w.heap.size + 1) o (by first | omega | (simp; done) | (simp; omega))
           have hf4_1 := fun o : Nat => hf4 (w.heap.size + 1) o (by first | omega | (simp; done) | (simp; omega))
           clear hc4 hf4
           clear hb4)
        | ((have hguard := HW2; clear hguard)
           go_at_call 53
           refine Calls.mono (HSa.out _ (HA.out.zbelow (by (repeat (first | with_reducible exact HW2.out | refine Below.setCell (p := ⟨_, _, _⟩) ?_ (by first | omega | (simp; done) | (simp; omega)) _ | refine Below.alloc ?_ (by first | omega | (simp; done) | (simp; omega)) _ | refine Below.drew ?_ | refine below_dn ?_ _))))) ?_
           rintro E w3 ⟨rfl, hb3⟩
           obtain ⟨hc3, hf3⟩ := bcell hb3
           have HW3 : Hid (Below w.heap.size w w3) := Lib.hid (by
             refine Below.trans ?_ (hb3.mono ?_)
             · (repeat (first | with_reducible exact HW2.out | refine Below.setCell (p := ⟨_, _, _⟩) ?_ (by first | omega | (simp; done) | (simp; omega)) _ | refine Below.alloc ?_ (by first | omega | (simp; done) | (simp; omega)) _ | refine Below.drew ?_ | refine below_dn ?_ _))
             · first | omega | (simp; done) | (simp; omega))
           have hS2_3 : Hid (SameB w.heap.size 2 w2 w3) := Lib.hid (by
             refine SameB.below ?_ hb3
             (repeat (first | with_reducible exact SameB.refl _ _ _ | refine SameB.setCell (p := ⟨_, _, _⟩) ?_ (by first | omega | (simp; done) | (simp; omega)) (by first | omega | (simp; done) | (simp; omega)) _ | refine SameB.setNew (p := ⟨_, _, _⟩) ?_ (by first | omega | (simp; done) | (simp; omega)) _ | refine SameB.alloc ?_ _ | refine SameB.drew ?_ | refine SameB.drewN ?_ _)))
           have hS0_3 := Lib.hid (hS0_2.out.trans hS2_3.out)
           have hS1_3 := Lib.hid (hS1_2.out.trans hS2_3.out)
           have hs3 : w.heap.size + 1 + 1 ≤ w3.heap.size := by have := hb3.size; (try simp at this); omega
           have hc3_0 := fun o : Nat => hc3 (w.heap.size) o (by first | omega | (simp; done) | (simp; omega))
           have hf3_0 := fun o : Nat => hf3 (w.heap.size) o (by first | omega | (simp; done) | (simp; omega))
           have hc3_1 := fun o : Nat => hc3 (w.heap.size + 1) o (by first | omega | (simp; done) | (simp; omega))
           have hf3_1 := fun o : Nat => hf3 (w.heap.size + 1) o (by first | omega | (simp; done) | (simp; omega))
           clear hc3 hf3
           clear hb3))
    all_goals
      go_wp2_with fail
      refine bodyPost_ret (v := .tuple #[.int .i64 1, .int .i64 0]) (by simp [results, Tryd.results29, go_sem, intV, dyV, hc1_0, hf1_0, hc1_1, hf1_1, hc2_0, hf2_0, hc2_1, hf2_1, hc3_0, hf3_0, hc3_1, hf3_1, hc4_0, hf4_0, hc4_1, hf4_1]) rfl ?_
      exact ⟨rfl, by (repeat (first | with_reducible exact HW4.out | refine Below.setCell (p := ⟨_, _, _⟩) ?_ (by first | omega | (simp; done) | (simp; omega)) _ | refine Below.alloc ?_ (by first | omega | (simp; done) | (simp; omega)) _ | refine Below.drew ?_ | refine below_dn ?_ _))⟩

end Go.Proofs.YtgihapdlliidgaaDoor
