/- The walk of FastreduceSmall. -/
import Derived.Test.YtgihapdlliidgaaDoorLawa
import Derived.Test.YtgihapdlliidgaaDoorLawb
import Derived.Test.YtgihapdlliidgaaDoorSm
namespace Go.Proofs.YtgihapdlliidgaaDoor
open Go Go.RowKit
set_option linter.unusedVariables false
set_option linter.unusedSimpArgs false

theorem beside_self (a : Nat × Nat) : besideB a a = true := by
  have h0 : dyZ (ddM a) (ddE a) (-ddM a) (ddE a) = 0 := by
    unfold dyZ
    rw [Int.neg_mul]
    omega
  have h1 : bM a a = 0 := by unfold bM; rw [h0]; rfl
  unfold besideB bS
  rw [h1]
  rw [decide_eq_true_iff]
  unfold dyCmp
  have h3 : (((0 : Int).natAbs : Nat) : Int).sign = 0 := rfl
  rw [h3]
  rcases Nat.eq_zero_or_pos (ddM a).natAbs with h | h
  · rw [h]
    rw [if_neg (by decide), if_neg (by decide), if_pos rfl]
    exact Int.le_refl _
  · have h4 : ((ddM a).natAbs : Int).sign = 1 := Int.sign_eq_one_of_pos (by omega)
    rw [h4, if_pos (by decide)]
    decide

theorem ddok_one {b : Nat} (h : Fin64 b) (h0 : rg b ≠ 0) : DDok (b, 0) :=
  ⟨h.1, show (0 : Nat) < 18446744073709551616 by decide, by rw [PINF_eq]; exact h.2, by rw [PINF_eq]; show (0 : Nat) < _; decide, ddForm_one h h0⟩

theorem reducible_calls (b : Nat) (r : Bool) (hr : (decide (4485585228861014016 ≤ pSz b) && decide (pSz b < 9218868437227405312)) = r) (w : World) :
    Calls Tryd.prog 7 #[.int .u64 b] w fun E w' => E = .returned (.bool r) ∧ Below w.heap.size w w' := by
  have h1 : (b : Int) % 9223372036854775808 = ((pSz b : Nat) : Int) := by unfold pSz; omega
  generalize pSz b = s at *
  by_cases c1 : 4485585228861014016 ≤ s
  · have c1' : (4485585228861014016 : Int) ≤ (s : Int) := by omega
    by_cases c2 : s < 9218868437227405312
    · have c2' : (s : Int) < (9218868437227405312 : Int) := by omega
      have : r = true := by rw [← hr, decide_eq_true c1, decide_eq_true c2]; rfl
      subst this
      clear hr c1 c2
      have HW0 : Hid (Below w.heap.size w w) := Lib.hid (Below.refl _ _)
      go_enter Tryd.func7, Tryd.ntmps7
      go_wp2_with fail
      go_ret
      exact ⟨rfl, by (repeat (first | with_reducible exact HW0.out | refine Below.setCell (p := ⟨_, _, _⟩) ?_ (by first | omega | (simp; done) | (simp; omega)) _ | refine Below.alloc ?_ (by first | omega | (simp; done) | (simp; omega)) _ | refine Below.drew ?_ | refine below_dn ?_ _))⟩
    · have c2' : ¬ ((s : Int) < (9218868437227405312 : Int)) := by omega
      have : r = false := by rw [← hr, decide_eq_true c1, decide_eq_false c2]; rfl
      subst this
      clear hr c1 c2
      have HW0 : Hid (Below w.heap.size w w) := Lib.hid (Below.refl _ _)
      go_enter Tryd.func7, Tryd.ntmps7
      go_wp2_with fail
      go_ret
      exact ⟨rfl, by (repeat (first | with_reducible exact HW0.out | refine Below.setCell (p := ⟨_, _, _⟩) ?_ (by first | omega | (simp; done) | (simp; omega)) _ | refine Below.alloc ?_ (by first | omega | (simp; done) | (simp; omega)) _ | refine Below.drew ?_ | refine below_dn ?_ _))⟩
  · have c1' : ¬ ((4485585228861014016 : Int) ≤ (s : Int)) := by omega
    have : r = false := by rw [← hr, decide_eq_false c1]; rfl
    subst this
    clear hr c1
    have HW0 : Hid (Below w.heap.size w w) := Lib.hid (Below.refl _ _)
    go_enter Tryd.func7, Tryd.ntmps7
    go_wp2_with fail
    go_ret
    exact ⟨rfl, by (repeat (first | with_reducible exact HW0.out | refine Below.setCell (p := ⟨_, _, _⟩) ?_ (by first | omega | (simp; done) | (simp; omega)) _ | refine Below.alloc ?_ (by first | omega | (simp; done) | (simp; omega)) _ | refine Below.drew ?_ | refine below_dn ?_ _))⟩

theorem reduce_small {b : Nat} (h : Fin64 b) (h1 : 4485585228861014016 ≤ rg b) (h2 : rg b ≤ 4604930618986332160) (w : World) :
    Calls Tryd.prog 8 #[.float .f64 b] w fun E w' => E = .returned (redV 0 (b, 0) 0) ∧ Below w.heap.size w w' := by
  obtain ⟨p, s, a1, a2, a3, a4⟩ := small_floor h h2
  have e : ddOf b = (b, 0) := by unfold ddOf; rw [if_pos (ffin_of h)]
  rw [← e]
  exact reduce_cody b 0 (ddOf b) w fun w0 => cody_zero b p s h.1 w0 (by rw [fge_abs h (by decide), decide_eq_true_iff]; exact h1) (by rw [flt_abs h (by decide), decide_eq_true_iff]; omega) a1 a2 a3 a4

set_option maxRecDepth 100000 in
set_option maxHeartbeats 3200000 in
theorem lawSmall_main {b : Nat} (h : Fin64 b) (h1 : 4485585228861014016 ≤ rg b) (h2 : rg b ≤ 4604930618986332160) (w : World) (hT : Tab w) :
    Calls Tryd.prog 4 #[.int .u64 b] w fun E w' => E = .returned (.bool true) ∧ Below w.heap.size w w' := by
  have hne : rg b ≠ 0 := by omega
  have HA := Lib.hid awake_calls
  have HR := Lib.hid (fun w0 => reducible_calls b true (by
    rw [show pSz b = rg b from rfl, decide_eq_true h1, decide_eq_true (show rg b < 9218868437227405312 by omega)]; rfl) w0)
  have HD := Lib.hid (fun w0 => reduce_small h h1 h2 w0)
  have HB : Hid (∀ w0, Tab w0 → Calls Tryd.prog 11 #[ddV (b, 0), ddV (b, 0)] w0 fun E w' => E = .returned (.bool true) ∧ Below w0.heap.size w0 w') :=
    Lib.hid fun w0 hT => by
      have := beside_calls (b, 0) (b, 0) (ddok_one h hne) (ddok_one h hne) w0 hT
      rw [beside_self] at this
      exact this
  have HT := Lib.hid hT
  obtain ⟨m, m1, m2⟩ := small_quot h h2
  have g1 := hop (P := Tryd.prog) (fsub_self h)
  have g2 := hop (P := Tryd.prog) m1
  unfold fle at m2
  have hb64 := Lib.hid h.1
  have hmod : (b : Int) % 9223372036854775808 = ((rg b : Nat) : Int) := by unfold rg; omega
  have hgt : ¬ (((rg b : Nat) : Int) > 4604930618986332160) := by omega
  have HAbs0 : Hid (∀ w0, Calls Tryd.prog 12 #[.float .f64 0] w0 fun E w' => E = .returned (.float .f64 0) ∧ w0 = w') := Lib.hid fun w0 => abs_calls 0 (by decide) w0
  have HAbsb : Hid (∀ w0, Calls Tryd.prog 12 #[.float .f64 b] w0 fun E w' => E = .returned (.float .f64 (fabs b)) ∧ w0 = w') := Lib.hid fun w0 => abs_calls b h.1 w0
  generalize rg b = rb at *
  generalize fabs b = ab at *
  clear h h1 h2 hne hT m1
  unfold ddV redV at *
  have HW0 : Hid (Below w.heap.size w w) := Lib.hid (Below.refl _ _)
  go_enter Tryd.func4, Tryd.ntmps4
  go_wp2_with fail
  refine Calls.mono (HA.out _) ?_
  rintro E w1 ⟨rfl, hb1⟩
  obtain ⟨hc1, hf1⟩ := bcell hb1
  have HW1 : Hid (Below w.heap.size w w1) := Lib.hid (by
    refine Below.trans ?_ (hb1.mono ?_)
    · (repeat (first | with_reducible exact HW0.out | refine Below.setCell (p := ⟨_, _, _⟩) ?_ (by first | omega | (simp; done) | (simp; omega)) _ | refine Below.alloc ?_ (by first | omega | (simp; done) | (simp; omega)) _ | refine Below.drew ?_ | refine below_dn ?_ _))
    · first | omega | (simp; done) | (simp; omega))
  have hS0_1 : Hid (SameB w.heap.size 0 w w1) := Lib.hid (by
    refine SameB.below ?_ hb1
    (repeat (first | with_reducible exact SameB.refl _ _ _ | refine SameB.setCell (p := ⟨_, _, _⟩) ?_ (by first | omega | (simp; done) | (simp; omega)) (by first | omega | (simp; done) | (simp; omega)) _ | refine SameB.setNew (p := ⟨_, _, _⟩) ?_ (by first | omega | (simp; done) | (simp; omega)) _ | refine SameB.alloc ?_ _ | refine SameB.drew ?_ | refine SameB.drewN ?_ _)))
  have hs1 : w.heap.size ≤ w1.heap.size := by have := hb1.size; (try simp at this); omega
  clear hc1 hf1
  clear hb1
  go_wp2_with fail
  refine Calls.mono (HR.out _) ?_
  rintro E w2 ⟨rfl, hb2⟩
  obtain ⟨hc2, hf2⟩ := bcell hb2
  have HW2 : Hid (Below w.heap.size w w2) := Lib.hid (by
    refine Below.trans ?_ (hb2.mono ?_)
    · (repeat (first | with_reducible exact HW1.out | refine Below.setCell (p := ⟨_, _, _⟩) ?_ (by first | omega | (simp; done) | (simp; omega)) _ | refine Below.alloc ?_ (by first | omega | (simp; done) | (simp; omega)) _ | refine Below.drew ?_ | refine below_dn ?_ _))
    · first | omega | (simp; done) | (simp; omega))
  have hS1_2 : Hid (SameB w.heap.size 0 w1 w2) := Lib.hid (by
    refine SameB.below ?_ hb2
    (repeat (first | with_reducible exact SameB.refl _ _ _ | refine SameB.setCell (p := ⟨_, _, _⟩) ?_ (by first | omega | (simp; done) | (simp; omega)) (by first | omega | (simp; done) | (simp; omega)) _ | refine SameB.setNew (p := ⟨_, _, _⟩) ?_ (by first | omega | (simp; done) | (simp; omega)) _ | refine SameB.alloc ?_ _ | refine SameB.drew ?_ | refine SameB.drewN ?_ _)))
  have hS0_2 := Lib.hid (hS0_1.out.trans hS1_2.out)
  have hs2 : w.heap.size ≤ w2.heap.size := by have := hb2.size; (try simp at this); omega
  clear hc2 hf2
  clear hb2
  go_wp2_with fail
  refine Calls.mono (HD.out _) ?_
  rintro E w3 ⟨rfl, hb3⟩
  obtain ⟨hc3, hf3⟩ := bcell hb3
  have HW3 : Hid (Below w.heap.size w w3) := Lib.hid (by
    refine Below.trans ?_ (hb3.mono ?_)
    · (repeat (first | with_reducible exact HW2.out | refine Below.setCell (p := ⟨_, _, _⟩) ?_ (by first | omega | (simp; done) | (simp; omega)) _ | refine Below.alloc ?_ (by first | omega | (simp; done) | (simp; omega)) _ | refine Below.drew ?_ | refine below_dn ?_ _))
    · first | omega | (simp; done) | (simp; omega))
  have hS2_3 : Hid (SameB w.heap.size 0 w2 w3) := Lib.hid (by
    refine SameB.below ?_ hb3
    (repeat (first | with_reducible exact SameB.refl _ _ _ | refine SameB.setCell (p := ⟨_, _, _⟩) ?_ (by first | omega | (simp; done) | (simp; omega)) (by first | omega | (simp; done) | (simp; omega)) _ | refine SameB.setNew (p := ⟨_, _, _⟩) ?_ (by first | omega | (simp; done) | (simp; omega)) _ | refine SameB.alloc ?_ _ | refine SameB.drew ?_ | refine SameB.drewN ?_ _)))
  have hS0_3 := Lib.hid (hS0_2.out.trans hS2_3.out)
  have hS1_3 := Lib.hid (hS1_2.out.trans hS2_3.out)
  have hs3 : w.heap.size ≤ w3.heap.size := by have := hb3.size; (try simp at this); omega
  clear hc3 hf3
  clear hb3
  unfold ddV
  go_wp2_with fail
  refine Calls.mono (HB.out _ (HT.out.below (by (repeat (first | with_reducible exact HW3.out | refine Below.setCell (p := ⟨_, _, _⟩) ?_ (by first | omega | (simp; done) | (simp; omega)) _ | refine Below.alloc ?_ (by first | omega | (simp; done) | (simp; omega)) _ | refine Below.drew ?_ | refine below_dn ?_ _))))) ?_
  rintro E w4 ⟨rfl, hb4⟩
  obtain ⟨hc4, hf4⟩ := bcell hb4
  have HW4 : Hid (Below w.heap.size w w4) := Lib.hid (by
    refine Below.trans ?_ (hb4.mono ?_)
    · (repeat (first | with_reducible exact HW3.out | refine Below.setCell (p := ⟨_, _, _⟩) ?_ (by first | omega | (simp; done) | (simp; omega)) _ | refine Below.alloc ?_ (by first | omega | (simp; done) | (simp; omega)) _ | refine Below.drew ?_ | refine below_dn ?_ _))
    · first | omega | (simp; done) | (simp; omega))
  have hS3_4 : Hid (SameB w.heap.size 0 w3 w4) := Lib.hid (by
    refine SameB.below ?_ hb4
    (repeat (first | with_reducible exact SameB.refl _ _ _ | refine SameB.setCell (p := ⟨_, _, _⟩) ?_ (by first | omega | (simp; done) | (simp; omega)) (by first | omega | (simp; done) | (simp; omega)) _ | refine SameB.setNew (p := ⟨_, _, _⟩) ?_ (by first | omega | (simp; done) | (simp; omega)) _ | refine SameB.alloc ?_ _ | refine SameB.drew ?_ | refine SameB.drewN ?_ _)))
  have hS0_4 := Lib.hid (hS0_3.out.trans hS3_4.out)
  have hS1_4 := Lib.hid (hS1_3.out.trans hS3_4.out)
  have hS2_4 := Lib.hid (hS2_3.out.trans hS3_4.out)
  have hs4 : w.heap.size ≤ w4.heap.size := by have := hb4.size; (try simp at this); omega
  have hsx4_0 : w3.heap.size + 1 ≤ w4.heap.size := by have := hb4.size; (try simp at this); omega
  have hx4_0 := fun o : Nat => hc4 (w3.heap.size) o (by first | omega | (simp; done) | (simp; omega))
  have hxf4_0 := fun o : Nat => hf4 (w3.heap.size) o (by first | omega | (simp; done) | (simp; omega))
  clear hc4 hf4
  clear hb4
  go_wp2_with fail
  refine (HAbs0.out _).mono ?_
  rintro E w' ⟨rfl, rfl⟩
  go_wp2_with fail
  refine (HAbsb.out _).mono ?_
  rintro E w' ⟨rfl, rfl⟩
  go_wp2_with fail
  go_ret
  exact ⟨rfl, by (repeat (first | with_reducible exact HW4.out | refine Below.setCell (p := ⟨_, _, _⟩) ?_ (by first | omega | (simp; done) | (simp; omega)) _ | refine Below.alloc ?_ (by first | omega | (simp; done) | (simp; omega)) _ | refine Below.drew ?_ | refine below_dn ?_ _))⟩

set_option maxRecDepth 100000 in
set_option maxHeartbeats 3200000 in
theorem lawSmall_out (b : Nat) (h : (decide (4485585228861014016 ≤ pSz b) && decide (pSz b < 9218868437227405312)) = false) (w : World) :
    Calls Tryd.prog 4 #[.int .u64 b] w fun E w' => E = .returned (.bool true) ∧ Below w.heap.size w w' := by
  have HA := Lib.hid awake_calls
  have HR := Lib.hid (fun w0 => reducible_calls b false h w0)
  clear h
  have HW0 : Hid (Below w.heap.size w w) := Lib.hid (Below.refl _ _)
  go_enter Tryd.func4, Tryd.ntmps4
  go_wp2_with fail
  refine Calls.mono (HA.out _) ?_
  rintro E w1 ⟨rfl, hb1⟩
  obtain ⟨hc1, hf1⟩ := bcell hb1
  have HW1 : Hid (Below w.heap.size w w1) := Lib.hid (by
    refine Below.trans ?_ (hb1.mono ?_)
    · (repeat (first | with_reducible exact HW0.out | refine Below.setCell (p := ⟨_, _, _⟩) ?_ (by first | omega | (simp; done) | (simp; omega)) _ | refine Below.alloc ?_ (by first | omega | (simp; done) | (simp; omega)) _ | refine Below.drew ?_ | refine below_dn ?_ _))
    · first | omega | (simp; done) | (simp; omega))
  have hS0_1 : Hid (SameB w.heap.size 0 w w1) := Lib.hid (by
    refine SameB.below ?_ hb1
    (repeat (first | with_reducible exact SameB.refl _ _ _ | refine SameB.setCell (p := ⟨_, _, _⟩) ?_ (by first | omega | (simp; done) | (simp; omega)) (by first | omega | (simp; done) | (simp; omega)) _ | refine SameB.setNew (p := ⟨_, _, _⟩) ?_ (by first | omega | (simp; done) | (simp; omega)) _ | refine SameB.alloc ?_ _ | refine SameB.drew ?_ | refine SameB.drewN ?_ _)))
  have hs1 : w.heap.size ≤ w1.heap.size := by have := hb1.size; (try simp at this); omega
  clear hc1 hf1
  clear hb1
  go_wp2_with fail
  refine Calls.mono (HR.out _) ?_
  rintro E w2 ⟨rfl, hb2⟩
  obtain ⟨hc2, hf2⟩ := bcell hb2
  have HW2 : Hid (Below w.heap.size w w2) := Lib.hid (by
    refine Below.trans ?_ (hb2.mono ?_)
    · (repeat (first | with_reducible exact HW1.out | refine Below.setCell (p := ⟨_, _, _⟩) ?_ (by first | omega | (simp; done) | (simp; omega)) _ | refine Below.alloc ?_ (by first | omega | (simp; done) | (simp; omega)) _ | refine Below.drew ?_ | refine below_dn ?_ _))
    · first | omega | (simp; done) | (simp; omega))
  have hS1_2 : Hid (SameB w.heap.size 0 w1 w2) := Lib.hid (by
    refine SameB.below ?_ hb2
    (repeat (first | with_reducible exact SameB.refl _ _ _ | refine SameB.setCell (p := ⟨_, _, _⟩) ?_ (by first | omega | (simp; done) | (simp; omega)) (by first | omega | (simp; done) | (simp; omega)) _ | refine SameB.setNew (p := ⟨_, _, _⟩) ?_ (by first | omega | (simp; done) | (simp; omega)) _ | refine SameB.alloc ?_ _ | refine SameB.drew ?_ | refine SameB.drewN ?_ _)))
  have hS0_2 := Lib.hid (hS0_1.out.trans hS1_2.out)
  have hs2 : w.heap.size ≤ w2.heap.size := by have := hb2.size; (try simp at this); omega
  clear hc2 hf2
  clear hb2
  go_wp2_with fail
  go_ret
  exact ⟨rfl, by (repeat (first | with_reducible exact HW2.out | refine Below.setCell (p := ⟨_, _, _⟩) ?_ (by first | omega | (simp; done) | (simp; omega)) _ | refine Below.alloc ?_ (by first | omega | (simp; done) | (simp; omega)) _ | refine Below.drew ?_ | refine below_dn ?_ _))⟩

set_option maxRecDepth 100000 in
set_option maxHeartbeats 3200000 in
theorem lawSmall_great (b : Nat) (h : (decide (4485585228861014016 ≤ pSz b) && decide (pSz b < 9218868437227405312)) = true) (hg : 4604930618986332160 < pSz b) (w : World) :
    Calls Tryd.prog 4 #[.int .u64 b] w fun E w' => E = .returned (.bool true) ∧ Below w.heap.size w w' := by
  have HA := Lib.hid awake_calls
  have HR := Lib.hid (fun w0 => reducible_calls b true h w0)
  have hmod : (b : Int) % 9223372036854775808 = ((pSz b : Nat) : Int) := by unfold pSz; omega
  have hgt : (((pSz b : Nat) : Int) > 4604930618986332160) := by omega
  generalize pSz b = rb at *
  clear h hg
  have HW0 : Hid (Below w.heap.size w w) := Lib.hid (Below.refl _ _)
  go_enter Tryd.func4, Tryd.ntmps4
  go_wp2_with fail
  refine Calls.mono (HA.out _) ?_
  rintro E w1 ⟨rfl, hb1⟩
  obtain ⟨hc1, hf1⟩ := bcell hb1
  have HW1 : Hid (Below w.heap.size w w1) := Lib.hid (by
    refine Below.trans ?_ (hb1.mono ?_)
    · (repeat (first | with_reducible exact HW0.out | refine Below.setCell (p := ⟨_, _, _⟩) ?_ (by first | omega | (simp; done) | (simp; omega)) _ | refine Below.alloc ?_ (by first | omega | (simp; done) | (simp; omega)) _ | refine Below.drew ?_ | refine below_dn ?_ _))
    · first | omega | (simp; done) | (simp; omega))
  have hS0_1 : Hid (SameB w.heap.size 0 w w1) := Lib.hid (by
    refine SameB.below ?_ hb1
    (repeat (first | with_reducible exact SameB.refl _ _ _ | refine SameB.setCell (p := ⟨_, _, _⟩) ?_ (by first | omega | (simp; done) | (simp; omega)) (by first | omega | (simp; done) | (simp; omega)) _ | refine SameB.setNew (p := ⟨_, _, _⟩) ?_ (by first | omega | (simp; done) | (simp; omega)) _ | refine SameB.alloc ?_ _ | refine SameB.drew ?_ | refine SameB.drewN ?_ _)))
  have hs1 : w.heap.size ≤ w1.heap.size := by have := hb1.size; (try simp at this); omega
  clear hc1 hf1
  clear hb1
  go_wp2_with fail
  refine Calls.mono (HR.out _) ?_
  rintro E w2 ⟨rfl, hb2⟩
  obtain ⟨hc2, hf2⟩ := bcell hb2
  have HW2 : Hid (Below w.heap.size w w2) := Lib.hid (by
    refine Below.trans ?_ (hb2.mono ?_)
    · (repeat (first | with_reducible exact HW1.out | refine Below.setCell (p := ⟨_, _, _⟩) ?_ (by first | omega | (simp; done) | (simp; omega)) _ | refine Below.alloc ?_ (by first | omega | (simp; done) | (simp; omega)) _ | refine Below.drew ?_ | refine below_dn ?_ _))
    · first | omega | (simp; done) | (simp; omega))
  have hS1_2 : Hid (SameB w.heap.size 0 w1 w2) := Lib.hid (by
    refine SameB.below ?_ hb2
    (repeat (first | with_reducible exact SameB.refl _ _ _ | refine SameB.setCell (p := ⟨_, _, _⟩) ?_ (by first | omega | (simp; done) | (simp; omega)) (by first | omega | (simp; done) | (simp; omega)) _ | refine SameB.setNew (p := ⟨_, _, _⟩) ?_ (by first | omega | (simp; done) | (simp; omega)) _ | refine SameB.alloc ?_ _ | refine SameB.drew ?_ | refine SameB.drewN ?_ _)))
  have hS0_2 := Lib.hid (hS0_1.out.trans hS1_2.out)
  have hs2 : w.heap.size ≤ w2.heap.size := by have := hb2.size; (try simp at this); omega
  clear hc2 hf2
  clear hb2
  go_wp2_with fail
  go_ret
  exact ⟨rfl, by (repeat (first | with_reducible exact HW2.out | refine Below.setCell (p := ⟨_, _, _⟩) ?_ (by first | omega | (simp; done) | (simp; omega)) _ | refine Below.alloc ?_ (by first | omega | (simp; done) | (simp; omega)) _ | refine Below.drew ?_ | refine below_dn ?_ _))⟩

theorem lawSmall_calls (b : Nat) (hb : b < 18446744073709551616) (w : World) (hT : Tab w) :
    Calls Tryd.prog 4 #[.int .u64 b] w fun E w' => E = .returned (.bool true) ∧ Below w.heap.size w w' := by
  cases h : (decide (4485585228861014016 ≤ pSz b) && decide (pSz b < 9218868437227405312)) with
  | false => exact lawSmall_out b h w
  | true =>
    rcases Nat.lt_or_ge 4604930618986332160 (pSz b) with hg | hg
    · exact lawSmall_great b h hg w
    · rw [Bool.and_eq_true, decide_eq_true_iff, decide_eq_true_iff] at h
      exact lawSmall_main ⟨hb, h.2⟩ h.1 hg w hT

end Go.Proofs.YtgihapdlliidgaaDoor
