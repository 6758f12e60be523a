/- The walks of package binary, for the patterns of binary64. -/
import Derived.Test.YtgihapdlliidgaaDoorDy2
namespace Go.Proofs.YtgihapdlliidgaaDoor
open Go Go.RowKit
set_option linter.unusedVariables false
set_option linter.unusedSimpArgs false

/-- the shape of binary64 -/
def shV : Value := .agg #[.int .i64 64, .int .i64 53, .int .i64 (-1074), .int .u64 9221120237041090561]

theorem buildSh (w : World) : (Instr.build 93 #[(0, .int .i64 64), (1, .int .i64 53), (2, .int .i64 (-1074)), (3, .int .u64 9221120237041090561)]).run Tryd.prog w = .ok (.agg #[.int .i64 64, .int .i64 53, .int .i64 (-1074), .int .u64 9221120237041090561]) w := run_build w 93 _ _ (by kernel_rfl)
theorem buildSh0 (w : World) : (Instr.build 93 #[]).run Tryd.prog w = .ok (.agg #[.int .i64 0, .int .i64 0, .int .i64 0, .int .u64 0]) w := run_build w 93 _ _ (by kernel_rfl)
attribute [go_sem] buildSh buildSh0

theorem binShapeOf_calls (w : World) :
    Calls Tryd.prog 94 #[.int .i64 64] w fun E w' => E = .returned shV ∧ Below w.heap.size w w' := by
  have HW0 : Hid (Below w.heap.size w w) := Lib.hid (Below.refl _ _)
  go_enter Tryd.func94, Tryd.ntmps94
  go_wp2_with fail
  refine bodyPost_ret (v := shV) (by simp [results, Tryd.results94, go_sem, intV, dyV, shV]) rfl ?_
  exact ⟨rfl, by (repeat (first | with_reducible exact HW0.out | refine Below.setCell (p := ⟨_, _, _⟩) ?_ (by first | omega | (simp; done) | (simp; omega)) _ | refine Below.alloc ?_ (by first | omega | (simp; done) | (simp; omega)) _ | refine Below.drew ?_ | refine below_dn ?_ _))⟩

theorem binSign_calls (w : World) :
    Calls Tryd.prog 95 #[shV] w fun E w' => E = .returned (.int .u64 9223372036854775808) ∧ Below w.heap.size w w' := by
  unfold shV
  have HW0 : Hid (Below w.heap.size w w) := Lib.hid (Below.refl _ _)
  go_enter Tryd.func95, Tryd.ntmps95
  go_wp2_with fail
  go_ret
  exact ⟨rfl, by (repeat (first | with_reducible exact HW0.out | refine Below.setCell (p := ⟨_, _, _⟩) ?_ (by first | omega | (simp; done) | (simp; omega)) _ | refine Below.alloc ?_ (by first | omega | (simp; done) | (simp; omega)) _ | refine Below.drew ?_ | refine below_dn ?_ _))⟩

theorem binHidden_calls (w : World) :
    Calls Tryd.prog 82 #[shV] w fun E w' => E = .returned (.int .u64 4503599627370496) ∧ Below w.heap.size w w' := by
  unfold shV
  have HW0 : Hid (Below w.heap.size w w) := Lib.hid (Below.refl _ _)
  go_enter Tryd.func82, Tryd.ntmps82
  go_wp2_with fail
  go_ret
  exact ⟨rfl, by (repeat (first | with_reducible exact HW0.out | refine Below.setCell (p := ⟨_, _, _⟩) ?_ (by first | omega | (simp; done) | (simp; omega)) _ | refine Below.alloc ?_ (by first | omega | (simp; done) | (simp; omega)) _ | refine Below.drew ?_ | refine below_dn ?_ _))⟩

/-- the size of the infinities, closed to the walk -/
def PINF : Nat := 9218868437227405312
theorem PINF_eq : PINF = 9218868437227405312 := rfl
attribute [irreducible] PINF

theorem binInf_calls (w : World) :
    Calls Tryd.prog 81 #[shV] w fun E w' => E = .returned (.int .u64 (PINF : Nat)) ∧ Below w.heap.size w w' := by
  rw [PINF_eq]
  unfold shV
  have HW0 : Hid (Below w.heap.size w w) := Lib.hid (Below.refl _ _)
  go_enter Tryd.func81, Tryd.ntmps81
  go_wp2_with fail
  go_region_with (first
      | ((have hguard := HW1; clear hguard)
         go_at_call 82
         refine Calls.mono (binHidden_calls _) ?_
         rintro E w2 ⟨rfl, hb2⟩
         obtain ⟨hc2, hf2⟩ := bcell hb2
         have HW2 : Hid (Below w.heap.size w w2) := Lib.hid (by
           refine Below.trans ?_ (hb2.mono ?_)
           · (repeat (first | with_reducible exact HW1.out | refine Below.setCell (p := ⟨_, _, _⟩) ?_ (by first | omega | (simp; done) | (simp; omega)) _ | refine Below.alloc ?_ (by first | omega | (simp; done) | (simp; omega)) _ | refine Below.drew ?_ | refine below_dn ?_ _))
           · first | omega | (simp; done) | (simp; omega))
         have hS1_2 : Hid (SameB w.heap.size 1 w1 w2) := Lib.hid (by
           refine SameB.below ?_ hb2
           (repeat (first | with_reducible exact SameB.refl _ _ _ | refine SameB.setCell (p := ⟨_, _, _⟩) ?_ (by first | omega | (simp; done) | (simp; omega)) (by first | omega | (simp; done) | (simp; omega)) _ | refine SameB.setNew (p := ⟨_, _, _⟩) ?_ (by first | omega | (simp; done) | (simp; omega)) _ | refine SameB.alloc ?_ _ | refine SameB.drew ?_ | refine SameB.drewN ?_ _)))
         have hS0_2 := Lib.hid (hS0_1.out.trans hS1_2.out)
         have hs2 : w.heap.size + 1 ≤ w2.heap.size := by have := hb2.size; (try simp at this); omega
         have hc2_0 := fun o : Nat => hc2 (w.heap.size) o (by first | omega | (simp; done) | (simp; omega))
         have hf2_0 := fun o : Nat => hf2 (w.heap.size) o (by first | omega | (simp; done) | (simp; omega))
         clear hc2 hf2
         clear hb2)
      | ((have hguard := HW0; clear hguard)
         go_at_call 95
         refine Calls.mono (binSign_calls _) ?_
         rintro E w1 ⟨rfl, hb1⟩
         obtain ⟨hc1, hf1⟩ := bcell hb1
         have HW1 : Hid (Below w.heap.size w w1) := Lib.hid (by
           refine Below.trans ?_ (hb1.mono ?_)
           · (repeat (first | with_reducible exact HW0.out | refine Below.setCell (p := ⟨_, _, _⟩) ?_ (by first | omega | (simp; done) | (simp; omega)) _ | refine Below.alloc ?_ (by first | omega | (simp; done) | (simp; omega)) _ | refine Below.drew ?_ | refine below_dn ?_ _))
           · first | omega | (simp; done) | (simp; omega))
         have hS0_1 : Hid (SameB w.heap.size 1 w w1) := Lib.hid (by
           refine SameB.below ?_ hb1
           (repeat (first | with_reducible exact SameB.refl _ _ _ | refine SameB.setCell (p := ⟨_, _, _⟩) ?_ (by first | omega | (simp; done) | (simp; omega)) (by first | omega | (simp; done) | (simp; omega)) _ | refine SameB.setNew (p := ⟨_, _, _⟩) ?_ (by first | omega | (simp; done) | (simp; omega)) _ | refine SameB.alloc ?_ _ | refine SameB.drew ?_ | refine SameB.drewN ?_ _)))
         have hs1 : w.heap.size + 1 ≤ w1.heap.size := by have := hb1.size; (try simp at this); omega
         have hc1_0 := fun o : Nat => hc1 (w.heap.size) o (by first | omega | (simp; done) | (simp; omega))
         have hf1_0 := fun o : Nat => hf1 (w.heap.size) o (by first | omega | (simp; done) | (simp; omega))
         clear hc1 hf1
         clear hb1))
  all_goals
    go_wp2_with fail
    go_ret
    exact ⟨rfl, by (repeat (first | with_reducible exact HW2.out | refine Below.setCell (p := ⟨_, _, _⟩) ?_ (by first | omega | (simp; done) | (simp; omega)) _ | refine Below.alloc ?_ (by first | omega | (simp; done) | (simp; omega)) _ | refine Below.drew ?_ | refine below_dn ?_ _))⟩

/-- sign and size of a pattern -/
def pSz (b : Nat) : Nat := b % 9223372036854775808
def pNeg (b : Nat) : Bool := decide (9223372036854775808 ≤ b)

theorem p_and (b : Nat) (h : b < 18446744073709551616) : (Go.bits .and .u64 (b : Int) 9223372036854775808 != 0) = pNeg b := by
  have e := bits_and_u64_nat b 9223372036854775808 h (by decide)
  rw [show ((9223372036854775808 : Nat) : Int) = 9223372036854775808 from rfl] at e
  rw [e]
  have h2 : b &&& 9223372036854775808 = if 9223372036854775808 ≤ b then 9223372036854775808 else 0 := by
    have e1 : b &&& 9223372036854775808 = 2 ^ 63 * ((b / 2 ^ 63) &&& 1) := by
      apply Nat.eq_of_testBit_eq
      intro i
      rw [Nat.testBit_and, Nat.mul_comm, Nat.testBit_mul_two_pow, Nat.testBit_and, Nat.testBit_div_two_pow, show (9223372036854775808 : Nat) = 2 ^ 63 from rfl, Nat.testBit_two_pow, Bool.eq_iff_iff]
      simp only [Bool.and_eq_true, decide_eq_true_eq, Nat.testBit_one_eq_true_iff_self_eq_zero]
      constructor
      · rintro ⟨a, rfl⟩; exact ⟨Nat.le_refl _, a, rfl⟩
      · rintro ⟨a, b, c⟩
        have : i = 63 := by omega
        subst this
        exact ⟨b, rfl⟩
    rw [e1, Nat.and_one_is_mod]
    split <;> omega
  rw [h2]
  unfold pNeg
  split
  · next h => rw [decide_eq_true h]; decide
  · next h => rw [decide_eq_false h]; decide

theorem p_andNot (b : Nat) (h : b < 18446744073709551616) : Go.bits .andNot .u64 (b : Int) 9223372036854775808 = (pSz b : Nat) := by
  have h1 : (BitVec.ofInt 64 (b : Int)).toNat = b := by
    rw [BitVec.ofInt_natCast, BitVec.toNat_ofNat]; exact Nat.mod_eq_of_lt (by omega)
  show IntKind.u64.wrap ((BitVec.ofInt 64 (b : Int) &&& ~~~ BitVec.ofInt 64 (9223372036854775808 : Int)).toNat : Int) = _
  rw [BitVec.toNat_and, h1, IntKind.wrap_u64]
  rw [show (~~~ BitVec.ofInt 64 (9223372036854775808 : Int)).toNat = 2 ^ 63 - 1 from by decide, Nat.and_two_pow_sub_one_eq_mod]
  unfold pSz
  omega

set_option maxHeartbeats 1600000 in
theorem binTake_calls (b : Nat) (h : b < 18446744073709551616) (w : World) :
    Calls Tryd.prog 80 #[.int .i64 64, .int .u64 b] w fun E w' => E = .returned (.tuple #[shV, .bool (pNeg b), .int .u64 (pSz b), .int .i64 0]) ∧ Below w.heap.size w w' := by
  have h1 := p_and b h
  have h2 := p_andNot b h
  generalize pNeg b = ng at *
  generalize pSz b = sz at *
  have HW0 : Hid (Below w.heap.size w w) := Lib.hid (Below.refl _ _)
  go_enter Tryd.func80, Tryd.ntmps80
  go_wp2_with fail
  refine Calls.mono (binShapeOf_calls _) ?_
  rintro E w1 ⟨rfl, hb1⟩
  obtain ⟨hc1, hf1⟩ := bcell hb1
  have HW1 : Hid (Below w.heap.size w w1) := Lib.hid (by
    refine Below.trans ?_ (hb1.mono ?_)
    · (repeat (first | with_reducible exact HW0.out | refine Below.setCell (p := ⟨_, _, _⟩) ?_ (by first | omega | (simp; done) | (simp; omega)) _ | refine Below.alloc ?_ (by first | omega | (simp; done) | (simp; omega)) _ | refine Below.drew ?_ | refine below_dn ?_ _))
    · first | omega | (simp; done) | (simp; omega))
  have hS0_1 : Hid (SameB w.heap.size 1 w w1) := Lib.hid (by
    refine SameB.below ?_ hb1
    (repeat (first | with_reducible exact SameB.refl _ _ _ | refine SameB.setCell (p := ⟨_, _, _⟩) ?_ (by first | omega | (simp; done) | (simp; omega)) (by first | omega | (simp; done) | (simp; omega)) _ | refine SameB.setNew (p := ⟨_, _, _⟩) ?_ (by first | omega | (simp; done) | (simp; omega)) _ | refine SameB.alloc ?_ _ | refine SameB.drew ?_ | refine SameB.drewN ?_ _)))
  have hs1 : w.heap.size + 1 ≤ w1.heap.size := by have := hb1.size; (try simp at this); omega
  have hc1_0 := fun o : Nat => hc1 (w.heap.size) o (by first | omega | (simp; done) | (simp; omega))
  have hf1_0 := fun o : Nat => hf1 (w.heap.size) o (by first | omega | (simp; done) | (simp; omega))
  clear hc1 hf1
  clear hb1
  unfold shV
  have hlt : w.heap.size < w1.heap.size := by omega
  have hne : ¬ w.heap.size = w1.heap.size := by omega
  have hen : ¬ w1.heap.size = w.heap.size := by omega
  go_wp2_with fail
  go_region_with (first
      | ((have hguard := HW2; clear hguard)
         go_at_call 95
         refine Calls.mono (binSign_calls _) ?_
         rintro E w3 ⟨rfl, hb3⟩
         obtain ⟨hc3, hf3⟩ := bcell hb3
         have HW3 : Hid (Below w.heap.size w w3) := Lib.hid (by
           refine Below.trans ?_ (hb3.mono ?_)
           · (repeat (first | with_reducible exact HW2.out | refine Below.setCell (p := ⟨_, _, _⟩) ?_ (by first | omega | (simp; done) | (simp; omega)) _ | refine Below.alloc ?_ (by first | omega | (simp; done) | (simp; omega)) _ | refine Below.drew ?_ | refine below_dn ?_ _))
           · first | omega | (simp; done) | (simp; omega))
         have hS2_3 : Hid (SameB w.heap.size 1 w2 w3) := Lib.hid (by
           refine SameB.below ?_ hb3
           (repeat (first | with_reducible exact SameB.refl _ _ _ | refine SameB.setCell (p := ⟨_, _, _⟩) ?_ (by first | omega | (simp; done) | (simp; omega)) (by first | omega | (simp; done) | (simp; omega)) _ | refine SameB.setNew (p := ⟨_, _, _⟩) ?_ (by first | omega | (simp; done) | (simp; omega)) _ | refine SameB.alloc ?_ _ | refine SameB.drew ?_ | refine SameB.drewN ?_ _)))
         have hS0_3 := Lib.hid (hS0_2.out.trans hS2_3.out)
         have hS1_3 := Lib.hid (hS1_2.out.trans hS2_3.out)
         have hs3 : w.heap.size + 1 ≤ w3.heap.size := by have := hb3.size; (try simp at this); omega
         have hc3_0 := fun o : Nat => hc3 (w.heap.size) o (by first | omega | (simp; done) | (simp; omega))
         have hf3_0 := fun o : Nat => hf3 (w.heap.size) o (by first | omega | (simp; done) | (simp; omega))
         have hsx3_0 : w1.heap.size + 1 ≤ w3.heap.size := by have := hb3.size; (try simp at this); omega
         have hx3_0 := fun o : Nat => hc3 (w1.heap.size) o (by first | omega | (simp; done) | (simp; omega))
         have hxf3_0 := fun o : Nat => hf3 (w1.heap.size) o (by first | omega | (simp; done) | (simp; omega))
         clear hc3 hf3
         clear hb3)
      | ((have hguard := HW1; clear hguard)
         go_at_call 95
         refine Calls.mono (binSign_calls _) ?_
         rintro E w2 ⟨rfl, hb2⟩
         obtain ⟨hc2, hf2⟩ := bcell hb2
         have HW2 : Hid (Below w.heap.size w w2) := Lib.hid (by
           refine Below.trans ?_ (hb2.mono ?_)
           · (repeat (first | with_reducible exact HW1.out | refine Below.setCell (p := ⟨_, _, _⟩) ?_ (by first | omega | (simp; done) | (simp; omega)) _ | refine Below.alloc ?_ (by first | omega | (simp; done) | (simp; omega)) _ | refine Below.drew ?_ | refine below_dn ?_ _))
           · first | omega | (simp; done) | (simp; omega))
         have hS1_2 : Hid (SameB w.heap.size 1 w1 w2) := Lib.hid (by
           refine SameB.below ?_ hb2
           (repeat (first | with_reducible exact SameB.refl _ _ _ | refine SameB.setCell (p := ⟨_, _, _⟩) ?_ (by first | omega | (simp; done) | (simp; omega)) (by first | omega | (simp; done) | (simp; omega)) _ | refine SameB.setNew (p := ⟨_, _, _⟩) ?_ (by first | omega | (simp; done) | (simp; omega)) _ | refine SameB.alloc ?_ _ | refine SameB.drew ?_ | refine SameB.drewN ?_ _)))
         have hS0_2 := Lib.hid (hS0_1.out.trans hS1_2.out)
         have hs2 : w.heap.size + 1 ≤ w2.heap.size := by have := hb2.size; (try simp at this); omega
         have hc2_0 := fun o : Nat => hc2 (w.heap.size) o (by first | omega | (simp; done) | (simp; omega))
         have hf2_0 := fun o : Nat => hf2 (w.heap.size) o (by first | omega | (simp; done) | (simp; omega))
         have hsx2_0 : w1.heap.size + 1 ≤ w2.heap.size := by have := hb2.size; (try simp at this); omega
         have hx2_0 := fun o : Nat => hc2 (w1.heap.size) o (by first | omega | (simp; done) | (simp; omega))
         have hxf2_0 := fun o : Nat => hf2 (w1.heap.size) o (by first | omega | (simp; done) | (simp; omega))
         clear hc2 hf2
         clear hb2))
  all_goals
    go_wp2_with fail
    refine bodyPost_ret (v := .tuple #[shV, .bool ng, .int .u64 sz, .int .i64 0]) (by simp [results, Tryd.results80, go_sem, intV, dyV, shV, hlt, hne, hen, hc1_0, hf1_0, hc2_0, hf2_0, hc3_0, hf3_0, hx2_0, hxf2_0, hx3_0, hxf3_0]) rfl ?_
    exact ⟨rfl, by (repeat (first | with_reducible exact HW3.out | refine Below.setCell (p := ⟨_, _, _⟩) ?_ (by first | omega | (simp; done) | (simp; omega)) _ | refine Below.alloc ?_ (by first | omega | (simp; done) | (simp; omega)) _ | refine Below.drew ?_ | refine below_dn ?_ _))⟩

set_option maxRecDepth 100000 in
set_option maxHeartbeats 1600000 in
theorem binFinite_calls (b : Nat) (h : b < 18446744073709551616) (hf : pSz b < PINF) (w : World) :
    Calls Tryd.prog 64 #[.int .i64 64, .int .u64 b] w fun E w' => E = .returned (.tuple #[shV, .bool (pNeg b), .int .u64 (pSz b), .int .i64 0]) ∧ Below w.heap.size w w' := by
  have H := Lib.hid (binTake_calls b h)
  have hge : ¬ ((PINF : Int) ≤ (pSz b : Int)) := by omega
  clear h hf
  generalize pNeg b = ng at *
  generalize pSz b = sz at *
  have HW0 : Hid (Below w.heap.size w w) := Lib.hid (Below.refl _ _)
  go_enter Tryd.func64, Tryd.ntmps64
  go_wp2_with fail
  refine Calls.mono (H.out _) ?_
  rintro E w1 ⟨rfl, hb1⟩
  obtain ⟨hc1, hf1⟩ := bcell hb1
  have HW1 : Hid (Below w.heap.size w w1) := Lib.hid (by
    refine Below.trans ?_ (hb1.mono ?_)
    · (repeat (first | with_reducible exact HW0.out | refine Below.setCell (p := ⟨_, _, _⟩) ?_ (by first | omega | (simp; done) | (simp; omega)) _ | refine Below.alloc ?_ (by first | omega | (simp; done) | (simp; omega)) _ | refine Below.drew ?_ | refine below_dn ?_ _))
    · first | omega | (simp; done) | (simp; omega))
  have hS0_1 : Hid (SameB w.heap.size 1 w w1) := Lib.hid (by
    refine SameB.below ?_ hb1
    (repeat (first | with_reducible exact SameB.refl _ _ _ | refine SameB.setCell (p := ⟨_, _, _⟩) ?_ (by first | omega | (simp; done) | (simp; omega)) (by first | omega | (simp; done) | (simp; omega)) _ | refine SameB.setNew (p := ⟨_, _, _⟩) ?_ (by first | omega | (simp; done) | (simp; omega)) _ | refine SameB.alloc ?_ _ | refine SameB.drew ?_ | refine SameB.drewN ?_ _)))
  have hs1 : w.heap.size + 1 ≤ w1.heap.size := by have := hb1.size; (try simp at this); omega
  have hc1_0 := fun o : Nat => hc1 (w.heap.size) o (by first | omega | (simp; done) | (simp; omega))
  have hf1_0 := fun o : Nat => hf1 (w.heap.size) o (by first | omega | (simp; done) | (simp; omega))
  clear hc1 hf1
  clear hb1
  unfold shV
  have hlt2_0 : w.heap.size < w1.heap.size := by omega
  have hne2_0 : ¬ (w.heap.size = w1.heap.size) := by omega
  have hen2_0 : ¬ (w1.heap.size = w.heap.size) := by omega
  go_wp2_with fail
  refine Calls.mono (binInf_calls _) ?_
  rintro E w2 ⟨rfl, hb2⟩
  obtain ⟨hc2, hf2⟩ := bcell hb2
  have HW2 : Hid (Below w.heap.size w w2) := Lib.hid (by
    refine Below.trans ?_ (hb2.mono ?_)
    · (repeat (first | with_reducible exact HW1.out | refine Below.setCell (p := ⟨_, _, _⟩) ?_ (by first | omega | (simp; done) | (simp; omega)) _ | refine Below.alloc ?_ (by first | omega | (simp; done) | (simp; omega)) _ | refine Below.drew ?_ | refine below_dn ?_ _))
    · first | omega | (simp; done) | (simp; omega))
  have hS1_2 : Hid (SameB w.heap.size 1 w1 w2) := Lib.hid (by
    refine SameB.below ?_ hb2
    (repeat (first | with_reducible exact SameB.refl _ _ _ | refine SameB.setCell (p := ⟨_, _, _⟩) ?_ (by first | omega | (simp; done) | (simp; omega)) (by first | omega | (simp; done) | (simp; omega)) _ | refine SameB.setNew (p := ⟨_, _, _⟩) ?_ (by first | omega | (simp; done) | (simp; omega)) _ | refine SameB.alloc ?_ _ | refine SameB.drew ?_ | refine SameB.drewN ?_ _)))
  have hS0_2 := Lib.hid (hS0_1.out.trans hS1_2.out)
  have hs2 : w.heap.size + 1 ≤ w2.heap.size := by have := hb2.size; (try simp at this); omega
  have hc2_0 := fun o : Nat => hc2 (w.heap.size) o (by first | omega | (simp; done) | (simp; omega))
  have hf2_0 := fun o : Nat => hf2 (w.heap.size) o (by first | omega | (simp; done) | (simp; omega))
  have hsx2_0 : w1.heap.size + 1 ≤ w2.heap.size := by have := hb2.size; (try simp at this); omega
  have hx2_0 := fun o : Nat => hc2 (w1.heap.size) o (by first | omega | (simp; done) | (simp; omega))
  have hxf2_0 := fun o : Nat => hf2 (w1.heap.size) o (by first | omega | (simp; done) | (simp; omega))
  clear hc2 hf2
  clear hb2
  go_wp2_with fail
  refine bodyPost_ret (v := .tuple #[shV, .bool ng, .int .u64 sz, .int .i64 0]) (by simp [results, Tryd.results64, go_sem, intV, dyV, shV, hc1_0, hf1_0, hc2_0, hf2_0, hlt2_0, hne2_0, hen2_0, hx2_0, hxf2_0]) rfl ?_
  exact ⟨rfl, by (repeat (first | with_reducible exact HW2.out | refine Below.setCell (p := ⟨_, _, _⟩) ?_ (by first | omega | (simp; done) | (simp; omega)) _ | refine Below.alloc ?_ (by first | omega | (simp; done) | (simp; omega)) _ | refine Below.drew ?_ | refine below_dn ?_ _))⟩

/-- mantissa and exponent of a size -/
def pMan (s : Nat) : Nat := if s / 4503599627370496 = 0 then s % 4503599627370496 else 4503599627370496 + s % 4503599627370496
def pExp (s : Nat) : Int := if s / 4503599627370496 = 0 then -1074 else -1074 + (s / 4503599627370496 : Nat) - 1

set_option maxRecDepth 100000 in
set_option maxHeartbeats 1600000 in
theorem binParts_calls (s : Nat) (hf' : s < PINF) (w : World) :
    Calls Tryd.prog 65 #[shV, .int .u64 s] w fun E w' => E = .returned (.tuple #[.int .u64 (pMan s), .int .i64 (pExp s)]) ∧ Below w.heap.size w w' := by
  have hf : s < 9218868437227405312 := by rw [PINF_eq] at hf'; exact hf'
  clear hf'
  have hq : ((s : Int) / 4503599627370496) = ((s / 4503599627370496 : Nat) : Int) := by omega
  have hr : ((s : Int) % 4503599627370496) = ((s % 4503599627370496 : Nat) : Int) := by omega
  by_cases h0 : s / 4503599627370496 = 0
  · have e1 : pMan s = s % 4503599627370496 := by unfold pMan; rw [if_pos h0]
    have e2 : pExp s = -1074 := by unfold pExp; rw [if_pos h0]
    rw [e1, e2]
    have hq0 : ((s : Int) / 4503599627370496) = 0 := by omega
    generalize hR : s % 4503599627370496 = r at *
    clear h0 e1 e2 hR hq
    unfold shV
    have HW0 : Hid (Below w.heap.size w w) := Lib.hid (Below.refl _ _)
    go_enter Tryd.func65, Tryd.ntmps65
    go_wp2_with fail
    refine Calls.mono (binHidden_calls _) ?_
    rintro E w1 ⟨rfl, hb1⟩
    obtain ⟨hc1, hf1⟩ := bcell hb1
    have HW1 : Hid (Below w.heap.size w w1) := Lib.hid (by
      refine Below.trans ?_ (hb1.mono ?_)
      · (repeat (first | with_reducible exact HW0.out | refine Below.setCell (p := ⟨_, _, _⟩) ?_ (by first | omega | (simp; done) | (simp; omega)) _ | refine Below.alloc ?_ (by first | omega | (simp; done) | (simp; omega)) _ | refine Below.drew ?_ | refine below_dn ?_ _))
      · first | omega | (simp; done) | (simp; omega))
    have hS0_1 : Hid (SameB w.heap.size 1 w w1) := Lib.hid (by
      refine SameB.below ?_ hb1
      (repeat (first | with_reducible exact SameB.refl _ _ _ | refine SameB.setCell (p := ⟨_, _, _⟩) ?_ (by first | omega | (simp; done) | (simp; omega)) (by first | omega | (simp; done) | (simp; omega)) _ | refine SameB.setNew (p := ⟨_, _, _⟩) ?_ (by first | omega | (simp; done) | (simp; omega)) _ | refine SameB.alloc ?_ _ | refine SameB.drew ?_ | refine SameB.drewN ?_ _)))
    have hs1 : w.heap.size + 1 ≤ w1.heap.size := by have := hb1.size; (try simp at this); omega
    have hc1_0 := fun o : Nat => hc1 (w.heap.size) o (by first | omega | (simp; done) | (simp; omega))
    have hf1_0 := fun o : Nat => hf1 (w.heap.size) o (by first | omega | (simp; done) | (simp; omega))
    clear hc1 hf1
    clear hb1
    go_wp2_with fail
    refine Calls.mono (binHidden_calls _) ?_
    rintro E w2 ⟨rfl, hb2⟩
    obtain ⟨hc2, hf2⟩ := bcell hb2
    have HW2 : Hid (Below w.heap.size w w2) := Lib.hid (by
      refine Below.trans ?_ (hb2.mono ?_)
      · (repeat (first | with_reducible exact HW1.out | refine Below.setCell (p := ⟨_, _, _⟩) ?_ (by first | omega | (simp; done) | (simp; omega)) _ | refine Below.alloc ?_ (by first | omega | (simp; done) | (simp; omega)) _ | refine Below.drew ?_ | refine below_dn ?_ _))
      · first | omega | (simp; done) | (simp; omega))
    have hS1_2 : Hid (SameB w.heap.size 1 w1 w2) := Lib.hid (by
      refine SameB.below ?_ hb2
      (repeat (first | with_reducible exact SameB.refl _ _ _ | refine SameB.setCell (p := ⟨_, _, _⟩) ?_ (by first | omega | (simp; done) | (simp; omega)) (by first | omega | (simp; done) | (simp; omega)) _ | refine SameB.setNew (p := ⟨_, _, _⟩) ?_ (by first | omega | (simp; done) | (simp; omega)) _ | refine SameB.alloc ?_ _ | refine SameB.drew ?_ | refine SameB.drewN ?_ _)))
    have hS0_2 := Lib.hid (hS0_1.out.trans hS1_2.out)
    have hs2 : w.heap.size + 1 ≤ w2.heap.size := by have := hb2.size; (try simp at this); omega
    have hc2_0 := fun o : Nat => hc2 (w.heap.size) o (by first | omega | (simp; done) | (simp; omega))
    have hf2_0 := fun o : Nat => hf2 (w.heap.size) o (by first | omega | (simp; done) | (simp; omega))
    clear hc2 hf2
    clear hb2
    go_wp2_with fail
    go_region
    all_goals
      go_wp2_with fail
      refine bodyPost_ret (v := .tuple #[.int .u64 r, .int .i64 (-1074)]) (by simp [results, Tryd.results65, go_sem, intV, dyV, hr, hc1_0, hf1_0, hc2_0, hf2_0]) rfl ?_
      exact ⟨rfl, by (repeat (first | with_reducible exact HW2.out | refine Below.setCell (p := ⟨_, _, _⟩) ?_ (by first | omega | (simp; done) | (simp; omega)) _ | refine Below.alloc ?_ (by first | omega | (simp; done) | (simp; omega)) _ | refine Below.drew ?_ | refine below_dn ?_ _))⟩
  · have e1 : pMan s = 4503599627370496 + s % 4503599627370496 := by unfold pMan; rw [if_neg h0]
    have e2 : pExp s = -1074 + (s / 4503599627370496 : Nat) - 1 := by unfold pExp; rw [if_neg h0]
    rw [e1, e2]
    have hq0 : ((s : Int) / 4503599627370496 == 0) = false := by rw [beq_eq_false_iff_ne]; omega
    have hrb : s % 4503599627370496 < 4503599627370496 := by omega
    have hqb : s / 4503599627370496 < 2048 := by omega
    generalize hR : s % 4503599627370496 = r at *
    generalize hQ : s / 4503599627370496 = q at *
    have hW1 : IntKind.u64.wrap (4503599627370496 + (r : Int)) = 4503599627370496 + (r : Int) := by rw [IntKind.wrap_u64]; omega
    have hW2 : IntKind.i64.wrap (IntKind.i64.wrap (-1074 + IntKind.i64.wrap (q : Int)) - 1) = -1074 + (q : Int) - 1 := by
      simp only [IntKind.wrap, IntKind.bits, IntKind.signed]
      simp
      omega
    clear h0 e1 e2 hR hQ
    unfold shV
    have HW0 : Hid (Below w.heap.size w w) := Lib.hid (Below.refl _ _)
    go_enter Tryd.func65, Tryd.ntmps65
    go_wp2_with fail
    refine Calls.mono (binHidden_calls _) ?_
    rintro E w1 ⟨rfl, hb1⟩
    obtain ⟨hc1, hf1⟩ := bcell hb1
    have HW1 : Hid (Below w.heap.size w w1) := Lib.hid (by
      refine Below.trans ?_ (hb1.mono ?_)
      · (repeat (first | with_reducible exact HW0.out | refine Below.setCell (p := ⟨_, _, _⟩) ?_ (by first | omega | (simp; done) | (simp; omega)) _ | refine Below.alloc ?_ (by first | omega | (simp; done) | (simp; omega)) _ | refine Below.drew ?_ | refine below_dn ?_ _))
      · first | omega | (simp; done) | (simp; omega))
    have hS0_1 : Hid (SameB w.heap.size 1 w w1) := Lib.hid (by
      refine SameB.below ?_ hb1
      (repeat (first | with_reducible exact SameB.refl _ _ _ | refine SameB.setCell (p := ⟨_, _, _⟩) ?_ (by first | omega | (simp; done) | (simp; omega)) (by first | omega | (simp; done) | (simp; omega)) _ | refine SameB.setNew (p := ⟨_, _, _⟩) ?_ (by first | omega | (simp; done) | (simp; omega)) _ | refine SameB.alloc ?_ _ | refine SameB.drew ?_ | refine SameB.drewN ?_ _)))
    have hs1 : w.heap.size + 1 ≤ w1.heap.size := by have := hb1.size; (try simp at this); omega
    have hc1_0 := fun o : Nat => hc1 (w.heap.size) o (by first | omega | (simp; done) | (simp; omega))
    have hf1_0 := fun o : Nat => hf1 (w.heap.size) o (by first | omega | (simp; done) | (simp; omega))
    clear hc1 hf1
    clear hb1
    go_wp2_with fail
    refine Calls.mono (binHidden_calls _) ?_
    rintro E w2 ⟨rfl, hb2⟩
    obtain ⟨hc2, hf2⟩ := bcell hb2
    have HW2 : Hid (Below w.heap.size w w2) := Lib.hid (by
      refine Below.trans ?_ (hb2.mono ?_)
      · (repeat (first | with_reducible exact HW1.out | refine Below.setCell (p := ⟨_, _, _⟩) ?_ (by first | omega | (simp; done) | (simp; omega)) _ | refine Below.alloc ?_ (by first | omega | (simp; done) | (simp; omega)) _ | refine Below.drew ?_ | refine below_dn ?_ _))
      · first | omega | (simp; done) | (simp; omega))
    have hS1_2 : Hid (SameB w.heap.size 1 w1 w2) := Lib.hid (by
      refine SameB.below ?_ hb2
      (repeat (first | with_reducible exact SameB.refl _ _ _ | refine SameB.setCell (p := ⟨_, _, _⟩) ?_ (by first | omega | (simp; done) | (simp; omega)) (by first | omega | (simp; done) | (simp; omega)) _ | refine SameB.setNew (p := ⟨_, _, _⟩) ?_ (by first | omega | (simp; done) | (simp; omega)) _ | refine SameB.alloc ?_ _ | refine SameB.drew ?_ | refine SameB.drewN ?_ _)))
    have hS0_2 := Lib.hid (hS0_1.out.trans hS1_2.out)
    have hs2 : w.heap.size + 1 ≤ w2.heap.size := by have := hb2.size; (try simp at this); omega
    have hc2_0 := fun o : Nat => hc2 (w.heap.size) o (by first | omega | (simp; done) | (simp; omega))
    have hf2_0 := fun o : Nat => hf2 (w.heap.size) o (by first | omega | (simp; done) | (simp; omega))
    clear hc2 hf2
    clear hb2
    go_wp2_with fail
    go_region_with (first
        | ((have hguard := HW2; clear hguard)
           go_at_call 82
           refine Calls.mono (binHidden_calls _) ?_
           rintro E w3 ⟨rfl, hb3⟩
           obtain ⟨hc3, hf3⟩ := bcell hb3
           have HW3 : Hid (Below w.heap.size w w3) := Lib.hid (by
             refine Below.trans ?_ (hb3.mono ?_)
             · (repeat (first | with_reducible exact HW2.out | refine Below.setCell (p := ⟨_, _, _⟩) ?_ (by first | omega | (simp; done) | (simp; omega)) _ | refine Below.alloc ?_ (by first | omega | (simp; done) | (simp; omega)) _ | refine Below.drew ?_ | refine below_dn ?_ _))
             · first | omega | (simp; done) | (simp; omega))
           have hS2_3 : Hid (SameB w.heap.size 1 w2 w3) := Lib.hid (by
             refine SameB.below ?_ hb3
             (repeat (first | with_reducible exact SameB.refl _ _ _ | refine SameB.setCell (p := ⟨_, _, _⟩) ?_ (by first | omega | (simp; done) | (simp; omega)) (by first | omega | (simp; done) | (simp; omega)) _ | refine SameB.setNew (p := ⟨_, _, _⟩) ?_ (by first | omega | (simp; done) | (simp; omega)) _ | refine SameB.alloc ?_ _ | refine SameB.drew ?_ | refine SameB.drewN ?_ _)))
           have hS0_3 := Lib.hid (hS0_2.out.trans hS2_3.out)
           have hS1_3 := Lib.hid (hS1_2.out.trans hS2_3.out)
           have hs3 : w.heap.size + 1 ≤ w3.heap.size := by have := hb3.size; (try simp at this); omega
           have hc3_0 := fun o : Nat => hc3 (w.heap.size) o (by first | omega | (simp; done) | (simp; omega))
           have hf3_0 := fun o : Nat => hf3 (w.heap.size) o (by first | omega | (simp; done) | (simp; omega))
           clear hc3 hf3
           clear hb3))
    all_goals
      go_wp2_with fail
      refine bodyPost_ret (v := .tuple #[.int .u64 ((4503599627370496 + r : Nat) : Int), .int .i64 (-1074 + q - 1)]) (by simp [results, Tryd.results65, go_sem, intV, dyV, hW1, hW2, hc1_0, hf1_0, hc2_0, hf2_0, hc3_0, hf3_0]) rfl ?_
      exact ⟨rfl, by (repeat (first | with_reducible exact HW3.out | refine Below.setCell (p := ⟨_, _, _⟩) ?_ (by first | omega | (simp; done) | (simp; omega)) _ | refine Below.alloc ?_ (by first | omega | (simp; done) | (simp; omega)) _ | refine Below.drew ?_ | refine below_dn ?_ _))⟩


end Go.Proofs.YtgihapdlliidgaaDoor
