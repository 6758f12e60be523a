/- The walks of package num. -/
import Derived.Test.YtgihapdlliidgaaDoorNat3
namespace Go.Proofs.YtgihapdlliidgaaDoor
open Go Go.RowKit
set_option linter.unusedVariables false
set_option linter.unusedSimpArgs false

theorem IsNat.form {w : World} {v : Value} {m : Nat} (h : IsNat w v m) : ∃ A n c, v = .slice A n c ∧ n ≤ 8192 ∧ (m = 0 → n = 0) ∧ (n = 0 → m = 0) := by
  obtain ⟨A, c, l, rfl, h1, h2, h3, h4, h5, rfl⟩ := h
  refine ⟨A, l.length, c, rfl, h2, fun e => ?_, fun e => ?_⟩
  · rw [lv_eq_zero B64 l B64_pos h5 e]; rfl
  · rw [List.eq_nil_of_length_eq_zero e]; rfl

theorem IsNat.lt {w : World} {v : Value} {m : Nat} (h : IsNat w v m) : m < LIM := by
  obtain ⟨A, c, l, rfl, h1, h2, h3, h4, h5, rfl⟩ := h
  exact lv_lt_LIM h4 h2

theorem natForm_is {w : World} {v : Value} {m : Nat} (h : IsNat w v m) :
    Calls Tryd.prog 89 #[v] w fun E w' => E = .returned (.bool true) ∧ w = w' := by
  obtain ⟨A, c, l, rfl, h1, h2, h3, h4, h5, rfl⟩ := h
  exact natForm_nat h1 h2 h3 h5

/-- a whole number: its sign and its size stand so -/
def IsZ (w : World) (neg : Bool) (v : Value) (z : Int) : Prop := IsNat w v z.natAbs ∧ neg = decide (z < 0) ∧ Spot v

theorem IsZ.same_lt {N n : Nat} {w w' : World} {neg : Bool} {v : Value} {z : Int} (h : IsZ w neg v z) (hb : Bd N v) (hs : SameB N n w w') : IsZ w' neg v z := ⟨h.1.same_lt hb hs, h.2⟩
theorem IsZ.same_ge {N n M : Nat} {w w' : World} {neg : Bool} {v : Value} {z : Int} (h : IsZ w neg v z) (hb : Ge M v) (hM : N + n ≤ M) (hs : SameB N n w w') : IsZ w' neg v z := ⟨h.1.same_ge hb hM hs, h.2⟩
theorem IsZ.nsame_lt {N n : Nat} {w w' : World} {neg : Bool} {v : Value} {z : Int} (h : IsZ w neg v z) (hb : Bd N v) (hs : SameB N n w w') : IsNat w' v z.natAbs := h.1.same_lt hb hs
theorem IsZ.below {w w' : World} {neg : Bool} {v : Value} {z : Int} (h : IsZ w neg v z) (hb : Below w.heap.size w w') : IsZ w' neg v z := ⟨h.1.below hb, h.2⟩

/-- (for the expanded rows) -/
def dyV (neg : Bool) (v : Value) (e : Int) : Value := .agg #[.bool neg, v, .int .i64 e]

def intV (neg : Bool) (v : Value) : Value := .agg #[.bool neg, v]

theorem buildInt (neg : Bool) (A : Option Addr) (n c : Nat) (w : World) : (Instr.build 58 #[(0, .bool neg), (1, .slice A n c)]).run Tryd.prog w = .ok (.agg #[.bool neg, .slice A n c]) w := run_build w 58 _ _ (by kernel_rfl)
theorem buildInt0 (w : World) : (Instr.build 58 #[]).run Tryd.prog w = .ok (.agg #[.bool false, .slice none 0 0]) w := run_build w 58 _ _ (by kernel_rfl)
attribute [go_sem] buildInt buildInt0

set_option maxHeartbeats 800000 in
theorem numForm_calls {w : World} {neg : Bool} {v : Value} {z : Int} (h : IsZ w neg v z) :
    Calls Tryd.prog 70 #[intV neg v] w fun E w' => E = .returned (.bool true) ∧ Below w.heap.size w w' := by
  obtain ⟨hn, hs, _⟩ := h
  obtain ⟨A, n, c, rfl, h8, hz1, hz2⟩ := hn.form
  unfold intV
  cases neg with
  | false =>
    have HN := Lib.hid hn
    clear hn hs hz1 hz2
    go_enter Tryd.func70, Tryd.ntmps70
    go_wp2_with fail
    refine (natForm_is (HN.out.below ((Below.refl _ _).alloc (Nat.le_refl _) _))).mono ?_
    rintro E w' ⟨rfl, rfl⟩
    go_wp2_with fail
    go_ret
    exact ⟨rfl, (Below.refl _ _).alloc (Nat.le_refl _) _⟩
  | true =>
    have hne : z < 0 := of_decide_eq_true hs.symm
    have hn0 : ((n : Int) == 0) = false := by
      rw [beq_eq_false_iff_ne]
      intro e
      have := hz2 (by omega)
      omega
    have HN := Lib.hid hn
    clear hn hs hz1 hz2 hne
    go_enter Tryd.func70, Tryd.ntmps70
    go_wp2_with fail
    refine (natForm_is (HN.out.below ((Below.refl _ _).alloc (Nat.le_refl _) _))).mono ?_
    rintro E w' ⟨rfl, rfl⟩
    go_wp2_with fail
    go_ret
    exact ⟨rfl, (Below.refl _ _).alloc (Nat.le_refl _) _⟩

set_option maxHeartbeats 800000 in
theorem numSign_core {w : World} {neg : Bool} {A : Option Addr} {n c m : Nat} (hn : IsNat w (.slice A n c) m) (bz : Bool) (hb : ((blen m : Int) == 0) = bz) :
    Calls Tryd.prog 53 #[intV neg (.slice A n c)] w fun E w' => E = .returned (.int .i64 (if bz = true then 0 else if neg = true then -1 else 1)) ∧ Below w.heap.size w w' := by
  have HB := Lib.hid (natBits_calls (hn.below ((Below.refl _ w).alloc (Nat.le_refl _) (.cells #[.bool neg, .slice A n c] 58))))
  clear hn
  unfold intV
  generalize blen m = bl at *
  cases bz <;> cases neg
  all_goals
    go_enter Tryd.func53, Tryd.ntmps53
    go_wp2_with fail
    refine HB.out.mono ?_
    rintro E w' ⟨rfl, rfl⟩
    go_wp2_with fail
    go_ret
    exact ⟨rfl, (Below.refl _ _).alloc (Nat.le_refl _) _⟩

theorem blen_zero_iff (m : Nat) : blen m = 0 ↔ m = 0 := by unfold blen; split <;> simp [*]

theorem numSign_calls {w : World} {neg : Bool} {v : Value} {z : Int} (h : IsZ w neg v z) :
    Calls Tryd.prog 53 #[intV neg v] w fun E w' => E = .returned (.int .i64 z.sign) ∧ Below w.heap.size w w' := by
  obtain ⟨hn, hs, _⟩ := h
  obtain ⟨A, n, c, rfl, h8, hz1, hz2⟩ := hn.form
  have := numSign_core (neg := neg) hn _ rfl
  have e : (if ((blen z.natAbs : Int) == 0) = true then (0 : Int) else if neg = true then -1 else 1) = z.sign := by
    rcases Int.lt_trichotomy z 0 with hz | hz | hz
    · rw [decide_eq_true hz] at hs
      rw [hs, Int.sign_eq_neg_one_of_neg hz, if_neg, if_pos rfl]
      rw [beq_iff_eq]; have := blen_zero_iff z.natAbs; omega
    · subst hz; rfl
    · rw [decide_eq_false (by omega)] at hs
      rw [hs, Int.sign_eq_one_of_pos hz, if_neg, if_neg (by simp)]
      rw [beq_iff_eq]; have := blen_zero_iff z.natAbs; omega
  rw [e] at this
  exact this

set_option maxHeartbeats 800000 in
theorem numWhole_calls {w : World} {neg : Bool} {v : Value} {m : Nat} (h : IsNat w v m) :
    Calls Tryd.prog 96 #[.bool neg, v] w fun E w' => E = .returned (intV (neg && decide (m ≠ 0)) v) ∧ Below w.heap.size w w' := by
  obtain ⟨A, n, c, rfl, h8, hz1, hz2⟩ := h.form
  have hd : decide (0 < n) = decide (m ≠ 0) := by
    rw [decide_eq_decide]
    constructor
    · intro a b; have := hz1 b; omega
    · intro a; have : n ≠ 0 := fun e => a (hz2 e)
      omega
  generalize decide (m ≠ 0) = b at *
  clear h hz1 hz2
  cases neg
  · go_enter Tryd.func96, Tryd.ntmps96
    go_wp2_with fail
    exact bodyPost_ret (v := intV false (.slice A n c)) (by simp [results, Tryd.results96, go_sem, intV]) rfl ⟨rfl, (Below.refl _ _).alloc (Nat.le_refl _) _⟩
  · go_enter Tryd.func96, Tryd.ntmps96
    go_wp2_with fail
    exact bodyPost_ret (v := intV b (.slice A n c)) (by simp [results, Tryd.results96, go_sem, intV, hd]) rfl ⟨rfl, (Below.refl _ _).alloc (Nat.le_refl _) _⟩


set_option maxHeartbeats 800000 in
theorem numTold_calls {w : World} {neg : Bool} {v : Value} {m : Nat} (h : IsNat w v m) :
    Calls Tryd.prog 84 #[.bool neg, v, .int .i64 0] w fun E w' => E = .returned (.tuple #[intV (neg && decide (m ≠ 0)) v, .int .i64 0]) ∧ Below w.heap.size w w' := by
  obtain ⟨A, n, c, rfl, h8, hz1, hz2⟩ := h.form
  have H := Lib.hid (numWhole_calls (neg := neg) (h.below ((Below.refl _ w).alloc (Nat.le_refl _) (.cells #[.bool false, .slice none 0 0] 58))))
  generalize (neg && decide (m ≠ 0)) = b at *
  clear h hz1 hz2
  go_enter Tryd.func84, Tryd.ntmps84
  go_wp2_with fail
  refine H.out.mono ?_
  rintro E w1 ⟨rfl, hb1⟩
  obtain ⟨hc1, hf1⟩ := bcell hb1
  unfold intV
  go_wp2_with fail
  refine bodyPost_ret (v := .tuple #[intV b (.slice A n c), .int .i64 0]) (by simp [results, Tryd.results84, go_sem, intV, hc1, hf1]) rfl ⟨rfl, ?_⟩
  exact ((((Below.refl _ _).alloc (Nat.le_refl _) _).trans (hb1.mono (by simp))).setCell (p := ⟨_, _, _⟩) (by simp) _).setCell (p := ⟨_, _, _⟩) (by simp) _

/-- the answer: a whole number and no error -/
def ZRes (w : World) (z : Int) (E : Ending) (w' : World) : Prop := ∃ neg v, E = .returned (.tuple #[intV neg v, .int .i64 0]) ∧ IsZ w' neg v z ∧ Ge w.heap.size v ∧ Below w.heap.size w w'

theorem IsZ.mk_mag {w : World} {neg : Bool} {v : Value} {m : Nat} (h : IsNat w v m) (hsp : Spot v) : IsZ w (neg && decide (m ≠ 0)) v (if neg = true then -(m : Int) else (m : Int)) := by
  cases neg
  · refine ⟨by simpa using h, ?_, hsp⟩
    simp only [Bool.false_and, Bool.false_eq_true, if_false]
    exact (decide_eq_false (by omega)).symm
  · refine ⟨by simpa using h, ?_, hsp⟩
    simp only [Bool.true_and, if_true]
    rw [decide_eq_decide]; omega

set_option maxRecDepth 100000 in
set_option maxHeartbeats 1600000 in
theorem numShl_calls {w : World} {neg : Bool} {v : Value} {z : Int} (h : IsZ w neg v z) (n : Nat) (hn : n ≤ 9223372036854775807) (hs : z.natAbs * 2 ^ n < LIM) :
    Calls Tryd.prog 67 #[intV neg v, .int .i64 n] w (ZRes w (z * 2 ^ n)) := by
  have h1 := h.1
  obtain ⟨A, k, c, rfl, h8, hz1, hz2⟩ := h1.form
  have hres : ∀ w' v', IsNat w' v' (z.natAbs * 2 ^ n) → Spot v' → IsZ w' (neg && decide (z.natAbs * 2 ^ n ≠ 0)) v' (z * 2 ^ n) := fun w' v' hv hsp => by
    have := IsZ.mk_mag (neg := neg) hv hsp
    have e : (if neg = true then -((z.natAbs * 2 ^ n : Nat) : Int) else ((z.natAbs * 2 ^ n : Nat) : Int)) = z * 2 ^ n := by
      have hp : ((2 ^ n : Nat) : Int) = 2 ^ n := by simp
      rw [h.2.1, Int.natCast_mul, hp]
      by_cases hz : z < 0
      · rw [if_pos (decide_eq_true hz), ← Int.neg_mul]; congr 1; omega
      · rw [if_neg (by simpa using hz)]; congr 1; omega
    rwa [e] at this
  have HR := Lib.hid hres
  have H := Lib.hid h
  have HS := Lib.hid hs
  have HN := Lib.hid hn
  have hn0 : (0 : Int) ≤ (n : Int) := by omega
  clear h h1 hz1 hz2 hs hn hres
  generalize hM : z.natAbs * 2 ^ n = M at *
  have HM := Lib.hid hM
  clear hM
  unfold intV
  have HW0 : Hid (Below w.heap.size w w) := Lib.hid (Below.refl _ _)
  go_enter Tryd.func67, Tryd.ntmps67
  go_wp2_with fail
  refine Calls.mono (numForm_calls (H.out.below (by (repeat (first | with_reducible exact HW0.out | refine Below.setCell (p := ⟨_, _, _⟩) ?_ (by first | omega | (simp; done) | (simp; omega)) _ | refine Below.alloc ?_ (by first | omega | (simp; done) | (simp; omega)) _ | refine Below.drew ?_ | refine below_dn ?_ _))))) ?_
  rintro E w1 ⟨rfl, hb1⟩
  obtain ⟨hc1, hf1⟩ := bcell hb1
  have HW1 : Hid (Below w.heap.size w w1) := Lib.hid (by
    refine Below.trans ?_ (hb1.mono ?_)
    · (repeat (first | with_reducible exact HW0.out | refine Below.setCell (p := ⟨_, _, _⟩) ?_ (by first | omega | (simp; done) | (simp; omega)) _ | refine Below.alloc ?_ (by first | omega | (simp; done) | (simp; omega)) _ | refine Below.drew ?_ | refine below_dn ?_ _))
    · first | omega | (simp; done) | (simp; omega))
  have hS0_1 : Hid (SameB w.heap.size 2 w w1) := Lib.hid (by
    refine SameB.below ?_ hb1
    (repeat (first | with_reducible exact SameB.refl _ _ _ | refine SameB.setCell (p := ⟨_, _, _⟩) ?_ (by first | omega | (simp; done) | (simp; omega)) (by first | omega | (simp; done) | (simp; omega)) _ | refine SameB.setNew (p := ⟨_, _, _⟩) ?_ (by first | omega | (simp; done) | (simp; omega)) _ | refine SameB.alloc ?_ _ | refine SameB.drew ?_ | refine SameB.drewN ?_ _)))
  have hs1 : w.heap.size + 1 + 1 ≤ w1.heap.size := by have := hb1.size; (try simp at this); omega
  have hc1_0 := fun o : Nat => hc1 (w.heap.size) o (by first | omega | (simp; done) | (simp; omega))
  have hf1_0 := fun o : Nat => hf1 (w.heap.size) o (by first | omega | (simp; done) | (simp; omega))
  have hc1_1 := fun o : Nat => hc1 (w.heap.size + 1) o (by first | omega | (simp; done) | (simp; omega))
  have hf1_1 := fun o : Nat => hf1 (w.heap.size + 1) o (by first | omega | (simp; done) | (simp; omega))
  clear hc1 hf1
  clear hb1
  go_wp2_with fail
  refine Calls.mono (natShl_calls (H.out.below HW1.out).1 n HN.out (by rw [HM.out]; exact HS.out)) ?_
  rintro E w2 ⟨v2, rfl, hv2, hg2, hb2⟩
  obtain ⟨hc2, hf2⟩ := bcell hb2
  have HW2 : Hid (Below w.heap.size w w2) := Lib.hid (by
    refine Below.trans ?_ (hb2.mono ?_)
    · (repeat (first | with_reducible exact HW1.out | refine Below.setCell (p := ⟨_, _, _⟩) ?_ (by first | omega | (simp; done) | (simp; omega)) _ | refine Below.alloc ?_ (by first | omega | (simp; done) | (simp; omega)) _ | refine Below.drew ?_ | refine below_dn ?_ _))
    · first | omega | (simp; done) | (simp; omega))
  have hS1_2 : Hid (SameB w.heap.size 2 w1 w2) := Lib.hid (by
    refine SameB.below ?_ hb2
    (repeat (first | with_reducible exact SameB.refl _ _ _ | refine SameB.setCell (p := ⟨_, _, _⟩) ?_ (by first | omega | (simp; done) | (simp; omega)) (by first | omega | (simp; done) | (simp; omega)) _ | refine SameB.setNew (p := ⟨_, _, _⟩) ?_ (by first | omega | (simp; done) | (simp; omega)) _ | refine SameB.alloc ?_ _ | refine SameB.drew ?_ | refine SameB.drewN ?_ _)))
  have hS0_2 := Lib.hid (hS0_1.out.trans hS1_2.out)
  have hs2 : w.heap.size + 1 + 1 ≤ w2.heap.size := by have := hb2.size; (try simp at this); omega
  have hc2_0 := fun o : Nat => hc2 (w.heap.size) o (by first | omega | (simp; done) | (simp; omega))
  have hf2_0 := fun o : Nat => hf2 (w.heap.size) o (by first | omega | (simp; done) | (simp; omega))
  have hc2_1 := fun o : Nat => hc2 (w.heap.size + 1) o (by first | omega | (simp; done) | (simp; omega))
  have hf2_1 := fun o : Nat => hf2 (w.heap.size + 1) o (by first | omega | (simp; done) | (simp; omega))
  clear hc2 hf2
  clear hb2
  rw [HM.out] at hv2
  obtain ⟨A2, k2, c2, rfl, _, _, _⟩ := hv2.form
  have HV2 := Lib.hid hv2
  have HG2 : Hid (Ge (w.heap.size + 1 + 1) _) := Lib.hid (hg2.mono (by first | omega | (simp; done) | (simp; omega)))
  clear hv2 hg2
  go_wp2_with fail
  refine Calls.mono (numTold_calls (neg := neg) HV2.out) ?_
  rintro E w3 ⟨rfl, hb3⟩
  obtain ⟨hc3, hf3⟩ := bcell hb3
  have HW3 : Hid (Below w.heap.size w w3) := Lib.hid (by
    refine Below.trans ?_ (hb3.mono ?_)
    · (repeat (first | with_reducible exact HW2.out | refine Below.setCell (p := ⟨_, _, _⟩) ?_ (by first | omega | (simp; done) | (simp; omega)) _ | refine Below.alloc ?_ (by first | omega | (simp; done) | (simp; omega)) _ | refine Below.drew ?_ | refine below_dn ?_ _))
    · first | omega | (simp; done) | (simp; omega))
  have hS2_3 : Hid (SameB w.heap.size 2 w2 w3) := Lib.hid (by
    refine SameB.below ?_ hb3
    (repeat (first | with_reducible exact SameB.refl _ _ _ | refine SameB.setCell (p := ⟨_, _, _⟩) ?_ (by first | omega | (simp; done) | (simp; omega)) (by first | omega | (simp; done) | (simp; omega)) _ | refine SameB.setNew (p := ⟨_, _, _⟩) ?_ (by first | omega | (simp; done) | (simp; omega)) _ | refine SameB.alloc ?_ _ | refine SameB.drew ?_ | refine SameB.drewN ?_ _)))
  have hS0_3 := Lib.hid (hS0_2.out.trans hS2_3.out)
  have hS1_3 := Lib.hid (hS1_2.out.trans hS2_3.out)
  have hs3 : w.heap.size + 1 + 1 ≤ w3.heap.size := by have := hb3.size; (try simp at this); omega
  have hc3_0 := fun o : Nat => hc3 (w.heap.size) o (by first | omega | (simp; done) | (simp; omega))
  have hf3_0 := fun o : Nat => hf3 (w.heap.size) o (by first | omega | (simp; done) | (simp; omega))
  have hc3_1 := fun o : Nat => hc3 (w.heap.size + 1) o (by first | omega | (simp; done) | (simp; omega))
  have hf3_1 := fun o : Nat => hf3 (w.heap.size + 1) o (by first | omega | (simp; done) | (simp; omega))
  clear hc3 hf3
  clear hb3
  generalize hB : (neg && decide (M ≠ 0)) = B
  unfold intV
  go_wp2_with fail
  refine bodyPost_ret (v := .tuple #[intV B (.slice A2 k2 c2), .int .i64 0]) (by simp [results, Tryd.results67, go_sem, intV, dyV, hc1_0, hf1_0, hc1_1, hf1_1, hc2_0, hf2_0, hc2_1, hf2_1, hc3_0, hf3_0, hc3_1, hf3_1]) rfl ?_
  exact ⟨B, _, rfl, by rw [← hB]; exact (HR.out _ _ (HV2.out.same_ge (N := w.heap.size) (n := 2) HG2.out (by omega) (by (refine SameB.trans hS2_3.out ?_; (repeat (first | with_reducible exact SameB.refl _ _ _ | refine SameB.setCell (p := ⟨_, _, _⟩) ?_ (by first | omega | (simp; done) | (simp; omega)) (by first | omega | (simp; done) | (simp; omega)) _ | refine SameB.setNew (p := ⟨_, _, _⟩) ?_ (by first | omega | (simp; done) | (simp; omega)) _ | refine SameB.alloc ?_ _ | refine SameB.drew ?_ | refine SameB.drewN ?_ _))))) HG2.out.spot), HG2.out.mono (by omega), by (repeat (first | with_reducible exact HW3.out | refine Below.setCell (p := ⟨_, _, _⟩) ?_ (by first | omega | (simp; done) | (simp; omega)) _ | refine Below.alloc ?_ (by first | omega | (simp; done) | (simp; omega)) _ | refine Below.drew ?_ | refine below_dn ?_ _))⟩


theorem Bd.of_Z {w : World} {neg : Bool} {v : Value} {z : Int} (h : IsZ w neg v z) : Bd w.heap.size v := h.1.bd

set_option maxRecDepth 100000 in
set_option maxHeartbeats 3200000 in
theorem numAdd_same {w : World} {na : Bool} {Aa Ab : Option Addr} {ka ca kb cb : Nat} {x y : Int} (hx : IsZ w na (.slice Aa ka ca) x) (hy : IsZ w na (.slice Ab kb cb) y) (hs : (x + y).natAbs < LIM) :
    Calls Tryd.prog 68 #[intV na (.slice Aa ka ca), intV na (.slice Ab kb cb)] w (ZRes w (x + y)) := by
  have hm : x.natAbs + y.natAbs = (x + y).natAbs := by
    have a := hx.2.1; have b := hy.2.1
    cases na
    · have := of_decide_eq_false a.symm; have := of_decide_eq_false b.symm; omega
    · have := of_decide_eq_true a.symm; have := of_decide_eq_true b.symm; omega
  have hres : ∀ w' v', IsNat w' v' (x.natAbs + y.natAbs) → Spot v' → IsZ w' (na && decide (x.natAbs + y.natAbs ≠ 0)) v' (x + y) := fun w' v' hv hsp => by
    have := IsZ.mk_mag (neg := na) hv hsp
    have e : (if na = true then -((x.natAbs + y.natAbs : Nat) : Int) else ((x.natAbs + y.natAbs : Nat) : Int)) = x + y := by
      have a := hx.2.1; have b := hy.2.1
      cases na
      · have := of_decide_eq_false a.symm; have := of_decide_eq_false b.symm; simp only [Bool.false_eq_true, if_false]; omega
      · have := of_decide_eq_true a.symm; have := of_decide_eq_true b.symm; simp only [if_true]; omega
    rwa [e] at this
  have HR := Lib.hid hres
  have HX := Lib.hid hx
  have HY := Lib.hid hy
  have HBx := Lib.hid (Bd.of_Z hx)
  have HBy := Lib.hid (Bd.of_Z hy)
  have HS : Hid (x.natAbs + y.natAbs < LIM) := Lib.hid (by omega)
  clear hx hy hs hm hres
  unfold intV
  have HW0 : Hid (Below w.heap.size w w) := Lib.hid (Below.refl _ _)
  go_enter Tryd.func68, Tryd.ntmps68
  have hbeq : (na == na) = true := by cases na <;> rfl
  go_wp2_with fail
  refine Calls.mono (numForm_calls (HX.out.below (by (repeat (first | with_reducible exact HW0.out | refine Below.setCell (p := ⟨_, _, _⟩) ?_ (by first | omega | (simp; done) | (simp; omega)) _ | refine Below.alloc ?_ (by first | omega | (simp; done) | (simp; omega)) _ | refine Below.drew ?_ | refine below_dn ?_ _))))) ?_
  rintro E w1 ⟨rfl, hb1⟩
  obtain ⟨hc1, hf1⟩ := bcell hb1
  have HW1 : Hid (Below w.heap.size w w1) := Lib.hid (by
    refine Below.trans ?_ (hb1.mono ?_)
    · (repeat (first | with_reducible exact HW0.out | refine Below.setCell (p := ⟨_, _, _⟩) ?_ (by first | omega | (simp; done) | (simp; omega)) _ | refine Below.alloc ?_ (by first | omega | (simp; done) | (simp; omega)) _ | refine Below.drew ?_ | refine below_dn ?_ _))
    · first | omega | (simp; done) | (simp; omega))
  have hS0_1 : Hid (SameB w.heap.size 3 w w1) := Lib.hid (by
    refine SameB.below ?_ hb1
    (repeat (first | with_reducible exact SameB.refl _ _ _ | refine SameB.setCell (p := ⟨_, _, _⟩) ?_ (by first | omega | (simp; done) | (simp; omega)) (by first | omega | (simp; done) | (simp; omega)) _ | refine SameB.setNew (p := ⟨_, _, _⟩) ?_ (by first | omega | (simp; done) | (simp; omega)) _ | refine SameB.alloc ?_ _ | refine SameB.drew ?_ | refine SameB.drewN ?_ _)))
  have hs1 : w.heap.size + 1 + 1 + 1 ≤ w1.heap.size := by have := hb1.size; (try simp at this); omega
  have hc1_0 := fun o : Nat => hc1 (w.heap.size) o (by first | omega | (simp; done) | (simp; omega))
  have hf1_0 := fun o : Nat => hf1 (w.heap.size) o (by first | omega | (simp; done) | (simp; omega))
  have hc1_1 := fun o : Nat => hc1 (w.heap.size + 1) o (by first | omega | (simp; done) | (simp; omega))
  have hf1_1 := fun o : Nat => hf1 (w.heap.size + 1) o (by first | omega | (simp; done) | (simp; omega))
  have hc1_2 := fun o : Nat => hc1 (w.heap.size + 1 + 1) o (by first | omega | (simp; done) | (simp; omega))
  have hf1_2 := fun o : Nat => hf1 (w.heap.size + 1 + 1) o (by first | omega | (simp; done) | (simp; omega))
  clear hc1 hf1
  clear hb1
  go_wp2_with fail
  refine Calls.mono (numForm_calls (HY.out.below HW1.out)) ?_
  rintro E w2 ⟨rfl, hb2⟩
  obtain ⟨hc2, hf2⟩ := bcell hb2
  have HW2 : Hid (Below w.heap.size w w2) := Lib.hid (by
    refine Below.trans ?_ (hb2.mono ?_)
    · (repeat (first | with_reducible exact HW1.out | refine Below.setCell (p := ⟨_, _, _⟩) ?_ (by first | omega | (simp; done) | (simp; omega)) _ | refine Below.alloc ?_ (by first | omega | (simp; done) | (simp; omega)) _ | refine Below.drew ?_ | refine below_dn ?_ _))
    · first | omega | (simp; done) | (simp; omega))
  have hS1_2 : Hid (SameB w.heap.size 3 w1 w2) := Lib.hid (by
    refine SameB.below ?_ hb2
    (repeat (first | with_reducible exact SameB.refl _ _ _ | refine SameB.setCell (p := ⟨_, _, _⟩) ?_ (by first | omega | (simp; done) | (simp; omega)) (by first | omega | (simp; done) | (simp; omega)) _ | refine SameB.setNew (p := ⟨_, _, _⟩) ?_ (by first | omega | (simp; done) | (simp; omega)) _ | refine SameB.alloc ?_ _ | refine SameB.drew ?_ | refine SameB.drewN ?_ _)))
  have hS0_2 := Lib.hid (hS0_1.out.trans hS1_2.out)
  have hs2 : w.heap.size + 1 + 1 + 1 ≤ w2.heap.size := by have := hb2.size; (try simp at this); omega
  have hc2_0 := fun o : Nat => hc2 (w.heap.size) o (by first | omega | (simp; done) | (simp; omega))
  have hf2_0 := fun o : Nat => hf2 (w.heap.size) o (by first | omega | (simp; done) | (simp; omega))
  have hc2_1 := fun o : Nat => hc2 (w.heap.size + 1) o (by first | omega | (simp; done) | (simp; omega))
  have hf2_1 := fun o : Nat => hf2 (w.heap.size + 1) o (by first | omega | (simp; done) | (simp; omega))
  have hc2_2 := fun o : Nat => hc2 (w.heap.size + 1 + 1) o (by first | omega | (simp; done) | (simp; omega))
  have hf2_2 := fun o : Nat => hf2 (w.heap.size + 1 + 1) o (by first | omega | (simp; done) | (simp; omega))
  clear hc2 hf2
  clear hb2
  go_wp2_with fail
  refine Calls.mono (natAdd_calls (HX.out.below HW2.out).1 (HY.out.below HW2.out).1 HS.out) ?_
  rintro E w3 ⟨v3, rfl, hv3, hg3, hb3⟩
  obtain ⟨hc3, hf3⟩ := bcell hb3
  have HW3 : Hid (Below w.heap.size w w3) := Lib.hid (by
    refine Below.trans ?_ (hb3.mono ?_)
    · (repeat (first | with_reducible exact HW2.out | refine Below.setCell (p := ⟨_, _, _⟩) ?_ (by first | omega | (simp; done) | (simp; omega)) _ | refine Below.alloc ?_ (by first | omega | (simp; done) | (simp; omega)) _ | refine Below.drew ?_ | refine below_dn ?_ _))
    · first | omega | (simp; done) | (simp; omega))
  have hS2_3 : Hid (SameB w.heap.size 3 w2 w3) := Lib.hid (by
    refine SameB.below ?_ hb3
    (repeat (first | with_reducible exact SameB.refl _ _ _ | refine SameB.setCell (p := ⟨_, _, _⟩) ?_ (by first | omega | (simp; done) | (simp; omega)) (by first | omega | (simp; done) | (simp; omega)) _ | refine SameB.setNew (p := ⟨_, _, _⟩) ?_ (by first | omega | (simp; done) | (simp; omega)) _ | refine SameB.alloc ?_ _ | refine SameB.drew ?_ | refine SameB.drewN ?_ _)))
  have hS0_3 := Lib.hid (hS0_2.out.trans hS2_3.out)
  have hS1_3 := Lib.hid (hS1_2.out.trans hS2_3.out)
  have hs3 : w.heap.size + 1 + 1 + 1 ≤ w3.heap.size := by have := hb3.size; (try simp at this); omega
  have hc3_0 := fun o : Nat => hc3 (w.heap.size) o (by first | omega | (simp; done) | (simp; omega))
  have hf3_0 := fun o : Nat => hf3 (w.heap.size) o (by first | omega | (simp; done) | (simp; omega))
  have hc3_1 := fun o : Nat => hc3 (w.heap.size + 1) o (by first | omega | (simp; done) | (simp; omega))
  have hf3_1 := fun o : Nat => hf3 (w.heap.size + 1) o (by first | omega | (simp; done) | (simp; omega))
  have hc3_2 := fun o : Nat => hc3 (w.heap.size + 1 + 1) o (by first | omega | (simp; done) | (simp; omega))
  have hf3_2 := fun o : Nat => hf3 (w.heap.size + 1 + 1) o (by first | omega | (simp; done) | (simp; omega))
  clear hc3 hf3
  clear hb3
  obtain ⟨A3, k3, c3, rfl, _, _, _⟩ := hv3.form
  have HV3 := Lib.hid hv3
  have HG3 : Hid (Ge (w.heap.size + 1 + 1 + 1) _) := Lib.hid (hg3.mono (by first | omega | (simp; done) | (simp; omega)))
  clear hv3 hg3
  go_wp2_with fail
  refine Calls.mono (numTold_calls (neg := na) HV3.out) ?_
  rintro E w4 ⟨rfl, hb4⟩
  obtain ⟨hc4, hf4⟩ := bcell hb4
  have HW4 : Hid (Below w.heap.size w w4) := Lib.hid (by
    refine Below.trans ?_ (hb4.mono ?_)
    · (repeat (first | with_reducible exact HW3.out | refine Below.setCell (p := ⟨_, _, _⟩) ?_ (by first | omega | (simp; done) | (simp; omega)) _ | refine Below.alloc ?_ (by first | omega | (simp; done) | (simp; omega)) _ | refine Below.drew ?_ | refine below_dn ?_ _))
    · first | omega | (simp; done) | (simp; omega))
  have hS3_4 : Hid (SameB w.heap.size 3 w3 w4) := Lib.hid (by
    refine SameB.below ?_ hb4
    (repeat (first | with_reducible exact SameB.refl _ _ _ | refine SameB.setCell (p := ⟨_, _, _⟩) ?_ (by first | omega | (simp; done) | (simp; omega)) (by first | omega | (simp; done) | (simp; omega)) _ | refine SameB.setNew (p := ⟨_, _, _⟩) ?_ (by first | omega | (simp; done) | (simp; omega)) _ | refine SameB.alloc ?_ _ | refine SameB.drew ?_ | refine SameB.drewN ?_ _)))
  have hS0_4 := Lib.hid (hS0_3.out.trans hS3_4.out)
  have hS1_4 := Lib.hid (hS1_3.out.trans hS3_4.out)
  have hS2_4 := Lib.hid (hS2_3.out.trans hS3_4.out)
  have hs4 : w.heap.size + 1 + 1 + 1 ≤ w4.heap.size := by have := hb4.size; (try simp at this); omega
  have hc4_0 := fun o : Nat => hc4 (w.heap.size) o (by first | omega | (simp; done) | (simp; omega))
  have hf4_0 := fun o : Nat => hf4 (w.heap.size) o (by first | omega | (simp; done) | (simp; omega))
  have hc4_1 := fun o : Nat => hc4 (w.heap.size + 1) o (by first | omega | (simp; done) | (simp; omega))
  have hf4_1 := fun o : Nat => hf4 (w.heap.size + 1) o (by first | omega | (simp; done) | (simp; omega))
  have hc4_2 := fun o : Nat => hc4 (w.heap.size + 1 + 1) o (by first | omega | (simp; done) | (simp; omega))
  have hf4_2 := fun o : Nat => hf4 (w.heap.size + 1 + 1) o (by first | omega | (simp; done) | (simp; omega))
  clear hc4 hf4
  clear hb4
  have HRR := HR.out
  generalize hB : (na && decide (_ ≠ 0)) = B at HRR ⊢
  unfold intV
  go_wp2_with fail
  refine bodyPost_ret (v := .tuple #[intV B (.slice A3 k3 c3), .int .i64 0]) (by simp [results, Tryd.results68, go_sem, intV, dyV, hc1_0, hf1_0, hc1_1, hf1_1, hc1_2, hf1_2, hc2_0, hf2_0, hc2_1, hf2_1, hc2_2, hf2_2, hc3_0, hf3_0, hc3_1, hf3_1, hc3_2, hf3_2, hc4_0, hf4_0, hc4_1, hf4_1, hc4_2, hf4_2]) rfl ?_
  exact ⟨B, _, rfl, HRR _ _ (HV3.out.same_ge (N := w.heap.size) (n := 3) HG3.out (by omega) (by (refine SameB.trans hS3_4.out ?_; (repeat (first | with_reducible exact SameB.refl _ _ _ | refine SameB.setCell (p := ⟨_, _, _⟩) ?_ (by first | omega | (simp; done) | (simp; omega)) (by first | omega | (simp; done) | (simp; omega)) _ | refine SameB.setNew (p := ⟨_, _, _⟩) ?_ (by first | omega | (simp; done) | (simp; omega)) _ | refine SameB.alloc ?_ _ | refine SameB.drew ?_ | refine SameB.drewN ?_ _))))) HG3.out.spot, HG3.out.mono (by omega), by (repeat (first | with_reducible exact HW4.out | refine Below.setCell (p := ⟨_, _, _⟩) ?_ (by first | omega | (simp; done) | (simp; omega)) _ | refine Below.alloc ?_ (by first | omega | (simp; done) | (simp; omega)) _ | refine Below.drew ?_ | refine below_dn ?_ _))⟩

set_option maxRecDepth 100000 in
set_option maxHeartbeats 3200000 in
theorem numAdd_diff {w : World} {na nb : Bool} {Aa Ab : Option Addr} {ka ca kb cb : Nat} {x y : Int} (hx : IsZ w na (.slice Aa ka ca) x) (hy : IsZ w nb (.slice Ab kb cb) y) (hne : (na == nb) = false) :
    Calls Tryd.prog 68 #[intV na (.slice Aa ka ca), intV nb (.slice Ab kb cb)] w (ZRes w (x + y)) := by
  have hxa := hx.2.1
  have hyb := hy.2.1
  have HX := Lib.hid hx
  have HY := Lib.hid hy
  have HBx := Lib.hid (Bd.of_Z hx)
  have HBy := Lib.hid (Bd.of_Z hy)
  rcases Nat.lt_or_ge x.natAbs y.natAbs with hlt | hge
  · have hcmp : cmpN x.natAbs y.natAbs < 0 := by unfold cmpN; rw [if_pos hlt]; decide
    have HLE : Hid (x.natAbs ≤ y.natAbs) := Lib.hid (by omega)
    have hres : ∀ w' v', IsNat w' v' (y.natAbs - x.natAbs) → Spot v' → IsZ w' (nb && decide (y.natAbs - x.natAbs ≠ 0)) v' (x + y) := fun w' v' hv hsp => by
      have := IsZ.mk_mag (neg := nb) hv hsp
      have e : (if nb = true then -((y.natAbs - x.natAbs : Nat) : Int) else ((y.natAbs - x.natAbs : Nat) : Int)) = x + y := by
        cases na <;> cases nb <;> simp at hne
        · have := of_decide_eq_false hxa.symm; have := of_decide_eq_true hyb.symm; simp only [if_true]; omega
        · have := of_decide_eq_true hxa.symm; have := of_decide_eq_false hyb.symm; simp only [Bool.false_eq_true, if_false]; omega
      rwa [e] at this
    have HR := Lib.hid hres
    clear hx hy hres hxa hyb hlt
    unfold intV
    have HW0 : Hid (Below w.heap.size w w) := Lib.hid (Below.refl _ _)
    go_enter Tryd.func68, Tryd.ntmps68
    go_wp2_with fail
    refine Calls.mono (numForm_calls (HX.out.below (by (repeat (first | with_reducible exact HW0.out | refine Below.setCell (p := ⟨_, _, _⟩) ?_ (by first | omega | (simp; done) | (simp; omega)) _ | refine Below.alloc ?_ (by first | omega | (simp; done) | (simp; omega)) _ | refine Below.drew ?_ | refine below_dn ?_ _))))) ?_
    rintro E w1 ⟨rfl, hb1⟩
    obtain ⟨hc1, hf1⟩ := bcell hb1
    have HW1 : Hid (Below w.heap.size w w1) := Lib.hid (by
      refine Below.trans ?_ (hb1.mono ?_)
      · (repeat (first | with_reducible exact HW0.out | refine Below.setCell (p := ⟨_, _, _⟩) ?_ (by first | omega | (simp; done) | (simp; omega)) _ | refine Below.alloc ?_ (by first | omega | (simp; done) | (simp; omega)) _ | refine Below.drew ?_ | refine below_dn ?_ _))
      · first | omega | (simp; done) | (simp; omega))
    have hS0_1 : Hid (SameB w.heap.size 3 w w1) := Lib.hid (by
      refine SameB.below ?_ hb1
      (repeat (first | with_reducible exact SameB.refl _ _ _ | refine SameB.setCell (p := ⟨_, _, _⟩) ?_ (by first | omega | (simp; done) | (simp; omega)) (by first | omega | (simp; done) | (simp; omega)) _ | refine SameB.setNew (p := ⟨_, _, _⟩) ?_ (by first | omega | (simp; done) | (simp; omega)) _ | refine SameB.alloc ?_ _ | refine SameB.drew ?_ | refine SameB.drewN ?_ _)))
    have hs1 : w.heap.size + 1 + 1 + 1 ≤ w1.heap.size := by have := hb1.size; (try simp at this); omega
    have hc1_0 := fun o : Nat => hc1 (w.heap.size) o (by first | omega | (simp; done) | (simp; omega))
    have hf1_0 := fun o : Nat => hf1 (w.heap.size) o (by first | omega | (simp; done) | (simp; omega))
    have hc1_1 := fun o : Nat => hc1 (w.heap.size + 1) o (by first | omega | (simp; done) | (simp; omega))
    have hf1_1 := fun o : Nat => hf1 (w.heap.size + 1) o (by first | omega | (simp; done) | (simp; omega))
    have hc1_2 := fun o : Nat => hc1 (w.heap.size + 1 + 1) o (by first | omega | (simp; done) | (simp; omega))
    have hf1_2 := fun o : Nat => hf1 (w.heap.size + 1 + 1) o (by first | omega | (simp; done) | (simp; omega))
    clear hc1 hf1
    clear hb1
    go_wp2_with fail
    refine Calls.mono (numForm_calls (HY.out.below HW1.out)) ?_
    rintro E w2 ⟨rfl, hb2⟩
    obtain ⟨hc2, hf2⟩ := bcell hb2
    have HW2 : Hid (Below w.heap.size w w2) := Lib.hid (by
      refine Below.trans ?_ (hb2.mono ?_)
      · (repeat (first | with_reducible exact HW1.out | refine Below.setCell (p := ⟨_, _, _⟩) ?_ (by first | omega | (simp; done) | (simp; omega)) _ | refine Below.alloc ?_ (by first | omega | (simp; done) | (simp; omega)) _ | refine Below.drew ?_ | refine below_dn ?_ _))
      · first | omega | (simp; done) | (simp; omega))
    have hS1_2 : Hid (SameB w.heap.size 3 w1 w2) := Lib.hid (by
      refine SameB.below ?_ hb2
      (repeat (first | with_reducible exact SameB.refl _ _ _ | refine SameB.setCell (p := ⟨_, _, _⟩) ?_ (by first | omega | (simp; done) | (simp; omega)) (by first | omega | (simp; done) | (simp; omega)) _ | refine SameB.setNew (p := ⟨_, _, _⟩) ?_ (by first | omega | (simp; done) | (simp; omega)) _ | refine SameB.alloc ?_ _ | refine SameB.drew ?_ | refine SameB.drewN ?_ _)))
    have hS0_2 := Lib.hid (hS0_1.out.trans hS1_2.out)
    have hs2 : w.heap.size + 1 + 1 + 1 ≤ w2.heap.size := by have := hb2.size; (try simp at this); omega
    have hc2_0 := fun o : Nat => hc2 (w.heap.size) o (by first | omega | (simp; done) | (simp; omega))
    have hf2_0 := fun o : Nat => hf2 (w.heap.size) o (by first | omega | (simp; done) | (simp; omega))
    have hc2_1 := fun o : Nat => hc2 (w.heap.size + 1) o (by first | omega | (simp; done) | (simp; omega))
    have hf2_1 := fun o : Nat => hf2 (w.heap.size + 1) o (by first | omega | (simp; done) | (simp; omega))
    have hc2_2 := fun o : Nat => hc2 (w.heap.size + 1 + 1) o (by first | omega | (simp; done) | (simp; omega))
    have hf2_2 := fun o : Nat => hf2 (w.heap.size + 1 + 1) o (by first | omega | (simp; done) | (simp; omega))
    clear hc2 hf2
    clear hb2
    go_wp2_with fail
    refine Calls.mono (natCmp_calls (HX.out.below HW2.out).1 (HY.out.below HW2.out).1) ?_
    rintro E w3 ⟨rfl, hb3⟩
    obtain ⟨hc3, hf3⟩ := bcell hb3
    have HW3 : Hid (Below w.heap.size w w3) := Lib.hid (by
      refine Below.trans ?_ (hb3.mono ?_)
      · (repeat (first | with_reducible exact HW2.out | refine Below.setCell (p := ⟨_, _, _⟩) ?_ (by first | omega | (simp; done) | (simp; omega)) _ | refine Below.alloc ?_ (by first | omega | (simp; done) | (simp; omega)) _ | refine Below.drew ?_ | refine below_dn ?_ _))
      · first | omega | (simp; done) | (simp; omega))
    have hS2_3 : Hid (SameB w.heap.size 3 w2 w3) := Lib.hid (by
      refine SameB.below ?_ hb3
      (repeat (first | with_reducible exact SameB.refl _ _ _ | refine SameB.setCell (p := ⟨_, _, _⟩) ?_ (by first | omega | (simp; done) | (simp; omega)) (by first | omega | (simp; done) | (simp; omega)) _ | refine SameB.setNew (p := ⟨_, _, _⟩) ?_ (by first | omega | (simp; done) | (simp; omega)) _ | refine SameB.alloc ?_ _ | refine SameB.drew ?_ | refine SameB.drewN ?_ _)))
    have hS0_3 := Lib.hid (hS0_2.out.trans hS2_3.out)
    have hS1_3 := Lib.hid (hS1_2.out.trans hS2_3.out)
    have hs3 : w.heap.size + 1 + 1 + 1 ≤ w3.heap.size := by have := hb3.size; (try simp at this); omega
    have hc3_0 := fun o : Nat => hc3 (w.heap.size) o (by first | omega | (simp; done) | (simp; omega))
    have hf3_0 := fun o : Nat => hf3 (w.heap.size) o (by first | omega | (simp; done) | (simp; omega))
    have hc3_1 := fun o : Nat => hc3 (w.heap.size + 1) o (by first | omega | (simp; done) | (simp; omega))
    have hf3_1 := fun o : Nat => hf3 (w.heap.size + 1) o (by first | omega | (simp; done) | (simp; omega))
    have hc3_2 := fun o : Nat => hc3 (w.heap.size + 1 + 1) o (by first | omega | (simp; done) | (simp; omega))
    have hf3_2 := fun o : Nat => hf3 (w.heap.size + 1 + 1) o (by first | omega | (simp; done) | (simp; omega))
    clear hc3 hf3
    clear hb3
    have q0 : w3.cell? ⟨w.heap.size, 0, none⟩ = some (.bool na) := by rw [hc3_0, hc2_0, hc1_0]; go_simp
    have q1 : w3.cell? ⟨w.heap.size, 1, none⟩ = some (.slice Aa ka ca) := by rw [hc3_0, hc2_0, hc1_0]; go_simp
    have q2 : w3.cell? ⟨w.heap.size + 1, 0, none⟩ = some (.bool nb) := by rw [hc3_1, hc2_1, hc1_1]; go_simp
    have q3 : w3.cell? ⟨w.heap.size + 1, 1, none⟩ = some (.slice Ab kb cb) := by rw [hc3_1, hc2_1, hc1_1]; go_simp
    clear hc3_0 hc3_1
    have hc3_0 := q1
    have hc3_1 := q3
    go_wp2_with fail
    refine Calls.mono (natSub_calls (HY.out.nsame_lt (N := w.heap.size) (n := 3) HBy.out (by (refine SameB.trans hS0_3.out ?_; (repeat (first | with_reducible exact SameB.refl _ _ _ | refine SameB.setCell (p := ⟨_, _, _⟩) ?_ (by first | omega | (simp; done) | (simp; omega)) (by first | omega | (simp; done) | (simp; omega)) _ | refine SameB.setNew (p := ⟨_, _, _⟩) ?_ (by first | omega | (simp; done) | (simp; omega)) _ | refine SameB.alloc ?_ _ | refine SameB.drew ?_ | refine SameB.drewN ?_ _))))) (HX.out.nsame_lt (N := w.heap.size) (n := 3) HBx.out (by (refine SameB.trans hS0_3.out ?_; (repeat (first | with_reducible exact SameB.refl _ _ _ | refine SameB.setCell (p := ⟨_, _, _⟩) ?_ (by first | omega | (simp; done) | (simp; omega)) (by first | omega | (simp; done) | (simp; omega)) _ | refine SameB.setNew (p := ⟨_, _, _⟩) ?_ (by first | omega | (simp; done) | (simp; omega)) _ | refine SameB.alloc ?_ _ | refine SameB.drew ?_ | refine SameB.drewN ?_ _))))) HLE.out) ?_
    rintro E w4 ⟨v4, rfl, hv4, hg4, hb4⟩
    obtain ⟨hc4, hf4⟩ := bcell hb4
    have HW4 : Hid (Below w.heap.size w w4) := Lib.hid (by
      refine Below.trans ?_ (hb4.mono ?_)
      · (repeat (first | with_reducible exact HW3.out | refine Below.setCell (p := ⟨_, _, _⟩) ?_ (by first | omega | (simp; done) | (simp; omega)) _ | refine Below.alloc ?_ (by first | omega | (simp; done) | (simp; omega)) _ | refine Below.drew ?_ | refine below_dn ?_ _))
      · first | omega | (simp; done) | (simp; omega))
    have hS3_4 : Hid (SameB w.heap.size 3 w3 w4) := Lib.hid (by
      refine SameB.below ?_ hb4
      (repeat (first | with_reducible exact SameB.refl _ _ _ | refine SameB.setCell (p := ⟨_, _, _⟩) ?_ (by first | omega | (simp; done) | (simp; omega)) (by first | omega | (simp; done) | (simp; omega)) _ | refine SameB.setNew (p := ⟨_, _, _⟩) ?_ (by first | omega | (simp; done) | (simp; omega)) _ | refine SameB.alloc ?_ _ | refine SameB.drew ?_ | refine SameB.drewN ?_ _)))
    have hS0_4 := Lib.hid (hS0_3.out.trans hS3_4.out)
    have hS1_4 := Lib.hid (hS1_3.out.trans hS3_4.out)
    have hS2_4 := Lib.hid (hS2_3.out.trans hS3_4.out)
    have hs4 : w.heap.size + 1 + 1 + 1 ≤ w4.heap.size := by have := hb4.size; (try simp at this); omega
    have hc4_0 := fun o : Nat => hc4 (w.heap.size) o (by first | omega | (simp; done) | (simp; omega))
    have hf4_0 := fun o : Nat => hf4 (w.heap.size) o (by first | omega | (simp; done) | (simp; omega))
    have hc4_1 := fun o : Nat => hc4 (w.heap.size + 1) o (by first | omega | (simp; done) | (simp; omega))
    have hf4_1 := fun o : Nat => hf4 (w.heap.size + 1) o (by first | omega | (simp; done) | (simp; omega))
    have hc4_2 := fun o : Nat => hc4 (w.heap.size + 1 + 1) o (by first | omega | (simp; done) | (simp; omega))
    have hf4_2 := fun o : Nat => hf4 (w.heap.size + 1 + 1) o (by first | omega | (simp; done) | (simp; omega))
    clear hc4 hf4
    clear hb4
    obtain ⟨A4, k4, c4, rfl, _, _, _⟩ := hv4.form
    have HV4 := Lib.hid hv4
    have HG4 : Hid (Ge (w.heap.size + 1 + 1 + 1) _) := Lib.hid (hg4.mono (by first | omega | (simp; done) | (simp; omega)))
    clear hv4 hg4
    go_wp2_with fail
    refine Calls.mono (numTold_calls (neg := nb) HV4.out) ?_
    rintro E w5 ⟨rfl, hb5⟩
    obtain ⟨hc5, hf5⟩ := bcell hb5
    have HW5 : Hid (Below w.heap.size w w5) := Lib.hid (by
      refine Below.trans ?_ (hb5.mono ?_)
      · (repeat (first | with_reducible exact HW4.out | refine Below.setCell (p := ⟨_, _, _⟩) ?_ (by first | omega | (simp; done) | (simp; omega)) _ | refine Below.alloc ?_ (by first | omega | (simp; done) | (simp; omega)) _ | refine Below.drew ?_ | refine below_dn ?_ _))
      · first | omega | (simp; done) | (simp; omega))
    have hS4_5 : Hid (SameB w.heap.size 3 w4 w5) := Lib.hid (by
      refine SameB.below ?_ hb5
      (repeat (first | with_reducible exact SameB.refl _ _ _ | refine SameB.setCell (p := ⟨_, _, _⟩) ?_ (by first | omega | (simp; done) | (simp; omega)) (by first | omega | (simp; done) | (simp; omega)) _ | refine SameB.setNew (p := ⟨_, _, _⟩) ?_ (by first | omega | (simp; done) | (simp; omega)) _ | refine SameB.alloc ?_ _ | refine SameB.drew ?_ | refine SameB.drewN ?_ _)))
    have hS0_5 := Lib.hid (hS0_4.out.trans hS4_5.out)
    have hS1_5 := Lib.hid (hS1_4.out.trans hS4_5.out)
    have hS2_5 := Lib.hid (hS2_4.out.trans hS4_5.out)
    have hS3_5 := Lib.hid (hS3_4.out.trans hS4_5.out)
    have hs5 : w.heap.size + 1 + 1 + 1 ≤ w5.heap.size := by have := hb5.size; (try simp at this); omega
    have hc5_0 := fun o : Nat => hc5 (w.heap.size) o (by first | omega | (simp; done) | (simp; omega))
    have hf5_0 := fun o : Nat => hf5 (w.heap.size) o (by first | omega | (simp; done) | (simp; omega))
    have hc5_1 := fun o : Nat => hc5 (w.heap.size + 1) o (by first | omega | (simp; done) | (simp; omega))
    have hf5_1 := fun o : Nat => hf5 (w.heap.size + 1) o (by first | omega | (simp; done) | (simp; omega))
    have hc5_2 := fun o : Nat => hc5 (w.heap.size + 1 + 1) o (by first | omega | (simp; done) | (simp; omega))
    have hf5_2 := fun o : Nat => hf5 (w.heap.size + 1 + 1) o (by first | omega | (simp; done) | (simp; omega))
    clear hc5 hf5
    clear hb5
    have HRR := HR.out
    generalize hB : (nb && decide (_ ≠ 0)) = B at HRR ⊢
    unfold intV
    go_wp2_with fail
    refine bodyPost_ret (v := .tuple #[intV B (.slice A4 k4 c4), .int .i64 0]) (by simp [results, Tryd.results68, go_sem, intV, dyV, hc1_0, hf1_0, hc1_1, hf1_1, hc1_2, hf1_2, hc2_0, hf2_0, hc2_1, hf2_1, hc2_2, hf2_2, hc3_0, hf3_0, hc3_1, hf3_1, hc3_2, hf3_2, hc4_0, hf4_0, hc4_1, hf4_1, hc4_2, hf4_2, hc5_0, hf5_0, hc5_1, hf5_1, hc5_2, hf5_2]) rfl ?_
    exact ⟨B, _, rfl, HRR _ _ (HV4.out.same_ge (N := w.heap.size) (n := 3) HG4.out (by omega) (by (refine SameB.trans hS4_5.out ?_; (repeat (first | with_reducible exact SameB.refl _ _ _ | refine SameB.setCell (p := ⟨_, _, _⟩) ?_ (by first | omega | (simp; done) | (simp; omega)) (by first | omega | (simp; done) | (simp; omega)) _ | refine SameB.setNew (p := ⟨_, _, _⟩) ?_ (by first | omega | (simp; done) | (simp; omega)) _ | refine SameB.alloc ?_ _ | refine SameB.drew ?_ | refine SameB.drewN ?_ _))))) HG4.out.spot, HG4.out.mono (by omega), by (repeat (first | with_reducible exact HW5.out | refine Below.setCell (p := ⟨_, _, _⟩) ?_ (by first | omega | (simp; done) | (simp; omega)) _ | refine Below.alloc ?_ (by first | omega | (simp; done) | (simp; omega)) _ | refine Below.drew ?_ | refine below_dn ?_ _))⟩
  · have hcmp : ¬ cmpN x.natAbs y.natAbs < 0 := by unfold cmpN; rw [if_neg (by omega)]; split <;> decide
    have HLE : Hid (y.natAbs ≤ x.natAbs) := Lib.hid hge
    have hres : ∀ w' v', IsNat w' v' (x.natAbs - y.natAbs) → Spot v' → IsZ w' (na && decide (x.natAbs - y.natAbs ≠ 0)) v' (x + y) := fun w' v' hv hsp => by
      have := IsZ.mk_mag (neg := na) hv hsp
      have e : (if na = true then -((x.natAbs - y.natAbs : Nat) : Int) else ((x.natAbs - y.natAbs : Nat) : Int)) = x + y := by
        cases na <;> cases nb <;> simp at hne
        · have := of_decide_eq_false hxa.symm; have := of_decide_eq_true hyb.symm; simp only [Bool.false_eq_true, if_false]; omega
        · have := of_decide_eq_true hxa.symm; have := of_decide_eq_false hyb.symm; simp only [if_true]; omega
      rwa [e] at this
    have HR := Lib.hid hres
    clear hx hy hres hxa hyb hge
    unfold intV
    have HW0 : Hid (Below w.heap.size w w) := Lib.hid (Below.refl _ _)
    go_enter Tryd.func68, Tryd.ntmps68
    go_wp2_with fail
    refine Calls.mono (numForm_calls (HX.out.below (by (repeat (first | with_reducible exact HW0.out | refine Below.setCell (p := ⟨_, _, _⟩) ?_ (by first | omega | (simp; done) | (simp; omega)) _ | refine Below.alloc ?_ (by first | omega | (simp; done) | (simp; omega)) _ | refine Below.drew ?_ | refine below_dn ?_ _))))) ?_
    rintro E w1 ⟨rfl, hb1⟩
    obtain ⟨hc1, hf1⟩ := bcell hb1
    have HW1 : Hid (Below w.heap.size w w1) := Lib.hid (by
      refine Below.trans ?_ (hb1.mono ?_)
      · (repeat (first | with_reducible exact HW0.out | refine Below.setCell (p := ⟨_, _, _⟩) ?_ (by first | omega | (simp; done) | (simp; omega)) _ | refine Below.alloc ?_ (by first | omega | (simp; done) | (simp; omega)) _ | refine Below.drew ?_ | refine below_dn ?_ _))
      · first | omega | (simp; done) | (simp; omega))
    have hS0_1 : Hid (SameB w.heap.size 3 w w1) := Lib.hid (by
      refine SameB.below ?_ hb1
      (repeat (first | with_reducible exact SameB.refl _ _ _ | refine SameB.setCell (p := ⟨_, _, _⟩) ?_ (by first | omega | (simp; done) | (simp; omega)) (by first | omega | (simp; done) | (simp; omega)) _ | refine SameB.setNew (p := ⟨_, _, _⟩) ?_ (by first | omega | (simp; done) | (simp; omega)) _ | refine SameB.alloc ?_ _ | refine SameB.drew ?_ | refine SameB.drewN ?_ _)))
    have hs1 : w.heap.size + 1 + 1 + 1 ≤ w1.heap.size := by have := hb1.size; (try simp at this); omega
    have hc1_0 := fun o : Nat => hc1 (w.heap.size) o (by first | omega | (simp; done) | (simp; omega))
    have hf1_0 := fun o : Nat => hf1 (w.heap.size) o (by first | omega | (simp; done) | (simp; omega))
    have hc1_1 := fun o : Nat => hc1 (w.heap.size + 1) o (by first | omega | (simp; done) | (simp; omega))
    have hf1_1 := fun o : Nat => hf1 (w.heap.size + 1) o (by first | omega | (simp; done) | (simp; omega))
    have hc1_2 := fun o : Nat => hc1 (w.heap.size + 1 + 1) o (by first | omega | (simp; done) | (simp; omega))
    have hf1_2 := fun o : Nat => hf1 (w.heap.size + 1 + 1) o (by first | omega | (simp; done) | (simp; omega))
    clear hc1 hf1
    clear hb1
    go_wp2_with fail
    refine Calls.mono (numForm_calls (HY.out.below HW1.out)) ?_
    rintro E w2 ⟨rfl, hb2⟩
    obtain ⟨hc2, hf2⟩ := bcell hb2
    have HW2 : Hid (Below w.heap.size w w2) := Lib.hid (by
      refine Below.trans ?_ (hb2.mono ?_)
      · (repeat (first | with_reducible exact HW1.out | refine Below.setCell (p := ⟨_, _, _⟩) ?_ (by first | omega | (simp; done) | (simp; omega)) _ | refine Below.alloc ?_ (by first | omega | (simp; done) | (simp; omega)) _ | refine Below.drew ?_ | refine below_dn ?_ _))
      · first | omega | (simp; done) | (simp; omega))
    have hS1_2 : Hid (SameB w.heap.size 3 w1 w2) := Lib.hid (by
      refine SameB.below ?_ hb2
      (repeat (first | with_reducible exact SameB.refl _ _ _ | refine SameB.setCell (p := ⟨_, _, _⟩) ?_ (by first | omega | (simp; done) | (simp; omega)) (by first | omega | (simp; done) | (simp; omega)) _ | refine SameB.setNew (p := ⟨_, _, _⟩) ?_ (by first | omega | (simp; done) | (simp; omega)) _ | refine SameB.alloc ?_ _ | refine SameB.drew ?_ | refine SameB.drewN ?_ _)))
    have hS0_2 := Lib.hid (hS0_1.out.trans hS1_2.out)
    have hs2 : w.heap.size + 1 + 1 + 1 ≤ w2.heap.size := by have := hb2.size; (try simp at this); omega
    have hc2_0 := fun o : Nat => hc2 (w.heap.size) o (by first | omega | (simp; done) | (simp; omega))
    have hf2_0 := fun o : Nat => hf2 (w.heap.size) o (by first | omega | (simp; done) | (simp; omega))
    have hc2_1 := fun o : Nat => hc2 (w.heap.size + 1) o (by first | omega | (simp; done) | (simp; omega))
    have hf2_1 := fun o : Nat => hf2 (w.heap.size + 1) o (by first | omega | (simp; done) | (simp; omega))
    have hc2_2 := fun o : Nat => hc2 (w.heap.size + 1 + 1) o (by first | omega | (simp; done) | (simp; omega))
    have hf2_2 := fun o : Nat => hf2 (w.heap.size + 1 + 1) o (by first | omega | (simp; done) | (simp; omega))
    clear hc2 hf2
    clear hb2
    go_wp2_with fail
    refine Calls.mono (natCmp_calls (HX.out.below HW2.out).1 (HY.out.below HW2.out).1) ?_
    rintro E w3 ⟨rfl, hb3⟩
    obtain ⟨hc3, hf3⟩ := bcell hb3
    have HW3 : Hid (Below w.heap.size w w3) := Lib.hid (by
      refine Below.trans ?_ (hb3.mono ?_)
      · (repeat (first | with_reducible exact HW2.out | refine Below.setCell (p := ⟨_, _, _⟩) ?_ (by first | omega | (simp; done) | (simp; omega)) _ | refine Below.alloc ?_ (by first | omega | (simp; done) | (simp; omega)) _ | refine Below.drew ?_ | refine below_dn ?_ _))
      · first | omega | (simp; done) | (simp; omega))
    have hS2_3 : Hid (SameB w.heap.size 3 w2 w3) := Lib.hid (by
      refine SameB.below ?_ hb3
      (repeat (first | with_reducible exact SameB.refl _ _ _ | refine SameB.setCell (p := ⟨_, _, _⟩) ?_ (by first | omega | (simp; done) | (simp; omega)) (by first | omega | (simp; done) | (simp; omega)) _ | refine SameB.setNew (p := ⟨_, _, _⟩) ?_ (by first | omega | (simp; done) | (simp; omega)) _ | refine SameB.alloc ?_ _ | refine SameB.drew ?_ | refine SameB.drewN ?_ _)))
    have hS0_3 := Lib.hid (hS0_2.out.trans hS2_3.out)
    have hS1_3 := Lib.hid (hS1_2.out.trans hS2_3.out)
    have hs3 : w.heap.size + 1 + 1 + 1 ≤ w3.heap.size := by have := hb3.size; (try simp at this); omega
    have hc3_0 := fun o : Nat => hc3 (w.heap.size) o (by first | omega | (simp; done) | (simp; omega))
    have hf3_0 := fun o : Nat => hf3 (w.heap.size) o (by first | omega | (simp; done) | (simp; omega))
    have hc3_1 := fun o : Nat => hc3 (w.heap.size + 1) o (by first | omega | (simp; done) | (simp; omega))
    have hf3_1 := fun o : Nat => hf3 (w.heap.size + 1) o (by first | omega | (simp; done) | (simp; omega))
    have hc3_2 := fun o : Nat => hc3 (w.heap.size + 1 + 1) o (by first | omega | (simp; done) | (simp; omega))
    have hf3_2 := fun o : Nat => hf3 (w.heap.size + 1 + 1) o (by first | omega | (simp; done) | (simp; omega))
    clear hc3 hf3
    clear hb3
    go_wp2_with fail
    refine Calls.mono (natSub_calls (HX.out.nsame_lt (N := w.heap.size) (n := 3) HBx.out (by (refine SameB.trans hS0_3.out ?_; (repeat (first | with_reducible exact SameB.refl _ _ _ | refine SameB.setCell (p := ⟨_, _, _⟩) ?_ (by first | omega | (simp; done) | (simp; omega)) (by first | omega | (simp; done) | (simp; omega)) _ | refine SameB.setNew (p := ⟨_, _, _⟩) ?_ (by first | omega | (simp; done) | (simp; omega)) _ | refine SameB.alloc ?_ _ | refine SameB.drew ?_ | refine SameB.drewN ?_ _))))) (HY.out.nsame_lt (N := w.heap.size) (n := 3) HBy.out (by (refine SameB.trans hS0_3.out ?_; (repeat (first | with_reducible exact SameB.refl _ _ _ | refine SameB.setCell (p := ⟨_, _, _⟩) ?_ (by first | omega | (simp; done) | (simp; omega)) (by first | omega | (simp; done) | (simp; omega)) _ | refine SameB.setNew (p := ⟨_, _, _⟩) ?_ (by first | omega | (simp; done) | (simp; omega)) _ | refine SameB.alloc ?_ _ | refine SameB.drew ?_ | refine SameB.drewN ?_ _))))) HLE.out) ?_
    rintro E w4 ⟨v4, rfl, hv4, hg4, hb4⟩
    obtain ⟨hc4, hf4⟩ := bcell hb4
    have HW4 : Hid (Below w.heap.size w w4) := Lib.hid (by
      refine Below.trans ?_ (hb4.mono ?_)
      · (repeat (first | with_reducible exact HW3.out | refine Below.setCell (p := ⟨_, _, _⟩) ?_ (by first | omega | (simp; done) | (simp; omega)) _ | refine Below.alloc ?_ (by first | omega | (simp; done) | (simp; omega)) _ | refine Below.drew ?_ | refine below_dn ?_ _))
      · first | omega | (simp; done) | (simp; omega))
    have hS3_4 : Hid (SameB w.heap.size 3 w3 w4) := Lib.hid (by
      refine SameB.below ?_ hb4
      (repeat (first | with_reducible exact SameB.refl _ _ _ | refine SameB.setCell (p := ⟨_, _, _⟩) ?_ (by first | omega | (simp; done) | (simp; omega)) (by first | omega | (simp; done) | (simp; omega)) _ | refine SameB.setNew (p := ⟨_, _, _⟩) ?_ (by first | omega | (simp; done) | (simp; omega)) _ | refine SameB.alloc ?_ _ | refine SameB.drew ?_ | refine SameB.drewN ?_ _)))
    have hS0_4 := Lib.hid (hS0_3.out.trans hS3_4.out)
    have hS1_4 := Lib.hid (hS1_3.out.trans hS3_4.out)
    have hS2_4 := Lib.hid (hS2_3.out.trans hS3_4.out)
    have hs4 : w.heap.size + 1 + 1 + 1 ≤ w4.heap.size := by have := hb4.size; (try simp at this); omega
    have hc4_0 := fun o : Nat => hc4 (w.heap.size) o (by first | omega | (simp; done) | (simp; omega))
    have hf4_0 := fun o : Nat => hf4 (w.heap.size) o (by first | omega | (simp; done) | (simp; omega))
    have hc4_1 := fun o : Nat => hc4 (w.heap.size + 1) o (by first | omega | (simp; done) | (simp; omega))
    have hf4_1 := fun o : Nat => hf4 (w.heap.size + 1) o (by first | omega | (simp; done) | (simp; omega))
    have hc4_2 := fun o : Nat => hc4 (w.heap.size + 1 + 1) o (by first | omega | (simp; done) | (simp; omega))
    have hf4_2 := fun o : Nat => hf4 (w.heap.size + 1 + 1) o (by first | omega | (simp; done) | (simp; omega))
    clear hc4 hf4
    clear hb4
    obtain ⟨A4, k4, c4, rfl, _, _, _⟩ := hv4.form
    have HV4 := Lib.hid hv4
    have HG4 : Hid (Ge (w.heap.size + 1 + 1 + 1) _) := Lib.hid (hg4.mono (by first | omega | (simp; done) | (simp; omega)))
    clear hv4 hg4
    go_wp2_with fail
    refine Calls.mono (numTold_calls (neg := na) HV4.out) ?_
    rintro E w5 ⟨rfl, hb5⟩
    obtain ⟨hc5, hf5⟩ := bcell hb5
    have HW5 : Hid (Below w.heap.size w w5) := Lib.hid (by
      refine Below.trans ?_ (hb5.mono ?_)
      · (repeat (first | with_reducible exact HW4.out | refine Below.setCell (p := ⟨_, _, _⟩) ?_ (by first | omega | (simp; done) | (simp; omega)) _ | refine Below.alloc ?_ (by first | omega | (simp; done) | (simp; omega)) _ | refine Below.drew ?_ | refine below_dn ?_ _))
      · first | omega | (simp; done) | (simp; omega))
    have hS4_5 : Hid (SameB w.heap.size 3 w4 w5) := Lib.hid (by
      refine SameB.below ?_ hb5
      (repeat (first | with_reducible exact SameB.refl _ _ _ | refine SameB.setCell (p := ⟨_, _, _⟩) ?_ (by first | omega | (simp; done) | (simp; omega)) (by first | omega | (simp; done) | (simp; omega)) _ | refine SameB.setNew (p := ⟨_, _, _⟩) ?_ (by first | omega | (simp; done) | (simp; omega)) _ | refine SameB.alloc ?_ _ | refine SameB.drew ?_ | refine SameB.drewN ?_ _)))
    have hS0_5 := Lib.hid (hS0_4.out.trans hS4_5.out)
    have hS1_5 := Lib.hid (hS1_4.out.trans hS4_5.out)
    have hS2_5 := Lib.hid (hS2_4.out.trans hS4_5.out)
    have hS3_5 := Lib.hid (hS3_4.out.trans hS4_5.out)
    have hs5 : w.heap.size + 1 + 1 + 1 ≤ w5.heap.size := by have := hb5.size; (try simp at this); omega
    have hc5_0 := fun o : Nat => hc5 (w.heap.size) o (by first | omega | (simp; done) | (simp; omega))
    have hf5_0 := fun o : Nat => hf5 (w.heap.size) o (by first | omega | (simp; done) | (simp; omega))
    have hc5_1 := fun o : Nat => hc5 (w.heap.size + 1) o (by first | omega | (simp; done) | (simp; omega))
    have hf5_1 := fun o : Nat => hf5 (w.heap.size + 1) o (by first | omega | (simp; done) | (simp; omega))
    have hc5_2 := fun o : Nat => hc5 (w.heap.size + 1 + 1) o (by first | omega | (simp; done) | (simp; omega))
    have hf5_2 := fun o : Nat => hf5 (w.heap.size + 1 + 1) o (by first | omega | (simp; done) | (simp; omega))
    clear hc5 hf5
    clear hb5
    have HRR := HR.out
    generalize hB : (na && decide (_ ≠ 0)) = B at HRR ⊢
    unfold intV
    go_wp2_with fail
    refine bodyPost_ret (v := .tuple #[intV B (.slice A4 k4 c4), .int .i64 0]) (by simp [results, Tryd.results68, go_sem, intV, dyV, hc1_0, hf1_0, hc1_1, hf1_1, hc1_2, hf1_2, hc2_0, hf2_0, hc2_1, hf2_1, hc2_2, hf2_2, hc3_0, hf3_0, hc3_1, hf3_1, hc3_2, hf3_2, hc4_0, hf4_0, hc4_1, hf4_1, hc4_2, hf4_2, hc5_0, hf5_0, hc5_1, hf5_1, hc5_2, hf5_2]) rfl ?_
    exact ⟨B, _, rfl, HRR _ _ (HV4.out.same_ge (N := w.heap.size) (n := 3) HG4.out (by omega) (by (refine SameB.trans hS4_5.out ?_; (repeat (first | with_reducible exact SameB.refl _ _ _ | refine SameB.setCell (p := ⟨_, _, _⟩) ?_ (by first | omega | (simp; done) | (simp; omega)) (by first | omega | (simp; done) | (simp; omega)) _ | refine SameB.setNew (p := ⟨_, _, _⟩) ?_ (by first | omega | (simp; done) | (simp; omega)) _ | refine SameB.alloc ?_ _ | refine SameB.drew ?_ | refine SameB.drewN ?_ _))))) HG4.out.spot, HG4.out.mono (by omega), by (repeat (first | with_reducible exact HW5.out | refine Below.setCell (p := ⟨_, _, _⟩) ?_ (by first | omega | (simp; done) | (simp; omega)) _ | refine Below.alloc ?_ (by first | omega | (simp; done) | (simp; omega)) _ | refine Below.drew ?_ | refine below_dn ?_ _))⟩

theorem numAdd_calls {w : World} {na nb : Bool} {a b : Value} {x y : Int} (hx : IsZ w na a x) (hy : IsZ w nb b y) (hs : (x + y).natAbs < LIM) :
    Calls Tryd.prog 68 #[intV na a, intV nb b] w (ZRes w (x + y)) := by
  obtain ⟨Aa, ka, ca, rfl, _⟩ := hx.1.form
  obtain ⟨Ab, kb, cb, rfl, _⟩ := hy.1.form
  cases h : (na == nb) with
  | false => exact numAdd_diff hx hy h
  | true =>
    have : na = nb := by simpa using h
    subst this
    exact numAdd_same hx hy hs

end Go.Proofs.YtgihapdlliidgaaDoor
