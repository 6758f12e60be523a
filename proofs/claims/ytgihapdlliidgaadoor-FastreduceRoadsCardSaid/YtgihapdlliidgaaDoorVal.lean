/- The walks of binary.Value and dd.Value; when Add may be asked. -/
import Derived.Test.YtgihapdlliidgaaDoorBin2
import Derived.Test.YtgihapdlliidgaaDoorDd
namespace Go.Proofs.YtgihapdlliidgaaDoor
open Go Go.RowKit
set_option linter.unusedVariables false
set_option linter.unusedSimpArgs false

/-- a dyadic whose mantissa has at most k bits, and whose exponent is at most k in size -/
def Sm (k : Nat) (m e : Int) : Prop := m.natAbs < 2 ^ k ∧ -(k : Int) ≤ e ∧ e ≤ k

theorem pow_lt_LIM {n : Nat} (h : n ≤ 524288) : 2 ^ n ≤ LIM := by
  rw [LIM_eq]; exact Nat.pow_le_pow_right (by decide) (by rw [LIMB_eq]; exact h)

theorem tzn_lt {m k : Nat} (h0 : m ≠ 0) (h : m < 2 ^ k) : tzn m < k := by
  obtain ⟨t, e⟩ := tzn_spec m h0
  have a : 2 ^ tzn m ≤ m := by rw (occs := .pos [2]) [e]; exact Nat.le_mul_of_pos_right _ (by omega)
  exact (Nat.pow_lt_pow_iff_right (a := 2) (by decide)).1 (Nat.lt_of_le_of_lt a h)

theorem Sm.mono {k l : Nat} {m e : Int} (h : Sm k m e) (hl : k ≤ l) : Sm l m e := by
  obtain ⟨a, b, c⟩ := h
  exact ⟨Nat.lt_of_lt_of_le a (Nat.pow_le_pow_right (by decide) hl), by omega, by omega⟩
theorem Sm.neg {k : Nat} {m e : Int} (h : Sm k m e) : Sm k (-m) e := by
  obtain ⟨a, b, c⟩ := h
  exact ⟨by rw [Int.natAbs_neg]; exact a, b, c⟩

theorem sm_shift {k : Nat} {m e e0 : Int} (h : Sm k m e) (h0 : -(k : Int) ≤ e0) (h1 : e0 ≤ e) : m.natAbs * 2 ^ (e - e0).toNat < 2 ^ (3 * k) := by
  obtain ⟨a, b, c⟩ := h
  have h2 : 2 ^ (e - e0).toNat ≤ 2 ^ (2 * k) := Nat.pow_le_pow_right (by decide) (by omega)
  have h3 : m.natAbs * 2 ^ (e - e0).toNat ≤ m.natAbs * 2 ^ (2 * k) := Nat.mul_le_mul_left _ h2
  have h4 : m.natAbs * 2 ^ (2 * k) < 2 ^ k * 2 ^ (2 * k) := Nat.mul_lt_mul_of_pos_right a (Nat.two_pow_pos _)
  rw [← Nat.pow_add, show k + 2 * k = 3 * k by omega] at h4
  omega

theorem mkOk_sm {k : Nat} {z e : Int} (h : Sm k z e) (hk : 2 * k ≤ 1048576) : MkOk z e := by
  intro h0
  obtain ⟨a, b, c⟩ := h
  have := tzn_lt (m := z.natAbs) (by omega) a
  exact ⟨by omega, by omega, by omega, by omega⟩

theorem dyM_sm {k : Nat} {z e : Int} (h : Sm k z e) : Sm (2 * k) (dyM z) (dyE z e) := by
  obtain ⟨a, b, c⟩ := h
  by_cases h0 : z = 0
  · subst h0
    simp only [dyM, dyE, if_true]
    exact ⟨Nat.two_pow_pos _, by omega, by omega⟩
  · obtain ⟨s1, s2, s3, s4⟩ := dyM_spec z h0
    have ht := tzn_lt (m := z.natAbs) (by omega) a
    refine ⟨?_, ?_, ?_⟩
    · rw [s3]
      exact Nat.lt_of_le_of_lt (Nat.div_le_self _ _) (Nat.lt_of_lt_of_le a (Nat.pow_le_pow_right (by decide) (by omega)))
    · unfold dyE; rw [if_neg h0]; omega
    · unfold dyE; rw [if_neg h0]; omega

theorem dyZ_sm {k : Nat} {ma ea mb eb : Int} (ha : Sm k ma ea) (hb : Sm k mb eb) : Sm (3 * k + 1) (dyZ ma ea mb eb) (min ea eb) := by
  have h1 := sm_shift (e0 := min ea eb) ha (by have := ha.2.1; have := hb.2.1; omega) (by omega)
  have h2 := sm_shift (e0 := min ea eb) hb (by have := ha.2.1; have := hb.2.1; omega) (by omega)
  refine ⟨?_, by have := ha.2.1; have := hb.2.1; omega, by have := ha.2.2; omega⟩
  unfold dyZ
  have e1 : ∀ (m : Int) (n : Nat), (m * 2 ^ n).natAbs = m.natAbs * 2 ^ n := fun m n => by rw [Int.natAbs_mul, Int.natAbs_pow]; rfl
  have := Int.natAbs_add_le (ma * 2 ^ (ea - min ea eb).toNat) (mb * 2 ^ (eb - min ea eb).toNat)
  rw [e1, e1] at this
  rw [Nat.pow_succ]
  omega

theorem addOk_sm {k : Nat} {ma ea mb eb : Int} (ha : Sm k ma ea) (hb : Sm k mb eb) (hk : 3 * k + 1 ≤ 524288) : AddOk ma ea mb eb := by
  have h1 := sm_shift (e0 := min ea eb) ha (by have := ha.2.1; have := hb.2.1; omega) (by omega)
  have h2 := sm_shift (e0 := min ea eb) hb (by have := ha.2.1; have := hb.2.1; omega) (by omega)
  have h3 := dyZ_sm ha hb
  have hp : 2 ^ (3 * k) ≤ LIM := pow_lt_LIM (by omega)
  exact ⟨by omega, by omega, Nat.lt_of_lt_of_le h3.1 (pow_lt_LIM hk), mkOk_sm h3 (by omega)⟩

theorem pMan_lt (s : Nat) : pMan s < 2 ^ 53 := by
  unfold pMan
  split <;> omega
theorem pInt_abs (b : Nat) : (pInt b).natAbs = pMan (pSz b) := by
  unfold pInt; split <;> omega
theorem pExp_bounds {s : Nat} (h : s < PINF) : -1074 ≤ pExp s ∧ pExp s ≤ 971 := by
  rw [PINF_eq] at h
  unfold pExp
  split <;> omega
theorem p_sm {b : Nat} (h : pSz b < PINF) (k : Nat) (hk : 1074 ≤ k) : Sm k (pInt b) (pExp (pSz b)) := by
  have h1 := pMan_lt (pSz b)
  have h2 := pExp_bounds h
  refine ⟨?_, by omega, by omega⟩
  rw [pInt_abs]
  exact Nat.lt_of_lt_of_le h1 (Nat.pow_le_pow_right (by decide) (by omega))

set_option maxRecDepth 100000 in
set_option maxHeartbeats 3200000 in
theorem binValue_calls (b : Nat) (h : b < 18446744073709551616) (hf : pSz b < PINF) (w : World) (hT : Tab w) :
    Calls Tryd.prog 47 #[.int .i64 64, .int .u64 b] w (DRes w (dyM (pInt b)) (dyE (pInt b) (pExp (pSz b)))) := by
  have H1 := Lib.hid (binFinite_calls b h hf)
  have H2 := Lib.hid (binParts_calls (pSz b) hf)
  have hm : pMan (pSz b) < B64 := by have := pMan_lt (pSz b); rw [B64_eq]; omega
  have hz : (if pNeg b = true then -(pMan (pSz b) : Int) else (pMan (pSz b) : Int)) = pInt b := rfl
  have H3 : Hid (∀ w0, Tab w0 → Calls Tryd.prog 66 #[.bool (pNeg b), .int .u64 (pMan (pSz b) : Nat), .int .i64 (pExp (pSz b))] w0 (DRes w0 (dyM (pInt b)) (dyE (pInt b) (pExp (pSz b))))) :=
    Lib.hid fun w0 hT => binNumber_calls (pNeg b) (pMan (pSz b)) (pExp (pSz b)) hm w0 hT (by rw [hz]; exact mkOk_sm (p_sm hf 1074 (by decide)) (by decide))
  have HT := Lib.hid hT
  generalize dyM (pInt b) = rm at *
  generalize dyE (pInt b) (pExp (pSz b)) = re at *
  generalize pMan (pSz b) = mn at *
  generalize pExp (pSz b) = ex at *
  generalize pSz b = sz at *
  generalize pNeg b = ng at *
  clear h hf hT hm hz
  have HW0 : Hid (Below w.heap.size w w) := Lib.hid (Below.refl _ _)
  go_enter Tryd.func47, Tryd.ntmps47
  go_wp2_with fail
  refine Calls.mono (H1.out _) ?_
  rintro E w1 ⟨rfl, hb1⟩
  obtain ⟨hc1, hf1⟩ := bcell hb1
  have HW1 : Hid (Below w.heap.size w w1) := Lib.hid (by
    refine Below.trans ?_ (hb1.mono ?_)
    · (repeat (first | with_reducible exact HW0.out | refine Below.setCell (p := ⟨_, _, _⟩) ?_ (by first | omega | (simp; done) | (simp; omega)) _ | refine Below.alloc ?_ (by first | omega | (simp; done) | (simp; omega)) _ | refine Below.drew ?_ | refine below_dn ?_ _))
    · first | omega | (simp; done) | (simp; omega))
  have hS0_1 : Hid (SameB w.heap.size 1 w w1) := Lib.hid (by
    refine SameB.below ?_ hb1
    (repeat (first | with_reducible exact SameB.refl _ _ _ | refine SameB.setCell (p := ⟨_, _, _⟩) ?_ (by first | omega | (simp; done) | (simp; omega)) (by first | omega | (simp; done) | (simp; omega)) _ | refine SameB.setNew (p := ⟨_, _, _⟩) ?_ (by first | omega | (simp; done) | (simp; omega)) _ | refine SameB.alloc ?_ _ | refine SameB.drew ?_ | refine SameB.drewN ?_ _)))
  have hs1 : w.heap.size + 1 ≤ w1.heap.size := by have := hb1.size; (try simp at this); omega
  have hc1_0 := fun o : Nat => hc1 (w.heap.size) o (by first | omega | (simp; done) | (simp; omega))
  have hf1_0 := fun o : Nat => hf1 (w.heap.size) o (by first | omega | (simp; done) | (simp; omega))
  clear hc1 hf1
  clear hb1
  unfold shV
  have hlt2_0 : w.heap.size < w1.heap.size := by omega
  have hne2_0 : ¬ (w.heap.size = w1.heap.size) := by omega
  have hen2_0 : ¬ (w1.heap.size = w.heap.size) := by omega
  go_wp2_with fail
  refine Calls.mono (H2.out _) ?_
  rintro E w2 ⟨rfl, hb2⟩
  obtain ⟨hc2, hf2⟩ := bcell hb2
  have HW2 : Hid (Below w.heap.size w w2) := Lib.hid (by
    refine Below.trans ?_ (hb2.mono ?_)
    · (repeat (first | with_reducible exact HW1.out | refine Below.setCell (p := ⟨_, _, _⟩) ?_ (by first | omega | (simp; done) | (simp; omega)) _ | refine Below.alloc ?_ (by first | omega | (simp; done) | (simp; omega)) _ | refine Below.drew ?_ | refine below_dn ?_ _))
    · first | omega | (simp; done) | (simp; omega))
  have hS1_2 : Hid (SameB w.heap.size 1 w1 w2) := Lib.hid (by
    refine SameB.below ?_ hb2
    (repeat (first | with_reducible exact SameB.refl _ _ _ | refine SameB.setCell (p := ⟨_, _, _⟩) ?_ (by first | omega | (simp; done) | (simp; omega)) (by first | omega | (simp; done) | (simp; omega)) _ | refine SameB.setNew (p := ⟨_, _, _⟩) ?_ (by first | omega | (simp; done) | (simp; omega)) _ | refine SameB.alloc ?_ _ | refine SameB.drew ?_ | refine SameB.drewN ?_ _)))
  have hS0_2 := Lib.hid (hS0_1.out.trans hS1_2.out)
  have hs2 : w.heap.size + 1 ≤ w2.heap.size := by have := hb2.size; (try simp at this); omega
  have hc2_0 := fun o : Nat => hc2 (w.heap.size) o (by first | omega | (simp; done) | (simp; omega))
  have hf2_0 := fun o : Nat => hf2 (w.heap.size) o (by first | omega | (simp; done) | (simp; omega))
  have hsx2_0 : w1.heap.size + 1 ≤ w2.heap.size := by have := hb2.size; (try simp at this); omega
  have hx2_0 := fun o : Nat => hc2 (w1.heap.size) o (by first | omega | (simp; done) | (simp; omega))
  have hxf2_0 := fun o : Nat => hf2 (w1.heap.size) o (by first | omega | (simp; done) | (simp; omega))
  clear hc2 hf2
  clear hb2
  go_wp2_with fail
  refine Calls.mono (H3.out _ (HT.out.below HW2.out)) ?_
  rintro E w3 ⟨n3, v3, rfl, hv3, hg3, hb3⟩
  obtain ⟨hc3, hf3⟩ := bcell hb3
  have HW3 : Hid (Below w.heap.size w w3) := Lib.hid (by
    refine Below.trans ?_ (hb3.mono ?_)
    · (repeat (first | with_reducible exact HW2.out | refine Below.setCell (p := ⟨_, _, _⟩) ?_ (by first | omega | (simp; done) | (simp; omega)) _ | refine Below.alloc ?_ (by first | omega | (simp; done) | (simp; omega)) _ | refine Below.drew ?_ | refine below_dn ?_ _))
    · first | omega | (simp; done) | (simp; omega))
  have hS2_3 : Hid (SameB w.heap.size 1 w2 w3) := Lib.hid (by
    refine SameB.below ?_ hb3
    (repeat (first | with_reducible exact SameB.refl _ _ _ | refine SameB.setCell (p := ⟨_, _, _⟩) ?_ (by first | omega | (simp; done) | (simp; omega)) (by first | omega | (simp; done) | (simp; omega)) _ | refine SameB.setNew (p := ⟨_, _, _⟩) ?_ (by first | omega | (simp; done) | (simp; omega)) _ | refine SameB.alloc ?_ _ | refine SameB.drew ?_ | refine SameB.drewN ?_ _)))
  have hS0_3 := Lib.hid (hS0_2.out.trans hS2_3.out)
  have hS1_3 := Lib.hid (hS1_2.out.trans hS2_3.out)
  have hs3 : w.heap.size + 1 ≤ w3.heap.size := by have := hb3.size; (try simp at this); omega
  have hc3_0 := fun o : Nat => hc3 (w.heap.size) o (by first | omega | (simp; done) | (simp; omega))
  have hf3_0 := fun o : Nat => hf3 (w.heap.size) o (by first | omega | (simp; done) | (simp; omega))
  clear hc3 hf3
  clear hb3
  obtain ⟨A3, k3, c3, rfl, _, _, _⟩ := hv3.nat.form
  have HV3 := Lib.hid hv3
  have HG3 : Hid (Ge (w.heap.size + 1) _) := Lib.hid (hg3.mono (by first | omega | (simp; done) | (simp; omega)))
  clear hv3 hg3
  unfold dyV
  go_wp2_with fail
  refine bodyPost_ret (v := .tuple #[dyV n3 (.slice A3 k3 c3) re, .int .i64 0]) (by simp [results, Tryd.results47, go_sem, intV, dyV, hc1_0, hf1_0, hc2_0, hf2_0, hc3_0, hf3_0, hlt2_0, hne2_0, hen2_0, hx2_0, hxf2_0]) rfl ?_
  exact ⟨n3, _, rfl, (HV3.out.same_ge (N := w.heap.size) (n := 1) HG3.out (by omega) (by (repeat (first | with_reducible exact SameB.refl _ _ _ | refine SameB.setCell (p := ⟨_, _, _⟩) ?_ (by first | omega | (simp; done) | (simp; omega)) (by first | omega | (simp; done) | (simp; omega)) _ | refine SameB.setNew (p := ⟨_, _, _⟩) ?_ (by first | omega | (simp; done) | (simp; omega)) _ | refine SameB.alloc ?_ _ | refine SameB.drew ?_ | refine SameB.drewN ?_ _)))), HG3.out.mono (by omega), by (repeat (first | with_reducible exact HW3.out | refine Below.setCell (p := ⟨_, _, _⟩) ?_ (by first | omega | (simp; done) | (simp; omega)) _ | refine Below.alloc ?_ (by first | omega | (simp; done) | (simp; omega)) _ | refine Below.drew ?_ | refine below_dn ?_ _))⟩

/-- the number of a pattern; the number of a double-double -/
def vM (b : Nat) : Int := dyM (pInt b)
def vE (b : Nat) : Int := dyE (pInt b) (pExp (pSz b))
def ddZ (a : Nat × Nat) : Int := dyZ (vM a.1) (vE a.1) (vM a.2) (vE a.2)
def ddM (a : Nat × Nat) : Int := dyM (ddZ a)
def ddE (a : Nat × Nat) : Int := dyE (ddZ a) (min (vE a.1) (vE a.2))

theorem v_sm {b : Nat} (h : pSz b < PINF) : Sm 2148 (vM b) (vE b) := dyM_sm (k := 1074) (p_sm h 1074 (Nat.le_refl _))
theorem dd_sm {a : Nat × Nat} (h1 : pSz a.1 < PINF) (h2 : pSz a.2 < PINF) : Sm 12890 (ddM a) (ddE a) :=
  dyM_sm (k := 6445) (dyZ_sm (k := 2148) (v_sm h1) (v_sm h2))

set_option maxRecDepth 100000 in
set_option maxHeartbeats 3200000 in
theorem ddValue_calls (a : Nat × Nat) (h1 : a.1 < 18446744073709551616) (h2 : a.2 < 18446744073709551616) (f1 : pSz a.1 < PINF) (f2 : pSz a.2 < PINF) (w : World) (hF : ddForm a = some true) (hT : Tab w) :
    Calls Tryd.prog 26 #[ddV a] w (DRes w (ddM a) (ddE a)) := by
  have HF := Lib.hid (fun w0 => ddForm_calls a true h1 h2 w0 hF)
  have H1 : Hid (∀ w0, Tab w0 → Calls Tryd.prog 47 #[.int .i64 64, .int .u64 a.1] w0 (DRes w0 (vM a.1) (vE a.1))) := Lib.hid fun w0 hT => binValue_calls a.1 h1 f1 w0 hT
  have H2 : Hid (∀ w0, Tab w0 → Calls Tryd.prog 47 #[.int .i64 64, .int .u64 a.2] w0 (DRes w0 (vM a.2) (vE a.2))) := Lib.hid fun w0 hT => binValue_calls a.2 h2 f2 w0 hT
  have hok : Hid (AddOk (vM a.1) (vE a.1) (vM a.2) (vE a.2)) := Lib.hid (addOk_sm (v_sm f1) (v_sm f2) (by decide))
  have HT := Lib.hid hT
  have hEq1 : ddM a = dyM (dyZ (vM a.1) (vE a.1) (vM a.2) (vE a.2)) := rfl
  have hEq2 : ddE a = dyE (dyZ (vM a.1) (vE a.1) (vM a.2) (vE a.2)) (min (vE a.1) (vE a.2)) := rfl
  rw [hEq1, hEq2]
  obtain ⟨x, y⟩ := a
  simp only at *
  clear h1 h2 f1 f2 hF hT hEq1 hEq2
  unfold ddV at *
  generalize vM x = m1 at *
  generalize vE x = e1 at *
  generalize vM y = m2 at *
  generalize vE y = e2 at *
  have HW0 : Hid (Below w.heap.size w w) := Lib.hid (Below.refl _ _)
  go_enter Tryd.func26, Tryd.ntmps26
  go_wp2_with fail
  refine Calls.mono (HF.out _) ?_
  rintro E w1 ⟨rfl, hb1⟩
  obtain ⟨hc1, hf1⟩ := bcell hb1
  have HW1 : Hid (Below w.heap.size w w1) := Lib.hid (by
    refine Below.trans ?_ (hb1.mono ?_)
    · (repeat (first | with_reducible exact HW0.out | refine Below.setCell (p := ⟨_, _, _⟩) ?_ (by first | omega | (simp; done) | (simp; omega)) _ | refine Below.alloc ?_ (by first | omega | (simp; done) | (simp; omega)) _ | refine Below.drew ?_ | refine below_dn ?_ _))
    · first | omega | (simp; done) | (simp; omega))
  have hS0_1 : Hid (SameB w.heap.size 2 w w1) := Lib.hid (by
    refine SameB.below ?_ hb1
    (repeat (first | with_reducible exact SameB.refl _ _ _ | refine SameB.setCell (p := ⟨_, _, _⟩) ?_ (by first | omega | (simp; done) | (simp; omega)) (by first | omega | (simp; done) | (simp; omega)) _ | refine SameB.setNew (p := ⟨_, _, _⟩) ?_ (by first | omega | (simp; done) | (simp; omega)) _ | refine SameB.alloc ?_ _ | refine SameB.drew ?_ | refine SameB.drewN ?_ _)))
  have hs1 : w.heap.size + 1 + 1 ≤ w1.heap.size := by have := hb1.size; (try simp at this); omega
  have hc1_0 := fun o : Nat => hc1 (w.heap.size) o (by first | omega | (simp; done) | (simp; omega))
  have hf1_0 := fun o : Nat => hf1 (w.heap.size) o (by first | omega | (simp; done) | (simp; omega))
  have hc1_1 := fun o : Nat => hc1 (w.heap.size + 1) o (by first | omega | (simp; done) | (simp; omega))
  have hf1_1 := fun o : Nat => hf1 (w.heap.size + 1) o (by first | omega | (simp; done) | (simp; omega))
  clear hc1 hf1
  clear hb1
  go_wp2_with fail
  refine Calls.mono (H1.out _ (HT.out.below HW1.out)) ?_
  rintro E w2 ⟨n2, v2, rfl, hv2, hg2, hb2⟩
  obtain ⟨hc2, hf2⟩ := bcell hb2
  have HW2 : Hid (Below w.heap.size w w2) := Lib.hid (by
    refine Below.trans ?_ (hb2.mono ?_)
    · (repeat (first | with_reducible exact HW1.out | refine Below.setCell (p := ⟨_, _, _⟩) ?_ (by first | omega | (simp; done) | (simp; omega)) _ | refine Below.alloc ?_ (by first | omega | (simp; done) | (simp; omega)) _ | refine Below.drew ?_ | refine below_dn ?_ _))
    · first | omega | (simp; done) | (simp; omega))
  have hS1_2 : Hid (SameB w.heap.size 2 w1 w2) := Lib.hid (by
    refine SameB.below ?_ hb2
    (repeat (first | with_reducible exact SameB.refl _ _ _ | refine SameB.setCell (p := ⟨_, _, _⟩) ?_ (by first | omega | (simp; done) | (simp; omega)) (by first | omega | (simp; done) | (simp; omega)) _ | refine SameB.setNew (p := ⟨_, _, _⟩) ?_ (by first | omega | (simp; done) | (simp; omega)) _ | refine SameB.alloc ?_ _ | refine SameB.drew ?_ | refine SameB.drewN ?_ _)))
  have hS0_2 := Lib.hid (hS0_1.out.trans hS1_2.out)
  have hs2 : w.heap.size + 1 + 1 ≤ w2.heap.size := by have := hb2.size; (try simp at this); omega
  have hc2_0 := fun o : Nat => hc2 (w.heap.size) o (by first | omega | (simp; done) | (simp; omega))
  have hf2_0 := fun o : Nat => hf2 (w.heap.size) o (by first | omega | (simp; done) | (simp; omega))
  have hc2_1 := fun o : Nat => hc2 (w.heap.size + 1) o (by first | omega | (simp; done) | (simp; omega))
  have hf2_1 := fun o : Nat => hf2 (w.heap.size + 1) o (by first | omega | (simp; done) | (simp; omega))
  clear hc2 hf2
  clear hb2
  obtain ⟨A2, k2, c2, rfl, _, _, _⟩ := hv2.nat.form
  have HV2 := Lib.hid hv2
  have HG2 : Hid (Ge (w.heap.size + 1 + 1) _) := Lib.hid (hg2.mono (by first | omega | (simp; done) | (simp; omega)))
  clear hv2 hg2
  unfold dyV
  have hlt3_0 : w.heap.size < w2.heap.size := by omega
  have hne3_0 : ¬ (w.heap.size = w2.heap.size) := by omega
  have hen3_0 : ¬ (w2.heap.size = w.heap.size) := by omega
  have hlt3_1 : w.heap.size + 1 < w2.heap.size := by omega
  have hne3_1 : ¬ (w.heap.size + 1 = w2.heap.size) := by omega
  have hen3_1 : ¬ (w2.heap.size = w.heap.size + 1) := by omega
  go_wp2_with fail
  refine Calls.mono (H2.out _ (HT.out.below (by (repeat (first | with_reducible exact HW2.out | refine Below.setCell (p := ⟨_, _, _⟩) ?_ (by first | omega | (simp; done) | (simp; omega)) _ | refine Below.alloc ?_ (by first | omega | (simp; done) | (simp; omega)) _ | refine Below.drew ?_ | refine below_dn ?_ _))))) ?_
  rintro E w3 ⟨n3, v3, rfl, hv3, hg3, hb3⟩
  obtain ⟨hc3, hf3⟩ := bcell hb3
  have HW3 : Hid (Below w.heap.size w w3) := Lib.hid (by
    refine Below.trans ?_ (hb3.mono ?_)
    · (repeat (first | with_reducible exact HW2.out | refine Below.setCell (p := ⟨_, _, _⟩) ?_ (by first | omega | (simp; done) | (simp; omega)) _ | refine Below.alloc ?_ (by first | omega | (simp; done) | (simp; omega)) _ | refine Below.drew ?_ | refine below_dn ?_ _))
    · first | omega | (simp; done) | (simp; omega))
  have hS2_3 : Hid (SameB w.heap.size 2 w2 w3) := Lib.hid (by
    refine SameB.below ?_ hb3
    (repeat (first | with_reducible exact SameB.refl _ _ _ | refine SameB.setCell (p := ⟨_, _, _⟩) ?_ (by first | omega | (simp; done) | (simp; omega)) (by first | omega | (simp; done) | (simp; omega)) _ | refine SameB.setNew (p := ⟨_, _, _⟩) ?_ (by first | omega | (simp; done) | (simp; omega)) _ | refine SameB.alloc ?_ _ | refine SameB.drew ?_ | refine SameB.drewN ?_ _)))
  have hS0_3 := Lib.hid (hS0_2.out.trans hS2_3.out)
  have hS1_3 := Lib.hid (hS1_2.out.trans hS2_3.out)
  have hs3 : w.heap.size + 1 + 1 ≤ w3.heap.size := by have := hb3.size; (try simp at this); omega
  have hc3_0 := fun o : Nat => hc3 (w.heap.size) o (by first | omega | (simp; done) | (simp; omega))
  have hf3_0 := fun o : Nat => hf3 (w.heap.size) o (by first | omega | (simp; done) | (simp; omega))
  have hc3_1 := fun o : Nat => hc3 (w.heap.size + 1) o (by first | omega | (simp; done) | (simp; omega))
  have hf3_1 := fun o : Nat => hf3 (w.heap.size + 1) o (by first | omega | (simp; done) | (simp; omega))
  have hsx3_0 : w2.heap.size + 1 ≤ w3.heap.size := by have := hb3.size; (try simp at this); omega
  have hx3_0 := fun o : Nat => hc3 (w2.heap.size) o (by first | omega | (simp; done) | (simp; omega))
  have hxf3_0 := fun o : Nat => hf3 (w2.heap.size) o (by first | omega | (simp; done) | (simp; omega))
  clear hc3 hf3
  clear hb3
  obtain ⟨A3, k3, c3, rfl, _, _, _⟩ := hv3.nat.form
  have HV3 := Lib.hid hv3
  have HG3 : Hid (Ge (w.heap.size + 1 + 1) _) := Lib.hid (hg3.mono (by first | omega | (simp; done) | (simp; omega)))
  clear hv3 hg3
  unfold dyV
  have hlt4_0 : w.heap.size < w3.heap.size := by omega
  have hne4_0 : ¬ (w.heap.size = w3.heap.size) := by omega
  have hen4_0 : ¬ (w3.heap.size = w.heap.size) := by omega
  have hlt4_1 : w.heap.size + 1 < w3.heap.size := by omega
  have hne4_1 : ¬ (w.heap.size + 1 = w3.heap.size) := by omega
  have hen4_1 : ¬ (w3.heap.size = w.heap.size + 1) := by omega
  have hlt4_2 : w2.heap.size < w3.heap.size := by omega
  have hne4_2 : ¬ (w2.heap.size = w3.heap.size) := by omega
  have hen4_2 : ¬ (w3.heap.size = w2.heap.size) := by omega
  go_wp2_with fail
  refine Calls.mono (dyAdd_calls (HV2.out.same_ge (N := w.heap.size) (n := 2) HG2.out (by omega) (by (refine SameB.trans hS2_3.out ?_; (repeat (first | with_reducible exact SameB.refl _ _ _ | refine SameB.setCell (p := ⟨_, _, _⟩) ?_ (by first | omega | (simp; done) | (simp; omega)) (by first | omega | (simp; done) | (simp; omega)) _ | refine SameB.setNew (p := ⟨_, _, _⟩) ?_ (by first | omega | (simp; done) | (simp; omega)) _ | refine SameB.alloc ?_ _ | refine SameB.drew ?_ | refine SameB.drewN ?_ _))))) (HV3.out.same_ge (N := w.heap.size) (n := 2) HG3.out (by omega) (by (repeat (first | with_reducible exact SameB.refl _ _ _ | refine SameB.setCell (p := ⟨_, _, _⟩) ?_ (by first | omega | (simp; done) | (simp; omega)) (by first | omega | (simp; done) | (simp; omega)) _ | refine SameB.setNew (p := ⟨_, _, _⟩) ?_ (by first | omega | (simp; done) | (simp; omega)) _ | refine SameB.alloc ?_ _ | refine SameB.drew ?_ | refine SameB.drewN ?_ _)))) (HT.out.below (by (repeat (first | with_reducible exact HW3.out | refine Below.setCell (p := ⟨_, _, _⟩) ?_ (by first | omega | (simp; done) | (simp; omega)) _ | refine Below.alloc ?_ (by first | omega | (simp; done) | (simp; omega)) _ | refine Below.drew ?_ | refine below_dn ?_ _)))) hok.out) ?_
  rintro E w4 ⟨n4, v4, rfl, hv4, hg4, hb4⟩
  obtain ⟨hc4, hf4⟩ := bcell hb4
  have HW4 : Hid (Below w.heap.size w w4) := Lib.hid (by
    refine Below.trans ?_ (hb4.mono ?_)
    · (repeat (first | with_reducible exact HW3.out | refine Below.setCell (p := ⟨_, _, _⟩) ?_ (by first | omega | (simp; done) | (simp; omega)) _ | refine Below.alloc ?_ (by first | omega | (simp; done) | (simp; omega)) _ | refine Below.drew ?_ | refine below_dn ?_ _))
    · first | omega | (simp; done) | (simp; omega))
  have hS3_4 : Hid (SameB w.heap.size 2 w3 w4) := Lib.hid (by
    refine SameB.below ?_ hb4
    (repeat (first | with_reducible exact SameB.refl _ _ _ | refine SameB.setCell (p := ⟨_, _, _⟩) ?_ (by first | omega | (simp; done) | (simp; omega)) (by first | omega | (simp; done) | (simp; omega)) _ | refine SameB.setNew (p := ⟨_, _, _⟩) ?_ (by first | omega | (simp; done) | (simp; omega)) _ | refine SameB.alloc ?_ _ | refine SameB.drew ?_ | refine SameB.drewN ?_ _)))
  have hS0_4 := Lib.hid (hS0_3.out.trans hS3_4.out)
  have hS1_4 := Lib.hid (hS1_3.out.trans hS3_4.out)
  have hS2_4 := Lib.hid (hS2_3.out.trans hS3_4.out)
  have hs4 : w.heap.size + 1 + 1 ≤ w4.heap.size := by have := hb4.size; (try simp at this); omega
  have hc4_0 := fun o : Nat => hc4 (w.heap.size) o (by first | omega | (simp; done) | (simp; omega))
  have hf4_0 := fun o : Nat => hf4 (w.heap.size) o (by first | omega | (simp; done) | (simp; omega))
  have hc4_1 := fun o : Nat => hc4 (w.heap.size + 1) o (by first | omega | (simp; done) | (simp; omega))
  have hf4_1 := fun o : Nat => hf4 (w.heap.size + 1) o (by first | omega | (simp; done) | (simp; omega))
  have hsx4_0 : w3.heap.size + 1 ≤ w4.heap.size := by have := hb4.size; (try simp at this); omega
  have hx4_0 := fun o : Nat => hc4 (w3.heap.size) o (by first | omega | (simp; done) | (simp; omega))
  have hxf4_0 := fun o : Nat => hf4 (w3.heap.size) o (by first | omega | (simp; done) | (simp; omega))
  have hsx4_1 : w2.heap.size + 1 ≤ w4.heap.size := by have := hb4.size; (try simp at this); omega
  have hx4_1 := fun o : Nat => hc4 (w2.heap.size) o (by first | omega | (simp; done) | (simp; omega))
  have hxf4_1 := fun o : Nat => hf4 (w2.heap.size) o (by first | omega | (simp; done) | (simp; omega))
  clear hc4 hf4
  clear hb4
  obtain ⟨A4, k4, c4, rfl, _, _, _⟩ := hv4.nat.form
  have HV4 := Lib.hid hv4
  have HG4 : Hid (Ge (w.heap.size + 1 + 1) _) := Lib.hid (hg4.mono (by first | omega | (simp; done) | (simp; omega)))
  clear hv4 hg4
  generalize dyM (dyZ m1 e1 m2 e2) = rm at *
  generalize dyE (dyZ m1 e1 m2 e2) (min e1 e2) = re at *
  unfold dyV
  go_wp2_with fail
  refine bodyPost_ret (v := .tuple #[dyV n4 (.slice A4 k4 c4) re, .int .i64 0]) (by simp [results, Tryd.results26, go_sem, intV, dyV, hc1_0, hf1_0, hc1_1, hf1_1, hc2_0, hf2_0, hc2_1, hf2_1, hc3_0, hf3_0, hc3_1, hf3_1, hc4_0, hf4_0, hc4_1, hf4_1, hlt3_0, hne3_0, hen3_0, hlt3_1, hne3_1, hen3_1, hx3_0, hxf3_0, hlt4_0, hne4_0, hen4_0, hlt4_1, hne4_1, hen4_1, hlt4_2, hne4_2, hen4_2, hx4_0, hxf4_0, hx4_1, hxf4_1]) rfl ?_
  exact ⟨n4, _, rfl, (HV4.out.same_ge (N := w.heap.size) (n := 2) HG4.out (by omega) (by (repeat (first | with_reducible exact SameB.refl _ _ _ | refine SameB.setCell (p := ⟨_, _, _⟩) ?_ (by first | omega | (simp; done) | (simp; omega)) (by first | omega | (simp; done) | (simp; omega)) _ | refine SameB.setNew (p := ⟨_, _, _⟩) ?_ (by first | omega | (simp; done) | (simp; omega)) _ | refine SameB.alloc ?_ _ | refine SameB.drew ?_ | refine SameB.drewN ?_ _)))), HG4.out.mono (by omega), by (repeat (first | with_reducible exact HW4.out | refine Below.setCell (p := ⟨_, _, _⟩) ?_ (by first | omega | (simp; done) | (simp; omega)) _ | refine Below.alloc ?_ (by first | omega | (simp; done) | (simp; omega)) _ | refine Below.drew ?_ | refine below_dn ?_ _))⟩

end Go.Proofs.YtgihapdlliidgaaDoor
