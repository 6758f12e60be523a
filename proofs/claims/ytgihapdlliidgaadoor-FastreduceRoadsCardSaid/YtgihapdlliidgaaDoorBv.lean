/- Plain: when two double-doubles lie beside one another, by their numbers. -/
import Derived.Test.YtgihapdlliidgaaDoorCl
import Derived.Test.YtgihapdlliidgaaDoorLawc
namespace Go.Proofs.YtgihapdlliidgaaDoor
set_option linter.unusedVariables false
set_option exponentiation.threshold 3000
open Ieee Go

/-- the number of a dyadic, in units of 2^-OF -/
def OF : Nat := 100000
theorem OF_eq : OF = 100000 := rfl
attribute [irreducible] OF
def dv (m e : Int) : Int := m * 2 ^ (e + OF).toNat

theorem dv_M (z e : Int) (h : -(OF : Int) ≤ e) : dv (dyM z) (dyE z e) = dv z e := by
  unfold dv
  by_cases h0 : z = 0
  · subst h0
    have : dyM 0 = 0 := rfl
    rw [this, Int.zero_mul, Int.zero_mul]
  · obtain ⟨s1, -⟩ := dyM_spec z h0
    unfold dyE
    rw [if_neg h0]
    have e1 : (e + (tzn z.natAbs : Nat) + (OF : Int)).toNat = tzn z.natAbs + (e + OF).toNat := by omega
    rw [e1, Int.pow_add, ← Int.mul_assoc, ← s1]

theorem dv_Z (ma ea mb eb : Int) (ha : -(OF : Int) ≤ ea) (hb : -(OF : Int) ≤ eb) : dv (dyZ ma ea mb eb) (min ea eb) = dv ma ea + dv mb eb := by
  unfold dv dyZ
  rw [Int.add_mul, Int.mul_assoc, Int.mul_assoc, ← Int.pow_add, ← Int.pow_add]
  rw [show (ea - min ea eb).toNat + (min ea eb + OF).toNat = (ea + OF).toNat by omega, show (eb - min ea eb).toNat + (min ea eb + OF).toNat = (eb + OF).toNat by omega]

theorem dv_neg (m e : Int) : dv (-m) e = -dv m e := by unfold dv; rw [Int.neg_mul]
theorem dv_nonneg {m e : Int} (h : 0 ≤ m) : 0 ≤ dv m e := Int.mul_nonneg h (Int.pow_nonneg (by decide))
theorem dv_pos {m e : Int} (h : 0 < m) : 0 < dv m e := Int.mul_pos h (Int.pow_pos (by decide))

theorem dv_top {m e : Int} (h : 0 < m) (he : -(OF : Int) ≤ e) : (2 : Int) ^ (dyTop e m + OF).toNat ≤ dv m e ∧ dv m e < 2 ^ (dyTop e m + 1 + OF).toNat := by
  have hb0 : 0 < blen m.natAbs := by unfold blen; rw [if_neg (by omega)]; omega
  have h1 := blen_ge m.natAbs (by omega)
  have h2 := blen_lt m.natAbs
  have c1 : ((2 ^ (blen m.natAbs - 1) : Nat) : Int) ≤ m := by omega
  have c2 : m < ((2 ^ blen m.natAbs : Nat) : Int) := by omega
  have hp : (0 : Int) < 2 ^ (e + OF).toNat := Int.pow_pos (by decide)
  unfold dv dyTop
  constructor
  · have := Int.mul_le_mul_of_nonneg_right c1 (Int.le_of_lt hp)
    rw [show (e + (blen m.natAbs : Nat) - 1 + (OF : Int)).toNat = (blen m.natAbs - 1) + (e + OF).toNat by omega, Int.pow_add]
    simpa using this
  · have := Int.mul_lt_mul_of_pos_right c2 hp
    rw [show (e + (blen m.natAbs : Nat) - 1 + 1 + (OF : Int)).toNat = blen m.natAbs + (e + OF).toNat by omega, Int.pow_add]
    simpa using this

theorem dv_cmp {ma ea mb eb : Int} (ha : 0 ≤ ma) (hb : 0 ≤ mb) (h1 : -(OF : Int) ≤ ea) (h2 : -(OF : Int) ≤ eb) (h : dv ma ea ≤ dv mb eb) : dyCmp ma ea mb eb ≤ 0 := by
  unfold dyCmp
  rcases Int.lt_or_eq_of_le ha with a | a
  · have sa : ma.sign = 1 := Int.sign_eq_one_of_pos a
    have hp := dv_pos (e := ea) a
    rcases Int.lt_or_eq_of_le hb with b | b
    · have sb : mb.sign = 1 := Int.sign_eq_one_of_pos b
      rw [sa, sb, if_neg (by decide), if_neg (by decide), if_neg (by decide), Int.one_mul]
      obtain ⟨t1, t2⟩ := dv_top a h1
      obtain ⟨t3, t4⟩ := dv_top b h2
      unfold dySize
      split
      · decide
      · rename_i c1
        split
        · rename_i c2
          exfalso
          have : (2 : Int) ^ (dyTop eb mb + 1 + OF).toNat ≤ 2 ^ (dyTop ea ma + OF).toNat := by
            have := Nat.pow_le_pow_right (n := 2) (by decide) (show (dyTop eb mb + 1 + OF).toNat ≤ (dyTop ea ma + OF).toNat by omega)
            have e1 : ∀ n : Nat, ((2 ^ n : Nat) : Int) = 2 ^ n := fun n => by simp
            rw [← e1, ← e1]; exact Int.ofNat_le.2 this
          omega
        · have key : ma.natAbs * 2 ^ (ea - min ea eb).toNat ≤ mb.natAbs * 2 ^ (eb - min ea eb).toNat := by
            have hq := Nat.two_pow_pos (min ea eb + OF).toNat
            apply Nat.le_of_mul_le_mul_right (c := 2 ^ (min ea eb + OF).toNat) _ hq
            rw [Nat.mul_assoc, Nat.mul_assoc, ← Nat.pow_add, ← Nat.pow_add]
            rw [show (ea - min ea eb).toNat + (min ea eb + OF).toNat = (ea + OF).toNat by omega, show (eb - min ea eb).toNat + (min ea eb + OF).toNat = (eb + OF).toNat by omega]
            unfold dv at h
            have ea1 : (ma.natAbs : Int) = ma := by omega
            have eb1 : (mb.natAbs : Int) = mb := by omega
            rw [← ea1, ← eb1] at h
            have e1 : ∀ (m n : Nat), (m : Int) * 2 ^ n = ((m * 2 ^ n : Nat) : Int) := fun m n => by simp
            rw [e1, e1] at h
            exact Int.ofNat_le.1 h
          unfold cmpN
          split
          · decide
          · split
            · decide
            · exfalso; omega
    · subst b
      exfalso
      unfold dv at h hp
      rw [Int.zero_mul] at h
      omega
  · subst a
    rcases Int.lt_or_eq_of_le hb with b | b
    · have sb : mb.sign = 1 := Int.sign_eq_one_of_pos b
      rw [sb, show (0 : Int).sign = 0 from rfl, if_pos (by decide)]
      decide
    · subst b
      rw [show (0 : Int).sign = 0 from rfl, if_neg (by decide), if_neg (by decide), if_pos rfl]
      decide

theorem v_dv (b : Nat) (h : pSz b < PINF) : dv (vM b) (vE b) = fz b * 2 ^ (OF - 1074) := by
  have hE : -1074 ≤ pExp (pSz b) := by unfold pExp; split <;> omega
  have hO := OF_eq
  unfold vM vE
  rw [dv_M _ _ (by omega)]
  have e1 : pMan (pSz b) = fm (rg b) := by
    unfold pMan fm pSz rg
    have hc : (b % 9223372036854775808 / 4503599627370496 = 0) ↔ b % 9223372036854775808 < 4503599627370496 := by omega
    by_cases c : b % 9223372036854775808 < 4503599627370496
    · rw [if_pos (hc.2 c), if_pos c]; omega
    · rw [if_neg (fun x => c (hc.1 x)), if_neg c]
  have e2 : pExp (pSz b) = fe (rg b) := by
    unfold pExp fe pSz rg
    have hc : (b % 9223372036854775808 / 4503599627370496 = 0) ↔ b % 9223372036854775808 < 4503599627370496 := by omega
    by_cases c : b % 9223372036854775808 < 4503599627370496
    · rw [if_pos (hc.2 c), if_pos c]
    · rw [if_neg (fun x => c (hc.1 x)), if_neg c]; omega
  have e3 : pNeg b = sg b := rfl
  unfold pInt dv
  rw [e1, e2, e3]
  rw [e2] at hE
  rw [fz_fm]
  have e4 : (fe (rg b) + (OF : Int)).toNat = (fe (rg b) + 1074).toNat + (OF - 1074) := by omega
  rw [e4, Int.pow_add, ← Int.mul_assoc]
  congr 1
  split
  · rw [Int.neg_mul]
  · rfl

theorem dd_dv {a : Nat × Nat} (h1 : pSz a.1 < PINF) (h2 : pSz a.2 < PINF) : dv (ddM a) (ddE a) = (fz a.1 + fz a.2) * 2 ^ (OF - 1074) := by
  have s1 := v_sm h1
  have s2 := v_sm h2
  have hO := OF_eq
  unfold ddM ddE ddZ
  rw [dv_M _ _ (by have := s1.2.1; have := s2.2.1; omega), dv_Z _ _ _ _ (by have := s1.2.1; omega) (by have := s2.2.1; omega), v_dv _ h1, v_dv _ h2, Int.add_mul]

/-- beside, by the numbers -/
theorem beside_of {a b : Nat × Nat} (ha : DDok a) (hb : DDok b) (h : 302231454903657293676544 * (fz a.1 + fz a.2 - (fz b.1 + fz b.2)).natAbs ≤ (fz a.1 + fz a.2).natAbs) : besideB a b = true := by
  have s1 := dd_sm ha.2.2.1 ha.2.2.2.1
  have s2 := dd_sm hb.2.2.1 hb.2.2.2.1
  have sb := b_sm ha hb
  have d1 := dd_dv ha.2.2.1 ha.2.2.2.1
  have d2 := dd_dv hb.2.2.1 hb.2.2.2.1
  have hO := OF_eq
  have o1 : -(OF : Int) ≤ ddE a := by have := s1.2.1; omega
  have o2 : -(OF : Int) ≤ ddE b := by have := s2.2.1; omega
  have o3 : -(OF : Int) ≤ bE a b := by have := sb.2.1; omega
  have db : dv (bM a b) (bE a b) = (fz a.1 + fz a.2 - (fz b.1 + fz b.2)) * 2 ^ (OF - 1074) := by
    unfold bM bE
    rw [dv_M _ _ (by omega), dv_Z _ _ _ _ o1 o2, dv_neg, d1, d2, Int.sub_mul]; omega
  have habs : ∀ m e : Int, dv (m.natAbs : Int) e = ((dv m e).natAbs : Int) := by
    intro m e
    unfold dv
    rw [Int.natAbs_mul, Int.natAbs_pow, show (2 : Int).natAbs = 2 from rfl]; simp
  have hP : (0 : Int) < 2 ^ (OF - 1074) := Int.pow_pos (by decide)
  have hPn : ((2 : Int) ^ (OF - 1074)).natAbs = 2 ^ (OF - 1074) := by rw [Int.natAbs_pow, show (2 : Int).natAbs = 2 from rfl]
  unfold besideB
  rw [decide_eq_true_iff]
  have hS : -(OF : Int) ≤ bS a b ∧ dv ((bM a b).natAbs : Int) (bS a b) = 2 ^ 78 * ((dv (bM a b) (bE a b)).natAbs : Int) := by
    unfold bS
    by_cases c : bM a b = 0
    · rw [if_pos c, c]
      refine ⟨by omega, ?_⟩
      unfold dv
      simp only [Int.natAbs_zero, Int.zero_mul, Int.natCast_zero, Int.mul_zero]
    · rw [if_neg c]
      refine ⟨by omega, ?_⟩
      rw [← habs]
      unfold dv
      rw [show (bE a b + 78 + (OF : Int)).toNat = 78 + (bE a b + OF).toNat by omega, Int.pow_add]
      grind
  refine dv_cmp (by omega) (by omega) hS.1 o1 ?_
  rw [hS.2, habs, db, d1, Int.natAbs_mul, Int.natAbs_mul, hPn, show (2 : Int) ^ 78 = 302231454903657293676544 from by decide]
  have := Nat.mul_le_mul_right (2 ^ (OF - 1074)) h
  rw [Nat.mul_assoc] at this
  have := Int.ofNat_le.2 this
  simpa using this

end Go.Proofs.YtgihapdlliidgaaDoor
