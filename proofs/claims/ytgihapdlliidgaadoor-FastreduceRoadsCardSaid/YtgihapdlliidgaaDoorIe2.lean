/- Plain: the operations on binary64 words, over whole numbers in units of 2^-1074. -/
import Derived.Test.YtgihapdlliidgaaDoorIe
import Derived.Test.YtgihapdlliidgaaDoorFl
namespace Go.Proofs.YtgihapdlliidgaaDoor
set_option linter.unusedVariables false
open Ieee Go

theorem near_congr {n d n' d' r : Nat} (h : Near n d r) (e : n * 2 ^ d' = n' * 2 ^ d) : Near n' d' r := by
  have hD := Nat.two_pow_pos d
  have hD' := Nat.two_pow_pos d'
  have e2 : 2 * n * 2 ^ d' = 2 * n' * 2 ^ d := by rw [Nat.mul_assoc, e, Nat.mul_assoc]
  have sw : ∀ a : Nat, a * 2 ^ d * 2 ^ d' = a * 2 ^ d' * 2 ^ d := fun a => by grind
  obtain ⟨h1, h2, h3, h4⟩ := h
  have le1 : ∀ a : Nat, a * 2 ^ d ≤ 2 * n ↔ a * 2 ^ d' ≤ 2 * n' := by
    intro a
    rw [← Nat.mul_le_mul_right_iff hD', sw, e2, Nat.mul_le_mul_right_iff hD]
  have le2 : ∀ a : Nat, 2 * n ≤ a * 2 ^ d ↔ 2 * n' ≤ a * 2 ^ d' := by
    intro a
    rw [← Nat.mul_le_mul_right_iff hD', sw, e2, Nat.mul_le_mul_right_iff hD]
  refine ⟨?_, (le2 _).1 h2, ?_, ?_⟩
  · rcases h1 with h1 | h1
    · exact Or.inl h1
    · exact Or.inr ((le1 _).1 h1)
  · rcases h3 with h3 | h3
    · exact Or.inl h3
    · refine Or.inr fun a => h3 ?_
      have x := (le1 _).2 (Nat.le_of_eq a)
      have y := (le2 _).2 (Nat.le_of_eq a.symm)
      omega
  · intro a
    have x := (le1 _).2 (Nat.le_of_eq a.symm)
    have y := (le2 _).2 (Nat.le_of_eq a)
    exact h4 (by omega)

theorem near_le {n d r a : Nat} (h : Near n d r) (ha : n ≤ V a * 2 ^ d) : r ≤ a := by
  rcases Nat.lt_or_ge a r with c | c
  · exfalso
    have hD := Nat.two_pow_pos d
    have v1 : V a ≤ V (r - 1) := V_le (by omega)
    have v2 : V a < V r := V_lt c
    rcases h.1 with h1 | h1
    · omega
    · have : (V a + V a + 1) * 2 ^ d ≤ (V (r - 1) + V r) * 2 ^ d := Nat.mul_le_mul_right _ (by omega)
      rw [Nat.add_mul, Nat.add_mul] at this
      omega
  · exact c

theorem near_ge {n d r a : Nat} (h : Near n d r) (ha : V a * 2 ^ d ≤ n) : a ≤ r := by
  rcases Nat.lt_or_ge r a with c | c
  · exfalso
    have hD := Nat.two_pow_pos d
    have v1 : V (r + 1) ≤ V a := V_le (by omega)
    have v2 : V r < V a := V_lt c
    have : (V r + V (r + 1) + 1) * 2 ^ d ≤ (V a + V a) * 2 ^ d := Nat.mul_le_mul_right _ (by omega)
    rw [Nat.add_mul, Nat.add_mul (V a)] at this
    have := h.2.1
    omega
  · exact c

theorem near_exact {n d r a : Nat} (h : Near n d r) (ha : n = V a * 2 ^ d) : r = a :=
  Nat.le_antisymm (near_le h (Nat.le_of_eq ha)) (near_ge h (Nat.le_of_eq ha.symm))

theorem near_zero (d : Nat) : Near 0 d 0 := by
  refine ⟨Or.inl rfl, by omega, Or.inl rfl, by omega⟩

/-- sign and rung of a word -/
def sg (x : Nat) : Bool := decide (9223372036854775808 ≤ x)
def rg (x : Nat) : Nat := x % 9223372036854775808
def Fin64 (x : Nat) : Prop := x < 18446744073709551616 ∧ rg x < 9218868437227405312

theorem read_fin {x : Nat} (h : Fin64 x) : double.read x = .number (sg x) (fm (rg x)) (fe (rg x)) := by
  obtain ⟨h1, h2⟩ := h
  have e1 : double.leastPlace = -1074 := by decide
  have e2 : double.binade = 4503599627370496 := by decide
  have e3 : double.infRung = 9218868437227405312 := by decide
  have e4 : double.signWeight = 9223372036854775808 := by decide
  have e5 : (x / 9223372036854775808 % 2 == 1) = sg x := by
    unfold sg
    rw [Bool.eq_iff_iff, beq_iff_eq, decide_eq_true_iff]
    omega
  unfold Format.read
  simp only [e1, e2, e3, e4, e5]
  unfold rg at h2
  unfold fm fe rg
  split
  · rfl
  · first
    | rfl
    | rw [if_pos h2]

/-- the number of a word, in units of 2^-1074 -/
def fz (x : Nat) : Int := if sg x = true then -(V (rg x) : Int) else (V (rg x) : Int)

theorem signed_eq (s : Bool) (m u : Nat) : signed s m u = (if s = true then -((m : Int) * 2 ^ u) else (m : Int) * 2 ^ u) := by
  unfold signed
  rw [Nat.shiftLeft_eq]
  have : ((m * 2 ^ u : Nat) : Int) = (m : Int) * 2 ^ u := by simp
  rw [this]

theorem signed_fz (x : Nat) (base : Int) (h1 : -1074 ≤ base) (h2 : base ≤ fe (rg x)) : signed (sg x) (fm (rg x)) (fe (rg x) - base).toNat * 2 ^ (base + 1074).toNat = fz x := by
  have hv := V_fm (rg x)
  have hvz : (V (rg x) : Int) = (fm (rg x) : Int) * 2 ^ (fe (rg x) - base).toNat * 2 ^ (base + 1074).toNat := by
    rw [hv, Int.mul_assoc, ← Int.pow_add]
    have : (fe (rg x) + 1074).toNat = (fe (rg x) - base).toNat + (base + 1074).toNat := by omega
    rw [this]
    simp
  rw [signed_eq]
  unfold fz
  rw [hvz]
  split
  · rw [Int.neg_mul]
  · rfl

theorem order_spec {x y : Nat} (hx : Fin64 x) (hy : Fin64 y) : double.order x y = some (compare (fz x) (fz y)) := by
  unfold Format.order
  rw [read_fin hx, read_fin hy]
  unfold Datum.order
  simp only
  congr 1
  have hb : -1074 ≤ min (fe (rg x)) (fe (rg y)) := by have := fe_ge (rg x); have := fe_ge (rg y); omega
  have a := signed_fz x _ hb (by omega)
  have b := signed_fz y _ hb (by omega)
  rw [← a, ← b]
  have hp : (0 : Int) < 2 ^ (min (fe (rg x)) (fe (rg y)) + 1074).toNat := Int.pow_pos (by decide)
  generalize (2 : Int) ^ (min (fe (rg x)) (fe (rg y)) + 1074).toNat = P at *
  generalize signed (sg x) (fm (rg x)) (fe (rg x) - min (fe (rg x)) (fe (rg y))).toNat = X at *
  generalize signed (sg y) (fm (rg y)) (fe (rg y) - min (fe (rg x)) (fe (rg y))).toNat = Y at *
  rcases Int.lt_trichotomy X Y with h | h | h
  · rw [Int.compare_eq_lt.2 h, Int.compare_eq_lt.2 (Int.mul_lt_mul_of_pos_right h hp)]
  · subst h; simp
  · rw [Int.compare_eq_gt.2 h, Int.compare_eq_gt.2 (Int.mul_lt_mul_of_pos_right h hp)]

theorem word_eq (s : Bool) (r : Nat) : double.word s r = if s = true then 9223372036854775808 + r else r := by
  unfold Format.word
  have e4 : double.signWeight = 9223372036854775808 := by decide
  rw [e4]

/-- the word of a sign and a rung -/
def wd (s : Bool) (r : Nat) : Nat := if s = true then 9223372036854775808 + r else r
theorem wd_rg {s : Bool} {r : Nat} (h : r < 9223372036854775808) : rg (wd s r) = r := by unfold rg wd; split <;> omega
theorem wd_sg {s : Bool} {r : Nat} (h : r < 9223372036854775808) : sg (wd s r) = s := by
  unfold sg wd
  cases s
  · simp; omega
  · simp
theorem wd_fin {s : Bool} {r : Nat} (h : r < 9218868437227405312) : Fin64 (wd s r) := by
  refine ⟨by unfold wd; split <;> omega, ?_⟩
  rw [wd_rg (by omega)]; exact h
theorem wd_fz {s : Bool} {r : Nat} (h : r < 9218868437227405312) : fz (wd s r) = if s = true then -(V r : Int) else (V r : Int) := by
  unfold fz
  rw [wd_sg (by omega), wd_rg (by omega)]
theorem wd_self {x : Nat} (h : x < 18446744073709551616) : wd (sg x) (rg x) = x := by
  unfold wd sg rg
  by_cases c : 9223372036854775808 ≤ x
  · rw [decide_eq_true c, if_pos rfl]; omega
  · rw [decide_eq_false c, if_neg (by decide)]; omega

/-- the units' place, closed -/
def KU : Nat := 1074
theorem KU_eq : KU = 1074 := rfl
attribute [irreducible] KU

/-- what is written of a number -/
theorem write_spec (s : Bool) (mag : Nat) (place : Int) : ∃ r, double.write (.number s mag place) = wd s (min r 9218868437227405312) ∧ Near (mag * 2 ^ (place + 1074).toNat) (-1074 - place).toNat r := by
  refine ⟨nrung mag place, ?_, ?_⟩
  · show double.nearest s mag place = _
    rw [nearest_eq, word_eq]; rfl
  · by_cases h : mag = 0
    · subst h
      have : nrung 0 place = 0 := by unfold nrung; rw [if_pos rfl]
      rw [this, Nat.zero_mul]
      exact near_zero _
    · exact near_spec mag place h

theorem fz_abs (x : Nat) : (fz x).natAbs = V (rg x) := by unfold fz; split <;> omega

theorem fmul_spec {x y : Nat} (hx : Fin64 x) (hy : Fin64 y) : ∃ r, fmul x y = some (wd (sg x ^^ sg y) (min r 9218868437227405312)) ∧ Near (V (rg x) * V (rg y)) KU r := by
  obtain ⟨r, h1, h2⟩ := write_spec (sg x ^^ sg y) (fm (rg x) * fm (rg y)) (fe (rg x) + fe (rg y))
  refine ⟨r, ?_, near_congr h2 ?_⟩
  · show double.mul x y = _
    unfold Format.mul
    rw [read_fin hx, read_fin hy]
    show some (double.write (.number (sg x ^^ sg y) (fm (rg x) * fm (rg y)) (fe (rg x) + fe (rg y)))) = _
    rw [h1]
  · rw [V_fm (rg x), V_fm (rg y)]
    have a := fe_ge (rg x)
    have b := fe_ge (rg y)
    generalize fe (rg x) = i at *
    generalize fe (rg y) = j at *
    generalize fm (rg x) = m at *
    generalize fm (rg y) = n at *
    have e : (i + j + 1074).toNat + KU = (i + 1074).toNat + (j + 1074).toNat + (-1074 - (i + j)).toNat := by rw [KU_eq]; omega
    have gen : ∀ c a b d u : Nat, u + c = a + b + d → m * n * 2 ^ u * 2 ^ c = m * 2 ^ a * (n * 2 ^ b) * 2 ^ d := by
      intro c a b d u h
      rw [Nat.mul_assoc (m * n), ← Nat.pow_add, h, Nat.pow_add, Nat.pow_add]
      grind
    exact gen _ _ _ _ _ e

/-- the sum of two data as a number -/
theorem sum_spec (s t : Bool) (m n : Nat) (i j : Int) (hi : -1074 ≤ i) (hj : -1074 ≤ j) (A B : Int)
    (hA : A = if s = true then -((m : Int) * 2 ^ (i + 1074).toNat) else (m : Int) * 2 ^ (i + 1074).toNat)
    (hB : B = if t = true then -((n : Int) * 2 ^ (j + 1074).toNat) else (n : Int) * 2 ^ (j + 1074).toNat) :
    ∃ r, ((Datum.number s m i).sum (.number t n j)).map double.write = some (wd (if A + B = 0 then s && t else decide (A + B < 0)) (min r 9218868437227405312)) ∧ Near (A + B).natAbs 0 r := by
  have hp : (0 : Int) < 2 ^ (min i j + 1074).toNat := Int.pow_pos (by decide)
  have ea : A = signed s m (i - min i j).toNat * 2 ^ (min i j + 1074).toNat := by
    rw [hA, signed_eq]
    have : (i + 1074).toNat = (i - min i j).toNat + (min i j + 1074).toNat := by omega
    rw [this, Int.pow_add]
    split
    · rw [Int.neg_mul, Int.mul_assoc]
    · rw [Int.mul_assoc]
  have eb : B = signed t n (j - min i j).toNat * 2 ^ (min i j + 1074).toNat := by
    rw [hB, signed_eq]
    have : (j + 1074).toNat = (j - min i j).toNat + (min i j + 1074).toNat := by omega
    rw [this, Int.pow_add]
    split
    · rw [Int.neg_mul, Int.mul_assoc]
    · rw [Int.mul_assoc]
  have hT : A + B = (signed s m (i - min i j).toNat + signed t n (j - min i j).toNat) * 2 ^ (min i j + 1074).toNat := by rw [ea, eb, Int.add_mul]
  show ∃ r, some (double.write (.number (if signed s m (i - min i j).toNat + signed t n (j - min i j).toNat = 0 then s && t else decide (signed s m (i - min i j).toNat + signed t n (j - min i j).toNat < 0)) (signed s m (i - min i j).toNat + signed t n (j - min i j).toNat).natAbs (min i j))) = _ ∧ _
  generalize signed s m (i - min i j).toNat + signed t n (j - min i j).toNat = T at *
  have hs : (if T = 0 then s && t else decide (T < 0)) = (if A + B = 0 then s && t else decide (A + B < 0)) := by
    rw [hT]
    rcases Int.lt_trichotomy T 0 with h | h | h
    · have := Int.mul_neg_of_neg_of_pos h hp
      rw [if_neg (by omega), if_neg (by omega), decide_eq_true h, decide_eq_true this]
    · subst h; simp
    · have := Int.mul_pos h hp
      rw [if_neg (by omega), if_neg (by omega), decide_eq_false (by omega), decide_eq_false (by omega)]
  rw [hs]
  obtain ⟨r, h1, h2⟩ := write_spec (if A + B = 0 then s && t else decide (A + B < 0)) T.natAbs (min i j)
  refine ⟨r, by rw [h1], near_congr h2 ?_⟩
  rw [hT, Int.natAbs_mul, Int.natAbs_pow]
  rw [show (-1074 - min i j).toNat = 0 by omega]
  simp

theorem fz_fm (x : Nat) : fz x = if sg x = true then -((fm (rg x) : Int) * 2 ^ (fe (rg x) + 1074).toNat) else (fm (rg x) : Int) * 2 ^ (fe (rg x) + 1074).toNat := by
  unfold fz
  rw [V_fm]
  simp

theorem fadd_spec {x y : Nat} (hx : Fin64 x) (hy : Fin64 y) : ∃ r, fadd x y = some (wd (if fz x + fz y = 0 then sg x && sg y else decide (fz x + fz y < 0)) (min r 9218868437227405312)) ∧ Near (fz x + fz y).natAbs 0 r := by
  obtain ⟨r, h1, h2⟩ := sum_spec (sg x) (sg y) (fm (rg x)) (fm (rg y)) (fe (rg x)) (fe (rg y)) (fe_ge _) (fe_ge _) _ _ (fz_fm x) (fz_fm y)
  refine ⟨r, ?_, h2⟩
  show double.add x y = _
  unfold Format.add
  rw [read_fin hx, read_fin hy]
  exact h1

theorem fsub_spec {x y : Nat} (hx : Fin64 x) (hy : Fin64 y) : ∃ r, fsub x y = some (wd (if fz x - fz y = 0 then sg x && !sg y else decide (fz x - fz y < 0)) (min r 9218868437227405312)) ∧ Near (fz x - fz y).natAbs 0 r := by
  have e : -fz y = if (!sg y) = true then -((fm (rg y) : Int) * 2 ^ (fe (rg y) + 1074).toNat) else (fm (rg y) : Int) * 2 ^ (fe (rg y) + 1074).toNat := by
    rw [fz_fm]
    cases sg y <;> simp
  obtain ⟨r, h1, h2⟩ := sum_spec (sg x) (!sg y) (fm (rg x)) (fm (rg y)) (fe (rg x)) (fe (rg y)) (fe_ge _) (fe_ge _) _ _ (fz_fm x) e
  rw [← Int.sub_eq_add_neg] at h1 h2
  refine ⟨r, ?_, h2⟩
  show double.sub x y = _
  unfold Format.sub
  rw [read_fin hx, read_fin hy]
  exact h1

end Go.Proofs.YtgihapdlliidgaaDoor
