/- Plain: the rungs of binary64 and rounding to nearest, over whole numbers in units of 2^-1074. -/
import Ieee.Arith
import Derived.Laws.FloatBits
namespace Go.Proofs.YtgihapdlliidgaaDoor
set_option linter.unusedVariables false
open Ieee

theorem cut_spec (neg : Bool) (n drop : Nat) :
    2 * n ≤ (2 * Toward.even.cut neg n drop + 1) * 2 ^ drop ∧ 2 * Toward.even.cut neg n drop * 2 ^ drop ≤ 2 * n + 2 ^ drop ∧
    (2 * n = (2 * Toward.even.cut neg n drop + 1) * 2 ^ drop → Toward.even.cut neg n drop % 2 = 0) ∧
    (2 * Toward.even.cut neg n drop * 2 ^ drop = 2 * n + 2 ^ drop → Toward.even.cut neg n drop % 2 = 0) := by
  unfold Toward.cut
  simp only [Nat.one_shiftLeft]
  rcases Nat.le_total drop (n.log2 + 2) with h | h
  · rw [Nat.min_eq_left h]
    have hg := Nat.two_pow_pos drop
    generalize 2 ^ drop = G at *
    have h1 := Nat.div_add_mod n G
    have h2 := Nat.mod_lt n hg
    generalize n / G = low at *
    generalize n % G = rest at *
    by_cases c1 : G < 2 * rest
    · have e : (decide (G < 2 * rest) || (G == 2 * rest && low % 2 == 1)).toNat = 1 := by rw [decide_eq_true c1]; rfl
      rw [e]
      have e1 : (2 * (low + 1) + 1) * G = 2 * (G * low) + 3 * G := by grind
      have e2 : 2 * (low + 1) * G = 2 * (G * low) + 2 * G := by grind
      rw [e1, e2]
      refine ⟨by omega, by omega, by omega, by omega⟩
    · by_cases c2 : G = 2 * rest ∧ low % 2 = 1
      · have e : (decide (G < 2 * rest) || (G == 2 * rest && low % 2 == 1)).toNat = 1 := by
          rw [beq_iff_eq.2 c2.1, beq_iff_eq.2 c2.2]; simp
        rw [e]
        have e1 : (2 * (low + 1) + 1) * G = 2 * (G * low) + 3 * G := by grind
        have e2 : 2 * (low + 1) * G = 2 * (G * low) + 2 * G := by grind
        rw [e1, e2]
        refine ⟨by omega, by omega, by omega, by omega⟩
      · have e : (decide (G < 2 * rest) || (G == 2 * rest && low % 2 == 1)).toNat = 0 := by
          rw [decide_eq_false c1]
          have : (G == 2 * rest && low % 2 == 1) = false := by
            rw [Bool.eq_false_iff]; intro a; apply c2; simpa using a
          rw [this]; rfl
        rw [e]
        have e1 : (2 * (low + 0) + 1) * G = 2 * (G * low) + G := by grind
        have e2 : 2 * (low + 0) * G = 2 * (G * low) := by grind
        rw [e1, e2]
        refine ⟨by omega, by omega, by omega, by omega⟩
  · rw [Nat.min_eq_right h]
    have h1 : n < 2 ^ (n.log2 + 1) := Nat.lt_log2_self
    have h2 : 2 ^ (n.log2 + 2) = 2 * 2 ^ (n.log2 + 1) := by rw [Nat.pow_succ 2 (n.log2 + 1), Nat.mul_comm]
    have h3 : 2 ^ (n.log2 + 2) ≤ 2 ^ drop := Nat.pow_le_pow_right (by decide) h
    have h4 : n / 2 ^ (n.log2 + 2) = 0 := Nat.div_eq_of_lt (by omega)
    have h5 : n % 2 ^ (n.log2 + 2) = n := Nat.mod_eq_of_lt (by omega)
    rw [h4, h5]
    have e : (decide (2 ^ (n.log2 + 2) < 2 * n) || (2 ^ (n.log2 + 2) == 2 * n && 0 % 2 == 1)).toNat = 0 := by
      rw [decide_eq_false (by omega)]; simp
    rw [e]
    refine ⟨by omega, by omega, by omega, by omega⟩

/-- the size of a rung, in units of 2^-1074 -/
def V (r : Nat) : Nat := if r < 4503599627370496 then r else (4503599627370496 + r % 4503599627370496) * 2 ^ (r / 4503599627370496 - 1)

theorem V_at (e k : Nat) (h1 : k ≤ 9007199254740992) (h2 : e = 0 ∨ 4503599627370496 ≤ k) : V (e * 4503599627370496 + k) = k * 2 ^ e := by
  unfold V
  rcases Nat.eq_zero_or_pos e with h0 | h0
  · subst h0
    rw [Nat.zero_mul, Nat.zero_add, Nat.pow_zero, Nat.mul_one]
    by_cases c : k < 4503599627370496
    · rw [if_pos c]
    · rw [if_neg c]
      rcases Nat.lt_or_ge k 9007199254740992 with c2 | c2
      · have e1 : k / 4503599627370496 = 1 := by omega
        have e2 : k % 4503599627370496 = k - 4503599627370496 := by omega
        rw [e1, e2]; omega
      · have : k = 9007199254740992 := by omega
        subst this; rfl
  · have hk : 4503599627370496 ≤ k := by omega
    rw [if_neg (by omega)]
    rcases Nat.lt_or_ge k 9007199254740992 with c2 | c2
    · have e1 : (e * 4503599627370496 + k) / 4503599627370496 = e + 1 := by omega
      have e2 : (e * 4503599627370496 + k) % 4503599627370496 = k - 4503599627370496 := by omega
      rw [e1, e2, Nat.add_sub_cancel, show 4503599627370496 + (k - 4503599627370496) = k by omega]
    · have : k = 9007199254740992 := by omega
      subst this
      have e1 : (e * 4503599627370496 + 9007199254740992) / 4503599627370496 = e + 2 := by omega
      have e2 : (e * 4503599627370496 + 9007199254740992) % 4503599627370496 = 0 := by omega
      rw [e1, e2, show e + 2 - 1 = e + 1 by omega, Nat.pow_succ]
      omega

/-- a rung, taken apart -/
theorem rung_parts (r : Nat) : ∃ e k, r = e * 4503599627370496 + k ∧ k < 9007199254740992 ∧ (e = 0 ∨ 4503599627370496 ≤ k) := by
  rcases Nat.lt_or_ge r 4503599627370496 with h | h
  · exact ⟨0, r, by omega, by omega, Or.inl rfl⟩
  · refine ⟨r / 4503599627370496 - 1, r % 4503599627370496 + 4503599627370496, by omega, by omega, Or.inr (by omega)⟩

theorem V_succ_lt (r : Nat) : V r < V (r + 1) := by
  obtain ⟨e, k, rfl, h1, h2⟩ := rung_parts r
  rw [V_at e k (by omega) h2, show e * 4503599627370496 + k + 1 = e * 4503599627370496 + (k + 1) by omega, V_at e (k + 1) (by omega) (by omega), Nat.add_mul]
  have := Nat.two_pow_pos e
  omega

theorem V_lt {a b : Nat} (h : a < b) : V a < V b := by
  induction b with
  | zero => omega
  | succ b ih =>
    rcases Nat.lt_or_ge a b with c | c
    · exact Nat.lt_trans (ih c) (V_succ_lt b)
    · have : a = b := by omega
      subst this; exact V_succ_lt a
theorem V_le {a b : Nat} (h : a ≤ b) : V a ≤ V b := by
  rcases Nat.lt_or_ge a b with c | c
  · exact Nat.le_of_lt (V_lt c)
  · have : a = b := by omega
    subst this; exact Nat.le_refl _
theorem V_lt_iff {a b : Nat} : V a < V b ↔ a < b := ⟨fun h => by
  rcases Nat.lt_or_ge a b with c | c
  · exact c
  · have := V_le c; omega, V_lt⟩
theorem V_le_iff {a b : Nat} : V a ≤ V b ↔ a ≤ b := ⟨fun h => by
  rcases Nat.lt_or_ge b a with c | c
  · have := V_lt c; omega
  · exact c, V_le⟩

/-- r is the rung nearest to n / 2^d -/
def Near (n d r : Nat) : Prop :=
  (r = 0 ∨ (V (r - 1) + V r) * 2 ^ d ≤ 2 * n) ∧ 2 * n ≤ (V r + V (r + 1)) * 2 ^ d ∧
  (r = 0 ∨ ((V (r - 1) + V r) * 2 ^ d = 2 * n → r % 2 = 0)) ∧ (2 * n = (V r + V (r + 1)) * 2 ^ d → r % 2 = 0)

/-- the rung that nearest finds, ahead of infinity -/
def nrung (mag : Nat) (place : Int) : Nat :=
  if mag = 0 then 0 else
  let last := max (place + mag.log2 - 52) (-1074)
  (last + 1074).toNat * 4503599627370496 + Toward.even.cut false (mag <<< (place - last).toNat) (last - place).toNat

theorem cut_neg (neg : Bool) (n d : Nat) : Toward.even.cut neg n d = Toward.even.cut false n d := rfl

theorem nearest_eq (neg : Bool) (mag : Nat) (place : Int) : double.nearest neg mag place = double.word neg (min (nrung mag place) 9218868437227405312) := by
  unfold Format.nearest nrung
  split
  · rfl
  · have e1 : double.leastPlace = -1074 := by decide
    have e2 : double.binade = 4503599627370496 := by decide
    have e3 : double.infRung = 9218868437227405312 := by decide
    have e4 : double.fractionBits = 52 := rfl
    simp only [e1, e2, e3, e4]
    rfl

theorem near_spec (mag : Nat) (place : Int) (h0 : mag ≠ 0) : Near (mag * 2 ^ (place + 1074).toNat) (-1074 - place).toNat (nrung mag place) := by
  unfold nrung
  rw [if_neg h0]
  simp only
  have hL1 : 2 ^ mag.log2 ≤ mag := Nat.log2_self_le h0
  have hL2 : mag < 2 ^ (mag.log2 + 1) := Nat.lt_log2_self
  generalize mag.log2 = L at *
  have hlast1 : place + L - 52 ≤ max (place + L - 52) (-1074) := by omega
  have hlast2 : -1074 ≤ max (place + L - 52) (-1074) := by omega
  have hlast3 : max (place + L - 52) (-1074) = -1074 ∨ max (place + L - 52) (-1074) = place + L - 52 := by omega
  generalize max (place + (L : Int) - 52) (-1074) = last at *
  rw [Nat.shiftLeft_eq]
  obtain ⟨e, he⟩ : ∃ e : Nat, (last + 1074).toNat = e := ⟨_, rfl⟩
  obtain ⟨s, hs⟩ : ∃ s : Nat, (place - last).toNat = s := ⟨_, rfl⟩
  obtain ⟨t, ht⟩ : ∃ t : Nat, (last - place).toNat = t := ⟨_, rfl⟩
  obtain ⟨d, hd⟩ : ∃ d : Nat, (-1074 - place).toNat = d := ⟨_, rfl⟩
  obtain ⟨u, hu⟩ : ∃ u : Nat, (place + 1074).toNat = u := ⟨_, rfl⟩
  rw [he, hs, ht, hd, hu]
  have hx : u + t = s + e + d := by omega
  have hid : mag * 2 ^ u * 2 ^ t = mag * 2 ^ s * 2 ^ e * 2 ^ d := by
    rw [Nat.mul_assoc, Nat.mul_assoc, Nat.mul_assoc, ← Nat.pow_add, ← Nat.pow_add, ← Nat.pow_add, hx, Nat.add_assoc]
  obtain ⟨c1, c2, c3, c4⟩ := cut_spec false (mag * 2 ^ s) t
  have hup : mag * 2 ^ s < 9007199254740992 * 2 ^ t := by
    have a : mag * 2 ^ s < 2 ^ (L + 1) * 2 ^ s := Nat.mul_lt_mul_of_pos_right hL2 (Nat.two_pow_pos _)
    rw [← Nat.pow_add] at a
    have b : 2 ^ (L + 1 + s) ≤ 2 ^ (53 + t) := Nat.pow_le_pow_right (by decide) (by omega)
    rw [Nat.pow_add 2 53] at b
    exact Nat.lt_of_lt_of_le a b
  have hlow : e ≠ 0 → 4503599627370496 * 2 ^ t ≤ mag * 2 ^ s := by
    intro h
    have a : 2 ^ L * 2 ^ s ≤ mag * 2 ^ s := Nat.mul_le_mul_right _ hL1
    rw [← Nat.pow_add] at a
    have b : L + s = 52 + t := by omega
    rw [b, Nat.pow_add 2 52] at a
    exact a
  generalize Toward.even.cut false (mag * 2 ^ s) t = k at *
  generalize mag * 2 ^ s = m at *
  generalize mag * 2 ^ u = n at *
  have hT := Nat.two_pow_pos t
  have hE := Nat.two_pow_pos e
  have hD := Nat.two_pow_pos d
  have hk1 : k ≤ 9007199254740992 := by
    have a : 2 * k * 2 ^ t < (2 * 9007199254740992 + 1) * 2 ^ t := by
      rw [Nat.add_mul]; omega
    have := Nat.lt_of_mul_lt_mul_right a
    omega
  have hk2 : e = 0 ∨ 4503599627370496 ≤ k := by
    rcases Nat.eq_zero_or_pos e with h | h
    · exact Or.inl h
    · right
      have a := hlow (by omega)
      have b : 2 * 4503599627370496 * 2 ^ t ≤ (2 * k + 1) * 2 ^ t := by rw [Nat.mul_assoc]; omega
      have := Nat.le_of_mul_le_mul_right b hT
      omega
  have hV := V_at e k hk1 hk2
  have hV1 : (k + 1) * 2 ^ e ≤ V (e * 4503599627370496 + k + 1) := by
    rcases Nat.lt_or_ge k 9007199254740992 with h | h
    · rw [show e * 4503599627370496 + k + 1 = e * 4503599627370496 + (k + 1) by omega, V_at e (k + 1) (by omega) (by omega)]
      exact Nat.le_refl _
    · have : k = 9007199254740992 := by omega
      subst this
      rw [show e * 4503599627370496 + 9007199254740992 + 1 = (e + 1) * 4503599627370496 + (4503599627370496 + 1) by omega, V_at (e + 1) _ (by omega) (by omega), Nat.pow_succ]
      omega
  obtain ⟨r, hr⟩ : ∃ r : Nat, e * 4503599627370496 + k = r := ⟨_, rfl⟩
  rw [hr] at hV hV1 ⊢
  have hpar : k % 2 = 0 → r % 2 = 0 := by omega
  have e1 : ∀ a : Nat, a * 2 ^ e * 2 ^ d * 2 ^ t = a * 2 ^ t * (2 ^ e * 2 ^ d) := fun a => by grind
  have hid2 : 2 * n * 2 ^ t = 2 * m * (2 ^ e * 2 ^ d) := by
    rw [Nat.mul_assoc, hid]; grind
  have hED := Nat.mul_pos hE hD
  have hi : 2 * n ≤ (2 * k + 1) * 2 ^ e * 2 ^ d := by
    apply Nat.le_of_mul_le_mul_right (c := 2 ^ t) ?_ hT
    rw [hid2, e1]
    exact Nat.mul_le_mul_right _ c1
  have hsum : (2 * k + 1) * 2 ^ e ≤ V r + V (r + 1) := by
    rw [hV]
    have : (2 * k + 1) * 2 ^ e = k * 2 ^ e + (k + 1) * 2 ^ e := by grind
    omega
  have hsum2 := Nat.mul_le_mul_right (2 ^ d) hsum
  have hlo : k ≠ 0 → ((2 * k - 1) * 2 ^ e * 2 ^ d ≤ 2 * n ∧ ((2 * k - 1) * 2 ^ e * 2 ^ d = 2 * n → k % 2 = 0)) := by
    intro hk
    have c5 : (2 * k - 1) * 2 ^ t ≤ 2 * m := by
      rw [Nat.sub_mul]; omega
    constructor
    · apply Nat.le_of_mul_le_mul_right (c := 2 ^ t) ?_ hT
      rw [hid2, e1]
      exact Nat.mul_le_mul_right _ c5
    · intro heq
      apply c4
      have a : (2 * k - 1) * 2 ^ t * (2 ^ e * 2 ^ d) = 2 * m * (2 ^ e * 2 ^ d) := by rw [← hid2, ← e1, heq]
      have b := Nat.eq_of_mul_eq_mul_right hED a
      rw [Nat.sub_mul] at b
      have : 1 * 2 ^ t ≤ 2 * k * 2 ^ t := Nat.mul_le_mul_right _ (by omega)
      omega
  refine ⟨?_, Nat.le_trans hi hsum2, ?_, ?_⟩
  · by_cases hr0 : r = 0
    · exact Or.inl hr0
    · right
      have hk0 : k ≠ 0 := by omega
      rcases Nat.eq_zero_or_pos e with h | h
      · have hp : V (r - 1) = (k - 1) * 2 ^ e := by rw [← hr, h, show 0 * 4503599627370496 + k - 1 = 0 * 4503599627370496 + (k - 1) by omega]; exact V_at 0 (k - 1) (by omega) (Or.inl rfl)
        rw [hp, hV]
        have : (k - 1) * 2 ^ e + k * 2 ^ e = (2 * k - 1) * 2 ^ e := by rw [← Nat.add_mul]; congr 1; omega
        rw [this]; exact (hlo hk0).1
      · rcases Nat.lt_or_ge 4503599627370496 k with h2 | h2
        · have hp : V (r - 1) = (k - 1) * 2 ^ e := by rw [← hr, show e * 4503599627370496 + k - 1 = e * 4503599627370496 + (k - 1) by omega]; exact V_at e (k - 1) (by omega) (by omega)
          rw [hp, hV]
          have : (k - 1) * 2 ^ e + k * 2 ^ e = (2 * k - 1) * 2 ^ e := by rw [← Nat.add_mul]; congr 1; omega
          rw [this]; exact (hlo hk0).1
        · have hk : k = 4503599627370496 := by omega
          have a := hlow (by omega)
          have hlt : V (r - 1) ≤ V r := V_le (by omega)
          have b : V r * 2 ^ d ≤ n := by
            apply Nat.le_of_mul_le_mul_right (c := 2 ^ t) ?_ hT
            rw [hid, hV, hk, e1, Nat.mul_assoc m]
            exact Nat.mul_le_mul_right _ a
          have c : (V (r - 1) + V r) * 2 ^ d ≤ (V r + V r) * 2 ^ d := Nat.mul_le_mul_right _ (by omega)
          rw [Nat.add_mul (V r)] at c
          omega
  · by_cases hr0 : r = 0
    · exact Or.inl hr0
    · right
      have hk0 : k ≠ 0 := by omega
      rcases Nat.eq_zero_or_pos e with h | h
      · have hp : V (r - 1) = (k - 1) * 2 ^ e := by rw [← hr, h, show 0 * 4503599627370496 + k - 1 = 0 * 4503599627370496 + (k - 1) by omega]; exact V_at 0 (k - 1) (by omega) (Or.inl rfl)
        rw [hp, hV]
        have : (k - 1) * 2 ^ e + k * 2 ^ e = (2 * k - 1) * 2 ^ e := by rw [← Nat.add_mul]; congr 1; omega
        rw [this]; exact fun h => hpar ((hlo hk0).2 h)
      · rcases Nat.lt_or_ge 4503599627370496 k with h2 | h2
        · have hp : V (r - 1) = (k - 1) * 2 ^ e := by rw [← hr, show e * 4503599627370496 + k - 1 = e * 4503599627370496 + (k - 1) by omega]; exact V_at e (k - 1) (by omega) (by omega)
          rw [hp, hV]
          have : (k - 1) * 2 ^ e + k * 2 ^ e = (2 * k - 1) * 2 ^ e := by rw [← Nat.add_mul]; congr 1; omega
          rw [this]; exact fun h => hpar ((hlo hk0).2 h)
        · intro _; omega
  · intro heq
    apply hpar
    apply c3
    have a : 2 * n = (2 * k + 1) * 2 ^ e * 2 ^ d := by omega
    have b : 2 * m * (2 ^ e * 2 ^ d) = (2 * k + 1) * 2 ^ t * (2 ^ e * 2 ^ d) := by rw [← hid2, a, e1]
    exact Nat.eq_of_mul_eq_mul_right hED b

theorem V_zero : V 0 = 0 := rfl

/-- mantissa and place of a rung -/
def fm (r : Nat) : Nat := if r < 4503599627370496 then r else 4503599627370496 + r % 4503599627370496
def fe (r : Nat) : Int := if r < 4503599627370496 then -1074 else -1074 + ((r / 4503599627370496 - 1 : Nat) : Int)

theorem fe_ge (r : Nat) : -1074 ≤ fe r := by unfold fe; split <;> omega
theorem V_fm (r : Nat) : V r = fm r * 2 ^ (fe r + 1074).toNat := by
  unfold V fm fe
  split
  · rw [show ((-1074 : Int) + 1074).toNat = 0 from rfl]; omega
  · rw [show (-1074 + ((r / 4503599627370496 - 1 : Nat) : Int) + 1074).toNat = r / 4503599627370496 - 1 by omega]

attribute [irreducible] V

end Go.Proofs.YtgihapdlliidgaaDoor
