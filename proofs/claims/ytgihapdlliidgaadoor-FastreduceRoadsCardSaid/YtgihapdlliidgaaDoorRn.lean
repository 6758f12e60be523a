/- Plain: rounding of whole numbers to words: best, exact, error, multiples, order; the operations over multiples of a power of two. -/
import Derived.Test.YtgihapdlliidgaaDoorSm
namespace Go.Proofs.YtgihapdlliidgaaDoor
set_option linter.unusedVariables false
open Ieee Go

theorem near_best {n d r : Nat} (h : Near n d r) (a : Nat) : ((n : Int) - (V r * 2 ^ d : Nat)).natAbs ≤ ((n : Int) - (V a * 2 ^ d : Nat)).natAbs := by
  obtain ⟨h1, h2, -, -⟩ := h
  rcases Nat.lt_trichotomy a r with c | c | c
  · have v1 : V a * 2 ^ d ≤ V (r - 1) * 2 ^ d := Nat.mul_le_mul_right _ (V_le (by omega))
    have v2 : V (r - 1) * 2 ^ d ≤ V r * 2 ^ d := Nat.mul_le_mul_right _ (V_le (by omega))
    rcases h1 with h1 | h1
    · omega
    · rw [Nat.add_mul] at h1; omega
  · subst c; exact Nat.le_refl _
  · have v1 : V (r + 1) * 2 ^ d ≤ V a * 2 ^ d := Nat.mul_le_mul_right _ (V_le (by omega))
    have v2 : V r * 2 ^ d ≤ V (r + 1) * 2 ^ d := Nat.mul_le_mul_right _ (V_le (by omega))
    rw [Nat.add_mul] at h2; omega

theorem near_unique {n d r s : Nat} (h : Near n d r) (g : Near n d s) : r = s := by
  have key : ∀ {r s : Nat}, Near n d r → Near n d s → ¬ r < s := by
    intro r s h g c
    have hD := Nat.two_pow_pos d
    have v1 : V r ≤ V (s - 1) := V_le (by omega)
    have v2 : V (r + 1) ≤ V s := V_le (by omega)
    have a1 := h.2.1
    have a2 := g.1
    have a3 : (V r + V (r + 1)) * 2 ^ d ≤ (V (s - 1) + V s) * 2 ^ d := Nat.mul_le_mul_right _ (by omega)
    rcases a2 with a2 | a2
    · omega
    · have e1 : (V r + V (r + 1)) * 2 ^ d = (V (s - 1) + V s) * 2 ^ d := by omega
      have e2 := Nat.eq_of_mul_eq_mul_right hD e1
      have e3 : V (s - 1) = V r := by omega
      have e4 : s - 1 = r := by
        rcases Nat.lt_trichotomy (s - 1) r with x | x | x
        · have := V_lt x; omega
        · exact x
        · have := V_lt x; omega
      have p1 := h.2.2.2 (by omega)
      have p2 := g.2.2.1
      rcases p2 with p2 | p2
      · omega
      · have := p2 (by omega); omega
  rcases Nat.lt_trichotomy r s with c | c | c
  · exact absurd c (key h g)
  · exact c
  · exact absurd c (key g h)

/-- M * 2^K is a rung's size -/
theorem rep (K : Nat) : ∀ M : Nat, M ≤ 9007199254740992 → ∃ a, V a = M * 2 ^ K := by
  induction K with
  | zero =>
    intro M h
    refine ⟨M, ?_⟩
    have := V_at 0 M h (Or.inl rfl)
    rw [Nat.zero_mul, Nat.zero_add] at this
    exact this
  | succ K ih =>
    intro M h
    rcases Nat.lt_or_ge M 4503599627370496 with c | c
    · obtain ⟨a, ha⟩ := ih (M * 2) (by omega)
      exact ⟨a, by rw [ha, Nat.pow_succ]; grind⟩
    · exact ⟨_, V_at (K + 1) M h (Or.inr c)⟩

theorem V_dvd {r J : Nat} (h : 4503599627370496 * 2 ^ J ≤ V r) : 2 ^ J ∣ V r := by
  obtain ⟨e, k, rfl, h1, h2⟩ := rung_parts r
  rw [V_at e k (by omega) h2] at h ⊢
  have : J ≤ e := by
    rcases Nat.lt_or_ge e J with c | c
    · exfalso
      obtain ⟨t, rfl⟩ : ∃ t, J = e + 1 + t := ⟨J - e - 1, by omega⟩
      rw [Nat.pow_add, Nat.pow_succ] at h
      have hp := Nat.two_pow_pos e
      have ht := Nat.two_pow_pos t
      have a : 4503599627370496 * (2 ^ e * 2 * 1) ≤ 4503599627370496 * (2 ^ e * 2 * 2 ^ t) := Nat.mul_le_mul_left _ (Nat.mul_le_mul_left _ ht)
      have b : k * 2 ^ e < 9007199254740992 * 2 ^ e := Nat.mul_lt_mul_of_pos_right h1 hp
      omega
    · exact c
  obtain ⟨t, rfl⟩ : ∃ t, e = J + t := ⟨e - J, by omega⟩
  rw [Nat.pow_add]
  exact ⟨k * 2 ^ t, by grind⟩

/-- z is the word of the number N / 2^d, rounded (units of 2^-1074) -/
structure RN (N : Int) (d z : Nat) : Prop where
  fin : Fin64 z
  near : Near N.natAbs d (rg z)
  neg : N < 0 → sg z = true
  pos : 0 < N → sg z = false

theorem fz_neg_of {z : Nat} (h : sg z = true) : fz z = -(V (rg z) : Int) := by unfold fz; rw [if_pos h]
theorem fz_pos_of {z : Nat} (h : sg z = false) : fz z = (V (rg z) : Int) := by unfold fz; rw [if_neg (by rw [h]; decide)]

/-- the number and its word on one side -/
theorem RN.side {N : Int} {d z : Nat} (h : RN N d z) : ∃ s : Int, (s = 1 ∨ s = -1) ∧ N = s * (N.natAbs : Int) ∧ fz z = s * (V (rg z) : Int) := by
  rcases Int.lt_trichotomy N 0 with c | c | c
  · refine ⟨-1, Or.inr rfl, by omega, ?_⟩
    rw [fz_neg_of (h.neg c)]; omega
  · have h0 : rg z = 0 := near_exact h.near (by rw [V_zero, c, Nat.zero_mul]; rfl)
    refine ⟨1, Or.inl rfl, by omega, ?_⟩
    have := fz_abs z
    rw [h0, V_zero] at this ⊢
    omega
  · refine ⟨1, Or.inl rfl, by omega, ?_⟩
    rw [fz_pos_of (h.pos c)]; omega

theorem RN.unique {N : Int} {d y z : Nat} (h : RN N d y) (g : RN N d z) : fz y = fz z := by
  have e := near_unique h.near g.near
  rcases Int.lt_trichotomy N 0 with c | c | c
  · rw [fz_neg_of (h.neg c), fz_neg_of (g.neg c), e]
  · have h0 : rg z = 0 := near_exact g.near (by rw [V_zero, c, Nat.zero_mul]; rfl)
    have a := fz_abs z
    have b := fz_abs y
    rw [e] at b
    rw [h0, V_zero] at a b
    omega
  · rw [fz_pos_of (h.pos c), fz_pos_of (g.pos c), e]

/-- nothing of a word's size lies nearer -/
theorem RN.best {N : Int} {d z : Nat} (h : RN N d z) (a : Nat) (s : Bool) : (N - fz z * 2 ^ d).natAbs ≤ (N - (if s = true then -(V a : Int) else (V a : Int)) * 2 ^ d).natAbs := by
  have b := near_best h.near a
  obtain ⟨s1, hs, hN, hz⟩ := h.side
  have hD : (0 : Int) < 2 ^ d := Int.pow_pos (by decide)
  have e1 : ((V (rg z) * 2 ^ d : Nat) : Int) = (V (rg z) : Int) * 2 ^ d := by simp
  have e2 : ((V a * 2 ^ d : Nat) : Int) = (V a : Int) * 2 ^ d := by simp
  have p : (0 : Int) ≤ (V a : Int) * 2 ^ d := Int.mul_nonneg (by omega) (by omega)
  rw [e1, e2] at b
  rw [hz]
  generalize hP : (V (rg z) : Int) * 2 ^ d = P at *
  generalize hA : (V a : Int) * 2 ^ d = A at *
  have q1 : s1 * (V (rg z) : Int) * 2 ^ d = s1 * P := by rw [Int.mul_assoc, hP]
  have q2 : (if s = true then -(V a : Int) else (V a : Int)) * 2 ^ d = if s = true then -A else A := by
    split
    · rw [Int.neg_mul, hA]
    · exact hA
  rw [q1, q2]
  rcases hs with rfl | rfl
  · split <;> omega
  · split <;> omega

theorem RN.exact {N : Int} {d z : Nat} (h : RN N d z) (M : Int) (J : Nat) (hN : N = M * 2 ^ J * 2 ^ d) (hM : M.natAbs ≤ 9007199254740992) : fz z = M * 2 ^ J := by
  obtain ⟨a, ha⟩ := rep J M.natAbs hM
  have hr : rg z = a := near_exact h.near (by rw [hN, Int.natAbs_mul, Int.natAbs_mul, Int.natAbs_pow, Int.natAbs_pow, ha]; rfl)
  obtain ⟨s1, hs, hN', hz⟩ := h.side
  have hD : (0 : Int) < 2 ^ d := Int.pow_pos (by decide)
  rw [hr, ha] at hz
  rw [hz]
  have e : ((M.natAbs * 2 ^ J : Nat) : Int) = (M.natAbs : Int) * 2 ^ J := by simp
  rw [e]
  have hJ : (0 : Int) < 2 ^ J := Int.pow_pos (by decide)
  rcases Int.lt_trichotomy M 0 with c | c | c
  · have n0 : N < 0 := by rw [hN]; exact Int.mul_neg_of_neg_of_pos (Int.mul_neg_of_neg_of_pos c hJ) hD
    have : s1 = -1 := by rcases hs with x | x <;> subst x <;> omega
    subst this
    have : (M.natAbs : Int) = -M := by omega
    rw [this, Int.neg_mul M]; omega
  · subst c
    rw [show ((0 : Int).natAbs : Int) = 0 from rfl, Int.zero_mul, Int.mul_zero]
  · have n0 : 0 < N := by rw [hN]; exact Int.mul_pos (Int.mul_pos c hJ) hD
    have : s1 = 1 := by rcases hs with x | x <;> subst x <;> omega
    subst this
    have : (M.natAbs : Int) = M := by omega
    rw [this]; omega

theorem nat_round (n G : Nat) (hG : 0 < G) (h : n ≤ 9007199254740992 * G) : ∃ q, q ≤ 9007199254740992 ∧ 2 * ((n : Int) - (q * G : Nat)).natAbs ≤ G := by
  have h1 := Nat.div_add_mod n G
  have h2 := Nat.mod_lt n hG
  have h3 : n / G ≤ 9007199254740992 := Nat.div_le_of_le_mul (by rw [Nat.mul_comm]; exact h)
  generalize n / G = q at *
  generalize n % G = t at *
  rw [Nat.mul_comm G q] at h1
  by_cases c : 2 * t ≤ G
  · exact ⟨q, h3, by omega⟩
  · refine ⟨q + 1, ?_, ?_⟩
    · rcases Nat.lt_or_ge q 9007199254740992 with x | x
      · omega
      · have : q = 9007199254740992 := by omega
        subst this
        omega
    · rw [Nat.add_mul]; omega

theorem RN.err {N : Int} {d z : Nat} (h : RN N d z) (J : Nat) (hN : N.natAbs ≤ 9007199254740992 * (2 ^ J * 2 ^ d)) : 2 * (N - fz z * 2 ^ d).natAbs ≤ 2 ^ J * 2 ^ d := by
  obtain ⟨q, hq, hq2⟩ := nat_round N.natAbs (2 ^ J * 2 ^ d) (Nat.mul_pos (Nat.two_pow_pos _) (Nat.two_pow_pos _)) hN
  obtain ⟨a, ha⟩ := rep J q hq
  have b := h.best a (decide (N < 0))
  have e : ((q * (2 ^ J * 2 ^ d) : Nat) : Int) = (V a : Int) * 2 ^ d := by
    rw [ha]; simp [Int.mul_assoc]
  rw [e] at hq2
  generalize hAA : (V a : Int) * 2 ^ d = A at *
  have q2 : (if decide (N < 0) = true then -(V a : Int) else (V a : Int)) * 2 ^ d = if N < 0 then -A else A := by
    by_cases c : N < 0
    · rw [decide_eq_true c, if_pos rfl, if_pos c, Int.neg_mul, hAA]
    · rw [decide_eq_false c, if_neg (by decide), if_neg c, hAA]
  rw [q2] at b
  have hA : 0 ≤ A := by rw [← hAA]; exact Int.mul_nonneg (by omega) (by have : (0 : Int) < 2 ^ d := Int.pow_pos (by decide); omega)
  split at b
  · omega
  · omega

theorem int_mul_natAbs_le {a b : Int} {p : Nat} (h : (a * 2 ^ p).natAbs ≤ (b * 2 ^ p).natAbs) : a.natAbs ≤ b.natAbs := by
  rw [Int.natAbs_mul, Int.natAbs_mul] at h
  have hp : 0 < ((2 : Int) ^ p).natAbs := by have : (0 : Int) < 2 ^ p := Int.pow_pos (by decide); omega
  exact Nat.le_of_mul_le_mul_right h hp

/-- of a multiple: multiple, error, coarser multiple -/
theorem RN.at {N : Int} {d z : Nat} (h : RN N d z) (M : Int) (K c : Nat) (hN : N = M * 2 ^ K * 2 ^ d) (hM : M.natAbs ≤ 9007199254740992 * 2 ^ c) :
    ∃ r : Int, fz z = r * 2 ^ K ∧ 2 * (M - r).natAbs ≤ 2 ^ c ∧ (4503599627370496 * 2 ^ c ≤ M.natAbs → ((2 ^ c : Nat) : Int) ∣ r) := by
  have hNn : N.natAbs = M.natAbs * 2 ^ K * 2 ^ d := by rw [hN, Int.natAbs_mul, Int.natAbs_mul, Int.natAbs_pow, Int.natAbs_pow]; rfl
  have hbig : ∀ J, 4503599627370496 * 2 ^ J ≤ M.natAbs * 2 ^ K → ((2 ^ J : Nat) : Int) ∣ fz z := by
    intro J hJ
    obtain ⟨a, ha⟩ := rep J 4503599627370496 (by decide)
    have g : a ≤ rg z := near_ge h.near (by rw [ha, hNn]; exact Nat.mul_le_mul_right _ hJ)
    have g2 : 4503599627370496 * 2 ^ J ≤ V (rg z) := by rw [← ha]; exact V_le g
    have := V_dvd g2
    rw [← fz_abs] at this
    exact Int.ofNat_dvd_left.2 this
  have hmul : ∃ r : Int, fz z = r * 2 ^ K := by
    rcases Nat.lt_or_ge 9007199254740992 M.natAbs with g | g
    · obtain ⟨r, hr⟩ := hbig K (Nat.mul_le_mul_right _ (by omega))
      refine ⟨r, ?_⟩
      rw [hr, Int.mul_comm]; simp
    · exact ⟨M, h.exact M K hN g⟩
  obtain ⟨r, hr⟩ := hmul
  refine ⟨r, hr, ?_, ?_⟩
  · have e := h.err (K + c) (by
      rw [hNn, Nat.pow_add]
      calc M.natAbs * 2 ^ K * 2 ^ d ≤ 9007199254740992 * 2 ^ c * 2 ^ K * 2 ^ d := Nat.mul_le_mul_right _ (Nat.mul_le_mul_right _ hM)
        _ = 9007199254740992 * (2 ^ K * 2 ^ c * 2 ^ d) := by grind)
    have e2 : N - fz z * 2 ^ d = (M - r) * 2 ^ K * 2 ^ d := by rw [hN, hr]; grind
    rw [e2, Int.natAbs_mul, Int.natAbs_mul, Int.natAbs_pow, Int.natAbs_pow, Nat.pow_add] at e
    have e3 : 2 * (M - r).natAbs * (2 ^ K * 2 ^ d) ≤ 2 ^ c * (2 ^ K * 2 ^ d) := by
      calc 2 * (M - r).natAbs * (2 ^ K * 2 ^ d) = 2 * ((M - r).natAbs * 2 ^ K * 2 ^ d) := by grind
        _ ≤ 2 ^ K * 2 ^ c * 2 ^ d := e
        _ = 2 ^ c * (2 ^ K * 2 ^ d) := by grind
    exact Nat.le_of_mul_le_mul_right e3 (Nat.mul_pos (Nat.two_pow_pos _) (Nat.two_pow_pos _))
  · intro hc
    have g := hbig (K + c) (by rw [Nat.pow_add]; calc 4503599627370496 * (2 ^ K * 2 ^ c) = 4503599627370496 * 2 ^ c * 2 ^ K := by grind
                                                        _ ≤ M.natAbs * 2 ^ K := Nat.mul_le_mul_right _ hc)
    rw [hr, Nat.pow_add, Nat.mul_comm (2 ^ K)] at g
    have e : ((2 ^ c * 2 ^ K : Nat) : Int) = ((2 ^ c : Nat) : Int) * 2 ^ K := by simp
    rw [e] at g
    exact Int.dvd_of_mul_dvd_mul_right (by have : (0 : Int) < 2 ^ K := Int.pow_pos (by decide); omega) g

/-- greater than every bound that is used, less than the greatest number -/
def MX : Nat := 2 ^ 2090
theorem MX_le : MX ≤ V 9218868437227405311 := by
  have : (9218868437227405311 : Nat) = 2045 * 4503599627370496 + 9007199254740991 := by decide
  rw [this, V_at 2045 _ (by decide) (Or.inr (by decide))]
  unfold MX
  have e := Nat.pow_add 2 45 2045
  rw [show (45 : Nat) + 2045 = 2090 from rfl, show (2 : Nat) ^ 45 = 35184372088832 from rfl] at e
  rw [e]
  generalize (2 : Nat) ^ 2045 = P
  omega
theorem MX_eq : MX = 2 ^ 2090 := by unfold MX; with_reducible rfl
attribute [irreducible] MX
/-- and what the greatest addend may be -/
def BB : Nat := 2 ^ 2000
theorem BB_eq : BB = 2 ^ 2000 := by unfold BB; with_reducible rfl
theorem BB_MX : 8 * BB ≤ MX := by
  rw [BB_eq, MX_eq]
  have e := Nat.pow_add 2 90 2000
  rw [show (90 : Nat) + 2000 = 2090 from rfl, show (2 : Nat) ^ 90 = 1237940039285380274899124224 from rfl] at e
  rw [e]
  generalize (2 : Nat) ^ 2000 = P
  omega
attribute [irreducible] BB

theorem fadd_rn {x y : Nat} (hx : Fin64 x) (hy : Fin64 y) (hb : (fz x + fz y).natAbs ≤ MX) : ∃ z, fadd x y = some z ∧ RN (fz x + fz y) 0 z := by
  obtain ⟨r, h1, h2⟩ := fadd_spec hx hy
  have hr : r ≤ 9218868437227405311 := near_le h2 (by rw [Nat.pow_zero, Nat.mul_one]; exact Nat.le_trans hb MX_le)
  rw [Nat.min_eq_left (by omega)] at h1
  refine ⟨_, h1, wd_fin (by omega), by rw [wd_rg (by omega)]; exact h2, ?_, ?_⟩
  · intro h; rw [wd_sg (by omega), if_neg (by omega), decide_eq_true h]
  · intro h; rw [wd_sg (by omega), if_neg (by omega), decide_eq_false (by omega)]
theorem fsub_rn {x y : Nat} (hx : Fin64 x) (hy : Fin64 y) (hb : (fz x - fz y).natAbs ≤ MX) : ∃ z, fsub x y = some z ∧ RN (fz x - fz y) 0 z := by
  obtain ⟨r, h1, h2⟩ := fsub_spec hx hy
  have hr : r ≤ 9218868437227405311 := near_le h2 (by rw [Nat.pow_zero, Nat.mul_one]; exact Nat.le_trans hb MX_le)
  rw [Nat.min_eq_left (by omega)] at h1
  refine ⟨_, h1, wd_fin (by omega), by rw [wd_rg (by omega)]; exact h2, ?_, ?_⟩
  · intro h; rw [wd_sg (by omega), if_neg (by omega), decide_eq_true h]
  · intro h; rw [wd_sg (by omega), if_neg (by omega), decide_eq_false (by omega)]
theorem fmul_rn {x y : Nat} (hx : Fin64 x) (hy : Fin64 y) (hb : (fz x * fz y).natAbs ≤ MX * 2 ^ KU) : ∃ z, fmul x y = some z ∧ RN (fz x * fz y) KU z := by
  obtain ⟨r, h1, h2⟩ := fmul_spec hx hy
  have hn : (fz x * fz y).natAbs = V (rg x) * V (rg y) := by rw [Int.natAbs_mul, fz_abs, fz_abs]
  rw [← hn] at h2
  have hr : r ≤ 9218868437227405311 := near_le h2 (Nat.le_trans hb (Nat.mul_le_mul_right _ MX_le))
  rw [Nat.min_eq_left (by omega)] at h1
  have p : (0 : Int) ≤ (V (rg x) : Int) * (V (rg y) : Int) := Int.mul_nonneg (by omega) (by omega)
  have hs : fz x * fz y = if (sg x ^^ sg y) = true then -((V (rg x) : Int) * (V (rg y) : Int)) else (V (rg x) : Int) * (V (rg y) : Int) := by
    unfold fz
    cases sg x <;> cases sg y <;> simp [Int.neg_mul, Int.mul_neg]
  refine ⟨_, h1, wd_fin (by omega), by rw [wd_rg (by omega)]; exact h2, ?_, ?_⟩
  · intro h; rw [wd_sg (by omega)]
    cases c : (sg x ^^ sg y)
    · rw [hs, c, if_neg (by decide)] at h; omega
    · rfl
  · intro h; rw [wd_sg (by omega)]
    cases c : (sg x ^^ sg y)
    · rfl
    · rw [hs, c, if_pos rfl] at h; omega

/-- a word whose number is n 2^K (units of 2^-1074) -/
structure At (K x : Nat) (n : Int) : Prop where
  fin : Fin64 x
  val : fz x = n * 2 ^ K

theorem mx_of {n : Int} {K c : Nat} (h : n.natAbs ≤ 9007199254740992 * 2 ^ c) (hK : K + c ≤ 2000) : (n * 2 ^ K).natAbs ≤ MX := by
  rw [Int.natAbs_mul, Int.natAbs_pow, MX_eq]
  calc n.natAbs * 2 ^ K ≤ 9007199254740992 * 2 ^ c * 2 ^ K := Nat.mul_le_mul_right _ h
    _ = 2 ^ (53 + (K + c)) := by rw [Nat.pow_add 2 53, Nat.pow_add 2 K]; grind
    _ ≤ 2 ^ 2090 := Nat.pow_le_pow_right (by decide) (by omega)

theorem At.add {K x y : Nat} {n m : Int} (hx : At K x n) (hy : At K y m) (c : Nat) (h : (n + m).natAbs ≤ 9007199254740992 * 2 ^ c) (hK : K + c ≤ 2000) :
    ∃ z r, fadd x y = some z ∧ At K z r ∧ 2 * ((n + m) - r).natAbs ≤ 2 ^ c ∧ (4503599627370496 * 2 ^ c ≤ (n + m).natAbs → ((2 ^ c : Nat) : Int) ∣ r) ∧ RN ((n + m) * 2 ^ K) 0 z := by
  have e : fz x + fz y = (n + m) * 2 ^ K := by rw [hx.val, hy.val, Int.add_mul]
  obtain ⟨z, h1, h2⟩ := fadd_rn hx.fin hy.fin (by rw [e]; exact mx_of h hK)
  rw [e] at h2
  obtain ⟨r, h3, h4, h5⟩ := h2.at (n + m) K c (by rw [Int.pow_zero, Int.mul_one]) h
  exact ⟨z, r, h1, ⟨h2.fin, h3⟩, h4, h5, h2⟩
theorem At.sub {K x y : Nat} {n m : Int} (hx : At K x n) (hy : At K y m) (c : Nat) (h : (n - m).natAbs ≤ 9007199254740992 * 2 ^ c) (hK : K + c ≤ 2000) :
    ∃ z r, fsub x y = some z ∧ At K z r ∧ 2 * ((n - m) - r).natAbs ≤ 2 ^ c ∧ (4503599627370496 * 2 ^ c ≤ (n - m).natAbs → ((2 ^ c : Nat) : Int) ∣ r) ∧ RN ((n - m) * 2 ^ K) 0 z := by
  have e : fz x - fz y = (n - m) * 2 ^ K := by rw [hx.val, hy.val, Int.sub_mul]
  obtain ⟨z, h1, h2⟩ := fsub_rn hx.fin hy.fin (by rw [e]; exact mx_of h hK)
  rw [e] at h2
  obtain ⟨r, h3, h4, h5⟩ := h2.at (n - m) K c (by rw [Int.pow_zero, Int.mul_one]) h
  exact ⟨z, r, h1, ⟨h2.fin, h3⟩, h4, h5, h2⟩
theorem At.mul {K L Q x y : Nat} {n m : Int} (hx : At K x n) (hy : At L y m) (c : Nat) (hQ : K + L = Q + 1074) (h : (n * m).natAbs ≤ 9007199254740992 * 2 ^ c) (hK : Q + c ≤ 2000) :
    ∃ z r, fmul x y = some z ∧ At Q z r ∧ 2 * ((n * m) - r).natAbs ≤ 2 ^ c ∧ (4503599627370496 * 2 ^ c ≤ (n * m).natAbs → ((2 ^ c : Nat) : Int) ∣ r) ∧ RN ((n * m) * 2 ^ Q * 2 ^ KU) KU z := by
  have e : fz x * fz y = (n * m) * 2 ^ Q * 2 ^ KU := by
    rw [hx.val, hy.val]
    have : (2 : Int) ^ K * 2 ^ L = 2 ^ Q * 2 ^ KU := by rw [← Int.pow_add, hQ, ← KU_eq, Int.pow_add]
    calc n * 2 ^ K * (m * 2 ^ L) = n * m * (2 ^ K * 2 ^ L) := by grind
      _ = n * m * 2 ^ Q * 2 ^ KU := by rw [this, ← Int.mul_assoc]
  obtain ⟨z, h1, h2⟩ := fmul_rn hx.fin hy.fin (by
    rw [e, Int.natAbs_mul, Int.natAbs_pow]
    exact Nat.mul_le_mul_right _ (mx_of h hK))
  rw [e] at h2
  obtain ⟨r, h3, h4, h5⟩ := h2.at (n * m) Q c rfl h
  exact ⟨z, r, h1, ⟨h2.fin, h3⟩, h4, h5, h2⟩
/-- exact -/
theorem At.addx {K x y : Nat} {n m : Int} (hx : At K x n) (hy : At K y m) (h : (n + m).natAbs ≤ 9007199254740992) (hK : K ≤ 2000) :
    ∃ z, fadd x y = some z ∧ At K z (n + m) := by
  obtain ⟨z, r, h1, h2, h3, h4⟩ := hx.add hy 0 (by omega) (by omega)
  have : r = n + m := by omega
  subst this
  exact ⟨z, h1, h2⟩
theorem At.subx {K x y : Nat} {n m : Int} (hx : At K x n) (hy : At K y m) (h : (n - m).natAbs ≤ 9007199254740992) (hK : K ≤ 2000) :
    ∃ z, fsub x y = some z ∧ At K z (n - m) := by
  obtain ⟨z, r, h1, h2, h3, h4⟩ := hx.sub hy 0 (by omega) (by omega)
  have : r = n - m := by omega
  subst this
  exact ⟨z, h1, h2⟩
theorem At.mulx {K L Q x y : Nat} {n m : Int} (hx : At K x n) (hy : At L y m) (hQ : K + L = Q + 1074) (h : (n * m).natAbs ≤ 9007199254740992) (hK : Q ≤ 2000) :
    ∃ z, fmul x y = some z ∧ At Q z (n * m) := by
  obtain ⟨z, r, h1, h2, h3, h4⟩ := hx.mul hy 0 hQ (by omega) (by omega)
  have : r = n * m := by omega
  subst this
  exact ⟨z, h1, h2⟩
theorem At.to {K L x : Nat} {n : Int} (hx : At K x n) (h : L ≤ K) : At L x (n * 2 ^ (K - L)) := by
  refine ⟨hx.fin, ?_⟩
  rw [hx.val, Int.mul_assoc, ← Int.pow_add]
  congr 2; omega

/-- the same, with bounds on both sides -/
theorem At.add2 {K x y : Nat} {n m : Int} (hx : At K x n) (hy : At K y m) (c : Nat) (B : Int) (hB : B = 2 ^ c) (l : -(9007199254740992 * B) ≤ n + m) (u : n + m ≤ 9007199254740992 * B) (hK : K + c ≤ 2000) :
    ∃ z r, fadd x y = some z ∧ At K z r ∧ -B ≤ 2 * (n + m - r) ∧ 2 * (n + m - r) ≤ B := by
  have hb : ((2 ^ c : Nat) : Int) = B := by rw [hB]; simp
  obtain ⟨z, r, h1, h2, h3, -⟩ := hx.add hy c (by omega) hK
  exact ⟨z, r, h1, h2, by omega, by omega⟩
theorem At.sub2 {K x y : Nat} {n m : Int} (hx : At K x n) (hy : At K y m) (c : Nat) (B : Int) (hB : B = 2 ^ c) (l : -(9007199254740992 * B) ≤ n - m) (u : n - m ≤ 9007199254740992 * B) (hK : K + c ≤ 2000) :
    ∃ z r, fsub x y = some z ∧ At K z r ∧ -B ≤ 2 * (n - m - r) ∧ 2 * (n - m - r) ≤ B := by
  have hb : ((2 ^ c : Nat) : Int) = B := by rw [hB]; simp
  obtain ⟨z, r, h1, h2, h3, -⟩ := hx.sub hy c (by omega) hK
  exact ⟨z, r, h1, h2, by omega, by omega⟩
theorem At.mul2 {K L Q x y : Nat} {n m : Int} (hx : At K x n) (hy : At L y m) (c : Nat) (B : Int) (hB : B = 2 ^ c) (hQ : K + L = Q + 1074) (l : -(9007199254740992 * B) ≤ n * m) (u : n * m ≤ 9007199254740992 * B) (hK : Q + c ≤ 2000) :
    ∃ z r, fmul x y = some z ∧ At Q z r ∧ -B ≤ 2 * (n * m - r) ∧ 2 * (n * m - r) ≤ B := by
  have hb : ((2 ^ c : Nat) : Int) = B := by rw [hB]; simp
  obtain ⟨z, r, h1, h2, h3, -⟩ := hx.mul hy c hQ (by omega) hK
  exact ⟨z, r, h1, h2, by omega, by omega⟩
theorem At.addy {K x y : Nat} {n m : Int} (hx : At K x n) (hy : At K y m) (r : Int) (hr : r = n + m) (l : -9007199254740992 ≤ r) (u : r ≤ 9007199254740992) (hK : K ≤ 2000) : ∃ z, fadd x y = some z ∧ At K z r := by
  subst hr; exact hx.addx hy (by omega) hK
theorem At.suby {K x y : Nat} {n m : Int} (hx : At K x n) (hy : At K y m) (r : Int) (hr : r = n - m) (l : -9007199254740992 ≤ r) (u : r ≤ 9007199254740992) (hK : K ≤ 2000) : ∃ z, fsub x y = some z ∧ At K z r := by
  subst hr; exact hx.subx hy (by omega) hK
theorem At.muly {K L Q x y : Nat} {n m : Int} (hx : At K x n) (hy : At L y m) (r : Int) (hr : r = n * m) (hQ : K + L = Q + 1074) (l : -9007199254740992 ≤ r) (u : r ≤ 9007199254740992) (hK : Q ≤ 2000) : ∃ z, fmul x y = some z ∧ At Q z r := by
  subst hr; exact hx.mulx hy hQ (by omega) hK
theorem At.too {K x : Nat} {n : Int} (hx : At K x n) (L : Nat) (h : L ≤ K) (B r : Int) (hB : B = 2 ^ (K - L)) (hr : r = n * B) : At L x r := by
  subst hr; subst hB; exact hx.to h
theorem At.negy {K x : Nat} {n : Int} (h1 : fz (fneg x) = -fz x) (h2 : Fin64 (fneg x)) (hx : At K x n) (r : Int) (hr : r = -n) : At K (fneg x) r := by
  subst hr; exact ⟨h2, by rw [h1, hx.val, Int.neg_mul]⟩

end Go.Proofs.YtgihapdlliidgaaDoor
