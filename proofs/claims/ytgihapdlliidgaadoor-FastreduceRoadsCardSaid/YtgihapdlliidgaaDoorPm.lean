/- Plain: the remainder's pair of words times 2 pi: in form, and but for 2^-99 of it. -/
import Derived.Test.YtgihapdlliidgaaDoorPw6
namespace Go.Proofs.YtgihapdlliidgaaDoor
set_option linter.unusedVariables false
set_option exponentiation.threshold 3000
open Ieee Go

theorem c_a : At 1024 4618760256179416344 (7074237752028440 : Nat) := at_const (by decide) (by decide +kernel)
theorem c_b : At 970 4373459396149402631 (4967757600021511 : Nat) := at_const (by decide) (by decide +kernel)
theorem c_a1 : At 1051 4618760256242057216 (52707179 : Nat) := at_const (by decide) (by decide +kernel)
theorem c_a2 : At 1024 13721868380862939136 (-62640872) := by
  have h : At 1024 4498496344008163328 (62640872 : Nat) := at_const (by decide) (by decide +kernel)
  have := h.neg
  exact this
theorem split_a : splitF 4618760256179416344 = some (4618760256242057216, 13721868380862939136) := by decide +kernel

/-- a great word is a multiple -/
theorem At.dvd {K x : Nat} {n : Int} (h : At K x n) (c : Nat) (B : Int) (hB : B = 2 ^ c) (hn : 4503599627370496 * B ≤ n) : ∃ q : Int, n = q * B := by
  have h1 : 4503599627370496 * 2 ^ (K + c) ≤ V (rg x) := by
    have e : ((4503599627370496 * 2 ^ (K + c) : Nat) : Int) ≤ ((V (rg x) : Nat) : Int) := by
      rw [← fz_abs, h.val, Int.natAbs_mul, Int.natAbs_pow]
      have hp : (0 : Int) ≤ 2 ^ K := Int.pow_nonneg (by decide)
      have hBp : (0 : Int) < B := by rw [hB]; exact Int.pow_pos (by decide)
      have : (n.natAbs : Int) = n := by omega
      have e2 : ((n.natAbs * (2 : Int).natAbs ^ K : Nat) : Int) = n * 2 ^ K := by rw [Int.natCast_mul, Int.natCast_pow, this]; rfl
      rw [e2]
      have e3 : ((4503599627370496 * 2 ^ (K + c) : Nat) : Int) = 4503599627370496 * B * 2 ^ K := by rw [hB, Nat.pow_add]; simp; grind
      rw [e3]
      exact Int.mul_le_mul_of_nonneg_right hn hp
    omega
  have h2 := V_dvd h1
  rw [← fz_abs] at h2
  have h3 := Int.ofNat_dvd_left.2 h2
  rw [h.val, Nat.pow_add, Nat.mul_comm] at h3
  have e : ((2 ^ c * 2 ^ K : Nat) : Int) = B * 2 ^ K := by rw [hB]; simp
  rw [e] at h3
  have h4 := Int.dvd_of_mul_dvd_mul_right (by have : (0 : Int) < 2 ^ K := Int.pow_pos (by decide); omega) h3
  obtain ⟨q, hq⟩ := h4
  exact ⟨q, by rw [hq, Int.mul_comm]⟩
theorem At.up {K x : Nat} {n q : Int} (h : At K x n) (c : Nat) (B : Int) (hB : B = 2 ^ c) (hn : n = q * B) : At (K + c) x q := by
  refine ⟨h.fin, ?_⟩
  rw [h.val, hn, hB, Int.pow_add, Int.mul_assoc, Int.mul_comm (2 ^ c)]
theorem At.at {K L x : Nat} {n : Int} (h : At K x n) (e : K = L) : At L x n := by subst e; exact h

/-- the product with its error, exactly -/
theorem prod_a {p J : Nat} {M : Int} (hp : At J p M) (l : 4503599627370496 ≤ M) (u : M < 9007199254740992) (j1 : 200 ≤ J) (j2 : J ≤ 1500) :
    ∃ P e Pz, twoProd p 4618760256179416344 = some (P, e) ∧ At (J - 50) P Pz ∧ At (J - 50) e (M * 7074237752028440 - Pz) ∧ -9007199254740992 ≤ 2 * (M * 7074237752028440 - Pz) ∧ 2 * (M * 7074237752028440 - Pz) ≤ 9007199254740992 := by
  obtain ⟨P, Pz, h1, a1, b1, b2⟩ := hp.mul2 c_a 53 9007199254740992 (by decide) (Q := J - 50) (by omega) (by omega) (by omega) (by omega)
  obtain ⟨P5, d1⟩ := a1.dvd 52 4503599627370496 (by decide) (by omega)
  have a1' := (a1.up 52 4503599627370496 (by decide) d1).at (L := J + 2) (by omega)
  obtain ⟨c, C, h2, a2, b3, b4⟩ := c_spl.mul2 hp 28 268435456 (by decide) (Q := J) (by omega) (by omega) (by omega) (by omega)
  obtain ⟨d, D, h3, a3, b5, b6⟩ := a2.sub2 hp 27 134217728 (by decide) (by omega) (by omega) (by omega)
  obtain ⟨C5, d2⟩ := a2.dvd 27 134217728 (by decide) (by omega)
  obtain ⟨D5, d3⟩ := a3.dvd 26 67108864 (by decide) (by omega)
  have a2' := a2.up (q := C5 * 2) 26 67108864 (by decide) (by omega)
  have a3' := a3.up 26 67108864 (by decide) d3
  obtain ⟨g, h4, a4⟩ := a2'.suby a3' (C5 * 2 - D5) rfl (by omega) (by omega) (by omega)
  generalize hhh : C5 * 2 - D5 = hh at *
  have a4' := a4.too J (by omega) 67108864 (hh * 67108864) (by rw [show J + 26 - J = 26 by omega]; decide) rfl
  obtain ⟨ε, he⟩ : ∃ ε : Int, ε = M - hh * 67108864 := ⟨_, rfl⟩
  have e1 : -67108864 ≤ ε := by omega
  have e2 : ε ≤ 67108864 := by omega
  obtain ⟨o, h5, a5⟩ := hp.suby a4' ε he (by omega) (by omega) (by omega)
  have g1 : hh ≤ 134217729 := by omega
  have g2 : 33554432 ≤ hh := by omega
  clear b3 b4 b5 b6 d2 d3 hhh a2 a3 a2' a3'
  obtain ⟨x1, h6, a6⟩ := a4.muly c_a1 (hh * 52707179) (by omega) (Q := J + 3) (by omega) (by omega) (by omega) (by omega)
  have a6' := a6.too (J + 2) (by omega) 2 (hh * 105414358) (by rw [show J + 3 - (J + 2) = 1 by omega]; decide) (by omega)
  obtain ⟨y1, h7, a7⟩ := a6'.suby a1' (hh * 105414358 - P5) rfl (by omega) (by omega) (by omega)
  obtain ⟨x2, h8, a8⟩ := a4.muly c_a2 (hh * (-62640872)) (by omega) (Q := J - 24) (by omega) (by omega) (by omega) (by omega)
  have a7' := a7.too (J - 24) (by omega) 67108864 ((hh * 105414358 - P5) * 67108864) (by rw [show J + 2 - (J - 24) = 26 by omega]; decide) rfl
  obtain ⟨y2, h9, a9⟩ := a7'.addy a8 ((hh * 105414358 - P5) * 67108864 + hh * (-62640872)) rfl (by omega) (by omega) (by omega)
  obtain ⟨x3, h10, a10⟩ := a5.muly c_a1 (ε * 52707179) (by omega) (Q := J - 23) (by omega) (by omega) (by omega) (by omega)
  have a10' := a10.too (J - 24) (by omega) 2 (ε * 105414358) (by rw [show J - 23 - (J - 24) = 1 by omega]; decide) (by omega)
  obtain ⟨y3, h11, a11⟩ := a9.addy a10' ((hh * 105414358 - P5) * 67108864 + hh * (-62640872) + ε * 105414358) rfl (by omega) (by omega) (by omega)
  obtain ⟨x4, h12, a12⟩ := a5.muly c_a2 (ε * (-62640872)) (by omega) (Q := J - 50) (by omega) (by omega) (by omega) (by omega)
  have a11' := a11.too (J - 50) (by omega) 67108864 (((hh * 105414358 - P5) * 67108864 + hh * (-62640872) + ε * 105414358) * 67108864) (by rw [show J - 24 - (J - 50) = 26 by omega]; decide) rfl
  obtain ⟨y4, h13, a13⟩ := a11'.addy a12 (M * 7074237752028440 - Pz) (by omega) (by omega) (by omega) (by omega)
  refine ⟨P, y4, Pz, ?_, a1, a13, b1, b2⟩
  unfold twoProd
  rw [h1, Option.bind_some]
  have hs : splitF p = some (g, o) := by unfold splitF; rw [h2, Option.bind_some, h3, Option.bind_some, h4, Option.bind_some, h5, Option.bind_some]
  rw [hs, Option.bind_some, split_a, Option.bind_some]
  simp only
  rw [h6, Option.bind_some, h7, Option.bind_some, h8, Option.bind_some, h9, Option.bind_some, h10, Option.bind_some, h11, Option.bind_some, h12, Option.bind_some, h13, Option.bind_some]

theorem ddMul_of {p y P e z1 z2 s d : Nat} {r : Nat × Nat} (f1 : twoProd p 4618760256179416344 = some (P, e)) (f2 : fmul p 4373459396149402631 = some z1) (f3 : fmul y 4618760256179416344 = some z2)
    (f4 : fadd z1 z2 = some s) (f5 : fadd e s = some d) (f6 : fastTwoSum P d = some r) : ddMul (p, y) C4 = some r := by
  unfold ddMul C4
  simp only
  rw [f1, Option.bind_some, f2, Option.bind_some, f3, Option.bind_some, f4, Option.bind_some]
  simp only
  rw [f5, Option.bind_some, f6]

/-- times 2 pi -/
theorem mul_a {p y J : Nat} {M T : Int} (hp : At J p M) (hy : At (J - 54) y T) (l : 4503599627370496 ≤ M) (u : M < 9007199254740992) (t1 : -36028797018963968 ≤ T) (t2 : T ≤ 36028797018963968) (j1 : 200 ≤ J) (j2 : J ≤ 1500) :
    ∃ r1 r2 U R, ddMul (p, y) C4 = some (r1, r2) ∧ ddForm (r1, r2) = some true ∧ At (J - 104) r1 U ∧ At (J - 104) r2 R ∧
      -5192296858534827628530496329220096 ≤ (U + R) * 18014398509481984 - (M * 18014398509481984 + T) * 127438138015862315638027235646471 ∧ (U + R) * 18014398509481984 - (M * 18014398509481984 + T) * 127438138015862315638027235646471 ≤ 5192296858534827628530496329220096 := by
  obtain ⟨P, e, Pz, h1, a1, a2, b1, b2⟩ := prod_a hp l u j1 j2
  obtain ⟨z1, Z1, h2, a3, b3, b4⟩ := hp.mul2 c_b 53 9007199254740992 (by decide) (Q := J - 104) (by omega) (by omega) (by omega) (by omega)
  obtain ⟨z2, Z2, h3, a4, b5, b6⟩ := hy.mul2 c_a 55 36028797018963968 (by decide) (Q := J - 104) (by omega) (by omega) (by omega) (by omega)
  obtain ⟨s, S, h4, a5, b7, b8⟩ := a3.add2 a4 56 72057594037927936 (by decide) (by omega) (by omega) (by omega)
  have a2' := a2.too (J - 104) (by omega) 18014398509481984 ((M * 7074237752028440 - Pz) * 18014398509481984) (by rw [show J - 50 - (J - 104) = 54 by omega]; decide) rfl
  obtain ⟨d, D, h5, a6, b9, b10⟩ := a2'.add2 a5 56 72057594037927936 (by decide) (by omega) (by omega) (by omega)
  have a1' := a1.too (J - 104) (by omega) 18014398509481984 (Pz * 18014398509481984) (by rw [show J - 50 - (J - 104) = 54 by omega]; decide) rfl
  have hd : Dom (Pz * 18014398509481984) D := by unfold Dom; left; omega
  obtain ⟨r1, r2, U, R, h6, a7, a8, c1, c2, c3, hf⟩ := a1'.fast a6 hd 110 1298074214633706907132624082305024 (by decide) (by omega) (by omega) (by omega)
  clear hd c2 c3
  exact ⟨r1, r2, U, R, ddMul_of h1 h2 h3 h4 h5 h6, hf, a7, a8, by omega, by omega⟩

/-- the same of nought -/
theorem mul_zero {p y : Nat} (hp : At 1000 p 0) (hy : At 946 y 0) : ∃ r1 r2, ddMul (p, y) C4 = some (r1, r2) ∧ ddForm (r1, r2) = some true ∧ At 896 r1 0 ∧ At 896 r2 0 := by
  obtain ⟨P, h1, a1⟩ := hp.muly c_a 0 (by omega) (Q := 950) (by omega) (by omega) (by omega) (by omega)
  obtain ⟨c, h2, a2⟩ := c_spl.muly hp 0 (by omega) (Q := 1000) (by omega) (by omega) (by omega) (by omega)
  obtain ⟨d, h3, a3⟩ := a2.suby hp 0 (by omega) (by omega) (by omega) (by omega)
  obtain ⟨g, h4, a4⟩ := a2.suby a3 0 (by omega) (by omega) (by omega) (by omega)
  obtain ⟨o, h5, a5⟩ := hp.suby a4 0 (by omega) (by omega) (by omega) (by omega)
  obtain ⟨x1, h6, a6⟩ := a4.muly c_a1 0 (by omega) (Q := 977) (by omega) (by omega) (by omega) (by omega)
  have a6' := a6.too 950 (by omega) 134217728 0 (by decide) (by omega)
  obtain ⟨y1, h7, a7⟩ := a6'.suby a1 0 (by omega) (by omega) (by omega) (by omega)
  obtain ⟨x2, h8, a8⟩ := a4.muly c_a2 0 (by omega) (Q := 950) (by omega) (by omega) (by omega) (by omega)
  obtain ⟨y2, h9, a9⟩ := a7.addy a8 0 (by omega) (by omega) (by omega) (by omega)
  obtain ⟨x3, h10, a10⟩ := a5.muly c_a1 0 (by omega) (Q := 977) (by omega) (by omega) (by omega) (by omega)
  have a10' := a10.too 950 (by omega) 134217728 0 (by decide) (by omega)
  obtain ⟨y3, h11, a11⟩ := a9.addy a10' 0 (by omega) (by omega) (by omega) (by omega)
  obtain ⟨x4, h12, a12⟩ := a5.muly c_a2 0 (by omega) (Q := 950) (by omega) (by omega) (by omega) (by omega)
  obtain ⟨y4, h13, a13⟩ := a11.addy a12 0 (by omega) (by omega) (by omega) (by omega)
  have hT : twoProd p 4618760256179416344 = some (P, y4) := by
    unfold twoProd
    rw [h1, Option.bind_some]
    have hs : splitF p = some (g, o) := by unfold splitF; rw [h2, Option.bind_some, h3, Option.bind_some, h4, Option.bind_some, h5, Option.bind_some]
    rw [hs, Option.bind_some, split_a, Option.bind_some]
    simp only
    rw [h6, Option.bind_some, h7, Option.bind_some, h8, Option.bind_some, h9, Option.bind_some, h10, Option.bind_some, h11, Option.bind_some, h12, Option.bind_some, h13, Option.bind_some]
  obtain ⟨z1, h14, a14⟩ := hp.muly c_b 0 (by omega) (Q := 896) (by omega) (by omega) (by omega) (by omega)
  obtain ⟨z2, h15, a15⟩ := hy.muly c_a 0 (by omega) (Q := 896) (by omega) (by omega) (by omega) (by omega)
  obtain ⟨s, h16, a16⟩ := a14.addy a15 0 (by omega) (by omega) (by omega) (by omega)
  have a13' := a13.too 896 (by omega) 18014398509481984 0 (by decide) (by omega)
  obtain ⟨e, h17, a17⟩ := a13'.addy a16 0 (by omega) (by omega) (by omega) (by omega)
  have a1' := a1.too 896 (by omega) 18014398509481984 0 (by decide) (by omega)
  obtain ⟨r1, r2, U, R, h18, a18, a19, c1, c2, c3, hf⟩ := a1'.fast a17 (by unfold Dom; omega) 0 1 (by decide) (by omega) (by omega) (by omega)
  have hR : R = 0 := by omega
  have hU : U = 0 := by omega
  subst hR hU
  exact ⟨r1, r2, ddMul_of hT h14 h15 h16 h17 h18, hf, a18, a19⟩

/-- the place of a word between 2^104 and 2^107 units -/
theorem own_place {p q : Nat} {H : Int} (h : At q p H) (l : 20282409603651670423947251286016 ≤ H) (u : H < 162259276829213363391578010288128) : ∃ (j : Nat) (m : Int), 52 ≤ j ∧ j ≤ 54 ∧ At (q + j) p m ∧ 4503599627370496 ≤ m ∧ m < 9007199254740992 ∧ m * 2 ^ j = H := by
  obtain ⟨K, m, g1, g2, -, g3⟩ := at_own h.fin
  have hq : (0 : Int) < 2 ^ q := Int.pow_pos (by decide)
  have hK : (0 : Int) < 2 ^ K := Int.pow_pos (by decide)
  have e : m * 2 ^ K = H * 2 ^ q := by rw [← g1.val, h.val]
  have mpos : 0 < m := by
    have : 0 < m * 2 ^ K := by rw [e]; exact Int.mul_pos (by omega) hq
    rcases Int.lt_or_le 0 m with c | c
    · exact c
    · have := Int.mul_nonpos_of_nonpos_of_nonneg c (by omega : (0 : Int) ≤ 2 ^ K); omega
  have hKq : q ≤ K := by
    rcases Nat.lt_or_ge K q with c | c
    · exfalso
      obtain ⟨t, rfl⟩ : ∃ t, q = K + t := ⟨q - K, by omega⟩
      rw [Int.pow_add, Int.mul_comm (2 ^ K), ← Int.mul_assoc] at e
      have e2 := Int.eq_of_mul_eq_mul_right (by omega) e
      have : (1 : Int) ≤ 2 ^ t := by have : (0 : Int) < 2 ^ t := Int.pow_pos (by decide); omega
      have := Int.mul_le_mul_of_nonneg_left this (by omega : (0 : Int) ≤ H)
      omega
    · exact c
  obtain ⟨j, rfl⟩ : ∃ j, K = q + j := ⟨K - q, by omega⟩
  have e2 : m * 2 ^ j = H := by
    rw [Int.pow_add, Int.mul_comm (2 ^ q), ← Int.mul_assoc] at e
    exact Int.eq_of_mul_eq_mul_right (by omega) e
  have mlow : 4503599627370496 ≤ m := by
    rcases g3 with g3 | g3
    · have : j = 0 := by omega
      subst this
      rw [Int.pow_zero, Int.mul_one] at e2
      omega
    · obtain ⟨a, ha⟩ := rep (q + j) 4503599627370496 (by decide)
      have hv : V (((q + j)) * 4503599627370496 + 4503599627370496) = 4503599627370496 * 2 ^ (q + j) := V_at (q + j) 4503599627370496 (by decide) (Or.inr (by decide))
      have h1 : V ((q + j) * 4503599627370496 + 4503599627370496) ≤ V (rg p) := V_le g3
      rw [hv, ← fz_abs, g1.val, Int.natAbs_mul, Int.natAbs_pow] at h1
      have := Nat.le_of_mul_le_mul_right h1 (Nat.two_pow_pos _)
      omega
  have j1 : 52 ≤ j := by
    rcases Nat.lt_or_ge j 52 with c | c
    · exfalso
      have h1 : (2 : Int) ^ j ≤ 2251799813685248 := by
        have := Nat.pow_le_pow_right (n := 2) (by decide) (by omega : j ≤ 51)
        have e3 : ((2 ^ j : Nat) : Int) = 2 ^ j := by simp
        rw [← e3]; exact Int.ofNat_le.2 this
      have := Int.mul_le_mul_of_nonneg_left h1 (by omega : (0 : Int) ≤ m)
      omega
    · exact c
  have j2 : j ≤ 54 := by
    rcases Nat.lt_or_ge 54 j with c | c
    · exfalso
      have h1 : (36028797018963968 : Int) ≤ 2 ^ j := by
        have := Nat.pow_le_pow_right (n := 2) (by decide) (by omega : 55 ≤ j)
        have e3 : ((2 ^ j : Nat) : Int) = 2 ^ j := by simp
        rw [← e3]; exact Int.ofNat_le.2 this
      have := Int.mul_le_mul_of_nonneg_left h1 (by omega : (0 : Int) ≤ m)
      omega
    · exact c
  exact ⟨j, m, j1, j2, g1, mlow, by omega, e2⟩

end Go.Proofs.YtgihapdlliidgaaDoor
