/- Plain: FastTwoSum and TwoSum are exact where the first is the greater; what is exact is in form. -/
import Derived.Test.YtgihapdlliidgaaDoorRn
namespace Go.Proofs.YtgihapdlliidgaaDoor
set_option linter.unusedVariables false
open Ieee Go

theorem RN.self {a z : Nat} (h : RN (fz a) 0 z) : fz z = fz a := by
  have h0 : rg z = rg a := near_exact h.near (by rw [fz_abs, Nat.pow_zero, Nat.mul_one])
  rcases Int.lt_trichotomy (fz a) 0 with c | c | c
  · have := fz_neg_of (h.neg c)
    have b := fz_abs a
    rw [this, h0]; omega
  · have a1 := fz_abs a
    have a2 := fz_abs z
    rw [h0] at a2
    omega
  · have := fz_pos_of (h.pos c)
    have b := fz_abs a
    rw [this, h0]; omega

/-- a word as a whole number below 2^53 over its own place -/
theorem at_own {b : Nat} (hb : Fin64 b) : ∃ (K : Nat) (m : Int), At K b m ∧ m.natAbs < 9007199254740992 ∧ rg b < K * 4503599627370496 + 9007199254740992 ∧ (K = 0 ∨ K * 4503599627370496 + 4503599627370496 ≤ rg b) := by
  obtain ⟨e, k, h1, h2, h3⟩ := rung_parts (rg b)
  have hv := V_at e k (by omega) h3
  rw [← h1] at hv
  have hk : ((k * 2 ^ e : Nat) : Int) = (k : Int) * 2 ^ e := by simp
  refine ⟨e, if sg b = true then -(k : Int) else k, ⟨hb, ?_⟩, ?_, ?_, ?_⟩
  · unfold fz
    rw [hv, hk]
    split
    · rw [Int.neg_mul]
    · rfl
  · split <;> omega
  · omega
  · omega

/-- a greater word is a multiple of the place of the lesser -/
theorem at_greater {a b K : Nat} (ha : Fin64 a) (h : (fz b).natAbs ≤ (fz a).natAbs) (hK : K = 0 ∨ K * 4503599627370496 + 4503599627370496 ≤ rg b) :
    ∃ n : Int, At K a n ∧ (n.natAbs < 9007199254740992 ∨ (2 : Int) ∣ n) := by
  rw [fz_abs, fz_abs, V_le_iff] at h
  obtain ⟨e, m, h1, h2, h3, h4⟩ := at_own ha
  have he : K ≤ e := by omega
  refine ⟨_, h1.to he, ?_⟩
  rcases Nat.lt_or_ge K e with c | c
  · right
    obtain ⟨t, ht⟩ : ∃ t, e - K = t + 1 := ⟨e - K - 1, by omega⟩
    rw [ht, Int.pow_succ]
    exact ⟨m * 2 ^ t, by grind⟩
  · left
    have : e - K = 0 := by omega
    rw [this, Int.pow_zero, Int.mul_one]; exact h2

theorem MX_mul {n : Int} {K : Nat} {B : Nat} (h : (n * 2 ^ K).natAbs ≤ B) (hB : B ≤ BB) (k : Int) (hk : k.natAbs ≤ 8 * n.natAbs) : (k * 2 ^ K).natAbs ≤ MX := by
  rw [Int.natAbs_mul, Int.natAbs_pow] at *
  have h8 := BB_MX
  have e : k.natAbs * 2 ^ K ≤ 8 * n.natAbs * 2 ^ K := Nat.mul_le_mul_right _ hk
  rw [Nat.mul_assoc] at e
  exact Nat.le_trans e (Nat.le_trans (Nat.mul_le_mul_left 8 (Nat.le_trans h hB)) h8)

/-- the difference has a word -/
theorem diff_rep {n m r : Int} (h0 : m.natAbs < 9007199254740992) (hn : n.natAbs < 9007199254740992 ∨ (2 : Int) ∣ n) (r2 : (n + m - r).natAbs ≤ m.natAbs)
    (r3 : r = n + m ∨ (2 : Int) ∣ r ∧ 9007199254740992 < (n + m).natAbs) (r4 : (n + m).natAbs ≤ 18014398509481984 → (n + m - r).natAbs ≤ 1) :
    (r - n).natAbs ≤ 9007199254740992 ∨ ∃ t : Int, r - n = t * 2 ∧ t.natAbs ≤ 9007199254740992 := by
  by_cases g : (r - n).natAbs ≤ 9007199254740992
  · exact Or.inl g
  · right
    have hr : (2 : Int) ∣ r - n := by
      rcases r3 with r3 | ⟨r3, -⟩
      · omega
      · rcases hn with hn | hn
        · have := r4 (by omega); omega
        · omega
    obtain ⟨t, ht⟩ := hr
    exact ⟨t, by omega, by omega⟩

theorem rn_zero {z : Nat} (h : RN 0 0 z) : fz z = 0 := by
  have h0 : rg z = 0 := near_exact h.near (by rw [V_zero]; rfl)
  have a := fz_abs z
  rw [h0, V_zero] at a; omega

/-- the rounded sum, and that less a, and what it lacks, are exact -/
theorem fast_core {a b : Nat} (ha : Fin64 a) (hb : Fin64 b) (h : (fz b).natAbs ≤ (fz a).natAbs) (hB : (fz a).natAbs ≤ BB) :
    ∃ s x y, fadd a b = some s ∧ RN (fz a + fz b) 0 s ∧ fsub s a = some x ∧ Fin64 x ∧ fz x = fz s - fz a ∧ fsub b x = some y ∧ Fin64 y ∧ fz y = fz a + fz b - fz s ∧
      (fz y).natAbs ≤ (fz b).natAbs := by
  obtain ⟨K, m, hbm, hm, -, hK⟩ := at_own hb
  obtain ⟨n, han, hn⟩ := at_greater ha h hK
  have hP : (0 : Int) < 2 ^ K := Int.pow_pos (by decide)
  have hmn : m.natAbs ≤ n.natAbs := by
    apply int_mul_natAbs_le (p := K)
    rw [← han.val, ← hbm.val]; exact h
  have e1 : fz a + fz b = (n + m) * 2 ^ K := by rw [han.val, hbm.val, Int.add_mul]
  have hB' : (n * 2 ^ K).natAbs ≤ (fz a).natAbs := by rw [han.val]; exact Nat.le_refl _
  obtain ⟨s, s1, s2⟩ := fadd_rn ha hb (by rw [e1]; exact MX_mul hB' hB _ (by omega))
  -- s is a multiple
  have hs : ∃ r : Int, fz s = r * 2 ^ K ∧ (n + m - r).natAbs ≤ m.natAbs ∧ (r = n + m ∨ (2 : Int) ∣ r ∧ 9007199254740992 < (n + m).natAbs) ∧ ((n + m).natAbs ≤ 18014398509481984 → (n + m - r).natAbs ≤ 1) := by
    obtain ⟨c, hc⟩ : ∃ c : Nat, (n + m).natAbs ≤ 9007199254740992 * 2 ^ c := ⟨(n + m).natAbs, by have := @Nat.lt_two_pow_self (n + m).natAbs; omega⟩
    obtain ⟨r, r1, r2, r3⟩ := s2.at (n + m) K c (by rw [e1, Int.pow_zero, Int.mul_one]) hc
    refine ⟨r, r1, ?_, ?_, ?_⟩
    · have bst := s2.best (rg a) (sg a)
      have : (if sg a = true then -(V (rg a) : Int) else (V (rg a) : Int)) = fz a := rfl
      rw [this, Int.pow_zero, Int.mul_one, Int.mul_one] at bst
      apply int_mul_natAbs_le (p := K)
      rw [Int.sub_mul, ← e1, ← r1, ← hbm.val]
      have e2 : fz a + fz b - fz a = fz b := by omega
      rw [e2] at bst
      exact bst
    · rcases Nat.lt_or_ge 9007199254740992 (n + m).natAbs with g | g
      · right
        refine ⟨?_, g⟩
        obtain ⟨q, q1⟩ := rep (K + 1) 4503599627370496 (by decide)
        have hNn : (fz a + fz b).natAbs = (n + m).natAbs * 2 ^ K := by rw [e1, Int.natAbs_mul, Int.natAbs_pow]; rfl
        have g1 : q ≤ rg s := near_ge s2.near (by
          rw [q1, hNn, Nat.pow_zero, Nat.mul_one, Nat.pow_succ]
          calc 4503599627370496 * (2 ^ K * 2) = 9007199254740992 * 2 ^ K := by grind
            _ ≤ _ := Nat.mul_le_mul_right _ (by omega))
        have g2 : 4503599627370496 * 2 ^ (K + 1) ≤ V (rg s) := by rw [← q1]; exact V_le g1
        have g3 := V_dvd g2
        rw [← fz_abs, Nat.pow_succ, Nat.mul_comm] at g3
        have g4 := Int.ofNat_dvd_left.2 g3
        rw [r1] at g4
        have e : ((2 * 2 ^ K : Nat) : Int) = 2 * 2 ^ K := by simp
        rw [e] at g4
        exact Int.dvd_of_mul_dvd_mul_right (by omega) g4
      · left
        have := s2.exact (n + m) K (by rw [e1, Int.pow_zero, Int.mul_one]) g
        rw [r1] at this
        exact Int.eq_of_mul_eq_mul_right (by omega) this
    · intro g
      have e := s2.err (K + 1) (by
        rw [e1, Int.natAbs_mul, Int.natAbs_pow, Nat.pow_zero, Nat.mul_one, Nat.pow_succ]
        calc (n + m).natAbs * 2 ^ K ≤ 18014398509481984 * 2 ^ K := Nat.mul_le_mul_right _ g
          _ = _ := by grind)
      rw [Int.pow_zero, Int.mul_one, Nat.pow_zero, Nat.mul_one, e1, r1, ← Int.sub_mul, Int.natAbs_mul, Int.natAbs_pow, Nat.pow_succ] at e
      have e' : (n + m - r).natAbs * (2 ^ K * 2) ≤ 1 * (2 ^ K * 2) := by
        calc (n + m - r).natAbs * (2 ^ K * 2) = 2 * ((n + m - r).natAbs * 2 ^ K) := by grind
          _ ≤ 2 ^ K * 2 := e
          _ = _ := by rw [Nat.one_mul]
      exact Nat.le_of_mul_le_mul_right e' (Nat.mul_pos (Nat.two_pow_pos _) (by decide))
  obtain ⟨r, r1, r2, r3, r4⟩ := hs
  have e2 : fz s - fz a = (r - n) * 2 ^ K := by rw [han.val, r1, Int.sub_mul]
  obtain ⟨x, x1, x2⟩ := fsub_rn s2.fin ha (by rw [e2]; exact MX_mul hB' hB _ (by omega))
  have hx : fz x = fz s - fz a := by
    rw [e2]
    rcases diff_rep hm hn r2 r3 r4 with g | ⟨t, ht, g⟩
    · exact x2.exact (r - n) K (by rw [e2, Int.pow_zero, Int.mul_one]) g
    · have e3 : (r - n) * 2 ^ K = t * 2 ^ (K + 1) := by rw [ht, Int.pow_succ]; grind
      rw [e3]
      exact x2.exact t (K + 1) (by rw [e2, e3, Int.pow_zero, Int.mul_one]) g
  have e3 : fz b - fz x = (n + m - r) * 2 ^ K := by rw [hx, e2, hbm.val, ← Int.sub_mul]; congr 1; omega
  obtain ⟨y, y1, y2⟩ := fsub_rn hb x2.fin (by rw [e3]; exact MX_mul hB' hB _ (by omega))
  have hy : fz y = (n + m - r) * 2 ^ K := y2.exact (n + m - r) K (by rw [e3, Int.pow_zero, Int.mul_one]) (by omega)
  refine ⟨s, x, y, s1, s2, x1, x2.fin, hx, y1, y2.fin, ?_, ?_⟩
  · rw [hy, e1, r1, ← Int.sub_mul]
  · rw [hy, hbm.val, Int.natAbs_mul, Int.natAbs_mul]
    exact Nat.mul_le_mul_right _ r2

theorem fastTwoSum_spec {a b : Nat} (ha : Fin64 a) (hb : Fin64 b) (h : (fz b).natAbs ≤ (fz a).natAbs) (hB : (fz a).natAbs ≤ BB) :
    ∃ s e, fastTwoSum a b = some (s, e) ∧ RN (fz a + fz b) 0 s ∧ Fin64 e ∧ fz e = fz a + fz b - fz s ∧ (fz e).natAbs ≤ (fz b).natAbs := by
  obtain ⟨s, x, y, h1, h2, h3, h4, h5, h6, h7, h8, h9⟩ := fast_core ha hb h hB
  refine ⟨s, y, ?_, h2, h7, h8, h9⟩
  unfold fastTwoSum
  rw [h1, Option.bind_some, h3, Option.bind_some, h6, Option.bind_some]

theorem twoSum_spec {a b : Nat} (ha : Fin64 a) (hb : Fin64 b) (h : (fz b).natAbs ≤ (fz a).natAbs) (hB : (fz a).natAbs ≤ BB) :
    ∃ s e, twoSum a b = some (s, e) ∧ RN (fz a + fz b) 0 s ∧ Fin64 e ∧ fz e = fz a + fz b - fz s ∧ (fz e).natAbs ≤ (fz b).natAbs := by
  obtain ⟨s, x, y, h1, h2, h3, h4, h5, h6, h7, h8, h9⟩ := fast_core ha hb h hB
  have hmx : BB ≤ MX := by have := BB_MX; omega
  have e1 : fz s - fz x = fz a := by omega
  obtain ⟨aa, a1, a2⟩ := fsub_rn h2.fin h4 (by rw [e1]; omega)
  rw [e1] at a2
  have ea := a2.self
  have e2 : fz a - fz aa = 0 := by omega
  obtain ⟨z, z1, z2⟩ := fsub_rn ha a2.fin (by rw [e2]; exact Nat.zero_le _)
  rw [e2] at z2
  have ez := rn_zero z2
  have e3 : fz z + fz y = fz y := by omega
  obtain ⟨e, d1, d2⟩ := fadd_rn z2.fin h7 (by rw [e3]; omega)
  rw [e3] at d2
  have ee := d2.self
  refine ⟨s, e, ?_, h2, d2.fin, by omega, by omega⟩
  unfold twoSum
  rw [h1, Option.bind_some, h3, Option.bind_some, a1, Option.bind_some, z1, Option.bind_some, h6, Option.bind_some, d1, Option.bind_some]

/-- the sum of which nothing is lost -/
theorem twoSum_exact {a b : Nat} (ha : Fin64 a) (hb : Fin64 b) (hA : (fz a).natAbs ≤ BB) (hB : (fz b).natAbs ≤ BB) (hx : ∀ s, RN (fz a + fz b) 0 s → fz s = fz a + fz b) :
    ∃ s e, twoSum a b = some (s, e) ∧ Fin64 s ∧ fz s = fz a + fz b ∧ Fin64 e ∧ fz e = 0 := by
  have hmx : BB + BB ≤ MX := by have := BB_MX; omega
  obtain ⟨s, s1, s2⟩ := fadd_rn ha hb (by omega)
  have hs := hx s s2
  have e1 : fz s - fz a = fz b := by omega
  obtain ⟨x, x1, x2⟩ := fsub_rn s2.fin ha (by rw [e1]; omega)
  rw [e1] at x2
  have hx' := x2.self
  have e2 : fz s - fz x = fz a := by omega
  obtain ⟨aa, a1, a2⟩ := fsub_rn s2.fin x2.fin (by rw [e2]; omega)
  rw [e2] at a2
  have ha' := a2.self
  have e3 : fz a - fz aa = 0 := by omega
  obtain ⟨z, z1, z2⟩ := fsub_rn ha a2.fin (by rw [e3]; exact Nat.zero_le _)
  rw [e3] at z2
  have hz := rn_zero z2
  have e4 : fz b - fz x = 0 := by omega
  obtain ⟨y, y1, y2⟩ := fsub_rn hb x2.fin (by rw [e4]; exact Nat.zero_le _)
  rw [e4] at y2
  have hy := rn_zero y2
  have e5 : fz z + fz y = 0 := by omega
  obtain ⟨e, d1, d2⟩ := fadd_rn z2.fin y2.fin (by rw [e5]; exact Nat.zero_le _)
  rw [e5] at d2
  have he := rn_zero d2
  refine ⟨s, e, ?_, s2.fin, hs, d2.fin, he⟩
  unfold twoSum
  rw [s1, Option.bind_some, x1, Option.bind_some, a1, Option.bind_some, z1, Option.bind_some, y1, Option.bind_some, d1, Option.bind_some]

theorem feq_of {a b : Nat} (ha : Fin64 a) (hb : Fin64 b) (h : fz a = fz b) : feq a b = true := by
  unfold feq
  have := order_spec ha hb
  rw [show FloatKind.f64.format.order a b = double.order a b from rfl, this, h]
  simp

/-- a rounded sum and what it lacks are in form -/
theorem ddForm_of {s e : Nat} {N : Int} (hs : RN N 0 s) (he : Fin64 e) (h : fz s + fz e = N) (hN : N.natAbs ≤ MX) : ddForm (s, e) = some true := by
  unfold ddForm
  rw [if_pos (ffin_of hs.fin), if_pos (ffin_of he)]
  show (fadd s e).bind _ = _
  obtain ⟨z, z1, z2⟩ := fadd_rn hs.fin he (by rw [h]; exact hN)
  rw [h] at z2
  rw [z1]
  show some (feq z s) = _
  rw [feq_of z2.fin hs.fin (z2.unique hs)]

end Go.Proofs.YtgihapdlliidgaaDoor
