/- Plain: payne's answer: in form, and what it is worth. -/
import Derived.Test.YtgihapdlliidgaaDoorRo
namespace Go.Proofs.YtgihapdlliidgaaDoor
set_option linter.unusedVariables false
set_option exponentiation.threshold 3000
open Ieee Go

theorem ddok_of {x y : Nat} (hx : Fin64 x) (hy : Fin64 y) (h : ddForm (x, y) = some true) : DDok (x, y) :=
  ⟨hx.1, hy.1, by rw [PINF_eq]; exact hx.2, by rw [PINF_eq]; exact hy.2, h⟩

theorem x3_eq : 4611686018427387904 * (B64 * (B64 * B64)) = 28948022309329048855892746252171976963317496166410141009864396001978282409984 := by rw [B64_eq]
theorem wv0_bounds {R c d f : Nat} (hc : c < B64) (hd : d < B64) (hf : f < B64) : R * (B64 * (B64 * B64)) ≤ wv 0 R c d f ∧ wv 0 R c d f < (R + 1) * (B64 * (B64 * B64)) := by
  unfold wv
  rw [B64_eq] at *
  omega
theorem wv_split (a b c d f : Nat) : wv a b c d f = wv 0 (b % 4611686018427387904) c d f + 28948022309329048855892746252171976963317496166410141009864396001978282409984 * (b / 4611686018427387904 + 4 * a) := by
  have h := Nat.div_add_mod b 4611686018427387904
  unfold wv
  rw [B64_eq]
  omega

theorem sum_small {V : Nat} {x E : Int} (hV : V ≤ 28948022309329048855892746252171976963317496166410141009864396001978282409984) (hx : x = ((V * 2 ^ 714 : Nat) : Int) * 127438138015862315638027235646471 + E) (h1 : -(((V * 2 ^ 714 : Nat) : Int) * 127438138015862315638027235646471) ≤ E * 633825300114114700748351602688) (h2 : E * 633825300114114700748351602688 ≤ ((V * 2 ^ 714 : Nat) : Int) * 127438138015862315638027235646471) : x.natAbs ≤ MX := by
  have e : ((V * 2 ^ 714 : Nat) : Int) ≤ 28948022309329048855892746252171976963317496166410141009864396001978282409984 * ((2 ^ 714 : Nat) : Int) := by
    rw [Int.natCast_mul]; exact Int.mul_le_mul_of_nonneg_right (by omega) (by omega)
  have e0 : 0 ≤ ((V * 2 ^ 714 : Nat) : Int) := by omega
  have e3 : 9394170331095332911557922387157348109502730195633279482829163886128836100458433773854795993539074812127739904 * 2 ^ 714 ≤ MX := by
    rw [MX_eq]
    have := Nat.pow_add 2 362 714
    rw [show (362 : Nat) + 714 = 1076 from rfl, show (2 : Nat) ^ 362 = 9394170331095332911557922387157348109502730195633279482829163886128836100458433773854795993539074812127739904 from rfl] at this
    rw [← this]
    exact Nat.pow_le_pow_right (by decide) (by decide)
  generalize ((V * 2 ^ 714 : Nat) : Int) = X at *
  generalize (2 : Nat) ^ 714 = Y at *
  omega

theorem payne_val {b : Nat} (hfb : Fin64 b) (l : 4485585228861014016 ≤ rg b) {q : Int} {t : Nat × Nat} (h : PayneOut pwF (rg b % 4503599627370496 + 4503599627370496) (((rg b / 4503599627370496 : Nat) : Int) - 1075) (sg b) q t) :
    DDok t ∧ (rg b < 4697254411347427328 → ∀ N, At 995 b N → ∃ kp Ts r S E2 : Int, Ts * 2417851639229258349412352 = N * 73715533492226901901836098385759174607297965327747686705228263945774433027425 - r ∧ -2417851639229258349412352 ≤ r ∧ r ≤ 2417851639229258349412352 ∧ S = Ts - kp * 28948022309329048855892746252171976963317496166410141009864396001978282409984 ∧ -14474011154664524427946373126085988481658748083205070504932198000989141204992 ≤ S ∧ S ≤ 14474011154664524427946373126085988481658748083205070504932198000989141204992 ∧ q = kp % 4 ∧
      fz t.1 + fz t.2 = S * 127438138015862315638027235646471 * 2 ^ 714 + E2 ∧ -((S * 127438138015862315638027235646471 * 2 ^ 714).natAbs : Int) ≤ E2 * 633825300114114700748351602688 ∧ E2 * 633825300114114700748351602688 ≤ (S * 127438138015862315638027235646471 * 2 ^ 714).natAbs) := by
  obtain ⟨a, b', c, d, f, V, Z, p, y, rr, up, ha, hb', hc, hd, hf, hv, hu0, hu1, hpo, hmul, ht, hq⟩ := h
  obtain ⟨r1, r2, g1, g2, g3, g4, E, g5, g6, g7⟩ := part_mul hpo
  have hrr : rr = (r1, r2) := by rw [g1] at hmul; exact (Option.some.inj hmul).symm
  subst hrr
  obtain ⟨w1, w2⟩ := wv0_bounds (R := b' % 4611686018427387904) hc hd hf
  have hx3 := x3_eq
  generalize hV0 : wv 0 (b' % 4611686018427387904) c d f = V0 at *
  -- V and V0
  have hVV : (up = false → V = V0 ∧ V0 ≤ 14474011154664524427946373126085988481658748083205070504932198000989141204992) ∧ (up = true → V + V0 = 28948022309329048855892746252171976963317496166410141009864396001978282409984 ∧ 14474011154664524427946373126085988481658748083205070504932198000989141204992 ≤ V0) := by
    constructor
    · intro hup
      obtain ⟨c1, c2⟩ := hu0 hup
      refine ⟨c2, ?_⟩
      have : (b' % 4611686018427387904 + 1) * (B64 * (B64 * B64)) ≤ 2305843009213693952 * (B64 * (B64 * B64)) := Nat.mul_le_mul_right _ (by omega)
      omega
    · intro hup
      obtain ⟨c1, c2⟩ := hu1 hup
      rw [hx3] at c2
      refine ⟨c2, ?_⟩
      have : 2305843009213693952 * (B64 * (B64 * B64)) ≤ (b' % 4611686018427387904) * (B64 * (B64 * B64)) := Nat.mul_le_mul_right _ c1
      omega
  have hVle : V ≤ 28948022309329048855892746252171976963317496166410141009864396001978282409984 := by
    cases up
    · have := hVV.1 rfl; omega
    · have := hVV.2 rfl; omega
  have hsm := sum_small hVle g5 g6 g7
  obtain ⟨z1, z2⟩ := fneg_fin g3
  obtain ⟨z3, z4⟩ := fneg_fin g4
  constructor
  · rw [ht]
    split
    · exact ddok_of g3 g4 g2
    · exact ddok_of z1 z3 (ddForm_neg g3 g4 hsm g2)
  · intro hu N hN
    have hsz := hN.size
    have hvf := V_fm (rg b)
    have hE1 : 996 ≤ rg b / 4503599627370496 := by omega
    have hE2 : rg b / 4503599627370496 ≤ 1042 := by omega
    have hm : fm (rg b) = rg b % 4503599627370496 + 4503599627370496 := by unfold fm; rw [if_neg (by omega)]; omega
    have he : (fe (rg b) + 1074).toNat = rg b / 4503599627370496 - 1 := by unfold fe; rw [if_neg (by omega)]; omega
    rw [hm, he] at hvf
    have hT := hv
    unfold tv at hT
    rw [if_pos (by omega)] at hT
    rw [pwF_W] at hT
    generalize rg b % 4503599627370496 + 4503599627370496 = m at *
    have hn2 : (2 - (((rg b / 4503599627370496 : Nat) : Int) - 1075)).toNat = 1077 - rg b / 4503599627370496 := by omega
    rw [hn2] at hT
    generalize rg b / 4503599627370496 = Eb at *
    have hNn : N.natAbs = m * 2 ^ (Eb - 996) := by
      apply Nat.eq_of_mul_eq_mul_right (Nat.two_pow_pos 995)
      rw [← hsz, hvf, Nat.mul_assoc, ← Nat.pow_add, show Eb - 996 + 995 = Eb - 1 by omega]
    have hd1 := Nat.div_add_mod (m * 73715533492226901901836098385759174607297965327747686705228263945774433027425) (2 ^ (1077 - Eb))
    have hd2 := Nat.mod_lt (m * 73715533492226901901836098385759174607297965327747686705228263945774433027425) (Nat.two_pow_pos (1077 - Eb))
    rw [← hT] at hd1
    have hp81 : 2 ^ (1077 - Eb) * 2 ^ (Eb - 996) = 2417851639229258349412352 := by rw [← Nat.pow_add, show 1077 - Eb + (Eb - 996) = 81 by omega]
    have hk1 : N.natAbs * 73715533492226901901836098385759174607297965327747686705228263945774433027425 = 2417851639229258349412352 * wv a b' c d f + (m * 73715533492226901901836098385759174607297965327747686705228263945774433027425) % 2 ^ (1077 - Eb) * 2 ^ (Eb - 996) := by
      rw [hNn, ← hp81]
      have : m * 2 ^ (Eb - 996) * 73715533492226901901836098385759174607297965327747686705228263945774433027425 = (m * 73715533492226901901836098385759174607297965327747686705228263945774433027425) * 2 ^ (Eb - 996) := Nat.mul_right_comm _ _ _
      rw [this]
      rw (occs := .pos [1]) [← hd1]
      rw [Nat.add_mul, Nat.mul_right_comm]
    have hk2 : (m * 73715533492226901901836098385759174607297965327747686705228263945774433027425) % 2 ^ (1077 - Eb) * 2 ^ (Eb - 996) < 2417851639229258349412352 := by
      rw [← hp81]; exact Nat.mul_lt_mul_of_pos_right hd2 (Nat.two_pow_pos _)
    rw [wv_split, hV0] at hk1
    generalize (m * 73715533492226901901836098385759174607297965327747686705228263945774433027425) % 2 ^ (1077 - Eb) * 2 ^ (Eb - 996) = ρ at *
    obtain ⟨K, hK⟩ : ∃ K, K = b' / 4611686018427387904 := ⟨_, rfl⟩
    rw [← hK] at hk1 hq
    clear hd1 hd2 hT hNn hsz hvf hv hb' hu0 hu1 w1 w2 hn2 hp81 hx3 hpo hmul hsm
    have hsg : sg b = true → N = -(N.natAbs : Int) := by
      intro hs
      have := fz_neg_of hs
      rw [hN.val] at this
      have hp : (0 : Int) < 2 ^ 995 := Int.pow_pos (by decide)
      rcases Int.lt_or_le 0 N with x | x
      · have := Int.mul_pos x hp; omega
      · omega
    have hsg2 : sg b = false → N = (N.natAbs : Int) := by
      intro hs
      have := fz_pos_of hs
      rw [hN.val] at this
      have hp : (0 : Int) < 2 ^ 995 := Int.pow_pos (by decide)
      rcases Int.lt_or_le N 0 with x | x
      · have := Int.mul_neg_of_neg_of_pos x hp; omega
      · omega
    have hX : ((V * 2 ^ 714 : Nat) : Int) * 127438138015862315638027235646471 = (V : Int) * 127438138015862315638027235646471 * 2 ^ 714 := by
      rw [Int.natCast_mul, Int.mul_right_comm]; simp
    have hXn : (V : Int) * 127438138015862315638027235646471 * 2 ^ 714 = (((V : Int) * 127438138015862315638027235646471 * 2 ^ 714).natAbs : Int) := by
      have : 0 ≤ (V : Int) * 127438138015862315638027235646471 * 2 ^ 714 := Int.mul_nonneg (by omega) (Int.pow_nonneg (by decide))
      omega
    rw [hX] at g5 g6 g7
    have hneg : ∀ S : Int, S = -(V : Int) → S * 127438138015862315638027235646471 * 2 ^ 714 = -((V : Int) * 127438138015862315638027235646471 * 2 ^ 714) := by
      intro S hS; rw [hS, Int.neg_mul, Int.neg_mul]
    cases hs : sg b with
    | false =>
      rw [hs] at ht hq
      have hN2 := hsg2 hs
      cases up with
      | false =>
        obtain ⟨v1, v2⟩ := hVV.1 rfl
        subst v1
        rw [if_pos rfl] at ht
        subst ht
        refine ⟨K + 4 * a, (V : Int) + 28948022309329048855892746252171976963317496166410141009864396001978282409984 * (K + 4 * a), ρ, V, E, by omega, by omega, by omega, by omega, by omega, by omega, ?_, g5, by rw [← hXn]; exact g6, by rw [← hXn]; exact g7⟩
        rw [hq]; simp only [Bool.false_eq_true, if_false]; omega
      | true =>
        obtain ⟨v1, v2⟩ := hVV.2 rfl
        rw [if_neg (by decide)] at ht
        subst ht
        refine ⟨K + 4 * a + 1, (V0 : Int) + 28948022309329048855892746252171976963317496166410141009864396001978282409984 * (K + 4 * a), ρ, -(V : Int), -E, by omega, by omega, by omega, by omega, by omega, by omega, ?_, ?_, ?_, ?_⟩
        · rw [hq]; simp only [Bool.false_eq_true, if_false, if_true]; omega
        · show fz (fneg r1) + fz (fneg r2) = _
          rw [z2, z4, hneg _ rfl]; omega
        · rw [hneg _ rfl, Int.natAbs_neg, ← hXn]; omega
        · rw [hneg _ rfl, Int.natAbs_neg, ← hXn]; omega
    | true =>
      rw [hs] at ht hq
      have hN2 := hsg hs
      cases up with
      | false =>
        obtain ⟨v1, v2⟩ := hVV.1 rfl
        subst v1
        rw [if_neg (by decide)] at ht
        subst ht
        refine ⟨-(K + 4 * a), -((V : Int) + 28948022309329048855892746252171976963317496166410141009864396001978282409984 * (K + 4 * a)), -ρ, -(V : Int), -E, by omega, by omega, by omega, by omega, by omega, by omega, ?_, ?_, ?_, ?_⟩
        · rw [hq]; simp only [Bool.false_eq_true, if_false, if_true]; omega
        · show fz (fneg r1) + fz (fneg r2) = _
          rw [z2, z4, hneg _ rfl]; omega
        · rw [hneg _ rfl, Int.natAbs_neg, ← hXn]; omega
        · rw [hneg _ rfl, Int.natAbs_neg, ← hXn]; omega
      | true =>
        obtain ⟨v1, v2⟩ := hVV.2 rfl
        rw [if_pos rfl] at ht
        subst ht
        refine ⟨-(K + 4 * a + 1), -((V0 : Int) + 28948022309329048855892746252171976963317496166410141009864396001978282409984 * (K + 4 * a)), -ρ, V, E, by omega, by omega, by omega, by omega, by omega, by omega, ?_, g5, by rw [← hXn]; exact g6, by rw [← hXn]; exact g7⟩
        rw [hq]; simp only [if_true]; omega

end Go.Proofs.YtgihapdlliidgaaDoor
