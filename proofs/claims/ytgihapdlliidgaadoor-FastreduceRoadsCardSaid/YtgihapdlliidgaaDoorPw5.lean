/- payne.part, in one: what it gives is the first 106 bits, exactly. -/
import Derived.Test.YtgihapdlliidgaaDoorPw4
namespace Go.Proofs.YtgihapdlliidgaaDoor
open Go Go.RowKit
set_option linter.unusedVariables false
set_option exponentiation.threshold 3000

theorem B64_eq'' : B64 = 2 ^ 64 := by rw [B64_eq]

theorem V_down (r t : Nat) (h : t * 4503599627370496 + 4503599627370496 ≤ r) : V (r - t * 4503599627370496) * 2 ^ t = V r := by
  obtain ⟨e, k, rfl, h1, h2⟩ := rung_parts r
  have he : t ≤ e := by omega
  rw [show e * 4503599627370496 + k - t * 4503599627370496 = (e - t) * 4503599627370496 + k by rw [Nat.sub_mul]; have := Nat.mul_le_mul_right 4503599627370496 he; omega]
  rw [V_at (e - t) k (by omega) (by omega), V_at e k (by omega) h2, Nat.mul_assoc, ← Nat.pow_add]
  congr 2; omega

theorem ldx_at (A t : Nat) (h : A ≤ 9007199254740992) (ht : t ≤ 1000) : At (1074 - t) (ldx A (-(t : Int))) (A : Int) := by
  rcases Nat.eq_zero_or_pos A with h0 | h0
  · subst h0
    have : ldx 0 (-(t : Int)) = 0 := by unfold ldx; rw [flN_zero]; rfl
    rw [this]
    exact ⟨fin_zero, by rw [fz_zero]; simp⟩
  · have hr := flN_range A h (by omega)
    obtain ⟨-, hv⟩ := flN_rung A h
    have hl : ldx A (-(t : Int)) = flN A - t * 4503599627370496 := by
      unfold ldx ldexpF
      rw [if_neg (by omega)]
      omega
    rw [hl]
    have hd := V_down (flN A) t (by omega)
    rw [hv] at hd
    have e : V (flN A - t * 4503599627370496) = A * 2 ^ (1074 - t) := by
      apply Nat.eq_of_mul_eq_mul_right (Nat.two_pow_pos t)
      rw [hd, Nat.mul_assoc, ← Nat.pow_add, Nat.sub_add_cancel (by omega)]
    exact at_const (by omega) e

/-- the top bits of a number of three words -/
theorem top_bits (y1 y2 y3 s : Nat) (h1 : y1 * 2 ^ s < B64) (h2 : y2 < B64) (h3 : y3 < B64) (hs : s < 64) :
    (y1 * 2 ^ s + y2 / 2 ^ (64 - s)) * B64 + (y2 * 2 ^ s % B64 + y3 / 2 ^ (64 - s)) = ((y1 * B64 + y2) * B64 + y3) * 2 ^ s / B64 := by
  have hB := B64_split (k := s) (by omega)
  have hp := Nat.two_pow_pos s
  have hq := Nat.two_pow_pos (64 - s)
  symm
  have e2 := Nat.div_add_mod y2 (2 ^ (64 - s))
  have e3 := Nat.div_add_mod y3 (2 ^ (64 - s))
  have m2 : y2 * 2 ^ s % B64 = 2 ^ s * (y2 % 2 ^ (64 - s)) := by rw [hB, Nat.mul_comm y2, Nat.mul_mod_mul_left]
  have m3 := Nat.mod_lt y3 hq
  rw [m2]
  generalize y2 / 2 ^ (64 - s) = a2 at *
  generalize y2 % 2 ^ (64 - s) = b2 at *
  generalize y3 / 2 ^ (64 - s) = a3 at *
  generalize y3 % 2 ^ (64 - s) = b3 at *
  generalize 2 ^ s = P at *
  generalize 2 ^ (64 - s) = Q at *
  rw [Nat.div_eq_iff B64_pos]
  have x1 : P * b3 < B64 := by rw [hB]; exact Nat.mul_lt_mul_of_pos_left m3 hp
  have key : ((y1 * B64 + y2) * B64 + y3) * P = ((y1 * P + a2) * B64 + (P * b2 + a3)) * B64 + P * b3 := by
    have f2 : y2 * P = a2 * B64 + P * b2 := by rw [← e2, hB]; grind
    have f3 : y3 * P = a3 * B64 + P * b3 := by rw [← e3, hB]; grind
    have g : ((y1 * B64 + y2) * B64 + y3) * P = (y1 * P) * (B64 * B64) + (y2 * P) * B64 + y3 * P := by grind
    rw [g, f2, f3]
    grind
  rw [key]
  omega

theorem top_split (z1 z2 : Nat) (h2 : z2 < B64) : z1 / 2048 * 9007199254740992 + (z1 % 2048 * 4398046511104 + z2 / 4194304) = (z1 * B64 + z2) / 4194304 ∧ z1 % 2048 * 4398046511104 + z2 / 4194304 < 9007199254740992 := by
  rw [B64_eq] at *
  omega

theorem part_two (U L Z : Nat) (hU : U < 9007199254740992) (hL : L < 9007199254740992) (h : 4503599627370496 ≤ U ∨ (U = 0 ∧ L = 0)) (hZ : Z ≤ 255) :
    ∃ (x y : Nat) (H T : Int), twoSum (ldx U (-53 - (Z : Int))) (ldx L (-106 - (Z : Int))) = some (x, y) ∧ At (968 - Z) x H ∧ At (968 - Z) y T ∧ T = (U : Int) * 9007199254740992 + L - H ∧ -18014398509481984 ≤ 2 * T ∧ 2 * T ≤ 18014398509481984 ∧ (U = 0 → L = 0 → T = 0) := by
  have a1 := ldx_at U (53 + Z) (by omega) (by omega)
  have a2 := ldx_at L (106 + Z) (by omega) (by omega)
  rw [show -((53 + Z : Nat) : Int) = -53 - (Z : Int) by omega] at a1
  rw [show -((106 + Z : Nat) : Int) = -106 - (Z : Int) by omega, show 1074 - (106 + Z) = 968 - Z by omega] at a2
  have a1' := a1.too (968 - Z) (by omega) 9007199254740992 ((U : Int) * 9007199254740992) (by rw [show 1074 - (53 + Z) - (968 - Z) = 53 by omega]; decide) rfl
  have hd : Dom ((U : Int) * 9007199254740992) (L : Int) := by unfold Dom; omega
  obtain ⟨x, y, H, T, h1, h2, h3, h4, h5, h6, h7⟩ := a1'.two a2 (Or.inl hd) 54 18014398509481984 (by decide) (by omega) (by omega) (by omega) (by omega) (by omega)
  exact ⟨x, y, H, T, h1, h2, h3, h4, h5, h6, fun e1 e2 => h7 (by omega) (by omega)⟩

theorem blen_shift (y : Nat) (h : y < B64) (h0 : y ≠ 0) : 64 - blen y < 64 ∧ y * 2 ^ (64 - blen y) < B64 ∧ 9223372036854775808 ≤ y * 2 ^ (64 - blen y) := by
  have b1 := blen_lt y
  have b2 := blen_ge y h0
  have hb : blen y ≤ 64 := by
    have : 2 ^ (blen y - 1) < 2 ^ 64 := Nat.lt_of_le_of_lt b2 (by rw [← B64_eq'']; exact h)
    have := (Nat.pow_lt_pow_iff_right (a := 2) (by decide)).1 this
    omega
  have hb0 : 0 < blen y := by unfold blen; rw [if_neg h0]; omega
  refine ⟨by omega, ?_, ?_⟩
  · have : y * 2 ^ (64 - blen y) < 2 ^ blen y * 2 ^ (64 - blen y) := Nat.mul_lt_mul_of_pos_right b1 (Nat.two_pow_pos _)
    rw [← Nat.pow_add, show blen y + (64 - blen y) = 64 by omega] at this
    rw [B64_eq'']; exact this
  · have : 2 ^ (blen y - 1) * 2 ^ (64 - blen y) ≤ y * 2 ^ (64 - blen y) := Nat.mul_le_mul_right _ b2
    rw [← Nat.pow_add, show blen y - 1 + (64 - blen y) = 63 by omega] at this
    exact this

theorem part_nums (y1 y2 y3 s : Nat) (h1 : y1 < B64) (h2 : y2 < B64) (h3 : y3 < B64) (h0 : y1 ≠ 0) (hs : 64 - blen y1 = s) :
    s < 64 ∧ ∃ z1 z2 : Nat, y1 * 2 ^ s % B64 + y2 / 2 ^ (64 - s) = z1 ∧ z1 < B64 ∧ y2 * 2 ^ s % B64 + y3 / 2 ^ (64 - s) = z2 ∧ z2 < B64 ∧ 4503599627370496 ≤ z1 / 2048 ∧ z1 / 2048 < 9007199254740992 ∧
      z1 % 2048 * 4398046511104 + z2 / 4194304 < 9007199254740992 ∧ z1 / 2048 * 9007199254740992 + (z1 % 2048 * 4398046511104 + z2 / 4194304) = ((y1 * B64 + y2) * B64 + y3) * 2 ^ s / (B64 * 4194304) := by
  obtain ⟨g1, g2, g3⟩ := blen_shift y1 h1 h0
  rw [hs] at g1 g2 g3
  have w1 := (win_word y1 y2 s h1 h2 g1).2
  have w2 := (win_word y2 y3 s h2 h3 g1).2
  have tb := top_bits y1 y2 y3 s g2 h2 h3 g1
  rw [Nat.mod_eq_of_lt g2] at w1 ⊢
  obtain ⟨t1, t2⟩ := top_split (y1 * 2 ^ s + y2 / 2 ^ (64 - s)) (y2 * 2 ^ s % B64 + y3 / 2 ^ (64 - s)) w2
  refine ⟨g1, _, _, rfl, w1, rfl, w2, ?_, ?_, t2, ?_⟩
  · generalize y1 * 2 ^ s = a at *
    generalize y2 / 2 ^ (64 - s) = b at *
    clear tb t1 t2 w2
    omega
  · rw [B64_eq] at w1
    generalize y1 * 2 ^ s + y2 / 2 ^ (64 - s) = a at *
    clear tb t1 t2 w2
    omega
  · rw [t1, tb, Nat.div_div_eq_div_mul]

theorem vdiv0 (Y e s : Nat) (he : e < B64) (hs : s < 64) : (Y * B64 + e) * 2 ^ s / (B64 * B64 * 4194304) = Y * 2 ^ s / (B64 * 4194304) := by
  have h1 : (Y * B64 + e) * 2 ^ s / (B64 * B64 * 4194304) = (Y * B64 + e) * 2 ^ s / B64 / (B64 * 4194304) := by rw [Nat.div_div_eq_div_mul, Nat.mul_assoc]
  have h2 : (Y * B64 + e) * 2 ^ s = e * 2 ^ s + B64 * (Y * 2 ^ s) := by grind
  rw [h1, h2, Nat.add_mul_div_left _ _ B64_pos]
  have hp := Nat.two_pow_pos s
  have h3 : e * 2 ^ s / B64 < 2 ^ s := by
    rw [Nat.div_lt_iff_lt_mul B64_pos, Nat.mul_comm]
    exact Nat.mul_lt_mul_of_pos_left he hp
  have hB := B64_split (k := s) (by omega)
  have hG : B64 * 4194304 = 2 ^ s * (2 ^ (64 - s) * 4194304) := by rw [hB, Nat.mul_assoc]
  rw [hG]
  generalize e * 2 ^ s / B64 = r at *
  rw [← Nat.div_div_eq_div_mul, ← Nat.div_div_eq_div_mul, Nat.add_mul_div_right _ _ hp, Nat.div_eq_of_lt h3, Nat.zero_add, Nat.mul_comm Y, Nat.mul_div_mul_left _ _ hp, Nat.div_div_eq_div_mul]

/-- part: a number of 256 bits, its first 106 bits -/
def PartOk (V Z x y : Nat) : Prop := ∃ (U L : Nat) (H T : Int), Z ≤ 255 ∧ U < 9007199254740992 ∧ L < 9007199254740992 ∧ (4503599627370496 ≤ U ∨ (U = 0 ∧ L = 0 ∧ V = 0)) ∧ U * 9007199254740992 + L = V * 2 ^ Z / (B64 * B64 * 4194304) ∧
  At (968 - Z) x H ∧ At (968 - Z) y T ∧ T = (U : Int) * 9007199254740992 + L - H ∧ -18014398509481984 ≤ 2 * T ∧ 2 * T ≤ 18014398509481984 ∧ (U = 0 → L = 0 → T = 0)

theorem part_ok {V Z U L x y : Nat} {H T : Int} (h1 : Z ≤ 255) (h2 : U < 9007199254740992) (h3 : L < 9007199254740992) (h4 : 4503599627370496 ≤ U ∨ (U = 0 ∧ L = 0 ∧ V = 0)) (h5 : U * 9007199254740992 + L = V * 2 ^ Z / (B64 * B64 * 4194304))
    (g1 : At (968 - Z) x H) (g2 : At (968 - Z) y T) (g3 : T = (U : Int) * 9007199254740992 + L - H) (g4 : -18014398509481984 ≤ 2 * T) (g5 : 2 * T ≤ 18014398509481984 ∧ (U = 0 → L = 0 → T = 0)) : PartOk V Z x y := ⟨U, L, H, T, h1, h2, h3, h4, h5, g1, g2, g3, g4, g5⟩

theorem vdiv1 (Y V s j : Nat) (h : V * 2 ^ j = Y * B64) : V * 2 ^ (j + s) / (B64 * B64 * 4194304) = Y * 2 ^ s / (B64 * 4194304) := by
  rw [Nat.pow_add, ← Nat.mul_assoc, h, Nat.mul_assoc B64, Nat.mul_comm Y B64, Nat.mul_assoc, Nat.mul_div_mul_left _ _ B64_pos]

theorem part_calls (b c d e : Nat) (hb : b < B64) (hc : c < B64) (hd : d < B64) (he : e < B64) (w : World) :
    Calls Tryd.prog 20 #[.agg #[.int .u64 0, .int .u64 (b : Nat), .int .u64 (c : Nat), .int .u64 (d : Nat), .int .u64 (e : Nat)]] w fun E w' => ∃ Z x y : Nat, E = .returned (.tuple #[ddV (x, y), .int .i64 (Z : Nat)]) ∧ PartOk (wv 0 b c d e) Z x y ∧ Below w.heap.size w w' := by
  by_cases b0 : b = 0
  · subst b0
    by_cases c0 : c = 0
    · subst c0
      by_cases d0 : d = 0
      · subst d0
        by_cases e0 : e = 0
        · subst e0
          obtain ⟨x, y, H, T, r1, r2, r3, r4, r5, r6⟩ := part_two 0 0 192 (by decide) (by decide) (Or.inr ⟨rfl, rfl⟩) (by decide)
          have hP : PartOk (wv 0 0 0 0 0) 192 x y := part_ok (by decide) (by decide) (by decide) (Or.inr ⟨rfl, rfl, rfl⟩) (by rw [show wv 0 0 0 0 0 = 0 from rfl, Nat.zero_mul, Nat.zero_div]) r2 r3 r4 r5 r6
          refine (part_3n (x, y) r1 w).mono ?_
          rintro E w' ⟨rfl, hb1⟩
          exact ⟨192, x, y, rfl, hP, hb1⟩
        · obtain ⟨s, hs⟩ : ∃ s, 64 - blen e = s := ⟨_, rfl⟩
          obtain ⟨g1, z1, z2, n1, n2, n3, n4, n5, n6, n7, n8⟩ := part_nums e 0 0 s he B64_pos B64_pos e0 hs
          obtain ⟨x, y, H, T, r1, r2, r3, r4, r5, r6⟩ := part_two (z1 / 2048) (z1 % 2048 * 4398046511104 + z2 / 4194304) (192 + s) n6 n7 (Or.inl n5) (by omega)
          have hV : wv 0 0 0 0 e * 2 ^ 192 = ((e * B64 + 0) * B64 + 0) * B64 := by
            rw [show (2 : Nat) ^ 192 = B64 * B64 * B64 from by rw [B64_eq'', ← Nat.pow_add, ← Nat.pow_add]]
            unfold wv; generalize B64 = B; grind
          have hP : PartOk (wv 0 0 0 0 e) (192 + s) x y := part_ok (by omega) n6 n7 (Or.inl n5) (by rw [n8, vdiv1 _ _ s 192 hV]) r2 r3 r4 r5 r6
          rcases Nat.eq_zero_or_pos s with s0 | s0
          · subst s0
            have m1 : z1 = e := by rw [← n1, Nat.pow_zero, Nat.mul_one, Nat.mod_eq_of_lt he, Nat.div_eq_of_lt (by rw [← B64_eq'']; exact B64_pos), Nat.add_zero]
            have m2 : z2 = 0 := by rw [← n3, Nat.pow_zero, Nat.mul_one, Nat.mod_eq_of_lt B64_pos, Nat.div_eq_of_lt (by rw [← B64_eq'']; exact B64_pos), Nat.add_zero]
            rw [m1, m2] at r1
            refine (part_30 e he e0 hs (x, y) r1 w).mono ?_
            rintro E w' ⟨rfl, hb1⟩
            exact ⟨192, x, y, rfl, hP, hb1⟩
          · have n1' : e * 2 ^ s % B64 = z1 := by rw [← n1, Nat.zero_div, Nat.add_zero]
            have z20 : z2 = 0 := by rw [← n3, Nat.zero_mul, Nat.zero_mod, Nat.zero_div]
            rw [z20] at r1
            refine (part_3s e s he e0 hs s0 g1 z1 n1' n2 (x, y) r1 w).mono ?_
            rintro E w' ⟨rfl, hb1⟩
            exact ⟨192 + s, x, y, rfl, hP, hb1⟩
      · obtain ⟨s, hs⟩ : ∃ s, 64 - blen d = s := ⟨_, rfl⟩
        obtain ⟨g1, z1, z2, n1, n2, n3, n4, n5, n6, n7, n8⟩ := part_nums d e 0 s hd he B64_pos d0 hs
        obtain ⟨x, y, H, T, r1, r2, r3, r4, r5, r6⟩ := part_two (z1 / 2048) (z1 % 2048 * 4398046511104 + z2 / 4194304) (128 + s) n6 n7 (Or.inl n5) (by omega)
        have hV : wv 0 0 0 d e * 2 ^ 128 = ((d * B64 + e) * B64 + 0) * B64 := by
          rw [show (2 : Nat) ^ 128 = B64 * B64 from by rw [B64_eq'', ← Nat.pow_add]]
          unfold wv; generalize B64 = B; grind
        have hP : PartOk (wv 0 0 0 d e) (128 + s) x y := part_ok (by omega) n6 n7 (Or.inl n5) (by rw [n8, vdiv1 _ _ s 128 hV]) r2 r3 r4 r5 r6
        rcases Nat.eq_zero_or_pos s with s0 | s0
        · subst s0
          have m1 : z1 = d := by rw [← n1, Nat.pow_zero, Nat.mul_one, Nat.mod_eq_of_lt hd, Nat.div_eq_of_lt (by rw [← B64_eq'']; exact he), Nat.add_zero]
          have m2 : z2 = e := by rw [← n3, Nat.pow_zero, Nat.mul_one, Nat.mod_eq_of_lt he, Nat.div_eq_of_lt (by rw [← B64_eq'']; exact B64_pos), Nat.add_zero]
          rw [m1, m2] at r1
          refine (part_20 d e hd he d0 hs (x, y) r1 w).mono ?_
          rintro E w' ⟨rfl, hb1⟩
          exact ⟨128, x, y, rfl, hP, hb1⟩
        · have n3' : e * 2 ^ s % B64 = z2 := by rw [← n3, Nat.zero_div, Nat.add_zero]
          refine (part_2s d e s hd he d0 hs s0 g1 z1 n1 n2 z2 n3' n4 (x, y) r1 w).mono ?_
          rintro E w' ⟨rfl, hb1⟩
          exact ⟨128 + s, x, y, rfl, hP, hb1⟩
    · obtain ⟨s, hs⟩ : ∃ s, 64 - blen c = s := ⟨_, rfl⟩
      obtain ⟨g1, z1, z2, n1, n2, n3, n4, n5, n6, n7, n8⟩ := part_nums c d e s hc hd he c0 hs
      obtain ⟨x, y, H, T, r1, r2, r3, r4, r5, r6⟩ := part_two (z1 / 2048) (z1 % 2048 * 4398046511104 + z2 / 4194304) (64 + s) n6 n7 (Or.inl n5) (by omega)
      have hV : wv 0 0 c d e * 2 ^ 64 = ((c * B64 + d) * B64 + e) * B64 := by
        rw [show (2 : Nat) ^ 64 = B64 from B64_eq''.symm]
        unfold wv; generalize B64 = B; grind
      have hP : PartOk (wv 0 0 c d e) (64 + s) x y := part_ok (by omega) n6 n7 (Or.inl n5) (by rw [n8, vdiv1 _ _ s 64 hV]) r2 r3 r4 r5 r6
      rcases Nat.eq_zero_or_pos s with s0 | s0
      · subst s0
        have m1 : z1 = c := by rw [← n1, Nat.pow_zero, Nat.mul_one, Nat.mod_eq_of_lt hc, Nat.div_eq_of_lt (by rw [← B64_eq'']; exact hd), Nat.add_zero]
        have m2 : z2 = d := by rw [← n3, Nat.pow_zero, Nat.mul_one, Nat.mod_eq_of_lt hd, Nat.div_eq_of_lt (by rw [← B64_eq'']; exact he), Nat.add_zero]
        rw [m1, m2] at r1
        refine (part_10 c d e hc hd he c0 hs (x, y) r1 w).mono ?_
        rintro E w' ⟨rfl, hb1⟩
        exact ⟨64, x, y, rfl, hP, hb1⟩
      · refine (part_1s c d e  s hc hd he c0 hs s0 g1 z1 n1 n2 z2 n3 n4 (x, y) r1 w).mono ?_
        rintro E w' ⟨rfl, hb1⟩
        exact ⟨64 + s, x, y, rfl, hP, hb1⟩
  · obtain ⟨s, hs⟩ : ∃ s, 64 - blen b = s := ⟨_, rfl⟩
    obtain ⟨g1, z1, z2, n1, n2, n3, n4, n5, n6, n7, n8⟩ := part_nums b c d s hb hc hd b0 hs
    obtain ⟨x, y, H, T, r1, r2, r3, r4, r5, r6⟩ := part_two (z1 / 2048) (z1 % 2048 * 4398046511104 + z2 / 4194304) s n6 n7 (Or.inl n5) (by omega)
    have hV : wv 0 b c d e = ((b * B64 + c) * B64 + d) * B64 + e := by unfold wv; grind
    have hP : PartOk (wv 0 b c d e) s x y := part_ok (by omega) n6 n7 (Or.inl n5) (by rw [n8, hV, vdiv0 _ e s he g1]) r2 r3 r4 r5 r6
    rcases Nat.eq_zero_or_pos s with s0 | s0
    · subst s0
      have m1 : z1 = b := by rw [← n1, Nat.pow_zero, Nat.mul_one, Nat.mod_eq_of_lt hb, Nat.div_eq_of_lt (by rw [← B64_eq'']; exact hc), Nat.add_zero]
      have m2 : z2 = c := by rw [← n3, Nat.pow_zero, Nat.mul_one, Nat.mod_eq_of_lt hc, Nat.div_eq_of_lt (by rw [← B64_eq'']; exact hd), Nat.add_zero]
      rw [m1, m2] at r1
      refine (part_00 b c d e hb hc hd he b0 hs (x, y) r1 w).mono ?_
      rintro E w' ⟨rfl, hb1⟩
      exact ⟨0, x, y, rfl, hP, hb1⟩
    · refine (part_0s b c d e s hb hc hd he b0 hs s0 g1 z1 n1 n2 z2 n3 n4 (x, y) r1 w).mono ?_
      rintro E w' ⟨rfl, hb1⟩
      exact ⟨s, x, y, rfl, hP, hb1⟩

end Go.Proofs.YtgihapdlliidgaaDoor
