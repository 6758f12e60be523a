/- Plain: what Cody computes: the whole number next to x 2/pi, and x less so many parts of pi/2, but for 2^-104. -/
import Derived.Test.YtgihapdlliidgaaDoorTw
namespace Go.Proofs.YtgihapdlliidgaaDoor
set_option linter.unusedVariables false
set_option exponentiation.threshold 3000
open Ieee Go

theorem cut_down (neg : Bool) (n d : Nat) : Toward.down.cut neg n d = n / 2 ^ d + (neg && n % 2 ^ d != 0).toNat := by
  unfold Toward.cut
  simp only [Nat.one_shiftLeft]
  rcases Nat.le_total d (n.log2 + 2) with h | h
  · rw [Nat.min_eq_left h]
  · rw [Nat.min_eq_right h]
    have h1 : n < 2 ^ (n.log2 + 1) := Nat.lt_log2_self
    have h2 : 2 ^ (n.log2 + 2) = 2 * 2 ^ (n.log2 + 1) := by rw [Nat.pow_succ 2 (n.log2 + 1), Nat.mul_comm]
    have h3 : 2 ^ (n.log2 + 2) ≤ 2 ^ d := Nat.pow_le_pow_right (by decide) h
    rw [Nat.div_eq_of_lt (by omega), Nat.mod_eq_of_lt (by omega), Nat.div_eq_of_lt (by omega), Nat.mod_eq_of_lt (by omega)]

theorem cut_zero (neg : Bool) (n d : Nat) : Toward.zero.cut neg n d = n / 2 ^ d := by
  unfold Toward.cut
  simp only [Nat.one_shiftLeft]
  rcases Nat.le_total d (n.log2 + 2) with h | h
  · rw [Nat.min_eq_left h]; rfl
  · rw [Nat.min_eq_right h]
    have h1 : n < 2 ^ (n.log2 + 1) := Nat.lt_log2_self
    have h2 : 2 ^ (n.log2 + 2) = 2 * 2 ^ (n.log2 + 1) := by rw [Nat.pow_succ 2 (n.log2 + 1), Nat.mul_comm]
    have h3 : 2 ^ (n.log2 + 2) ≤ 2 ^ d := Nat.pow_le_pow_right (by decide) h
    rw [Nat.div_eq_of_lt (by omega), Nat.div_eq_of_lt (by omega)]; rfl

/-- the word of a whole number with a sign -/
theorem whole_word (s : Bool) (M : Nat) (h : M ≤ 9007199254740992) : At 1074 (double.write (.number s M 0)) (if s = true then -(M : Int) else M) := by
  obtain ⟨r, h1, h2⟩ := write_spec s M 0
  obtain ⟨a, ha⟩ := rep 1074 M h
  have t1 : ((0 : Int) + 1074).toNat = 1074 := rfl
  have t2 : (-1074 - (0 : Int)).toNat = 0 := rfl
  have hr : r = a := near_exact h2 (by rw [t1, t2, ha, Nat.pow_zero, Nat.mul_one])
  have hb : r ≤ 9218868437227405311 := by
    rw [← V_le_iff, hr, ha]
    refine Nat.le_trans ?_ MX_le
    have := mx_of (n := (M : Int)) (K := 1074) (c := 0) (by simp; omega) (by decide)
    rw [Int.natAbs_mul, Int.natAbs_pow] at this
    exact this
  rw [h1, Nat.min_eq_left (by omega)]
  refine ⟨wd_fin (by omega), ?_⟩
  rw [wd_fz (by omega), hr, ha]
  have e : ((M * 2 ^ 1074 : Nat) : Int) = (M : Int) * 2 ^ 1074 := by simp
  rw [e]
  split
  · rw [Int.neg_mul]
  · rfl

/-- the floor -/
theorem floor_spec {s : Nat} (hs : Fin64 s) (hb : (fz s).natAbs ≤ 4503599627370496 * 2 ^ 1074) :
    ∃ q : Int, At 1074 (ffloor s) q ∧ q * 2 ^ 1074 ≤ fz s ∧ fz s < (q + 1) * 2 ^ 1074 ∧ q.natAbs ≤ 9007199254740992 := by
  unfold ffloor
  rw [read_fin hs]
  have hz := fz_fm s
  have hfe := fe_ge (rg s)
  have hfm : (fz s).natAbs = fm (rg s) * 2 ^ (fe (rg s) + 1074).toNat := by rw [fz_abs, V_fm]
  show ∃ q : Int, At 1074 (double.write (.number (sg s) (Toward.down.cut (sg s) (fm (rg s) <<< (fe (rg s)).toNat) (-fe (rg s)).toNat) 0)) q ∧ _
  rw [cut_down, Nat.shiftLeft_eq]
  generalize fm (rg s) = m at *
  generalize fe (rg s) = e at *
  generalize fz s = N at *
  generalize sg s = b at *
  have hP : (0 : Int) < 2 ^ 1074 := Int.pow_pos (by decide)
  -- the number over 2^d
  obtain ⟨u, hu⟩ : ∃ u, e.toNat = u := ⟨_, rfl⟩
  obtain ⟨d, hd⟩ : ∃ d, (-e).toNat = d := ⟨_, rfl⟩
  rw [hu, hd]
  have hx : (e + 1074).toNat + d = u + 1074 := by omega
  have hN : ((m * 2 ^ u : Nat) : Int) * 2 ^ 1074 = (m : Int) * 2 ^ (e + 1074).toNat * 2 ^ d := by
    rw [Int.mul_assoc (m : Int), ← Int.pow_add, hx, Int.pow_add]; simp [Int.mul_assoc]
  have h1 := Nat.div_add_mod (m * 2 ^ u) (2 ^ d)
  have h2 := Nat.mod_lt (m * 2 ^ u) (Nat.two_pow_pos d)
  have hD : (0 : Int) < 2 ^ d := Int.pow_pos (by decide)
  have hDn : ((2 ^ d : Nat) : Int) = 2 ^ d := by simp
  have hcomm : ∀ P : Nat, 4503599627370496 * P * 2 ^ d = 2 ^ d * 4503599627370496 * P := fun P => by grind
  have hdiv : m * 2 ^ u / 2 ^ d ≤ 4503599627370496 := by
    apply Nat.div_le_of_le_mul
    obtain ⟨Pn, hPn⟩ : ∃ P : Nat, 2 ^ 1074 = P := ⟨_, rfl⟩
    rw [hPn] at hb
    have hPp : 0 < Pn := by rw [← hPn]; exact Nat.two_pow_pos _
    have : m * 2 ^ u * Pn ≤ 2 ^ d * 4503599627370496 * Pn := by
      have e2 : m * 2 ^ u * Pn = m * 2 ^ (e + 1074).toNat * 2 ^ d := by
        rw [← hPn, Nat.mul_assoc, ← Nat.pow_add, Nat.mul_assoc, ← Nat.pow_add, hx]
      rw [e2, ← hfm]
      calc N.natAbs * 2 ^ d ≤ 4503599627370496 * Pn * 2 ^ d := Nat.mul_le_mul_right _ hb
        _ = _ := hcomm _
    exact Nat.le_of_mul_le_mul_right this hPp
  generalize m * 2 ^ u / 2 ^ d = Q at *
  generalize m * 2 ^ u % 2 ^ d = R at *
  -- everything times 2^d
  have key : ∀ a : Int, a * 2 ^ 1074 * 2 ^ d = a * 2 ^ d * 2 ^ 1074 := fun a => by rw [Int.mul_assoc, Int.mul_comm (2 ^ 1074), ← Int.mul_assoc]
  have hsum : ((m * 2 ^ u : Nat) : Int) = (Q : Int) * 2 ^ d + R := by rw [← h1]; simp [Int.mul_comm]
  have lt_of : ∀ {x y : Int}, x * 2 ^ d < y * 2 ^ d → x < y := fun h => Int.lt_of_mul_lt_mul_right h (by omega)
  have le_of : ∀ {x y : Int}, x * 2 ^ d ≤ y * 2 ^ d → x ≤ y := fun h => Int.le_of_mul_le_mul_right h hD
  have hR : (R : Int) < 2 ^ d := by rw [← hDn]; omega
  generalize (2 : Int) ^ 1074 = P at *
  generalize ((m * 2 ^ u : Nat) : Int) = Z at *
  have hNN : N * 2 ^ d = (if b = true then -Z else Z) * P := by
    rw [hz]
    cases b
    · rw [if_neg (by decide), if_neg (by decide), ← hN]
    · rw [if_pos rfl, if_pos rfl, Int.neg_mul, ← hN, Int.neg_mul]
  obtain ⟨T, hT, hT1, hT2, hT3⟩ : ∃ T : Nat, (Q + (b && R != 0).toNat) = T ∧ T ≤ 4503599627370497 ∧ (b = false → T = Q) ∧ (b = true → (R = 0 ∧ T = Q ∨ R ≠ 0 ∧ T = Q + 1)) := by
    refine ⟨_, rfl, ?_, ?_, ?_⟩
    · have := Bool.toNat_le (b && R != 0); omega
    · intro h; subst h; rfl
    · intro h; subst h
      by_cases c : R = 0
      · left; subst c; exact ⟨rfl, rfl⟩
      · right; refine ⟨c, ?_⟩
        have : (true && R != 0) = true := by simp [c]
        rw [this]; rfl
  rw [hT]
  refine ⟨_, whole_word b T (by omega), ?_, ?_, by split <;> omega⟩
  · apply le_of
    rw [hNN, key]
    apply Int.mul_le_mul_of_nonneg_right _ (by omega)
    cases b
    · rw [if_neg (by decide), if_neg (by decide), hT2 rfl, hsum]; omega
    · rw [if_pos rfl, if_pos rfl, hsum, Int.neg_mul]
      rcases hT3 rfl with ⟨c, e⟩ | ⟨c, e⟩
      · rw [e]; omega
      · rw [e]; rw [show (((Q + 1 : Nat) : Int)) = (Q : Int) + 1 from rfl, Int.add_mul]; omega
  · apply lt_of
    rw [hNN, key]
    apply Int.mul_lt_mul_of_pos_right _ hP
    cases b
    · rw [if_neg (by decide), if_neg (by decide), hT2 rfl, hsum, Int.add_mul]; omega
    · rw [if_pos rfl, if_pos rfl, hsum, Int.add_mul, Int.neg_mul]
      rcases hT3 rfl with ⟨c, e⟩ | ⟨c, e⟩
      · rw [e]; omega
      · rw [e]; rw [show (((Q + 1 : Nat) : Int)) = (Q : Int) + 1 from rfl, Int.add_mul]; omega

/-- a whole word as an int -/
theorem toInt_spec {k : Nat} {q : Int} (h : At 1074 k q) (hq : q.natAbs ≤ 9007199254740992) : floatToIntVal .f64 k .i64 = some q := by
  have e : (FloatKind.f64.decode k) = double.read k := rfl
  unfold floatToIntVal
  rw [e, read_fin h.fin]
  have hfe := fe_ge (rg k)
  have hfm : (fz k).natAbs = fm (rg k) * 2 ^ (fe (rg k) + 1074).toNat := by rw [fz_abs, V_fm]
  have hv := h.val
  have hsg : sg k = true → q ≤ 0 := by
    intro hs
    have := fz_neg_of hs
    rw [hv] at this
    have hP : (0 : Int) < 2 ^ 1074 := Int.pow_pos (by decide)
    rcases Int.lt_or_le 0 q with c | c
    · have := Int.mul_pos c hP; omega
    · exact c
  have hsg2 : sg k = false → 0 ≤ q := by
    intro hs
    have := fz_pos_of hs
    rw [hv] at this
    have hP : (0 : Int) < 2 ^ 1074 := Int.pow_pos (by decide)
    rcases Int.lt_or_le q 0 with c | c
    · have := Int.mul_neg_of_neg_of_pos c hP; omega
    · exact c
  rw [hv, Int.natAbs_mul, Int.natAbs_pow] at hfm
  show (match (some (signed (sg k) (Toward.zero.cut (sg k) (fm (rg k) <<< (fe (rg k)).toNat) (-fe (rg k)).toNat) 0)) with | some n => if IntKind.i64.min ≤ n ∧ n ≤ IntKind.i64.max then some n else none | none => none) = some q
  rw [cut_zero, Nat.shiftLeft_eq, signed_eq]
  generalize fm (rg k) = m at *
  generalize fe (rg k) = e at *
  generalize sg k = b at *
  obtain ⟨u, hu⟩ : ∃ u, e.toNat = u := ⟨_, rfl⟩
  obtain ⟨d, hd⟩ : ∃ d, (-e).toNat = d := ⟨_, rfl⟩
  rw [hu, hd]
  have hx : (e + 1074).toNat + d = u + 1074 := by omega
  have n2 : (2 : Int).natAbs = 2 := rfl
  rw [n2] at hfm
  obtain ⟨Pn, hPn⟩ : ∃ P : Nat, 2 ^ 1074 = P := ⟨_, rfl⟩
  have hPp : 0 < Pn := by rw [← hPn]; exact Nat.two_pow_pos _
  have hdiv : m * 2 ^ u = q.natAbs * 2 ^ d := by
    have e1 : m * 2 ^ u * Pn = q.natAbs * 2 ^ d * Pn := by
      have e2 : m * 2 ^ u * 2 ^ 1074 = m * 2 ^ (e + 1074).toNat * 2 ^ d := by
        rw [Nat.mul_assoc, ← Nat.pow_add, ← hx, Nat.pow_add, ← Nat.mul_assoc]
      rw [hPn] at e2 hfm
      rw [e2, ← hfm]
      exact Nat.mul_right_comm _ _ _
    exact Nat.eq_of_mul_eq_mul_right hPp e1
  rw [hdiv, Nat.mul_div_cancel _ (Nat.two_pow_pos d), Int.pow_zero, Int.mul_one]
  have eq : (if b = true then -(q.natAbs : Int) else (q.natAbs : Int)) = q := by
    cases b
    · have := hsg2 rfl; rw [if_neg (by decide)]; omega
    · have := hsg rfl; rw [if_pos rfl]; omega
  rw [eq]
  have m1 : IntKind.i64.min = -9223372036854775808 := by decide
  have m2 : IntKind.i64.max = 9223372036854775807 := by decide
  simp only [m1, m2]
  rw [if_pos (by omega)]

theorem xor63 {x : Nat} (h : x < 18446744073709551616) : x ^^^ 9223372036854775808 = if 9223372036854775808 ≤ x then x - 9223372036854775808 else x + 9223372036854775808 := by
  have a : (x ^^^ 2 ^ 63) % 2 ^ 63 = x % 2 ^ 63 := by
    rw [Nat.xor_mod_two_pow]; simp
  have b : (x ^^^ 2 ^ 63) / 2 ^ 63 = (x / 2 ^ 63) ^^^ 1 := by
    rw [Nat.xor_div_two_pow]
  rw [show (2 : Nat) ^ 63 = 9223372036854775808 from rfl] at a b
  have hc : x / 9223372036854775808 = 0 ∨ x / 9223372036854775808 = 1 := by omega
  rcases hc with hc | hc
  · rw [hc] at b
    rw [show (0 : Nat) ^^^ 1 = 1 from rfl] at b
    split <;> omega
  · rw [hc] at b
    rw [show (1 : Nat) ^^^ 1 = 0 from rfl] at b
    split <;> omega

theorem fneg_fin {x : Nat} (h : Fin64 x) : Fin64 (fneg x) ∧ fz (fneg x) = -fz x := by
  obtain ⟨h1, h2⟩ := h
  have e : fneg x = if 9223372036854775808 ≤ x then x - 9223372036854775808 else x + 9223372036854775808 := xor63 h1
  unfold Fin64 fz sg rg at *
  rw [e]
  by_cases c : 9223372036854775808 ≤ x
  · rw [if_pos c]
    have e1 : (x - 9223372036854775808) % 9223372036854775808 = x % 9223372036854775808 := by omega
    rw [e1, decide_eq_false (by omega), decide_eq_true c]
    exact ⟨⟨by omega, h2⟩, by simp⟩
  · rw [if_neg c]
    have e1 : (x + 9223372036854775808) % 9223372036854775808 = x % 9223372036854775808 := by omega
    rw [e1, decide_eq_true (by omega), decide_eq_false c]
    exact ⟨⟨by omega, h2⟩, by simp⟩
theorem At.neg {K x : Nat} {n : Int} (h : At K x n) : At K (fneg x) (-n) := by
  obtain ⟨a, b⟩ := fneg_fin h.fin
  exact ⟨a, by rw [b, h.val, Int.neg_mul]⟩

theorem at_const {x K M : Nat} (h1 : x < 9218868437227405312) (h2 : V x = M * 2 ^ K) : At K x (M : Int) := by
  have e : rg x = x := Nat.mod_eq_of_lt (by omega)
  refine ⟨⟨by omega, by rw [e]; exact h1⟩, ?_⟩
  rw [fz_pos_of (by unfold sg; rw [decide_eq_false (by omega)]), e, h2]
  simp

end Go.Proofs.YtgihapdlliidgaaDoor
