/- Plain: Cody's whole number and what is left, over whole numbers. -/
import Derived.Test.YtgihapdlliidgaaDoorCo
namespace Go.Proofs.YtgihapdlliidgaaDoor
set_option linter.unusedVariables false
set_option exponentiation.threshold 3000
open Ieee Go

theorem c_inv : At 1021 4603909380684499075 (5734161139222659 : Nat) := at_const (by decide) (by decide +kernel)
theorem c_half : At 942 4602678819172646912 (2722258935367507707706996859454145691648 : Nat) := at_const (by decide) (by decide +kernel)
theorem c_p1 : At 1044 P1 (1686629713 : Nat) := at_const (by decide) (by decide +kernel)
theorem c_p2 : At 1009 P2 (2242054355 : Nat) := at_const (by decide) (by decide +kernel)
theorem c_p3 : At 953 P3 (5376105825661043 : Nat) := at_const (by decide) (by decide +kernel)
theorem c_spl : At 1074 4728779608772575232 (134217729 : Nat) := at_const (by decide) (by decide +kernel)
theorem c_p3h : At 980 4297306550743072768 (40055110 : Nat) := at_const (by decide) (by decide +kernel)
theorem c_p3l : At 953 13398148387417620480 (-33329037) := by
  have h : At 953 4174776350562844672 (33329037 : Nat) := at_const (by decide) (by decide +kernel)
  have := h.neg
  exact this
theorem split_p3 : splitF P3 = some (4297306550743072768, 13398148387417620480) := by decide +kernel

/-- Cody's whole number -/
theorem codyK_spec {x : Nat} {n : Int} (h : At 995 x n) (l : -633825300114114700748351602688 ≤ n) (u : n ≤ 633825300114114700748351602688) :
    ∃ p s q, fmul x 4603909380684499075 = some p ∧ fadd p 4602678819172646912 = some s ∧ Fin64 s ∧ At 1074 (ffloor s) q ∧
      -2722258936635158307935226260950848897024 ≤ n * 5734161139222659 - q * 5444517870735015415413993718908291383296 ∧ n * 5734161139222659 - q * 5444517870735015415413993718908291383296 ≤ 2722258936635158307935226260950848897024 := by
  have h1 := c_inv
  obtain ⟨p, P, e1, aP, b1, b2⟩ := h.mul2 h1 99 633825300114114700748351602688 (by decide) (Q := 942) (by decide) (by omega) (by omega) (by decide)
  obtain ⟨s, S, e2, aS, b3, b4⟩ := aP.add2 c_half 100 1267650600228229401496703205376 (by decide) (by omega) (by omega) (by decide)
  have hS : (S : Int).natAbs ≤ 4503599627370496 * 2 ^ 132 := by omega
  obtain ⟨q, aq, q1, q2, -⟩ := floor_spec aS.fin (by
    rw [aS.val, Int.natAbs_mul, Int.natAbs_pow]
    calc S.natAbs * 2 ^ 942 ≤ 4503599627370496 * 2 ^ 132 * 2 ^ 942 := Nat.mul_le_mul_right _ hS
      _ = 4503599627370496 * 2 ^ 1074 := by rw [Nat.mul_assoc, ← Nat.pow_add])
  rw [aS.val] at q1 q2
  have e : (2 : Int) ^ 1074 = 2 ^ 132 * 2 ^ 942 := by rw [← Int.pow_add]
  have hP : (0 : Int) < 2 ^ 942 := Int.pow_pos (by decide)
  rw [e, ← Int.mul_assoc] at q1 q2
  have r1 := Int.le_of_mul_le_mul_right q1 hP
  have r2 := Int.lt_of_mul_lt_mul_right q2 (by omega)
  clear q1 q2 hS
  exact ⟨p, s, q, e1, e2, aS.fin, aq, by omega, by omega⟩

theorem mx2000 {n : Int} {K c : Nat} (h : n.natAbs ≤ 2 ^ c) (hK : K + c ≤ 2000) : (n * 2 ^ K).natAbs ≤ BB := by
  rw [Int.natAbs_mul, Int.natAbs_pow, BB_eq]
  calc n.natAbs * 2 ^ K ≤ 2 ^ c * 2 ^ K := Nat.mul_le_mul_right _ h
    _ = 2 ^ (c + K) := by rw [Nat.pow_add]
    _ ≤ 2 ^ 2000 := Nat.pow_le_pow_right (by decide) (by omega)

/-- the first is the greater -/
def Dom (n m : Int) : Prop := (m ≤ n ∧ -m ≤ n) ∨ (m ≤ -n ∧ -m ≤ -n)
theorem Dom.abs {n m : Int} (h : Dom n m) : m.natAbs ≤ n.natAbs := by unfold Dom at h; omega

/-- TwoSum over a common place -/
theorem At.two {K a b : Nat} {n m : Int} (ha : At K a n) (hb : At K b m) (h : Dom n m ∨ (-9007199254740992 ≤ n + m ∧ n + m ≤ 9007199254740992)) (c : Nat) (B : Int) (hB : B = 2 ^ c)
    (ln : -(4503599627370496 * B) ≤ n) (un : n ≤ 4503599627370496 * B) (lm : -(4503599627370496 * B) ≤ m) (um : m ≤ 4503599627370496 * B) (hC : K + c ≤ 1900) :
    ∃ s e r t, twoSum a b = some (s, e) ∧ At K s r ∧ At K e t ∧ t = n + m - r ∧ -B ≤ 2 * t ∧ 2 * t ≤ B ∧ (-9007199254740992 ≤ n + m → n + m ≤ 9007199254740992 → t = 0) := by
  have hb2 : ((2 ^ c : Nat) : Int) = B := by rw [hB]; simp
  have hp : 2 ^ (c + 52) = 4503599627370496 * 2 ^ c := by rw [Nat.pow_add, Nat.mul_comm]
  have hn : n.natAbs ≤ 2 ^ (c + 52) := by rw [hp]; omega
  have hm : m.natAbs ≤ 2 ^ (c + 52) := by rw [hp]; omega
  have hc : (n + m).natAbs ≤ 9007199254740992 * 2 ^ c := by omega
  have e1 : fz a + fz b = (n + m) * 2 ^ K := by rw [ha.val, hb.val, Int.add_mul]
  have ba : (fz a).natAbs ≤ BB := by rw [ha.val]; exact mx2000 hn (by omega)
  have bb : (fz b).natAbs ≤ BB := by rw [hb.val]; exact mx2000 hm (by omega)
  by_cases g : (n + m).natAbs ≤ 9007199254740992
  · obtain ⟨s, e, h1, h2, h3, h4, h5⟩ := twoSum_exact ha.fin hb.fin ba bb (fun s hs => by
      rw [hs.exact (n + m) K (by rw [e1, Int.pow_zero, Int.mul_one]) g, e1])
    exact ⟨s, e, n + m, 0, h1, ⟨h2, by rw [h3, e1]⟩, ⟨h4, by rw [h5, Int.zero_mul]⟩, by omega, by omega, by omega, fun _ _ => rfl⟩
  · have g2 : m.natAbs ≤ n.natAbs := by
      rcases h with h | h
      · exact h.abs
      · omega
    obtain ⟨s, e, h1, h2, h3, h4, h5⟩ := twoSum_spec ha.fin hb.fin (by
      rw [ha.val, hb.val, Int.natAbs_mul, Int.natAbs_mul]; exact Nat.mul_le_mul_right _ g2) ba
    obtain ⟨r, r1, r2, -⟩ := h2.at (n + m) K c (by rw [e1, Int.pow_zero, Int.mul_one]) hc
    exact ⟨s, e, r, n + m - r, h1, ⟨h2.fin, r1⟩, ⟨h3, by rw [h4, e1, r1, Int.sub_mul]⟩, rfl, by omega, by omega, fun x y => by omega⟩

/-- FastTwoSum over a common place: exact, and in form -/
theorem At.fast {K a b : Nat} {n m : Int} (ha : At K a n) (hb : At K b m) (h : Dom n m) (c : Nat) (B : Int) (hB : B = 2 ^ c)
    (ln : -(4503599627370496 * B) ≤ n) (un : n ≤ 4503599627370496 * B) (hC : K + c ≤ 1900) :
    ∃ s e r t, fastTwoSum a b = some (s, e) ∧ At K s r ∧ At K e t ∧ t = n + m - r ∧ -B ≤ 2 * t ∧ 2 * t ≤ B ∧ ddForm (s, e) = some true := by
  have hb2 : ((2 ^ c : Nat) : Int) = B := by rw [hB]; simp
  have hp : 2 ^ (c + 52) = 4503599627370496 * 2 ^ c := by rw [Nat.pow_add, Nat.mul_comm]
  have hn : n.natAbs ≤ 2 ^ (c + 52) := by rw [hp]; omega
  have h := h.abs
  have hc : (n + m).natAbs ≤ 9007199254740992 * 2 ^ c := by omega
  have e1 : fz a + fz b = (n + m) * 2 ^ K := by rw [ha.val, hb.val, Int.add_mul]
  have ba : (fz a).natAbs ≤ BB := by rw [ha.val]; exact mx2000 hn (by omega)
  obtain ⟨s, e, h1, h2, h3, h4, h5⟩ := fastTwoSum_spec ha.fin hb.fin (by
      rw [ha.val, hb.val, Int.natAbs_mul, Int.natAbs_mul]; exact Nat.mul_le_mul_right _ h) ba
  obtain ⟨r, r1, r2, -⟩ := h2.at (n + m) K c (by rw [e1, Int.pow_zero, Int.mul_one]) hc
  refine ⟨s, e, r, n + m - r, h1, ⟨h2.fin, r1⟩, ⟨h3, by rw [h4, e1, r1, Int.sub_mul]⟩, rfl, by omega, by omega, ?_⟩
  refine ddForm_of h2 h3 (by rw [h4]; omega) ?_
  rw [e1]
  exact MX_mul (n := n) (K := K) (by rw [ha.val] at ba; exact ba) (Nat.le_refl _) _ (by omega)

/-- TwoSum and FastTwoSum, roughly -/
theorem At.two_rough {K a b : Nat} {n m : Int} (ha : At K a n) (hb : At K b m) (c : Nat) (B : Int) (hB : B = 2 ^ c) (ln : -(1125899906842624 * B) ≤ n) (un : n ≤ 1125899906842624 * B) (lm : -(1125899906842624 * B) ≤ m) (um : m ≤ 1125899906842624 * B) (hc : K + c ≤ 1900) :
    ∃ s e r t, twoSum a b = some (s, e) ∧ At K s r ∧ At K e t ∧ -(2251799813685249 * B) ≤ r ∧ r ≤ 2251799813685249 * B ∧ -(8 * B) ≤ t ∧ t ≤ 8 * B := by
  obtain ⟨s, r, h1, g1, b1, c1⟩ := ha.add2 hb c B hB (by omega) (by omega) (by omega)
  obtain ⟨x, X, h2, g2, b2, c2⟩ := g1.sub2 ha c B hB (by omega) (by omega) (by omega)
  obtain ⟨y, Y, h3, g3, b3, c3⟩ := g1.sub2 g2 c B hB (by omega) (by omega) (by omega)
  obtain ⟨z, Z, h4, g4, b4, c4⟩ := ha.sub2 g3 c B hB (by omega) (by omega) (by omega)
  obtain ⟨u, U, h5, g5, b5, c5⟩ := hb.sub2 g2 c B hB (by omega) (by omega) (by omega)
  obtain ⟨e, t, h6, g6, b6, c6⟩ := g4.add2 g5 c B hB (by omega) (by omega) (by omega)
  refine ⟨s, e, r, t, ?_, g1, g6, by omega, by omega, by omega, by omega⟩
  unfold twoSum
  rw [h1, Option.bind_some, h2, Option.bind_some, h3, Option.bind_some, h4, Option.bind_some, h5, Option.bind_some, h6, Option.bind_some]
theorem At.fast_rough {K a b : Nat} {n m : Int} (ha : At K a n) (hb : At K b m) (c : Nat) (B : Int) (hB : B = 2 ^ c) (ln : -(1125899906842624 * B) ≤ n) (un : n ≤ 1125899906842624 * B) (lm : -(1125899906842624 * B) ≤ m) (um : m ≤ 1125899906842624 * B) (hc : K + c ≤ 1900) :
    ∃ s e r t, fastTwoSum a b = some (s, e) ∧ At K s r ∧ At K e t ∧ -(2251799813685249 * B) ≤ r ∧ r ≤ 2251799813685249 * B ∧ -(8 * B) ≤ t ∧ t ≤ 8 * B := by
  obtain ⟨s, r, h1, g1, b1, c1⟩ := ha.add2 hb c B hB (by omega) (by omega) (by omega)
  obtain ⟨x, X, h2, g2, b2, c2⟩ := g1.sub2 ha c B hB (by omega) (by omega) (by omega)
  obtain ⟨e, t, h6, g6, b6, c6⟩ := hb.sub2 g2 c B hB (by omega) (by omega) (by omega)
  refine ⟨s, e, r, t, ?_, g1, g6, by omega, by omega, by omega, by omega⟩
  unfold fastTwoSum
  rw [h1, Option.bind_some, h2, Option.bind_some, h6, Option.bind_some]

/-- the first two parts -/
theorem left_mid {x k : Nat} {N q W : Int} (hx : At 1021 x N) (hk : At 1074 k q) (lN : -9444732965739290427392 ≤ N) (uN : N ≤ 9444732965739290427392) (lq : -1048576 ≤ q) (uq : q ≤ 1048576)
    (lx : -2722258936635158307935226260950848897024 ≤ N * 384813040046178488549376 - q * 5444517870735015415413993718908291383296) (ux : N * 384813040046178488549376 - q * 5444517870735015415413993718908291383296 ≤ 2722258936635158307935226260950848897024) (hW : W = N * 4096 - q * 57952155662374928384 - q * 2242054355) :
    ∃ m1 s e m2 t1 t2 r t, fmul k P1 = some m1 ∧ twoSum x (fneg m1) = some (s, e) ∧ fmul k P2 = some m2 ∧ twoSum s (fneg m2) = some (t1, t2) ∧
      At 1009 t1 r ∧ At 1009 t2 t ∧ t = W - r ∧ -4096 ≤ t ∧ t ≤ 4096 ∧ -36893488147419103232 ≤ W ∧ W ≤ 36893488147419103232 := by
  obtain ⟨m1, h1, a1⟩ := hk.muly c_p1 (q * 1686629713) (by rfl) (Q := 1044) (by decide) (by omega) (by omega) (by decide)
  have a1' := (a1.too 1021 (by decide) 8388608 (q * 14148475503509504) (by decide) (by omega)).neg
  have b0 : -9007199254740992 ≤ N + -(q * 14148475503509504) ∧ N + -(q * 14148475503509504) ≤ 9007199254740992 := by omega
  obtain ⟨s, e, r, t, h2, a2, -, b1, -, -, b2⟩ := hx.two a1' (Or.inr b0) 22 4194304 (by decide) (by omega) (by omega) (by omega) (by omega) (by decide)
  have er := b2 b0.1 b0.2
  clear b2
  obtain ⟨m2, h3, a3⟩ := hk.muly c_p2 (q * 2242054355) (by rfl) (Q := 1009) (by decide) (by omega) (by omega) (by decide)
  have a2' := a2.too 1009 (by decide) 4096 (N * 4096 - q * 57952155662374928384) (by decide) (by omega)
  have hd : Dom (N * 4096 - q * 57952155662374928384) (-(q * 2242054355)) ∨ (-9007199254740992 ≤ N * 4096 - q * 57952155662374928384 + -(q * 2242054355) ∧ N * 4096 - q * 57952155662374928384 + -(q * 2242054355) ≤ 9007199254740992) := by
    unfold Dom
    clear b0 b1 er lx ux hW
    omega
  obtain ⟨t1, t2, u, v, h4, a4, a5, b4, b5, b6, -⟩ := a2'.two a3.neg hd 13 8192 (by decide) (by omega) (by omega) (by omega) (by omega) (by decide)
  clear hd
  exact ⟨m1, s, e, m2, t1, t2, u, v, h1, h2, h3, h4, a4, a5, by omega, by omega, by omega, by omega, by omega⟩

/-- the third part's product, exactly -/
theorem prod3 {k : Nat} {q : Int} (hk : At 1074 k q) (lq : -1048576 ≤ q) (uq : q ≤ 1048576) :
    ∃ p e P G, twoProd k P3 = some (p, e) ∧ At 953 p P ∧ At 953 e G ∧ G = q * 5376105825661043 - P ∧ -524288 ≤ G ∧ G ≤ 524288 := by
  obtain ⟨p, P, h1, a1, b1, b2⟩ := hk.mul2 c_p3 20 1048576 (by decide) (Q := 953) (by decide) (by omega) (by omega) (by decide)
  obtain ⟨c, h2, a2⟩ := c_spl.muly hk (q * 134217729) (by omega) (Q := 1074) (by decide) (by omega) (by omega) (by decide)
  obtain ⟨d, h3, a3⟩ := a2.suby hk (q * 134217728) (by omega) (by omega) (by omega) (by decide)
  obtain ⟨g, h4, a4⟩ := a2.suby a3 q (by omega) (by omega) (by omega) (by decide)
  obtain ⟨l, h5, a5⟩ := hk.suby a4 0 (by omega) (by omega) (by omega) (by decide)
  obtain ⟨x1, h6, a6'⟩ := a4.muly c_p3h (q * 40055110) (by omega) (Q := 980) (by decide) (by omega) (by omega) (by decide)
  have a6 := a6'.too 953 (by decide) 134217728 (q * 5376105858990080) (by decide) (by omega)
  obtain ⟨e1, h7, a7⟩ := a6.suby a1 (q * 5376105858990080 - P) (by omega) (by omega) (by omega) (by decide)
  obtain ⟨x2, h8, a8⟩ := a4.muly c_p3l (q * (-33329037)) (by omega) (Q := 953) (by decide) (by omega) (by omega) (by decide)
  obtain ⟨e2, h9, a9⟩ := a7.addy a8 (q * 5376105825661043 - P) (by omega) (by omega) (by omega) (by decide)
  obtain ⟨x3, h10, a10'⟩ := a5.muly c_p3h 0 (by omega) (Q := 980) (by decide) (by omega) (by omega) (by decide)
  have a10 := a10'.too 953 (by decide) 134217728 0 (by decide) (by omega)
  obtain ⟨e3, h11, a11⟩ := a9.addy a10 (q * 5376105825661043 - P) (by omega) (by omega) (by omega) (by decide)
  obtain ⟨x4, h12, a12⟩ := a5.muly c_p3l 0 (by omega) (Q := 953) (by decide) (by omega) (by omega) (by decide)
  obtain ⟨e4, h13, a13⟩ := a11.addy a12 (q * 5376105825661043 - P) (by omega) (by omega) (by omega) (by decide)
  refine ⟨p, e4, P, _, ?_, a1, a13, rfl, by omega, by omega⟩
  unfold twoProd
  rw [h1, Option.bind_some]
  have hs : splitF k = some (g, l) := by unfold splitF; rw [h2, Option.bind_some, h3, Option.bind_some, h4, Option.bind_some, h5, Option.bind_some]
  rw [hs, Option.bind_some, split_p3, Option.bind_some]
  simp only
  rw [h6, Option.bind_some, h7, Option.bind_some, h8, Option.bind_some, h9, Option.bind_some, h10, Option.bind_some, h11, Option.bind_some, h12, Option.bind_some, h13, Option.bind_some]

theorem ddSub_of {t1 t2 p e s x y z c v1 v2 d : Nat} {r : Nat × Nat} (f1 : twoSum t1 (fneg p) = some (s, x)) (f2 : twoSum t2 (fneg e) = some (y, z)) (f3 : fadd x y = some c)
    (f4 : fastTwoSum s c = some (v1, v2)) (f5 : fadd z v2 = some d) (f6 : fastTwoSum v1 d = some r) : ddSub (t1, t2) (p, e) = some r := by
  unfold ddSub ddAdd ddNeg
  simp only
  rw [f1, Option.bind_some, f2, Option.bind_some]
  simp only
  rw [f3, Option.bind_some, f4, Option.bind_some]
  simp only
  rw [f5, Option.bind_some, f6]

/-- the last subtraction where the first part isn't tiny -/
theorem left_good {t1 t2 p e : Nat} {r t W P G : Int} (h1 : At 1009 t1 r) (h2 : At 1009 t2 t) (h3 : At 953 p P) (h4 : At 953 e G) (ht : t = W - r)
    (b1 : -4096 ≤ t) (b2 : t ≤ 4096) (b3 : -36893488147419103232 ≤ W) (b4 : W ≤ 36893488147419103232) (b5 : -18889465931478580854784 ≤ P) (b6 : P ≤ 18889465931478580854784) (b7 : -524288 ≤ G) (b8 : G ≤ 524288) (hr : 33554432 ≤ r ∨ r ≤ -33554432) :
    ∃ u v U V E, ddSub (t1, t2) (p, e) = some (u, v) ∧ ddForm (u, v) = some true ∧ At 953 u U ∧ At 953 v V ∧ U + V = W * 72057594037927936 - P - G + E ∧ -262144 ≤ E ∧ E ≤ 262144 ∧ -590295810358705651712 ≤ V ∧ V ≤ 590295810358705651712 := by
  have k1 := h1.too 953 (by decide) 72057594037927936 (r * 72057594037927936) (by decide) rfl
  have k2 := h2.too 953 (by decide) 72057594037927936 (t * 72057594037927936) (by decide) rfl
  have d1 : Dom (r * 72057594037927936) (-P) := by unfold Dom; clear ht b3 b4 b7 b8 b1 b2; omega
  obtain ⟨s, x, S, X, f1, g1, g2, c1, c2, c3, -⟩ := k1.two h3.neg (Or.inl d1) 70 1180591620717411303424 (by decide) (by omega) (by omega) (by omega) (by omega) (by decide)
  have d2 : Dom (t * 72057594037927936) (-G) ∨ (-9007199254740992 ≤ t * 72057594037927936 + -G ∧ t * 72057594037927936 + -G ≤ 9007199254740992) := by unfold Dom; clear ht b3 b4 b5 b6 c1 c2 c3 hr d1; omega
  obtain ⟨y, z, Y, Z, f2, g3, g4, c4, c5, c6, -⟩ := k2.two h4.neg d2 17 131072 (by decide) (by omega) (by omega) (by omega) (by omega) (by decide)
  obtain ⟨c, C, f3, g5, c7, c8⟩ := g2.add2 g3 17 131072 (by decide) (by omega) (by omega) (by decide)
  have d3 : Dom S C := by unfold Dom; clear d1 d2; omega
  obtain ⟨v1, v2, V1, V2, f4, g6, g7, c9, c10, c11, -⟩ := g1.fast g5 d3 70 1180591620717411303424 (by decide) (by omega) (by omega) (by decide)
  obtain ⟨d, D, f5, g8, c12, c13⟩ := g4.add2 g7 18 262144 (by decide) (by omega) (by omega) (by decide)
  have d4 : Dom V1 D := by unfold Dom; clear d1 d2 d3; omega
  obtain ⟨u, v, U, V, f6, g9, g10, c14, c15, c16, hf⟩ := g6.fast g8 d4 70 1180591620717411303424 (by decide) (by omega) (by omega) (by decide)
  clear d1 d2 d3 d4
  exact ⟨u, v, U, V, U + V - (W * 72057594037927936 - P - G), ddSub_of f1 f2 f3 f4 f5 f6, hf, g9, g10, by omega, by omega, by omega, by omega, by omega⟩

/-- and where it is tiny -/
theorem left_tiny {t1 t2 p e : Nat} {r t P G : Int} (h1 : At 1009 t1 r) (h2 : At 1009 t2 t) (h3 : At 953 p P) (h4 : At 953 e G)
    (b1 : -4096 ≤ t) (b2 : t ≤ 4096) (b5 : -18889465931478580854784 ≤ P) (b6 : P ≤ 18889465931478580854784) (b7 : -524288 ≤ G) (b8 : G ≤ 524288) (hr : r < 33554432) (hr2 : -33554432 < r) :
    ∃ u v U, ddSub (t1, t2) (p, e) = some (u, v) ∧ At 953 u U ∧ -1237940039285380274899124224 ≤ U ∧ U ≤ 1237940039285380274899124224 := by
  have k1 := h1.too 953 (by decide) 72057594037927936 (r * 72057594037927936) (by decide) rfl
  have k2 := h2.too 953 (by decide) 72057594037927936 (t * 72057594037927936) (by decide) rfl
  obtain ⟨s, x, S, X, f1, g1, g2, c1, d1, e1, i1⟩ := k1.two_rough h3.neg 32 4294967296 (by decide) (by omega) (by omega) (by omega) (by omega) (by decide)
  obtain ⟨y, z, Y, Z, f2, g3, g4, c2, d2, e2, i2⟩ := k2.two_rough h4.neg 18 262144 (by decide) (by omega) (by omega) (by omega) (by omega) (by decide)
  obtain ⟨c, C, f3, g5, c3, d3⟩ := g2.add2 g3 18 262144 (by decide) (by omega) (by omega) (by decide)
  obtain ⟨v1, v2, V, V', f4, g6, g7, c4, d4, e4, i4⟩ := g1.fast_rough g5 34 17179869184 (by decide) (by omega) (by omega) (by omega) (by omega) (by decide)
  obtain ⟨d, D, f5, g8, c5, d5⟩ := g4.add2 g7 18 262144 (by decide) (by omega) (by omega) (by decide)
  obtain ⟨u, v, U, U', f6, g9, g10, c6, d6, e6, i6⟩ := g6.fast_rough g8 36 68719476736 (by decide) (by omega) (by omega) (by omega) (by omega) (by decide)
  exact ⟨u, v, U, ddSub_of f1 f2 f3 f4 f5 f6, g9, by omega, by omega⟩

end Go.Proofs.YtgihapdlliidgaaDoor
