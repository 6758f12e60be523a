/- Plain: Cody, in one. -/
import Derived.Test.YtgihapdlliidgaaDoorCo2
namespace Go.Proofs.YtgihapdlliidgaaDoor
set_option linter.unusedVariables false
set_option exponentiation.threshold 3000
open Ieee Go

theorem feq_iff' {a b : Nat} (ha : Fin64 a) (hb : Fin64 b) (h : feq a b = true) : fz a = fz b := by
  unfold feq at h
  have := order_spec ha hb
  rw [show FloatKind.f64.format.order a b = double.order a b from rfl, this] at h
  rcases Int.lt_trichotomy (fz a) (fz b) with c | c | c
  · rw [Int.compare_eq_lt.2 c] at h; cases h
  · exact c
  · rw [Int.compare_eq_gt.2 c] at h; cases h

theorem V_k27 : V 4485585228861014016 = 4503599627370496 * 2 ^ 995 := by decide +kernel
theorem V_k20 : V 4697254411347427328 = 633825300114114700748351602688 * 2 ^ 995 := by decide +kernel
theorem V_half : V 4602678819172646912 = 302231454903657293676544 * 2 ^ 995 := by decide +kernel
theorem V_small : V 4535124824762089472 = 40564819207303340847894502572032 * 2 ^ 953 := by decide +kernel

theorem at_units {b : Nat} (hf : Fin64 b) (K : Nat) (h : K * 4503599627370496 + 4503599627370496 ≤ rg b) : ∃ N : Int, At K b N := by
  obtain ⟨e, m, h1, h2, h3, h4⟩ := at_own hf
  exact ⟨_, h1.to (by omega)⟩

theorem At.size {K x : Nat} {n : Int} (h : At K x n) : V (rg x) = n.natAbs * 2 ^ K := by
  rw [← fz_abs, h.val, Int.natAbs_mul, Int.natAbs_pow]; rfl

def codyA : Int := 4175892906503776358826876457663557747

/-- what is left, in one -/
theorem left_cases {x k : Nat} {N q : Int} (hx : At 1021 x N) (hk : At 1074 k q) (lN : -9444732965739290427392 ≤ N) (uN : N ≤ 9444732965739290427392) (lq : -1048576 ≤ q) (uq : q ≤ 1048576)
    (lx : -2722258936635158307935226260950848897024 ≤ N * 384813040046178488549376 - q * 5444517870735015415413993718908291383296) (ux : N * 384813040046178488549376 - q * 5444517870735015415413993718908291383296 ≤ 2722258936635158307935226260950848897024) :
    ∃ t1 t2, leftF x k = some (t1, t2) ∧ Fin64 t1 ∧ (flt (fabs t1) 4535124824762089472 = true ∨ (flt (fabs t1) 4535124824762089472 = false ∧ ddForm (t1, t2) = some true ∧ Fin64 t2 ∧
      ∃ E : Int, fz t1 + fz t2 = (N * 295147905179352825856 - q * 4175892906503776358826876457663557747 + E) * 2 ^ 953 ∧ -262144 ≤ E ∧ E ≤ 262144 ∧ (20282409603651670423947251286016 ≤ N * 295147905179352825856 - q * 4175892906503776358826876457663557747 + E ∨ N * 295147905179352825856 - q * 4175892906503776358826876457663557747 + E ≤ -20282409603651670423947251286016))) := by
  obtain ⟨W, hW⟩ : ∃ W : Int, W = N * 4096 - q * 57952155662374928384 - q * 2242054355 := ⟨_, rfl⟩
  obtain ⟨m1, s, e, m2, t1, t2, r, t, f1, f2, f3, f4, a1, a2, b1, b2, b3, b4, b5⟩ := left_mid hx hk lN uN lq uq lx ux hW
  obtain ⟨p, g, P, G, f5, a3, a4, c1, c2, c3⟩ := prod3 hk lq uq
  have hl : ∀ z, ddSub (t1, t2) (p, g) = some z → leftF x k = some z := by
    intro z hz
    unfold leftF
    rw [f1, Option.bind_some, f2, Option.bind_some, f3, Option.bind_some]
    simp only
    rw [f4, Option.bind_some, f5, Option.bind_some, hz]
  by_cases hr : 33554432 ≤ r ∨ r ≤ -33554432
  · obtain ⟨u, v, U, R, E, g1, g2, g3, g4, g5, g6, g7, g8, g9⟩ := left_good a1 a2 a3 a4 b1 b2 b3 b4 b5 (by clear lx ux hW; omega) (by clear lx ux hW; omega) c2 c3 hr
    refine ⟨u, v, hl _ g1, g3.fin, ?_⟩
    cases hs : flt (fabs u) 4535124824762089472 with
    | true => exact Or.inl rfl
    | false =>
      right
      refine ⟨rfl, g2, g4.fin, E, ?_, g6, g7, ?_⟩
      · rw [g3.val, g4.val, ← Int.add_mul, g5]
        congr 1
        clear lx ux
        omega
      · rw [flt_abs g3.fin (by decide), decide_eq_false_iff_not] at hs
        have h1 : V 4535124824762089472 ≤ V (rg u) := V_le (by omega)
        rw [V_small, g3.size] at h1
        have h2 := Nat.le_of_mul_le_mul_right h1 (Nat.two_pow_pos _)
        clear lx ux hs h1
        omega
  · obtain ⟨u, v, U, g1, g2, g3, g4⟩ := left_tiny a1 a2 a3 a4 b2 b3 (by clear lx ux hW; omega) (by clear lx ux hW; omega) c2 c3 (by omega) (by omega)
    refine ⟨u, v, hl _ g1, g2.fin, Or.inl ?_⟩
    rw [flt_abs g2.fin (by decide), decide_eq_true_iff, ← V_lt_iff, V_small, g2.size]
    exact Nat.mul_lt_mul_of_pos_right (by omega) (Nat.two_pow_pos _)

/-- Cody, in one -/
theorem cody_cases {b : Nat} (hf : Fin64 b) (l : 4485585228861014016 ≤ rg b) (u : rg b < 4697254411347427328) :
    ∃ (N k : Int) (p s : Nat), At 995 b N ∧ (4503599627370496 ≤ N ∨ N ≤ -4503599627370496) ∧ -633825300114114700748351602688 ≤ N ∧ N ≤ 633825300114114700748351602688 ∧ -2722258936635158307935226260950848897024 ≤ N * 5734161139222659 - k * 5444517870735015415413993718908291383296 ∧ N * 5734161139222659 - k * 5444517870735015415413993718908291383296 ≤ 2722258936635158307935226260950848897024 ∧
      fmul b 4603909380684499075 = some p ∧ fadd p 4602678819172646912 = some s ∧ fnum s = true ∧ floatToIntVal .f64 (ffloor s) .i64 = some k ∧ -1048576 ≤ k ∧ k ≤ 1048576 ∧
      ((k = 0 ∧ feq (ffloor s) 0 = true) ∨ (k ≠ 0 ∧ feq (ffloor s) 0 = false ∧ ∃ t1 t2, leftF b (ffloor s) = some (t1, t2) ∧ Fin64 t1 ∧
        (flt (fabs t1) 4535124824762089472 = true ∨ (flt (fabs t1) 4535124824762089472 = false ∧ ddForm (t1, t2) = some true ∧ Fin64 t2 ∧
          ∃ E : Int, fz t1 + fz t2 = (N * 4398046511104 - k * 4175892906503776358826876457663557747 + E) * 2 ^ 953 ∧ -262144 ≤ E ∧ E ≤ 262144 ∧ (20282409603651670423947251286016 ≤ N * 4398046511104 - k * 4175892906503776358826876457663557747 + E ∨ N * 4398046511104 - k * 4175892906503776358826876457663557747 + E ≤ -20282409603651670423947251286016))))) := by
  obtain ⟨N, hN⟩ := at_units hf 995 (by omega)
  have v1 : V 4485585228861014016 ≤ V (rg b) := V_le l
  have v2 : V (rg b) < V 4697254411347427328 := V_lt u
  rw [hN.size] at v1 v2
  rw [V_k27] at v1
  rw [V_k20] at v2
  have n1 := Nat.le_of_mul_le_mul_right v1 (Nat.two_pow_pos _)
  have n2 := Nat.lt_of_mul_lt_mul_right v2
  have n3 : 4503599627370496 ≤ N ∨ N ≤ -4503599627370496 := by clear v1 v2 n2; omega
  have n4 : -633825300114114700748351602688 ≤ N := by clear v1 v2 n1 n3; omega
  have n5 : N ≤ 633825300114114700748351602688 := by clear v1 v2 n1 n3; omega
  clear v1 v2 n1 n2
  obtain ⟨p, s, k, f1, f2, hs, ak, k1, k2⟩ := codyK_spec hN n4 n5
  have hn : fnum s = true := by unfold fnum; rw [read_fin hs]; rfl
  have k3 : -1048576 ≤ k := by clear n3; omega
  have k4 : k ≤ 1048576 := by clear n3; omega
  have hi := toInt_spec ak (by clear n3 k1 k2; omega)
  refine ⟨N, k, p, s, hN, n3, n4, n5, k1, k2, f1, f2, hn, hi, k3, k4, ?_⟩
  by_cases h0 : k = 0
  · left
    refine ⟨h0, feq_of ak.fin fin_zero ?_⟩
    rw [ak.val, h0, Int.zero_mul, fz_zero]
  · right
    refine ⟨h0, ?_, ?_⟩
    · cases hq : feq (ffloor s) 0 with
      | false => rfl
      | true =>
        exfalso
        have := feq_iff' ak.fin fin_zero hq
        rw [ak.val, fz_zero] at this
        rcases Int.mul_eq_zero.1 this with c | c
        · exact h0 c
        · have : (0 : Int) < 2 ^ 1074 := Int.pow_pos (by decide)
          omega
    · have h78 : 302231454903657293676544 ≤ N.natAbs := by clear n3 k3 k4; omega
      have hr : 4602678819172646912 ≤ rg b := by
        rw [← V_le_iff, V_half, hN.size]
        exact Nat.mul_le_mul_right _ h78
      obtain ⟨M, hM⟩ := at_units hf 1021 (by omega)
      have e : N = M * 67108864 := by
        have e1 := hN.val
        rw [hM.val, show (2 : Int) ^ 1021 = 67108864 * 2 ^ 995 by decide, ← Int.mul_assoc] at e1
        exact (Int.eq_of_mul_eq_mul_right (by have : (0 : Int) < 2 ^ 995 := Int.pow_pos (by decide); omega) e1).symm
      subst e
      obtain ⟨t1, t2, g1, g2, g3⟩ := left_cases hM ak (by clear n3 h78 k1 k2; omega) (by clear n3 h78 k1 k2; omega) k3 k4 (by clear n3 h78 n4 n5; omega) (by clear n3 h78 n4 n5; omega)
      have ea : M * 67108864 * 4398046511104 = M * 295147905179352825856 := by omega
      rw [ea]
      exact ⟨t1, t2, g1, g2, g3⟩

end Go.Proofs.YtgihapdlliidgaaDoor
