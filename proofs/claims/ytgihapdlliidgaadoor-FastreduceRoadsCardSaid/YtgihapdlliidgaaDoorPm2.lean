/- Plain: what payne's remainder is worth: V times 2 pi, but for 2^-99. -/
import Derived.Test.YtgihapdlliidgaaDoorPm
namespace Go.Proofs.YtgihapdlliidgaaDoor
set_option linter.unusedVariables false
set_option exponentiation.threshold 3000
open Ieee Go

theorem b64_150 : B64 * B64 * 4194304 = 2 ^ 150 := by rw [B64_eq]

theorem part_scale {V F Z : Nat} (hZ : Z ≤ 255) (h : F = V * 2 ^ Z / (B64 * B64 * 4194304)) : ∃ Y ρ : Nat, Y = 2 ^ (864 - Z) ∧ V * 2 ^ 714 = F * Y + ρ ∧ ρ < Y := by
  rw [b64_150] at h
  have h1 := Nat.div_add_mod (V * 2 ^ Z) (2 ^ 150)
  have h2 := Nat.mod_lt (V * 2 ^ Z) (Nat.two_pow_pos 150)
  rw [← h] at h1
  generalize V * 2 ^ Z % 2 ^ 150 = r at *
  refine ⟨2 ^ (864 - Z), r * 2 ^ (714 - Z), rfl, ?_, ?_⟩
  · have e1 : V * 2 ^ 714 = V * 2 ^ Z * 2 ^ (714 - Z) := by rw [Nat.mul_assoc, ← Nat.pow_add, show Z + (714 - Z) = 714 by omega]
    have e2 : F * 2 ^ (864 - Z) = 2 ^ 150 * F * 2 ^ (714 - Z) := by
      rw [Nat.mul_comm (2 ^ 150) F, Nat.mul_assoc, ← Nat.pow_add, show 150 + (714 - Z) = 864 - Z by omega]
    rw [e1, e2, ← h1, Nat.add_mul]
  · have e : 2 ^ (864 - Z) = 2 ^ 150 * 2 ^ (714 - Z) := by rw [← Nat.pow_add, show 150 + (714 - Z) = 864 - Z by omega]
    rw [e]
    exact Nat.mul_lt_mul_of_pos_right h2 (Nat.two_pow_pos _)

/-- payne's remainder ahead of its sign -/
theorem part_mul {V Z p y : Nat} (h : PartOk V Z p y) : ∃ r1 r2, ddMul (p, y) C4 = some (r1, r2) ∧ ddForm (r1, r2) = some true ∧ Fin64 r1 ∧ Fin64 r2 ∧
    ∃ E : Int, fz r1 + fz r2 = ((V * 2 ^ 714 : Nat) : Int) * 127438138015862315638027235646471 + E ∧ -(((V * 2 ^ 714 : Nat) : Int) * 127438138015862315638027235646471) ≤ E * 633825300114114700748351602688 ∧ E * 633825300114114700748351602688 ≤ ((V * 2 ^ 714 : Nat) : Int) * 127438138015862315638027235646471 := by
  obtain ⟨U, L, H, T, hZ, h1, h2, h3, h4, g1, g2, g3, g4, g5, g6⟩ := h
  rcases h3 with h3 | ⟨h3, h3', h3''⟩
  · obtain ⟨Y, ρ, e1, e2, e3⟩ := part_scale hZ h4
    have hF1 : (40564819207303340847894502572032 : Int) ≤ (U : Int) * 9007199254740992 + L := by omega
    have hF2 : (U : Int) * 9007199254740992 + L < 81129638414606681695789005144064 := by omega
    obtain ⟨j, m, j1, j2, g7, m1, m2, m3⟩ := own_place g1 (by omega) (by omega)
    have a2 := g2.to (L := 968 - Z + j - 54) (by omega)
    have hpow : (2 : Int) ^ (968 - Z - (968 - Z + j - 54)) = 2 ^ (54 - j) := by congr 1; omega
    rw [hpow] at a2
    have hb : (2 : Int) ^ (54 - j) = 1 ∨ (2 : Int) ^ (54 - j) = 2 ∨ (2 : Int) ^ (54 - j) = 4 := by
      have : j = 52 ∨ j = 53 ∨ j = 54 := by omega
      rcases this with rfl | rfl | rfl
      · right; right; rfl
      · right; left; rfl
      · left; rfl
    have t12 : -36028797018963968 ≤ T * 2 ^ (54 - j) ∧ T * 2 ^ (54 - j) ≤ 36028797018963968 := by
      rcases hb with hb | hb | hb <;> rw [hb] <;> omega
    obtain ⟨r1, r2, A, R, f1, f2, f3, f4, b1, b2⟩ := mul_a g7 a2 m1 m2 t12.1 t12.2 (by omega) (by omega)
    have hf : fz r1 + fz r2 = (A + R) * 2 ^ (968 - Z + j - 104) := by rw [f3.val, f4.val, Int.add_mul]
    generalize hG : (2 : Int) ^ (54 - j) = G at *
    obtain ⟨P, hP⟩ : ∃ P : Int, P = 2 ^ (968 - Z + j - 158) := ⟨_, rfl⟩
    have p1 : (2 : Int) ^ (968 - Z + j - 104) = 18014398509481984 * P := by
      rw [hP, show (968 - Z + j - 104) = 54 + (968 - Z + j - 158) by omega, Int.pow_add]; rfl
    have p2 : ((Y : Nat) : Int) = G * P := by
      rw [e1, hP, ← hG, ← Int.pow_add, show 54 - j + (968 - Z + j - 158) = 864 - Z by omega]; simp
    have p3 : (2 : Int) ^ j * G = 18014398509481984 := by rw [← hG, ← Int.pow_add, show j + (54 - j) = 54 by omega]; rfl
    have p4 : 0 < P := by rw [hP]; exact Int.pow_pos (by decide)
    have p5 : m * 18014398509481984 + T * G = ((U : Int) * 9007199254740992 + L) * G := by
      rw [← p3, ← Int.mul_assoc, m3, ← Int.add_mul]; congr 1; omega
    rw [p5] at b1 b2
    generalize hF : (U : Int) * 9007199254740992 + L = F at *
    have hFn : ((U * 9007199254740992 + L : Nat) : Int) = F := by rw [← hF]; simp
    obtain ⟨D, hD⟩ : ∃ D : Int, D = (A + R) * 18014398509481984 - F * G * 127438138015862315638027235646471 := ⟨_, rfl⟩
    rw [← hD] at b1 b2
    have hv : ((V * 2 ^ 714 : Nat) : Int) = F * Y + ρ := by rw [e2, ← hFn]; simp
    have hf2 : fz r1 + fz r2 = F * Y * 127438138015862315638027235646471 + D * P := by
      rw [hf, p1, p2, hD]
      grind
    have d1 : -(5192296858534827628530496329220096 * P) ≤ D * P := by rw [← Int.neg_mul]; exact Int.mul_le_mul_of_nonneg_right b1 (by omega)
    have d2 : D * P ≤ 5192296858534827628530496329220096 * P := Int.mul_le_mul_of_nonneg_right b2 (by omega)
    have d3 : P ≤ Y := by
      rw [p2]
      rcases hb with hb | hb | hb <;> rw [hb] <;> omega
    have d4 : 40564819207303340847894502572032 * (Y : Int) ≤ F * Y := Int.mul_le_mul_of_nonneg_right hF1 (by omega)
    rw [hv]
    generalize F * (Y : Int) = g at *
    generalize D * P = dp at *
    refine ⟨r1, r2, f1, f2, f3.fin, f4.fin, dp - 127438138015862315638027235646471 * ρ, ?_, ?_, ?_⟩
    · rw [hf2]; omega
    · clear hf2 hv hf p1 p2 p3 p5 b1 b2 hD hF hFn; omega
    · clear hf2 hv hf p1 p2 p3 p5 b1 b2 hD hF hFn; omega
  · have hT := g6 h3 h3'
    have hH : H = 0 := by omega
    subst hT hH
    have hz : ∀ {K x : Nat} (L : Nat), At K x 0 → At L x 0 := fun L h => ⟨h.fin, by rw [h.val, Int.zero_mul, Int.zero_mul]⟩
    obtain ⟨r1, r2, f1, f2, f3, f4⟩ := mul_zero (hz 1000 g1) (hz 946 g2)
    refine ⟨r1, r2, f1, f2, f3.fin, f4.fin, 0, ?_, ?_, ?_⟩
    · rw [f3.val, f4.val, h3'', Nat.zero_mul]; rfl
    · rw [h3'', Nat.zero_mul]; decide
    · rw [h3'', Nat.zero_mul]; decide

theorem RN.negate {N : Int} {d z : Nat} (h : RN N d z) : RN (-N) d (fneg z) := by
  have hx := xor63 h.fin.1
  have e : fneg z = if 9223372036854775808 ≤ z then z - 9223372036854775808 else z + 9223372036854775808 := hx
  have hr : rg (fneg z) = rg z := by rw [e]; unfold rg; split <;> omega
  have hs : sg (fneg z) = !sg z := by
    have := h.fin.1
    rw [e]; unfold sg
    split
    · rename_i c; rw [decide_eq_true c, decide_eq_false (by omega)]; rfl
    · rename_i c; rw [decide_eq_false c, decide_eq_true (by omega)]; rfl
  refine ⟨(fneg_fin h.fin).1, by rw [hr, Int.natAbs_neg]; exact h.near, fun c => ?_, fun c => ?_⟩
  · rw [hs, h.pos (by omega)]; rfl
  · rw [hs, h.neg (by omega)]; rfl

theorem feq_iff {a b : Nat} (ha : Fin64 a) (hb : Fin64 b) (h : feq a b = true) : fz a = fz b := by
  unfold feq at h
  have := order_spec ha hb
  rw [show FloatKind.f64.format.order a b = double.order a b from rfl, this] at h
  rcases Int.lt_trichotomy (fz a) (fz b) with c | c | c
  · rw [Int.compare_eq_lt.2 c] at h; cases h
  · exact c
  · rw [Int.compare_eq_gt.2 c] at h; cases h

theorem ddForm_neg {a b : Nat} (ha : Fin64 a) (hb : Fin64 b) (hB : (fz a + fz b).natAbs ≤ MX) (h : ddForm (a, b) = some true) : ddForm (fneg a, fneg b) = some true := by
  obtain ⟨na, za⟩ := fneg_fin ha
  obtain ⟨nb, zb⟩ := fneg_fin hb
  obtain ⟨s, s1, s2⟩ := fadd_rn ha hb hB
  unfold ddForm at h ⊢
  rw [if_pos (ffin_of ha), if_pos (ffin_of hb)] at h
  rw [if_pos (ffin_of na), if_pos (ffin_of nb)]
  have h2 : (fadd a b).bind (fun s => some (feq s a)) = some true := h
  rw [s1] at h2
  have h3 : feq s a = true := by simpa using h2
  have h4 := feq_iff s2.fin ha h3
  have e : fz (fneg a) + fz (fneg b) = -(fz a + fz b) := by rw [za, zb]; omega
  obtain ⟨t, t1, t2⟩ := fadd_rn na nb (by rw [e, Int.natAbs_neg]; exact hB)
  show (fadd (fneg a) (fneg b)).bind _ = _
  rw [t1]
  show some (feq t (fneg a)) = _
  rw [e] at t2
  have h5 := t2.unique s2.negate
  rw [feq_of t2.fin na (by rw [h5, (fneg_fin s2.fin).2, h4, za])]

end Go.Proofs.YtgihapdlliidgaaDoor
