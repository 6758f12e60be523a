/- FastreduceRoads: the walks and the plain law joined. -/
import Derived.Test.YtgihapdlliidgaaDoorLr
import Derived.Test.YtgihapdlliidgaaDoorRo2
namespace Go.Proofs.YtgihapdlliidgaaDoor
set_option linter.unusedVariables false
set_option linter.unusedSimpArgs false
set_option exponentiation.threshold 3000
open Ieee Go Go.RowKit

theorem digits_eq {a b c d f a' b' c' d' f' : Nat} (h2 : b < B64) (h3 : c < B64) (h4 : d < B64) (h5 : f < B64) (g2 : b' < B64) (g3 : c' < B64) (g4 : d' < B64) (g5 : f' < B64)
    (h : wv a b c d f = wv a' b' c' d' f') : b = b' ∧ c = c' ∧ d = d' ∧ f = f' := by
  unfold wv at h
  rw [B64_eq] at *
  refine ⟨by omega, by omega, by omega, by omega⟩

/-- two answers of payne's lie beside one another -/
theorem payne_twice {pw : Nat → Nat} {m : Nat} {e : Int} {sx : Bool} {q q' : Int} {t t' : Nat × Nat} (h : PayneOut pw m e sx q t) (h' : PayneOut pw m e sx q' t') (ht : DDok t) (ht' : DDok t') : besideB t t' = true := by
  obtain ⟨a, b, c, d, f, V, Z, p, y, rr, up, a1, a2, a3, a4, a5, a6, a7, a8, a9, a10, a11, a12⟩ := h
  obtain ⟨a', b', c', d', f', V', Z', p', y', rr', up', b1, b2, b3, b4, b5, b6, b7, b8, b9, b10, b11, b12⟩ := h'
  obtain ⟨e1, e2, e3, e4⟩ := digits_eq a2 a3 a4 a5 b2 b3 b4 b5 (a6.trans b6.symm)
  subst e1 e2 e3 e4
  obtain ⟨r1, r2, g1, g2, g3, g4, E, g5, g6, g7⟩ := part_mul a9
  obtain ⟨s1, s2, k1, k2, k3, k4, E', k5, k6, k7⟩ := part_mul b9
  have hrr : rr = (r1, r2) := by rw [g1] at a10; exact (Option.some.inj a10).symm
  have hrr' : rr' = (s1, s2) := by rw [k1] at b10; exact (Option.some.inj b10).symm
  subst hrr hrr'
  have hup : up = up' := by
    cases up <;> cases up'
    · rfl
    · have := (a7 rfl).1; have := (b8 rfl).1; omega
    · have := (a8 rfl).1; have := (b7 rfl).1; omega
    · rfl
  subst hup
  have hV : V = V' := by
    cases up
    · rw [(a7 rfl).2, (b7 rfl).2]
    · have := (a8 rfl).2; have := (b8 rfl).2; omega
  subst hV
  obtain ⟨z1, z2⟩ := fneg_fin g3
  obtain ⟨z3, z4⟩ := fneg_fin g4
  obtain ⟨y1, y2⟩ := fneg_fin k3
  obtain ⟨y3, y4⟩ := fneg_fin k4
  refine beside_of ht ht' ?_
  generalize ((V * 2 ^ 714 : Nat) : Int) * 127438138015862315638027235646471 = X at *
  by_cases hs : up = sx
  · rw [if_pos hs] at a11 b11
    subst a11 b11
    show 302231454903657293676544 * (fz r1 + fz r2 - (fz s1 + fz s2)).natAbs ≤ (fz r1 + fz r2).natAbs
    rw [g5, k5]
    clear a6 b6 a7 b7 a8 b8 a12 b12
    omega
  · rw [if_neg hs] at a11 b11
    subst a11 b11
    show 302231454903657293676544 * (fz (fneg r1) + fz (fneg r2) - (fz (fneg s1) + fz (fneg s2))).natAbs ≤ (fz (fneg r1) + fz (fneg r2)).natAbs
    rw [z2, z4, y2, y4]
    clear a6 b6 a7 b7 a8 b8 a12 b12
    omega

theorem flt_zero {b : Nat} (h : Fin64 b) (h0 : rg b ≠ 0) : flt b 0 = sg b := by
  unfold flt
  have := order_spec h fin_zero
  rw [show FloatKind.f64.format.order b 0 = double.order b 0 from rfl, this, fz_zero]
  have hv : 0 < V (rg b) := by have := V_lt (a := 0) (b := rg b) (by omega); rw [V_zero] at this; exact this
  cases hs : sg b
  · rw [fz_pos_of hs, Int.compare_eq_gt.2 (by omega)]; rfl
  · rw [fz_neg_of hs, Int.compare_eq_lt.2 (by omega)]; rfl

theorem fgt_max {b : Nat} (h : Fin64 b) : fgt (fabs b) 9218868437227405311 = false := by
  unfold fgt
  rw [order_abs h (by decide)]
  have := h.2
  rcases Nat.lt_or_ge (rg b) 9218868437227405311 with c | c
  · rw [Nat.compare_eq_lt.2 (V_lt c)]; rfl
  · have : rg b = 9218868437227405311 := by omega
    rw [this]; simp

/-- payne's answer to a number that it takes -/
theorem payne_calls {b : Nat} (h : Fin64 b) (l : 4485585228861014016 ≤ rg b) (w : World) (hW : Wrd pwF w) :
    Calls Tryd.prog 9 #[.float .f64 b] w fun E w' => ∃ (q : Int) (t : Nat × Nat), E = .returned (redV q t 0) ∧ PayneOut pwF (rg b % 4503599627370496 + 4503599627370496) (((rg b / 4503599627370496 : Nat) : Int) - 1075) (sg b) q t ∧ Below w.heap.size w w' := by
  have HM : ∀ V Z p y, PartOk V Z p y → ∃ u, ddMul (p, y) C4 = some u := fun V Z p y hp => by
    obtain ⟨r1, r2, g1, -⟩ := part_mul hp
    exact ⟨_, g1⟩
  have f3 : flt (rg b) 4485585228861014016 = false := by
    have := flt_abs h (c := 4485585228861014016) (by decide)
    rw [show fabs b = rg b from rfl] at this
    rw [this, decide_eq_false_iff_not]; omega
  have f2 : fgt (rg b) 9218868437227405311 = false := fgt_max h
  have f4 := flt_zero h (by omega)
  cases hs : sg b with
  | false =>
    rw [hs] at f4
    exact payne_pos pwF b (rg b) h.1 rfl l h.2 (feq_self h) f2 f3 f4 HM w hW
  | true =>
    rw [hs] at f4
    exact payne_neg pwF b (rg b) h.1 rfl l h.2 (feq_self h) f2 f3 f4 HM w hW

/-- where Cody isn't content -/
theorem roads_pay {b : Nat} (h : Fin64 b) (l : 4485585228861014016 ≤ rg b) (hC : ∀ w, Calls Tryd.prog 10 #[.float .f64 b] w fun E w' => E = .returned (codyV 0 (0, 0) false) ∧ Below w.heap.size w w') (w : World) (hT : Tab w) (hW : Wrd pwF w) :
    Calls Tryd.prog 3 #[.int .u64 b] w fun E w' => E = .returned (.bool true) ∧ Below w.heap.size w w' := by
  refine lawR_pay b pwF (fun q t => PayneOut pwF (rg b % 4503599627370496 + 4503599627370496) (((rg b / 4503599627370496 : Nat) : Int) - 1075) (sg b) q t) ?_ ?_ ?_ hC ?_ w hT hW
  · rw [show pSz b = rg b from rfl, decide_eq_true l, decide_eq_true h.2]; rfl
  · intro w0 hW0
    refine reduce_pay b pwF (fun q t e => e = 0 ∧ PayneOut pwF (rg b % 4503599627370496 + 4503599627370496) (((rg b / 4503599627370496 : Nat) : Int) - 1075) (sg b) q t) w0 hW0 hC ?_
    intro w1 hW1
    refine (payne_calls h l w1 hW1).mono ?_
    rintro E w' ⟨q, t, rfl, hp, hb⟩
    exact ⟨q, t, 0, rfl, ⟨rfl, hp⟩, hb⟩
  · intro w0 hW0
    exact payne_calls h l w0 hW0
  · intro q s k t h1 h2
    have d1 := (payne_val h l h1).1
    have d2 := (payne_val h l h2).1
    exact ⟨d1, d2, payne_twice h1 h2 d1 d2⟩

theorem tmod_four (k : Int) (l : -1048576 ≤ k) (u : k ≤ 1048576) : (wrap64 (k.tmod 4 + 4)).tmod 4 = k % 4 := by
  have h : -3 ≤ k.tmod 4 ∧ k.tmod 4 ≤ 3 ∧ (k.tmod 4 - k) % 4 = 0 := by
    rcases Int.lt_or_le k 0 with c | c
    · obtain ⟨n, rfl⟩ : ∃ n, k = -n := ⟨-k, by omega⟩
      rw [Int.neg_tmod, Int.tmod_eq_emod_of_nonneg (by omega)]
      omega
    · rw [Int.tmod_eq_emod_of_nonneg c]
      omega
  rw [wrap64_id _ (by omega) (by omega)]
  generalize k.tmod 4 = r at *
  have : (r + 4).tmod 4 = (r + 4) % 4 := Int.tmod_eq_emod_of_nonneg (by omega)
  rw [this]
  omega

/-- where Cody is content: by the numbers -/
theorem roads_ok {b : Nat} (h : Fin64 b) (l : 4485585228861014016 ≤ rg b) (hu : rg b < 4697254411347427328) (w : World) (hT : Tab w) (hW : Wrd pwF w) :
    Calls Tryd.prog 3 #[.int .u64 b] w fun E w' => E = .returned (.bool true) ∧ Below w.heap.size w w' := by
  obtain ⟨N, k, p, s, hN, n0, n1, n2, c1, c2, f1, f2, hn, hi, k1, k2, hcase⟩ := cody_cases h l hu
  have q1 : fge (fabs b) 4485585228861014016 = true := by rw [fge_abs h (by decide), decide_eq_true_iff]; exact l
  have q2 : flt (fabs b) 4697254411347427328 = true := by rw [flt_abs h (by decide), decide_eq_true_iff]; exact hu
  have hred : (decide (4485585228861014016 ≤ pSz b) && decide (pSz b < 9218868437227405312)) = true := by
    rw [show pSz b = rg b from rfl, decide_eq_true l, decide_eq_true h.2]; rfl
  -- payne's answer lies beside a remainder that is what it should be
  have key : ∀ (u : Nat × Nat) (B E : Int), DDok u → B = N * 4398046511104 - k * 4175892906503776358826876457663557747 + E → ((k = 0 ∧ E = 0) ∨ (-262144 ≤ E ∧ E ≤ 262144 ∧ (20282409603651670423947251286016 ≤ B ∨ B ≤ -20282409603651670423947251286016))) → fz u.1 + fz u.2 = B * 2 ^ 953 →
      ∀ w0, Wrd pwF w0 → Calls Tryd.prog 9 #[.float .f64 b] w0 fun E' w' => ∃ q t, E' = .returned (redV q t 0) ∧ (DDok t ∧ (k % 4 = q → besideB u t = true)) ∧ Below w0.heap.size w0 w' := by
    intro u B E hu2 hB hE hval w0 hW0
    refine (payne_calls h l w0 hW0).mono ?_
    rintro E' w' ⟨q, t, rfl, hp, hb⟩
    obtain ⟨d, hd⟩ := payne_val h l hp
    refine ⟨q, t, rfl, ⟨d, fun hq => ?_⟩, hb⟩
    obtain ⟨kp, Ts, r, S, E2, t1, t2, t3, t4, t5, t6, t7, t8, t9, t10⟩ := hd hu N hN
    exact beside_of hu2 d (roads_core c1 c2 n0 n1 n2 k1 k2 t1 t2 t3 t4 t5 t6 (hq.trans t7) hB hE hval t8 t9 t10)
  rcases hcase with ⟨hk0, hf⟩ | ⟨hk0, hf, t1, t2, g1, g2, g3⟩
  · have e : ddOf b = (b, 0) := by unfold ddOf; rw [if_pos (ffin_of h)]
    have hcody : ∀ w0, Calls Tryd.prog 10 #[.float .f64 b] w0 fun E w' => E = .returned (codyV 0 (b, 0) true) ∧ Below w0.heap.size w0 w' := by
      intro w0
      rw [← e]
      exact cody_zero b p s h.1 w0 q1 q2 f1 f2 hn hf
    refine lawR_ok b pwF 0 (b, 0) hred (ddok_one h (by omega)) (fun w0 => reduce_cody b 0 (b, 0) w0 hcody) ?_ hcody w hT hW
    have := key (b, 0) (N * 4398046511104) 0 (ddok_one h (by omega)) (by rw [hk0]; omega) (Or.inl ⟨hk0, rfl⟩) (by
      show fz b + fz 0 = _
      rw [fz_zero, hN.val, Int.add_zero, show (2 : Int) ^ 995 = 4398046511104 * 2 ^ 953 by decide, Int.mul_assoc])
    rw [hk0] at this
    exact this
  · rcases g3 with g3 | ⟨g3, g4, g5, E, g6, g7, g8, g9⟩
    · exact roads_pay h l (fun w0 => cody_small b p s (t1, t2) h.1 g2.1 w0 q1 q2 f1 f2 hn hf g1 g3) w hT hW
    · have hcody : ∀ w0, Calls Tryd.prog 10 #[.float .f64 b] w0 fun E w' => E = .returned (codyV (k % 4) (t1, t2) true) ∧ Below w0.heap.size w0 w' :=
        fun w0 => cody_good b p s k (t1, t2) h.1 g2.1 w0 q1 q2 f1 f2 hn hf g1 g3 hi (k % 4) (tmod_four k k1 k2)
      have hd := ddok_of g2 g5 g4
      exact lawR_ok b pwF (k % 4) (t1, t2) hred hd (fun w0 => reduce_cody b (k % 4) (t1, t2) w0 hcody) (key (t1, t2) _ E hd rfl (Or.inr ⟨g7, g8, g9⟩) g6) hcody w hT hW

theorem read_nan {x : Nat} (h : 9218868437227405312 < rg x) : ∃ s f, double.read x = .nan s f := by
  have e1 : double.leastPlace = -1074 := by decide
  have e2 : double.binade = 4503599627370496 := by decide
  have e3 : double.infRung = 9218868437227405312 := by decide
  have e4 : double.signWeight = 9223372036854775808 := by decide
  unfold Format.read
  simp only [e1, e2, e3, e4]
  unfold rg at h
  rw [if_neg (by omega), if_neg (by omega)]
  first
  | (rw [if_neg (by omega)]; exact ⟨_, _, rfl⟩)
  | exact ⟨_, _, rfl⟩
theorem order_nan {x : Nat} (y : Nat) (h : 9218868437227405312 < rg x) : double.order x y = none := by
  obtain ⟨s, f, e⟩ := read_nan h
  unfold Format.order
  rw [e]
  rfl

/-- a number that isn't taken -/
theorem roads_out (b : Nat) (hb : b < 18446744073709551616) (hred : (decide (4485585228861014016 ≤ pSz b) && decide (pSz b < 9218868437227405312)) = false) (w : World) (hW : Wrd pwF w) :
    Calls Tryd.prog 3 #[.int .u64 b] w fun E w' => E = .returned (.bool true) ∧ Below w.heap.size w w' := by
  have hps : pSz b = rg b := rfl
  have fin : ∀ c : Int, (c == 0) = false → (∀ w, Calls Tryd.prog 10 #[.float .f64 b] w fun E w' => E = .returned (codyV 0 (0, 0) false) ∧ Below w.heap.size w w') →
      (∀ w, Calls Tryd.prog 9 #[.float .f64 b] w fun E w' => E = .returned (redV 0 (0, 0) c) ∧ Below w.heap.size w w') →
      Calls Tryd.prog 3 #[.int .u64 b] w fun E w' => E = .returned (.bool true) ∧ Below w.heap.size w w' := by
    intro c hc hC hP
    refine lawR_out b pwF c hc hred ?_ hP w hW
    intro w0 hW0
    refine (reduce_pay b pwF (fun q t e => q = 0 ∧ t = (0, 0) ∧ e = c) w0 hW0 hC ?_).mono ?_
    · intro w1 _
      refine (hP w1).mono ?_
      rintro E w' ⟨rfl, hb⟩
      exact ⟨0, (0, 0), c, rfl, ⟨rfl, rfl, rfl⟩, hb⟩
    · rintro E w' ⟨q, t, e, rfl, ⟨rfl, rfl, rfl⟩, hb⟩
      exact ⟨rfl, hb⟩
  rcases Nat.lt_trichotomy (rg b) 9218868437227405312 with h | h | h
  · have hf : Fin64 b := ⟨hb, h⟩
    have hl : rg b < 4485585228861014016 := by
      rcases Nat.lt_or_ge (rg b) 4485585228861014016 with c | c
      · exact c
      · rw [hps, decide_eq_true c, decide_eq_true h] at hred; cases hred
    refine fin 5 (by decide) (fun w0 => cody_out1 b hb w0 ?_) (fun w0 => payne_small b (feq_self hf) (fgt_max hf) ?_ hb w0)
    · rw [fge_abs hf (by decide), decide_eq_false_iff_not]; omega
    · rw [flt_abs hf (by decide), decide_eq_true_iff]; exact hl
  · have hbb : b = 9218868437227405312 ∨ b = 18442240474082181120 := by unfold rg at h; omega
    refine fin 6 (by decide) (fun w0 => cody_out2 b hb w0 ?_ ?_) (fun w0 => payne_inf b ?_ ?_ hb w0)
    all_goals rcases hbb with rfl | rfl <;> decide +kernel
  · have hr : rg (fabs b) = rg b := by unfold rg fabs; omega
    refine fin 6 (by decide) (fun w0 => cody_out1 b hb w0 ?_) (fun w0 => payne_nan b ?_ hb w0)
    · unfold fge
      rw [show FloatKind.f64.format.order (fabs b) 4485585228861014016 = double.order (fabs b) 4485585228861014016 from rfl, order_nan _ (by rw [hr]; exact h)]; rfl
    · unfold feq
      rw [show FloatKind.f64.format.order b b = double.order b b from rfl, order_nan _ h]; rfl

/-- FastreduceRoads -/
theorem lawRoads_calls (b : Nat) (hb : b < 18446744073709551616) (w : World) (hT : Tab w) (hW : Wrd pwF w) :
    Calls Tryd.prog 3 #[.int .u64 b] w fun E w' => E = .returned (.bool true) ∧ Below w.heap.size w w' := by
  cases h : (decide (4485585228861014016 ≤ pSz b) && decide (pSz b < 9218868437227405312)) with
  | false => exact roads_out b hb h w hW
  | true =>
    rw [Bool.and_eq_true, decide_eq_true_iff, decide_eq_true_iff] at h
    have hf : Fin64 b := ⟨hb, h.2⟩
    rcases Nat.lt_or_ge (rg b) 4697254411347427328 with c | c
    · exact roads_ok hf h.1 c w hT hW
    · refine roads_pay hf h.1 (fun w0 => cody_out2 b hb w0 ?_ ?_) w hT hW
      · rw [fge_abs hf (by decide), decide_eq_true_iff]; exact h.1
      · rw [flt_abs hf (by decide), decide_eq_false_iff_not]; omega

end Go.Proofs.YtgihapdlliidgaaDoor
