/- The walk of payne.Reduce (written by genpw6.py). -/
import Derived.Test.YtgihapdlliidgaaDoorPw5
import Derived.Test.YtgihapdlliidgaaDoorLawb
namespace Go.Proofs.YtgihapdlliidgaaDoor
open Go Go.RowKit
set_option linter.unusedVariables false
set_option linter.unusedSimpArgs false
set_option exponentiation.threshold 3000

/-- 2 pi as a pair of words -/
def C4 : Nat × Nat := (4618760256179416344, 4373459396149402631)

theorem reduce_bits (r : Nat) (h1 : r < 9218868437227405312) : Go.bits .or .u64 (Go.bits .and .u64 (r : Int) 4503599627370495) 4503599627370496 = ((r % 4503599627370496 + 4503599627370496 : Nat) : Int) ∧ (r : Int) / 4503599627370496 = ((r / 4503599627370496 : Nat) : Int) := by
  refine ⟨?_, by simp⟩
  have e1 : Go.bits .and .u64 (r : Int) 4503599627370495 = ((r % 4503599627370496 : Nat) : Int) := by
    have e1 := bits_and_u64_nat r 4503599627370495 (by omega) (by decide)
    rw [show r &&& 4503599627370495 = r % 4503599627370496 from Nat.and_two_pow_sub_one_eq_mod r 52] at e1
    exact e1
  rw [e1]
  exact or_u64 (r % 4503599627370496) 4503599627370496 52 (by omega) (by rw [B64_eq]; omega) (by rw [B64_eq]; omega) ⟨1, rfl⟩

/-- the quadrant's bits -/
theorem quad_bits (b : Nat) (hb : b < B64) : ∃ K R : Nat, K = b / 4611686018427387904 ∧ R = b % 4611686018427387904 ∧ (b : Int) / 4611686018427387904 = (K : Int) ∧ wrap64 (K : Int) = (K : Int) ∧ wrap64 ((K : Int) + 1) = ((K + 1 : Nat) : Int) ∧ Go.bits .and .u64 (b : Int) 4611686018427387903 = (R : Int) ∧ K ≤ 3 ∧ R < 4611686018427387904 ∧
    Go.bits .or .u64 (R : Int) 13835058055282163712 = ((R + 13835058055282163712 : Nat) : Int) ∧ R + 13835058055282163712 < B64 ∧ R < B64 := by
  rw [B64_eq] at *
  refine ⟨_, _, rfl, rfl, by simp, wrap64_id _ (by omega) (by omega), ?_, ?_, by omega, by omega, ?_, by omega, by omega⟩
  · rw [wrap64_id _ (by omega) (by omega)]; rfl
  · have e1 := bits_and_u64_nat b 4611686018427387903 hb (by decide)
    rw [show b &&& 4611686018427387903 = b % 4611686018427387904 from Nat.and_two_pow_sub_one_eq_mod b 62] at e1
    exact e1
  · exact or_u64 (b % 4611686018427387904) 13835058055282163712 62 (by omega) (by rw [B64_eq]; omega) (by rw [B64_eq]; omega) ⟨3, rfl⟩

theorem and3 : ∀ k : Nat, k ≤ 4 → Go.bits .and .i64 (k : Int) 3 = (k : Int) % 4 ∧ wrap64 (-(k : Int)) = -(k : Int) ∧ Go.bits .and .i64 (-(k : Int)) 3 = (-(k : Int)) % 4 := by
  intro k hk
  have : k = 0 ∨ k = 1 ∨ k = 2 ∨ k = 3 ∨ k = 4 := by omega
  rcases this with rfl | rfl | rfl | rfl | rfl <;> decide +kernel

/-- what payne.Reduce gives -/
def PayneOut (pw : Nat → Nat) (m : Nat) (e : Int) (sx : Bool) (q : Int) (t : Nat × Nat) : Prop := ∃ (a b c d f V Z p y : Nat) (r : Nat × Nat) (up : Bool),
  a < B64 ∧ b < B64 ∧ c < B64 ∧ d < B64 ∧ f < B64 ∧ wv a b c d f = tv pw m e ∧
  (up = false → b % 4611686018427387904 < 2305843009213693952 ∧ V = wv 0 (b % 4611686018427387904) c d f) ∧
  (up = true → 2305843009213693952 ≤ b % 4611686018427387904 ∧ V + wv 0 (b % 4611686018427387904) c d f = 4611686018427387904 * (B64 * (B64 * B64))) ∧
  PartOk V Z p y ∧ ddMul (p, y) C4 = some r ∧ t = (if up = sx then r else ddNeg r) ∧
  q = (if sx = true then -((b / 4611686018427387904 + (if up = true then 1 else 0) : Nat) : Int) else ((b / 4611686018427387904 + (if up = true then 1 else 0) : Nat) : Int)) % 4

theorem minus_value {N R b c d f b' c' d' f' k : Nat} (hN : N = R + 13835058055282163712) (hk : k ≤ 1) (h : wv 0 b' c' d' f' + wv 0 N c d f = B64 * (B64 * (B64 * (B64 * k)))) :
    wv 0 b' c' d' f' + wv 0 R c d f = 4611686018427387904 * (B64 * (B64 * B64)) := by
  have e1 : wv 0 N c d f = wv 0 R c d f + 13835058055282163712 * (B64 * (B64 * B64)) := by
    subst hN; unfold wv; generalize B64 = B; grind
  have hB : B64 * (B64 * (B64 * B64)) = 18446744073709551616 * (B64 * (B64 * B64)) := by rw [← B64_eq]
  have hp : 0 < B64 * (B64 * B64) := Nat.mul_pos B64_pos (Nat.mul_pos B64_pos B64_pos)
  have hk' : k = 1 := by
    rcases Nat.eq_zero_or_pos k with x | x
    · subst x
      rw [Nat.mul_zero, Nat.mul_zero, Nat.mul_zero, Nat.mul_zero, e1] at h
      omega
    · omega
  subst hk'
  rw [Nat.mul_one, hB, e1] at h
  generalize B64 * (B64 * B64) = X at *
  omega

theorem mul4_hi : fmul 4616189618054758400 4609753056924675352 = some 4618760256179416344 := by decide +kernel
theorem mul4_lo : fmul 4616189618054758400 4364452196894661639 = some 4373459396149402631 := by decide +kernel

set_option maxHeartbeats 4000000 in
set_option maxRecDepth 100000 in
theorem payne_pos (pw : Nat → Nat) (x r : Nat) (hx : x < 18446744073709551616) (hr : fabs x = r) (hr1 : 4485585228861014016 ≤ r) (hr2 : r < 9218868437227405312)
    (h1 : feq x x = true) (h2 : fgt r 9218868437227405311 = false) (h3 : flt r 4485585228861014016 = false) (h4 : flt x 0 = false)
    (HM : ∀ V Z p y, PartOk V Z p y → ∃ u, ddMul (p, y) C4 = some u) (w : World) (hW : Wrd pw w) :
    Calls Tryd.prog 9 #[.float .f64 x] w fun E w' => ∃ (q : Int) (t : Nat × Nat), E = .returned (redV q t 0) ∧ PayneOut pw (r % 4503599627370496 + 4503599627370496) (((r / 4503599627370496 : Nat) : Int) - 1075) false q t ∧ Below w.heap.size w w' := by
  have HA := Lib.hid (fun w0 => abs_calls x hx w0)
  have HN := Lib.hid (fun w0 => isNaN_calls x w0)
  have HI := Lib.hid (fun w0 => isInf_calls x hx w0)
  have HT := Lib.hid (fun w0 h0 => turns_calls pw (r % 4503599627370496 + 4503599627370496) (((r / 4503599627370496 : Nat) : Int) - 1075) (by omega) (by omega) (by omega) w0 h0)
  have HWw := Lib.hid hW
  have HMM := Lib.hid HM
  have HMI := Lib.hid (fun a b c d e hb hc hd he w0 => minus_calls a b c d e hb hc hd he w0)
  have HP := Lib.hid (fun b c d e hb hc hd he w0 => part_calls b c d e hb hc hd he w0)
  have HMU := Lib.hid (fun a b r w0 h => ddMul_calls a b r w0 h)
  have HNE := Lib.hid (fun a w0 => ddNeg_calls a w0)
  have m1 := hop (P := Tryd.prog) mul4_hi
  have m2 := hop (P := Tryd.prog) mul4_lo
  obtain ⟨b1, b2⟩ := reduce_bits r hr2
  have b3 : wrap64 (((r / 4503599627370496 : Nat) : Int) - 1075) = ((r / 4503599627370496 : Nat) : Int) - 1075 := wrap64_id _ (by omega) (by omega)
  have b4 : wrap64 (((r / 4503599627370496 : Nat) : Int)) = ((r / 4503599627370496 : Nat) : Int) := wrap64_id _ (by omega) (by omega)
  rw [hr] at HA HI
  rw [h1] at HN
  rw [h2] at HI
  unfold flt at h3 h4
  generalize r % 4503599627370496 + 4503599627370496 = m at *
  generalize r / 4503599627370496 = e at *
  clear hW hr h1 h2 hx hr1 hr2 HM
  have HW0 : Hid (Below w.heap.size w w) := Lib.hid (Below.refl _ _)
  go_enter Tryd.func9, Tryd.ntmps9
  go_wp2_with fail
  refine (HA.out _).mono ?_
  rintro E w' ⟨rfl, rfl⟩
  go_wp2_with fail
  refine (HN.out _).mono ?_
  rintro E w' ⟨rfl, rfl⟩
  go_wp2_with fail
  refine (HI.out _).mono ?_
  rintro E w' ⟨rfl, rfl⟩
  go_wp2_with fail
  refine Calls.mono (HT.out _ (HWw.out.below (by (repeat (first | with_reducible exact HW0.out | refine Below.setCell (p := ⟨_, _, _⟩) ?_ (by first | omega | (simp; done) | (simp; omega)) _ | refine Below.alloc ?_ (by first | omega | (simp; done) | (simp; omega)) _ | refine Below.drew ?_ | refine below_dn ?_ _))))) ?_
  rintro E w1 ⟨a, b, c, d, f, rfl, j0, j1, j2, j3, j4, hv, hb1⟩
  obtain ⟨hc1, hf1⟩ := bcell hb1
  have HW1 : Hid (Below w.heap.size w w1) := Lib.hid (by
    refine Below.trans ?_ (hb1.mono ?_)
    · (repeat (first | with_reducible exact HW0.out | refine Below.setCell (p := ⟨_, _, _⟩) ?_ (by first | omega | (simp; done) | (simp; omega)) _ | refine Below.alloc ?_ (by first | omega | (simp; done) | (simp; omega)) _ | refine Below.drew ?_ | refine below_dn ?_ _))
    · first | omega | (simp; done) | (simp; omega))
  have hs1 : w.heap.size + 1 ≤ w1.heap.size := by have := hb1.size; (try simp at this); omega
  have hc1_0 := fun o : Nat => hc1 (w.heap.size) o (by first | omega | (simp; done) | (simp; omega))
  have hf1_0 := fun o : Nat => hf1 (w.heap.size) o (by first | omega | (simp; done) | (simp; omega))
  clear hc1 hf1
  clear hb1
  have HV := Lib.hid hv
  have J0 := Lib.hid j0
  have J1 := Lib.hid j1
  have J2 := Lib.hid j2
  have J3 := Lib.hid j3
  have J4 := Lib.hid j4
  obtain ⟨K, R, rK, rR, q1, q2, q3, q4, q5, q6, q7, q8, q9⟩ := quad_bits b j1
  have RK := Lib.hid rK
  have RR := Lib.hid rR
  have Q2 := Lib.hid q2
  have Q3 := Lib.hid q3
  have Q5 := Lib.hid q5
  have Q9 := Lib.hid q9
  have Q8 := Lib.hid q8
  clear hv j0 j1 j2 j3 j4 rK rR
  rcases Nat.lt_or_ge R 2305843009213693952 with hup | hup
  · have t1 : (R : Int) / 2305843009213693952 = 0 := by omega
    have Hup := Lib.hid hup
    obtain ⟨p1, p2, p3⟩ := and3 K (Nat.le_trans Q5.out (by decide))
    clear q5 q6 q7 q8 q9 hup
    go_wp2_with fail
    clear q1 q2 q3 q4 b1 b2 b3 b4
    have hlt2_0 : w.heap.size < w1.heap.size := by omega
    have hne2_0 : ¬ (w.heap.size = w1.heap.size) := by omega
    have hen2_0 : ¬ (w1.heap.size = w.heap.size) := by omega
    go_wp2_with fail
    refine Calls.mono (HP.out R c d f Q9.out J2.out J3.out J4.out _) ?_
    rintro E w2 ⟨Z, x1, y1, rfl, hpo, hb2⟩
    obtain ⟨hc2, hf2⟩ := bcell hb2
    have HW2 : Hid (Below w.heap.size w w2) := Lib.hid (by
      refine Below.trans ?_ (hb2.mono ?_)
      · (repeat (first | with_reducible exact HW1.out | refine Below.setCell (p := ⟨_, _, _⟩) ?_ (by first | omega | (simp; done) | (simp; omega)) _ | refine Below.alloc ?_ (by first | omega | (simp; done) | (simp; omega)) _ | refine Below.drew ?_ | refine below_dn ?_ _))
      · first | omega | (simp; done) | (simp; omega))
    have hs2 : w.heap.size + 1 ≤ w2.heap.size := by have := hb2.size; (try simp at this); omega
    have hc2_0 := fun o : Nat => hc2 (w.heap.size) o (by first | omega | (simp; done) | (simp; omega))
    have hf2_0 := fun o : Nat => hf2 (w.heap.size) o (by first | omega | (simp; done) | (simp; omega))
    have hsx2_0 : w1.heap.size + 1 ≤ w2.heap.size := by have := hb2.size; (try simp at this); omega
    have hx2_0 := fun o : Nat => hc2 (w1.heap.size) o (by first | omega | (simp; done) | (simp; omega))
    have hxf2_0 := fun o : Nat => hf2 (w1.heap.size) o (by first | omega | (simp; done) | (simp; omega))
    clear hc2 hf2
    clear hb2
    obtain ⟨u, hu⟩ := HMM.out _ _ _ _ hpo
    have HU := Lib.hid hu
    have HPO := Lib.hid hpo
    have HM3 := Lib.hid (fun w0 => HMU.out (x1, y1) C4 u w0 hu)
    clear hu hpo
    obtain ⟨u1, u2⟩ := u
    unfold ddV C4 at *
    have hlt3_0 : w.heap.size < w2.heap.size := by omega
    have hne3_0 : ¬ (w.heap.size = w2.heap.size) := by omega
    have hen3_0 : ¬ (w2.heap.size = w.heap.size) := by omega
    have hlt3_1 : w1.heap.size < w2.heap.size := by omega
    have hne3_1 : ¬ (w1.heap.size = w2.heap.size) := by omega
    have hen3_1 : ¬ (w2.heap.size = w1.heap.size) := by omega
    go_wp2_with fail
    refine Calls.mono (HM3.out _) ?_
    rintro E w3 ⟨rfl, hb3⟩
    obtain ⟨hc3, hf3⟩ := bcell hb3
    have HW3 : Hid (Below w.heap.size w w3) := Lib.hid (by
      refine Below.trans ?_ (hb3.mono ?_)
      · (repeat (first | with_reducible exact HW2.out | refine Below.setCell (p := ⟨_, _, _⟩) ?_ (by first | omega | (simp; done) | (simp; omega)) _ | refine Below.alloc ?_ (by first | omega | (simp; done) | (simp; omega)) _ | refine Below.drew ?_ | refine below_dn ?_ _))
      · first | omega | (simp; done) | (simp; omega))
    have hs3 : w.heap.size + 1 ≤ w3.heap.size := by have := hb3.size; (try simp at this); omega
    have hc3_0 := fun o : Nat => hc3 (w.heap.size) o (by first | omega | (simp; done) | (simp; omega))
    have hf3_0 := fun o : Nat => hf3 (w.heap.size) o (by first | omega | (simp; done) | (simp; omega))
    have hsx3_0 : w1.heap.size + 1 ≤ w3.heap.size := by have := hb3.size; (try simp at this); omega
    have hx3_0 := fun o : Nat => hc3 (w1.heap.size) o (by first | omega | (simp; done) | (simp; omega))
    have hxf3_0 := fun o : Nat => hf3 (w1.heap.size) o (by first | omega | (simp; done) | (simp; omega))
    have hsx3_1 : w2.heap.size + 1 ≤ w3.heap.size := by have := hb3.size; (try simp at this); omega
    have hx3_1 := fun o : Nat => hc3 (w2.heap.size) o (by first | omega | (simp; done) | (simp; omega))
    have hxf3_1 := fun o : Nat => hf3 (w2.heap.size) o (by first | omega | (simp; done) | (simp; omega))
    have hsx3_2 : w2.heap.size + 1 + 1 ≤ w3.heap.size := by have := hb3.size; (try simp at this); omega
    have hx3_2 := fun o : Nat => hc3 (w2.heap.size + 1) o (by first | omega | (simp; done) | (simp; omega))
    have hxf3_2 := fun o : Nat => hf3 (w2.heap.size + 1) o (by first | omega | (simp; done) | (simp; omega))
    clear hc3 hf3
    clear hb3
    have q2 := Q2.out
    go_wp2_with fail
    have z1 : (w3.cell? ⟨w.heap.size, 0, none⟩).isSome = true := by simp [go_sem, hc1_0, hc2_0, hc3_0, show w.heap.size < w1.heap.size by omega, show ¬ (w.heap.size = w1.heap.size) by omega, show ¬ (w1.heap.size = w.heap.size) by omega, show w.heap.size < w1.heap.size + 1 by omega, show w.heap.size < w2.heap.size by omega, show ¬ (w.heap.size = w2.heap.size) by omega, show ¬ (w2.heap.size = w.heap.size) by omega, show w.heap.size < w2.heap.size + 1 by omega]
    have z2 : (w3.cell? ⟨w.heap.size, 1, none⟩).isSome = true := by simp [go_sem, hc1_0, hc2_0, hc3_0, show w.heap.size < w1.heap.size by omega, show ¬ (w.heap.size = w1.heap.size) by omega, show ¬ (w1.heap.size = w.heap.size) by omega, show w.heap.size < w1.heap.size + 1 by omega, show w.heap.size < w2.heap.size by omega, show ¬ (w.heap.size = w2.heap.size) by omega, show ¬ (w2.heap.size = w.heap.size) by omega, show w.heap.size < w2.heap.size + 1 by omega]
    go_region
    all_goals
      go_wp2_with fail
      refine bodyPost_ret (v := redV ((((K : Nat) : Int)) % 4) (u1, u2) 0) (by simp [results, Tryd.results9, go_sem, redV, ddV, z1, z2]) rfl ?_
      refine ⟨_, _, rfl, ?_, by (repeat (first | with_reducible exact HW3.out | refine Below.setCell (p := ⟨_, _, _⟩) ?_ (by first | omega | (simp; done) | (simp; omega)) _ | refine Below.alloc ?_ (by first | omega | (simp; done) | (simp; omega)) _ | refine Below.drew ?_ | refine below_dn ?_ _))⟩
      refine ⟨a, b, c, d, f, _, Z, x1, y1, (u1, u2), false, J0.out, J1.out, J2.out, J3.out, J4.out, HV.out, fun _ => ⟨by rw [← RR.out]; exact Hup.out, by rw [← RR.out]⟩, (fun h => by cases h), HPO.out, HU.out, rfl, by rw [← RK.out]; rfl⟩
  · have t1 : (R : Int) / 2305843009213693952 = 1 := by omega
    have Hup := Lib.hid hup
    obtain ⟨p1, p2, p3⟩ := and3 (K + 1) (Nat.succ_le_succ Q5.out)
    obtain ⟨N, hN⟩ : ∃ N, N = R + 13835058055282163712 := ⟨_, rfl⟩
    rw [← hN] at q7 Q8
    obtain ⟨K1, hK1⟩ : ∃ N, N = K + 1 := ⟨_, rfl⟩
    rw [← hK1] at q3 p1 p2 p3
    have HK1 := Lib.hid hK1
    have ek : ((K1 : Nat) : Int) = (K : Int) + 1 := by rw [hK1]; rfl
    rw [ek] at p1 p2 p3 q3
    have HN1 := Lib.hid hN
    clear q5 q6 q8 q9 hup hN hK1 ek
    go_wp2_with fail
    clear q1 q2 q3 q4 b1 b2 b3 b4
    have hlt2_0 : w.heap.size < w1.heap.size := by omega
    have hne2_0 : ¬ (w.heap.size = w1.heap.size) := by omega
    have hen2_0 : ¬ (w1.heap.size = w.heap.size) := by omega
    go_wp2_with fail
    refine Calls.mono (HMI.out a N c d f Q8.out J2.out J3.out J4.out _) ?_
    rintro E w2 ⟨s1, s2, s3, s4, k1, rfl, l1, l2, l3, l4, lk, hmi, hb2⟩
    obtain ⟨hc2, hf2⟩ := bcell hb2
    have HW2 : Hid (Below w.heap.size w w2) := Lib.hid (by
      refine Below.trans ?_ (hb2.mono ?_)
      · (repeat (first | with_reducible exact HW1.out | refine Below.setCell (p := ⟨_, _, _⟩) ?_ (by first | omega | (simp; done) | (simp; omega)) _ | refine Below.alloc ?_ (by first | omega | (simp; done) | (simp; omega)) _ | refine Below.drew ?_ | refine below_dn ?_ _))
      · first | omega | (simp; done) | (simp; omega))
    have hs2 : w.heap.size + 1 ≤ w2.heap.size := by have := hb2.size; (try simp at this); omega
    have hc2_0 := fun o : Nat => hc2 (w.heap.size) o (by first | omega | (simp; done) | (simp; omega))
    have hf2_0 := fun o : Nat => hf2 (w.heap.size) o (by first | omega | (simp; done) | (simp; omega))
    have hsx2_0 : w1.heap.size + 1 ≤ w2.heap.size := by have := hb2.size; (try simp at this); omega
    have hx2_0 := fun o : Nat => hc2 (w1.heap.size) o (by first | omega | (simp; done) | (simp; omega))
    have hxf2_0 := fun o : Nat => hf2 (w1.heap.size) o (by first | omega | (simp; done) | (simp; omega))
    clear hc2 hf2
    clear hb2
    have HMV := Lib.hid (minus_value (b := 0) HN1.out lk hmi)
    have L1 := Lib.hid l1
    have L2 := Lib.hid l2
    have L3 := Lib.hid l3
    have L4 := Lib.hid l4
    clear l1 l2 l3 l4 lk hmi
    go_wp2_with fail
    refine Calls.mono (HP.out s1 s2 s3 s4 L1.out L2.out L3.out L4.out _) ?_
    rintro E w3 ⟨Z, x1, y1, rfl, hpo, hb3⟩
    obtain ⟨hc3, hf3⟩ := bcell hb3
    have HW3 : Hid (Below w.heap.size w w3) := Lib.hid (by
      refine Below.trans ?_ (hb3.mono ?_)
      · (repeat (first | with_reducible exact HW2.out | refine Below.setCell (p := ⟨_, _, _⟩) ?_ (by first | omega | (simp; done) | (simp; omega)) _ | refine Below.alloc ?_ (by first | omega | (simp; done) | (simp; omega)) _ | refine Below.drew ?_ | refine below_dn ?_ _))
      · first | omega | (simp; done) | (simp; omega))
    have hs3 : w.heap.size + 1 ≤ w3.heap.size := by have := hb3.size; (try simp at this); omega
    have hc3_0 := fun o : Nat => hc3 (w.heap.size) o (by first | omega | (simp; done) | (simp; omega))
    have hf3_0 := fun o : Nat => hf3 (w.heap.size) o (by first | omega | (simp; done) | (simp; omega))
    have hsx3_0 : w1.heap.size + 1 ≤ w3.heap.size := by have := hb3.size; (try simp at this); omega
    have hx3_0 := fun o : Nat => hc3 (w1.heap.size) o (by first | omega | (simp; done) | (simp; omega))
    have hxf3_0 := fun o : Nat => hf3 (w1.heap.size) o (by first | omega | (simp; done) | (simp; omega))
    clear hc3 hf3
    clear hb3
    obtain ⟨u, hu⟩ := HMM.out _ _ _ _ hpo
    have HU := Lib.hid hu
    have HPO := Lib.hid hpo
    have HM3 := Lib.hid (fun w0 => HMU.out (x1, y1) C4 u w0 hu)
    clear hu hpo
    obtain ⟨u1, u2⟩ := u
    unfold ddV C4 at *
    have hlt4_0 : w.heap.size < w3.heap.size := by omega
    have hne4_0 : ¬ (w.heap.size = w3.heap.size) := by omega
    have hen4_0 : ¬ (w3.heap.size = w.heap.size) := by omega
    have hlt4_1 : w1.heap.size < w3.heap.size := by omega
    have hne4_1 : ¬ (w1.heap.size = w3.heap.size) := by omega
    have hen4_1 : ¬ (w3.heap.size = w1.heap.size) := by omega
    go_wp2_with fail
    refine Calls.mono (HM3.out _) ?_
    rintro E w4 ⟨rfl, hb4⟩
    obtain ⟨hc4, hf4⟩ := bcell hb4
    have HW4 : Hid (Below w.heap.size w w4) := Lib.hid (by
      refine Below.trans ?_ (hb4.mono ?_)
      · (repeat (first | with_reducible exact HW3.out | refine Below.setCell (p := ⟨_, _, _⟩) ?_ (by first | omega | (simp; done) | (simp; omega)) _ | refine Below.alloc ?_ (by first | omega | (simp; done) | (simp; omega)) _ | refine Below.drew ?_ | refine below_dn ?_ _))
      · first | omega | (simp; done) | (simp; omega))
    have hs4 : w.heap.size + 1 ≤ w4.heap.size := by have := hb4.size; (try simp at this); omega
    have hc4_0 := fun o : Nat => hc4 (w.heap.size) o (by first | omega | (simp; done) | (simp; omega))
    have hf4_0 := fun o : Nat => hf4 (w.heap.size) o (by first | omega | (simp; done) | (simp; omega))
    have hsx4_0 : w1.heap.size + 1 ≤ w4.heap.size := by have := hb4.size; (try simp at this); omega
    have hx4_0 := fun o : Nat => hc4 (w1.heap.size) o (by first | omega | (simp; done) | (simp; omega))
    have hxf4_0 := fun o : Nat => hf4 (w1.heap.size) o (by first | omega | (simp; done) | (simp; omega))
    have hsx4_1 : w3.heap.size + 1 ≤ w4.heap.size := by have := hb4.size; (try simp at this); omega
    have hx4_1 := fun o : Nat => hc4 (w3.heap.size) o (by first | omega | (simp; done) | (simp; omega))
    have hxf4_1 := fun o : Nat => hf4 (w3.heap.size) o (by first | omega | (simp; done) | (simp; omega))
    have hsx4_2 : w3.heap.size + 1 + 1 ≤ w4.heap.size := by have := hb4.size; (try simp at this); omega
    have hx4_2 := fun o : Nat => hc4 (w3.heap.size + 1) o (by first | omega | (simp; done) | (simp; omega))
    have hxf4_2 := fun o : Nat => hf4 (w3.heap.size + 1) o (by first | omega | (simp; done) | (simp; omega))
    clear hc4 hf4
    clear hb4
    go_wp2_with fail
    refine Calls.mono (HNE.out (u1, u2) _) ?_
    rintro E w5 ⟨rfl, hb5⟩
    obtain ⟨hc5, hf5⟩ := bcell hb5
    have HW5 : Hid (Below w.heap.size w w5) := Lib.hid (by
      refine Below.trans ?_ (hb5.mono ?_)
      · (repeat (first | with_reducible exact HW4.out | refine Below.setCell (p := ⟨_, _, _⟩) ?_ (by first | omega | (simp; done) | (simp; omega)) _ | refine Below.alloc ?_ (by first | omega | (simp; done) | (simp; omega)) _ | refine Below.drew ?_ | refine below_dn ?_ _))
      · first | omega | (simp; done) | (simp; omega))
    have hs5 : w.heap.size + 1 ≤ w5.heap.size := by have := hb5.size; (try simp at this); omega
    have hc5_0 := fun o : Nat => hc5 (w.heap.size) o (by first | omega | (simp; done) | (simp; omega))
    have hf5_0 := fun o : Nat => hf5 (w.heap.size) o (by first | omega | (simp; done) | (simp; omega))
    have hsx5_0 : w1.heap.size + 1 ≤ w5.heap.size := by have := hb5.size; (try simp at this); omega
    have hx5_0 := fun o : Nat => hc5 (w1.heap.size) o (by first | omega | (simp; done) | (simp; omega))
    have hxf5_0 := fun o : Nat => hf5 (w1.heap.size) o (by first | omega | (simp; done) | (simp; omega))
    have hsx5_1 : w3.heap.size + 1 ≤ w5.heap.size := by have := hb5.size; (try simp at this); omega
    have hx5_1 := fun o : Nat => hc5 (w3.heap.size) o (by first | omega | (simp; done) | (simp; omega))
    have hxf5_1 := fun o : Nat => hf5 (w3.heap.size) o (by first | omega | (simp; done) | (simp; omega))
    have hsx5_2 : w3.heap.size + 1 + 1 ≤ w5.heap.size := by have := hb5.size; (try simp at this); omega
    have hx5_2 := fun o : Nat => hc5 (w3.heap.size + 1) o (by first | omega | (simp; done) | (simp; omega))
    have hxf5_2 := fun o : Nat => hf5 (w3.heap.size + 1) o (by first | omega | (simp; done) | (simp; omega))
    clear hc5 hf5
    clear hb5
    unfold ddNeg
    have q2 := Q2.out
    have q3 := Q3.out
    go_wp2_with fail
    have z1 : (w5.cell? ⟨w.heap.size, 0, none⟩).isSome = true := by simp [go_sem, hc1_0, hc2_0, hc3_0, hc4_0, hc5_0, show w.heap.size < w1.heap.size by omega, show ¬ (w.heap.size = w1.heap.size) by omega, show ¬ (w1.heap.size = w.heap.size) by omega, show w.heap.size < w1.heap.size + 1 by omega, show w.heap.size < w2.heap.size by omega, show ¬ (w.heap.size = w2.heap.size) by omega, show ¬ (w2.heap.size = w.heap.size) by omega, show w.heap.size < w2.heap.size + 1 by omega, show w.heap.size < w3.heap.size by omega, show ¬ (w.heap.size = w3.heap.size) by omega, show ¬ (w3.heap.size = w.heap.size) by omega, show w.heap.size < w3.heap.size + 1 by omega]
    have z2 : (w5.cell? ⟨w.heap.size, 1, none⟩).isSome = true := by simp [go_sem, hc1_0, hc2_0, hc3_0, hc4_0, hc5_0, show w.heap.size < w1.heap.size by omega, show ¬ (w.heap.size = w1.heap.size) by omega, show ¬ (w1.heap.size = w.heap.size) by omega, show w.heap.size < w1.heap.size + 1 by omega, show w.heap.size < w2.heap.size by omega, show ¬ (w.heap.size = w2.heap.size) by omega, show ¬ (w2.heap.size = w.heap.size) by omega, show w.heap.size < w2.heap.size + 1 by omega, show w.heap.size < w3.heap.size by omega, show ¬ (w.heap.size = w3.heap.size) by omega, show ¬ (w3.heap.size = w.heap.size) by omega, show w.heap.size < w3.heap.size + 1 by omega]
    go_region
    all_goals
      go_wp2_with fail
      refine bodyPost_ret (v := redV (((K : Int) + 1) % 4) (fneg u1, fneg u2) 0) (by simp [results, Tryd.results9, go_sem, redV, ddV, z1, z2]) rfl ?_
      refine ⟨_, _, rfl, ?_, by (repeat (first | with_reducible exact HW5.out | refine Below.setCell (p := ⟨_, _, _⟩) ?_ (by first | omega | (simp; done) | (simp; omega)) _ | refine Below.alloc ?_ (by first | omega | (simp; done) | (simp; omega)) _ | refine Below.drew ?_ | refine below_dn ?_ _))⟩
      refine ⟨a, b, c, d, f, _, Z, x1, y1, (u1, u2), true, J0.out, J1.out, J2.out, J3.out, J4.out, HV.out, (fun h => by cases h), fun _ => ⟨by rw [← RR.out]; exact Hup.out, by rw [← RR.out]; exact HMV.out⟩, HPO.out, HU.out, rfl, by rw [← RK.out]; rfl⟩

set_option maxHeartbeats 4000000 in
set_option maxRecDepth 100000 in
theorem payne_neg (pw : Nat → Nat) (x r : Nat) (hx : x < 18446744073709551616) (hr : fabs x = r) (hr1 : 4485585228861014016 ≤ r) (hr2 : r < 9218868437227405312)
    (h1 : feq x x = true) (h2 : fgt r 9218868437227405311 = false) (h3 : flt r 4485585228861014016 = false) (h4 : flt x 0 = true)
    (HM : ∀ V Z p y, PartOk V Z p y → ∃ u, ddMul (p, y) C4 = some u) (w : World) (hW : Wrd pw w) :
    Calls Tryd.prog 9 #[.float .f64 x] w fun E w' => ∃ (q : Int) (t : Nat × Nat), E = .returned (redV q t 0) ∧ PayneOut pw (r % 4503599627370496 + 4503599627370496) (((r / 4503599627370496 : Nat) : Int) - 1075) true q t ∧ Below w.heap.size w w' := by
  have HA := Lib.hid (fun w0 => abs_calls x hx w0)
  have HN := Lib.hid (fun w0 => isNaN_calls x w0)
  have HI := Lib.hid (fun w0 => isInf_calls x hx w0)
  have HT := Lib.hid (fun w0 h0 => turns_calls pw (r % 4503599627370496 + 4503599627370496) (((r / 4503599627370496 : Nat) : Int) - 1075) (by omega) (by omega) (by omega) w0 h0)
  have HWw := Lib.hid hW
  have HMM := Lib.hid HM
  have HMI := Lib.hid (fun a b c d e hb hc hd he w0 => minus_calls a b c d e hb hc hd he w0)
  have HP := Lib.hid (fun b c d e hb hc hd he w0 => part_calls b c d e hb hc hd he w0)
  have HMU := Lib.hid (fun a b r w0 h => ddMul_calls a b r w0 h)
  have HNE := Lib.hid (fun a w0 => ddNeg_calls a w0)
  have m1 := hop (P := Tryd.prog) mul4_hi
  have m2 := hop (P := Tryd.prog) mul4_lo
  obtain ⟨b1, b2⟩ := reduce_bits r hr2
  have b3 : wrap64 (((r / 4503599627370496 : Nat) : Int) - 1075) = ((r / 4503599627370496 : Nat) : Int) - 1075 := wrap64_id _ (by omega) (by omega)
  have b4 : wrap64 (((r / 4503599627370496 : Nat) : Int)) = ((r / 4503599627370496 : Nat) : Int) := wrap64_id _ (by omega) (by omega)
  rw [hr] at HA HI
  rw [h1] at HN
  rw [h2] at HI
  unfold flt at h3 h4
  generalize r % 4503599627370496 + 4503599627370496 = m at *
  generalize r / 4503599627370496 = e at *
  clear hW hr h1 h2 hx hr1 hr2 HM
  have HW0 : Hid (Below w.heap.size w w) := Lib.hid (Below.refl _ _)
  go_enter Tryd.func9, Tryd.ntmps9
  go_wp2_with fail
  refine (HA.out _).mono ?_
  rintro E w' ⟨rfl, rfl⟩
  go_wp2_with fail
  refine (HN.out _).mono ?_
  rintro E w' ⟨rfl, rfl⟩
  go_wp2_with fail
  refine (HI.out _).mono ?_
  rintro E w' ⟨rfl, rfl⟩
  go_wp2_with fail
  refine Calls.mono (HT.out _ (HWw.out.below (by (repeat (first | with_reducible exact HW0.out | refine Below.setCell (p := ⟨_, _, _⟩) ?_ (by first | omega | (simp; done) | (simp; omega)) _ | refine Below.alloc ?_ (by first | omega | (simp; done) | (simp; omega)) _ | refine Below.drew ?_ | refine below_dn ?_ _))))) ?_
  rintro E w1 ⟨a, b, c, d, f, rfl, j0, j1, j2, j3, j4, hv, hb1⟩
  obtain ⟨hc1, hf1⟩ := bcell hb1
  have HW1 : Hid (Below w.heap.size w w1) := Lib.hid (by
    refine Below.trans ?_ (hb1.mono ?_)
    · (repeat (first | with_reducible exact HW0.out | refine Below.setCell (p := ⟨_, _, _⟩) ?_ (by first | omega | (simp; done) | (simp; omega)) _ | refine Below.alloc ?_ (by first | omega | (simp; done) | (simp; omega)) _ | refine Below.drew ?_ | refine below_dn ?_ _))
    · first | omega | (simp; done) | (simp; omega))
  have hs1 : w.heap.size + 1 ≤ w1.heap.size := by have := hb1.size; (try simp at this); omega
  have hc1_0 := fun o : Nat => hc1 (w.heap.size) o (by first | omega | (simp; done) | (simp; omega))
  have hf1_0 := fun o : Nat => hf1 (w.heap.size) o (by first | omega | (simp; done) | (simp; omega))
  clear hc1 hf1
  clear hb1
  have HV := Lib.hid hv
  have J0 := Lib.hid j0
  have J1 := Lib.hid j1
  have J2 := Lib.hid j2
  have J3 := Lib.hid j3
  have J4 := Lib.hid j4
  obtain ⟨K, R, rK, rR, q1, q2, q3, q4, q5, q6, q7, q8, q9⟩ := quad_bits b j1
  have RK := Lib.hid rK
  have RR := Lib.hid rR
  have Q2 := Lib.hid q2
  have Q3 := Lib.hid q3
  have Q5 := Lib.hid q5
  have Q9 := Lib.hid q9
  have Q8 := Lib.hid q8
  clear hv j0 j1 j2 j3 j4 rK rR
  rcases Nat.lt_or_ge R 2305843009213693952 with hup | hup
  · have t1 : (R : Int) / 2305843009213693952 = 0 := by omega
    have Hup := Lib.hid hup
    obtain ⟨p1, p2, p3⟩ := and3 K (Nat.le_trans Q5.out (by decide))
    clear q5 q6 q7 q8 q9 hup
    go_wp2_with fail
    clear q1 q2 q3 q4 b1 b2 b3 b4
    have hlt2_0 : w.heap.size < w1.heap.size := by omega
    have hne2_0 : ¬ (w.heap.size = w1.heap.size) := by omega
    have hen2_0 : ¬ (w1.heap.size = w.heap.size) := by omega
    go_wp2_with fail
    refine Calls.mono (HP.out R c d f Q9.out J2.out J3.out J4.out _) ?_
    rintro E w2 ⟨Z, x1, y1, rfl, hpo, hb2⟩
    obtain ⟨hc2, hf2⟩ := bcell hb2
    have HW2 : Hid (Below w.heap.size w w2) := Lib.hid (by
      refine Below.trans ?_ (hb2.mono ?_)
      · (repeat (first | with_reducible exact HW1.out | refine Below.setCell (p := ⟨_, _, _⟩) ?_ (by first | omega | (simp; done) | (simp; omega)) _ | refine Below.alloc ?_ (by first | omega | (simp; done) | (simp; omega)) _ | refine Below.drew ?_ | refine below_dn ?_ _))
      · first | omega | (simp; done) | (simp; omega))
    have hs2 : w.heap.size + 1 ≤ w2.heap.size := by have := hb2.size; (try simp at this); omega
    have hc2_0 := fun o : Nat => hc2 (w.heap.size) o (by first | omega | (simp; done) | (simp; omega))
    have hf2_0 := fun o : Nat => hf2 (w.heap.size) o (by first | omega | (simp; done) | (simp; omega))
    have hsx2_0 : w1.heap.size + 1 ≤ w2.heap.size := by have := hb2.size; (try simp at this); omega
    have hx2_0 := fun o : Nat => hc2 (w1.heap.size) o (by first | omega | (simp; done) | (simp; omega))
    have hxf2_0 := fun o : Nat => hf2 (w1.heap.size) o (by first | omega | (simp; done) | (simp; omega))
    clear hc2 hf2
    clear hb2
    obtain ⟨u, hu⟩ := HMM.out _ _ _ _ hpo
    have HU := Lib.hid hu
    have HPO := Lib.hid hpo
    have HM3 := Lib.hid (fun w0 => HMU.out (x1, y1) C4 u w0 hu)
    clear hu hpo
    obtain ⟨u1, u2⟩ := u
    unfold ddV C4 at *
    have hlt3_0 : w.heap.size < w2.heap.size := by omega
    have hne3_0 : ¬ (w.heap.size = w2.heap.size) := by omega
    have hen3_0 : ¬ (w2.heap.size = w.heap.size) := by omega
    have hlt3_1 : w1.heap.size < w2.heap.size := by omega
    have hne3_1 : ¬ (w1.heap.size = w2.heap.size) := by omega
    have hen3_1 : ¬ (w2.heap.size = w1.heap.size) := by omega
    go_wp2_with fail
    refine Calls.mono (HM3.out _) ?_
    rintro E w3 ⟨rfl, hb3⟩
    obtain ⟨hc3, hf3⟩ := bcell hb3
    have HW3 : Hid (Below w.heap.size w w3) := Lib.hid (by
      refine Below.trans ?_ (hb3.mono ?_)
      · (repeat (first | with_reducible exact HW2.out | refine Below.setCell (p := ⟨_, _, _⟩) ?_ (by first | omega | (simp; done) | (simp; omega)) _ | refine Below.alloc ?_ (by first | omega | (simp; done) | (simp; omega)) _ | refine Below.drew ?_ | refine below_dn ?_ _))
      · first | omega | (simp; done) | (simp; omega))
    have hs3 : w.heap.size + 1 ≤ w3.heap.size := by have := hb3.size; (try simp at this); omega
    have hc3_0 := fun o : Nat => hc3 (w.heap.size) o (by first | omega | (simp; done) | (simp; omega))
    have hf3_0 := fun o : Nat => hf3 (w.heap.size) o (by first | omega | (simp; done) | (simp; omega))
    have hsx3_0 : w1.heap.size + 1 ≤ w3.heap.size := by have := hb3.size; (try simp at this); omega
    have hx3_0 := fun o : Nat => hc3 (w1.heap.size) o (by first | omega | (simp; done) | (simp; omega))
    have hxf3_0 := fun o : Nat => hf3 (w1.heap.size) o (by first | omega | (simp; done) | (simp; omega))
    have hsx3_1 : w2.heap.size + 1 ≤ w3.heap.size := by have := hb3.size; (try simp at this); omega
    have hx3_1 := fun o : Nat => hc3 (w2.heap.size) o (by first | omega | (simp; done) | (simp; omega))
    have hxf3_1 := fun o : Nat => hf3 (w2.heap.size) o (by first | omega | (simp; done) | (simp; omega))
    have hsx3_2 : w2.heap.size + 1 + 1 ≤ w3.heap.size := by have := hb3.size; (try simp at this); omega
    have hx3_2 := fun o : Nat => hc3 (w2.heap.size + 1) o (by first | omega | (simp; done) | (simp; omega))
    have hxf3_2 := fun o : Nat => hf3 (w2.heap.size + 1) o (by first | omega | (simp; done) | (simp; omega))
    clear hc3 hf3
    clear hb3
    go_wp2_with fail
    refine Calls.mono (HNE.out (u1, u2) _) ?_
    rintro E w4 ⟨rfl, hb4⟩
    obtain ⟨hc4, hf4⟩ := bcell hb4
    have HW4 : Hid (Below w.heap.size w w4) := Lib.hid (by
      refine Below.trans ?_ (hb4.mono ?_)
      · (repeat (first | with_reducible exact HW3.out | refine Below.setCell (p := ⟨_, _, _⟩) ?_ (by first | omega | (simp; done) | (simp; omega)) _ | refine Below.alloc ?_ (by first | omega | (simp; done) | (simp; omega)) _ | refine Below.drew ?_ | refine below_dn ?_ _))
      · first | omega | (simp; done) | (simp; omega))
    have hs4 : w.heap.size + 1 ≤ w4.heap.size := by have := hb4.size; (try simp at this); omega
    have hc4_0 := fun o : Nat => hc4 (w.heap.size) o (by first | omega | (simp; done) | (simp; omega))
    have hf4_0 := fun o : Nat => hf4 (w.heap.size) o (by first | omega | (simp; done) | (simp; omega))
    have hsx4_0 : w1.heap.size + 1 ≤ w4.heap.size := by have := hb4.size; (try simp at this); omega
    have hx4_0 := fun o : Nat => hc4 (w1.heap.size) o (by first | omega | (simp; done) | (simp; omega))
    have hxf4_0 := fun o : Nat => hf4 (w1.heap.size) o (by first | omega | (simp; done) | (simp; omega))
    have hsx4_1 : w2.heap.size + 1 ≤ w4.heap.size := by have := hb4.size; (try simp at this); omega
    have hx4_1 := fun o : Nat => hc4 (w2.heap.size) o (by first | omega | (simp; done) | (simp; omega))
    have hxf4_1 := fun o : Nat => hf4 (w2.heap.size) o (by first | omega | (simp; done) | (simp; omega))
    have hsx4_2 : w2.heap.size + 1 + 1 ≤ w4.heap.size := by have := hb4.size; (try simp at this); omega
    have hx4_2 := fun o : Nat => hc4 (w2.heap.size + 1) o (by first | omega | (simp; done) | (simp; omega))
    have hxf4_2 := fun o : Nat => hf4 (w2.heap.size + 1) o (by first | omega | (simp; done) | (simp; omega))
    clear hc4 hf4
    clear hb4
    unfold ddNeg
    have q2 := Q2.out
    go_wp2_with fail
    have z1 : (w4.cell? ⟨w.heap.size, 0, none⟩).isSome = true := by simp [go_sem, hc1_0, hc2_0, hc3_0, hc4_0, show w.heap.size < w1.heap.size by omega, show ¬ (w.heap.size = w1.heap.size) by omega, show ¬ (w1.heap.size = w.heap.size) by omega, show w.heap.size < w1.heap.size + 1 by omega, show w.heap.size < w2.heap.size by omega, show ¬ (w.heap.size = w2.heap.size) by omega, show ¬ (w2.heap.size = w.heap.size) by omega, show w.heap.size < w2.heap.size + 1 by omega]
    have z2 : (w4.cell? ⟨w.heap.size, 1, none⟩).isSome = true := by simp [go_sem, hc1_0, hc2_0, hc3_0, hc4_0, show w.heap.size < w1.heap.size by omega, show ¬ (w.heap.size = w1.heap.size) by omega, show ¬ (w1.heap.size = w.heap.size) by omega, show w.heap.size < w1.heap.size + 1 by omega, show w.heap.size < w2.heap.size by omega, show ¬ (w.heap.size = w2.heap.size) by omega, show ¬ (w2.heap.size = w.heap.size) by omega, show w.heap.size < w2.heap.size + 1 by omega]
    go_region
    all_goals
      go_wp2_with fail
      refine bodyPost_ret (v := redV ((-(((K : Nat) : Int))) % 4) (fneg u1, fneg u2) 0) (by simp [results, Tryd.results9, go_sem, redV, ddV, z1, z2]) rfl ?_
      refine ⟨_, _, rfl, ?_, by (repeat (first | with_reducible exact HW4.out | refine Below.setCell (p := ⟨_, _, _⟩) ?_ (by first | omega | (simp; done) | (simp; omega)) _ | refine Below.alloc ?_ (by first | omega | (simp; done) | (simp; omega)) _ | refine Below.drew ?_ | refine below_dn ?_ _))⟩
      refine ⟨a, b, c, d, f, _, Z, x1, y1, (u1, u2), false, J0.out, J1.out, J2.out, J3.out, J4.out, HV.out, fun _ => ⟨by rw [← RR.out]; exact Hup.out, by rw [← RR.out]⟩, (fun h => by cases h), HPO.out, HU.out, rfl, by rw [← RK.out]; rfl⟩
  · have t1 : (R : Int) / 2305843009213693952 = 1 := by omega
    have Hup := Lib.hid hup
    obtain ⟨p1, p2, p3⟩ := and3 (K + 1) (Nat.succ_le_succ Q5.out)
    obtain ⟨N, hN⟩ : ∃ N, N = R + 13835058055282163712 := ⟨_, rfl⟩
    rw [← hN] at q7 Q8
    obtain ⟨K1, hK1⟩ : ∃ N, N = K + 1 := ⟨_, rfl⟩
    rw [← hK1] at q3 p1 p2 p3
    have HK1 := Lib.hid hK1
    have ek : ((K1 : Nat) : Int) = (K : Int) + 1 := by rw [hK1]; rfl
    rw [ek] at p1 p2 p3 q3
    have HN1 := Lib.hid hN
    clear q5 q6 q8 q9 hup hN hK1 ek
    go_wp2_with fail
    clear q1 q2 q3 q4 b1 b2 b3 b4
    have hlt2_0 : w.heap.size < w1.heap.size := by omega
    have hne2_0 : ¬ (w.heap.size = w1.heap.size) := by omega
    have hen2_0 : ¬ (w1.heap.size = w.heap.size) := by omega
    go_wp2_with fail
    refine Calls.mono (HMI.out a N c d f Q8.out J2.out J3.out J4.out _) ?_
    rintro E w2 ⟨s1, s2, s3, s4, k1, rfl, l1, l2, l3, l4, lk, hmi, hb2⟩
    obtain ⟨hc2, hf2⟩ := bcell hb2
    have HW2 : Hid (Below w.heap.size w w2) := Lib.hid (by
      refine Below.trans ?_ (hb2.mono ?_)
      · (repeat (first | with_reducible exact HW1.out | refine Below.setCell (p := ⟨_, _, _⟩) ?_ (by first | omega | (simp; done) | (simp; omega)) _ | refine Below.alloc ?_ (by first | omega | (simp; done) | (simp; omega)) _ | refine Below.drew ?_ | refine below_dn ?_ _))
      · first | omega | (simp; done) | (simp; omega))
    have hs2 : w.heap.size + 1 ≤ w2.heap.size := by have := hb2.size; (try simp at this); omega
    have hc2_0 := fun o : Nat => hc2 (w.heap.size) o (by first | omega | (simp; done) | (simp; omega))
    have hf2_0 := fun o : Nat => hf2 (w.heap.size) o (by first | omega | (simp; done) | (simp; omega))
    have hsx2_0 : w1.heap.size + 1 ≤ w2.heap.size := by have := hb2.size; (try simp at this); omega
    have hx2_0 := fun o : Nat => hc2 (w1.heap.size) o (by first | omega | (simp; done) | (simp; omega))
    have hxf2_0 := fun o : Nat => hf2 (w1.heap.size) o (by first | omega | (simp; done) | (simp; omega))
    clear hc2 hf2
    clear hb2
    have HMV := Lib.hid (minus_value (b := 0) HN1.out lk hmi)
    have L1 := Lib.hid l1
    have L2 := Lib.hid l2
    have L3 := Lib.hid l3
    have L4 := Lib.hid l4
    clear l1 l2 l3 l4 lk hmi
    go_wp2_with fail
    refine Calls.mono (HP.out s1 s2 s3 s4 L1.out L2.out L3.out L4.out _) ?_
    rintro E w3 ⟨Z, x1, y1, rfl, hpo, hb3⟩
    obtain ⟨hc3, hf3⟩ := bcell hb3
    have HW3 : Hid (Below w.heap.size w w3) := Lib.hid (by
      refine Below.trans ?_ (hb3.mono ?_)
      · (repeat (first | with_reducible exact HW2.out | refine Below.setCell (p := ⟨_, _, _⟩) ?_ (by first | omega | (simp; done) | (simp; omega)) _ | refine Below.alloc ?_ (by first | omega | (simp; done) | (simp; omega)) _ | refine Below.drew ?_ | refine below_dn ?_ _))
      · first | omega | (simp; done) | (simp; omega))
    have hs3 : w.heap.size + 1 ≤ w3.heap.size := by have := hb3.size; (try simp at this); omega
    have hc3_0 := fun o : Nat => hc3 (w.heap.size) o (by first | omega | (simp; done) | (simp; omega))
    have hf3_0 := fun o : Nat => hf3 (w.heap.size) o (by first | omega | (simp; done) | (simp; omega))
    have hsx3_0 : w1.heap.size + 1 ≤ w3.heap.size := by have := hb3.size; (try simp at this); omega
    have hx3_0 := fun o : Nat => hc3 (w1.heap.size) o (by first | omega | (simp; done) | (simp; omega))
    have hxf3_0 := fun o : Nat => hf3 (w1.heap.size) o (by first | omega | (simp; done) | (simp; omega))
    clear hc3 hf3
    clear hb3
    obtain ⟨u, hu⟩ := HMM.out _ _ _ _ hpo
    have HU := Lib.hid hu
    have HPO := Lib.hid hpo
    have HM3 := Lib.hid (fun w0 => HMU.out (x1, y1) C4 u w0 hu)
    clear hu hpo
    obtain ⟨u1, u2⟩ := u
    unfold ddV C4 at *
    have hlt4_0 : w.heap.size < w3.heap.size := by omega
    have hne4_0 : ¬ (w.heap.size = w3.heap.size) := by omega
    have hen4_0 : ¬ (w3.heap.size = w.heap.size) := by omega
    have hlt4_1 : w1.heap.size < w3.heap.size := by omega
    have hne4_1 : ¬ (w1.heap.size = w3.heap.size) := by omega
    have hen4_1 : ¬ (w3.heap.size = w1.heap.size) := by omega
    go_wp2_with fail
    refine Calls.mono (HM3.out _) ?_
    rintro E w4 ⟨rfl, hb4⟩
    obtain ⟨hc4, hf4⟩ := bcell hb4
    have HW4 : Hid (Below w.heap.size w w4) := Lib.hid (by
      refine Below.trans ?_ (hb4.mono ?_)
      · (repeat (first | with_reducible exact HW3.out | refine Below.setCell (p := ⟨_, _, _⟩) ?_ (by first | omega | (simp; done) | (simp; omega)) _ | refine Below.alloc ?_ (by first | omega | (simp; done) | (simp; omega)) _ | refine Below.drew ?_ | refine below_dn ?_ _))
      · first | omega | (simp; done) | (simp; omega))
    have hs4 : w.heap.size + 1 ≤ w4.heap.size := by have := hb4.size; (try simp at this); omega
    have hc4_0 := fun o : Nat => hc4 (w.heap.size) o (by first | omega | (simp; done) | (simp; omega))
    have hf4_0 := fun o : Nat => hf4 (w.heap.size) o (by first | omega | (simp; done) | (simp; omega))
    have hsx4_0 : w1.heap.size + 1 ≤ w4.heap.size := by have := hb4.size; (try simp at this); omega
    have hx4_0 := fun o : Nat => hc4 (w1.heap.size) o (by first | omega | (simp; done) | (simp; omega))
    have hxf4_0 := fun o : Nat => hf4 (w1.heap.size) o (by first | omega | (simp; done) | (simp; omega))
    have hsx4_1 : w3.heap.size + 1 ≤ w4.heap.size := by have := hb4.size; (try simp at this); omega
    have hx4_1 := fun o : Nat => hc4 (w3.heap.size) o (by first | omega | (simp; done) | (simp; omega))
    have hxf4_1 := fun o : Nat => hf4 (w3.heap.size) o (by first | omega | (simp; done) | (simp; omega))
    have hsx4_2 : w3.heap.size + 1 + 1 ≤ w4.heap.size := by have := hb4.size; (try simp at this); omega
    have hx4_2 := fun o : Nat => hc4 (w3.heap.size + 1) o (by first | omega | (simp; done) | (simp; omega))
    have hxf4_2 := fun o : Nat => hf4 (w3.heap.size + 1) o (by first | omega | (simp; done) | (simp; omega))
    clear hc4 hf4
    clear hb4
    have q2 := Q2.out
    have q3 := Q3.out
    go_wp2_with fail
    have z1 : (w4.cell? ⟨w.heap.size, 0, none⟩).isSome = true := by simp [go_sem, hc1_0, hc2_0, hc3_0, hc4_0, show w.heap.size < w1.heap.size by omega, show ¬ (w.heap.size = w1.heap.size) by omega, show ¬ (w1.heap.size = w.heap.size) by omega, show w.heap.size < w1.heap.size + 1 by omega, show w.heap.size < w2.heap.size by omega, show ¬ (w.heap.size = w2.heap.size) by omega, show ¬ (w2.heap.size = w.heap.size) by omega, show w.heap.size < w2.heap.size + 1 by omega, show w.heap.size < w3.heap.size by omega, show ¬ (w.heap.size = w3.heap.size) by omega, show ¬ (w3.heap.size = w.heap.size) by omega, show w.heap.size < w3.heap.size + 1 by omega]
    have z2 : (w4.cell? ⟨w.heap.size, 1, none⟩).isSome = true := by simp [go_sem, hc1_0, hc2_0, hc3_0, hc4_0, show w.heap.size < w1.heap.size by omega, show ¬ (w.heap.size = w1.heap.size) by omega, show ¬ (w1.heap.size = w.heap.size) by omega, show w.heap.size < w1.heap.size + 1 by omega, show w.heap.size < w2.heap.size by omega, show ¬ (w.heap.size = w2.heap.size) by omega, show ¬ (w2.heap.size = w.heap.size) by omega, show w.heap.size < w2.heap.size + 1 by omega, show w.heap.size < w3.heap.size by omega, show ¬ (w.heap.size = w3.heap.size) by omega, show ¬ (w3.heap.size = w.heap.size) by omega, show w.heap.size < w3.heap.size + 1 by omega]
    go_region
    all_goals
      go_wp2_with fail
      refine bodyPost_ret (v := redV ((-((K : Int) + 1)) % 4) (u1, u2) 0) (by simp [results, Tryd.results9, go_sem, redV, ddV, z1, z2]) rfl ?_
      refine ⟨_, _, rfl, ?_, by (repeat (first | with_reducible exact HW4.out | refine Below.setCell (p := ⟨_, _, _⟩) ?_ (by first | omega | (simp; done) | (simp; omega)) _ | refine Below.alloc ?_ (by first | omega | (simp; done) | (simp; omega)) _ | refine Below.drew ?_ | refine below_dn ?_ _))⟩
      refine ⟨a, b, c, d, f, _, Z, x1, y1, (u1, u2), true, J0.out, J1.out, J2.out, J3.out, J4.out, HV.out, (fun h => by cases h), fun _ => ⟨by rw [← RR.out]; exact Hup.out, by rw [← RR.out]; exact HMV.out⟩, HPO.out, HU.out, rfl, by rw [← RK.out]; rfl⟩

end Go.Proofs.YtgihapdlliidgaaDoor
