/- The walks of package payne: Window, product, down, minus. -/
import Derived.Test.YtgihapdlliidgaaDoorDy
import Derived.Test.YtgihapdlliidgaaDoorFr
import Derived.LoopN
namespace Go.Proofs.YtgihapdlliidgaaDoor
open Go Go.RowKit
set_option linter.unusedVariables false
set_option linter.unusedSimpArgs false

/-- the words of 2/pi stand in memory -/
def Wrd (pw : Nat → Nat) (w : World) : Prop := 1 < w.heap.size ∧ ∀ j, j < 20 → pw j < B64 ∧ w.cell? ⟨1, j, none⟩ = some (.int .u64 (pw j : Nat))

theorem win_ne (w : World) (g : Nat) (h : g < w.heap.size) : ¬ (g = w.heap.size) ∧ ¬ (w.heap.size = g) ∧ ¬ (g = w.heap.size + 1) ∧ ¬ (w.heap.size + 1 = g) ∧ g < w.heap.size + 1 ∧ g < w.heap.size + 1 + 1 := by omega

set_option maxHeartbeats 4000000 in
set_option maxRecDepth 100000 in
theorem window0_calls (pw : Nat → Nat) (f : Nat) (A : Int) (hf : f ≤ 16) (hA1 : A / 64 = f) (hA2 : A % 64 = 0) (hA3 : 0 ≤ A) (hA4 : A ≤ 1024) (w : World) (hW : Wrd pw w) :
    Calls Tryd.prog 31 #[.int .i64 A] w fun E w' => E = .returned (.tuple #[.agg #[.int .u64 (pw f : Nat), .int .u64 (pw (f+1) : Nat), .int .u64 (pw (f+2) : Nat), .int .u64 (pw (f+3) : Nat)], .int .i64 0]) ∧ Below w.heap.size w w' := by
  have h0 := (hW.2 f (by omega)).2
  have h1 := (hW.2 (f+1) (by omega)).2
  have h2 := (hW.2 (f+2) (by omega)).2
  have h3 := (hW.2 (f+3) (by omega)).2
  have hlt := hW.1
  obtain ⟨hn1, hn2, hn3, hn4, hlt2, hlt3⟩ := win_ne w _ hlt
  clear hW
  have HW0 : Hid (Below w.heap.size w w) := Lib.hid (Below.refl _ _)
  go_enter Tryd.func31, Tryd.ntmps31
  go_wp2_with fail
  refine wp_loop_rounds 5 ?_
  iterate 5
    rw [rounds_succ]
    go_wp2_with fail
  refine bodyPost_ret (v := .tuple #[.agg #[.int .u64 (pw f : Nat), .int .u64 (pw (f+1) : Nat), .int .u64 (pw (f+2) : Nat), .int .u64 (pw (f+3) : Nat)], .int .i64 0]) (by simp [results, Tryd.results31, go_sem, intV, dyV]) rfl ?_
  exact ⟨rfl, by (repeat (first | with_reducible exact HW0.out | refine Below.setCell (p := ⟨_, _, _⟩) ?_ (by first | omega | (simp; done) | (simp; omega)) _ | refine Below.alloc ?_ (by first | omega | (simp; done) | (simp; omega)) _ | refine Below.drew ?_ | refine below_dn ?_ _))⟩

/-- a word of the window -/
def winW (pw : Nat → Nat) (f s i : Nat) : Nat := pw (f + i) * 2 ^ s % B64 + pw (f + i + 1) / 2 ^ (64 - s)

theorem win_word (x y s : Nat) (hx : x < B64) (hy : y < B64) (hs : s < 64) :
    Go.bits .or .u64 (IntKind.u64.wrap ((x : Int) * 2 ^ s)) ((y : Int) / 2 ^ (64 - s)) = ((x * 2 ^ s % B64 + y / 2 ^ (64 - s) : Nat) : Int) ∧ x * 2 ^ s % B64 + y / 2 ^ (64 - s) < B64 := by
  have hB := B64_split (k := s) (by omega)
  have hm : x * 2 ^ s % B64 = 2 ^ s * (x % 2 ^ (64 - s)) := by rw [hB, Nat.mul_comm x, Nat.mul_mod_mul_left]
  have hp := Nat.two_pow_pos s
  have hq := Nat.two_pow_pos (64 - s)
  have hc : y / 2 ^ (64 - s) < 2 ^ s := by
    rw [Nat.div_lt_iff_lt_mul hq, ← hB]; exact hy
  have hcB : y / 2 ^ (64 - s) < B64 := Nat.lt_of_le_of_lt (Nat.div_le_self _ _) hy
  constructor
  · have e : (x : Int) * 2 ^ s = ((x * 2 ^ s : Nat) : Int) := by simp
    have e2 : (y : Int) / 2 ^ (64 - s) = ((y / 2 ^ (64 - s) : Nat) : Int) := by simp
    rw [e, e2, wrap_u64_nat, Nat.add_comm, ← or_u64 (y / 2 ^ (64 - s)) (x * 2 ^ s % B64) s hc (Nat.mod_lt _ B64_pos) hcB ⟨_, hm⟩]
    rw [bits_or_u64_nat _ _ (by rw [← B64_eq]; exact Nat.mod_lt _ B64_pos) (by rw [← B64_eq]; exact hcB), bits_or_u64_nat _ _ (by rw [← B64_eq]; exact hcB) (by rw [← B64_eq]; exact Nat.mod_lt _ B64_pos), Nat.or_comm]
  · rw [hm]
    have h1 : x % 2 ^ (64 - s) + 1 ≤ 2 ^ (64 - s) := Nat.mod_lt _ hq
    have h2 := Nat.mul_le_mul_left (2 ^ s) h1
    rw [← hB, Nat.mul_add] at h2
    omega

set_option maxHeartbeats 4000000 in
set_option maxRecDepth 100000 in
theorem window1_calls (pw : Nat → Nat) (f s : Nat) (A : Int) (hf : f ≤ 15) (hs : 0 < s) (hs2 : s < 64) (hA1 : A / 64 = f) (hA2 : A % 64 = s) (hA3 : 0 ≤ A) (hA4 : A ≤ 1024) (w : World) (hW : Wrd pw w) :
    Calls Tryd.prog 31 #[.int .i64 A] w fun E w' => E = .returned (.tuple #[.agg #[.int .u64 (winW pw f s 0 : Nat), .int .u64 (winW pw f s 1 : Nat), .int .u64 (winW pw f s 2 : Nat), .int .u64 (winW pw f s 3 : Nat)], .int .i64 0]) ∧ Below w.heap.size w w' := by
  have h0 := (hW.2 f (by omega)).2
  have h1 := (hW.2 (f+1) (by omega)).2
  have h2 := (hW.2 (f+2) (by omega)).2
  have h3 := (hW.2 (f+3) (by omega)).2
  have h4 := (hW.2 (f+4) (by omega)).2
  have hlt := hW.1
  obtain ⟨hn1, hn2, hn3, hn4, hlt2, hlt3⟩ := win_ne w _ hlt
  have k0 : (0 : Int) ≤ (s : Int) := by omega
  have k00 : (0 : Int) < (s : Int) := by omega
  have k1 : (s : Int) ≤ 64 := by omega
  have k2 : (0 : Int) ≤ 64 - (s : Int) := by omega
  have k3 : 64 - (s : Int) ≤ 64 := by omega
  have E0 := (win_word (pw f) (pw (f+1)) s (hW.2 f (by omega)).1 (hW.2 (f+1) (by omega)).1 hs2).1
  have E1 := (win_word (pw (f+1)) (pw (f+2)) s (hW.2 (f+1) (by omega)).1 (hW.2 (f+2) (by omega)).1 hs2).1
  have E2 := (win_word (pw (f+2)) (pw (f+3)) s (hW.2 (f+2) (by omega)).1 (hW.2 (f+3) (by omega)).1 hs2).1
  have E3 := (win_word (pw (f+3)) (pw (f+4)) s (hW.2 (f+3) (by omega)).1 (hW.2 (f+4) (by omega)).1 hs2).1
  have R0 : pw f * 2 ^ s % B64 + pw (f+1) / 2 ^ (64 - s) = winW pw f s 0 := rfl
  have R1 : pw (f+1) * 2 ^ s % B64 + pw (f+2) / 2 ^ (64 - s) = winW pw f s 1 := rfl
  have R2 : pw (f+2) * 2 ^ s % B64 + pw (f+3) / 2 ^ (64 - s) = winW pw f s 2 := rfl
  have R3 : pw (f+3) * 2 ^ s % B64 + pw (f+4) / 2 ^ (64 - s) = winW pw f s 3 := rfl
  rw [R0] at E0
  rw [R1] at E1
  rw [R2] at E2
  rw [R3] at E3
  clear hW R0 R1 R2 R3
  have HW0 : Hid (Below w.heap.size w w) := Lib.hid (Below.refl _ _)
  go_enter Tryd.func31, Tryd.ntmps31
  go_wp2_with fail
  refine wp_loop_rounds 5 ?_
  iterate 4
    rw [rounds_succ]
    go_wp2_with fail
    go_region
    go_wp2_with fail
  rw [rounds_succ]
  go_wp2_with fail
  refine bodyPost_ret (v := .tuple #[.agg #[.int .u64 (winW pw f s 0 : Nat), .int .u64 (winW pw f s 1 : Nat), .int .u64 (winW pw f s 2 : Nat), .int .u64 (winW pw f s 3 : Nat)], .int .i64 0]) (by simp [results, Tryd.results31, go_sem, intV, dyV]) rfl ?_
  exact ⟨rfl, by (repeat (first | with_reducible exact HW0.out | refine Below.setCell (p := ⟨_, _, _⟩) ?_ (by first | omega | (simp; done) | (simp; omega)) _ | refine Below.alloc ?_ (by first | omega | (simp; done) | (simp; omega)) _ | refine Below.drew ?_ | refine below_dn ?_ _))⟩

/-- a number of 320 bits, as Go holds it -/
def wideV (a : Nat → Nat) : Value := .agg #[.int .u64 (a 0 : Nat), .int .u64 (a 1 : Nat), .int .u64 (a 2 : Nat), .int .u64 (a 3 : Nat), .int .u64 (a 4 : Nat)]

theorem mul64_calls (x y : Nat) (hx : x < B64) (hy : y < B64) (w : World) :
    Calls Tryd.prog 55 #[.int .u64 (x : Nat), .int .u64 (y : Nat)] w fun e w' => e = .returned (.tuple #[.int .u64 ((x * y / B64 : Nat) : Int), .int .u64 ((x * y % B64 : Nat) : Int)]) ∧ w = w' := by
  rw [B64_eq] at *
  refine (Tryd.bits_Mul64 x y hx hy w).mono ?_
  rintro E w' ⟨rfl, rfl⟩
  exact ⟨rfl, rfl⟩

theorem prod_round (m x c : Nat) (hm : m < 9007199254740992) (hx : x < B64) (hc : c ≤ m) : ∃ H L S K C : Nat,
    (∀ w, Calls Tryd.prog 55 #[.int .u64 (m : Nat), .int .u64 (x : Nat)] w fun e w' => e = .returned (.tuple #[.int .u64 (H : Nat), .int .u64 (L : Nat)]) ∧ w = w') ∧
    (∀ w, (callFunc 56 #[.int .u64 (L : Nat), .int .u64 (c : Nat), .int .u64 0]).run Tryd.prog w = .ok (.value (.tuple #[.int .u64 (S : Nat), .int .u64 (K : Nat)])) w) ∧
    IntKind.u64.wrap ((H : Int) + (K : Int)) = (C : Int) ∧ m * x + c = S + B64 * C ∧ S < B64 ∧ C ≤ m := by
  have hmB : m < B64 := by rw [B64_eq]; omega
  have hcB : c < B64 := by omega
  have h1 := Nat.div_add_mod (m * x) B64
  have h2 := Nat.mod_lt (m * x) B64_pos
  have h3 := Nat.div_add_mod (m * x % B64 + c) B64
  have h4 := Nat.mod_lt (m * x % B64 + c) B64_pos
  have hC : m * x + c = (m * x % B64 + c) % B64 + B64 * (m * x / B64 + (m * x % B64 + c) / B64) := by rw [Nat.mul_add]; omega
  have hle : m * x / B64 + (m * x % B64 + c) / B64 ≤ m := by
    have e : m * x + c ≤ m * B64 := by
      have := Nat.mul_le_mul_left m (show x + 1 ≤ B64 by omega)
      rw [Nat.mul_add] at this; omega
    have e2 : B64 * (m * x / B64 + (m * x % B64 + c) / B64) ≤ B64 * m := by rw [Nat.mul_comm B64 m]; omega
    exact Nat.le_of_mul_le_mul_left e2 B64_pos
  refine ⟨m * x / B64, m * x % B64, (m * x % B64 + c) % B64, (m * x % B64 + c) / B64, m * x / B64 + (m * x % B64 + c) / B64, fun w => mul64_calls m x hmB hx w, fun w => ?_, ?_, hC, h4, hle⟩
  · have := add64_nat (m * x % B64) c 0 (by omega) w
    rw [Nat.add_zero] at this
    exact this
  · have e : ((m * x / B64 : Nat) : Int) + (((m * x % B64 + c) / B64 : Nat) : Int) = ((m * x / B64 + (m * x % B64 + c) / B64 : Nat) : Int) := by simp
    rw [e, wrap_u64_nat, Nat.mod_eq_of_lt (by omega)]

set_option maxHeartbeats 4000000 in
set_option maxRecDepth 100000 in
theorem product_calls (m a b c d : Nat) (hm : m < 9007199254740992) (ha : a < B64) (hb : b < B64) (hc : c < B64) (hd : d < B64) (w : World) :
    Calls Tryd.prog 32 #[.int .u64 (m : Nat), .agg #[.int .u64 (a : Nat), .int .u64 (b : Nat), .int .u64 (c : Nat), .int .u64 (d : Nat)]] w fun E w' => ∃ v0 v1 v2 v3 v4 : Nat, E = .returned (.agg #[.int .u64 (v0 : Nat), .int .u64 (v1 : Nat), .int .u64 (v2 : Nat), .int .u64 (v3 : Nat), .int .u64 (v4 : Nat)]) ∧
      v4 + B64 * (v3 + B64 * (v2 + B64 * (v1 + B64 * v0))) = m * (d + B64 * (c + B64 * (b + B64 * a))) ∧ v0 ≤ m ∧ v1 < B64 ∧ v2 < B64 ∧ v3 < B64 ∧ v4 < B64 ∧ Below w.heap.size w w' := by
  obtain ⟨H0, L0, S0, K0, C0, m0, a0, w0, e0, s0, c0⟩ := prod_round m d 0 hm hd (Nat.zero_le _)
  obtain ⟨H1, L1, S1, K1, C1, m1, a1, w1, e1, s1, c1⟩ := prod_round m c C0 hm hc c0
  obtain ⟨H2, L2, S2, K2, C2, m2, a2, w2, e2, s2, c2⟩ := prod_round m b C1 hm hb c1
  obtain ⟨H3, L3, S3, K3, C3, m3, a3, w3, e3, s3, c3⟩ := prod_round m a C2 hm ha c2
  have a0' : ∀ w, (callFunc 56 #[.int .u64 (L0 : Nat), .int .u64 0, .int .u64 0]).run Tryd.prog w = .ok (.value (.tuple #[.int .u64 (S0 : Nat), .int .u64 (K0 : Nat)])) w := a0
  have HE : Hid (S0 + B64 * (S1 + B64 * (S2 + B64 * (S3 + B64 * C3))) = m * (d + B64 * (c + B64 * (b + B64 * a)))) := Lib.hid (by
    have y2 : S2 + B64 * (S3 + B64 * C3) = C1 + m * (b + B64 * a) := by rw [← e3, Nat.mul_add, Nat.mul_add, Nat.mul_left_comm m B64 a]; omega
    have y1 : S1 + B64 * (S2 + B64 * (S3 + B64 * C3)) = C0 + m * (c + B64 * (b + B64 * a)) := by rw [y2, Nat.mul_add, Nat.mul_add m c, Nat.mul_left_comm m B64]; omega
    rw [y1, Nat.mul_add, Nat.mul_add m d, Nat.mul_left_comm m B64]; omega)
  have M0 := Lib.hid m0
  have M1 := Lib.hid m1
  have M2 := Lib.hid m2
  have M3 := Lib.hid m3
  clear a0 e0 e1 e2 e3 m0 m1 m2 m3
  have HW0 : Hid (Below w.heap.size w w) := Lib.hid (Below.refl _ _)
  go_enter Tryd.func32, Tryd.ntmps32
  go_wp2_with fail
  refine wp_loop_rounds 5 ?_
  rw [rounds_succ]
  go_wp2_with fail
  refine (M0.out _).mono ?_
  rintro E w' ⟨rfl, rfl⟩
  go_wp2_with fail
  rw [rounds_succ]
  go_wp2_with fail
  refine (M1.out _).mono ?_
  rintro E w' ⟨rfl, rfl⟩
  go_wp2_with fail
  rw [rounds_succ]
  go_wp2_with fail
  refine (M2.out _).mono ?_
  rintro E w' ⟨rfl, rfl⟩
  go_wp2_with fail
  rw [rounds_succ]
  go_wp2_with fail
  refine (M3.out _).mono ?_
  rintro E w' ⟨rfl, rfl⟩
  go_wp2_with fail
  rw [rounds_succ]
  go_wp2_with fail
  refine bodyPost_ret (v := .agg #[.int .u64 (C3 : Nat), .int .u64 (S3 : Nat), .int .u64 (S2 : Nat), .int .u64 (S1 : Nat), .int .u64 (S0 : Nat)]) (by simp [results, Tryd.results32, go_sem, intV, dyV]) rfl ?_
  exact ⟨C3, S3, S2, S1, S0, rfl, HE.out, c3, s3, s2, s1, s0, by (repeat (first | with_reducible exact HW0.out | refine Below.setCell (p := ⟨_, _, _⟩) ?_ (by first | omega | (simp; done) | (simp; omega)) _ | refine Below.alloc ?_ (by first | omega | (simp; done) | (simp; omega)) _ | refine Below.drew ?_ | refine below_dn ?_ _))⟩

/-- the number of five words -/
def wv (a b c d e : Nat) : Nat := e + B64 * (d + B64 * (c + B64 * (b + B64 * a)))

/-- a word shifted down, filled from above -/
def shrd (x y n : Nat) : Nat := x / 2 ^ n + 2 ^ (64 - n) * (y % 2 ^ n)

theorem shrd_word (x y n : Nat) (hx : x < B64) (hy : y < B64) (hn : 0 < n) (hn2 : n < 64) :
    Go.bits .or .u64 ((x : Int) / 2 ^ n) (IntKind.u64.wrap ((y : Int) * 2 ^ (64 - n))) = ((shrd x y n : Nat) : Int) ∧ shrd x y n < B64 := by
  have hB := B64_split (k := 64 - n) (by omega)
  rw [show 64 - (64 - n) = n by omega] at hB
  have hm : y * 2 ^ (64 - n) % B64 = 2 ^ (64 - n) * (y % 2 ^ n) := by rw [hB, Nat.mul_comm y, Nat.mul_mod_mul_left]
  have hp := Nat.two_pow_pos n
  have hq := Nat.two_pow_pos (64 - n)
  have hc : x / 2 ^ n < 2 ^ (64 - n) := by
    rw [Nat.div_lt_iff_lt_mul hp, ← hB]; exact hx
  have hcB : x / 2 ^ n < B64 := Nat.lt_of_le_of_lt (Nat.div_le_self _ _) hx
  constructor
  · have e : (y : Int) * 2 ^ (64 - n) = ((y * 2 ^ (64 - n) : Nat) : Int) := by simp
    have e2 : (x : Int) / 2 ^ n = ((x / 2 ^ n : Nat) : Int) := by simp
    rw [e, e2, wrap_u64_nat]
    unfold shrd
    rw [← hm]
    exact or_u64 (x / 2 ^ n) (y * 2 ^ (64 - n) % B64) (64 - n) hc (Nat.mod_lt _ B64_pos) hcB ⟨_, hm⟩
  · unfold shrd
    have h1 : y % 2 ^ n + 1 ≤ 2 ^ n := Nat.mod_lt _ hp
    have h2 := Nat.mul_le_mul_left (2 ^ (64 - n)) h1
    rw [← hB, Nat.mul_add] at h2
    omega

theorem shrd_eq (x y n : Nat) (hn : n ≤ 64) : 2 ^ n * shrd x y n + x % 2 ^ n = x + B64 * (y % 2 ^ n) := by
  have hB := B64_split (k := n) hn
  unfold shrd
  rw [Nat.mul_add, ← Nat.mul_assoc, ← hB]
  have := Nat.div_add_mod x (2 ^ n)
  omega

theorem wv_shr (a b c d e n : Nat) (hn : n ≤ 64) : wv (a / 2 ^ n) (shrd b a n) (shrd c b n) (shrd d c n) (shrd e d n) = wv a b c d e / 2 ^ n := by
  have hp := Nat.two_pow_pos n
  symm
  rw [Nat.div_eq_iff hp]
  have e0 := Nat.div_add_mod a (2 ^ n)
  have e1 := shrd_eq b a n hn
  have e2 := shrd_eq c b n hn
  have e3 := shrd_eq d c n hn
  have e4 := shrd_eq e d n hn
  have hr : e % 2 ^ n < 2 ^ n := Nat.mod_lt _ hp
  have key : 2 ^ n * wv (a / 2 ^ n) (shrd b a n) (shrd c b n) (shrd d c n) (shrd e d n) + e % 2 ^ n = wv a b c d e := by
    unfold wv
    have y1 : 2 ^ n * (shrd b a n + B64 * (a / 2 ^ n)) + b % 2 ^ n = b + B64 * a := by
      rw [Nat.mul_add, Nat.mul_left_comm]
      have : B64 * (2 ^ n * (a / 2 ^ n) + a % 2 ^ n) = B64 * a := by rw [e0]
      rw [Nat.mul_add] at this
      omega
    have y2 : 2 ^ n * (shrd c b n + B64 * (shrd b a n + B64 * (a / 2 ^ n))) + c % 2 ^ n = c + B64 * (b + B64 * a) := by
      rw [Nat.mul_add, Nat.mul_left_comm]
      have : B64 * (2 ^ n * (shrd b a n + B64 * (a / 2 ^ n)) + b % 2 ^ n) = B64 * (b + B64 * a) := by rw [y1]
      rw [Nat.mul_add] at this
      omega
    have y3 : 2 ^ n * (shrd d c n + B64 * (shrd c b n + B64 * (shrd b a n + B64 * (a / 2 ^ n)))) + d % 2 ^ n = d + B64 * (c + B64 * (b + B64 * a)) := by
      rw [Nat.mul_add, Nat.mul_left_comm]
      have : B64 * (2 ^ n * (shrd c b n + B64 * (shrd b a n + B64 * (a / 2 ^ n))) + c % 2 ^ n) = B64 * (c + B64 * (b + B64 * a)) := by rw [y2]
      rw [Nat.mul_add] at this
      omega
    rw [Nat.mul_add, Nat.mul_left_comm]
    have : B64 * (2 ^ n * (shrd d c n + B64 * (shrd c b n + B64 * (shrd b a n + B64 * (a / 2 ^ n)))) + d % 2 ^ n) = B64 * (d + B64 * (c + B64 * (b + B64 * a))) := by rw [y3]
    rw [Nat.mul_add] at this
    omega
  rw [Nat.mul_comm] at key
  omega

def wideA (a b c d e : Nat) : Value := .agg #[.int .u64 (a : Nat), .int .u64 (b : Nat), .int .u64 (c : Nat), .int .u64 (d : Nat), .int .u64 (e : Nat)]

set_option maxHeartbeats 4000000 in
set_option maxRecDepth 100000 in
theorem down0_calls (a b c d e : Nat) (w : World) :
    Calls Tryd.prog 33 #[.agg #[.int .u64 (a : Nat), .int .u64 (b : Nat), .int .u64 (c : Nat), .int .u64 (d : Nat), .int .u64 (e : Nat)], .int .i64 0] w fun E w' => E = .returned (.agg #[.int .u64 (a : Nat), .int .u64 (b : Nat), .int .u64 (c : Nat), .int .u64 (d : Nat), .int .u64 (e : Nat)]) ∧ Below w.heap.size w w' := by
  have HW0 : Hid (Below w.heap.size w w) := Lib.hid (Below.refl _ _)
  go_enter Tryd.func33, Tryd.ntmps33
  go_wp2_with fail
  refine wp_loop_rounds 1 ?_
  rw [rounds_succ]
  go_wp2_with fail
  refine bodyPost_ret (v := .agg #[.int .u64 (a : Nat), .int .u64 (b : Nat), .int .u64 (c : Nat), .int .u64 (d : Nat), .int .u64 (e : Nat)]) (by simp [results, Tryd.results33, go_sem, intV, dyV]) rfl ?_
  exact ⟨rfl, by (repeat (first | with_reducible exact HW0.out | refine Below.setCell (p := ⟨_, _, _⟩) ?_ (by first | omega | (simp; done) | (simp; omega)) _ | refine Below.alloc ?_ (by first | omega | (simp; done) | (simp; omega)) _ | refine Below.drew ?_ | refine below_dn ?_ _))⟩

set_option maxHeartbeats 4000000 in
set_option maxRecDepth 100000 in
theorem down1_calls (a b c d e n : Nat) (hn : 0 < n) (hn2 : n < 64) (ha : a < B64) (hb : b < B64) (hc : c < B64) (hd : d < B64) (he : e < B64) (w : World) :
    Calls Tryd.prog 33 #[.agg #[.int .u64 (a : Nat), .int .u64 (b : Nat), .int .u64 (c : Nat), .int .u64 (d : Nat), .int .u64 (e : Nat)], .int .i64 (n : Nat)] w fun E w' => E = .returned (.agg #[.int .u64 (a / 2 ^ n : Nat), .int .u64 (shrd b a n : Nat), .int .u64 (shrd c b n : Nat), .int .u64 (shrd d c n : Nat), .int .u64 (shrd e d n : Nat)]) ∧ Below w.heap.size w w' := by
  have E1 := (shrd_word b a n hb ha hn hn2).1
  have E2 := (shrd_word c b n hc hb hn hn2).1
  have E3 := (shrd_word d c n hd hc hn hn2).1
  have E4 := (shrd_word e d n he hd hn hn2).1
  have E0 : (a : Int) / 2 ^ n = ((a / 2 ^ n : Nat) : Int) := by simp
  have k0 : (0 : Int) ≤ (n : Int) := by omega
  have k00 : ¬ ((n : Int) = 0) := by omega
  have k01 : ((n : Int) == 0) = false := by rw [beq_eq_false_iff_ne]; omega
  have k1 : (n : Int) ≤ 64 := by omega
  have k1' : ¬ ((n : Int) ≥ 64) := by omega
  have k1'' : (n : Int) < 64 := by omega
  have k2 : (0 : Int) ≤ 64 - (n : Int) := by omega
  have k3 : 64 - (n : Int) ≤ 64 := by omega
  have HW0 : Hid (Below w.heap.size w w) := Lib.hid (Below.refl _ _)
  go_enter Tryd.func33, Tryd.ntmps33
  go_wp2_with fail
  refine wp_loop_rounds 1 ?_
  rw [rounds_succ]
  go_wp2_with fail
  refine wp_loop_rounds 5 ?_
  iterate 4
    rw [rounds_succ]
    go_wp2_with fail
    go_region
    go_wp2_with fail
  rw [rounds_succ]
  go_wp2_with fail
  clear E0
  go_wp2
  refine bodyPost_ret (v := .agg #[.int .u64 (a / 2 ^ n : Nat), .int .u64 (shrd b a n : Nat), .int .u64 (shrd c b n : Nat), .int .u64 (shrd d c n : Nat), .int .u64 (shrd e d n : Nat)]) (by simp [results, Tryd.results33, go_sem, intV, dyV]) rfl ?_
  exact ⟨rfl, by (repeat (first | with_reducible exact HW0.out | refine Below.setCell (p := ⟨_, _, _⟩) ?_ (by first | omega | (simp; done) | (simp; omega)) _ | refine Below.alloc ?_ (by first | omega | (simp; done) | (simp; omega)) _ | refine Below.drew ?_ | refine below_dn ?_ _))⟩

set_option maxHeartbeats 4000000 in
set_option maxRecDepth 100000 in
theorem down2_calls (a b c d e : Nat) (w : World) :
    Calls Tryd.prog 33 #[.agg #[.int .u64 (a : Nat), .int .u64 (b : Nat), .int .u64 (c : Nat), .int .u64 (d : Nat), .int .u64 (e : Nat)], .int .i64 64] w fun E w' => E = .returned (.agg #[.int .u64 0, .int .u64 (a : Nat), .int .u64 (b : Nat), .int .u64 (c : Nat), .int .u64 (d : Nat)]) ∧ Below w.heap.size w w' := by
  have HW0 : Hid (Below w.heap.size w w) := Lib.hid (Below.refl _ _)
  go_enter Tryd.func33, Tryd.ntmps33
  go_wp2_with fail
  refine wp_loop_rounds 2 ?_
  iterate 2
    rw [rounds_succ]
    go_wp2_with fail
  refine bodyPost_ret (v := .agg #[.int .u64 0, .int .u64 (a : Nat), .int .u64 (b : Nat), .int .u64 (c : Nat), .int .u64 (d : Nat)]) (by simp [results, Tryd.results33, go_sem, intV, dyV]) rfl ?_
  exact ⟨rfl, by (repeat (first | with_reducible exact HW0.out | refine Below.setCell (p := ⟨_, _, _⟩) ?_ (by first | omega | (simp; done) | (simp; omega)) _ | refine Below.alloc ?_ (by first | omega | (simp; done) | (simp; omega)) _ | refine Below.drew ?_ | refine below_dn ?_ _))⟩

set_option maxHeartbeats 4000000 in
set_option maxRecDepth 100000 in
theorem down3_calls (a b c d e n : Nat) (N : Int) (hN : N - 64 = (n : Nat)) (hn : 0 < n) (hn2 : n < 64) (ha : a < B64) (hb : b < B64) (hc : c < B64) (hd : d < B64) (w : World) :
    Calls Tryd.prog 33 #[.agg #[.int .u64 (a : Nat), .int .u64 (b : Nat), .int .u64 (c : Nat), .int .u64 (d : Nat), .int .u64 (e : Nat)], .int .i64 N] w fun E w' => E = .returned (.agg #[.int .u64 0, .int .u64 (a / 2 ^ n : Nat), .int .u64 (shrd b a n : Nat), .int .u64 (shrd c b n : Nat), .int .u64 (shrd d c n : Nat)]) ∧ Below w.heap.size w w' := by
  have E1 := (shrd_word b a n hb ha hn hn2).1
  have E2 := (shrd_word c b n hc hb hn hn2).1
  have E3 := (shrd_word d c n hd hc hn hn2).1
  have E0 : Go.bits .or .u64 ((a : Int) / 2 ^ n) 0 = ((a / 2 ^ n : Nat) : Int) := by
    have := (shrd_word a 0 n ha B64_pos hn hn2).1
    unfold shrd at this
    simpa [IntKind.wrap_u64] using this
  have Hn : Hid (N - 64 = (n : Nat)) := Lib.hid hN
  have k0 : (0 : Int) ≤ (n : Int) := by omega
  have k00 : ¬ ((n : Int) = 0) := by omega
  have k01 : ((n : Int) == 0) = false := by rw [beq_eq_false_iff_ne]; omega
  have k1 : (n : Int) ≤ 64 := by omega
  have k1' : ¬ ((n : Int) ≥ 64) := by omega
  have k1'' : (n : Int) < 64 := by omega
  have k2 : (0 : Int) ≤ 64 - (n : Int) := by omega
  have k3 : 64 - (n : Int) ≤ 64 := by omega
  have j1 : (64 : Int) ≤ N := by omega
  have HW0 : Hid (Below w.heap.size w w) := Lib.hid (Below.refl _ _)
  go_enter Tryd.func33, Tryd.ntmps33
  go_wp2_with fail
  refine wp_loop_rounds 2 ?_
  rw [rounds_succ]
  go_wp2_with fail
  rw [rounds_succ]
  go_wp2_with fail
  refine wp_loop_rounds 5 ?_
  iterate 4
    rw [rounds_succ]
    go_wp2_with fail
    go_region
    go_wp2_with fail
  rw [rounds_succ]
  go_wp2_with fail
  refine bodyPost_ret (v := .agg #[.int .u64 0, .int .u64 (a / 2 ^ n : Nat), .int .u64 (shrd b a n : Nat), .int .u64 (shrd c b n : Nat), .int .u64 (shrd d c n : Nat)]) (by simp [results, Tryd.results33, go_sem, intV, dyV]) rfl ?_
  exact ⟨rfl, by (repeat (first | with_reducible exact HW0.out | refine Below.setCell (p := ⟨_, _, _⟩) ?_ (by first | omega | (simp; done) | (simp; omega)) _ | refine Below.alloc ?_ (by first | omega | (simp; done) | (simp; omega)) _ | refine Below.drew ?_ | refine below_dn ?_ _))⟩

theorem wv_down (a b c d e : Nat) (he : e < B64) : wv 0 a b c d = wv a b c d e / 2 ^ 64 := by
  rw [show (2 : Nat) ^ 64 = B64 from by rw [B64_eq]]
  unfold wv
  rw [Nat.add_mul_div_left _ _ B64_pos, Nat.div_eq_of_lt he, Nat.mul_zero, Nat.add_zero, Nat.zero_add]

/-- down: the number divided, rounded down -/
theorem down_calls (a b c d e n : Nat) (hn : n < 128) (ha : a < B64) (hb : b < B64) (hc : c < B64) (hd : d < B64) (he : e < B64) (w : World) :
    Calls Tryd.prog 33 #[wideA a b c d e, .int .i64 (n : Nat)] w fun E w' => ∃ a' b' c' d' e', E = .returned (wideA a' b' c' d' e') ∧ a' < B64 ∧ b' < B64 ∧ c' < B64 ∧ d' < B64 ∧ e' < B64 ∧ wv a' b' c' d' e' = wv a b c d e / 2 ^ n ∧ Below w.heap.size w w' := by
  unfold wideA
  rcases Nat.eq_zero_or_pos n with h0 | h0
  · subst h0
    refine (down0_calls a b c d e w).mono ?_
    rintro E w' ⟨rfl, hb1⟩
    exact ⟨a, b, c, d, e, rfl, ha, hb, hc, hd, he, by rw [Nat.pow_zero, Nat.div_one], hb1⟩
  · rcases Nat.lt_or_ge n 64 with h1 | h1
    · refine (down1_calls a b c d e n h0 h1 ha hb hc hd he w).mono ?_
      rintro E w' ⟨rfl, hb1⟩
      exact ⟨_, _, _, _, _, rfl, Nat.lt_of_le_of_lt (Nat.div_le_self _ _) ha, (shrd_word b a n hb ha h0 h1).2, (shrd_word c b n hc hb h0 h1).2, (shrd_word d c n hd hc h0 h1).2, (shrd_word e d n he hd h0 h1).2, wv_shr a b c d e n (by omega), hb1⟩
    · rcases Nat.lt_or_ge 64 n with h2 | h2
      · refine (down3_calls a b c d e (n - 64) (n : Int) (by omega) (by omega) (by omega) ha hb hc hd w).mono ?_
        rintro E w' ⟨rfl, hb1⟩
        refine ⟨0, _, _, _, _, rfl, B64_pos, Nat.lt_of_le_of_lt (Nat.div_le_self _ _) ha, (shrd_word b a _ hb ha (by omega) (by omega)).2, (shrd_word c b _ hc hb (by omega) (by omega)).2, (shrd_word d c _ hd hc (by omega) (by omega)).2, ?_, hb1⟩
        have k1 := wv_shr 0 a b c d (n - 64) (by omega)
        rw [wv_down a b c d e he, Nat.div_div_eq_div_mul, ← Nat.pow_add, show 64 + (n - 64) = n by omega, Nat.zero_div] at k1
        rw [← k1]
        unfold shrd
        rw [Nat.zero_mod, Nat.mul_zero, Nat.add_zero]
      · have : n = 64 := by omega
        subst this
        refine (down2_calls a b c d e w).mono ?_
        rintro E w' ⟨rfl, hb1⟩
        exact ⟨0, a, b, c, d, rfl, B64_pos, ha, hb, hc, hd, wv_down a b c d e he, hb1⟩

theorem sub_round (y c : Nat) (hy : y < B64) (hc : c ≤ 1) : ∃ S C : Nat,
    (∀ w, (callFunc 34 #[.int .u64 0, .int .u64 (y : Nat), .int .u64 (c : Nat)]).run Tryd.prog w = .ok (.value (.tuple #[.int .u64 (S : Nat), .int .u64 (C : Nat)])) w) ∧
    S + y + c = B64 * C ∧ S < B64 ∧ C ≤ 1 := by
  refine ⟨(0 + B64 - y - c) % B64, if 0 < y + c then 1 else 0, fun w => sub64_nat 0 y c hc w, ?_, Nat.mod_lt _ B64_pos, by split <;> omega⟩
  by_cases h : 0 < y + c
  · rw [if_pos h, Nat.mod_eq_of_lt (by omega)]; omega
  · rw [if_neg h]
    have : y = 0 := by omega
    have : c = 0 := by omega
    subst y c
    simp

set_option maxHeartbeats 4000000 in
set_option maxRecDepth 100000 in
theorem minus_calls (a b c d e : Nat) (hb : b < B64) (hc : c < B64) (hd : d < B64) (he : e < B64) (w : World) :
    Calls Tryd.prog 19 #[.agg #[.int .u64 (a : Nat), .int .u64 (b : Nat), .int .u64 (c : Nat), .int .u64 (d : Nat), .int .u64 (e : Nat)]] w fun E w' => ∃ b' c' d' e' k : Nat, E = .returned (.agg #[.int .u64 (a : Nat), .int .u64 (b' : Nat), .int .u64 (c' : Nat), .int .u64 (d' : Nat), .int .u64 (e' : Nat)]) ∧ b' < B64 ∧ c' < B64 ∧ d' < B64 ∧ e' < B64 ∧ k ≤ 1 ∧
      wv 0 b' c' d' e' + wv 0 b c d e = B64 * (B64 * (B64 * (B64 * k))) ∧ Below w.heap.size w w' := by
  obtain ⟨S0, C0, a0, e0, s0, c0⟩ := sub_round e 0 he (by omega)
  obtain ⟨S1, C1, a1, e1, s1, c1⟩ := sub_round d C0 hd c0
  obtain ⟨S2, C2, a2, e2, s2, c2⟩ := sub_round c C1 hc c1
  obtain ⟨S3, C3, a3, e3, s3, c3⟩ := sub_round b C2 hb c2
  have a0' : ∀ w, (callFunc 34 #[.int .u64 0, .int .u64 (e : Nat), .int .u64 0]).run Tryd.prog w = .ok (.value (.tuple #[.int .u64 (S0 : Nat), .int .u64 (C0 : Nat)])) w := a0
  have HE : Hid (wv 0 S3 S2 S1 S0 + wv 0 b c d e = B64 * (B64 * (B64 * (B64 * C3)))) := Lib.hid (by
    unfold wv
    simp only [Nat.mul_zero, Nat.add_zero]
    have z3 : B64 * (B64 * C3) = B64 * S3 + B64 * b + B64 * C2 := by rw [← e3]; simp only [Nat.mul_add]
    rw [z3]
    have z2 : B64 * (B64 * S3 + B64 * b + B64 * C2) = B64 * (B64 * S3) + B64 * (B64 * b) + B64 * (S2 + c + C1) := by rw [e2]; simp only [Nat.mul_add]
    rw [z2]
    have z1 : B64 * (B64 * (B64 * S3) + B64 * (B64 * b) + B64 * (S2 + c + C1)) = B64 * (B64 * (B64 * S3)) + B64 * (B64 * (B64 * b)) + B64 * (B64 * S2) + B64 * (B64 * c) + B64 * (S1 + d + C0) := by rw [e1]; simp only [Nat.mul_add]; omega
    rw [z1]
    simp only [Nat.mul_add]
    omega)
  clear a0 e0 e1 e2 e3
  have HW0 : Hid (Below w.heap.size w w) := Lib.hid (Below.refl _ _)
  go_enter Tryd.func19, Tryd.ntmps19
  go_wp2_with fail
  refine wp_loop_rounds 5 ?_
  iterate 4
    rw [rounds_succ]
    go_wp2_with fail
  rw [rounds_succ]
  go_wp2_with fail
  refine bodyPost_ret (v := .agg #[.int .u64 (a : Nat), .int .u64 (S3 : Nat), .int .u64 (S2 : Nat), .int .u64 (S1 : Nat), .int .u64 (S0 : Nat)]) (by simp [results, Tryd.results19, go_sem, intV, dyV]) rfl ?_
  exact ⟨S3, S2, S1, S0, C3, rfl, s3, s2, s1, s0, c3, HE.out, by (repeat (first | with_reducible exact HW0.out | refine Below.setCell (p := ⟨_, _, _⟩) ?_ (by first | omega | (simp; done) | (simp; omega)) _ | refine Below.alloc ?_ (by first | omega | (simp; done) | (simp; omega)) _ | refine Below.drew ?_ | refine below_dn ?_ _))⟩

end Go.Proofs.YtgihapdlliidgaaDoor
