/- The walks of package payne, on: part. -/
import Derived.Test.YtgihapdlliidgaaDoorPw2
namespace Go.Proofs.YtgihapdlliidgaaDoor
open Go Go.RowKit
set_option linter.unusedVariables false
set_option linter.unusedSimpArgs false
set_option exponentiation.threshold 3000

theorem lz_calls (x : Nat) (hx : x < B64) (w : World) : Calls Tryd.prog 35 #[.int .u64 (x : Nat)] w fun e w' => e = .returned (.int .i64 ((64 - blen x : Nat) : Int)) ∧ w = w' := by
  have hb : blen x ≤ 64 := by
    unfold blen
    split
    · omega
    · rename_i h
      have a := Nat.log2_self_le h
      rw [B64_eq] at hx
      have : 2 ^ x.log2 < 2 ^ 64 := Nat.lt_of_le_of_lt a hx
      have := (Nat.pow_lt_pow_iff_right (a := 2) (by decide)).1 this
      omega
  refine (Tryd.bits_LeadingZeros64 (x : Int) w (by omega) (by rw [B64_eq] at hx; omega)).mono ?_
  rintro E w' ⟨rfl, rfl⟩
  refine ⟨?_, rfl⟩
  rw [Int.toNat_natCast, bitLen_blen x hx]
  congr 2
  omega

theorem wrap64_id (n : Int) (h1 : -9223372036854775808 ≤ n) (h2 : n ≤ 9223372036854775807) : wrap64 n = n := by unfold wrap64; omega

theorem zfacts (c : Int) (s : Nat) (h1 : 0 ≤ c) (h2 : c ≤ 192) (h3 : s < 64) : wrap64 (c + (s : Int)) = c + (s : Int) ∧ wrap64 (-53 - (c + (s : Int))) = -53 - (c + (s : Int)) ∧ wrap64 (-106 - (c + (s : Int))) = -106 - (c + (s : Int)) ∧
    -53 - (c + (s : Int)) ≤ 0 ∧ -1000 ≤ -53 - (c + (s : Int)) ∧ -106 - (c + (s : Int)) ≤ 0 ∧ -1000 ≤ -106 - (c + (s : Int)) :=
  ⟨wrap64_id _ (by omega) (by omega), wrap64_id _ (by omega) (by omega), wrap64_id _ (by omega) (by omega), by omega, by omega, by omega, by omega⟩
theorem sfacts (s : Nat) (h0 : 0 < s) (h3 : s < 64) : (0 : Int) ≤ (s : Int) ∧ (0 : Int) < (s : Int) ∧ (s : Int) ≤ 64 ∧ (s : Int) < 64 ∧ (0 : Int) ≤ 64 - (s : Int) ∧ 64 - (s : Int) ≤ 64 ∧
    wrap64 (-53 - (s : Int)) = -53 - (s : Int) ∧ wrap64 (-106 - (s : Int)) = -106 - (s : Int) ∧ -53 - (s : Int) ≤ 0 ∧ -1000 ≤ -53 - (s : Int) ∧ -106 - (s : Int) ≤ 0 ∧ -1000 ≤ -106 - (s : Int) :=
  ⟨by omega, by omega, by omega, by omega, by omega, by omega, wrap64_id _ (by omega) (by omega), wrap64_id _ (by omega) (by omega), by omega, by omega, by omega, by omega⟩
theorem bits_or_zero (z : Nat) (h : z < B64) : Go.bits .or .u64 (z : Int) 0 = (z : Int) := by
  rw [B64_eq] at h
  have := bits_or_u64_nat z 0 h (by decide)
  rw [Nat.or_zero] at this
  exact this
theorem bits_zz : Go.bits .or .u64 0 0 = 0 ∧ Go.bits .and .u64 0 2047 = 0 := ⟨by decide, by decide⟩
theorem nzfacts (y : Nat) (h : y ≠ 0) : ((y : Int) == 0) = false ∧ ¬ ((y : Int) = 0) := ⟨by rw [beq_eq_false_iff_ne]; omega, by omega⟩

/-- the word of a whole number, and Ldexp of it -/
def flN (A : Nat) : Nat := floatOfInt .f64 (A : Int)
def ldx (A : Nat) (k : Int) : Nat := if flN A = 0 then 0 else ldexpF (flN A) k

theorem flN_eq (A : Nat) : flN A = Ieee.double.write (.number false A 0) := by
  show Ieee.double.write (.number (decide ((A : Int) < 0)) (A : Int).natAbs 0) = _
  rw [decide_eq_false (by omega)]; rfl
theorem flN_at (A : Nat) (h : A ≤ 9007199254740992) : At 1074 (flN A) (A : Int) := by
  have := whole_word false A h
  rw [if_neg (by decide), ← flN_eq] at this
  exact this
theorem flN_rung (A : Nat) (h : A ≤ 9007199254740992) : flN A = rg (flN A) ∧ V (flN A) = A * 2 ^ 1074 := by
  have ha := flN_at A h
  have hs : sg (flN A) = false := by
    obtain ⟨r, h1, h2⟩ := write_spec false A 0
    rw [flN_eq, h1]
    exact wd_sg (by omega)
  have hw := wd_self ha.fin.1
  rw [hs] at hw
  have e : flN A = rg (flN A) := hw.symm
  refine ⟨e, ?_⟩
  have hv := ha.val
  rw [fz_pos_of hs, ← e] at hv
  have : ((V (flN A) : Nat) : Int) = ((A * 2 ^ 1074 : Nat) : Int) := by rw [hv]; simp
  omega
theorem V_one : V 4607182418800017408 = 1 * 2 ^ 1074 := by decide +kernel
theorem V_top : V 4845873199050653696 = 9007199254740992 * 2 ^ 1074 := by decide +kernel
theorem flN_range (A : Nat) (h : A ≤ 9007199254740992) (h0 : A ≠ 0) : 4607182418800017408 ≤ flN A ∧ flN A ≤ 4845873199050653696 := by
  obtain ⟨-, e⟩ := flN_rung A h
  constructor
  · rw [← V_le_iff, V_one, e]; exact Nat.mul_le_mul_right _ (by omega)
  · rw [← V_le_iff, V_top, e]; exact Nat.mul_le_mul_right _ h
theorem flN_zero : flN 0 = 0 := by decide +kernel

theorem ldexp_fl (A : Nat) (k : Int) (h : A ≤ 9007199254740992) (hk1 : k ≤ 0) (hk2 : -1000 ≤ k) (w : World) :
    Calls Tryd.prog 37 #[.float .f64 (flN A), .int .i64 k] w fun E w' => E = .returned (.float .f64 (ldx A k)) ∧ w = w' := by
  refine ldexp_calls (flN A) k ?_ w
  rcases Nat.eq_zero_or_pos A with h0 | h0
  · left; rw [h0]; exact flN_zero
  · right
    have := flN_range A h (by omega)
    omega

/-- the two words behind a shift -/
theorem part_facts (z1 z2 : Nat) (h1 : z1 < B64) (h2 : z2 < B64) : ∃ C C4 D : Nat, ((z1 : Int) / 2048 = ((z1 / 2048 : Nat) : Int)) ∧ Go.bits .and .u64 (z1 : Int) 2047 = (C : Int) ∧ IntKind.u64.wrap ((C : Int) * 4398046511104) = (C4 : Int) ∧
    ((z2 : Int) / 4194304 = (D : Int)) ∧ Go.bits .or .u64 (C4 : Int) (D : Int) = ((z1 % 2048 * 4398046511104 + z2 / 4194304 : Nat) : Int) ∧ z1 % 2048 * 4398046511104 + z2 / 4194304 < 9007199254740992 ∧ z1 / 2048 < 9007199254740992 ∧ C4 = z1 % 2048 * 4398046511104 ∧ C4 < B64 := by
  rw [B64_eq] at h1 h2
  refine ⟨z1 % 2048, z1 % 2048 * 4398046511104, z2 / 4194304, by simp, ?_, ?_, by simp, ?_, by omega, by omega, rfl, by rw [B64_eq]; omega⟩
  · have := bits_and_u64_nat z1 2047 h1 (by decide)
    rw [show z1 &&& 2047 = z1 % 2048 from Nat.and_two_pow_sub_one_eq_mod z1 11] at this
    exact this
  · rw [IntKind.wrap_u64]; omega
  · have := or_u64 (z2 / 4194304) (z1 % 2048 * 4398046511104) 42 (by omega) (by rw [B64_eq]; omega) (by rw [B64_eq]; omega) ⟨z1 % 2048, by omega⟩
    rw [bits_or_u64_nat _ _ (by omega) (by omega)] at this ⊢
    rw [Nat.or_comm, this, Nat.add_comm]

end Go.Proofs.YtgihapdlliidgaaDoor
