/- Plain: what the float operations give on a number of size between 2^-27 and 3/4. -/
import Derived.Test.YtgihapdlliidgaaDoorIe2
namespace Go.Proofs.YtgihapdlliidgaaDoor
set_option linter.unusedVariables false
open Ieee Go

theorem fabs_fin {b : Nat} (h : Fin64 b) : Fin64 (fabs b) ∧ rg (fabs b) = rg b ∧ sg (fabs b) = false ∧ fz (fabs b) = (V (rg b) : Int) := by
  have e : fabs b = wd false (rg b) := rfl
  have h2 : rg b < 9218868437227405312 := h.2
  rw [e]
  exact ⟨wd_fin h2, wd_rg (by omega), wd_sg (by omega), wd_fz h2⟩

theorem order_abs {b c : Nat} (h : Fin64 b) (hc : c < 9218868437227405312) : FloatKind.f64.format.order (fabs b) c = some (compare (V (rg b)) (V c)) := by
  obtain ⟨h1, h2, h3, h4⟩ := fabs_fin h
  have hcf : Fin64 (wd false c) := wd_fin hc
  have hcz : fz (wd false c) = (V c : Int) := wd_fz hc
  have := order_spec h1 hcf
  rw [h4, hcz] at this
  show double.order (fabs b) (wd false c) = _
  rw [this]
  congr 1
  rcases Nat.lt_trichotomy (V (rg b)) (V c) with h | h | h
  · rw [Nat.compare_eq_lt.2 h, Int.compare_eq_lt.2 (by omega)]
  · rw [h]; simp
  · rw [Nat.compare_eq_gt.2 h, Int.compare_eq_gt.2 (by omega)]

theorem fge_abs {b c : Nat} (h : Fin64 b) (hc : c < 9218868437227405312) : fge (fabs b) c = decide (c ≤ rg b) := by
  unfold fge
  rw [order_abs h hc]
  rcases Nat.lt_trichotomy (rg b) c with x | x | x
  · rw [Nat.compare_eq_lt.2 (V_lt x), decide_eq_false (by omega)]; rfl
  · rw [x, decide_eq_true (by omega)]; simp
  · rw [Nat.compare_eq_gt.2 (V_lt x), decide_eq_true (by omega)]; rfl
theorem flt_abs {b c : Nat} (h : Fin64 b) (hc : c < 9218868437227405312) : flt (fabs b) c = decide (rg b < c) := by
  unfold flt
  rw [order_abs h hc]
  rcases Nat.lt_trichotomy (rg b) c with x | x | x
  · rw [Nat.compare_eq_lt.2 (V_lt x), decide_eq_true (by omega)]; rfl
  · rw [x, decide_eq_false (by omega)]; simp
  · rw [Nat.compare_eq_gt.2 (V_lt x), decide_eq_false (by omega)]; rfl
theorem fle_abs {b c : Nat} (h : Fin64 b) (hc : c < 9218868437227405312) : fle (fabs b) c = decide (rg b ≤ c) := by
  unfold fle
  rw [order_abs h hc]
  rcases Nat.lt_trichotomy (rg b) c with x | x | x
  · rw [Nat.compare_eq_lt.2 (V_lt x), decide_eq_true (by omega)]; rfl
  · rw [x, decide_eq_true (by omega)]; simp
  · rw [Nat.compare_eq_gt.2 (V_lt x), decide_eq_false (by omega)]; rfl

theorem feq_self {b : Nat} (h : Fin64 b) : feq b b = true := by
  unfold feq
  have := order_spec h h
  rw [show FloatKind.f64.format.order b b = double.order b b from rfl, this]
  simp

theorem fin_zero : Fin64 0 := ⟨by decide, by decide⟩
theorem fz_zero : fz 0 = 0 := by decide +kernel

theorem ffin_of {b : Nat} (h : Fin64 b) : ffin b = true := by
  unfold ffin
  rw [fle_abs h (by decide), decide_eq_true_iff]
  have := h.2
  omega

theorem fadd_zero {b : Nat} (h : Fin64 b) (h0 : rg b ≠ 0) : fadd b 0 = some b := by
  obtain ⟨r, h1, h2⟩ := fadd_spec h fin_zero
  rw [fz_zero, Int.add_zero] at h1 h2
  rw [fz_abs] at h2
  have hr : r = rg b := near_exact h2 (by rw [Nat.pow_zero, Nat.mul_one])
  have hv : 0 < V (rg b) := by have := V_lt (a := 0) (b := rg b) (by omega); rw [V_zero] at this; exact this
  rw [h1, hr]
  have hs : (if fz b = 0 then sg b && sg 0 else decide (fz b < 0)) = sg b := by
    have hz : fz b = if sg b = true then -(V (rg b) : Int) else (V (rg b) : Int) := rfl
    cases hs : sg b
    · rw [hs, if_neg (by decide)] at hz
      rw [if_neg (by omega), decide_eq_false (by omega)]
    · rw [hs, if_pos rfl] at hz
      rw [if_neg (by omega), decide_eq_true (by omega)]
  rw [hs, Nat.min_eq_left (by have := h.2; omega), wd_self h.1]

theorem fsub_self {b : Nat} (h : Fin64 b) : fsub b b = some 0 := by
  obtain ⟨r, h1, h2⟩ := fsub_spec h h
  rw [Int.sub_self] at h1 h2
  have hr : r = 0 := near_exact h2 (by rw [V_zero]; rfl)
  rw [h1, hr]
  cases sg b <;> rfl

theorem ddForm_one {b : Nat} (h : Fin64 b) (h0 : rg b ≠ 0) : ddForm (b, 0) = some true := by
  unfold ddForm
  rw [if_pos (ffin_of h), if_pos (ffin_of fin_zero)]
  show (fadd b 0).bind _ = _
  rw [fadd_zero h h0]
  show some (feq b b) = _
  rw [feq_self h]

theorem small_p : V 4604930618986332160 * V 4603909380684499075 ≤ V 4602498675187552092 * 2 ^ KU := by decide +kernel
theorem small_s : V 4602678819172646912 + V 4602498675187552092 ≤ V 4607137416481677271 := by decide +kernel
theorem small_d : V 4602498675187552092 < V 4602678819172646912 := by decide +kernel
theorem small_e : V 4604930618986332160 * V 4372995238176751616 ≤ V 4602498675187552092 * 2 ^ KU := by decide +kernel

/-- the floor of a number at least nought and below one -/
theorem floor_zero {r : Nat} (h : r < 4607182418800017408) : ffloor (wd false r) = 0 := by
  have hf : Fin64 (wd false r) := wd_fin (by omega)
  unfold ffloor
  rw [read_fin hf, wd_sg (by omega), wd_rg (by omega)]
  have hfe : fe r ≤ -53 := by unfold fe; split <;> omega
  have hfm : fm r < 2 ^ (-fe r).toNat := by
    have : fm r < 2 ^ 53 := by unfold fm; split <;> omega
    exact Nat.lt_of_lt_of_le this (Nat.pow_le_pow_right (by decide) (by omega))
  show double.write (.number false (Toward.down.cut false (fm r <<< (fe r).toNat) (-fe r).toNat) 0) = 0
  rw [show (fe r).toNat = 0 by omega, Nat.shiftLeft_zero]
  have hc : Toward.down.cut false (fm r) (-fe r).toNat = 0 := by
    unfold Toward.cut
    simp only [Nat.one_shiftLeft, Bool.false_and]
    have h1 : fm r < 2 ^ ((fm r).log2 + 2) := Nat.lt_of_lt_of_le Nat.lt_log2_self (Nat.pow_le_pow_right (by decide) (by omega))
    have : fm r < 2 ^ min (-fe r).toNat ((fm r).log2 + 2) := by
      rcases Nat.le_total (-fe r).toNat ((fm r).log2 + 2) with c | c
      · rw [Nat.min_eq_left c]; exact hfm
      · rw [Nat.min_eq_right c]; exact h1
    rw [Nat.div_eq_of_lt this]; rfl
  rw [hc]
  decide

theorem small_floor {b : Nat} (h : Fin64 b) (h2 : rg b ≤ 4604930618986332160) :
    ∃ p s, fmul b 4603909380684499075 = some p ∧ fadd p 4602678819172646912 = some s ∧ fnum s = true ∧ feq (ffloor s) 0 = true := by
  have hi : Fin64 4603909380684499075 := ⟨by decide, by decide⟩
  have hh : Fin64 4602678819172646912 := ⟨by decide, by decide⟩
  obtain ⟨rp, p1, p2⟩ := fmul_spec h hi
  have hrp : rp ≤ 4602498675187552092 := by
    apply near_le p2
    refine Nat.le_trans (Nat.mul_le_mul_right _ (V_le h2)) ?_
    exact small_p
  rw [Nat.min_eq_left (by omega)] at p1
  generalize hsp : (sg b ^^ sg 4603909380684499075) = sp at *
  have hpf : Fin64 (wd sp rp) := wd_fin (by omega)
  obtain ⟨rs, s1, s2⟩ := fadd_spec hpf hh
  have hz := wd_fz (s := sp) (r := rp) (by omega)
  have hhz : fz 4602678819172646912 = (V 4602678819172646912 : Nat) := wd_fz (s := false) (r := 4602678819172646912) (by decide)
  have hvp := V_le hrp
  have q1 := small_s
  have q2 := small_d
  have hpos : 0 < fz (wd sp rp) + fz 4602678819172646912 := by
    rw [hz, hhz]; split <;> omega
  have hle : (fz (wd sp rp) + fz 4602678819172646912).natAbs ≤ V 4607137416481677271 := by
    rw [hz, hhz]; split <;> omega
  have hrs : rs ≤ 4607137416481677271 := near_le s2 (by rw [Nat.pow_zero, Nat.mul_one]; exact hle)
  rw [if_neg (by omega), decide_eq_false (by omega), Nat.min_eq_left (by omega)] at s1
  refine ⟨_, _, p1, s1, ?_, ?_⟩
  · unfold fnum
    rw [read_fin (wd_fin (by omega))]; rfl
  · rw [floor_zero (by omega)]
    exact feq_self fin_zero

theorem small_quot {b : Nat} (h : Fin64 b) (h2 : rg b ≤ 4604930618986332160) :
    ∃ m, fmul (fabs b) 4372995238176751616 = some m ∧ fle 0 m = true := by
  have hi : Fin64 4372995238176751616 := ⟨by decide, by decide⟩
  obtain ⟨a1, a2, a3, a4⟩ := fabs_fin h
  obtain ⟨rp, p1, p2⟩ := fmul_spec a1 hi
  rw [a2] at p2
  have hrp : rp ≤ 4602498675187552092 := by
    apply near_le p2
    refine Nat.le_trans (Nat.mul_le_mul_right _ (V_le h2)) ?_
    exact small_e
  rw [Nat.min_eq_left (by omega), a3] at p1
  refine ⟨_, p1, ?_⟩
  have hp : Fin64 (wd (false ^^ sg 4372995238176751616) rp) := wd_fin (by omega)
  have hz : fz (wd (false ^^ sg 4372995238176751616) rp) = (V rp : Int) := by
    rw [wd_fz (by omega)]; rfl
  unfold fle
  have := order_spec fin_zero hp
  rw [show FloatKind.f64.format.order 0 (wd (false ^^ sg 4372995238176751616) rp) = double.order 0 (wd (false ^^ sg 4372995238176751616) rp) from rfl, this, hz, fz_zero]
  rcases Int.lt_or_eq_of_le (show (0 : Int) ≤ V rp by omega) with c | c
  · rw [Int.compare_eq_lt.2 c]; rfl
  · rw [← c]; rfl

end Go.Proofs.YtgihapdlliidgaaDoor
