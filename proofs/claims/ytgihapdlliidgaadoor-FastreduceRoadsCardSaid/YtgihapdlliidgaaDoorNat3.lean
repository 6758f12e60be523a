/- The walks of package nat, on: shifts. -/
import Derived.Test.YtgihapdlliidgaaDoorNat2
namespace Go.Proofs.YtgihapdlliidgaaDoor
open Go Go.RowKit
set_option linter.unusedVariables false
set_option linter.unusedSimpArgs false

/-- the bits of the limit, closed -/
def LIMB : Nat := 524288
theorem LIMB_eq : LIMB = 524288 := rfl
theorem LIMB_64 : 64 * LIML = LIMB := by rw [LIML_eq]; rfl
attribute [irreducible] LIMB
theorem LIM_eq : LIM = 2 ^ LIMB := by
  have h : ∀ n, B64 ^ n = 2 ^ (64 * n) := fun n => by rw [B64_eq, Nat.pow_mul]
  unfold LIM
  rw [h, LIMB_64]

/-- what a shift needs to fit -/
theorem blen_fits {m n : Nat} (h0 : m ≠ 0) (h : m * 2 ^ n < LIM) : blen m + n ≤ 524288 := by
  rw [LIM_eq] at h
  have a := blen_ge m h0
  have b : 2 ^ (blen m - 1 + n) ≤ m * 2 ^ n := by rw [Nat.pow_add]; exact Nat.mul_le_mul_right _ a
  have c : blen m - 1 + n < LIMB := (Nat.pow_lt_pow_iff_right (a := 2) (by decide)).1 (Nat.lt_of_le_of_lt b h)
  have d : 0 < blen m := by unfold blen; rw [if_neg h0]; omega
  rw [LIMB_eq] at c
  omega

theorem or_u64 (c y k : Nat) (hc : c < 2 ^ k) (hy : y < B64) (hcB : c < B64) (hk : 2 ^ k ∣ y) : Go.bits .or .u64 (c : Int) (y : Int) = ((c + y : Nat) : Int) := by
  rw [B64_eq] at hy hcB
  rw [bits_or_u64_nat c y hcB hy]
  obtain ⟨t, rfl⟩ := hk
  have := Nat.two_pow_add_eq_or_of_lt hc t
  rw [Nat.or_comm, ← this, Nat.add_comm]

theorem wrap_u64_nat (x : Nat) : IntKind.u64.wrap (x : Int) = ((x % B64 : Nat) : Int) := by
  rw [IntKind.wrap_u64, B64_eq]; simp

theorem B64_split {k : Nat} (hk : k ≤ 64) : B64 = 2 ^ k * 2 ^ (64 - k) := by
  rw [← Nat.pow_add, Nat.add_sub_cancel' hk, B64_eq]

/-- the words of a shift upwards, as the machine reckons them -/
theorem shl_word {x c k : Nat} (hk : k < 64) (hx : x < B64) (hc : c < 2 ^ k) (hcB : c < B64) :
    Go.bits .or .u64 (c : Int) (IntKind.u64.wrap ((x : Int) * 2 ^ k)) = ((c + x * 2 ^ k % B64 : Nat) : Int) ∧ (x : Int) / 2 / 2 ^ (63 - k) = ((x * 2 ^ k / B64 : Nat) : Int) ∧
      c + x * 2 ^ k % B64 < B64 ∧ x * 2 ^ k / B64 < 2 ^ k := by
  have hB := B64_split (k := k) (by omega)
  have hm : x * 2 ^ k % B64 = 2 ^ k * (x % 2 ^ (64 - k)) := by rw [hB, Nat.mul_comm x, Nat.mul_mod_mul_left]
  have hp := Nat.two_pow_pos k
  have hq := Nat.two_pow_pos (64 - k)
  refine ⟨?_, ?_, ?_, ?_⟩
  · have e : (x : Int) * 2 ^ k = ((x * 2 ^ k : Nat) : Int) := by simp
    rw [e, wrap_u64_nat]
    exact or_u64 c _ k hc (Nat.mod_lt _ B64_pos) hcB ⟨_, hm⟩
  · have e : x * 2 ^ k / B64 = x / 2 / 2 ^ (63 - k) := by
      rw [hB, Nat.mul_comm x, Nat.mul_div_mul_left _ _ hp, Nat.div_div_eq_div_mul, ← Nat.pow_succ']
      congr 2; omega
    rw [e]; simp
  · rw [hm]
    have h1 : x % 2 ^ (64 - k) + 1 ≤ 2 ^ (64 - k) := Nat.mod_lt _ hq
    have h2 := Nat.mul_le_mul_left (2 ^ k) h1
    rw [← hB, Nat.mul_add] at h2
    omega
  · rw [Nat.div_lt_iff_lt_mul B64_pos, Nat.mul_comm]
    exact Nat.mul_lt_mul_of_pos_left hx hp

set_option maxRecDepth 100000 in
set_option maxHeartbeats 3200000 in
theorem natShl_zero (c n : Nat) (A : Option Addr) (w : World) (hn : n ≤ 9223372036854775807) :
    Calls Tryd.prog 74 #[.slice A 0 c, .int .i64 n] w fun E w' => E = .returned (.tuple #[.slice none 0 0, .int .i64 0]) ∧ w = w' := by
  have HF := natForm_nat (w := w) (A := A) (c := c) (l := []) (Nat.zero_le _) (by simp) Rd.nil canon_nil
  have hn0 : (0 : Int) ≤ (n : Int) := by omega
  have H := Lib.hid HF
  clear HF hn
  go_enter Tryd.func74, Tryd.ntmps74
  go_wp2_with fail
  refine H.out.mono ?_
  rintro E w' ⟨rfl, rfl⟩
  go_wp2_with fail
  go_ret2
  exact ⟨rfl, rfl⟩

set_option maxRecDepth 100000 in
set_option maxHeartbeats 3200000 in
theorem natShl_core (A : Option Addr) (c n lim k : Nat) (L : List Nat) (w : World) (hn : n = 64 * lim + k) (hk : k < 64) (hp : 0 < L.length)
    (hcL : L.length ≤ c) (h8 : L.length ≤ 8192) (hrL : Rd .u64 w A L) (hBL : ∀ x ∈ L, x < B64) (hkL : canon L) (hfit : lv B64 L * 2 ^ n < LIM) :
    Calls Tryd.prog 74 #[.slice A L.length c, .int .i64 n] w fun E w' => ∃ v, E = .returned (.tuple #[v, .int .i64 0]) ∧ IsNat w' v (lv B64 L * 2 ^ n) ∧ Ge w.heap.size v ∧ Below w.heap.size w w' := by
  obtain ⟨i0, hi, hz0, hz1, hz2⟩ := info_parts info22
  have h0 : lv B64 L ≠ 0 := by
    have := lv_ge B64 L B64_pos hkL (List.length_pos_iff.1 hp)
    have := Nat.pow_pos (n := L.length - 1) B64_pos
    omega
  have hbn := blen_fits h0 hfit
  have HBits := natBits_calls (w := w) (a := .slice A L.length c) (m := lv B64 L) ⟨A, c, L, rfl, hcL, h8, hrL, hBL, hkL, rfl⟩
  have HL := Lib.hid hrL
  have HBL := Lib.hid hBL
  have HkL := Lib.hid hkL
  have Hfit := Lib.hid hfit
  have Hn := Lib.hid hn
  have Hz0 := Lib.hid hz0
  have Hz1 := Lib.hid hz1
  have Hz2 := Lib.hid hz2
  have Hi := Lib.hid hi
  have HBt := Lib.hid HBits
  have q1 : (n : Int) / 64 = (lim : Int) := by omega
  have q2 : (n : Int) % 64 = (k : Int) := by omega
  have hn0 : (0 : Int) ≤ (n : Int) := by omega
  have hL0 : ((L.length : Int) == 0) = false := by rw [beq_eq_false_iff_ne]; omega
  have ht : ¬ ((n : Int) > 524288 - (blen (lv B64 L) : Int)) := by omega
  have hlim : lim ≤ 8192 := by omega
  have hd1 : decide ((n : Int) < 0) = false := decide_eq_false (by omega)
  have hd2 : decide (524288 - (blen (lv B64 L) : Int) < (n : Int)) = false := decide_eq_false (by omega)
  generalize blen (lv B64 L) = bl at *
  clear hrL hBL hkL hfit hn hz0 hz1 hz2 hi HBits h0
  go_enter Tryd.func74, Tryd.ntmps74
  go_wp2_with fail
  refine (natForm_nat hcL h8 HL.out HkL.out).mono ?_
  rintro E w' ⟨rfl, rfl⟩
  go_wp2_with fail
  refine HBt.out.mono ?_
  rintro E w' ⟨rfl, rfl⟩
  go_wp2_with (refine wpList_make_full _ rfl (.tmp 31) (.tmp 31) 56 rfl w.heap.size 22 i0 _ 1 Tryd.underlying56 Hi.out Hz0.out Hz1.out .i64 .i64 _ _ (lim + L.length + 1) rfl rfl ?c1 ?c2 ?c3 ?c4 ?c5 ?_)
  case c1 => simp
  case c2 => simp
  case c3 => rw [Hz2.out]; omega
  case c4 => unfold maxLen; omega
  case c5 => exact Nat.le_refl _
  intro w1 hown hgrow
  have HO := Own.new (k := .u64) (Nat.le_refl _) hown
  have HB : Below w.heap.size w w1 := (Below.refl _ _).grown hgrow (Nat.le_refl _) (fun _ h => by cases h)
  clear hown hgrow
  have k0 : (0 : Int) ≤ (k : Int) := by omega
  have k1 : (k : Int) ≤ 64 := by omega
  have k2 : (0 : Int) ≤ 63 - (k : Int) := by omega
  have k3 : 63 - (k : Int) ≤ 64 := by omega
  go_wp2
  go_loopw [35] (fun iv wr => ∃ (i : Nat) (R : List Nat), i ≤ L.length ∧ iv = .int .i64 i ∧ Hid (Own 22 .u64 w.heap.size w.heap.size wr (lim + L.length + 1) R) ∧ Hid (Below w.heap.size w wr) ∧
      Hid (lv B64 (R.take (lim + i + 1)) = B64 ^ lim * (2 ^ k * lv B64 (L.take i))) ∧ Hid (R.getD (lim + i) 0 < 2 ^ k) ∧ Hid (∀ x ∈ R, x < B64)) (fun iv _ => L.length - (intOf iv).toNat)
  case atStart => exact ⟨0, List.replicate (lim + L.length + 1) 0, Nat.zero_le _, rfl, HO, HB, by rw [List.take_replicate, lv_zeros]; simp [lv, Hid], Lib.hid (by rw [getD_zeros]; exact Nat.two_pow_pos k), fun x hx => by rw [List.eq_of_mem_replicate hx]; exact B64_pos⟩
  case round =>
    obtain ⟨i, R, hi, rfl, hO, hB, hR, hc, hRB⟩ := hrel
    by_cases hil : i < L.length
    · obtain ⟨b, o, rfl, hlt, hcell⟩ := HL.out (by omega)
      have hx := (hB.out.cell (p := ⟨b, o + i, none⟩) hlt).trans (hcell i hil)
      have hs1 := hO.out.cell (lim + i) (by omega)
      have hf1 := hO.out.frozen (lim + i)
      have hs2 := hO.out.cell (lim + i + 1) (by omega)
      have hf2 := hO.out.frozen (lim + i + 1)
      have hlen := hO.out.2.1
      have hgx := getD_lt HBL.out B64_pos i
      have hgc := getD_lt hRB.out B64_pos (lim + i)
      have hstep := Lib.hid (shl_step B64 (2 ^ k) L R lim i (by omega) hR.out)
      have hi1 : (i : Int) < (L.length : Int) := by omega
      obtain ⟨e1, e2, e3, e4⟩ := shl_word hk hgx hc.out hgc
      have HRB := Lib.hid (mem_set_lt (k := lim + i + 1) (mem_set_lt (k := lim + i) hRB.out e3) (x := L.getD i 0 * 2 ^ k / B64) (by rw [Nat.div_lt_iff_lt_mul B64_pos]; exact Nat.mul_lt_mul_of_lt_of_le hgx (by rw [B64_eq]; exact Nat.le_trans (Nat.pow_le_pow_right (by decide) (by omega : k ≤ 64)) (by decide)) B64_pos))
      have HO2 := Lib.hid ((hO.out.stored (lim + i) (R.getD (lim + i) 0 + L.getD i 0 * 2 ^ k % B64)).stored (lim + i + 1) (L.getD i 0 * 2 ^ k / B64))
      have HB2 := Lib.hid ((hB.out.setCell (p := ⟨w.heap.size, lim + i, none⟩) (Nat.le_refl _) (.int .u64 ((R.getD (lim + i) 0 + L.getD i 0 * 2 ^ k % B64 : Nat) : Int))).setCell (p := ⟨w.heap.size, lim + i + 1, none⟩) (Nat.le_refl _) (.int .u64 ((L.getD i 0 * 2 ^ k / B64 : Nat) : Int)))
      have HC : Hid ((((R.set (lim + i) (R.getD (lim + i) 0 + L.getD i 0 * 2 ^ k % B64)).set (lim + i + 1) (L.getD i 0 * 2 ^ k / B64)).getD (lim + (i + 1)) 0) < 2 ^ k) := Lib.hid (by
        rw [show lim + (i + 1) = lim + i + 1 by omega, getD_set_self _ _ _ (by simp; omega)]; exact e4)
      have E1 := Lib.hid e1
      have E2 := Lib.hid e2
      generalize hr1 : R.getD (lim + i) 0 + L.getD i 0 * 2 ^ k % B64 = r1 at *
      generalize hr2 : L.getD i 0 * 2 ^ k / B64 = r2 at *
      clear hr1 hr2
      generalize L.getD i 0 = x at *
      generalize R.getD (lim + i) 0 = cc at *
      clear hcell e1 e2 e3 e4 hgx hgc hO hB hR hc hRB
      go_wp2
      go_region
      go_wp2
      go_roundw
      case rel => exact ⟨i + 1, _, by omega, by go_num, by rw [E1.out, E2.out]; exact HO2, by rw [E1.out, E2.out]; exact Below.drew HB2, hstep.out, HC.out, HRB.out⟩
      case measure => simp [intOf] <;> omega
    · obtain rfl : i = L.length := by omega
      have hlen := hO.out.2.1
      have hi1 : ¬ ((L.length : Int) < (L.length : Int)) := by omega
      have hlv : lv B64 R = lv B64 L * 2 ^ n := by
        have e := hR.out
        rw [List.take_of_length_le (by omega), List.take_length] at e
        rw [e, Hn.out, Nat.pow_add, Nat.pow_mul, B64_eq]
        grind
      have Htold := Lib.hid (told_nat hO.out hRB.out (by omega) (by rw [hlv]; exact Hfit.out))
      rw [hlv] at Htold
      have HB2 := Lib.hid hB.out
      clear hlen hO hB hR hRB hlv hc
      go_wp2_with fail
      refine Htold.out.mono ?_
      rintro E w' ⟨v, rfl, hv, hge, rfl⟩
      go_wp2_with fail
      go_ret2
      exact ⟨v, rfl, hv, hge, HB2.out⟩

theorem natShl_calls {w : World} {a : Value} {m : Nat} (ha : IsNat w a m) (n : Nat) (hn : n ≤ 9223372036854775807) (hs : m * 2 ^ n < LIM) :
    Calls Tryd.prog 74 #[a, .int .i64 n] w fun E w' => ∃ v, E = .returned (.tuple #[v, .int .i64 0]) ∧ IsNat w' v (m * 2 ^ n) ∧ Ge w.heap.size v ∧ Below w.heap.size w w' := by
  obtain ⟨A, c, l, rfl, h1, h2, h3, h4, h5, rfl⟩ := ha
  rcases Nat.eq_zero_or_pos l.length with h0 | h0
  · have : l = [] := List.eq_nil_of_length_eq_zero h0
    subst this
    refine (natShl_zero c n A w hn).mono ?_
    rintro E w' ⟨rfl, rfl⟩
    exact ⟨_, rfl, by rw [lv_nil, Nat.zero_mul]; exact IsNat.zero _, Ge.nil _ _ _, Below.refl _ _⟩
  · exact natShl_core A c n (n / 64) (n % 64) l w (by omega) (by omega) h0 h1 h2 h3 h4 h5 hs


/-- the digits of a shift downwards -/
def shrDig (L : List Nat) (lim k j : Nat) : Nat := L.getD (lim + j) 0 / 2 ^ k + (L.getD (lim + j + 1) 0 * 2 ^ (64 - k)) % B64

theorem shr_word {x y k : Nat} (hk : k < 64) (hx : x < B64) (hy : y < B64) :
    (x : Int) / 2 ^ k = ((x / 2 ^ k : Nat) : Int) ∧
    Go.bits .or .u64 ((x / 2 ^ k : Nat) : Int) (IntKind.u64.wrap (IntKind.u64.wrap ((y : Int) * 2) * 2 ^ (63 - k))) = ((x / 2 ^ k + (y * 2 ^ (64 - k)) % B64 : Nat) : Int) ∧
    x / 2 ^ k + (y * 2 ^ (64 - k)) % B64 < B64 ∧ x / 2 ^ k < B64 := by
  have hB := B64_split (k := k) (by omega)
  have hp := Nat.two_pow_pos k
  have hq := Nat.two_pow_pos (64 - k)
  have hc : x / 2 ^ k < 2 ^ (64 - k) := by rw [Nat.div_lt_iff_lt_mul hp, Nat.mul_comm, ← hB]; exact hx
  have hcB : x / 2 ^ k < B64 := Nat.lt_of_le_of_lt (Nat.div_le_self _ _) hx
  have hm : y * 2 ^ (64 - k) % B64 = 2 ^ (64 - k) * (y % 2 ^ k) := by
    rw [hB, Nat.mul_comm y, Nat.mul_comm (2 ^ k), Nat.mul_mod_mul_left]
  refine ⟨by simp, ?_, ?_, hcB⟩
  · have e1 : (y : Int) * 2 = ((y * 2 : Nat) : Int) := by simp
    rw [e1, wrap_u64_nat]
    have e2 : ((y * 2 % B64 : Nat) : Int) * 2 ^ (63 - k) = ((y * 2 % B64 * 2 ^ (63 - k) : Nat) : Int) := by simp
    rw [e2, wrap_u64_nat]
    have e3 : y * 2 % B64 * 2 ^ (63 - k) % B64 = y * 2 ^ (64 - k) % B64 := by
      have : y * 2 ^ (64 - k) = y * 2 * 2 ^ (63 - k) := by rw [Nat.mul_assoc, ← Nat.pow_succ']; congr 2; omega
      rw [this, Nat.mod_mul_mod]
    rw [e3]
    exact or_u64 _ _ (64 - k) hc (Nat.mod_lt _ B64_pos) hcB ⟨_, hm⟩
  · rw [hm]
    have h1 : y % 2 ^ k + 1 ≤ 2 ^ k := Nat.mod_lt _ hp
    have h2 := Nat.mul_le_mul_left (2 ^ (64 - k)) h1
    rw [Nat.mul_comm (2 ^ (64 - k)) (2 ^ k), ← hB, Nat.mul_add] at h2
    omega

theorem shr_value {L R : List Nat} {lim k n : Nat} (hn : n = 64 * lim + k) (hk : k < 64) (hB : ∀ x ∈ L, x < B64) (hl : lim < L.length) (hR : R.length = L.length - lim)
    (hd : ∀ j, j < L.length - lim → R.getD j 0 = shrDig L lim k j) : lv B64 R = lv B64 L / 2 ^ n := by
  have hS := B64_split (k := k) (by omega)
  have h := shr_digits B64 (2 ^ k) (2 ^ (64 - k)) hS (Nat.two_pow_pos k) L hB lim R hd (L.length - lim) (Nat.le_refl _) (by omega)
  rw [List.take_of_length_le (by omega), List.take_of_length_le (by simp)] at h
  have e0 : L.getD (lim + (L.length - lim)) 0 = 0 := getD_ge _ _ (by omega)
  rw [e0, Nat.zero_mod, Nat.mul_zero, Nat.add_zero] at h
  have h1 : lv B64 R = lv B64 (L.drop lim) / 2 ^ k := by
    rw [← h, Nat.mul_comm, Nat.mul_add_div (Nat.two_pow_pos k)]
    have := Nat.mod_lt (L.getD lim 0) (Nat.two_pow_pos k)
    rw [Nat.div_eq_of_lt this]; rfl
  have h2 : lv B64 (L.drop lim) = lv B64 L / B64 ^ lim := by
    have e := lv_take_drop B64 L lim (by omega)
    have ht := lv_lt B64 (L.take lim) (fun x hx => hB x (List.mem_of_mem_take hx))
    rw [List.length_take, Nat.min_eq_left (by omega)] at ht
    rw [e, Nat.add_comm, Nat.mul_add_div (Nat.pow_pos B64_pos), Nat.div_eq_of_lt ht]; rfl
  rw [h1, h2, Nat.div_div_eq_div_mul, hn, Nat.pow_add, Nat.pow_mul]
  congr 3
  rw [B64_eq]

set_option maxRecDepth 100000 in
set_option maxHeartbeats 3200000 in
theorem natShr_far (A : Option Addr) (c n lim k : Nat) (L : List Nat) (w : World) (hn : n = 64 * lim + k) (hk : k < 64)
    (hcL : L.length ≤ c) (h8 : L.length ≤ 8192) (hrL : Rd .u64 w A L) (hkL : canon L) (hlim : L.length ≤ lim) (hl9 : (lim : Int) ≤ 1152921504606846976) :
    Calls Tryd.prog 88 #[.slice A L.length c, .int .i64 n] w fun E w' => E = .returned (.tuple #[.slice none 0 0, .int .i64 0]) ∧ w = w' := by
  have HF := natForm_nat hcL h8 hrL hkL
  have H := Lib.hid HF
  have q1 : (n : Int) / 64 = (lim : Int) := by omega
  have q2 : (n : Int) % 64 = (k : Int) := by omega
  have hn0 : (0 : Int) ≤ (n : Int) := by omega
  have ht : (lim : Int) ≥ (L.length : Int) := by omega
  clear HF hn hrL hkL
  go_enter Tryd.func88, Tryd.ntmps88
  go_wp2_with fail
  refine H.out.mono ?_
  rintro E w' ⟨rfl, rfl⟩
  go_wp2_with fail
  go_ret2
  exact ⟨rfl, rfl⟩

set_option maxRecDepth 100000 in
set_option maxHeartbeats 3200000 in
theorem natShr_core (A : Option Addr) (c n lim k : Nat) (L : List Nat) (w : World) (hn : n = 64 * lim + k) (hk : k < 64) (hp : lim < L.length)
    (hcL : L.length ≤ c) (h8 : L.length ≤ 8192) (hrL : Rd .u64 w A L) (hBL : ∀ x ∈ L, x < B64) (hkL : canon L) :
    Calls Tryd.prog 88 #[.slice A L.length c, .int .i64 n] w fun E w' => ∃ v, E = .returned (.tuple #[v, .int .i64 0]) ∧ IsNat w' v (lv B64 L / 2 ^ n) ∧ Ge w.heap.size v ∧ Below w.heap.size w w' := by
  obtain ⟨i0, hi, hz0, hz1, hz2⟩ := info_parts info22
  have HL := Lib.hid hrL
  have HBL := Lib.hid hBL
  have HkL := Lib.hid hkL
  have Hn := Lib.hid hn
  have Hz0 := Lib.hid hz0
  have Hz1 := Lib.hid hz1
  have Hz2 := Lib.hid hz2
  have Hi := Lib.hid hi
  have q1 : (n : Int) / 64 = (lim : Int) := by omega
  have q2 : (n : Int) % 64 = (k : Int) := by omega
  have hn0 : (0 : Int) ≤ (n : Int) := by omega
  have ht : ¬ ((lim : Int) ≥ (L.length : Int)) := by omega
  have hd1 : decide ((n : Int) < 0) = false := decide_eq_false (by omega)
  have hd2 : decide ((L.length : Int) ≤ (lim : Int)) = false := decide_eq_false (by omega)
  obtain ⟨N, hN⟩ : ∃ N, L.length = lim + N := ⟨L.length - lim, by omega⟩
  have HN := Lib.hid hN
  have hN0 : 0 < N := by omega
  have hN8 : lim + N ≤ 8192 := by omega
  have hNs : (L.length : Int) - (lim : Int) = (N : Int) := by omega
  clear hrL hBL hkL hn hz0 hz1 hz2 hi hN
  have k0 : (0 : Int) ≤ (k : Int) := by omega
  have k1 : (k : Int) ≤ 64 := by omega
  have k2 : (0 : Int) ≤ 63 - (k : Int) := by omega
  have k3 : 63 - (k : Int) ≤ 64 := by omega
  go_enter Tryd.func88, Tryd.ntmps88
  go_wp2_with fail
  refine (natForm_nat hcL h8 HL.out HkL.out).mono ?_
  rintro E w' ⟨rfl, rfl⟩
  go_wp2_with (refine wpList_make_full _ rfl (.tmp 26) (.tmp 26) 56 rfl w.heap.size 22 i0 _ 1 Tryd.underlying56 Hi.out Hz0.out Hz1.out .i64 .i64 _ _ N rfl rfl ?c1 ?c2 ?c3 ?c4 ?c5 ?_)
  case c1 => simp
  case c2 => simp
  case c3 => rw [Hz2.out]; omega
  case c4 => unfold maxLen; omega
  case c5 => exact Nat.le_refl _
  intro w1 hown hgrow
  have HO := Own.new (k := .u64) (Nat.le_refl _) hown
  have HB : Below w.heap.size w w1 := (Below.refl _ _).grown hgrow (Nat.le_refl _) (fun _ h => by cases h)
  clear hown hgrow
  go_wp2
  go_loopw [30] (fun iv wr => ∃ (i : Nat) (R : List Nat), i ≤ N ∧ iv = .int .i64 i ∧ Hid (Own 22 .u64 w.heap.size w.heap.size wr N R) ∧ Hid (Below w.heap.size w wr) ∧
      Hid (∀ j, j < i → R.getD j 0 = shrDig L lim k j) ∧ Hid (∀ x ∈ R, x < B64)) (fun iv _ => N - (intOf iv).toNat)
  case atStart => exact ⟨0, List.replicate N 0, Nat.zero_le _, rfl, HO, HB, fun j hj => absurd hj (by omega), fun x hx => by rw [List.eq_of_mem_replicate hx]; exact B64_pos⟩
  case round =>
    obtain ⟨i, R, hi, rfl, hO, hB, hR, hRB⟩ := hrel
    by_cases hil : i < N
    · obtain ⟨b, o, rfl, hlt, hcell⟩ := HL.out (by omega)
      have hx := (hB.out.cell (p := ⟨b, o + (lim + i), none⟩) hlt).trans (hcell (lim + i) (by have := HN.out; omega))
      have hs1 := hO.out.cell i (by omega)
      have hf1 := hO.out.frozen i
      have hlen := hO.out.2.1
      have hgx := getD_lt HBL.out B64_pos (lim + i)
      have hgy := getD_lt HBL.out B64_pos (lim + i + 1)
      have hi1 : (i : Int) < (N : Int) := by omega
      have hi2 : (lim : Int) + (i : Int) < (L.length : Int) := by have := HN.out; omega
      obtain ⟨e1, e2, e3, e4⟩ := shr_word hk hgx hgy
      by_cases hil2 : lim + i + 1 < L.length
      · have hy := (hB.out.cell (p := ⟨b, o + (lim + i + 1), none⟩) hlt).trans (hcell (lim + i + 1) hil2)
        have hi3 : (lim : Int) + (i : Int) + 1 < (L.length : Int) := by omega
        have HRB := Lib.hid (mem_set_lt (k := i) hRB.out (x := shrDig L lim k i) (by unfold shrDig; exact e3))
        have HO2 := Lib.hid ((hO.out.stored i (L.getD (lim + i) 0 / 2 ^ k)).stored i (shrDig L lim k i))
        rw [List.set_set] at HO2
        have HB2 := Lib.hid ((hB.out.setCell (p := ⟨w.heap.size, i, none⟩) (Nat.le_refl _) (.int .u64 ((L.getD (lim + i) 0 / 2 ^ k : Nat) : Int))).setCell (p := ⟨w.heap.size, i, none⟩) (Nat.le_refl _) (.int .u64 ((shrDig L lim k i : Nat) : Int)))
        have HR2 : Hid (∀ j, j < i + 1 → (R.set i (shrDig L lim k i)).getD j 0 = shrDig L lim k j) := Lib.hid (fun j hj => by
          rcases Nat.lt_or_ge j i with h | h
          · rw [getD_set_ne _ _ _ _ (by omega)]; exact hR.out j h
          · obtain rfl : j = i := by omega
            exact getD_set_self _ _ _ (by omega))
        have E1 := Lib.hid e1
        have E2 : Hid (Go.bits .or .u64 ((L.getD (lim + i) 0 / 2 ^ k : Nat) : Int) (IntKind.u64.wrap (IntKind.u64.wrap ((L.getD (lim + i + 1) 0 : Int) * 2) * 2 ^ (63 - k))) = ((shrDig L lim k i : Nat) : Int)) := Lib.hid e2
        generalize shrDig L lim k i = r1 at *
        generalize L.getD (lim + i) 0 = x at *
        generalize L.getD (lim + i + 1) 0 = y at *
        clear hcell e1 e2 e3 e4 hgx hgy hO hB hR hRB
        go_wp2
        go_region
        go_wp2
        go_roundw
        case rel => exact ⟨i + 1, _, by omega, by go_num, by rw [E1.out, E2.out]; exact HO2, by rw [E1.out, E2.out]; exact Below.drew HB2, HR2.out, HRB.out⟩
        case measure => simp [intOf] <;> omega
      · have hi3 : ¬ ((lim : Int) + (i : Int) + 1 < (L.length : Int)) := by omega
        have hz : L.getD (lim + i + 1) 0 = 0 := getD_ge _ _ (by omega)
        have e5 : shrDig L lim k i = L.getD (lim + i) 0 / 2 ^ k := by unfold shrDig; rw [hz]; simp
        have HRB := Lib.hid (mem_set_lt (k := i) hRB.out (x := shrDig L lim k i) (by rw [e5]; exact e4))
        have HO2 := Lib.hid (hO.out.stored i (shrDig L lim k i))
        have HB2 := Lib.hid (hB.out.setCell (p := ⟨w.heap.size, i, none⟩) (Nat.le_refl _) (.int .u64 ((shrDig L lim k i : Nat) : Int)))
        have HR2 : Hid (∀ j, j < i + 1 → (R.set i (shrDig L lim k i)).getD j 0 = shrDig L lim k j) := Lib.hid (fun j hj => by
          rcases Nat.lt_or_ge j i with h | h
          · rw [getD_set_ne _ _ _ _ (by omega)]; exact hR.out j h
          · obtain rfl : j = i := by omega
            exact getD_set_self _ _ _ (by omega))
        have E1 : Hid ((L.getD (lim + i) 0 : Int) / 2 ^ k = ((shrDig L lim k i : Nat) : Int)) := Lib.hid (by rw [e5]; exact e1)
        clear e5 hz
        generalize shrDig L lim k i = r1 at *
        generalize L.getD (lim + i) 0 = x at *
        clear hcell e1 e2 e3 e4 hgx hgy hO hB hR hRB
        go_wp2
        go_roundw
        case rel => exact ⟨i + 1, _, by omega, by go_num, by rw [E1.out]; exact HO2, by rw [E1.out]; exact HB2, HR2.out, HRB.out⟩
        case measure => simp [intOf] <;> omega
    · obtain rfl : i = N := by omega
      have hlen := hO.out.2.1
      have hi1 : ¬ ((i : Int) < (i : Int)) := by omega
      have hlv : lv B64 R = lv B64 L / 2 ^ n := by
        have h := HN.out
        exact shr_value Hn.out hk HBL.out hp (by omega) (fun j hj => hR.out j (by omega))
      have hlim : lv B64 R < LIM := lv_lt_LIM hRB.out (by omega)
      have Htold := Lib.hid (told_nat hO.out hRB.out (by omega) hlim)
      rw [hlv] at Htold
      have HB2 := Lib.hid hB.out
      clear hlen hO hB hR hRB hlv hlim
      go_wp2_with fail
      refine Htold.out.mono ?_
      rintro E w' ⟨v, rfl, hv, hge, rfl⟩
      go_wp2_with fail
      go_ret2
      exact ⟨v, rfl, hv, hge, HB2.out⟩


theorem natShr_calls {w : World} {a : Value} {m : Nat} (ha : IsNat w a m) (n : Nat) (hn : n ≤ 9223372036854775807) :
    Calls Tryd.prog 88 #[a, .int .i64 n] w fun E w' => ∃ v, E = .returned (.tuple #[v, .int .i64 0]) ∧ IsNat w' v (m / 2 ^ n) ∧ Ge w.heap.size v ∧ Below w.heap.size w w' := by
  obtain ⟨A, c, l, rfl, h1, h2, h3, h4, h5, rfl⟩ := ha
  rcases Nat.lt_or_ge (n / 64) l.length with h0 | h0
  · exact natShr_core A c n (n / 64) (n % 64) l w (by omega) (by omega) h0 h1 h2 h3 h4 h5
  · refine (natShr_far A c n (n / 64) (n % 64) l w (by omega) (by omega) h1 h2 h3 h5 h0 (by omega)).mono ?_
    rintro E w' ⟨rfl, rfl⟩
    refine ⟨_, rfl, ?_, Ge.nil _ _ _, Below.refl _ _⟩
    have e : lv B64 l / 2 ^ n = 0 := by
      apply Nat.div_eq_of_lt
      have a := lv_lt B64 l h4
      have b : B64 ^ l.length ≤ 2 ^ n := by
        rw [B64_eq, show (18446744073709551616 : Nat) = 2 ^ 64 from rfl, ← Nat.pow_mul]
        exact Nat.pow_le_pow_right (by decide) (by omega)
      omega
    rw [e]; exact IsNat.zero _

end Go.Proofs.YtgihapdlliidgaaDoor
