/- The walks of package nat, on: lengths, shifts. -/
import Derived.Test.YtgihapdlliidgaaDoorNat
import Derived.Test.YtgihapdlliidgaaDoorShelf
import Derived.Laws.Bits64b
import Derived.Lib.TrailingZeros
import Derived.Shelf.Spec.TrailingZeros
namespace Go.Proofs.YtgihapdlliidgaaDoor
open Go Go.RowKit
set_option linter.unusedVariables false
set_option linter.unusedSimpArgs false

/-- the tables that the program's text lays stand in memory -/
def Tab (w : World) : Prop := 2 < w.heap.size ∧ ∀ j, j < 64 → w.cell? ⟨2, j, none⟩ = some (.int .u8 ((Lib.deBruijn64tab.getD j 0 : Nat) : Int))

theorem Tab.below {w w' : World} (h : Tab w) (hb : Below w.heap.size w w') : Tab w' :=
  ⟨Nat.lt_of_lt_of_le h.1 hb.size, fun j hj => (hb.cell (p := ⟨_, j, none⟩) h.1).trans (h.2 j hj)⟩

set_option maxHeartbeats 1000000 in
set_option maxRecDepth 100000 in
theorem tz64_core (x k idx : Nat) (w : World) (hx0 : ((x : Int) == 0) = false)
    (key : IntKind.u64.wrap (Go.bits BinOp.and IntKind.u64 (x : Int) (IntKind.u64.wrap (-(x : Int))) * 285870213051353865) / 288230376151711744 = (idx : Int))
    (hi : idx < 64) (hk : k < 64) (hcell : w.cell? ⟨2, idx, none⟩ = some (.int .u8 k)) :
    Calls Tryd.prog 97 #[.int .u64 x] w fun e w' => e = .returned (.int .i64 k) ∧ w = w' := by
  go_enter Tryd.func97, Tryd.ntmps97
  go_wp2_with (simp only [key])
  go_ret
  exact ⟨rfl, rfl⟩

theorem tz64_calls (x : Nat) (hx : x < B64) (hx0 : x ≠ 0) (w : World) (hT : Tab w) :
    Calls Tryd.prog 97 #[.int .u64 x] w fun e w' => e = .returned (.int .i64 (Lib.ctz 64 x)) ∧ w = w' := by
  rw [B64_eq] at hx
  obtain ⟨hlow, hk⟩ := Lib.lowest_bit 64 x hx0 hx
  obtain ⟨hi, htab⟩ := Lib.deBruijn64_at _ hk
  have hcell := hT.2 _ hi
  rw [htab] at hcell
  exact tz64_core x _ _ w (by simp; omega) (tz64_key x _ hx hx0 hlow) hi hk hcell

/-- the bits of a number -/
def blen (n : Nat) : Nat := if n = 0 then 0 else n.log2 + 1

theorem blen_lt (n : Nat) : n < 2 ^ blen n := by
  unfold blen
  split
  · rename_i h; subst h; decide
  · exact Nat.lt_log2_self
theorem blen_ge (n : Nat) (h : n ≠ 0) : 2 ^ (blen n - 1) ≤ n := by
  unfold blen
  rw [if_neg h]
  exact Nat.log2_self_le h
theorem blen_eq (n k : Nat) (h1 : 2 ^ k ≤ n) (h2 : n < 2 ^ (k + 1)) : blen n = k + 1 := by
  have h0 : n ≠ 0 := by have := Nat.two_pow_pos k; omega
  unfold blen
  rw [if_neg h0]
  congr 1
  have a := Nat.log2_self_le h0
  have b := Nat.lt_log2_self (n := n)
  have c : k < n.log2 + 1 := (Nat.pow_lt_pow_iff_right (a := 2) (by decide)).1 (Nat.lt_of_le_of_lt h1 b)
  have d : n.log2 < k + 1 := (Nat.pow_lt_pow_iff_right (a := 2) (by decide)).1 (Nat.lt_of_le_of_lt a h2)
  omega

theorem bitLen_blen (x : Nat) (hx : x < B64) : Lib.bitLen x = blen x := by
  rw [B64_eq] at hx
  by_cases h0 : x = 0
  · subst h0; rfl
  · have a := Nat.log2_self_le h0
    have b := Nat.lt_log2_self (n := x)
    rw [Lib.bitLen_shift x.log2 x a hx]
    have : x / 2 ^ x.log2 = 1 := by
      have p := Nat.two_pow_pos x.log2
      rw [Nat.pow_succ] at b
      have h1 : 1 ≤ x / 2 ^ x.log2 := (Nat.le_div_iff_mul_le p).2 (by omega)
      have h2 : x / 2 ^ x.log2 < 2 := (Nat.div_lt_iff_lt_mul p).2 (by omega)
      omega
    rw [this]
    unfold blen; rw [if_neg h0]
    rfl

/-- the bits of a canonical list -/
theorem blen_lv {l : List Nat} (hB : ∀ x ∈ l, x < B64) (hc : canon l) (hp : 0 < l.length) : blen (lv B64 l) = 64 * (l.length - 1) + blen (l.getD (l.length - 1) 0) := by
  have h0 := canon_get hc hp
  have hx : l.getD (l.length - 1) 0 < B64 := getD_lt hB B64_pos _
  have e : lv B64 l = lv B64 (l.take (l.length - 1)) + B64 ^ (l.length - 1) * l.getD (l.length - 1) 0 := by
    have := lv_take_next B64 l (l.length - 1)
    rw [Nat.sub_add_cancel hp, List.take_length] at this
    exact this
  have h1 := lv_lt B64 (l.take (l.length - 1)) (fun x hx => hB x (List.mem_of_mem_take hx))
  rw [List.length_take, Nat.min_eq_left (by omega)] at h1
  have hP : B64 ^ (l.length - 1) = 2 ^ (64 * (l.length - 1)) := by rw [B64_eq, Nat.pow_mul]
  rw [hP] at e h1
  generalize l.getD (l.length - 1) 0 = y at *
  generalize lv B64 (l.take (l.length - 1)) = t at *
  generalize 64 * (l.length - 1) = s at *
  have a := blen_ge y h0
  have b := blen_lt y
  have c : 0 < blen y := by unfold blen; rw [if_neg h0]; omega
  obtain ⟨k, hk⟩ : ∃ k, blen y = k + 1 := ⟨blen y - 1, by omega⟩
  rw [hk] at a b ⊢
  rw [Nat.add_sub_cancel] at a
  rw [e, ← Nat.add_assoc]
  apply blen_eq
  · rw [Nat.pow_add]
    have := Nat.mul_le_mul_left (2 ^ s) a
    omega
  · rw [Nat.add_assoc, Nat.pow_add]
    have : 2 ^ s * y + 2 ^ s ≤ 2 ^ s * 2 ^ (k + 1) := by rw [← Nat.mul_succ]; exact Nat.mul_le_mul_left _ b
    omega


theorem blen_le64 (y : Nat) (h : y < B64) : blen y ≤ 64 := by
  rw [B64_eq] at h
  unfold blen
  split
  · omega
  · rename_i h0
    have a := Nat.log2_self_le h0
    have : y.log2 < 64 := (Nat.pow_lt_pow_iff_right (a := 2) (by decide)).1 (Nat.lt_of_le_of_lt a h)
    omega

theorem ret_int {k : IntKind} {a b : Int} (h : a = b) : Ending.returned (.int k a) = .returned (.int k b) := by rw [h]

set_option maxHeartbeats 1600000 in
theorem natBits_calls {w : World} {a : Value} {m : Nat} (ha : IsNat w a m) :
    Calls Tryd.prog 72 #[a] w fun E w' => E = .returned (.int .i64 (blen m)) ∧ w = w' := by
  obtain ⟨A, c, l, rfl, h1, h2, h3, h4, h5, rfl⟩ := ha
  have T := trim_calls A c l w h1 (by omega) h3
  rw [tl_canon h5] at T
  have HT := Lib.hid T
  have HR := Lib.hid h3
  have HB := Lib.hid h4
  have HK := Lib.hid h5
  clear T h3 h4 h5
  by_cases h0 : l.length = 0
  · have e : blen (lv B64 l) = 0 := by have : l = [] := List.eq_nil_of_length_eq_zero h0; subst this; rfl
    rw [e]
    have h0' : ((l.length : Int) == 0) = true := by simp [h0]
    clear h0 e
    go_enter Tryd.func72, Tryd.ntmps72
    go_wp2_with fail
    refine HT.out.mono ?_
    rintro E w' ⟨rfl, rfl⟩
    go_wp2_with fail
    go_ret
    exact ⟨rfl, rfl⟩
  · obtain ⟨b, o, rfl, hlt, hcell⟩ := HR.out (by omega)
    have hk := hcell (l.length - 1) (by omega)
    have e := Lib.hid (blen_lv HB.out HK.out (by omega))
    have hx : l.getD (l.length - 1) 0 < B64 := getD_lt HB.out B64_pos _
    have h64 := blen_le64 _ hx
    have HL := Lib.hid (bitLen_blen _ hx)
    have HX : Hid (l.getD (l.length - 1) 0 ≤ 18446744073709551615) := by rw [B64_eq] at hx; exact Lib.hid (by omega)
    have h0' : ((l.length : Int) == 0) = false := by simpa using h0
    have i1 : (0 : Int) ≤ (l.length : Int) - 1 := by omega
    have i2 : (l.length : Int) - 1 < (l.length : Int) := by omega
    have i3 : 0 < l.length := by omega
    generalize l.getD (l.length - 1) 0 = y at *
    clear h0 hcell hx
    go_enter Tryd.func72, Tryd.ntmps72
    go_wp2_with fail
    refine HT.out.mono ?_
    rintro E w' ⟨rfl, rfl⟩
    go_wp2_with fail
    refine (Tryd.bits_Len64 (y : Int) _ (by omega) (by have := HX.out; omega)).mono ?_
    rintro E w' ⟨rfl, rfl⟩
    rw [Int.toNat_natCast, HL.out]
    go_wp2_with fail
    go_ret
    exact ⟨ret_int (by rw [e.out]; omega), rfl⟩


/-- how often 2 divides a number -/
def tzn (m : Nat) : Nat := Lib.ctzFrom (blen m) m

theorem tzn_spec (m : Nat) (h : m ≠ 0) : ∃ t, m = 2 ^ tzn m * (2 * t + 1) := by
  obtain ⟨t, e, _⟩ := Lib.ctzFrom_spec (blen m) m (by omega) (blen_lt m)
  exact ⟨t, e⟩

theorem odd_unique {a b s t : Nat} (h : 2 ^ a * (2 * s + 1) = 2 ^ b * (2 * t + 1)) : a = b := by
  rcases Nat.lt_trichotomy a b with hlt | he | hgt
  · exfalso
    obtain ⟨d, rfl⟩ : ∃ d, b = a + (d + 1) := ⟨b - a - 1, by omega⟩
    rw [Nat.pow_add, Nat.mul_assoc] at h
    have h2 := Nat.eq_of_mul_eq_mul_left (Nat.two_pow_pos a) h
    have : 2 * s + 1 = 2 * (2 ^ d * (2 * t + 1)) := by rw [h2, Nat.pow_succ]; simp [Nat.mul_comm, Nat.mul_assoc, Nat.mul_left_comm]
    omega
  · exact he
  · exfalso
    obtain ⟨d, rfl⟩ : ∃ d, a = b + (d + 1) := ⟨a - b - 1, by omega⟩
    rw [Nat.pow_add, Nat.mul_assoc] at h
    have h2 := Nat.eq_of_mul_eq_mul_left (Nat.two_pow_pos b) h
    have : 2 * t + 1 = 2 * (2 ^ d * (2 * s + 1)) := by rw [← h2, Nat.pow_succ]; simp [Nat.mul_comm, Nat.mul_assoc, Nat.mul_left_comm]
    omega

theorem tzn_eq {m k t : Nat} (h : m = 2 ^ k * (2 * t + 1)) : tzn m = k := by
  have h0 : m ≠ 0 := by rw [h]; exact Nat.ne_of_gt (Nat.mul_pos (Nat.two_pow_pos k) (by omega))
  obtain ⟨s, e⟩ := tzn_spec m h0
  exact odd_unique (e.symm.trans h)

/-- the place of the lowest bit of a list -/
theorem tzn_lv {l : List Nat} {i : Nat} (hi : i < l.length) (hz : lv B64 (l.take i) = 0) (hx : l.getD i 0 < B64) (h0 : l.getD i 0 ≠ 0) : tzn (lv B64 l) = 64 * i + Lib.ctz 64 (l.getD i 0) := by
  rw [B64_eq] at hx
  obtain ⟨t, e, hj⟩ := Lib.ctzFrom_spec 64 (l.getD i 0) (by omega) hx
  have ec : Lib.ctz 64 (l.getD i 0) = Lib.ctzFrom 64 (l.getD i 0) := by simp only [Lib.ctz, if_neg h0]
  rw [ec]
  generalize Lib.ctzFrom 64 (l.getD i 0) = j at *
  have e1 : lv B64 l = B64 ^ i * (l.getD i 0 + B64 * lv B64 (l.drop (i + 1))) := by
    rw [lv_take_drop B64 l i (by omega), hz, Nat.zero_add, lv_drop_succ B64 l i hi]
  obtain ⟨d, hd⟩ : ∃ d, 64 = j + (d + 1) := ⟨64 - j - 1, by omega⟩
  apply tzn_eq (t := t + 2 ^ d * lv B64 (l.drop (i + 1)))
  rw [e1, e]
  generalize lv B64 (l.drop (i + 1)) = r
  have hB : B64 = 2 ^ j * (2 * 2 ^ d) := by rw [B64_eq, Nat.mul_comm 2 (2 ^ d), ← Nat.pow_succ, ← Nat.pow_add, ← hd]
  have hB2 : B64 ^ i = 2 ^ (64 * i) := by rw [B64_eq, Nat.pow_mul]
  rw [hB2, hB, Nat.pow_add]
  generalize 2 ^ (64 * i) = p
  generalize 2 ^ j = q
  generalize 2 ^ d = u
  grind

set_option maxHeartbeats 1600000 in
theorem natTrail_calls {w : World} {a : Value} {m : Nat} (ha : IsNat w a m) (hm : m ≠ 0) (hT : Tab w) :
    Calls Tryd.prog 87 #[a] w fun E w' => E = .returned (.int .i64 (tzn m)) ∧ w = w' := by
  obtain ⟨A, c, l, rfl, h1, h2, h3, h4, h5, rfl⟩ := ha
  have HR := Lib.hid h3
  have HB := Lib.hid h4
  have HT := Lib.hid hT
  have HM := Lib.hid hm
  clear h3 h4 h5 hT hm
  go_enter Tryd.func87, Tryd.ntmps87
  go_wp2
  go_loop [6] (fun iv => ∃ i : Nat, i ≤ l.length ∧ iv = .int .i64 i ∧ Hid (lv B64 (l.take i) = 0)) (fun iv => l.length - (intOf iv).toNat)
  case atStart => exact ⟨0, Nat.zero_le _, rfl, rfl⟩
  case round =>
    obtain ⟨i, hi, rfl, hz⟩ := hrel
    by_cases hil : i < l.length
    · obtain ⟨b, o, rfl, hlt, hcell⟩ := HR.out (by omega)
      have hx := hcell i hil
      have hxB := getD_lt HB.out B64_pos i
      clear hcell
      by_cases h0 : l.getD i 0 = 0
      · have hz2 : Hid (lv B64 (l.take (i + 1)) = 0) := Lib.hid (by rw [lv_take_next, hz.out, h0]; simp)
        rw [h0] at hx
        clear h0 hxB
        go_wp2
        go_round
        case rel => exact ⟨i + 1, by omega, by go_num, hz2.out⟩
        case measure => simp [intOf] <;> omega
      · have e := Lib.hid (tzn_lv hil hz.out hxB h0)
        have hc := Lib.hid (tz64_calls (l.getD i 0) hxB h0 w HT.out)
        have hj : Lib.ctz 64 (l.getD i 0) ≤ 64 := by
          rw [B64_eq] at hxB
          have := (Lib.lowest_bit 64 _ h0 hxB).2; omega
        have h0' : (((l.getD i 0 : Nat) : Int) != 0) = true := by rw [bne_iff_ne]; omega
        generalize Lib.ctz 64 (l.getD i 0) = j at *
        generalize l.getD i 0 = x at *
        clear h0 hxB
        go_wp2_with fail
        refine hc.out.mono ?_
        rintro E w' ⟨rfl, rfl⟩
        go_wp2_with fail
        go_ret
        exact ⟨ret_int (by rw [e.out]; omega), rfl⟩
    · exfalso
      apply HM.out
      have := hz.out
      rwa [List.take_of_length_le (by omega)] at this

end Go.Proofs.YtgihapdlliidgaaDoor
