/- The walks of package dd: each function gives the words that Fl's functions name. -/
import Derived.Test.YtgihapdlliidgaaDoorEft
import Derived.Test.YtgihapdlliidgaaDoorExt
import Derived.Deep.RegionHeld3
import Derived.Deep.RegionWith
namespace Go.Proofs.YtgihapdlliidgaaDoor
open Go Go.RowKit
set_option linter.unusedSimpArgs false
set_option linter.unusedVariables false

def ddV (a : Nat × Nat) : Value := .agg #[.float .f64 a.1, .float .f64 a.2]

/-- the frame, closed to the walk -/
def Fr (n : Nat) (w w' : World) : Prop := Below n w w'
theorem Fr.step {n : Nat} {w w1 w2 : World} (h : Fr n w w1) (hb : Below w1.heap.size w1 w2) (hn : n ≤ w1.heap.size) : Fr n w w2 := Below.trans h (hb.mono hn)
theorem Fr.drew {n : Nat} {w w1 : World} (h : Fr n w w1) : Fr n w w1.drew := Below.drew h
theorem Fr.alloc {n : Nat} {w w1 : World} (h : Fr n w w1) (hn : n ≤ w1.heap.size) (o : Obj) : Fr n w (w1.alloc o) := Below.alloc h hn o

theorem run_store_float (P : Program) (w : World) (a : Addr) (m : Mode) (x : Nat) : (store a (.float .f64 x) m).run P w = stored P w a (.float .f64 x) m := run_store P w a _ m rfl
attribute [go_sem] run_store_float

theorem buildDD (a b : Nat) (w : World) : (Instr.build 28 #[(0, .float .f64 a), (1, .float .f64 b)]).run Tryd.prog w = .ok (.agg #[.float .f64 a, .float .f64 b]) w := run_build w 28 _ _ (by kernel_rfl)
theorem buildDD0 (w : World) : (Instr.build 28 #[]).run Tryd.prog w = .ok (.agg #[.float .f64 0, .float .f64 0]) w := run_build w 28 _ _ (by kernel_rfl)
theorem buildDD1 (a : Nat) (w : World) : (Instr.build 28 #[(0, .float .f64 a)]).run Tryd.prog w = .ok (.agg #[.float .f64 a, .float .f64 0]) w := run_build w 28 _ _ (by kernel_rfl)
attribute [go_sem] buildDD buildDD0 buildDD1


theorem andNot_sign (x : Nat) (hx : x < 18446744073709551616) : Go.bits .andNot .u64 (x : Int) 9223372036854775808 = ((fabs x : Nat) : Int) := by
  have e1 : BitVec.ofInt 64 (x : Int) = BitVec.ofNat 64 x := by simp
  have e2 : BitVec.ofInt 64 9223372036854775808 = BitVec.ofNat 64 9223372036854775808 := by rfl
  have e3 : (BitVec.ofInt 64 (x : Int) &&& ~~~ BitVec.ofInt 64 9223372036854775808).toNat = x % 9223372036854775808 := by
    have : ~~~ BitVec.ofNat 64 9223372036854775808 = BitVec.ofNat 64 9223372036854775807 := by decide
    rw [e1, e2, this]
    simp only [BitVec.toNat_and, BitVec.toNat_ofNat]
    rw [Nat.mod_eq_of_lt hx]
    show x &&& (2 ^ 63 - 1) = x % 2 ^ 63
    exact Nat.and_two_pow_sub_one_eq_mod x 63
  have e4 : Go.bits .andNot .u64 (x : Int) 9223372036854775808 = IntKind.u64.wrap ((BitVec.ofInt 64 (x : Int) &&& ~~~ BitVec.ofInt 64 9223372036854775808).toNat : Nat) := rfl
  rw [e4, e3]
  unfold IntKind.wrap fabs
  have : (2 : Int) ^ IntKind.u64.bits = 18446744073709551616 := by decide
  rw [this]
  have h2 : IntKind.u64.signed = false := rfl
  simp only [h2, Bool.false_and, Bool.false_eq_true, if_false]
  omega

set_option maxHeartbeats 400000 in
set_option maxRecDepth 100000 in
theorem abs_calls (x : Nat) (hx : x < 18446744073709551616) (w : World) :
    Calls Tryd.prog 12 #[.float .f64 x] w fun E w' => E = .returned (.float .f64 (fabs x)) ∧ w = w' := by
  have H := Lib.hid (andNot_sign x hx)
  clear hx
  go_enter Tryd.func12, Tryd.ntmps12
  go_wp2
  go_ret
  exact ⟨by rw [H.out]; rfl, rfl⟩

set_option maxHeartbeats 400000 in
set_option maxRecDepth 100000 in
theorem ddfinite_calls (x : Nat) (hx : x < 18446744073709551616) (w : World) :
    Calls Tryd.prog 42 #[.float .f64 x] w fun E w' => E = .returned (.bool (ffin x)) ∧ w = w' := by
  have H := Lib.hid hx
  clear hx
  go_enter Tryd.func42, Tryd.ntmps42
  go_wp2_with fail
  refine (abs_calls _ H.out _).mono ?_
  rintro E w' ⟨rfl, rfl⟩
  go_wp2_with fail
  go_ret
  exact ⟨rfl, rfl⟩

set_option maxHeartbeats 400000 in
theorem ddNeg_calls (a : Nat × Nat) (w : World) :
    Calls Tryd.prog 22 #[ddV a] w fun E w' => E = .returned (ddV (ddNeg a)) ∧ Below w.heap.size w w' := by
  obtain ⟨a1, a2⟩ := a
  unfold ddV
  go_enter Tryd.func22, Tryd.ntmps22
  go_wp2_with fail
  exact bodyPost_ret (v := ddV (ddNeg (a1, a2))) (by simp [results, Tryd.results22, go_sem, ddV, ddNeg] <;> rfl) rfl ⟨rfl, ((Below.refl _ _).alloc (Nat.le_refl _) _).alloc (by simp) _⟩

set_option maxHeartbeats 400000 in
theorem ddpair_calls (a b : Nat) (r : Nat × Nat) (w : World) (h : fastTwoSum a b = some r) :
    Calls Tryd.prog 39 #[.float .f64 a, .float .f64 b] w fun E w' => E = .returned (ddV r) ∧ Below w.heap.size w w' := by
  obtain ⟨r1, r2⟩ := r
  have H := Lib.hid h; clear h
  go_enter Tryd.func39, Tryd.ntmps39
  go_wp2_with fail
  refine (fastTwoSum_calls _ _ _ _ _ H.out).mono ?_
  rintro E w' ⟨rfl, rfl⟩
  go_wp2_with fail
  exact bodyPost_ret (v := ddV (r1, r2)) (by simp [results, Tryd.results39, go_sem, ddV]) rfl ⟨rfl, (Below.refl _ _).alloc (Nat.le_refl _) _⟩

set_option maxHeartbeats 800000 in
theorem ddAdd_calls (a b : Nat × Nat) (r : Nat × Nat) (w : World) (h : ddAdd a b = some r) :
    Calls Tryd.prog 63 #[ddV a, ddV b] w fun E w' => E = .returned (ddV r) ∧ Below w.heap.size w w' := by
  obtain ⟨a1, a2⟩ := a
  obtain ⟨b1, b2⟩ := b
  obtain ⟨r1, r2⟩ := r
  simp only [ddAdd, Option.bind_eq_some_iff] at h
  obtain ⟨⟨s, e⟩, h1, ⟨t, f⟩, h2, c, h3, ⟨v1, v2⟩, h4, d, h5, h6⟩ := h
  have g3 := hop (P := Tryd.prog) h3
  have g5 := hop (P := Tryd.prog) h5
  have H1 := Lib.hid h1
  have H2 := Lib.hid h2
  have H4 := Lib.hid h4
  have H6 := Lib.hid h6
  clear h1 h2 h3 h4 h5 h6
  unfold ddV
  go_enter Tryd.func63, Tryd.ntmps63
  go_wp2_with fail
  refine (twoSum_calls _ _ _ _ _ H1.out).mono ?_
  rintro E w' ⟨rfl, rfl⟩
  go_wp2_with fail
  refine (twoSum_calls _ _ _ _ _ H2.out).mono ?_
  rintro E w' ⟨rfl, rfl⟩
  go_wp2_with fail
  refine (ddpair_calls _ _ _ _ H4.out).mono ?_
  rintro E w1 ⟨rfl, hb1⟩
  obtain ⟨hc1, hf1⟩ := bcell hb1
  have hs1 : w.heap.size + 1 + 1 + 1 ≤ w1.heap.size := by have := hb1.size; simp at this; omega
  have hz1 : w.heap.size < w1.heap.size := by omega
  have hz1' : w.heap.size + 1 < w1.heap.size := by omega
  have hz1'' : w.heap.size + 1 + 1 < w1.heap.size := by omega
  unfold ddV
  go_wp2_with fail
  refine (ddpair_calls _ _ _ _ H6.out).mono ?_
  rintro E w2 ⟨rfl, hb2⟩
  obtain ⟨hc2, hf2⟩ := bcell hb2
  unfold ddV
  go_wp2_with fail
  refine bodyPost_ret (v := ddV (r1, r2)) (by simp [results, Tryd.results63, go_sem, ddV, hc1, hc2, hf1, hf2, hz1, hz1', hz1'']) rfl ⟨rfl, ?_⟩
  exact ((((((((Below.refl _ _).alloc (Nat.le_refl _) _).alloc (by simp) _).alloc (by simp; omega) _).trans (hb1.mono (by simp; omega))).alloc (by omega) _).trans (hb2.mono (by simp; omega))).setCell (p := ⟨_, _, _⟩) (by simp; omega) _).setCell (p := ⟨_, _, _⟩) (by simp; omega) _


set_option maxHeartbeats 400000 in
theorem ddSum_calls (a b s e : Nat) (w : World) (h : twoSum a b = some (s, e)) :
    Calls Tryd.prog 36 #[.float .f64 a, .float .f64 b] w fun E w' => E = .returned (ddV (s, e)) ∧ Below w.heap.size w w' := by
  have H := Lib.hid h; clear h
  go_enter Tryd.func36, Tryd.ntmps36
  go_wp2_with fail
  refine (twoSum_calls _ _ _ _ _ H.out).mono ?_
  rintro E w' ⟨rfl, rfl⟩
  go_wp2_with fail
  exact bodyPost_ret (v := ddV (s, e)) (by simp [results, Tryd.results36, go_sem, ddV]) rfl ⟨rfl, (Below.refl _ _).alloc (Nat.le_refl _) _⟩

set_option maxHeartbeats 800000 in
theorem ddMul_calls (a b : Nat × Nat) (r : Nat × Nat) (w : World) (h : ddMul a b = some r) :
    Calls Tryd.prog 21 #[ddV a, ddV b] w fun E w' => E = .returned (ddV r) ∧ Below w.heap.size w w' := by
  obtain ⟨a1, a2⟩ := a
  obtain ⟨b1, b2⟩ := b
  obtain ⟨r1, r2⟩ := r
  simp only [ddMul, Option.bind_eq_some_iff] at h
  obtain ⟨⟨p, e⟩, h1, x, h2, y, h3, c, h4, d, h5, h6⟩ := h
  have g2 := hop (P := Tryd.prog) h2
  have g3 := hop (P := Tryd.prog) h3
  have g4 := hop (P := Tryd.prog) h4
  have g5 := hop (P := Tryd.prog) h5
  have H1 := Lib.hid h1
  have H6 := Lib.hid h6
  clear h1 h2 h3 h4 h5 h6
  unfold ddV
  go_enter Tryd.func21, Tryd.ntmps21
  go_wp2_with fail
  refine (twoProd_calls _ _ _ _ _ H1.out).mono ?_
  rintro E w' ⟨rfl, rfl⟩
  go_wp2_with fail
  refine (ddpair_calls _ _ _ _ H6.out).mono ?_
  rintro E w1 ⟨rfl, hb1⟩
  obtain ⟨hc1, hf1⟩ := bcell hb1
  unfold ddV
  go_wp2_with fail
  refine bodyPost_ret (v := ddV (r1, r2)) (by simp [results, Tryd.results21, go_sem, ddV, hc1, hf1]) rfl ⟨rfl, ?_⟩
  exact (((((Below.refl _ _).alloc (Nat.le_refl _) _).alloc (by simp) _).alloc (by simp; omega) _).trans (hb1.mono (by simp; omega))).setCell (p := ⟨_, _, _⟩) (by simp; omega) _ |>.setCell (p := ⟨_, _, _⟩) (by simp; omega) _

set_option maxHeartbeats 800000 in
theorem ddSub_calls (a b : Nat × Nat) (r : Nat × Nat) (w : World) (h : ddSub a b = some r) :
    Calls Tryd.prog 45 #[ddV a, ddV b] w fun E w' => E = .returned (ddV r) ∧ Below w.heap.size w w' := by
  obtain ⟨a1, a2⟩ := a
  obtain ⟨b1, b2⟩ := b
  obtain ⟨r1, r2⟩ := r
  have H := Lib.hid h
  clear h
  unfold ddV
  go_enter Tryd.func45, Tryd.ntmps45
  go_wp2_with fail
  go_region_with (first
      | (go_at_call 22; refine (ddNeg_calls (b1, b2) _).mono ?_; rintro E wN ⟨rfl, hbN⟩; obtain ⟨hcN, hfN⟩ := bcell hbN; have hz0 : w.heap.size + 1 + 1 + 1 ≤ wN.heap.size := (by have := hbN.size; simp at this; omega); have hz1 : w.heap.size < wN.heap.size := (by omega); have hz2 : w.heap.size + 1 < wN.heap.size := (by omega); have hz3 : w.heap.size + 1 + 1 < wN.heap.size := (by omega); unfold ddV ddNeg)
      | (go_at_call 63; refine (ddAdd_calls (a1, a2) _ (r1, r2) _ H.out).mono ?_; rintro E wA ⟨rfl, hbA⟩; obtain ⟨hcA, hfA⟩ := bcell hbA; unfold ddV))
  all_goals
    go_wp2_with fail
    refine bodyPost_ret (v := ddV (r1, r2)) (by simp [results, Tryd.results45, go_sem, ddV, hcN, hfN, hcA, hfA, hz0, hz1, hz2, hz3]) rfl ⟨rfl, ?_⟩
    exact (((((((Below.refl _ _).alloc (Nat.le_refl _) _).alloc (by simp) _).alloc (by simp; omega) _).drew.trans (hbN.mono (by simp; omega))).trans (hbA.mono (by omega))).setCell (p := ⟨_, _, _⟩) (by simp; omega) _).setCell (p := ⟨_, _, _⟩) (by simp; omega) _


set_option maxHeartbeats 800000 in
theorem ddOf_calls (x : Nat) (hx : x < 18446744073709551616) (w : World) :
    Calls Tryd.prog 24 #[.float .f64 x] w fun E w' => E = .returned (ddV (ddOf x)) ∧ Below w.heap.size w w' := by
  have H := Lib.hid hx
  clear hx
  unfold ddOf
  by_cases hf : ffin x = true
  · rw [if_pos hf]
    go_enter Tryd.func24, Tryd.ntmps24
    go_wp2_with fail
    refine (ddfinite_calls _ H.out _).mono ?_
    rintro E w' ⟨rfl, rfl⟩
    go_wp2_with fail
    exact bodyPost_ret (v := ddV (x, 0)) (by simp [results, Tryd.results24, go_sem, ddV]) rfl ⟨rfl, (Below.refl _ _).alloc (Nat.le_refl _) _⟩
  · rw [if_neg hf]
    have hf' : ffin x = false := by simpa using hf
    clear hf
    go_enter Tryd.func24, Tryd.ntmps24
    go_wp2_with fail
    refine (ddfinite_calls _ H.out _).mono ?_
    rintro E w' ⟨rfl, rfl⟩
    go_wp2_with fail
    exact bodyPost_ret (v := ddV (0, 0)) (by simp [results, Tryd.results24, go_sem, ddV]) rfl ⟨rfl, (Below.refl _ _).alloc (Nat.le_refl _) _⟩

set_option maxHeartbeats 800000 in
theorem ddForm_calls (a : Nat × Nat) (r : Bool) (ha1 : a.1 < 18446744073709551616) (ha2 : a.2 < 18446744073709551616) (w : World) (h : ddForm a = some r) :
    Calls Tryd.prog 46 #[ddV a] w fun E w' => E = .returned (.bool r) ∧ Below w.heap.size w w' := by
  obtain ⟨a1, a2⟩ := a
  have H1 := Lib.hid ha1
  have H2 := Lib.hid ha2
  clear ha1 ha2
  unfold ddForm at h
  unfold ddV
  by_cases h1 : ffin a1 = true
  · rw [if_pos h1] at h
    by_cases h2 : ffin a2 = true
    · rw [if_pos h2] at h
      simp only [Option.bind_eq_some_iff, Option.some.injEq] at h
      obtain ⟨s, h3, rfl⟩ := h
      have g3 := hop (P := Tryd.prog) h3
      clear h3
      go_enter Tryd.func46, Tryd.ntmps46
      go_wp2_with fail
      refine (ddfinite_calls _ H1.out _).mono ?_
      rintro E w' ⟨rfl, rfl⟩
      go_wp2_with fail
      refine (ddfinite_calls _ H2.out _).mono ?_
      rintro E w' ⟨rfl, rfl⟩
      go_wp2_with fail
      go_ret
      exact ⟨rfl, (Below.refl _ _).alloc (Nat.le_refl _) _⟩
    · rw [if_neg h2] at h
      cases h
      have h2' : ffin a2 = false := by simpa using h2
      clear h2
      go_enter Tryd.func46, Tryd.ntmps46
      go_wp2_with fail
      refine (ddfinite_calls _ H1.out _).mono ?_
      rintro E w' ⟨rfl, rfl⟩
      go_wp2_with fail
      refine (ddfinite_calls _ H2.out _).mono ?_
      rintro E w' ⟨rfl, rfl⟩
      go_wp2_with fail
      go_ret
      exact ⟨rfl, (Below.refl _ _).alloc (Nat.le_refl _) _⟩
  · rw [if_neg h1] at h
    cases h
    have h1' : ffin a1 = false := by simpa using h1
    clear h1
    go_enter Tryd.func46, Tryd.ntmps46
    go_wp2_with fail
    refine (ddfinite_calls _ H1.out _).mono ?_
    rintro E w' ⟨rfl, rfl⟩
    go_wp2_with fail
    go_ret
    exact ⟨rfl, (Below.refl _ _).alloc (Nat.le_refl _) _⟩

end Go.Proofs.YtgihapdlliidgaaDoor
