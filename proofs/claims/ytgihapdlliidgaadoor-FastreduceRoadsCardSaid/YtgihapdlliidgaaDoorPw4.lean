/- The walks of payne.part (written by genpw3.py). -/
import Derived.Test.YtgihapdlliidgaaDoorPw3
namespace Go.Proofs.YtgihapdlliidgaaDoor
open Go Go.RowKit
set_option linter.unusedVariables false
set_option linter.unusedSimpArgs false

set_option maxHeartbeats 4000000 in
set_option maxRecDepth 100000 in
theorem part_0s (y1 y2 y3 e s : Nat) (hy1 : y1 < B64) (hy2 : y2 < B64) (hy3 : y3 < B64) (he : e < B64) (h0 : y1 ≠ 0) (hs : 64 - blen y1 = s) (hs1 : 0 < s) (hs2 : s < 64) (z1 : Nat) (hz1 : y1 * 2 ^ s % B64 + y2 / 2 ^ (64 - s) = z1) (hz1b : z1 < B64) (z2 : Nat) (hz2 : y2 * 2 ^ s % B64 + y3 / 2 ^ (64 - s) = z2) (hz2b : z2 < B64) (r : Nat × Nat) (hr : twoSum (ldx (z1 / 2048) (-53 - (s : Int))) (ldx (z1 % 2048 * 4398046511104 + z2 / 4194304) (-106 - (s : Int))) = some r) (w : World) :
    Calls Tryd.prog 20 #[.agg #[.int .u64 0, .int .u64 (y1 : Nat), .int .u64 (y2 : Nat), .int .u64 (y3 : Nat), .int .u64 (e : Nat)]] w fun E w' => E = .returned (.tuple #[ddV r, .int .i64 (s : Int)]) ∧ Below w.heap.size w w' := by
  obtain ⟨r1, r2⟩ := r
  have HL := Lib.hid (fun w0 => lz_calls y1 hy1 w0)
  rw [hs] at HL
  obtain ⟨k4, k5⟩ := nzfacts y1 h0
  obtain ⟨k0, k00, k1, k11, k2, k3, k7, k8, l1, l2, l3, l4⟩ := sfacts s hs1 hs2
  have E0 := (win_word y1 y2 s hy1 hy2 hs2).1
  rw [hz1] at E0
  have E1 := (win_word y2 y3 s hy2 hy3 hs2).1
  rw [hz2] at E1
  obtain ⟨C, C4, D, u1, u2, u3, u4, u5, u6, u7, u8, u12⟩ := part_facts z1 z2 hz1b hz2b
  generalize z1 / 2048 = U at *
  generalize z1 % 2048 * 4398046511104 + z2 / 4194304 = L at *
  have c1 : ∀ w, (convert 22 24 (.int .u64 (U : Int))).run Tryd.prog w = .ok (.float .f64 (flN U)) w := fun w => run_convert_int_float w 22 24 .u64 .f64 _ (by rw [Tryd.underlying22]; rfl) Tryd.underlying24
  have c2 : ∀ w, (convert 22 24 (.int .u64 (L : Int))).run Tryd.prog w = .ok (.float .f64 (flN L)) w := fun w => run_convert_int_float w 22 24 .u64 .f64 _ (by rw [Tryd.underlying22]; rfl) Tryd.underlying24
  have HA := Lib.hid (fun w0 => ldexp_fl U (-53 - (s : Int)) (Nat.le_of_lt u7) l1 l2 w0)
  have HB := Lib.hid (fun w0 => ldexp_fl L (-106 - (s : Int)) (Nat.le_of_lt u6) l3 l4 w0)
  have HS := Lib.hid (fun w0 => ddSum_calls _ _ r1 r2 w0 hr)
  generalize ldx U (-53 - (s : Int)) = X1 at *
  generalize ldx L (-106 - (s : Int)) = X2 at *
  generalize flN U = x1 at *
  generalize flN L = x2 at *
  clear hr l1 l2 l3 l4 h0 hs u6 u7 u8 u12 hz1 hz1b hz2 hz2b hy1 hy2 hy3 he
  have HW0 : Hid (Below w.heap.size w w) := Lib.hid (Below.refl _ _)
  go_enter Tryd.func20, Tryd.ntmps20
  go_wp2_with fail
  refine wp_loop_rounds 4 ?_
  rw [rounds_succ]
  go_wp2_with fail
  refine (HL.out _).mono ?_
  rintro E w' ⟨rfl, rfl⟩
  go_wp2_with fail
  go_region
  go_wp2_with fail
  go_region
  go_wp2_with fail
  refine (HA.out _).mono ?_
  rintro E w' ⟨rfl, rfl⟩
  go_wp2_with fail
  refine (HB.out _).mono ?_
  rintro E w' ⟨rfl, rfl⟩
  go_wp2_with fail
  refine Calls.mono (HS.out _) ?_
  rintro E w1 ⟨rfl, hb1⟩
  obtain ⟨hc1, hf1⟩ := bcell hb1
  have HW1 : Hid (Below w.heap.size w w1) := Lib.hid (by
    refine Below.trans ?_ (hb1.mono ?_)
    · (repeat (first | with_reducible exact HW0.out | refine Below.setCell (p := ⟨_, _, _⟩) ?_ (by first | omega | (simp; done) | (simp; omega)) _ | refine Below.alloc ?_ (by first | omega | (simp; done) | (simp; omega)) _ | refine Below.drew ?_ | refine below_dn ?_ _))
    · first | omega | (simp; done) | (simp; omega))
  have hS0_1 : Hid (SameB w.heap.size 2 w w1) := Lib.hid (by
    refine SameB.below ?_ hb1
    (repeat (first | with_reducible exact SameB.refl _ _ _ | refine SameB.setCell (p := ⟨_, _, _⟩) ?_ (by first | omega | (simp; done) | (simp; omega)) (by first | omega | (simp; done) | (simp; omega)) _ | refine SameB.setNew (p := ⟨_, _, _⟩) ?_ (by first | omega | (simp; done) | (simp; omega)) _ | refine SameB.alloc ?_ _ | refine SameB.drew ?_ | refine SameB.drewN ?_ _)))
  have hs1 : w.heap.size + 1 + 1 ≤ w1.heap.size := by have := hb1.size; (try simp at this); omega
  have hc1_0 := fun o : Nat => hc1 (w.heap.size) o (by first | omega | (simp; done) | (simp; omega))
  have hf1_0 := fun o : Nat => hf1 (w.heap.size) o (by first | omega | (simp; done) | (simp; omega))
  have hc1_1 := fun o : Nat => hc1 (w.heap.size + 1) o (by first | omega | (simp; done) | (simp; omega))
  have hf1_1 := fun o : Nat => hf1 (w.heap.size + 1) o (by first | omega | (simp; done) | (simp; omega))
  clear hc1 hf1
  clear hb1
  unfold ddV
  go_wp2_with fail
  refine bodyPost_ret (v := .tuple #[ddV (r1, r2), .int .i64 (s : Int)]) (by simp [results, Tryd.results20, go_sem, intV, dyV, ddV, hc1_0, hf1_0, hc1_1, hf1_1]) rfl ?_
  exact ⟨rfl, by (repeat (first | with_reducible exact HW1.out | refine Below.setCell (p := ⟨_, _, _⟩) ?_ (by first | omega | (simp; done) | (simp; omega)) _ | refine Below.alloc ?_ (by first | omega | (simp; done) | (simp; omega)) _ | refine Below.drew ?_ | refine below_dn ?_ _))⟩

set_option maxHeartbeats 4000000 in
set_option maxRecDepth 100000 in
theorem part_1s (y1 y2 y3 s : Nat) (hy1 : y1 < B64) (hy2 : y2 < B64) (hy3 : y3 < B64) (h0 : y1 ≠ 0) (hs : 64 - blen y1 = s) (hs1 : 0 < s) (hs2 : s < 64) (z1 : Nat) (hz1 : y1 * 2 ^ s % B64 + y2 / 2 ^ (64 - s) = z1) (hz1b : z1 < B64) (z2 : Nat) (hz2 : y2 * 2 ^ s % B64 + y3 / 2 ^ (64 - s) = z2) (hz2b : z2 < B64) (r : Nat × Nat) (hr : twoSum (ldx (z1 / 2048) (-53 - (64 + (s : Int)))) (ldx (z1 % 2048 * 4398046511104 + z2 / 4194304) (-106 - (64 + (s : Int)))) = some r) (w : World) :
    Calls Tryd.prog 20 #[.agg #[.int .u64 0, .int .u64 0, .int .u64 (y1 : Nat), .int .u64 (y2 : Nat), .int .u64 (y3 : Nat)]] w fun E w' => E = .returned (.tuple #[ddV r, .int .i64 (64 + (s : Int))]) ∧ Below w.heap.size w w' := by
  obtain ⟨r1, r2⟩ := r
  have HL := Lib.hid (fun w0 => lz_calls y1 hy1 w0)
  rw [hs] at HL
  obtain ⟨k4, k5⟩ := nzfacts y1 h0
  obtain ⟨k0, k00, k1, k11, k2, k3, k7, k8, l1, l2, l3, l4⟩ := sfacts s hs1 hs2
  clear k7 k8 l1 l2 l3 l4
  obtain ⟨k6, k7, k8, l1, l2, l3, l4⟩ := zfacts 64 s (by decide) (by decide) hs2
  have E0 := (win_word y1 y2 s hy1 hy2 hs2).1
  rw [hz1] at E0
  have E1 := (win_word y2 y3 s hy2 hy3 hs2).1
  rw [hz2] at E1
  obtain ⟨C, C4, D, u1, u2, u3, u4, u5, u6, u7, u8, u12⟩ := part_facts z1 z2 hz1b hz2b
  generalize z1 / 2048 = U at *
  generalize z1 % 2048 * 4398046511104 + z2 / 4194304 = L at *
  have c1 : ∀ w, (convert 22 24 (.int .u64 (U : Int))).run Tryd.prog w = .ok (.float .f64 (flN U)) w := fun w => run_convert_int_float w 22 24 .u64 .f64 _ (by rw [Tryd.underlying22]; rfl) Tryd.underlying24
  have c2 : ∀ w, (convert 22 24 (.int .u64 (L : Int))).run Tryd.prog w = .ok (.float .f64 (flN L)) w := fun w => run_convert_int_float w 22 24 .u64 .f64 _ (by rw [Tryd.underlying22]; rfl) Tryd.underlying24
  have HA := Lib.hid (fun w0 => ldexp_fl U (-53 - (64 + (s : Int))) (Nat.le_of_lt u7) l1 l2 w0)
  have HB := Lib.hid (fun w0 => ldexp_fl L (-106 - (64 + (s : Int))) (Nat.le_of_lt u6) l3 l4 w0)
  have HS := Lib.hid (fun w0 => ddSum_calls _ _ r1 r2 w0 hr)
  generalize ldx U (-53 - (64 + (s : Int))) = X1 at *
  generalize ldx L (-106 - (64 + (s : Int))) = X2 at *
  generalize flN U = x1 at *
  generalize flN L = x2 at *
  clear hr l1 l2 l3 l4 h0 hs u6 u7 u8 u12 hz1 hz1b hz2 hz2b hy1 hy2 hy3
  have HW0 : Hid (Below w.heap.size w w) := Lib.hid (Below.refl _ _)
  go_enter Tryd.func20, Tryd.ntmps20
  go_wp2_with fail
  refine wp_loop_rounds 4 ?_
  rw [rounds_succ]
  go_wp2_with fail
  rw [rounds_succ]
  go_wp2_with fail
  refine (HL.out _).mono ?_
  rintro E w' ⟨rfl, rfl⟩
  go_wp2_with fail
  go_region
  go_wp2_with fail
  go_region
  go_wp2_with fail
  refine (HA.out _).mono ?_
  rintro E w' ⟨rfl, rfl⟩
  go_wp2_with fail
  refine (HB.out _).mono ?_
  rintro E w' ⟨rfl, rfl⟩
  go_wp2_with fail
  refine Calls.mono (HS.out _) ?_
  rintro E w1 ⟨rfl, hb1⟩
  obtain ⟨hc1, hf1⟩ := bcell hb1
  have HW1 : Hid (Below w.heap.size w w1) := Lib.hid (by
    refine Below.trans ?_ (hb1.mono ?_)
    · (repeat (first | with_reducible exact HW0.out | refine Below.setCell (p := ⟨_, _, _⟩) ?_ (by first | omega | (simp; done) | (simp; omega)) _ | refine Below.alloc ?_ (by first | omega | (simp; done) | (simp; omega)) _ | refine Below.drew ?_ | refine below_dn ?_ _))
    · first | omega | (simp; done) | (simp; omega))
  have hS0_1 : Hid (SameB w.heap.size 2 w w1) := Lib.hid (by
    refine SameB.below ?_ hb1
    (repeat (first | with_reducible exact SameB.refl _ _ _ | refine SameB.setCell (p := ⟨_, _, _⟩) ?_ (by first | omega | (simp; done) | (simp; omega)) (by first | omega | (simp; done) | (simp; omega)) _ | refine SameB.setNew (p := ⟨_, _, _⟩) ?_ (by first | omega | (simp; done) | (simp; omega)) _ | refine SameB.alloc ?_ _ | refine SameB.drew ?_ | refine SameB.drewN ?_ _)))
  have hs1 : w.heap.size + 1 + 1 ≤ w1.heap.size := by have := hb1.size; (try simp at this); omega
  have hc1_0 := fun o : Nat => hc1 (w.heap.size) o (by first | omega | (simp; done) | (simp; omega))
  have hf1_0 := fun o : Nat => hf1 (w.heap.size) o (by first | omega | (simp; done) | (simp; omega))
  have hc1_1 := fun o : Nat => hc1 (w.heap.size + 1) o (by first | omega | (simp; done) | (simp; omega))
  have hf1_1 := fun o : Nat => hf1 (w.heap.size + 1) o (by first | omega | (simp; done) | (simp; omega))
  clear hc1 hf1
  clear hb1
  unfold ddV
  go_wp2_with fail
  refine bodyPost_ret (v := .tuple #[ddV (r1, r2), .int .i64 (64 + (s : Int))]) (by simp [results, Tryd.results20, go_sem, intV, dyV, ddV, hc1_0, hf1_0, hc1_1, hf1_1]) rfl ?_
  exact ⟨rfl, by (repeat (first | with_reducible exact HW1.out | refine Below.setCell (p := ⟨_, _, _⟩) ?_ (by first | omega | (simp; done) | (simp; omega)) _ | refine Below.alloc ?_ (by first | omega | (simp; done) | (simp; omega)) _ | refine Below.drew ?_ | refine below_dn ?_ _))⟩

set_option maxHeartbeats 4000000 in
set_option maxRecDepth 100000 in
theorem part_2s (y1 y2 s : Nat) (hy1 : y1 < B64) (hy2 : y2 < B64) (h0 : y1 ≠ 0) (hs : 64 - blen y1 = s) (hs1 : 0 < s) (hs2 : s < 64) (z1 : Nat) (hz1 : y1 * 2 ^ s % B64 + y2 / 2 ^ (64 - s) = z1) (hz1b : z1 < B64) (z2 : Nat) (hz2 : y2 * 2 ^ s % B64 = z2) (hz2b : z2 < B64) (r : Nat × Nat) (hr : twoSum (ldx (z1 / 2048) (-53 - (128 + (s : Int)))) (ldx (z1 % 2048 * 4398046511104 + z2 / 4194304) (-106 - (128 + (s : Int)))) = some r) (w : World) :
    Calls Tryd.prog 20 #[.agg #[.int .u64 0, .int .u64 0, .int .u64 0, .int .u64 (y1 : Nat), .int .u64 (y2 : Nat)]] w fun E w' => E = .returned (.tuple #[ddV r, .int .i64 (128 + (s : Int))]) ∧ Below w.heap.size w w' := by
  obtain ⟨r1, r2⟩ := r
  have HL := Lib.hid (fun w0 => lz_calls y1 hy1 w0)
  rw [hs] at HL
  obtain ⟨k4, k5⟩ := nzfacts y1 h0
  obtain ⟨k0, k00, k1, k11, k2, k3, k7, k8, l1, l2, l3, l4⟩ := sfacts s hs1 hs2
  clear k7 k8 l1 l2 l3 l4
  obtain ⟨k6, k7, k8, l1, l2, l3, l4⟩ := zfacts 128 s (by decide) (by decide) hs2
  have E0 := (win_word y1 y2 s hy1 hy2 hs2).1
  rw [hz1] at E0
  have E2 := bits_or_zero z2 hz2b
  have E1 : IntKind.u64.wrap ((y2 : Int) * 2 ^ s) = (z2 : Int) := by rw [← hz2, show (y2 : Int) * 2 ^ s = ((y2 * 2 ^ s : Nat) : Int) by simp, wrap_u64_nat]
  obtain ⟨C, C4, D, u1, u2, u3, u4, u5, u6, u7, u8, u12⟩ := part_facts z1 z2 hz1b hz2b
  generalize z1 / 2048 = U at *
  generalize z1 % 2048 * 4398046511104 + z2 / 4194304 = L at *
  have c1 : ∀ w, (convert 22 24 (.int .u64 (U : Int))).run Tryd.prog w = .ok (.float .f64 (flN U)) w := fun w => run_convert_int_float w 22 24 .u64 .f64 _ (by rw [Tryd.underlying22]; rfl) Tryd.underlying24
  have c2 : ∀ w, (convert 22 24 (.int .u64 (L : Int))).run Tryd.prog w = .ok (.float .f64 (flN L)) w := fun w => run_convert_int_float w 22 24 .u64 .f64 _ (by rw [Tryd.underlying22]; rfl) Tryd.underlying24
  have HA := Lib.hid (fun w0 => ldexp_fl U (-53 - (128 + (s : Int))) (Nat.le_of_lt u7) l1 l2 w0)
  have HB := Lib.hid (fun w0 => ldexp_fl L (-106 - (128 + (s : Int))) (Nat.le_of_lt u6) l3 l4 w0)
  have HS := Lib.hid (fun w0 => ddSum_calls _ _ r1 r2 w0 hr)
  generalize ldx U (-53 - (128 + (s : Int))) = X1 at *
  generalize ldx L (-106 - (128 + (s : Int))) = X2 at *
  generalize flN U = x1 at *
  generalize flN L = x2 at *
  clear hr l1 l2 l3 l4 h0 hs u6 u7 u8 u12 hz1 hz1b hz2 hz2b hy1 hy2
  have HW0 : Hid (Below w.heap.size w w) := Lib.hid (Below.refl _ _)
  go_enter Tryd.func20, Tryd.ntmps20
  go_wp2_with fail
  refine wp_loop_rounds 4 ?_
  rw [rounds_succ]
  go_wp2_with fail
  rw [rounds_succ]
  go_wp2_with fail
  rw [rounds_succ]
  go_wp2_with fail
  refine (HL.out _).mono ?_
  rintro E w' ⟨rfl, rfl⟩
  go_wp2_with fail
  go_region
  go_wp2_with fail
  go_region
  go_wp2_with fail
  refine (HA.out _).mono ?_
  rintro E w' ⟨rfl, rfl⟩
  go_wp2_with fail
  refine (HB.out _).mono ?_
  rintro E w' ⟨rfl, rfl⟩
  go_wp2_with fail
  refine Calls.mono (HS.out _) ?_
  rintro E w1 ⟨rfl, hb1⟩
  obtain ⟨hc1, hf1⟩ := bcell hb1
  have HW1 : Hid (Below w.heap.size w w1) := Lib.hid (by
    refine Below.trans ?_ (hb1.mono ?_)
    · (repeat (first | with_reducible exact HW0.out | refine Below.setCell (p := ⟨_, _, _⟩) ?_ (by first | omega | (simp; done) | (simp; omega)) _ | refine Below.alloc ?_ (by first | omega | (simp; done) | (simp; omega)) _ | refine Below.drew ?_ | refine below_dn ?_ _))
    · first | omega | (simp; done) | (simp; omega))
  have hS0_1 : Hid (SameB w.heap.size 2 w w1) := Lib.hid (by
    refine SameB.below ?_ hb1
    (repeat (first | with_reducible exact SameB.refl _ _ _ | refine SameB.setCell (p := ⟨_, _, _⟩) ?_ (by first | omega | (simp; done) | (simp; omega)) (by first | omega | (simp; done) | (simp; omega)) _ | refine SameB.setNew (p := ⟨_, _, _⟩) ?_ (by first | omega | (simp; done) | (simp; omega)) _ | refine SameB.alloc ?_ _ | refine SameB.drew ?_ | refine SameB.drewN ?_ _)))
  have hs1 : w.heap.size + 1 + 1 ≤ w1.heap.size := by have := hb1.size; (try simp at this); omega
  have hc1_0 := fun o : Nat => hc1 (w.heap.size) o (by first | omega | (simp; done) | (simp; omega))
  have hf1_0 := fun o : Nat => hf1 (w.heap.size) o (by first | omega | (simp; done) | (simp; omega))
  have hc1_1 := fun o : Nat => hc1 (w.heap.size + 1) o (by first | omega | (simp; done) | (simp; omega))
  have hf1_1 := fun o : Nat => hf1 (w.heap.size + 1) o (by first | omega | (simp; done) | (simp; omega))
  clear hc1 hf1
  clear hb1
  unfold ddV
  go_wp2_with fail
  refine bodyPost_ret (v := .tuple #[ddV (r1, r2), .int .i64 (128 + (s : Int))]) (by simp [results, Tryd.results20, go_sem, intV, dyV, ddV, hc1_0, hf1_0, hc1_1, hf1_1]) rfl ?_
  exact ⟨rfl, by (repeat (first | with_reducible exact HW1.out | refine Below.setCell (p := ⟨_, _, _⟩) ?_ (by first | omega | (simp; done) | (simp; omega)) _ | refine Below.alloc ?_ (by first | omega | (simp; done) | (simp; omega)) _ | refine Below.drew ?_ | refine below_dn ?_ _))⟩

set_option maxHeartbeats 4000000 in
set_option maxRecDepth 100000 in
theorem part_3s (y1 s : Nat) (hy1 : y1 < B64) (h0 : y1 ≠ 0) (hs : 64 - blen y1 = s) (hs1 : 0 < s) (hs2 : s < 64) (z1 : Nat) (hz1 : y1 * 2 ^ s % B64 = z1) (hz1b : z1 < B64) (r : Nat × Nat) (hr : twoSum (ldx (z1 / 2048) (-53 - (192 + (s : Int)))) (ldx (z1 % 2048 * 4398046511104 + 0 / 4194304) (-106 - (192 + (s : Int)))) = some r) (w : World) :
    Calls Tryd.prog 20 #[.agg #[.int .u64 0, .int .u64 0, .int .u64 0, .int .u64 0, .int .u64 (y1 : Nat)]] w fun E w' => E = .returned (.tuple #[ddV r, .int .i64 (192 + (s : Int))]) ∧ Below w.heap.size w w' := by
  obtain ⟨r1, r2⟩ := r
  have HL := Lib.hid (fun w0 => lz_calls y1 hy1 w0)
  rw [hs] at HL
  obtain ⟨k4, k5⟩ := nzfacts y1 h0
  obtain ⟨k0, k00, k1, k11, k2, k3, k7, k8, l1, l2, l3, l4⟩ := sfacts s hs1 hs2
  clear k7 k8 l1 l2 l3 l4
  obtain ⟨k6, k7, k8, l1, l2, l3, l4⟩ := zfacts 192 s (by decide) (by decide) hs2
  have E2 := bits_or_zero z1 hz1b
  have E0 : IntKind.u64.wrap ((y1 : Int) * 2 ^ s) = (z1 : Int) := by rw [← hz1, show (y1 : Int) * 2 ^ s = ((y1 * 2 ^ s : Nat) : Int) by simp, wrap_u64_nat]
  obtain ⟨C, C4, D, u1, u2, u3, u4, u5, u6, u7, u8, u12⟩ := part_facts z1 0 hz1b B64_pos
  have u5' : (C4 : Int) = ((z1 % 2048 * 4398046511104 + 0 / 4194304 : Nat) : Int) := by rw [u8, Nat.zero_div, Nat.add_zero]
  have u9 := bits_or_zero C4 u12
  rw [u5'] at u9
  obtain ⟨u10, -⟩ := bits_zz
  generalize z1 / 2048 = U at *
  generalize z1 % 2048 * 4398046511104 + 0 / 4194304 = L at *
  have c1 : ∀ w, (convert 22 24 (.int .u64 (U : Int))).run Tryd.prog w = .ok (.float .f64 (flN U)) w := fun w => run_convert_int_float w 22 24 .u64 .f64 _ (by rw [Tryd.underlying22]; rfl) Tryd.underlying24
  have c2 : ∀ w, (convert 22 24 (.int .u64 (L : Int))).run Tryd.prog w = .ok (.float .f64 (flN L)) w := fun w => run_convert_int_float w 22 24 .u64 .f64 _ (by rw [Tryd.underlying22]; rfl) Tryd.underlying24
  have HA := Lib.hid (fun w0 => ldexp_fl U (-53 - (192 + (s : Int))) (Nat.le_of_lt u7) l1 l2 w0)
  have HB := Lib.hid (fun w0 => ldexp_fl L (-106 - (192 + (s : Int))) (Nat.le_of_lt u6) l3 l4 w0)
  have HS := Lib.hid (fun w0 => ddSum_calls _ _ r1 r2 w0 hr)
  generalize ldx U (-53 - (192 + (s : Int))) = X1 at *
  generalize ldx L (-106 - (192 + (s : Int))) = X2 at *
  generalize flN U = x1 at *
  generalize flN L = x2 at *
  clear hr l1 l2 l3 l4 h0 hs u6 u7 u8 u12 u5 u4 hz1 hz1b hy1
  have HW0 : Hid (Below w.heap.size w w) := Lib.hid (Below.refl _ _)
  go_enter Tryd.func20, Tryd.ntmps20
  go_wp2_with fail
  refine wp_loop_rounds 4 ?_
  rw [rounds_succ]
  go_wp2_with fail
  rw [rounds_succ]
  go_wp2_with fail
  rw [rounds_succ]
  go_wp2_with fail
  rw [rounds_succ]
  go_wp2_with fail
  refine (HL.out _).mono ?_
  rintro E w' ⟨rfl, rfl⟩
  go_wp2_with fail
  go_region
  go_wp2_with fail
  go_region
  go_wp2_with fail
  refine (HA.out _).mono ?_
  rintro E w' ⟨rfl, rfl⟩
  go_wp2_with fail
  refine (HB.out _).mono ?_
  rintro E w' ⟨rfl, rfl⟩
  go_wp2_with fail
  refine Calls.mono (HS.out _) ?_
  rintro E w1 ⟨rfl, hb1⟩
  obtain ⟨hc1, hf1⟩ := bcell hb1
  have HW1 : Hid (Below w.heap.size w w1) := Lib.hid (by
    refine Below.trans ?_ (hb1.mono ?_)
    · (repeat (first | with_reducible exact HW0.out | refine Below.setCell (p := ⟨_, _, _⟩) ?_ (by first | omega | (simp; done) | (simp; omega)) _ | refine Below.alloc ?_ (by first | omega | (simp; done) | (simp; omega)) _ | refine Below.drew ?_ | refine below_dn ?_ _))
    · first | omega | (simp; done) | (simp; omega))
  have hS0_1 : Hid (SameB w.heap.size 2 w w1) := Lib.hid (by
    refine SameB.below ?_ hb1
    (repeat (first | with_reducible exact SameB.refl _ _ _ | refine SameB.setCell (p := ⟨_, _, _⟩) ?_ (by first | omega | (simp; done) | (simp; omega)) (by first | omega | (simp; done) | (simp; omega)) _ | refine SameB.setNew (p := ⟨_, _, _⟩) ?_ (by first | omega | (simp; done) | (simp; omega)) _ | refine SameB.alloc ?_ _ | refine SameB.drew ?_ | refine SameB.drewN ?_ _)))
  have hs1 : w.heap.size + 1 + 1 ≤ w1.heap.size := by have := hb1.size; (try simp at this); omega
  have hc1_0 := fun o : Nat => hc1 (w.heap.size) o (by first | omega | (simp; done) | (simp; omega))
  have hf1_0 := fun o : Nat => hf1 (w.heap.size) o (by first | omega | (simp; done) | (simp; omega))
  have hc1_1 := fun o : Nat => hc1 (w.heap.size + 1) o (by first | omega | (simp; done) | (simp; omega))
  have hf1_1 := fun o : Nat => hf1 (w.heap.size + 1) o (by first | omega | (simp; done) | (simp; omega))
  clear hc1 hf1
  clear hb1
  unfold ddV
  go_wp2_with fail
  refine bodyPost_ret (v := .tuple #[ddV (r1, r2), .int .i64 (192 + (s : Int))]) (by simp [results, Tryd.results20, go_sem, intV, dyV, ddV, hc1_0, hf1_0, hc1_1, hf1_1]) rfl ?_
  exact ⟨rfl, by (repeat (first | with_reducible exact HW1.out | refine Below.setCell (p := ⟨_, _, _⟩) ?_ (by first | omega | (simp; done) | (simp; omega)) _ | refine Below.alloc ?_ (by first | omega | (simp; done) | (simp; omega)) _ | refine Below.drew ?_ | refine below_dn ?_ _))⟩

set_option maxHeartbeats 4000000 in
set_option maxRecDepth 100000 in
theorem part_00 (y1 y2 y3 e : Nat) (hy1 : y1 < B64) (hy2 : y2 < B64) (hy3 : y3 < B64) (he : e < B64) (h0 : y1 ≠ 0) (hs : 64 - blen y1 = 0) (r : Nat × Nat) (hr : twoSum (ldx (y1 / 2048) (-53 - 0)) (ldx (y1 % 2048 * 4398046511104 + y2 / 4194304) (-106 - 0)) = some r) (w : World) :
    Calls Tryd.prog 20 #[.agg #[.int .u64 0, .int .u64 (y1 : Nat), .int .u64 (y2 : Nat), .int .u64 (y3 : Nat), .int .u64 (e : Nat)]] w fun E w' => E = .returned (.tuple #[ddV r, .int .i64 0]) ∧ Below w.heap.size w w' := by
  obtain ⟨r1, r2⟩ := r
  have HL := Lib.hid (fun w0 => lz_calls y1 hy1 w0)
  rw [hs] at HL
  obtain ⟨k4, k5⟩ := nzfacts y1 h0
  obtain ⟨C, C4, D, u1, u2, u3, u4, u5, u6, u7, u8, u12⟩ := part_facts y1 y2 hy1 hy2
  generalize y1 / 2048 = U at *
  generalize y1 % 2048 * 4398046511104 + y2 / 4194304 = L at *
  have c1 : ∀ w, (convert 22 24 (.int .u64 (U : Int))).run Tryd.prog w = .ok (.float .f64 (flN U)) w := fun w => run_convert_int_float w 22 24 .u64 .f64 _ (by rw [Tryd.underlying22]; rfl) Tryd.underlying24
  have c2 : ∀ w, (convert 22 24 (.int .u64 (L : Int))).run Tryd.prog w = .ok (.float .f64 (flN L)) w := fun w => run_convert_int_float w 22 24 .u64 .f64 _ (by rw [Tryd.underlying22]; rfl) Tryd.underlying24
  have HA := Lib.hid (fun w0 => ldexp_fl U (-53 - 0) (Nat.le_of_lt u7) (by decide) (by decide) w0)
  have HB := Lib.hid (fun w0 => ldexp_fl L (-106 - 0) (Nat.le_of_lt u6) (by decide) (by decide) w0)
  have HS := Lib.hid (fun w0 => ddSum_calls _ _ r1 r2 w0 hr)
  generalize ldx U (-53 - 0) = X1 at *
  generalize ldx L (-106 - 0) = X2 at *
  generalize flN U = x1 at *
  generalize flN L = x2 at *
  clear hr h0 hs u6 u7 u8 u12 hy1 hy2 hy3 he
  have HW0 : Hid (Below w.heap.size w w) := Lib.hid (Below.refl _ _)
  go_enter Tryd.func20, Tryd.ntmps20
  go_wp2_with fail
  refine wp_loop_rounds 4 ?_
  rw [rounds_succ]
  go_wp2_with fail
  refine (HL.out _).mono ?_
  rintro E w' ⟨rfl, rfl⟩
  go_wp2_with fail
  refine (HA.out _).mono ?_
  rintro E w' ⟨rfl, rfl⟩
  go_wp2_with fail
  refine (HB.out _).mono ?_
  rintro E w' ⟨rfl, rfl⟩
  go_wp2_with fail
  refine Calls.mono (HS.out _) ?_
  rintro E w1 ⟨rfl, hb1⟩
  obtain ⟨hc1, hf1⟩ := bcell hb1
  have HW1 : Hid (Below w.heap.size w w1) := Lib.hid (by
    refine Below.trans ?_ (hb1.mono ?_)
    · (repeat (first | with_reducible exact HW0.out | refine Below.setCell (p := ⟨_, _, _⟩) ?_ (by first | omega | (simp; done) | (simp; omega)) _ | refine Below.alloc ?_ (by first | omega | (simp; done) | (simp; omega)) _ | refine Below.drew ?_ | refine below_dn ?_ _))
    · first | omega | (simp; done) | (simp; omega))
  have hS0_1 : Hid (SameB w.heap.size 2 w w1) := Lib.hid (by
    refine SameB.below ?_ hb1
    (repeat (first | with_reducible exact SameB.refl _ _ _ | refine SameB.setCell (p := ⟨_, _, _⟩) ?_ (by first | omega | (simp; done) | (simp; omega)) (by first | omega | (simp; done) | (simp; omega)) _ | refine SameB.setNew (p := ⟨_, _, _⟩) ?_ (by first | omega | (simp; done) | (simp; omega)) _ | refine SameB.alloc ?_ _ | refine SameB.drew ?_ | refine SameB.drewN ?_ _)))
  have hs1 : w.heap.size + 1 + 1 ≤ w1.heap.size := by have := hb1.size; (try simp at this); omega
  have hc1_0 := fun o : Nat => hc1 (w.heap.size) o (by first | omega | (simp; done) | (simp; omega))
  have hf1_0 := fun o : Nat => hf1 (w.heap.size) o (by first | omega | (simp; done) | (simp; omega))
  have hc1_1 := fun o : Nat => hc1 (w.heap.size + 1) o (by first | omega | (simp; done) | (simp; omega))
  have hf1_1 := fun o : Nat => hf1 (w.heap.size + 1) o (by first | omega | (simp; done) | (simp; omega))
  clear hc1 hf1
  clear hb1
  unfold ddV
  go_wp2_with fail
  refine bodyPost_ret (v := .tuple #[ddV (r1, r2), .int .i64 0]) (by simp [results, Tryd.results20, go_sem, intV, dyV, ddV, hc1_0, hf1_0, hc1_1, hf1_1]) rfl ?_
  exact ⟨rfl, by (repeat (first | with_reducible exact HW1.out | refine Below.setCell (p := ⟨_, _, _⟩) ?_ (by first | omega | (simp; done) | (simp; omega)) _ | refine Below.alloc ?_ (by first | omega | (simp; done) | (simp; omega)) _ | refine Below.drew ?_ | refine below_dn ?_ _))⟩

set_option maxHeartbeats 4000000 in
set_option maxRecDepth 100000 in
theorem part_10 (y1 y2 y3 : Nat) (hy1 : y1 < B64) (hy2 : y2 < B64) (hy3 : y3 < B64) (h0 : y1 ≠ 0) (hs : 64 - blen y1 = 0) (r : Nat × Nat) (hr : twoSum (ldx (y1 / 2048) (-53 - 64)) (ldx (y1 % 2048 * 4398046511104 + y2 / 4194304) (-106 - 64)) = some r) (w : World) :
    Calls Tryd.prog 20 #[.agg #[.int .u64 0, .int .u64 0, .int .u64 (y1 : Nat), .int .u64 (y2 : Nat), .int .u64 (y3 : Nat)]] w fun E w' => E = .returned (.tuple #[ddV r, .int .i64 64]) ∧ Below w.heap.size w w' := by
  obtain ⟨r1, r2⟩ := r
  have HL := Lib.hid (fun w0 => lz_calls y1 hy1 w0)
  rw [hs] at HL
  obtain ⟨k4, k5⟩ := nzfacts y1 h0
  obtain ⟨C, C4, D, u1, u2, u3, u4, u5, u6, u7, u8, u12⟩ := part_facts y1 y2 hy1 hy2
  generalize y1 / 2048 = U at *
  generalize y1 % 2048 * 4398046511104 + y2 / 4194304 = L at *
  have c1 : ∀ w, (convert 22 24 (.int .u64 (U : Int))).run Tryd.prog w = .ok (.float .f64 (flN U)) w := fun w => run_convert_int_float w 22 24 .u64 .f64 _ (by rw [Tryd.underlying22]; rfl) Tryd.underlying24
  have c2 : ∀ w, (convert 22 24 (.int .u64 (L : Int))).run Tryd.prog w = .ok (.float .f64 (flN L)) w := fun w => run_convert_int_float w 22 24 .u64 .f64 _ (by rw [Tryd.underlying22]; rfl) Tryd.underlying24
  have HA := Lib.hid (fun w0 => ldexp_fl U (-53 - 64) (Nat.le_of_lt u7) (by decide) (by decide) w0)
  have HB := Lib.hid (fun w0 => ldexp_fl L (-106 - 64) (Nat.le_of_lt u6) (by decide) (by decide) w0)
  have HS := Lib.hid (fun w0 => ddSum_calls _ _ r1 r2 w0 hr)
  generalize ldx U (-53 - 64) = X1 at *
  generalize ldx L (-106 - 64) = X2 at *
  generalize flN U = x1 at *
  generalize flN L = x2 at *
  clear hr h0 hs u6 u7 u8 u12 hy1 hy2 hy3
  have HW0 : Hid (Below w.heap.size w w) := Lib.hid (Below.refl _ _)
  go_enter Tryd.func20, Tryd.ntmps20
  go_wp2_with fail
  refine wp_loop_rounds 4 ?_
  rw [rounds_succ]
  go_wp2_with fail
  rw [rounds_succ]
  go_wp2_with fail
  refine (HL.out _).mono ?_
  rintro E w' ⟨rfl, rfl⟩
  go_wp2_with fail
  refine (HA.out _).mono ?_
  rintro E w' ⟨rfl, rfl⟩
  go_wp2_with fail
  refine (HB.out _).mono ?_
  rintro E w' ⟨rfl, rfl⟩
  go_wp2_with fail
  refine Calls.mono (HS.out _) ?_
  rintro E w1 ⟨rfl, hb1⟩
  obtain ⟨hc1, hf1⟩ := bcell hb1
  have HW1 : Hid (Below w.heap.size w w1) := Lib.hid (by
    refine Below.trans ?_ (hb1.mono ?_)
    · (repeat (first | with_reducible exact HW0.out | refine Below.setCell (p := ⟨_, _, _⟩) ?_ (by first | omega | (simp; done) | (simp; omega)) _ | refine Below.alloc ?_ (by first | omega | (simp; done) | (simp; omega)) _ | refine Below.drew ?_ | refine below_dn ?_ _))
    · first | omega | (simp; done) | (simp; omega))
  have hS0_1 : Hid (SameB w.heap.size 2 w w1) := Lib.hid (by
    refine SameB.below ?_ hb1
    (repeat (first | with_reducible exact SameB.refl _ _ _ | refine SameB.setCell (p := ⟨_, _, _⟩) ?_ (by first | omega | (simp; done) | (simp; omega)) (by first | omega | (simp; done) | (simp; omega)) _ | refine SameB.setNew (p := ⟨_, _, _⟩) ?_ (by first | omega | (simp; done) | (simp; omega)) _ | refine SameB.alloc ?_ _ | refine SameB.drew ?_ | refine SameB.drewN ?_ _)))
  have hs1 : w.heap.size + 1 + 1 ≤ w1.heap.size := by have := hb1.size; (try simp at this); omega
  have hc1_0 := fun o : Nat => hc1 (w.heap.size) o (by first | omega | (simp; done) | (simp; omega))
  have hf1_0 := fun o : Nat => hf1 (w.heap.size) o (by first | omega | (simp; done) | (simp; omega))
  have hc1_1 := fun o : Nat => hc1 (w.heap.size + 1) o (by first | omega | (simp; done) | (simp; omega))
  have hf1_1 := fun o : Nat => hf1 (w.heap.size + 1) o (by first | omega | (simp; done) | (simp; omega))
  clear hc1 hf1
  clear hb1
  unfold ddV
  go_wp2_with fail
  refine bodyPost_ret (v := .tuple #[ddV (r1, r2), .int .i64 64]) (by simp [results, Tryd.results20, go_sem, intV, dyV, ddV, hc1_0, hf1_0, hc1_1, hf1_1]) rfl ?_
  exact ⟨rfl, by (repeat (first | with_reducible exact HW1.out | refine Below.setCell (p := ⟨_, _, _⟩) ?_ (by first | omega | (simp; done) | (simp; omega)) _ | refine Below.alloc ?_ (by first | omega | (simp; done) | (simp; omega)) _ | refine Below.drew ?_ | refine below_dn ?_ _))⟩

set_option maxHeartbeats 4000000 in
set_option maxRecDepth 100000 in
theorem part_20 (y1 y2 : Nat) (hy1 : y1 < B64) (hy2 : y2 < B64) (h0 : y1 ≠ 0) (hs : 64 - blen y1 = 0) (r : Nat × Nat) (hr : twoSum (ldx (y1 / 2048) (-53 - 128)) (ldx (y1 % 2048 * 4398046511104 + y2 / 4194304) (-106 - 128)) = some r) (w : World) :
    Calls Tryd.prog 20 #[.agg #[.int .u64 0, .int .u64 0, .int .u64 0, .int .u64 (y1 : Nat), .int .u64 (y2 : Nat)]] w fun E w' => E = .returned (.tuple #[ddV r, .int .i64 128]) ∧ Below w.heap.size w w' := by
  obtain ⟨r1, r2⟩ := r
  have HL := Lib.hid (fun w0 => lz_calls y1 hy1 w0)
  rw [hs] at HL
  obtain ⟨k4, k5⟩ := nzfacts y1 h0
  obtain ⟨C, C4, D, u1, u2, u3, u4, u5, u6, u7, u8, u12⟩ := part_facts y1 y2 hy1 hy2
  generalize y1 / 2048 = U at *
  generalize y1 % 2048 * 4398046511104 + y2 / 4194304 = L at *
  have c1 : ∀ w, (convert 22 24 (.int .u64 (U : Int))).run Tryd.prog w = .ok (.float .f64 (flN U)) w := fun w => run_convert_int_float w 22 24 .u64 .f64 _ (by rw [Tryd.underlying22]; rfl) Tryd.underlying24
  have c2 : ∀ w, (convert 22 24 (.int .u64 (L : Int))).run Tryd.prog w = .ok (.float .f64 (flN L)) w := fun w => run_convert_int_float w 22 24 .u64 .f64 _ (by rw [Tryd.underlying22]; rfl) Tryd.underlying24
  have HA := Lib.hid (fun w0 => ldexp_fl U (-53 - 128) (Nat.le_of_lt u7) (by decide) (by decide) w0)
  have HB := Lib.hid (fun w0 => ldexp_fl L (-106 - 128) (Nat.le_of_lt u6) (by decide) (by decide) w0)
  have HS := Lib.hid (fun w0 => ddSum_calls _ _ r1 r2 w0 hr)
  generalize ldx U (-53 - 128) = X1 at *
  generalize ldx L (-106 - 128) = X2 at *
  generalize flN U = x1 at *
  generalize flN L = x2 at *
  clear hr h0 hs u6 u7 u8 u12 hy1 hy2
  have HW0 : Hid (Below w.heap.size w w) := Lib.hid (Below.refl _ _)
  go_enter Tryd.func20, Tryd.ntmps20
  go_wp2_with fail
  refine wp_loop_rounds 4 ?_
  rw [rounds_succ]
  go_wp2_with fail
  rw [rounds_succ]
  go_wp2_with fail
  rw [rounds_succ]
  go_wp2_with fail
  refine (HL.out _).mono ?_
  rintro E w' ⟨rfl, rfl⟩
  go_wp2_with fail
  refine (HA.out _).mono ?_
  rintro E w' ⟨rfl, rfl⟩
  go_wp2_with fail
  refine (HB.out _).mono ?_
  rintro E w' ⟨rfl, rfl⟩
  go_wp2_with fail
  refine Calls.mono (HS.out _) ?_
  rintro E w1 ⟨rfl, hb1⟩
  obtain ⟨hc1, hf1⟩ := bcell hb1
  have HW1 : Hid (Below w.heap.size w w1) := Lib.hid (by
    refine Below.trans ?_ (hb1.mono ?_)
    · (repeat (first | with_reducible exact HW0.out | refine Below.setCell (p := ⟨_, _, _⟩) ?_ (by first | omega | (simp; done) | (simp; omega)) _ | refine Below.alloc ?_ (by first | omega | (simp; done) | (simp; omega)) _ | refine Below.drew ?_ | refine below_dn ?_ _))
    · first | omega | (simp; done) | (simp; omega))
  have hS0_1 : Hid (SameB w.heap.size 2 w w1) := Lib.hid (by
    refine SameB.below ?_ hb1
    (repeat (first | with_reducible exact SameB.refl _ _ _ | refine SameB.setCell (p := ⟨_, _, _⟩) ?_ (by first | omega | (simp; done) | (simp; omega)) (by first | omega | (simp; done) | (simp; omega)) _ | refine SameB.setNew (p := ⟨_, _, _⟩) ?_ (by first | omega | (simp; done) | (simp; omega)) _ | refine SameB.alloc ?_ _ | refine SameB.drew ?_ | refine SameB.drewN ?_ _)))
  have hs1 : w.heap.size + 1 + 1 ≤ w1.heap.size := by have := hb1.size; (try simp at this); omega
  have hc1_0 := fun o : Nat => hc1 (w.heap.size) o (by first | omega | (simp; done) | (simp; omega))
  have hf1_0 := fun o : Nat => hf1 (w.heap.size) o (by first | omega | (simp; done) | (simp; omega))
  have hc1_1 := fun o : Nat => hc1 (w.heap.size + 1) o (by first | omega | (simp; done) | (simp; omega))
  have hf1_1 := fun o : Nat => hf1 (w.heap.size + 1) o (by first | omega | (simp; done) | (simp; omega))
  clear hc1 hf1
  clear hb1
  unfold ddV
  go_wp2_with fail
  refine bodyPost_ret (v := .tuple #[ddV (r1, r2), .int .i64 128]) (by simp [results, Tryd.results20, go_sem, intV, dyV, ddV, hc1_0, hf1_0, hc1_1, hf1_1]) rfl ?_
  exact ⟨rfl, by (repeat (first | with_reducible exact HW1.out | refine Below.setCell (p := ⟨_, _, _⟩) ?_ (by first | omega | (simp; done) | (simp; omega)) _ | refine Below.alloc ?_ (by first | omega | (simp; done) | (simp; omega)) _ | refine Below.drew ?_ | refine below_dn ?_ _))⟩

set_option maxHeartbeats 4000000 in
set_option maxRecDepth 100000 in
theorem part_30 (y1 : Nat) (hy1 : y1 < B64) (h0 : y1 ≠ 0) (hs : 64 - blen y1 = 0) (r : Nat × Nat) (hr : twoSum (ldx (y1 / 2048) (-53 - 192)) (ldx (y1 % 2048 * 4398046511104 + 0 / 4194304) (-106 - 192)) = some r) (w : World) :
    Calls Tryd.prog 20 #[.agg #[.int .u64 0, .int .u64 0, .int .u64 0, .int .u64 0, .int .u64 (y1 : Nat)]] w fun E w' => E = .returned (.tuple #[ddV r, .int .i64 192]) ∧ Below w.heap.size w w' := by
  obtain ⟨r1, r2⟩ := r
  have HL := Lib.hid (fun w0 => lz_calls y1 hy1 w0)
  rw [hs] at HL
  obtain ⟨k4, k5⟩ := nzfacts y1 h0
  obtain ⟨C, C4, D, u1, u2, u3, u4, u5, u6, u7, u8, u12⟩ := part_facts y1 0 hy1 B64_pos
  have u5' : (C4 : Int) = ((y1 % 2048 * 4398046511104 + 0 / 4194304 : Nat) : Int) := by rw [u8, Nat.zero_div, Nat.add_zero]
  have u9 := bits_or_zero C4 u12
  rw [u5'] at u9
  obtain ⟨u10, -⟩ := bits_zz
  generalize y1 / 2048 = U at *
  generalize y1 % 2048 * 4398046511104 + 0 / 4194304 = L at *
  have c1 : ∀ w, (convert 22 24 (.int .u64 (U : Int))).run Tryd.prog w = .ok (.float .f64 (flN U)) w := fun w => run_convert_int_float w 22 24 .u64 .f64 _ (by rw [Tryd.underlying22]; rfl) Tryd.underlying24
  have c2 : ∀ w, (convert 22 24 (.int .u64 (L : Int))).run Tryd.prog w = .ok (.float .f64 (flN L)) w := fun w => run_convert_int_float w 22 24 .u64 .f64 _ (by rw [Tryd.underlying22]; rfl) Tryd.underlying24
  have HA := Lib.hid (fun w0 => ldexp_fl U (-53 - 192) (Nat.le_of_lt u7) (by decide) (by decide) w0)
  have HB := Lib.hid (fun w0 => ldexp_fl L (-106 - 192) (Nat.le_of_lt u6) (by decide) (by decide) w0)
  have HS := Lib.hid (fun w0 => ddSum_calls _ _ r1 r2 w0 hr)
  generalize ldx U (-53 - 192) = X1 at *
  generalize ldx L (-106 - 192) = X2 at *
  generalize flN U = x1 at *
  generalize flN L = x2 at *
  clear hr h0 hs u6 u7 u8 u12 u5 u4 hy1
  have HW0 : Hid (Below w.heap.size w w) := Lib.hid (Below.refl _ _)
  go_enter Tryd.func20, Tryd.ntmps20
  go_wp2_with fail
  refine wp_loop_rounds 4 ?_
  rw [rounds_succ]
  go_wp2_with fail
  rw [rounds_succ]
  go_wp2_with fail
  rw [rounds_succ]
  go_wp2_with fail
  rw [rounds_succ]
  go_wp2_with fail
  refine (HL.out _).mono ?_
  rintro E w' ⟨rfl, rfl⟩
  go_wp2_with fail
  refine (HA.out _).mono ?_
  rintro E w' ⟨rfl, rfl⟩
  go_wp2_with fail
  refine (HB.out _).mono ?_
  rintro E w' ⟨rfl, rfl⟩
  go_wp2_with fail
  refine Calls.mono (HS.out _) ?_
  rintro E w1 ⟨rfl, hb1⟩
  obtain ⟨hc1, hf1⟩ := bcell hb1
  have HW1 : Hid (Below w.heap.size w w1) := Lib.hid (by
    refine Below.trans ?_ (hb1.mono ?_)
    · (repeat (first | with_reducible exact HW0.out | refine Below.setCell (p := ⟨_, _, _⟩) ?_ (by first | omega | (simp; done) | (simp; omega)) _ | refine Below.alloc ?_ (by first | omega | (simp; done) | (simp; omega)) _ | refine Below.drew ?_ | refine below_dn ?_ _))
    · first | omega | (simp; done) | (simp; omega))
  have hS0_1 : Hid (SameB w.heap.size 2 w w1) := Lib.hid (by
    refine SameB.below ?_ hb1
    (repeat (first | with_reducible exact SameB.refl _ _ _ | refine SameB.setCell (p := ⟨_, _, _⟩) ?_ (by first | omega | (simp; done) | (simp; omega)) (by first | omega | (simp; done) | (simp; omega)) _ | refine SameB.setNew (p := ⟨_, _, _⟩) ?_ (by first | omega | (simp; done) | (simp; omega)) _ | refine SameB.alloc ?_ _ | refine SameB.drew ?_ | refine SameB.drewN ?_ _)))
  have hs1 : w.heap.size + 1 + 1 ≤ w1.heap.size := by have := hb1.size; (try simp at this); omega
  have hc1_0 := fun o : Nat => hc1 (w.heap.size) o (by first | omega | (simp; done) | (simp; omega))
  have hf1_0 := fun o : Nat => hf1 (w.heap.size) o (by first | omega | (simp; done) | (simp; omega))
  have hc1_1 := fun o : Nat => hc1 (w.heap.size + 1) o (by first | omega | (simp; done) | (simp; omega))
  have hf1_1 := fun o : Nat => hf1 (w.heap.size + 1) o (by first | omega | (simp; done) | (simp; omega))
  clear hc1 hf1
  clear hb1
  unfold ddV
  go_wp2_with fail
  refine bodyPost_ret (v := .tuple #[ddV (r1, r2), .int .i64 192]) (by simp [results, Tryd.results20, go_sem, intV, dyV, ddV, hc1_0, hf1_0, hc1_1, hf1_1]) rfl ?_
  exact ⟨rfl, by (repeat (first | with_reducible exact HW1.out | refine Below.setCell (p := ⟨_, _, _⟩) ?_ (by first | omega | (simp; done) | (simp; omega)) _ | refine Below.alloc ?_ (by first | omega | (simp; done) | (simp; omega)) _ | refine Below.drew ?_ | refine below_dn ?_ _))⟩

set_option maxHeartbeats 4000000 in
set_option maxRecDepth 100000 in
theorem part_3n (r : Nat × Nat) (hr : twoSum (ldx (0) (-53 - 192)) (ldx (0) (-106 - 192)) = some r) (w : World) :
    Calls Tryd.prog 20 #[.agg #[.int .u64 0, .int .u64 0, .int .u64 0, .int .u64 0, .int .u64 0]] w fun E w' => E = .returned (.tuple #[ddV r, .int .i64 192]) ∧ Below w.heap.size w w' := by
  obtain ⟨r1, r2⟩ := r
  have HL := Lib.hid (fun w0 => lz_calls 0 B64_pos w0)
  rw [show 64 - blen 0 = 64 from rfl] at HL
  have u6 : 0 < 9007199254740992 := by decide
  have u7 := u6
  obtain ⟨u10, u11⟩ := bits_zz
  obtain ⟨U, hU⟩ : ∃ U : Nat, U = 0 := ⟨0, rfl⟩
  have c1 : ∀ w, (convert 22 24 (.int .u64 0)).run Tryd.prog w = .ok (.float .f64 (flN 0)) w := fun w => run_convert_int_float w 22 24 .u64 .f64 _ (by rw [Tryd.underlying22]; rfl) Tryd.underlying24
  have HA := Lib.hid (fun w0 => ldexp_fl 0 (-53 - 192) (by omega) (by omega) (by omega) w0)
  have HB := Lib.hid (fun w0 => ldexp_fl 0 (-106 - 192) (by omega) (by omega) (by omega) w0)
  have HS := Lib.hid (fun w0 => ddSum_calls _ _ r1 r2 w0 hr)
  generalize ldx 0 (-53 - 192) = X1 at *
  generalize ldx 0 (-106 - 192) = X2 at *
  generalize flN 0 = x1 at *
  clear hr u6 u7
  have HW0 : Hid (Below w.heap.size w w) := Lib.hid (Below.refl _ _)
  go_enter Tryd.func20, Tryd.ntmps20
  go_wp2_with fail
  refine wp_loop_rounds 4 ?_
  rw [rounds_succ]
  go_wp2_with fail
  rw [rounds_succ]
  go_wp2_with fail
  rw [rounds_succ]
  go_wp2_with fail
  rw [rounds_succ]
  go_wp2_with fail
  refine (HL.out _).mono ?_
  rintro E w' ⟨rfl, rfl⟩
  go_wp2_with fail
  refine (HA.out _).mono ?_
  rintro E w' ⟨rfl, rfl⟩
  go_wp2_with fail
  refine (HB.out _).mono ?_
  rintro E w' ⟨rfl, rfl⟩
  go_wp2_with fail
  refine Calls.mono (HS.out _) ?_
  rintro E w1 ⟨rfl, hb1⟩
  obtain ⟨hc1, hf1⟩ := bcell hb1
  have HW1 : Hid (Below w.heap.size w w1) := Lib.hid (by
    refine Below.trans ?_ (hb1.mono ?_)
    · (repeat (first | with_reducible exact HW0.out | refine Below.setCell (p := ⟨_, _, _⟩) ?_ (by first | omega | (simp; done) | (simp; omega)) _ | refine Below.alloc ?_ (by first | omega | (simp; done) | (simp; omega)) _ | refine Below.drew ?_ | refine below_dn ?_ _))
    · first | omega | (simp; done) | (simp; omega))
  have hS0_1 : Hid (SameB w.heap.size 2 w w1) := Lib.hid (by
    refine SameB.below ?_ hb1
    (repeat (first | with_reducible exact SameB.refl _ _ _ | refine SameB.setCell (p := ⟨_, _, _⟩) ?_ (by first | omega | (simp; done) | (simp; omega)) (by first | omega | (simp; done) | (simp; omega)) _ | refine SameB.setNew (p := ⟨_, _, _⟩) ?_ (by first | omega | (simp; done) | (simp; omega)) _ | refine SameB.alloc ?_ _ | refine SameB.drew ?_ | refine SameB.drewN ?_ _)))
  have hs1 : w.heap.size + 1 + 1 ≤ w1.heap.size := by have := hb1.size; (try simp at this); omega
  have hc1_0 := fun o : Nat => hc1 (w.heap.size) o (by first | omega | (simp; done) | (simp; omega))
  have hf1_0 := fun o : Nat => hf1 (w.heap.size) o (by first | omega | (simp; done) | (simp; omega))
  have hc1_1 := fun o : Nat => hc1 (w.heap.size + 1) o (by first | omega | (simp; done) | (simp; omega))
  have hf1_1 := fun o : Nat => hf1 (w.heap.size + 1) o (by first | omega | (simp; done) | (simp; omega))
  clear hc1 hf1
  clear hb1
  unfold ddV
  go_wp2_with fail
  refine bodyPost_ret (v := .tuple #[ddV (r1, r2), .int .i64 192]) (by simp [results, Tryd.results20, go_sem, intV, dyV, ddV, hc1_0, hf1_0, hc1_1, hf1_1]) rfl ?_
  exact ⟨rfl, by (repeat (first | with_reducible exact HW1.out | refine Below.setCell (p := ⟨_, _, _⟩) ?_ (by first | omega | (simp; done) | (simp; omega)) _ | refine Below.alloc ?_ (by first | omega | (simp; done) | (simp; omega)) _ | refine Below.drew ?_ | refine below_dn ?_ _))⟩

end Go.Proofs.YtgihapdlliidgaaDoor
