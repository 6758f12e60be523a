/- The walks of package fastreduce. -/
import Derived.Test.YtgihapdlliidgaaDoorDd
import Derived.RegionTactic
import Derived.IntWalk
namespace Go.Proofs.YtgihapdlliidgaaDoor
open Go Go.RowKit
set_option linter.unusedSimpArgs false
set_option linter.unusedVariables false

theorem buildParts (a b c : Nat) (w : World) : (Instr.build 79 #[(0, .float .f64 a), (1, .float .f64 b), (2, .float .f64 c)]).run Tryd.prog w = .ok (.agg #[.float .f64 a, .float .f64 b, .float .f64 c]) w := run_build w 79 _ _ (by kernel_rfl)
attribute [go_sem] buildParts

set_option maxHeartbeats 800000 in
theorem parts_calls (w : World) :
    Calls Tryd.prog 43 #[] w fun E w' => E = .returned (.agg #[.float .f64 P1, .float .f64 P2, .float .f64 P3]) ∧ Below w.heap.size w w' := by
  go_enter Tryd.func43, Tryd.ntmps43
  go_wp2_with fail
  exact bodyPost_ret (v := .agg #[.float .f64 P1, .float .f64 P2, .float .f64 P3]) (by simp [results, Tryd.results43, go_sem, P1, P2, P3]) rfl ⟨rfl, (Below.refl _ _).alloc (Nat.le_refl _) _⟩

set_option maxHeartbeats 400000 in
theorem floor_calls (x : Nat) (hx : fnum x = true) (w : World) :
    Calls Tryd.prog 23 #[.float .f64 x] w fun E w' => E = .returned (.float .f64 (ffloor x)) ∧ w = w' := by
  go_enter Tryd.func23, Tryd.ntmps23
  go_wp2_with fail
  go_ret
  exact ⟨rfl, rfl⟩

set_option maxHeartbeats 1600000 in
theorem left_calls (x k : Nat) (r : Nat × Nat) (w : World) (h : leftF x k = some r) :
    Calls Tryd.prog 25 #[.float .f64 x, .float .f64 k] w fun E w' => E = .returned (ddV r) ∧ Below w.heap.size w w' := by
  obtain ⟨r1, r2⟩ := r
  simp only [leftF, Option.bind_eq_some_iff] at h
  obtain ⟨m1, h1, ⟨s, e⟩, h2, m2, h3, ⟨s', e'⟩, h4, ⟨p, q⟩, h5, h6⟩ := h
  have g1 := hop (P := Tryd.prog) h1
  have g3 := hop (P := Tryd.prog) h3
  have H2 := Lib.hid h2
  have H4 := Lib.hid h4
  have H5 := Lib.hid h5
  have H6 := Lib.hid h6
  clear h1 h2 h3 h4 h5 h6
  go_enter Tryd.func25, Tryd.ntmps25
  go_wp2_with fail
  refine (parts_calls _).mono ?_
  rintro E w1 ⟨rfl, hb1⟩
  obtain ⟨hc1, hf1⟩ := bcell hb1
  have hs1 : w.heap.size + 1 ≤ w1.heap.size := by have := hb1.size; simp at this; omega
  have hz1 : w.heap.size < w1.heap.size := by omega
  have hz2 : w.heap.size < w1.heap.size + 1 := by omega
  go_wp2_with fail
  refine (twoSum_calls _ _ _ _ _ H2.out).mono ?_
  rintro E w' ⟨rfl, rfl⟩
  go_wp2_with fail
  refine (twoSum_calls _ _ _ _ _ H4.out).mono ?_
  rintro E w' ⟨rfl, rfl⟩
  go_wp2_with fail
  refine (twoProd_calls _ _ _ _ _ H5.out).mono ?_
  rintro E w' ⟨rfl, rfl⟩
  go_wp2_with fail
  refine (ddSub_calls (s', e') (p, q) _ _ H6.out).mono ?_
  rintro E w2 ⟨rfl, hb2⟩
  obtain ⟨hc2, hf2⟩ := bcell hb2
  unfold ddV
  go_wp2_with fail
  refine bodyPost_ret (v := ddV (r1, r2)) (by simp [results, Tryd.results25, go_sem, ddV, hc1, hf1, hc2, hf2, hz1, hs1, hz2]) rfl ⟨rfl, ?_⟩
  exact ((((((Below.refl _ _).alloc (Nat.le_refl _) _).trans (hb1.mono (by simp))).alloc (by omega) _).trans (hb2.mono (by simp; omega))).setCell (p := ⟨_, _, _⟩) (by simp) _).setCell (p := ⟨_, _, _⟩) (by simp) _


def cLeast : Nat := 4485585228861014016
def cAbove : Nat := 4697254411347427328
def cSmall : Nat := 4535124824762089472

def codyV (q : Int) (t : Nat × Nat) (b : Bool) : Value := .tuple #[.int .i64 q, ddV t, .bool b]

set_option maxHeartbeats 1600000 in
set_option maxRecDepth 100000 in
theorem cody_out1 (x : Nat) (hx : x < 18446744073709551616) (w : World) (h1 : fge (fabs x) 4485585228861014016 = false) :
    Calls Tryd.prog 10 #[.float .f64 x] w fun E w' => E = .returned (codyV 0 (0, 0) false) ∧ Below w.heap.size w w' := by
  have H := Lib.hid hx; clear hx
  unfold fge at h1
  go_enter Tryd.func10, Tryd.ntmps10
  go_wp2_with fail
  refine (abs_calls _ H.out _).mono ?_
  rintro E w' ⟨rfl, rfl⟩
  go_wp2_with fail
  exact bodyPost_ret (v := codyV 0 (0, 0) false) (by simp [results, Tryd.results10, go_sem, ddV, codyV]) rfl ⟨rfl, (Below.refl _ _).alloc (Nat.le_refl _) _⟩

set_option maxHeartbeats 1600000 in
set_option maxRecDepth 100000 in
theorem cody_out2 (x : Nat) (hx : x < 18446744073709551616) (w : World) (h1 : fge (fabs x) 4485585228861014016 = true) (h2 : flt (fabs x) 4697254411347427328 = false) :
    Calls Tryd.prog 10 #[.float .f64 x] w fun E w' => E = .returned (codyV 0 (0, 0) false) ∧ Below w.heap.size w w' := by
  have H := Lib.hid hx; clear hx
  unfold fge at h1
  unfold flt at h2
  go_enter Tryd.func10, Tryd.ntmps10
  go_wp2_with fail
  refine (abs_calls _ H.out _).mono ?_
  rintro E w' ⟨rfl, rfl⟩
  go_wp2_with fail
  exact bodyPost_ret (v := codyV 0 (0, 0) false) (by simp [results, Tryd.results10, go_sem, ddV, codyV]) rfl ⟨rfl, (Below.refl _ _).alloc (Nat.le_refl _) _⟩

set_option maxHeartbeats 1600000 in
set_option maxRecDepth 100000 in
theorem cody_zero (x p s : Nat) (hx : x < 18446744073709551616) (w : World) (h1 : fge (fabs x) 4485585228861014016 = true) (h2 : flt (fabs x) 4697254411347427328 = true)
    (h3 : fmul x 4603909380684499075 = some p) (h4 : fadd p 4602678819172646912 = some s) (h5 : fnum s = true) (h6 : feq (ffloor s) 0 = true) :
    Calls Tryd.prog 10 #[.float .f64 x] w fun E w' => E = .returned (codyV 0 (ddOf x) true) ∧ Below w.heap.size w w' := by
  have H := Lib.hid hx; clear hx
  unfold fge at h1
  unfold flt at h2
  unfold feq at h6
  have g3 := hop (P := Tryd.prog) h3
  have g4 := hop (P := Tryd.prog) h4
  have H5 := Lib.hid h5
  clear h3 h4 h5
  go_enter Tryd.func10, Tryd.ntmps10
  go_wp2_with fail
  refine (abs_calls _ H.out _).mono ?_
  rintro E w' ⟨rfl, rfl⟩
  go_wp2_with fail
  refine (floor_calls _ H5.out _).mono ?_
  rintro E w' ⟨rfl, rfl⟩
  go_wp2_with fail
  refine (ddOf_calls _ H.out _).mono ?_
  rintro E w1 ⟨rfl, hb1⟩
  obtain ⟨hc1, hf1⟩ := bcell hb1
  unfold ddV
  go_wp2_with fail
  refine bodyPost_ret (v := codyV 0 (ddOf x) true) (by simp [results, Tryd.results10, go_sem, ddV, codyV, hc1, hf1]) rfl ⟨rfl, ?_⟩
  exact (((((Below.refl _ _).alloc (Nat.le_refl _) _).trans (hb1.mono (by simp))))).setCell (p := ⟨_, _, _⟩) (by simp) _ |>.setCell (p := ⟨_, _, _⟩) (by simp) _

set_option maxHeartbeats 3200000 in
set_option maxRecDepth 100000 in
theorem cody_good (x p s : Nat) (n : Int) (t : Nat × Nat) (hx : x < 18446744073709551616) (ht : t.1 < 18446744073709551616) (w : World) (h1 : fge (fabs x) 4485585228861014016 = true) (h2 : flt (fabs x) 4697254411347427328 = true)
    (h3 : fmul x 4603909380684499075 = some p) (h4 : fadd p 4602678819172646912 = some s) (h5 : fnum s = true) (h6 : feq (ffloor s) 0 = false)
    (h7 : leftF x (ffloor s) = some t) (h8 : flt (fabs t.1) 4535124824762089472 = false) (h9 : floatToIntVal .f64 (ffloor s) .i64 = some n) (q : Int) (hq : (wrap64 (n.tmod 4 + 4)).tmod 4 = q) :
    Calls Tryd.prog 10 #[.float .f64 x] w fun E w' => E = .returned (codyV q t true) ∧ Below w.heap.size w w' := by
  obtain ⟨t1, t2⟩ := t
  have H := Lib.hid hx; clear hx
  have Ht := Lib.hid ht; clear ht
  have Hq := Lib.hid hq; clear hq
  unfold fge at h1
  unfold flt at h2 h8
  unfold feq at h6
  have g3 := hop (P := Tryd.prog) h3
  have g4 := hop (P := Tryd.prog) h4
  have H5 := Lib.hid h5
  have H7 := Lib.hid h7
  have hcv : ∀ w, (convert 24 3 (.float .f64 (ffloor s))).run Tryd.prog w = .ok (.int .i64 n) w := fun w => run_convert_float_int w 24 3 .f64 .i64 _ n (by rw [Tryd.underlying24]; rfl) Tryd.underlying3 h9
  clear h3 h4 h5 h7 h9
  go_enter Tryd.func10, Tryd.ntmps10
  go_wp2_with fail
  refine (abs_calls _ H.out _).mono ?_
  rintro E w' ⟨rfl, rfl⟩
  go_wp2_with fail
  refine (floor_calls _ H5.out _).mono ?_
  rintro E w' ⟨rfl, rfl⟩
  go_wp2_with fail
  refine (left_calls _ _ (t1, t2) _ H7.out).mono ?_
  rintro E w1 ⟨rfl, hb1⟩
  obtain ⟨hc1, hf1⟩ := bcell hb1
  have hs1 : w.heap.size + 1 ≤ w1.heap.size := by have := hb1.size; simp at this; omega
  have hz1 : w.heap.size < w1.heap.size := by omega
  have hz2 : w.heap.size < w1.heap.size + 1 := by omega
  unfold ddV
  go_wp2_with fail
  refine (abs_calls _ Ht.out _).mono ?_
  rintro E w' ⟨rfl, rfl⟩
  go_wp2_with fail
  go_region
  all_goals
    go_wp2_with fail
    refine bodyPost_ret (v := codyV ((wrap64 (n.tmod 4 + 4)).tmod 4) (t1, t2) true) (by simp [results, Tryd.results10, go_sem, ddV, codyV, hc1, hf1, hz1, hz2, hs1]) rfl ⟨by rw [Hq.out], ?_⟩
    exact (((((((Below.refl _ _).alloc (Nat.le_refl _) _).trans (hb1.mono (by simp)))).setCell (p := ⟨_, _, _⟩) (by simp) _).setCell (p := ⟨_, _, _⟩) (by simp) _).alloc (by simp [World.setCell]; omega) _).drew

set_option maxHeartbeats 3200000 in
set_option maxRecDepth 100000 in
theorem cody_small (x p s : Nat) (t : Nat × Nat) (hx : x < 18446744073709551616) (ht : t.1 < 18446744073709551616) (w : World) (h1 : fge (fabs x) 4485585228861014016 = true) (h2 : flt (fabs x) 4697254411347427328 = true)
    (h3 : fmul x 4603909380684499075 = some p) (h4 : fadd p 4602678819172646912 = some s) (h5 : fnum s = true) (h6 : feq (ffloor s) 0 = false)
    (h7 : leftF x (ffloor s) = some t) (h8 : flt (fabs t.1) 4535124824762089472 = true) :
    Calls Tryd.prog 10 #[.float .f64 x] w fun E w' => E = .returned (codyV 0 (0, 0) false) ∧ Below w.heap.size w w' := by
  obtain ⟨t1, t2⟩ := t
  have H := Lib.hid hx; clear hx
  have Ht := Lib.hid ht; clear ht
  unfold fge at h1
  unfold flt at h2 h8
  unfold feq at h6
  have g3 := hop (P := Tryd.prog) h3
  have g4 := hop (P := Tryd.prog) h4
  have H5 := Lib.hid h5
  have H7 := Lib.hid h7
  clear h3 h4 h5 h7
  go_enter Tryd.func10, Tryd.ntmps10
  go_wp2_with fail
  refine (abs_calls _ H.out _).mono ?_
  rintro E w' ⟨rfl, rfl⟩
  go_wp2_with fail
  refine (floor_calls _ H5.out _).mono ?_
  rintro E w' ⟨rfl, rfl⟩
  go_wp2_with fail
  refine (left_calls _ _ (t1, t2) _ H7.out).mono ?_
  rintro E w1 ⟨rfl, hb1⟩
  obtain ⟨hc1, hf1⟩ := bcell hb1
  have hs1 : w.heap.size + 1 ≤ w1.heap.size := by have := hb1.size; simp at this; omega
  have hz1 : w.heap.size < w1.heap.size := by omega
  have hz2 : w.heap.size < w1.heap.size + 1 := by omega
  unfold ddV
  go_wp2_with fail
  refine (abs_calls _ Ht.out _).mono ?_
  rintro E w' ⟨rfl, rfl⟩
  go_wp2_with fail
  refine bodyPost_ret (v := codyV 0 (0, 0) false) (by simp [results, Tryd.results10, go_sem, ddV, codyV, hc1, hf1, hz1, hz2, hs1]) rfl ⟨rfl, ?_⟩
  exact (((((((Below.refl _ _).alloc (Nat.le_refl _) _).trans (hb1.mono (by simp)))).setCell (p := ⟨_, _, _⟩) (by simp) _).setCell (p := ⟨_, _, _⟩) (by simp) _).alloc (by simp [World.setCell]; omega) _)

/-- what Reduce answers where Cody is content -/
def redV (q : Int) (t : Nat × Nat) (e : Int) : Value := .tuple #[.int .i64 q, ddV t, .int .i64 e]

set_option maxHeartbeats 3200000 in
theorem reduce_cody (x : Nat) (q : Int) (t : Nat × Nat) (w : World)
    (h : ∀ w, Calls Tryd.prog 10 #[.float .f64 x] w fun E w' => E = .returned (codyV q t true) ∧ Below w.heap.size w w') :
    Calls Tryd.prog 8 #[.float .f64 x] w fun E w' => E = .returned (redV q t 0) ∧ Below w.heap.size w w' := by
  obtain ⟨t1, t2⟩ := t
  have H := Lib.hid h; clear h
  go_enter Tryd.func8, Tryd.ntmps8
  go_wp2_with fail
  refine (H.out _).mono ?_
  rintro E w1 ⟨rfl, hb1⟩
  obtain ⟨hc1, hf1⟩ := bcell hb1
  have hs1 : w.heap.size + 1 ≤ w1.heap.size := by have := hb1.size; simp at this; omega
  have hz1 : w.heap.size < w1.heap.size := by omega
  have hz2 : w.heap.size < w1.heap.size + 1 := by omega
  unfold codyV ddV
  go_wp2_with fail
  go_region
  all_goals
    go_wp2_with fail
    refine bodyPost_ret (v := redV q (t1, t2) 0) (by simp [results, Tryd.results8, go_sem, ddV, redV, hc1, hf1, hz1, hz2, hs1]) rfl ⟨rfl, ?_⟩
    exact (((((((Below.refl _ _).alloc (Nat.le_refl _) _).trans (hb1.mono (by simp)))).setCell (p := ⟨_, _, _⟩) (by simp) _).setCell (p := ⟨_, _, _⟩) (by simp) _).alloc (by simp [World.setCell]; omega) _).drew

end Go.Proofs.YtgihapdlliidgaaDoor
