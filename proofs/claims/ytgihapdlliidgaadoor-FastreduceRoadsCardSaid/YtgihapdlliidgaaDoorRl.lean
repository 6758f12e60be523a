/- The walks of payne.Reduce's errors and of fastreduce.Reduce where Cody isn't content. -/
import Derived.Test.YtgihapdlliidgaaDoorPw2
import Derived.Test.YtgihapdlliidgaaDoorLawc
namespace Go.Proofs.YtgihapdlliidgaaDoor
open Go Go.RowKit
set_option linter.unusedVariables false
set_option linter.unusedSimpArgs false

set_option maxHeartbeats 4000000 in
set_option maxRecDepth 100000 in
theorem payne_nan (x : Nat) (h1 : feq x x = false) (hx : x < 18446744073709551616) (w : World) :
    Calls Tryd.prog 9 #[.float .f64 x] w fun E w' => E = .returned (redV 0 (0, 0) 6) ∧ Below w.heap.size w w' := by
  have HA := Lib.hid (fun w0 => abs_calls x hx w0)
  have HN := Lib.hid (fun w0 => isNaN_calls x w0)
  rw [h1] at HN
  clear h1 hx
  have HW0 : Hid (Below w.heap.size w w) := Lib.hid (Below.refl _ _)
  go_enter Tryd.func9, Tryd.ntmps9
  go_wp2_with fail
  refine (HA.out _).mono ?_
  rintro E w' ⟨rfl, rfl⟩
  go_wp2_with fail
  refine (HN.out _).mono ?_
  rintro E w' ⟨rfl, rfl⟩
  go_wp2_with fail
  refine bodyPost_ret (v := redV 0 (0, 0) 6) (by simp [results, Tryd.results9, go_sem, intV, dyV, redV, ddV]) rfl ?_
  exact ⟨rfl, by (repeat (first | with_reducible exact HW0.out | refine Below.setCell (p := ⟨_, _, _⟩) ?_ (by first | omega | (simp; done) | (simp; omega)) _ | refine Below.alloc ?_ (by first | omega | (simp; done) | (simp; omega)) _ | refine Below.drew ?_ | refine below_dn ?_ _))⟩

set_option maxHeartbeats 4000000 in
set_option maxRecDepth 100000 in
theorem payne_inf (x : Nat) (h1 : feq x x = true) (h2 : fgt (fabs x) 9218868437227405311 = true) (hx : x < 18446744073709551616) (w : World) :
    Calls Tryd.prog 9 #[.float .f64 x] w fun E w' => E = .returned (redV 0 (0, 0) 6) ∧ Below w.heap.size w w' := by
  have HA := Lib.hid (fun w0 => abs_calls x hx w0)
  have HN := Lib.hid (fun w0 => isNaN_calls x w0)
  have HI := Lib.hid (fun w0 => isInf_calls x hx w0)
  rw [h1] at HN
  rw [h2] at HI
  clear h1 hx h2
  have HW0 : Hid (Below w.heap.size w w) := Lib.hid (Below.refl _ _)
  go_enter Tryd.func9, Tryd.ntmps9
  go_wp2_with fail
  refine (HA.out _).mono ?_
  rintro E w' ⟨rfl, rfl⟩
  go_wp2_with fail
  refine (HN.out _).mono ?_
  rintro E w' ⟨rfl, rfl⟩
  go_wp2_with fail
  refine (HI.out _).mono ?_
  rintro E w' ⟨rfl, rfl⟩
  go_wp2_with fail
  refine bodyPost_ret (v := redV 0 (0, 0) 6) (by simp [results, Tryd.results9, go_sem, intV, dyV, redV, ddV]) rfl ?_
  exact ⟨rfl, by (repeat (first | with_reducible exact HW0.out | refine Below.setCell (p := ⟨_, _, _⟩) ?_ (by first | omega | (simp; done) | (simp; omega)) _ | refine Below.alloc ?_ (by first | omega | (simp; done) | (simp; omega)) _ | refine Below.drew ?_ | refine below_dn ?_ _))⟩

set_option maxHeartbeats 4000000 in
set_option maxRecDepth 100000 in
theorem payne_small (x : Nat) (h1 : feq x x = true) (h2 : fgt (fabs x) 9218868437227405311 = false) (h3 : flt (fabs x) 4485585228861014016 = true) (hx : x < 18446744073709551616) (w : World) :
    Calls Tryd.prog 9 #[.float .f64 x] w fun E w' => E = .returned (redV 0 (0, 0) 5) ∧ Below w.heap.size w w' := by
  have HA := Lib.hid (fun w0 => abs_calls x hx w0)
  have HN := Lib.hid (fun w0 => isNaN_calls x w0)
  have HI := Lib.hid (fun w0 => isInf_calls x hx w0)
  rw [h1] at HN
  rw [h2] at HI
  unfold flt at h3
  clear h1 hx h2
  have HW0 : Hid (Below w.heap.size w w) := Lib.hid (Below.refl _ _)
  go_enter Tryd.func9, Tryd.ntmps9
  go_wp2_with fail
  refine (HA.out _).mono ?_
  rintro E w' ⟨rfl, rfl⟩
  go_wp2_with fail
  refine (HN.out _).mono ?_
  rintro E w' ⟨rfl, rfl⟩
  go_wp2_with fail
  refine (HI.out _).mono ?_
  rintro E w' ⟨rfl, rfl⟩
  go_wp2_with fail
  refine bodyPost_ret (v := redV 0 (0, 0) 5) (by simp [results, Tryd.results9, go_sem, intV, dyV, redV, ddV]) rfl ?_
  exact ⟨rfl, by (repeat (first | with_reducible exact HW0.out | refine Below.setCell (p := ⟨_, _, _⟩) ?_ (by first | omega | (simp; done) | (simp; omega)) _ | refine Below.alloc ?_ (by first | omega | (simp; done) | (simp; omega)) _ | refine Below.drew ?_ | refine below_dn ?_ _))⟩

set_option maxHeartbeats 4000000 in
set_option maxRecDepth 100000 in
theorem reduce_pay (x : Nat) (pw : Nat → Nat) (Q : Int → Nat × Nat → Int → Prop) (w : World) (hW : Wrd pw w)
    (hC : ∀ w, Calls Tryd.prog 10 #[.float .f64 x] w fun E w' => E = .returned (codyV 0 (0, 0) false) ∧ Below w.heap.size w w')
    (hP : ∀ w, Wrd pw w → Calls Tryd.prog 9 #[.float .f64 x] w fun E w' => ∃ q t e, E = .returned (redV q t e) ∧ Q q t e ∧ Below w.heap.size w w') :
    Calls Tryd.prog 8 #[.float .f64 x] w fun E w' => ∃ q t e, E = .returned (redV q t e) ∧ Q q t e ∧ Below w.heap.size w w' := by
  have HC := Lib.hid hC
  have HP := Lib.hid hP
  have HWw := Lib.hid hW
  clear hC hP hW
  unfold codyV redV ddV at *
  have HW0 : Hid (Below w.heap.size w w) := Lib.hid (Below.refl _ _)
  go_enter Tryd.func8, Tryd.ntmps8
  go_wp2_with fail
  refine Calls.mono (HC.out _) ?_
  rintro E w1 ⟨rfl, hb1⟩
  obtain ⟨hc1, hf1⟩ := bcell hb1
  have HW1 : Hid (Below w.heap.size w w1) := Lib.hid (by
    refine Below.trans ?_ (hb1.mono ?_)
    · (repeat (first | with_reducible exact HW0.out | refine Below.setCell (p := ⟨_, _, _⟩) ?_ (by first | omega | (simp; done) | (simp; omega)) _ | refine Below.alloc ?_ (by first | omega | (simp; done) | (simp; omega)) _ | refine Below.drew ?_ | refine below_dn ?_ _))
    · first | omega | (simp; done) | (simp; omega))
  have hs1 : w.heap.size + 1 ≤ w1.heap.size := by have := hb1.size; (try simp at this); omega
  have hc1_0 := fun o : Nat => hc1 (w.heap.size) o (by first | omega | (simp; done) | (simp; omega))
  have hf1_0 := fun o : Nat => hf1 (w.heap.size) o (by first | omega | (simp; done) | (simp; omega))
  clear hc1 hf1
  clear hb1
  have hlt2_0 : w.heap.size < w1.heap.size := by omega
  have hne2_0 : ¬ (w.heap.size = w1.heap.size) := by omega
  have hen2_0 : ¬ (w1.heap.size = w.heap.size) := by omega
  go_wp2_with fail
  refine Calls.mono (HP.out _ (HWw.out.below (by (repeat (first | with_reducible exact HW1.out | refine Below.setCell (p := ⟨_, _, _⟩) ?_ (by first | omega | (simp; done) | (simp; omega)) _ | refine Below.alloc ?_ (by first | omega | (simp; done) | (simp; omega)) _ | refine Below.drew ?_ | refine below_dn ?_ _))))) ?_
  rintro E w2 ⟨q, t, e, rfl, hq, hb2⟩
  obtain ⟨hc2, hf2⟩ := bcell hb2
  have HW2 : Hid (Below w.heap.size w w2) := Lib.hid (by
    refine Below.trans ?_ (hb2.mono ?_)
    · (repeat (first | with_reducible exact HW1.out | refine Below.setCell (p := ⟨_, _, _⟩) ?_ (by first | omega | (simp; done) | (simp; omega)) _ | refine Below.alloc ?_ (by first | omega | (simp; done) | (simp; omega)) _ | refine Below.drew ?_ | refine below_dn ?_ _))
    · first | omega | (simp; done) | (simp; omega))
  have hs2 : w.heap.size + 1 ≤ w2.heap.size := by have := hb2.size; (try simp at this); omega
  have hc2_0 := fun o : Nat => hc2 (w.heap.size) o (by first | omega | (simp; done) | (simp; omega))
  have hf2_0 := fun o : Nat => hf2 (w.heap.size) o (by first | omega | (simp; done) | (simp; omega))
  have hsx2_0 : w1.heap.size + 1 ≤ w2.heap.size := by have := hb2.size; (try simp at this); omega
  have hx2_0 := fun o : Nat => hc2 (w1.heap.size) o (by first | omega | (simp; done) | (simp; omega))
  have hxf2_0 := fun o : Nat => hf2 (w1.heap.size) o (by first | omega | (simp; done) | (simp; omega))
  clear hc2 hf2
  clear hb2
  obtain ⟨t1, t2⟩ := t
  have HQ := Lib.hid hq
  clear hq
  go_wp2_with fail
  refine bodyPost_ret (v := redV q (t1, t2) e) (by simp [results, Tryd.results8, go_sem, intV, dyV, redV, ddV, hc1_0, hf1_0, hc2_0, hf2_0, hlt2_0, hne2_0, hen2_0, hx2_0, hxf2_0]) rfl ?_
  exact ⟨q, (t1, t2), e, rfl, HQ.out, by (repeat (first | with_reducible exact HW2.out | refine Below.setCell (p := ⟨_, _, _⟩) ?_ (by first | omega | (simp; done) | (simp; omega)) _ | refine Below.alloc ?_ (by first | omega | (simp; done) | (simp; omega)) _ | refine Below.drew ?_ | refine below_dn ?_ _))⟩

end Go.Proofs.YtgihapdlliidgaaDoor
