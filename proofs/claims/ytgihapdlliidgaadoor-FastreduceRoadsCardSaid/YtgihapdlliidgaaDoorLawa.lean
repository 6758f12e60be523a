/- The walks of the statements' own helpers: pair, cody, reduce, awake. -/
import Derived.Test.YtgihapdlliidgaaDoorFr
import Derived.Test.YtgihapdlliidgaaDoorVal
namespace Go.Proofs.YtgihapdlliidgaaDoor
open Go Go.RowKit
set_option linter.unusedVariables false
set_option linter.unusedSimpArgs false

theorem buildPair (a b : Int) (w : World) : (Instr.build 37 #[(0, .int .u64 a), (1, .int .u64 b)]).run Tryd.prog w = .ok (.agg #[.int .u64 a, .int .u64 b]) w := run_build w 37 _ _ (by kernel_rfl)
attribute [go_sem] buildPair

def pairV (a : Nat × Nat) : Value := .agg #[.int .u64 (a.1 : Nat), .int .u64 (a.2 : Nat)]

theorem pair_calls (a : Nat × Nat) (w : World) :
    Calls Tryd.prog 30 #[ddV a] w fun E w' => E = .returned (pairV a) ∧ Below w.heap.size w w' := by
  obtain ⟨x, y⟩ := a
  unfold ddV pairV
  have HW0 : Hid (Below w.heap.size w w) := Lib.hid (Below.refl _ _)
  go_enter Tryd.func30, Tryd.ntmps30
  go_wp2_with fail
  go_region
  all_goals
    go_wp2_with fail
    refine bodyPost_ret (v := .agg #[.int .u64 x, .int .u64 y]) (by simp [results, Tryd.results30, go_sem, intV, dyV]) rfl ?_
    exact ⟨rfl, by (repeat (first | with_reducible exact HW0.out | refine Below.setCell (p := ⟨_, _, _⟩) ?_ (by first | omega | (simp; done) | (simp; omega)) _ | refine Below.alloc ?_ (by first | omega | (simp; done) | (simp; omega)) _ | refine Below.drew ?_ | refine below_dn ?_ _))⟩

theorem codyL_calls (x : Nat) (q : Int) (t : Nat × Nat) (b : Bool) (w : World) (h : ∀ w, Calls Tryd.prog 10 #[.float .f64 x] w fun E w' => E = .returned (codyV q t b) ∧ Below w.heap.size w w') :
    Calls Tryd.prog 13 #[.int .u64 x] w fun E w' => E = .returned (.tuple #[.int .i64 q, pairV t, .bool b]) ∧ Below w.heap.size w w' := by
  have HP := Lib.hid (fun w0 => pair_calls t w0)
  have H := Lib.hid h
  clear h
  obtain ⟨x1, y1⟩ := t
  unfold ddV pairV codyV at *
  have HW0 : Hid (Below w.heap.size w w) := Lib.hid (Below.refl _ _)
  go_enter Tryd.func13, Tryd.ntmps13
  go_wp2_with fail
  refine Calls.mono (H.out _) ?_
  rintro E w1 ⟨rfl, hb1⟩
  obtain ⟨hc1, hf1⟩ := bcell hb1
  have HW1 : Hid (Below w.heap.size w w1) := Lib.hid (by
    refine Below.trans ?_ (hb1.mono ?_)
    · (repeat (first | with_reducible exact HW0.out | refine Below.setCell (p := ⟨_, _, _⟩) ?_ (by first | omega | (simp; done) | (simp; omega)) _ | refine Below.alloc ?_ (by first | omega | (simp; done) | (simp; omega)) _ | refine Below.drew ?_ | refine below_dn ?_ _))
    · first | omega | (simp; done) | (simp; omega))
  have hS0_1 : Hid (SameB w.heap.size 1 w w1) := Lib.hid (by
    refine SameB.below ?_ hb1
    (repeat (first | with_reducible exact SameB.refl _ _ _ | refine SameB.setCell (p := ⟨_, _, _⟩) ?_ (by first | omega | (simp; done) | (simp; omega)) (by first | omega | (simp; done) | (simp; omega)) _ | refine SameB.setNew (p := ⟨_, _, _⟩) ?_ (by first | omega | (simp; done) | (simp; omega)) _ | refine SameB.alloc ?_ _ | refine SameB.drew ?_ | refine SameB.drewN ?_ _)))
  have hs1 : w.heap.size + 1 ≤ w1.heap.size := by have := hb1.size; (try simp at this); omega
  have hc1_0 := fun o : Nat => hc1 (w.heap.size) o (by first | omega | (simp; done) | (simp; omega))
  have hf1_0 := fun o : Nat => hf1 (w.heap.size) o (by first | omega | (simp; done) | (simp; omega))
  clear hc1 hf1
  clear hb1
  unfold ddV
  have hlt2_0 : w.heap.size < w1.heap.size := by omega
  have hne2_0 : ¬ (w.heap.size = w1.heap.size) := by omega
  have hen2_0 : ¬ (w1.heap.size = w.heap.size) := by omega
  go_wp2_with fail
  refine Calls.mono (HP.out _) ?_
  rintro E w2 ⟨rfl, hb2⟩
  obtain ⟨hc2, hf2⟩ := bcell hb2
  have HW2 : Hid (Below w.heap.size w w2) := Lib.hid (by
    refine Below.trans ?_ (hb2.mono ?_)
    · (repeat (first | with_reducible exact HW1.out | refine Below.setCell (p := ⟨_, _, _⟩) ?_ (by first | omega | (simp; done) | (simp; omega)) _ | refine Below.alloc ?_ (by first | omega | (simp; done) | (simp; omega)) _ | refine Below.drew ?_ | refine below_dn ?_ _))
    · first | omega | (simp; done) | (simp; omega))
  have hS1_2 : Hid (SameB w.heap.size 1 w1 w2) := Lib.hid (by
    refine SameB.below ?_ hb2
    (repeat (first | with_reducible exact SameB.refl _ _ _ | refine SameB.setCell (p := ⟨_, _, _⟩) ?_ (by first | omega | (simp; done) | (simp; omega)) (by first | omega | (simp; done) | (simp; omega)) _ | refine SameB.setNew (p := ⟨_, _, _⟩) ?_ (by first | omega | (simp; done) | (simp; omega)) _ | refine SameB.alloc ?_ _ | refine SameB.drew ?_ | refine SameB.drewN ?_ _)))
  have hS0_2 := Lib.hid (hS0_1.out.trans hS1_2.out)
  have hs2 : w.heap.size + 1 ≤ w2.heap.size := by have := hb2.size; (try simp at this); omega
  have hc2_0 := fun o : Nat => hc2 (w.heap.size) o (by first | omega | (simp; done) | (simp; omega))
  have hf2_0 := fun o : Nat => hf2 (w.heap.size) o (by first | omega | (simp; done) | (simp; omega))
  have hsx2_0 : w1.heap.size + 1 ≤ w2.heap.size := by have := hb2.size; (try simp at this); omega
  have hx2_0 := fun o : Nat => hc2 (w1.heap.size) o (by first | omega | (simp; done) | (simp; omega))
  have hxf2_0 := fun o : Nat => hf2 (w1.heap.size) o (by first | omega | (simp; done) | (simp; omega))
  clear hc2 hf2
  clear hb2
  go_wp2_with fail
  refine bodyPost_ret (v := .tuple #[.int .i64 q, pairV (x1, y1), .bool b]) (by simp [results, Tryd.results13, go_sem, intV, dyV, pairV, hc1_0, hf1_0, hc2_0, hf2_0, hlt2_0, hne2_0, hen2_0, hx2_0, hxf2_0]) rfl ?_
  exact ⟨rfl, by (repeat (first | with_reducible exact HW2.out | refine Below.setCell (p := ⟨_, _, _⟩) ?_ (by first | omega | (simp; done) | (simp; omega)) _ | refine Below.alloc ?_ (by first | omega | (simp; done) | (simp; omega)) _ | refine Below.drew ?_ | refine below_dn ?_ _))⟩

theorem reduceL_calls (x : Nat) (q : Int) (t : Nat × Nat) (e : Int) (w : World) (h : ∀ w, Calls Tryd.prog 8 #[.float .f64 x] w fun E w' => E = .returned (redV q t e) ∧ Below w.heap.size w w') :
    Calls Tryd.prog 14 #[.int .u64 x] w fun E w' => E = .returned (.tuple #[.int .i64 q, pairV t, .int .i64 e]) ∧ Below w.heap.size w w' := by
  have HP := Lib.hid (fun w0 => pair_calls t w0)
  have H := Lib.hid h
  clear h
  obtain ⟨x1, y1⟩ := t
  unfold ddV pairV redV at *
  have HW0 : Hid (Below w.heap.size w w) := Lib.hid (Below.refl _ _)
  go_enter Tryd.func14, Tryd.ntmps14
  go_wp2_with fail
  refine Calls.mono (H.out _) ?_
  rintro E w1 ⟨rfl, hb1⟩
  obtain ⟨hc1, hf1⟩ := bcell hb1
  have HW1 : Hid (Below w.heap.size w w1) := Lib.hid (by
    refine Below.trans ?_ (hb1.mono ?_)
    · (repeat (first | with_reducible exact HW0.out | refine Below.setCell (p := ⟨_, _, _⟩) ?_ (by first | omega | (simp; done) | (simp; omega)) _ | refine Below.alloc ?_ (by first | omega | (simp; done) | (simp; omega)) _ | refine Below.drew ?_ | refine below_dn ?_ _))
    · first | omega | (simp; done) | (simp; omega))
  have hS0_1 : Hid (SameB w.heap.size 1 w w1) := Lib.hid (by
    refine SameB.below ?_ hb1
    (repeat (first | with_reducible exact SameB.refl _ _ _ | refine SameB.setCell (p := ⟨_, _, _⟩) ?_ (by first | omega | (simp; done) | (simp; omega)) (by first | omega | (simp; done) | (simp; omega)) _ | refine SameB.setNew (p := ⟨_, _, _⟩) ?_ (by first | omega | (simp; done) | (simp; omega)) _ | refine SameB.alloc ?_ _ | refine SameB.drew ?_ | refine SameB.drewN ?_ _)))
  have hs1 : w.heap.size + 1 ≤ w1.heap.size := by have := hb1.size; (try simp at this); omega
  have hc1_0 := fun o : Nat => hc1 (w.heap.size) o (by first | omega | (simp; done) | (simp; omega))
  have hf1_0 := fun o : Nat => hf1 (w.heap.size) o (by first | omega | (simp; done) | (simp; omega))
  clear hc1 hf1
  clear hb1
  unfold ddV
  have hlt2_0 : w.heap.size < w1.heap.size := by omega
  have hne2_0 : ¬ (w.heap.size = w1.heap.size) := by omega
  have hen2_0 : ¬ (w1.heap.size = w.heap.size) := by omega
  go_wp2_with fail
  refine Calls.mono (HP.out _) ?_
  rintro E w2 ⟨rfl, hb2⟩
  obtain ⟨hc2, hf2⟩ := bcell hb2
  have HW2 : Hid (Below w.heap.size w w2) := Lib.hid (by
    refine Below.trans ?_ (hb2.mono ?_)
    · (repeat (first | with_reducible exact HW1.out | refine Below.setCell (p := ⟨_, _, _⟩) ?_ (by first | omega | (simp; done) | (simp; omega)) _ | refine Below.alloc ?_ (by first | omega | (simp; done) | (simp; omega)) _ | refine Below.drew ?_ | refine below_dn ?_ _))
    · first | omega | (simp; done) | (simp; omega))
  have hS1_2 : Hid (SameB w.heap.size 1 w1 w2) := Lib.hid (by
    refine SameB.below ?_ hb2
    (repeat (first | with_reducible exact SameB.refl _ _ _ | refine SameB.setCell (p := ⟨_, _, _⟩) ?_ (by first | omega | (simp; done) | (simp; omega)) (by first | omega | (simp; done) | (simp; omega)) _ | refine SameB.setNew (p := ⟨_, _, _⟩) ?_ (by first | omega | (simp; done) | (simp; omega)) _ | refine SameB.alloc ?_ _ | refine SameB.drew ?_ | refine SameB.drewN ?_ _)))
  have hS0_2 := Lib.hid (hS0_1.out.trans hS1_2.out)
  have hs2 : w.heap.size + 1 ≤ w2.heap.size := by have := hb2.size; (try simp at this); omega
  have hc2_0 := fun o : Nat => hc2 (w.heap.size) o (by first | omega | (simp; done) | (simp; omega))
  have hf2_0 := fun o : Nat => hf2 (w.heap.size) o (by first | omega | (simp; done) | (simp; omega))
  have hsx2_0 : w1.heap.size + 1 ≤ w2.heap.size := by have := hb2.size; (try simp at this); omega
  have hx2_0 := fun o : Nat => hc2 (w1.heap.size) o (by first | omega | (simp; done) | (simp; omega))
  have hxf2_0 := fun o : Nat => hf2 (w1.heap.size) o (by first | omega | (simp; done) | (simp; omega))
  clear hc2 hf2
  clear hb2
  go_wp2_with fail
  refine bodyPost_ret (v := .tuple #[.int .i64 q, pairV (x1, y1), .int .i64 e]) (by simp [results, Tryd.results14, go_sem, intV, dyV, pairV, hc1_0, hf1_0, hc2_0, hf2_0, hlt2_0, hne2_0, hen2_0, hx2_0, hxf2_0]) rfl ?_
  exact ⟨rfl, by (repeat (first | with_reducible exact HW2.out | refine Below.setCell (p := ⟨_, _, _⟩) ?_ (by first | omega | (simp; done) | (simp; omega)) _ | refine Below.alloc ?_ (by first | omega | (simp; done) | (simp; omega)) _ | refine Below.drew ?_ | refine below_dn ?_ _))⟩

theorem cody3_calls (w : World) : Calls Tryd.prog 10 #[.float .f64 4613937818241073152] w fun E w' => E = .returned (codyV 2 (13817641470120874372, 13576772204829720686) true) ∧ Below w.heap.size w w' :=
  cody_good 4613937818241073152 4611280060881480900 4612608939561277026 2 (13817641470120874372, 13576772204829720686) (by decide) (by decide) w
    (by kernel_rfl) (by kernel_rfl) (by kernel_rfl) (by kernel_rfl) (by kernel_rfl) (by kernel_rfl) (by kernel_rfl) (by kernel_rfl) (by kernel_rfl) 2 (by kernel_rfl)

theorem codyM4_calls (w : World) : Calls Tryd.prog 10 #[.float .f64 13839561654909534208] w fun E w' => E = .returned (codyV 1 (4604591849038483090, 13584575127940880343) true) ∧ Below w.heap.size w w' :=
  cody_good 13839561654909534208 13836288616794015875 13835162716887173251 (-3) (4604591849038483090, 13584575127940880343) (by decide) (by decide) w
    (by kernel_rfl) (by kernel_rfl) (by kernel_rfl) (by kernel_rfl) (by kernel_rfl) (by kernel_rfl) (by kernel_rfl) (by kernel_rfl) (by kernel_rfl) 1 (by kernel_rfl)

set_option maxRecDepth 100000 in
set_option maxHeartbeats 1600000 in
theorem awake_calls (w : World) : Calls Tryd.prog 5 #[] w fun E w' => E = .returned (.bool true) ∧ Below w.heap.size w w' := by
  have H1 := Lib.hid (fun w0 => codyL_calls _ _ _ _ w0 cody3_calls)
  have H2 := Lib.hid (fun w0 => reduceL_calls _ _ _ _ w0 (fun w1 => reduce_cody _ _ _ w1 codyM4_calls))
  unfold pairV at *
  have HW0 : Hid (Below w.heap.size w w) := Lib.hid (Below.refl _ _)
  go_enter Tryd.func5, Tryd.ntmps5
  go_wp2_with fail
  refine Calls.mono (H1.out _) ?_
  rintro E w1 ⟨rfl, hb1⟩
  obtain ⟨hc1, hf1⟩ := bcell hb1
  have HW1 : Hid (Below w.heap.size w w1) := Lib.hid (by
    refine Below.trans ?_ (hb1.mono ?_)
    · (repeat (first | with_reducible exact HW0.out | refine Below.setCell (p := ⟨_, _, _⟩) ?_ (by first | omega | (simp; done) | (simp; omega)) _ | refine Below.alloc ?_ (by first | omega | (simp; done) | (simp; omega)) _ | refine Below.drew ?_ | refine below_dn ?_ _))
    · first | omega | (simp; done) | (simp; omega))
  have hS0_1 : Hid (SameB w.heap.size 0 w w1) := Lib.hid (by
    refine SameB.below ?_ hb1
    (repeat (first | with_reducible exact SameB.refl _ _ _ | refine SameB.setCell (p := ⟨_, _, _⟩) ?_ (by first | omega | (simp; done) | (simp; omega)) (by first | omega | (simp; done) | (simp; omega)) _ | refine SameB.setNew (p := ⟨_, _, _⟩) ?_ (by first | omega | (simp; done) | (simp; omega)) _ | refine SameB.alloc ?_ _ | refine SameB.drew ?_ | refine SameB.drewN ?_ _)))
  have hs1 : w.heap.size ≤ w1.heap.size := by have := hb1.size; (try simp at this); omega
  clear hc1 hf1
  clear hb1
  go_wp2_with fail
  refine Calls.mono (H2.out _) ?_
  rintro E w2 ⟨rfl, hb2⟩
  obtain ⟨hc2, hf2⟩ := bcell hb2
  have HW2 : Hid (Below w.heap.size w w2) := Lib.hid (by
    refine Below.trans ?_ (hb2.mono ?_)
    · (repeat (first | with_reducible exact HW1.out | refine Below.setCell (p := ⟨_, _, _⟩) ?_ (by first | omega | (simp; done) | (simp; omega)) _ | refine Below.alloc ?_ (by first | omega | (simp; done) | (simp; omega)) _ | refine Below.drew ?_ | refine below_dn ?_ _))
    · first | omega | (simp; done) | (simp; omega))
  have hS1_2 : Hid (SameB w.heap.size 0 w1 w2) := Lib.hid (by
    refine SameB.below ?_ hb2
    (repeat (first | with_reducible exact SameB.refl _ _ _ | refine SameB.setCell (p := ⟨_, _, _⟩) ?_ (by first | omega | (simp; done) | (simp; omega)) (by first | omega | (simp; done) | (simp; omega)) _ | refine SameB.setNew (p := ⟨_, _, _⟩) ?_ (by first | omega | (simp; done) | (simp; omega)) _ | refine SameB.alloc ?_ _ | refine SameB.drew ?_ | refine SameB.drewN ?_ _)))
  have hS0_2 := Lib.hid (hS0_1.out.trans hS1_2.out)
  have hs2 : w.heap.size ≤ w2.heap.size := by have := hb2.size; (try simp at this); omega
  have hsx2_0 : w1.heap.size + 1 ≤ w2.heap.size := by have := hb2.size; (try simp at this); omega
  have hx2_0 := fun o : Nat => hc2 (w1.heap.size) o (by first | omega | (simp; done) | (simp; omega))
  have hxf2_0 := fun o : Nat => hf2 (w1.heap.size) o (by first | omega | (simp; done) | (simp; omega))
  clear hc2 hf2
  clear hb2
  have hltA : w1.heap.size < w2.heap.size := by omega
  go_wp2_with fail
  go_ret
  exact ⟨rfl, by (repeat (first | with_reducible exact HW2.out | refine Below.setCell (p := ⟨_, _, _⟩) ?_ (by first | omega | (simp; done) | (simp; omega)) _ | refine Below.alloc ?_ (by first | omega | (simp; done) | (simp; omega)) _ | refine Below.drew ?_ | refine below_dn ?_ _))⟩

end Go.Proofs.YtgihapdlliidgaaDoor
