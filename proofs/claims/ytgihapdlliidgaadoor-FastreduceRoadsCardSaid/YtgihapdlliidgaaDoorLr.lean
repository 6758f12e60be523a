/- The walk of FastreduceRoads (written by genlr.py). -/
import Derived.Test.YtgihapdlliidgaaDoorRl
namespace Go.Proofs.YtgihapdlliidgaaDoor
open Go Go.RowKit
set_option linter.unusedVariables false
set_option linter.unusedSimpArgs false

set_option maxHeartbeats 4000000 in
set_option maxRecDepth 100000 in
theorem lawR_ok (b : Nat) (pw : Nat → Nat) (q : Int) (u : Nat × Nat) (hred : (decide (4485585228861014016 ≤ pSz b) && decide (pSz b < 9218868437227405312)) = true) (hu : DDok u)
    (hR : ∀ w, Calls Tryd.prog 8 #[.float .f64 b] w fun E w' => E = .returned (redV q u 0) ∧ Below w.heap.size w w')
    (hP : ∀ w, Wrd pw w → Calls Tryd.prog 9 #[.float .f64 b] w fun E w' => ∃ k t, E = .returned (redV k t 0) ∧ (DDok t ∧ (q = k → besideB u t = true)) ∧ Below w.heap.size w w')
    (hC : ∀ w, Calls Tryd.prog 10 #[.float .f64 b] w fun E w' => E = .returned (codyV q u true) ∧ Below w.heap.size w w')
    (w : World) (hT : Tab w) (hW : Wrd pw w) :
    Calls Tryd.prog 3 #[.int .u64 b] w fun E w' => E = .returned (.bool true) ∧ Below w.heap.size w w' := by
  have HA := Lib.hid awake_calls
  have HRe := Lib.hid (fun w0 => reducible_calls b true hred w0)
  have HR := Lib.hid hR
  have HP := Lib.hid hP
  have HC := Lib.hid hC
  have HBB : Hid (∀ s t, DDok s → DDok t → besideB s t = true → ∀ w0, Tab w0 → Calls Tryd.prog 11 #[ddV s, ddV t] w0 fun E w' => E = .returned (.bool true) ∧ Below w0.heap.size w0 w') :=
    Lib.hid fun s t h1 h2 h3 w0 hT => by
      have := beside_calls s t h1 h2 w0 hT
      rw [h3] at this
      exact this
  have HT := Lib.hid hT
  have HWw := Lib.hid hW
  have HU := Lib.hid hu
  have HS := Lib.hid (beside_self u)
  clear hred hR hP hC hT hW hu
  obtain ⟨u1, u2⟩ := u
  unfold codyV redV ddV at *
  have HW0 : Hid (Below w.heap.size w w) := Lib.hid (Below.refl _ _)
  go_enter Tryd.func3, Tryd.ntmps3
  go_wp2_with fail
  refine Calls.mono (HA.out _) ?_
  rintro E w1 ⟨rfl, hb1⟩
  obtain ⟨hc1, hf1⟩ := bcell hb1
  have HW1 : Hid (Below w.heap.size w w1) := Lib.hid (by
    refine Below.trans ?_ (hb1.mono ?_)
    · (repeat (first | with_reducible exact HW0.out | refine Below.setCell (p := ⟨_, _, _⟩) ?_ (by first | omega | (simp; done) | (simp; omega)) _ | refine Below.alloc ?_ (by first | omega | (simp; done) | (simp; omega)) _ | refine Below.drew ?_ | refine below_dn ?_ _))
    · first | omega | (simp; done) | (simp; omega))
  have hs1 : w.heap.size ≤ w1.heap.size := by have := hb1.size; (try simp at this); omega
  clear hc1 hf1
  clear hb1
  go_wp2_with fail
  refine Calls.mono (HRe.out _) ?_
  rintro E w2 ⟨rfl, hb2⟩
  obtain ⟨hc2, hf2⟩ := bcell hb2
  have HW2 : Hid (Below w.heap.size w w2) := Lib.hid (by
    refine Below.trans ?_ (hb2.mono ?_)
    · (repeat (first | with_reducible exact HW1.out | refine Below.setCell (p := ⟨_, _, _⟩) ?_ (by first | omega | (simp; done) | (simp; omega)) _ | refine Below.alloc ?_ (by first | omega | (simp; done) | (simp; omega)) _ | refine Below.drew ?_ | refine below_dn ?_ _))
    · first | omega | (simp; done) | (simp; omega))
  have hs2 : w.heap.size ≤ w2.heap.size := by have := hb2.size; (try simp at this); omega
  clear hc2 hf2
  clear hb2
  go_wp2_with fail
  refine Calls.mono (HR.out _) ?_
  rintro E w3 ⟨rfl, hb3⟩
  obtain ⟨hc3, hf3⟩ := bcell hb3
  have HW3 : Hid (Below w.heap.size w w3) := Lib.hid (by
    refine Below.trans ?_ (hb3.mono ?_)
    · (repeat (first | with_reducible exact HW2.out | refine Below.setCell (p := ⟨_, _, _⟩) ?_ (by first | omega | (simp; done) | (simp; omega)) _ | refine Below.alloc ?_ (by first | omega | (simp; done) | (simp; omega)) _ | refine Below.drew ?_ | refine below_dn ?_ _))
    · first | omega | (simp; done) | (simp; omega))
  have hs3 : w.heap.size ≤ w3.heap.size := by have := hb3.size; (try simp at this); omega
  clear hc3 hf3
  clear hb3
  go_wp2_with fail
  refine Calls.mono (HP.out _ (HWw.out.below (by (repeat (first | with_reducible exact HW3.out | refine Below.setCell (p := ⟨_, _, _⟩) ?_ (by first | omega | (simp; done) | (simp; omega)) _ | refine Below.alloc ?_ (by first | omega | (simp; done) | (simp; omega)) _ | refine Below.drew ?_ | refine below_dn ?_ _))))) ?_
  rintro E w4 ⟨k, t, rfl, hg, hb4⟩
  obtain ⟨hc4, hf4⟩ := bcell hb4
  have HW4 : Hid (Below w.heap.size w w4) := Lib.hid (by
    refine Below.trans ?_ (hb4.mono ?_)
    · (repeat (first | with_reducible exact HW3.out | refine Below.setCell (p := ⟨_, _, _⟩) ?_ (by first | omega | (simp; done) | (simp; omega)) _ | refine Below.alloc ?_ (by first | omega | (simp; done) | (simp; omega)) _ | refine Below.drew ?_ | refine below_dn ?_ _))
    · first | omega | (simp; done) | (simp; omega))
  have hs4 : w.heap.size ≤ w4.heap.size := by have := hb4.size; (try simp at this); omega
  have hsx4_0 : w3.heap.size + 1 ≤ w4.heap.size := by have := hb4.size; (try simp at this); omega
  have hx4_0 := fun o : Nat => hc4 (w3.heap.size) o (by first | omega | (simp; done) | (simp; omega))
  have hxf4_0 := fun o : Nat => hf4 (w3.heap.size) o (by first | omega | (simp; done) | (simp; omega))
  clear hc4 hf4
  clear hb4
  obtain ⟨t1, t2⟩ := t
  have HG := Lib.hid hg
  clear hg
  have z4_0_0 : w4.cell? ⟨w3.heap.size, 0, none⟩ = some (.float .f64 u1) := by rw [hx4_0]; rw [World.cell?_alloc_new]; rfl
  have z4_0_1 : w4.cell? ⟨w3.heap.size, 1, none⟩ = some (.float .f64 u2) := by rw [hx4_0]; rw [World.cell?_alloc_new]; rfl
  clear hx4_0
  have hlt5_0 : w3.heap.size < w4.heap.size := by omega
  have hne5_0 : ¬ (w3.heap.size = w4.heap.size) := by omega
  have hen5_0 : ¬ (w4.heap.size = w3.heap.size) := by omega
  go_wp2_with fail
  refine Calls.mono (HC.out _) ?_
  rintro E w5 ⟨rfl, hb5⟩
  obtain ⟨hc5, hf5⟩ := bcell hb5
  have HW5 : Hid (Below w.heap.size w w5) := Lib.hid (by
    refine Below.trans ?_ (hb5.mono ?_)
    · (repeat (first | with_reducible exact HW4.out | refine Below.setCell (p := ⟨_, _, _⟩) ?_ (by first | omega | (simp; done) | (simp; omega)) _ | refine Below.alloc ?_ (by first | omega | (simp; done) | (simp; omega)) _ | refine Below.drew ?_ | refine below_dn ?_ _))
    · first | omega | (simp; done) | (simp; omega))
  have hs5 : w.heap.size ≤ w5.heap.size := by have := hb5.size; (try simp at this); omega
  have hsx5_0 : w3.heap.size + 1 ≤ w5.heap.size := by have := hb5.size; (try simp at this); omega
  have hx5_0 := fun o : Nat => hc5 (w3.heap.size) o (by first | omega | (simp; done) | (simp; omega))
  have hxf5_0 := fun o : Nat => hf5 (w3.heap.size) o (by first | omega | (simp; done) | (simp; omega))
  have hsx5_1 : w4.heap.size + 1 ≤ w5.heap.size := by have := hb5.size; (try simp at this); omega
  have hx5_1 := fun o : Nat => hc5 (w4.heap.size) o (by first | omega | (simp; done) | (simp; omega))
  have hxf5_1 := fun o : Nat => hf5 (w4.heap.size) o (by first | omega | (simp; done) | (simp; omega))
  clear hc5 hf5
  clear hb5
  have z5_0_0 : w5.cell? ⟨w3.heap.size, 0, none⟩ = some (.float .f64 u1) := by rw [hx5_0]; rw [World.cell?_alloc_past _ _ _ (by omega), z4_0_0]
  have z5_0_1 : w5.cell? ⟨w3.heap.size, 1, none⟩ = some (.float .f64 u2) := by rw [hx5_0]; rw [World.cell?_alloc_past _ _ _ (by omega), z4_0_1]
  have z5_1_0 : w5.cell? ⟨w4.heap.size, 0, none⟩ = some (.float .f64 t1) := by rw [hx5_1]; rw [World.cell?_alloc_new]; rfl
  have z5_1_1 : w5.cell? ⟨w4.heap.size, 1, none⟩ = some (.float .f64 t2) := by rw [hx5_1]; rw [World.cell?_alloc_new]; rfl
  clear hx5_0
  clear hx5_1
  have hs35 : w3.heap.size < w5.heap.size := by omega
  have hs45 : w4.heap.size < w5.heap.size := by omega
  have hs34 : w3.heap.size < w4.heap.size := by omega
  have hn1 : ¬ (w3.heap.size = w5.heap.size) := by omega
  have hn2 : ¬ (w4.heap.size = w5.heap.size) := by omega
  clear z4_0_0 z4_0_1
  by_cases hqk : q = k
  · subst hqk
    have hlt6_0 : w3.heap.size < w5.heap.size := by omega
    have hne6_0 : ¬ (w3.heap.size = w5.heap.size) := by omega
    have hen6_0 : ¬ (w5.heap.size = w3.heap.size) := by omega
    have hlt6_1 : w4.heap.size < w5.heap.size := by omega
    have hne6_1 : ¬ (w4.heap.size = w5.heap.size) := by omega
    have hen6_1 : ¬ (w5.heap.size = w4.heap.size) := by omega
    go_wp2_with fail
    refine Calls.mono (HBB.out (u1, u2) (t1, t2) HU.out HG.out.1 (by first | exact HG.out.2 trivial | exact HG.out.2 rfl | exact HG.out.2) _ (HT.out.below (by (repeat (first | with_reducible exact HW5.out | refine Below.setCell (p := ⟨_, _, _⟩) ?_ (by first | omega | (simp; done) | (simp; omega)) _ | refine Below.alloc ?_ (by first | omega | (simp; done) | (simp; omega)) _ | refine Below.drew ?_ | refine below_dn ?_ _))))) ?_
    rintro E w6 ⟨rfl, hb6⟩
    obtain ⟨hc6, hf6⟩ := bcell hb6
    have HW6 : Hid (Below w.heap.size w w6) := Lib.hid (by
      refine Below.trans ?_ (hb6.mono ?_)
      · (repeat (first | with_reducible exact HW5.out | refine Below.setCell (p := ⟨_, _, _⟩) ?_ (by first | omega | (simp; done) | (simp; omega)) _ | refine Below.alloc ?_ (by first | omega | (simp; done) | (simp; omega)) _ | refine Below.drew ?_ | refine below_dn ?_ _))
      · first | omega | (simp; done) | (simp; omega))
    have hs6 : w.heap.size ≤ w6.heap.size := by have := hb6.size; (try simp at this); omega
    have hsx6_0 : w3.heap.size + 1 ≤ w6.heap.size := by have := hb6.size; (try simp at this); omega
    have hx6_0 := fun o : Nat => hc6 (w3.heap.size) o (by first | omega | (simp; done) | (simp; omega))
    have hxf6_0 := fun o : Nat => hf6 (w3.heap.size) o (by first | omega | (simp; done) | (simp; omega))
    have hsx6_1 : w4.heap.size + 1 ≤ w6.heap.size := by have := hb6.size; (try simp at this); omega
    have hx6_1 := fun o : Nat => hc6 (w4.heap.size) o (by first | omega | (simp; done) | (simp; omega))
    have hxf6_1 := fun o : Nat => hf6 (w4.heap.size) o (by first | omega | (simp; done) | (simp; omega))
    have hsx6_2 : w5.heap.size + 1 ≤ w6.heap.size := by have := hb6.size; (try simp at this); omega
    have hx6_2 := fun o : Nat => hc6 (w5.heap.size) o (by first | omega | (simp; done) | (simp; omega))
    have hxf6_2 := fun o : Nat => hf6 (w5.heap.size) o (by first | omega | (simp; done) | (simp; omega))
    clear hc6 hf6
    clear hb6
    have z6_0_0 : w6.cell? ⟨w3.heap.size, 0, none⟩ = some (.float .f64 u1) := by rw [hx6_0]; rw [World.cell?_alloc_past _ _ _ (by omega), z5_0_0]
    have z6_0_1 : w6.cell? ⟨w3.heap.size, 1, none⟩ = some (.float .f64 u2) := by rw [hx6_0]; rw [World.cell?_alloc_past _ _ _ (by omega), z5_0_1]
    have z6_1_0 : w6.cell? ⟨w4.heap.size, 0, none⟩ = some (.float .f64 t1) := by rw [hx6_1]; rw [World.cell?_alloc_past _ _ _ (by omega), z5_1_0]
    have z6_1_1 : w6.cell? ⟨w4.heap.size, 1, none⟩ = some (.float .f64 t2) := by rw [hx6_1]; rw [World.cell?_alloc_past _ _ _ (by omega), z5_1_1]
    have z6_2_0 : w6.cell? ⟨w5.heap.size, 0, none⟩ = some (.float .f64 u1) := by rw [hx6_2]; rw [World.cell?_alloc_new]; rfl
    have z6_2_1 : w6.cell? ⟨w5.heap.size, 1, none⟩ = some (.float .f64 u2) := by rw [hx6_2]; rw [World.cell?_alloc_new]; rfl
    clear hx6_0
    clear hx6_1
    clear hx6_2
    clear z5_0_0 z5_0_1 z5_1_0 z5_1_1
    go_wp2_with fail
    refine Calls.mono (HBB.out (u1, u2) (u1, u2) HU.out HU.out HS.out _ (HT.out.below (by (repeat (first | with_reducible exact HW6.out | refine Below.setCell (p := ⟨_, _, _⟩) ?_ (by first | omega | (simp; done) | (simp; omega)) _ | refine Below.alloc ?_ (by first | omega | (simp; done) | (simp; omega)) _ | refine Below.drew ?_ | refine below_dn ?_ _))))) ?_
    rintro E w7 ⟨rfl, hb7⟩
    obtain ⟨hc7, hf7⟩ := bcell hb7
    have HW7 : Hid (Below w.heap.size w w7) := Lib.hid (by
      refine Below.trans ?_ (hb7.mono ?_)
      · (repeat (first | with_reducible exact HW6.out | refine Below.setCell (p := ⟨_, _, _⟩) ?_ (by first | omega | (simp; done) | (simp; omega)) _ | refine Below.alloc ?_ (by first | omega | (simp; done) | (simp; omega)) _ | refine Below.drew ?_ | refine below_dn ?_ _))
      · first | omega | (simp; done) | (simp; omega))
    have hs7 : w.heap.size ≤ w7.heap.size := by have := hb7.size; (try simp at this); omega
    have hsx7_0 : w3.heap.size + 1 ≤ w7.heap.size := by have := hb7.size; (try simp at this); omega
    have hx7_0 := fun o : Nat => hc7 (w3.heap.size) o (by first | omega | (simp; done) | (simp; omega))
    have hxf7_0 := fun o : Nat => hf7 (w3.heap.size) o (by first | omega | (simp; done) | (simp; omega))
    have hsx7_1 : w4.heap.size + 1 ≤ w7.heap.size := by have := hb7.size; (try simp at this); omega
    have hx7_1 := fun o : Nat => hc7 (w4.heap.size) o (by first | omega | (simp; done) | (simp; omega))
    have hxf7_1 := fun o : Nat => hf7 (w4.heap.size) o (by first | omega | (simp; done) | (simp; omega))
    have hsx7_2 : w5.heap.size + 1 ≤ w7.heap.size := by have := hb7.size; (try simp at this); omega
    have hx7_2 := fun o : Nat => hc7 (w5.heap.size) o (by first | omega | (simp; done) | (simp; omega))
    have hxf7_2 := fun o : Nat => hf7 (w5.heap.size) o (by first | omega | (simp; done) | (simp; omega))
    clear hc7 hf7
    clear hb7
    have z7_0_0 : w7.cell? ⟨w3.heap.size, 0, none⟩ = some (.float .f64 u1) := by rw [hx7_0]; rw [z6_0_0]
    have z7_0_1 : w7.cell? ⟨w3.heap.size, 1, none⟩ = some (.float .f64 u2) := by rw [hx7_0]; rw [z6_0_1]
    have z7_1_0 : w7.cell? ⟨w4.heap.size, 0, none⟩ = some (.float .f64 t1) := by rw [hx7_1]; rw [z6_1_0]
    have z7_1_1 : w7.cell? ⟨w4.heap.size, 1, none⟩ = some (.float .f64 t2) := by rw [hx7_1]; rw [z6_1_1]
    have z7_2_0 : w7.cell? ⟨w5.heap.size, 0, none⟩ = some (.float .f64 u1) := by rw [hx7_2]; rw [z6_2_0]
    have z7_2_1 : w7.cell? ⟨w5.heap.size, 1, none⟩ = some (.float .f64 u2) := by rw [hx7_2]; rw [z6_2_1]
    clear hx7_0
    clear hx7_1
    clear hx7_2
    clear z6_0_0 z6_0_1 z6_1_0 z6_1_1 z6_2_0 z6_2_1
    go_wp2_with fail
    refine Calls.mono (HBB.out (u1, u2) (t1, t2) HU.out HG.out.1 (by first | exact HG.out.2 trivial | exact HG.out.2 rfl | exact HG.out.2) _ (HT.out.below (by (repeat (first | with_reducible exact HW7.out | refine Below.setCell (p := ⟨_, _, _⟩) ?_ (by first | omega | (simp; done) | (simp; omega)) _ | refine Below.alloc ?_ (by first | omega | (simp; done) | (simp; omega)) _ | refine Below.drew ?_ | refine below_dn ?_ _))))) ?_
    rintro E w8 ⟨rfl, hb8⟩
    obtain ⟨hc8, hf8⟩ := bcell hb8
    have HW8 : Hid (Below w.heap.size w w8) := Lib.hid (by
      refine Below.trans ?_ (hb8.mono ?_)
      · (repeat (first | with_reducible exact HW7.out | refine Below.setCell (p := ⟨_, _, _⟩) ?_ (by first | omega | (simp; done) | (simp; omega)) _ | refine Below.alloc ?_ (by first | omega | (simp; done) | (simp; omega)) _ | refine Below.drew ?_ | refine below_dn ?_ _))
      · first | omega | (simp; done) | (simp; omega))
    have hs8 : w.heap.size ≤ w8.heap.size := by have := hb8.size; (try simp at this); omega
    have hsx8_0 : w3.heap.size + 1 ≤ w8.heap.size := by have := hb8.size; (try simp at this); omega
    have hx8_0 := fun o : Nat => hc8 (w3.heap.size) o (by first | omega | (simp; done) | (simp; omega))
    have hxf8_0 := fun o : Nat => hf8 (w3.heap.size) o (by first | omega | (simp; done) | (simp; omega))
    have hsx8_1 : w4.heap.size + 1 ≤ w8.heap.size := by have := hb8.size; (try simp at this); omega
    have hx8_1 := fun o : Nat => hc8 (w4.heap.size) o (by first | omega | (simp; done) | (simp; omega))
    have hxf8_1 := fun o : Nat => hf8 (w4.heap.size) o (by first | omega | (simp; done) | (simp; omega))
    have hsx8_2 : w5.heap.size + 1 ≤ w8.heap.size := by have := hb8.size; (try simp at this); omega
    have hx8_2 := fun o : Nat => hc8 (w5.heap.size) o (by first | omega | (simp; done) | (simp; omega))
    have hxf8_2 := fun o : Nat => hf8 (w5.heap.size) o (by first | omega | (simp; done) | (simp; omega))
    clear hc8 hf8
    clear hb8
    go_wp2_with fail
    go_ret
    exact ⟨rfl, by (repeat (first | with_reducible exact HW8.out | refine Below.setCell (p := ⟨_, _, _⟩) ?_ (by first | omega | (simp; done) | (simp; omega)) _ | refine Below.alloc ?_ (by first | omega | (simp; done) | (simp; omega)) _ | refine Below.drew ?_ | refine below_dn ?_ _))⟩
  · have hb : (q == k) = false := by rw [beq_eq_false_iff_ne]; exact hqk
    have hlt6_0 : w3.heap.size < w5.heap.size := by omega
    have hne6_0 : ¬ (w3.heap.size = w5.heap.size) := by omega
    have hen6_0 : ¬ (w5.heap.size = w3.heap.size) := by omega
    have hlt6_1 : w4.heap.size < w5.heap.size := by omega
    have hne6_1 : ¬ (w4.heap.size = w5.heap.size) := by omega
    have hen6_1 : ¬ (w5.heap.size = w4.heap.size) := by omega
    go_wp2_with fail
    refine Calls.mono (HBB.out (u1, u2) (u1, u2) HU.out HU.out HS.out _ (HT.out.below (by (repeat (first | with_reducible exact HW5.out | refine Below.setCell (p := ⟨_, _, _⟩) ?_ (by first | omega | (simp; done) | (simp; omega)) _ | refine Below.alloc ?_ (by first | omega | (simp; done) | (simp; omega)) _ | refine Below.drew ?_ | refine below_dn ?_ _))))) ?_
    rintro E w6 ⟨rfl, hb6⟩
    obtain ⟨hc6, hf6⟩ := bcell hb6
    have HW6 : Hid (Below w.heap.size w w6) := Lib.hid (by
      refine Below.trans ?_ (hb6.mono ?_)
      · (repeat (first | with_reducible exact HW5.out | refine Below.setCell (p := ⟨_, _, _⟩) ?_ (by first | omega | (simp; done) | (simp; omega)) _ | refine Below.alloc ?_ (by first | omega | (simp; done) | (simp; omega)) _ | refine Below.drew ?_ | refine below_dn ?_ _))
      · first | omega | (simp; done) | (simp; omega))
    have hs6 : w.heap.size ≤ w6.heap.size := by have := hb6.size; (try simp at this); omega
    have hsx6_0 : w3.heap.size + 1 ≤ w6.heap.size := by have := hb6.size; (try simp at this); omega
    have hx6_0 := fun o : Nat => hc6 (w3.heap.size) o (by first | omega | (simp; done) | (simp; omega))
    have hxf6_0 := fun o : Nat => hf6 (w3.heap.size) o (by first | omega | (simp; done) | (simp; omega))
    have hsx6_1 : w4.heap.size + 1 ≤ w6.heap.size := by have := hb6.size; (try simp at this); omega
    have hx6_1 := fun o : Nat => hc6 (w4.heap.size) o (by first | omega | (simp; done) | (simp; omega))
    have hxf6_1 := fun o : Nat => hf6 (w4.heap.size) o (by first | omega | (simp; done) | (simp; omega))
    have hsx6_2 : w5.heap.size + 1 ≤ w6.heap.size := by have := hb6.size; (try simp at this); omega
    have hx6_2 := fun o : Nat => hc6 (w5.heap.size) o (by first | omega | (simp; done) | (simp; omega))
    have hxf6_2 := fun o : Nat => hf6 (w5.heap.size) o (by first | omega | (simp; done) | (simp; omega))
    clear hc6 hf6
    clear hb6
    go_wp2_with fail
    go_ret
    exact ⟨rfl, by (repeat (first | with_reducible exact HW6.out | refine Below.setCell (p := ⟨_, _, _⟩) ?_ (by first | omega | (simp; done) | (simp; omega)) _ | refine Below.alloc ?_ (by first | omega | (simp; done) | (simp; omega)) _ | refine Below.drew ?_ | refine below_dn ?_ _))⟩

set_option maxHeartbeats 4000000 in
set_option maxRecDepth 100000 in
theorem lawR_pay (b : Nat) (pw : Nat → Nat) (Good : Int → Nat × Nat → Prop) (hred : (decide (4485585228861014016 ≤ pSz b) && decide (pSz b < 9218868437227405312)) = true)
    (hR : ∀ w, Wrd pw w → Calls Tryd.prog 8 #[.float .f64 b] w fun E w' => ∃ q t e, E = .returned (redV q t e) ∧ (e = 0 ∧ Good q t) ∧ Below w.heap.size w w')
    (hP : ∀ w, Wrd pw w → Calls Tryd.prog 9 #[.float .f64 b] w fun E w' => ∃ k t, E = .returned (redV k t 0) ∧ Good k t ∧ Below w.heap.size w w')
    (hC : ∀ w, Calls Tryd.prog 10 #[.float .f64 b] w fun E w' => E = .returned (codyV 0 (0, 0) false) ∧ Below w.heap.size w w')
    (hG : ∀ q s k t, Good q s → Good k t → DDok s ∧ DDok t ∧ besideB s t = true)
    (w : World) (hT : Tab w) (hW : Wrd pw w) :
    Calls Tryd.prog 3 #[.int .u64 b] w fun E w' => E = .returned (.bool true) ∧ Below w.heap.size w w' := by
  have HA := Lib.hid awake_calls
  have HRe := Lib.hid (fun w0 => reducible_calls b true hred w0)
  have HR := Lib.hid hR
  have HP := Lib.hid hP
  have HC := Lib.hid hC
  have HGG := Lib.hid hG
  have HBB : Hid (∀ s t, DDok s → DDok t → besideB s t = true → ∀ w0, Tab w0 → Calls Tryd.prog 11 #[ddV s, ddV t] w0 fun E w' => E = .returned (.bool true) ∧ Below w0.heap.size w0 w') :=
    Lib.hid fun s t h1 h2 h3 w0 hT => by
      have := beside_calls s t h1 h2 w0 hT
      rw [h3] at this
      exact this
  have HT := Lib.hid hT
  have HWw := Lib.hid hW
  clear hred hR hP hC hT hW hG
  unfold codyV redV ddV at *
  have HW0 : Hid (Below w.heap.size w w) := Lib.hid (Below.refl _ _)
  go_enter Tryd.func3, Tryd.ntmps3
  go_wp2_with fail
  refine Calls.mono (HA.out _) ?_
  rintro E w1 ⟨rfl, hb1⟩
  obtain ⟨hc1, hf1⟩ := bcell hb1
  have HW1 : Hid (Below w.heap.size w w1) := Lib.hid (by
    refine Below.trans ?_ (hb1.mono ?_)
    · (repeat (first | with_reducible exact HW0.out | refine Below.setCell (p := ⟨_, _, _⟩) ?_ (by first | omega | (simp; done) | (simp; omega)) _ | refine Below.alloc ?_ (by first | omega | (simp; done) | (simp; omega)) _ | refine Below.drew ?_ | refine below_dn ?_ _))
    · first | omega | (simp; done) | (simp; omega))
  have hs1 : w.heap.size ≤ w1.heap.size := by have := hb1.size; (try simp at this); omega
  clear hc1 hf1
  clear hb1
  go_wp2_with fail
  refine Calls.mono (HRe.out _) ?_
  rintro E w2 ⟨rfl, hb2⟩
  obtain ⟨hc2, hf2⟩ := bcell hb2
  have HW2 : Hid (Below w.heap.size w w2) := Lib.hid (by
    refine Below.trans ?_ (hb2.mono ?_)
    · (repeat (first | with_reducible exact HW1.out | refine Below.setCell (p := ⟨_, _, _⟩) ?_ (by first | omega | (simp; done) | (simp; omega)) _ | refine Below.alloc ?_ (by first | omega | (simp; done) | (simp; omega)) _ | refine Below.drew ?_ | refine below_dn ?_ _))
    · first | omega | (simp; done) | (simp; omega))
  have hs2 : w.heap.size ≤ w2.heap.size := by have := hb2.size; (try simp at this); omega
  clear hc2 hf2
  clear hb2
  go_wp2_with fail
  refine Calls.mono (HR.out _ (HWw.out.below (by (repeat (first | with_reducible exact HW2.out | refine Below.setCell (p := ⟨_, _, _⟩) ?_ (by first | omega | (simp; done) | (simp; omega)) _ | refine Below.alloc ?_ (by first | omega | (simp; done) | (simp; omega)) _ | refine Below.drew ?_ | refine below_dn ?_ _))))) ?_
  rintro E w3 ⟨q, u, e0, rfl, he0, hb3⟩
  obtain ⟨hc3, hf3⟩ := bcell hb3
  have HW3 : Hid (Below w.heap.size w w3) := Lib.hid (by
    refine Below.trans ?_ (hb3.mono ?_)
    · (repeat (first | with_reducible exact HW2.out | refine Below.setCell (p := ⟨_, _, _⟩) ?_ (by first | omega | (simp; done) | (simp; omega)) _ | refine Below.alloc ?_ (by first | omega | (simp; done) | (simp; omega)) _ | refine Below.drew ?_ | refine below_dn ?_ _))
    · first | omega | (simp; done) | (simp; omega))
  have hs3 : w.heap.size ≤ w3.heap.size := by have := hb3.size; (try simp at this); omega
  clear hc3 hf3
  clear hb3
  obtain ⟨u1, u2⟩ := u
  have hz0 := he0.1
  subst hz0
  have HG0 := Lib.hid he0.2
  clear he0
  go_wp2_with fail
  refine Calls.mono (HP.out _ (HWw.out.below (by (repeat (first | with_reducible exact HW3.out | refine Below.setCell (p := ⟨_, _, _⟩) ?_ (by first | omega | (simp; done) | (simp; omega)) _ | refine Below.alloc ?_ (by first | omega | (simp; done) | (simp; omega)) _ | refine Below.drew ?_ | refine below_dn ?_ _))))) ?_
  rintro E w4 ⟨k, t, rfl, hg, hb4⟩
  obtain ⟨hc4, hf4⟩ := bcell hb4
  have HW4 : Hid (Below w.heap.size w w4) := Lib.hid (by
    refine Below.trans ?_ (hb4.mono ?_)
    · (repeat (first | with_reducible exact HW3.out | refine Below.setCell (p := ⟨_, _, _⟩) ?_ (by first | omega | (simp; done) | (simp; omega)) _ | refine Below.alloc ?_ (by first | omega | (simp; done) | (simp; omega)) _ | refine Below.drew ?_ | refine below_dn ?_ _))
    · first | omega | (simp; done) | (simp; omega))
  have hs4 : w.heap.size ≤ w4.heap.size := by have := hb4.size; (try simp at this); omega
  have hsx4_0 : w3.heap.size + 1 ≤ w4.heap.size := by have := hb4.size; (try simp at this); omega
  have hx4_0 := fun o : Nat => hc4 (w3.heap.size) o (by first | omega | (simp; done) | (simp; omega))
  have hxf4_0 := fun o : Nat => hf4 (w3.heap.size) o (by first | omega | (simp; done) | (simp; omega))
  clear hc4 hf4
  clear hb4
  obtain ⟨t1, t2⟩ := t
  have HG := Lib.hid hg
  have HGT := Lib.hid (HGG.out _ _ _ _ HG0.out HG.out)
  clear hg
  have z4_0_0 : w4.cell? ⟨w3.heap.size, 0, none⟩ = some (.float .f64 u1) := by rw [hx4_0]; rw [World.cell?_alloc_new]; rfl
  have z4_0_1 : w4.cell? ⟨w3.heap.size, 1, none⟩ = some (.float .f64 u2) := by rw [hx4_0]; rw [World.cell?_alloc_new]; rfl
  clear hx4_0
  have hlt5_0 : w3.heap.size < w4.heap.size := by omega
  have hne5_0 : ¬ (w3.heap.size = w4.heap.size) := by omega
  have hen5_0 : ¬ (w4.heap.size = w3.heap.size) := by omega
  go_wp2_with fail
  refine Calls.mono (HC.out _) ?_
  rintro E w5 ⟨rfl, hb5⟩
  obtain ⟨hc5, hf5⟩ := bcell hb5
  have HW5 : Hid (Below w.heap.size w w5) := Lib.hid (by
    refine Below.trans ?_ (hb5.mono ?_)
    · (repeat (first | with_reducible exact HW4.out | refine Below.setCell (p := ⟨_, _, _⟩) ?_ (by first | omega | (simp; done) | (simp; omega)) _ | refine Below.alloc ?_ (by first | omega | (simp; done) | (simp; omega)) _ | refine Below.drew ?_ | refine below_dn ?_ _))
    · first | omega | (simp; done) | (simp; omega))
  have hs5 : w.heap.size ≤ w5.heap.size := by have := hb5.size; (try simp at this); omega
  have hsx5_0 : w3.heap.size + 1 ≤ w5.heap.size := by have := hb5.size; (try simp at this); omega
  have hx5_0 := fun o : Nat => hc5 (w3.heap.size) o (by first | omega | (simp; done) | (simp; omega))
  have hxf5_0 := fun o : Nat => hf5 (w3.heap.size) o (by first | omega | (simp; done) | (simp; omega))
  have hsx5_1 : w4.heap.size + 1 ≤ w5.heap.size := by have := hb5.size; (try simp at this); omega
  have hx5_1 := fun o : Nat => hc5 (w4.heap.size) o (by first | omega | (simp; done) | (simp; omega))
  have hxf5_1 := fun o : Nat => hf5 (w4.heap.size) o (by first | omega | (simp; done) | (simp; omega))
  clear hc5 hf5
  clear hb5
  have z5_0_0 : w5.cell? ⟨w3.heap.size, 0, none⟩ = some (.float .f64 u1) := by rw [hx5_0]; rw [World.cell?_alloc_past _ _ _ (by omega), z4_0_0]
  have z5_0_1 : w5.cell? ⟨w3.heap.size, 1, none⟩ = some (.float .f64 u2) := by rw [hx5_0]; rw [World.cell?_alloc_past _ _ _ (by omega), z4_0_1]
  have z5_1_0 : w5.cell? ⟨w4.heap.size, 0, none⟩ = some (.float .f64 t1) := by rw [hx5_1]; rw [World.cell?_alloc_new]; rfl
  have z5_1_1 : w5.cell? ⟨w4.heap.size, 1, none⟩ = some (.float .f64 t2) := by rw [hx5_1]; rw [World.cell?_alloc_new]; rfl
  clear hx5_0
  clear hx5_1
  have hs35 : w3.heap.size < w5.heap.size := by omega
  have hs45 : w4.heap.size < w5.heap.size := by omega
  have hs34 : w3.heap.size < w4.heap.size := by omega
  have hn1 : ¬ (w3.heap.size = w5.heap.size) := by omega
  have hn2 : ¬ (w4.heap.size = w5.heap.size) := by omega
  clear z4_0_0 z4_0_1
  by_cases hqk : q = k
  · subst hqk
    have hlt6_0 : w3.heap.size < w5.heap.size := by omega
    have hne6_0 : ¬ (w3.heap.size = w5.heap.size) := by omega
    have hen6_0 : ¬ (w5.heap.size = w3.heap.size) := by omega
    have hlt6_1 : w4.heap.size < w5.heap.size := by omega
    have hne6_1 : ¬ (w4.heap.size = w5.heap.size) := by omega
    have hen6_1 : ¬ (w5.heap.size = w4.heap.size) := by omega
    go_wp2_with fail
    refine Calls.mono (HBB.out (u1, u2) (t1, t2) HGT.out.1 HGT.out.2.1 HGT.out.2.2 _ (HT.out.below (by (repeat (first | with_reducible exact HW5.out | refine Below.setCell (p := ⟨_, _, _⟩) ?_ (by first | omega | (simp; done) | (simp; omega)) _ | refine Below.alloc ?_ (by first | omega | (simp; done) | (simp; omega)) _ | refine Below.drew ?_ | refine below_dn ?_ _))))) ?_
    rintro E w6 ⟨rfl, hb6⟩
    obtain ⟨hc6, hf6⟩ := bcell hb6
    have HW6 : Hid (Below w.heap.size w w6) := Lib.hid (by
      refine Below.trans ?_ (hb6.mono ?_)
      · (repeat (first | with_reducible exact HW5.out | refine Below.setCell (p := ⟨_, _, _⟩) ?_ (by first | omega | (simp; done) | (simp; omega)) _ | refine Below.alloc ?_ (by first | omega | (simp; done) | (simp; omega)) _ | refine Below.drew ?_ | refine below_dn ?_ _))
      · first | omega | (simp; done) | (simp; omega))
    have hs6 : w.heap.size ≤ w6.heap.size := by have := hb6.size; (try simp at this); omega
    have hsx6_0 : w3.heap.size + 1 ≤ w6.heap.size := by have := hb6.size; (try simp at this); omega
    have hx6_0 := fun o : Nat => hc6 (w3.heap.size) o (by first | omega | (simp; done) | (simp; omega))
    have hxf6_0 := fun o : Nat => hf6 (w3.heap.size) o (by first | omega | (simp; done) | (simp; omega))
    have hsx6_1 : w4.heap.size + 1 ≤ w6.heap.size := by have := hb6.size; (try simp at this); omega
    have hx6_1 := fun o : Nat => hc6 (w4.heap.size) o (by first | omega | (simp; done) | (simp; omega))
    have hxf6_1 := fun o : Nat => hf6 (w4.heap.size) o (by first | omega | (simp; done) | (simp; omega))
    have hsx6_2 : w5.heap.size + 1 ≤ w6.heap.size := by have := hb6.size; (try simp at this); omega
    have hx6_2 := fun o : Nat => hc6 (w5.heap.size) o (by first | omega | (simp; done) | (simp; omega))
    have hxf6_2 := fun o : Nat => hf6 (w5.heap.size) o (by first | omega | (simp; done) | (simp; omega))
    clear hc6 hf6
    clear hb6
    go_wp2_with fail
    go_ret
    exact ⟨rfl, by (repeat (first | with_reducible exact HW6.out | refine Below.setCell (p := ⟨_, _, _⟩) ?_ (by first | omega | (simp; done) | (simp; omega)) _ | refine Below.alloc ?_ (by first | omega | (simp; done) | (simp; omega)) _ | refine Below.drew ?_ | refine below_dn ?_ _))⟩
  · have hb : (q == k) = false := by rw [beq_eq_false_iff_ne]; exact hqk
    go_wp2_with fail
    go_ret
    exact ⟨rfl, by (repeat (first | with_reducible exact HW5.out | refine Below.setCell (p := ⟨_, _, _⟩) ?_ (by first | omega | (simp; done) | (simp; omega)) _ | refine Below.alloc ?_ (by first | omega | (simp; done) | (simp; omega)) _ | refine Below.drew ?_ | refine below_dn ?_ _))⟩

set_option maxHeartbeats 4000000 in
set_option maxRecDepth 100000 in
theorem lawR_out (b : Nat) (pw : Nat → Nat) (c : Int) (hc : (c == 0) = false) (hred : (decide (4485585228861014016 ≤ pSz b) && decide (pSz b < 9218868437227405312)) = false)
    (hR : ∀ w, Wrd pw w → Calls Tryd.prog 8 #[.float .f64 b] w fun E w' => E = .returned (redV 0 (0, 0) c) ∧ Below w.heap.size w w')
    (hP : ∀ w, Calls Tryd.prog 9 #[.float .f64 b] w fun E w' => E = .returned (redV 0 (0, 0) c) ∧ Below w.heap.size w w') (w : World) (hW : Wrd pw w) :
    Calls Tryd.prog 3 #[.int .u64 b] w fun E w' => E = .returned (.bool true) ∧ Below w.heap.size w w' := by
  have HA := Lib.hid awake_calls
  have HRe := Lib.hid (fun w0 => reducible_calls b false hred w0)
  have HR := Lib.hid hR
  have HP := Lib.hid hP
  have HWw := Lib.hid hW
  have hc2 : ¬ (c = 0) := by rw [beq_eq_false_iff_ne] at hc; exact hc
  clear hred hR hP hW
  unfold redV ddV at *
  have HW0 : Hid (Below w.heap.size w w) := Lib.hid (Below.refl _ _)
  go_enter Tryd.func3, Tryd.ntmps3
  go_wp2_with fail
  refine Calls.mono (HA.out _) ?_
  rintro E w1 ⟨rfl, hb1⟩
  obtain ⟨hc1, hf1⟩ := bcell hb1
  have HW1 : Hid (Below w.heap.size w w1) := Lib.hid (by
    refine Below.trans ?_ (hb1.mono ?_)
    · (repeat (first | with_reducible exact HW0.out | refine Below.setCell (p := ⟨_, _, _⟩) ?_ (by first | omega | (simp; done) | (simp; omega)) _ | refine Below.alloc ?_ (by first | omega | (simp; done) | (simp; omega)) _ | refine Below.drew ?_ | refine below_dn ?_ _))
    · first | omega | (simp; done) | (simp; omega))
  have hs1 : w.heap.size ≤ w1.heap.size := by have := hb1.size; (try simp at this); omega
  clear hc1 hf1
  clear hb1
  go_wp2_with fail
  refine Calls.mono (HRe.out _) ?_
  rintro E w2 ⟨rfl, hb2⟩
  obtain ⟨hc2, hf2⟩ := bcell hb2
  have HW2 : Hid (Below w.heap.size w w2) := Lib.hid (by
    refine Below.trans ?_ (hb2.mono ?_)
    · (repeat (first | with_reducible exact HW1.out | refine Below.setCell (p := ⟨_, _, _⟩) ?_ (by first | omega | (simp; done) | (simp; omega)) _ | refine Below.alloc ?_ (by first | omega | (simp; done) | (simp; omega)) _ | refine Below.drew ?_ | refine below_dn ?_ _))
    · first | omega | (simp; done) | (simp; omega))
  have hs2 : w.heap.size ≤ w2.heap.size := by have := hb2.size; (try simp at this); omega
  clear hc2 hf2
  clear hb2
  go_wp2_with fail
  refine Calls.mono (HR.out _ (HWw.out.below (by (repeat (first | with_reducible exact HW2.out | refine Below.setCell (p := ⟨_, _, _⟩) ?_ (by first | omega | (simp; done) | (simp; omega)) _ | refine Below.alloc ?_ (by first | omega | (simp; done) | (simp; omega)) _ | refine Below.drew ?_ | refine below_dn ?_ _))))) ?_
  rintro E w3 ⟨rfl, hb3⟩
  obtain ⟨hc3, hf3⟩ := bcell hb3
  have HW3 : Hid (Below w.heap.size w w3) := Lib.hid (by
    refine Below.trans ?_ (hb3.mono ?_)
    · (repeat (first | with_reducible exact HW2.out | refine Below.setCell (p := ⟨_, _, _⟩) ?_ (by first | omega | (simp; done) | (simp; omega)) _ | refine Below.alloc ?_ (by first | omega | (simp; done) | (simp; omega)) _ | refine Below.drew ?_ | refine below_dn ?_ _))
    · first | omega | (simp; done) | (simp; omega))
  have hs3 : w.heap.size ≤ w3.heap.size := by have := hb3.size; (try simp at this); omega
  clear hc3 hf3
  clear hb3
  go_wp2_with fail
  refine Calls.mono (HP.out _) ?_
  rintro E w4 ⟨rfl, hb4⟩
  obtain ⟨hc4, hf4⟩ := bcell hb4
  have HW4 : Hid (Below w.heap.size w w4) := Lib.hid (by
    refine Below.trans ?_ (hb4.mono ?_)
    · (repeat (first | with_reducible exact HW3.out | refine Below.setCell (p := ⟨_, _, _⟩) ?_ (by first | omega | (simp; done) | (simp; omega)) _ | refine Below.alloc ?_ (by first | omega | (simp; done) | (simp; omega)) _ | refine Below.drew ?_ | refine below_dn ?_ _))
    · first | omega | (simp; done) | (simp; omega))
  have hs4 : w.heap.size ≤ w4.heap.size := by have := hb4.size; (try simp at this); omega
  have hsx4_0 : w3.heap.size + 1 ≤ w4.heap.size := by have := hb4.size; (try simp at this); omega
  have hx4_0 := fun o : Nat => hc4 (w3.heap.size) o (by first | omega | (simp; done) | (simp; omega))
  have hxf4_0 := fun o : Nat => hf4 (w3.heap.size) o (by first | omega | (simp; done) | (simp; omega))
  clear hc4 hf4
  clear hb4
  go_wp2_with fail
  go_ret
  exact ⟨congrArg (fun x => Ending.returned (Value.bool x)) (show (c != 0) = true by simp [hc2]), by (repeat (first | with_reducible exact HW4.out | refine Below.setCell (p := ⟨_, _, _⟩) ?_ (by first | omega | (simp; done) | (simp; omega)) _ | refine Below.alloc ?_ (by first | omega | (simp; done) | (simp; omega)) _ | refine Below.drew ?_ | refine below_dn ?_ _))⟩

end Go.Proofs.YtgihapdlliidgaaDoor
