/- The walks of package payne, on: turns, Ldexp. -/
import Derived.Test.YtgihapdlliidgaaDoorPw
import Derived.Test.YtgihapdlliidgaaDoorCo2
namespace Go.Proofs.YtgihapdlliidgaaDoor
open Go Go.RowKit
set_option linter.unusedVariables false
set_option linter.unusedSimpArgs false

/-- a word of the window at a place -/
def wf (pw : Nat → Nat) (at0 i : Nat) : Nat := if at0 % 64 = 0 then pw (at0 / 64 + i) else winW pw (at0 / 64) (at0 % 64) i
theorem wf_zero (pw : Nat → Nat) (i : Nat) : wf pw 0 i = pw i := by
  unfold wf
  rw [if_pos rfl, Nat.zero_div, Nat.zero_add]
/-- what turns gives -/
def tv (pw : Nat → Nat) (m : Nat) (e : Int) : Nat := if e ≤ 2 then m * wv 0 (pw 0) (pw 1) (pw 2) (pw 3) / 2 ^ (2 - e).toNat else m * wv 0 (wf pw (e - 2).toNat 0) (wf pw (e - 2).toNat 1) (wf pw (e - 2).toNat 2) (wf pw (e - 2).toNat 3)

/-- Window, in one -/
theorem window_calls (pw : Nat → Nat) (at0 : Nat) (hA : at0 ≤ 1023) (w : World) (hW : Wrd pw w) :
    Calls Tryd.prog 31 #[.int .i64 (at0 : Nat)] w fun E w' => ∃ x0 x1 x2 x3 : Nat, E = .returned (.tuple #[.agg #[.int .u64 (x0 : Nat), .int .u64 (x1 : Nat), .int .u64 (x2 : Nat), .int .u64 (x3 : Nat)], .int .i64 0]) ∧
      x0 < B64 ∧ x1 < B64 ∧ x2 < B64 ∧ x3 < B64 ∧ (x0 = wf pw at0 0 ∧ x1 = wf pw at0 1 ∧ x2 = wf pw at0 2 ∧ x3 = wf pw at0 3) ∧ Below w.heap.size w w' := by
  rcases Nat.eq_zero_or_pos (at0 % 64) with h | h
  · refine (window0_calls pw (at0 / 64) (at0 : Int) (by omega) (by omega) (by omega) (by omega) (by omega) w hW).mono ?_
    rintro E w' ⟨rfl, hb⟩
    refine ⟨_, _, _, _, rfl, (hW.2 _ (by omega)).1, (hW.2 _ (by omega)).1, (hW.2 _ (by omega)).1, (hW.2 _ (by omega)).1, ?_, hb⟩
    unfold wf
    rw [if_pos h, if_pos h, if_pos h, if_pos h]
    exact ⟨rfl, rfl, rfl, rfl⟩
  · refine (window1_calls pw (at0 / 64) (at0 % 64) (at0 : Int) (by omega) h (by omega) (by omega) (by omega) (by omega) (by omega) w hW).mono ?_
    rintro E w' ⟨rfl, hb⟩
    refine ⟨_, _, _, _, rfl, (win_word _ _ _ (hW.2 _ (by omega)).1 (hW.2 _ (by omega)).1 (by omega)).2, (win_word _ _ _ (hW.2 _ (by omega)).1 (hW.2 _ (by omega)).1 (by omega)).2, (win_word _ _ _ (hW.2 _ (by omega)).1 (hW.2 _ (by omega)).1 (by omega)).2, (win_word _ _ _ (hW.2 _ (by omega)).1 (hW.2 _ (by omega)).1 (by omega)).2, ?_, hb⟩
    unfold wf
    rw [if_neg (by omega), if_neg (by omega), if_neg (by omega), if_neg (by omega)]
    exact ⟨rfl, rfl, rfl, rfl⟩

theorem Wrd.below {pw : Nat → Nat} {w w' : World} (h : Wrd pw w) (hb : Below w.heap.size w w') : Wrd pw w' :=
  ⟨Nat.lt_of_lt_of_le h.1 hb.size, fun j hj => ⟨(h.2 j hj).1, (hb.cell (p := ⟨_, j, none⟩) h.1).trans (h.2 j hj).2⟩⟩

set_option maxHeartbeats 4000000 in
set_option maxRecDepth 100000 in
theorem turns_low (pw : Nat → Nat) (m n : Nat) (e : Int) (he : 2 - e = (n : Nat)) (hn : n < 128) (hm : m < 9007199254740992) (w : World) (hW : Wrd pw w) :
    Calls Tryd.prog 18 #[.int .u64 (m : Nat), .int .i64 e] w fun E w' => ∃ a b c d f : Nat, E = .returned (.agg #[.int .u64 (a : Nat), .int .u64 (b : Nat), .int .u64 (c : Nat), .int .u64 (d : Nat), .int .u64 (f : Nat)]) ∧ a < B64 ∧ b < B64 ∧ c < B64 ∧ d < B64 ∧ f < B64 ∧
      wv a b c d f = m * wv 0 (pw 0) (pw 1) (pw 2) (pw 3) / 2 ^ n ∧ Below w.heap.size w w' := by
  have HWin := Lib.hid (fun w0 hW0 => window_calls pw 0 (by omega) w0 hW0)
  have HWw := Lib.hid hW
  have hx1 : max (0 : Int) (e - 2) = 0 := by omega
  have hx2 : max (0 : Int) (n : Int) = (n : Int) := by omega
  have HP := Lib.hid (fun m a b c d hm ha hb hc hd w => product_calls m a b c d hm ha hb hc hd w)
  have HD := Lib.hid (fun a b c d e ha hb hc hd he w => down_calls a b c d e n hn ha hb hc hd he w)
  have Hpw := Lib.hid (fun j hj => (hW.2 j hj).1)
  unfold wideA at HD
  clear hW
  have HW0 : Hid (Below w.heap.size w w) := Lib.hid (Below.refl _ _)
  go_enter Tryd.func18, Tryd.ntmps18
  go_wp2_with fail
  refine Calls.mono (HWin.out _ (HWw.out.below (by (repeat (first | with_reducible exact HW0.out | refine Below.setCell (p := ⟨_, _, _⟩) ?_ (by first | omega | (simp; done) | (simp; omega)) _ | refine Below.alloc ?_ (by first | omega | (simp; done) | (simp; omega)) _ | refine Below.drew ?_ | refine below_dn ?_ _))))) ?_
  rintro E w1 ⟨x0, x1, x2, x3, rfl, g0, g1, g2, g3, gp, hb1⟩
  obtain ⟨hc1, hf1⟩ := bcell hb1
  have HW1 : Hid (Below w.heap.size w w1) := Lib.hid (by
    refine Below.trans ?_ (hb1.mono ?_)
    · (repeat (first | with_reducible exact HW0.out | refine Below.setCell (p := ⟨_, _, _⟩) ?_ (by first | omega | (simp; done) | (simp; omega)) _ | refine Below.alloc ?_ (by first | omega | (simp; done) | (simp; omega)) _ | refine Below.drew ?_ | refine below_dn ?_ _))
    · first | omega | (simp; done) | (simp; omega))
  have hS0_1 : Hid (SameB w.heap.size 1 w w1) := Lib.hid (by
    refine SameB.below ?_ hb1
    (repeat (first | with_reducible exact SameB.refl _ _ _ | refine SameB.setCell (p := ⟨_, _, _⟩) ?_ (by first | omega | (simp; done) | (simp; omega)) (by first | omega | (simp; done) | (simp; omega)) _ | refine SameB.setNew (p := ⟨_, _, _⟩) ?_ (by first | omega | (simp; done) | (simp; omega)) _ | refine SameB.alloc ?_ _ | refine SameB.drew ?_ | refine SameB.drewN ?_ _)))
  have hs1 : w.heap.size + 1 ≤ w1.heap.size := by have := hb1.size; (try simp at this); omega
  have hc1_0 := fun o : Nat => hc1 (w.heap.size) o (by first | omega | (simp; done) | (simp; omega))
  have hf1_0 := fun o : Nat => hf1 (w.heap.size) o (by first | omega | (simp; done) | (simp; omega))
  clear hc1 hf1
  clear hb1
  obtain ⟨rfl, rfl, rfl, rfl⟩ := gp
  rw [wf_zero, wf_zero, wf_zero, wf_zero] at *
  have G0 := Lib.hid g0
  have G1 := Lib.hid g1
  have G2 := Lib.hid g2
  have G3 := Lib.hid g3
  clear g0 g1 g2 g3
  have hlt2_0 : w.heap.size < w1.heap.size := by omega
  have hne2_0 : ¬ (w.heap.size = w1.heap.size) := by omega
  have hen2_0 : ¬ (w1.heap.size = w.heap.size) := by omega
  go_wp2_with fail
  refine Calls.mono (HP.out m _ _ _ _ hm G0.out G1.out G2.out G3.out _) ?_
  rintro E w2 ⟨v0, v1, v2, v3, v4, rfl, hv, j0, j1, j2, j3, j4, hb2⟩
  obtain ⟨hc2, hf2⟩ := bcell hb2
  have HW2 : Hid (Below w.heap.size w w2) := Lib.hid (by
    refine Below.trans ?_ (hb2.mono ?_)
    · (repeat (first | with_reducible exact HW1.out | refine Below.setCell (p := ⟨_, _, _⟩) ?_ (by first | omega | (simp; done) | (simp; omega)) _ | refine Below.alloc ?_ (by first | omega | (simp; done) | (simp; omega)) _ | refine Below.drew ?_ | refine below_dn ?_ _))
    · first | omega | (simp; done) | (simp; omega))
  have hS1_2 : Hid (SameB w.heap.size 1 w1 w2) := Lib.hid (by
    refine SameB.below ?_ hb2
    (repeat (first | with_reducible exact SameB.refl _ _ _ | refine SameB.setCell (p := ⟨_, _, _⟩) ?_ (by first | omega | (simp; done) | (simp; omega)) (by first | omega | (simp; done) | (simp; omega)) _ | refine SameB.setNew (p := ⟨_, _, _⟩) ?_ (by first | omega | (simp; done) | (simp; omega)) _ | refine SameB.alloc ?_ _ | refine SameB.drew ?_ | refine SameB.drewN ?_ _)))
  have hS0_2 := Lib.hid (hS0_1.out.trans hS1_2.out)
  have hs2 : w.heap.size + 1 ≤ w2.heap.size := by have := hb2.size; (try simp at this); omega
  have hc2_0 := fun o : Nat => hc2 (w.heap.size) o (by first | omega | (simp; done) | (simp; omega))
  have hf2_0 := fun o : Nat => hf2 (w.heap.size) o (by first | omega | (simp; done) | (simp; omega))
  have hsx2_0 : w1.heap.size + 1 ≤ w2.heap.size := by have := hb2.size; (try simp at this); omega
  have hx2_0 := fun o : Nat => hc2 (w1.heap.size) o (by first | omega | (simp; done) | (simp; omega))
  have hxf2_0 := fun o : Nat => hf2 (w1.heap.size) o (by first | omega | (simp; done) | (simp; omega))
  clear hc2 hf2
  clear hb2
  have HV := Lib.hid hv
  have J0 := Lib.hid j0
  clear hv j0
  go_wp2_with fail
  refine Calls.mono (HD.out _ _ _ _ _ (by have := J0.out; rw [B64_eq]; omega) j1 j2 j3 j4 _) ?_
  rintro E w3 ⟨u0, u1, u2, u3, u4, rfl, l0, l1, l2, l3, l4, hu, hb3⟩
  obtain ⟨hc3, hf3⟩ := bcell hb3
  have HW3 : Hid (Below w.heap.size w w3) := Lib.hid (by
    refine Below.trans ?_ (hb3.mono ?_)
    · (repeat (first | with_reducible exact HW2.out | refine Below.setCell (p := ⟨_, _, _⟩) ?_ (by first | omega | (simp; done) | (simp; omega)) _ | refine Below.alloc ?_ (by first | omega | (simp; done) | (simp; omega)) _ | refine Below.drew ?_ | refine below_dn ?_ _))
    · first | omega | (simp; done) | (simp; omega))
  have hS2_3 : Hid (SameB w.heap.size 1 w2 w3) := Lib.hid (by
    refine SameB.below ?_ hb3
    (repeat (first | with_reducible exact SameB.refl _ _ _ | refine SameB.setCell (p := ⟨_, _, _⟩) ?_ (by first | omega | (simp; done) | (simp; omega)) (by first | omega | (simp; done) | (simp; omega)) _ | refine SameB.setNew (p := ⟨_, _, _⟩) ?_ (by first | omega | (simp; done) | (simp; omega)) _ | refine SameB.alloc ?_ _ | refine SameB.drew ?_ | refine SameB.drewN ?_ _)))
  have hS0_3 := Lib.hid (hS0_2.out.trans hS2_3.out)
  have hS1_3 := Lib.hid (hS1_2.out.trans hS2_3.out)
  have hs3 : w.heap.size + 1 ≤ w3.heap.size := by have := hb3.size; (try simp at this); omega
  have hc3_0 := fun o : Nat => hc3 (w.heap.size) o (by first | omega | (simp; done) | (simp; omega))
  have hf3_0 := fun o : Nat => hf3 (w.heap.size) o (by first | omega | (simp; done) | (simp; omega))
  have hsx3_0 : w1.heap.size + 1 ≤ w3.heap.size := by have := hb3.size; (try simp at this); omega
  have hx3_0 := fun o : Nat => hc3 (w1.heap.size) o (by first | omega | (simp; done) | (simp; omega))
  have hxf3_0 := fun o : Nat => hf3 (w1.heap.size) o (by first | omega | (simp; done) | (simp; omega))
  clear hc3 hf3
  clear hb3
  have HU := Lib.hid hu
  clear hu
  go_wp2_with fail
  refine bodyPost_ret (v := .agg #[.int .u64 (u0 : Nat), .int .u64 (u1 : Nat), .int .u64 (u2 : Nat), .int .u64 (u3 : Nat), .int .u64 (u4 : Nat)]) (by simp [results, Tryd.results18, go_sem, intV, dyV, hc1_0, hf1_0, hc2_0, hf2_0, hc3_0, hf3_0, hlt2_0, hne2_0, hen2_0, hx2_0, hxf2_0, hx3_0, hxf3_0]) rfl ?_
  refine ⟨u0, u1, u2, u3, u4, rfl, l0, l1, l2, l3, l4, ?_, by (repeat (first | with_reducible exact HW3.out | refine Below.setCell (p := ⟨_, _, _⟩) ?_ (by first | omega | (simp; done) | (simp; omega)) _ | refine Below.alloc ?_ (by first | omega | (simp; done) | (simp; omega)) _ | refine Below.drew ?_ | refine below_dn ?_ _))⟩
  have e1 := HU.out
  have e2 := HV.out
  have e3 : wv v0 v1 v2 v3 v4 = m * wv 0 (pw 0) (pw 1) (pw 2) (pw 3) := by unfold wv; rw [e2]; simp
  rw [e1, e3]

set_option maxHeartbeats 4000000 in
set_option maxRecDepth 100000 in
theorem turns_high (pw : Nat → Nat) (m n : Nat) (e : Int) (he : e - 2 = (n : Nat)) (hn : n ≤ 1023) (hm : m < 9007199254740992) (w : World) (hW : Wrd pw w) :
    Calls Tryd.prog 18 #[.int .u64 (m : Nat), .int .i64 e] w fun E w' => ∃ a b c d f : Nat, E = .returned (.agg #[.int .u64 (a : Nat), .int .u64 (b : Nat), .int .u64 (c : Nat), .int .u64 (d : Nat), .int .u64 (f : Nat)]) ∧ a < B64 ∧ b < B64 ∧ c < B64 ∧ d < B64 ∧ f < B64 ∧
      wv a b c d f = m * wv 0 (wf pw n 0) (wf pw n 1) (wf pw n 2) (wf pw n 3) ∧ Below w.heap.size w w' := by
  have HWin := Lib.hid (fun w0 hW0 => window_calls pw n hn w0 hW0)
  have HWw := Lib.hid hW
  have hx1 : max (0 : Int) (n : Int) = (n : Int) := by omega
  have hx2 : max (0 : Int) (2 - e) = 0 := by omega
  have HP := Lib.hid (fun m a b c d hm ha hb hc hd w => product_calls m a b c d hm ha hb hc hd w)
  have HD := Lib.hid (fun a b c d e ha hb hc hd he w => down_calls a b c d e 0 (by omega) ha hb hc hd he w)
  have Hpw := Lib.hid (fun j hj => (hW.2 j hj).1)
  unfold wideA at HD
  clear hW
  have HW0 : Hid (Below w.heap.size w w) := Lib.hid (Below.refl _ _)
  go_enter Tryd.func18, Tryd.ntmps18
  go_wp2_with fail
  refine Calls.mono (HWin.out _ (HWw.out.below (by (repeat (first | with_reducible exact HW0.out | refine Below.setCell (p := ⟨_, _, _⟩) ?_ (by first | omega | (simp; done) | (simp; omega)) _ | refine Below.alloc ?_ (by first | omega | (simp; done) | (simp; omega)) _ | refine Below.drew ?_ | refine below_dn ?_ _))))) ?_
  rintro E w1 ⟨x0, x1, x2, x3, rfl, g0, g1, g2, g3, gp, hb1⟩
  obtain ⟨hc1, hf1⟩ := bcell hb1
  have HW1 : Hid (Below w.heap.size w w1) := Lib.hid (by
    refine Below.trans ?_ (hb1.mono ?_)
    · (repeat (first | with_reducible exact HW0.out | refine Below.setCell (p := ⟨_, _, _⟩) ?_ (by first | omega | (simp; done) | (simp; omega)) _ | refine Below.alloc ?_ (by first | omega | (simp; done) | (simp; omega)) _ | refine Below.drew ?_ | refine below_dn ?_ _))
    · first | omega | (simp; done) | (simp; omega))
  have hS0_1 : Hid (SameB w.heap.size 1 w w1) := Lib.hid (by
    refine SameB.below ?_ hb1
    (repeat (first | with_reducible exact SameB.refl _ _ _ | refine SameB.setCell (p := ⟨_, _, _⟩) ?_ (by first | omega | (simp; done) | (simp; omega)) (by first | omega | (simp; done) | (simp; omega)) _ | refine SameB.setNew (p := ⟨_, _, _⟩) ?_ (by first | omega | (simp; done) | (simp; omega)) _ | refine SameB.alloc ?_ _ | refine SameB.drew ?_ | refine SameB.drewN ?_ _)))
  have hs1 : w.heap.size + 1 ≤ w1.heap.size := by have := hb1.size; (try simp at this); omega
  have hc1_0 := fun o : Nat => hc1 (w.heap.size) o (by first | omega | (simp; done) | (simp; omega))
  have hf1_0 := fun o : Nat => hf1 (w.heap.size) o (by first | omega | (simp; done) | (simp; omega))
  clear hc1 hf1
  clear hb1
  obtain ⟨gp0, gp1, gp2, gp3⟩ := gp
  have GP := Lib.hid (And.intro gp0 (And.intro gp1 (And.intro gp2 gp3)))
  clear gp0 gp1 gp2 gp3
  have G0 := Lib.hid g0
  have G1 := Lib.hid g1
  have G2 := Lib.hid g2
  have G3 := Lib.hid g3
  clear g0 g1 g2 g3
  have hlt2_0 : w.heap.size < w1.heap.size := by omega
  have hne2_0 : ¬ (w.heap.size = w1.heap.size) := by omega
  have hen2_0 : ¬ (w1.heap.size = w.heap.size) := by omega
  go_wp2_with fail
  refine Calls.mono (HP.out m _ _ _ _ hm G0.out G1.out G2.out G3.out _) ?_
  rintro E w2 ⟨v0, v1, v2, v3, v4, rfl, hv, j0, j1, j2, j3, j4, hb2⟩
  obtain ⟨hc2, hf2⟩ := bcell hb2
  have HW2 : Hid (Below w.heap.size w w2) := Lib.hid (by
    refine Below.trans ?_ (hb2.mono ?_)
    · (repeat (first | with_reducible exact HW1.out | refine Below.setCell (p := ⟨_, _, _⟩) ?_ (by first | omega | (simp; done) | (simp; omega)) _ | refine Below.alloc ?_ (by first | omega | (simp; done) | (simp; omega)) _ | refine Below.drew ?_ | refine below_dn ?_ _))
    · first | omega | (simp; done) | (simp; omega))
  have hS1_2 : Hid (SameB w.heap.size 1 w1 w2) := Lib.hid (by
    refine SameB.below ?_ hb2
    (repeat (first | with_reducible exact SameB.refl _ _ _ | refine SameB.setCell (p := ⟨_, _, _⟩) ?_ (by first | omega | (simp; done) | (simp; omega)) (by first | omega | (simp; done) | (simp; omega)) _ | refine SameB.setNew (p := ⟨_, _, _⟩) ?_ (by first | omega | (simp; done) | (simp; omega)) _ | refine SameB.alloc ?_ _ | refine SameB.drew ?_ | refine SameB.drewN ?_ _)))
  have hS0_2 := Lib.hid (hS0_1.out.trans hS1_2.out)
  have hs2 : w.heap.size + 1 ≤ w2.heap.size := by have := hb2.size; (try simp at this); omega
  have hc2_0 := fun o : Nat => hc2 (w.heap.size) o (by first | omega | (simp; done) | (simp; omega))
  have hf2_0 := fun o : Nat => hf2 (w.heap.size) o (by first | omega | (simp; done) | (simp; omega))
  have hsx2_0 : w1.heap.size + 1 ≤ w2.heap.size := by have := hb2.size; (try simp at this); omega
  have hx2_0 := fun o : Nat => hc2 (w1.heap.size) o (by first | omega | (simp; done) | (simp; omega))
  have hxf2_0 := fun o : Nat => hf2 (w1.heap.size) o (by first | omega | (simp; done) | (simp; omega))
  clear hc2 hf2
  clear hb2
  have HV := Lib.hid hv
  have J0 := Lib.hid j0
  clear hv j0
  go_wp2_with fail
  refine Calls.mono (HD.out _ _ _ _ _ (by have := J0.out; rw [B64_eq]; omega) j1 j2 j3 j4 _) ?_
  rintro E w3 ⟨u0, u1, u2, u3, u4, rfl, l0, l1, l2, l3, l4, hu, hb3⟩
  obtain ⟨hc3, hf3⟩ := bcell hb3
  have HW3 : Hid (Below w.heap.size w w3) := Lib.hid (by
    refine Below.trans ?_ (hb3.mono ?_)
    · (repeat (first | with_reducible exact HW2.out | refine Below.setCell (p := ⟨_, _, _⟩) ?_ (by first | omega | (simp; done) | (simp; omega)) _ | refine Below.alloc ?_ (by first | omega | (simp; done) | (simp; omega)) _ | refine Below.drew ?_ | refine below_dn ?_ _))
    · first | omega | (simp; done) | (simp; omega))
  have hS2_3 : Hid (SameB w.heap.size 1 w2 w3) := Lib.hid (by
    refine SameB.below ?_ hb3
    (repeat (first | with_reducible exact SameB.refl _ _ _ | refine SameB.setCell (p := ⟨_, _, _⟩) ?_ (by first | omega | (simp; done) | (simp; omega)) (by first | omega | (simp; done) | (simp; omega)) _ | refine SameB.setNew (p := ⟨_, _, _⟩) ?_ (by first | omega | (simp; done) | (simp; omega)) _ | refine SameB.alloc ?_ _ | refine SameB.drew ?_ | refine SameB.drewN ?_ _)))
  have hS0_3 := Lib.hid (hS0_2.out.trans hS2_3.out)
  have hS1_3 := Lib.hid (hS1_2.out.trans hS2_3.out)
  have hs3 : w.heap.size + 1 ≤ w3.heap.size := by have := hb3.size; (try simp at this); omega
  have hc3_0 := fun o : Nat => hc3 (w.heap.size) o (by first | omega | (simp; done) | (simp; omega))
  have hf3_0 := fun o : Nat => hf3 (w.heap.size) o (by first | omega | (simp; done) | (simp; omega))
  have hsx3_0 : w1.heap.size + 1 ≤ w3.heap.size := by have := hb3.size; (try simp at this); omega
  have hx3_0 := fun o : Nat => hc3 (w1.heap.size) o (by first | omega | (simp; done) | (simp; omega))
  have hxf3_0 := fun o : Nat => hf3 (w1.heap.size) o (by first | omega | (simp; done) | (simp; omega))
  clear hc3 hf3
  clear hb3
  have HU := Lib.hid hu
  clear hu
  go_wp2_with fail
  refine bodyPost_ret (v := .agg #[.int .u64 (u0 : Nat), .int .u64 (u1 : Nat), .int .u64 (u2 : Nat), .int .u64 (u3 : Nat), .int .u64 (u4 : Nat)]) (by simp [results, Tryd.results18, go_sem, intV, dyV, hc1_0, hf1_0, hc2_0, hf2_0, hc3_0, hf3_0, hlt2_0, hne2_0, hen2_0, hx2_0, hxf2_0, hx3_0, hxf3_0]) rfl ?_
  refine ⟨u0, u1, u2, u3, u4, rfl, l0, l1, l2, l3, l4, ?_, by (repeat (first | with_reducible exact HW3.out | refine Below.setCell (p := ⟨_, _, _⟩) ?_ (by first | omega | (simp; done) | (simp; omega)) _ | refine Below.alloc ?_ (by first | omega | (simp; done) | (simp; omega)) _ | refine Below.drew ?_ | refine below_dn ?_ _))⟩
  have e1 := HU.out
  have e2 := HV.out
  obtain ⟨q0, q1, q2, q3⟩ := GP.out
  have e3 : wv v0 v1 v2 v3 v4 = m * wv 0 x0 x1 x2 x3 := by unfold wv; rw [e2]; simp
  rw [e1, e3, ← q0, ← q1, ← q2, ← q3, Nat.pow_zero, Nat.div_one]

theorem turns_calls (pw : Nat → Nat) (m : Nat) (e : Int) (he1 : -125 ≤ e) (he2 : e ≤ 1000) (hm : m < 9007199254740992) (w : World) (hW : Wrd pw w) :
    Calls Tryd.prog 18 #[.int .u64 (m : Nat), .int .i64 e] w fun E w' => ∃ a b c d f : Nat, E = .returned (.agg #[.int .u64 (a : Nat), .int .u64 (b : Nat), .int .u64 (c : Nat), .int .u64 (d : Nat), .int .u64 (f : Nat)]) ∧ a < B64 ∧ b < B64 ∧ c < B64 ∧ d < B64 ∧ f < B64 ∧
      wv a b c d f = tv pw m e ∧ Below w.heap.size w w' := by
  by_cases h : e ≤ 2
  · refine (turns_low pw m (2 - e).toNat e (by omega) (by omega) hm w hW).mono ?_
    rintro E w' ⟨a, b, c, d, f, h1, h2, h3, h4, h5, h6, h7, h8⟩
    exact ⟨a, b, c, d, f, h1, h2, h3, h4, h5, h6, by unfold tv; rw [if_pos h]; exact h7, h8⟩
  · refine (turns_high pw m (e - 2).toNat e (by omega) (by omega) hm w hW).mono ?_
    rintro E w' ⟨a, b, c, d, f, h1, h2, h3, h4, h5, h6, h7, h8⟩
    exact ⟨a, b, c, d, f, h1, h2, h3, h4, h5, h6, by unfold tv; rw [if_neg h]; exact h7, h8⟩

/-- Ldexp of a word with room for its exponent -/
def ldexpF (x : Nat) (k : Int) : Nat := (x + k * 4503599627370496).toNat

theorem isNaN_calls (x : Nat) (w : World) :
    Calls Tryd.prog 15 #[.float .f64 x] w fun E w' => E = .returned (.bool (!feq x x)) ∧ w = w' := by
  go_enter Tryd.func15, Tryd.ntmps15
  go_wp2_with fail
  go_ret
  exact ⟨rfl, rfl⟩

theorem isInf_calls (x : Nat) (hx : x < 18446744073709551616) (w : World) :
    Calls Tryd.prog 16 #[.float .f64 x, .int .i64 0] w fun E w' => E = .returned (.bool (fgt (fabs x) 9218868437227405311)) ∧ w = w' := by
  have HA := Lib.hid (fun w0 => abs_calls x hx w0)
  clear hx
  go_enter Tryd.func16, Tryd.ntmps16
  go_wp2_with fail
  refine (HA.out _).mono ?_
  rintro E w' ⟨rfl, rfl⟩
  go_wp2_with fail
  go_ret
  exact ⟨rfl, rfl⟩

theorem normalize_calls (x : Nat) (hx : x < 18446744073709551616) (h : flt (fabs x) 4503599627370496 = false) (w : World) :
    Calls Tryd.prog 76 #[.float .f64 x] w fun E w' => E = .returned (.tuple #[.float .f64 x, .int .i64 0]) ∧ w = w' := by
  have HA := Lib.hid (fun w0 => abs_calls x hx w0)
  unfold flt at h
  clear hx
  go_enter Tryd.func76, Tryd.ntmps76
  go_wp2_with fail
  refine (HA.out _).mono ?_
  rintro E w' ⟨rfl, rfl⟩
  go_wp2_with fail
  go_ret2
  exact ⟨rfl, rfl⟩

theorem ldexp0_calls (k : Int) (w : World) :
    Calls Tryd.prog 59 #[.float .f64 0, .int .i64 k] w fun E w' => E = .returned (.float .f64 0) ∧ w = w' := by
  go_enter Tryd.func59, Tryd.ntmps59
  have h : feq 0 0 = true := by decide +kernel
  unfold feq at h
  go_wp2_with fail
  go_ret
  exact ⟨rfl, rfl⟩

theorem and_field (E : Nat) (h : E < 2048) : Go.bits .and .i64 (E : Int) 2047 = (E : Int) := by
  have e1 : BitVec.ofInt 64 (E : Int) = BitVec.ofNat 64 E := by simp
  have e2 : BitVec.ofInt 64 2047 = BitVec.ofNat 64 2047 := by rfl
  have e3 : (BitVec.ofInt 64 (E : Int) &&& BitVec.ofInt 64 2047).toNat = E := by
    rw [e1, e2]
    simp only [BitVec.toNat_and, BitVec.toNat_ofNat]
    rw [Nat.mod_eq_of_lt (by omega), Nat.mod_eq_of_lt (by decide)]
    show E &&& (2 ^ 11 - 1) = E
    rw [Nat.and_two_pow_sub_one_eq_mod]
    omega
  have e4 : Go.bits .and .i64 (E : Int) 2047 = IntKind.i64.wrap ((BitVec.ofInt 64 (E : Int) &&& BitVec.ofInt 64 2047).toNat : Nat) := rfl
  rw [e4, e3]
  unfold IntKind.wrap
  have : (2 : Int) ^ IntKind.i64.bits = 18446744073709551616 := by decide
  have t2 : (2 : Int) ^ (IntKind.i64.bits - 1) = 9223372036854775808 := by decide
  have h2 : IntKind.i64.signed = true := rfl
  rw [this]
  simp only [h2, Bool.true_and]
  split
  · rename_i hh
    simp only [decide_eq_true_eq] at hh
    omega
  · omega

theorem strike_field (x : Nat) (h : x < 9223372036854775808) : Go.bits .andNot .u64 (x : Int) 9218868437227405312 = ((x % 4503599627370496 : Nat) : Int) := by
  have e1 : BitVec.ofInt 64 (x : Int) = BitVec.ofNat 64 x := by simp
  have e2 : BitVec.ofInt 64 9218868437227405312 = BitVec.ofNat 64 9218868437227405312 := by rfl
  have e3 : (BitVec.ofInt 64 (x : Int) &&& ~~~ BitVec.ofInt 64 9218868437227405312).toNat = x % 4503599627370496 := by
    have : ~~~ BitVec.ofNat 64 9218868437227405312 = BitVec.ofNat 64 9227875636482146303 := by decide
    rw [e1, e2, this]
    simp only [BitVec.toNat_and, BitVec.toNat_ofNat]
    rw [Nat.mod_eq_of_lt (by omega), Nat.mod_eq_of_lt (by decide)]
    have e5 : (9227875636482146303 : Nat) = 2 ^ 63 ||| (2 ^ 52 - 1) := by decide
    have e6 : x &&& 2 ^ 63 = 0 := by
      apply Nat.eq_of_testBit_eq
      intro i
      rw [Nat.testBit_and, Nat.testBit_two_pow, Nat.zero_testBit]
      by_cases c : 63 = i
      · subst c
        rw [Nat.testBit_lt_two_pow (by simpa using h)]; rfl
      · simp [c]
    rw [e5, Nat.and_or_distrib_left, Nat.and_two_pow_sub_one_eq_mod, e6, Nat.zero_or]
  have e4 : Go.bits .andNot .u64 (x : Int) 9218868437227405312 = IntKind.u64.wrap ((BitVec.ofInt 64 (x : Int) &&& ~~~ BitVec.ofInt 64 9218868437227405312).toNat : Nat) := rfl
  rw [e4, e3]
  rw [IntKind.wrap_u64]; omega

theorem fmul_one {y : Nat} (h : y < 9218868437227405312) : fmul 4607182418800017408 y = some y := by
  have hy : Fin64 y := ⟨by omega, by unfold rg; omega⟩
  have h1 : Fin64 4607182418800017408 := ⟨by decide, by decide⟩
  obtain ⟨r, e1, e2⟩ := fmul_spec h1 hy
  have hr : r = rg y := near_exact e2 (by
    have : V (rg 4607182418800017408) = 2 ^ KU := by decide +kernel
    rw [this, Nat.mul_comm])
  rw [e1, hr]
  have hrg : rg y = y := by unfold rg; omega
  have hs : (sg 4607182418800017408 ^^ sg y) = false := by
    have a : sg 4607182418800017408 = false := by decide
    have b : sg y = false := by unfold sg; rw [decide_eq_false_iff_not]; omega
    rw [a, b]; rfl
  rw [hs, hrg, Nat.min_eq_left (by omega)]; rfl

set_option maxHeartbeats 4000000 in
set_option maxRecDepth 100000 in
theorem ldexpN_calls (x E M : Nat) (k : Int) (hE1 : 1 ≤ E) (hE2 : E ≤ 2046) (hM : M < 4503599627370496) (hx : x = E * 4503599627370496 + M) (hk1 : 1 ≤ (E : Int) + k) (hk2 : (E : Int) + k ≤ 2046) (w : World) :
    Calls Tryd.prog 59 #[.float .f64 x, .int .i64 k] w fun E' w' => E' = .returned (.float .f64 (ldexpF x k)) ∧ w = w' := by
  have hxr : x < 9218868437227405312 := by omega
  have hfin : Fin64 x := ⟨by omega, by unfold rg; omega⟩
  have hrg : rg x = x := by unfold rg; omega
  have hv : 0 < V x := by have := V_lt (a := 0) (b := x) (by omega); rw [V_zero] at this; exact this
  have q1 : feq x 0 = false := by
    unfold feq
    have := order_spec hfin fin_zero
    rw [show FloatKind.f64.format.order x 0 = Ieee.double.order x 0 from rfl, this, fz_zero, fz_pos_of (by unfold sg; rw [decide_eq_false_iff_not]; omega), hrg, Int.compare_eq_gt.2 (by omega)]
    rfl
  have q2 : fgt (fabs x) 9218868437227405311 = false := by
    unfold fgt
    rw [order_abs hfin (by decide), hrg]
    rcases Nat.lt_or_ge x 9218868437227405311 with c | c
    · rw [Nat.compare_eq_lt.2 (V_lt c)]; rfl
    · have : x = 9218868437227405311 := by omega
      rw [this]; simp
  have q3 : feq x x = true := feq_self hfin
  have q4 : flt (fabs x) 4503599627370496 = false := by
    rw [flt_abs hfin (by decide), hrg, decide_eq_false_iff_not]; omega
  have HI := Lib.hid (fun w0 => isInf_calls x (by omega) w0)
  have HN := Lib.hid (fun w0 => isNaN_calls x w0)
  have HZ := Lib.hid (fun w0 => normalize_calls x (by omega) q4 w0)
  unfold feq at q1
  rw [q2] at HI
  rw [q3] at HN
  have Q3 := Lib.hid q3
  have b1 : (x : Int) / 4503599627370496 = (E : Int) := by omega
  have b2 := and_field E (by omega)
  have b3 : wrap64 ((E : Int) - 1023) = (E : Int) - 1023 := by unfold wrap64; omega
  have b4 : wrap64 (k + ((E : Int) - 1023)) = k + ((E : Int) - 1023) := by unfold wrap64; omega
  obtain ⟨F, hF⟩ : ∃ F : Nat, (E : Int) + k = (F : Nat) := ⟨((E : Int) + k).toNat, by omega⟩
  have b5 : k + ((E : Int) - 1023) + 1023 = (F : Int) := by omega
  have b6 : ¬ (k + ((E : Int) - 1023) < -1075) := by omega
  have b7 : ¬ (k + ((E : Int) - 1023) > 1023) := by omega
  have b8 : ¬ (k + ((E : Int) - 1023) < -1022) := by omega
  have b9 := strike_field x (by omega)
  have b10 : x % 4503599627370496 = M := by omega
  rw [b10] at b9
  have b11 : IntKind.u64.wrap ((F : Int) * 4503599627370496) = ((F * 4503599627370496 : Nat) : Int) := by rw [IntKind.wrap_u64]; omega
  have b12 := or_u64 M (F * 4503599627370496) 52 hM (by rw [B64_eq]; omega) (by rw [B64_eq]; omega) ⟨F, by omega⟩
  have b13 : (k + ((E : Int) - 1023)) = (F : Int) - 1023 := by omega
  have b12' : Go.bits .or .u64 (M : Int) ((F : Int) * 4503599627370496) = ((M + F * 4503599627370496 : Nat) : Int) := b12
  have b14 := fmul_one (y := M + F * 4503599627370496) (by omega)
  have b15 := hop (P := Tryd.prog) b14
  have b16 : ldexpF x k = M + F * 4503599627370496 := by unfold ldexpF; omega
  rw [b16]
  have HF := Lib.hid hF
  clear q2 q3 q4 hx hF b5 b10 b14 b16 hv b12
  generalize M + F * 4503599627370496 = Y at *
  go_enter Tryd.func59, Tryd.ntmps59
  go_wp2_with fail
  refine (HI.out _).mono ?_
  rintro E w' ⟨rfl, rfl⟩
  go_wp2_with fail
  refine (HN.out _).mono ?_
  rintro E w' ⟨rfl, rfl⟩
  go_wp2_with fail
  refine (HZ.out _).mono ?_
  rintro E w' ⟨rfl, rfl⟩
  go_wp2_with fail
  go_ret
  exact ⟨rfl, rfl⟩

theorem ldexp_calls (x : Nat) (k : Int) (hx : x = 0 ∨ (4503599627370496 ≤ x ∧ x < 9218868437227405312 ∧ 4503599627370496 ≤ (x : Int) + k * 4503599627370496 ∧ (x : Int) + k * 4503599627370496 < 9218868437227405312)) (w : World) :
    Calls Tryd.prog 37 #[.float .f64 x, .int .i64 k] w fun E w' => E = .returned (.float .f64 (if x = 0 then 0 else ldexpF x k)) ∧ w = w' := by
  have H : ∀ w0, Calls Tryd.prog 59 #[.float .f64 x, .int .i64 k] w0 fun E w' => E = .returned (.float .f64 (if x = 0 then 0 else ldexpF x k)) ∧ w0 = w' := by
    intro w0
    rcases hx with h | ⟨h1, h2, h3, h4⟩
    · subst h
      exact ldexp0_calls k w0
    · rw [if_neg (by omega)]
      exact ldexpN_calls x (x / 4503599627370496) (x % 4503599627370496) k (by omega) (by omega) (by omega) (by omega) (by omega) (by omega) w0
  have H := Lib.hid H
  clear hx
  generalize (if x = 0 then 0 else ldexpF x k) = r at *
  go_enter Tryd.func37, Tryd.ntmps37
  go_wp2_with fail
  refine (H.out _).mono ?_
  rintro E w' ⟨rfl, rfl⟩
  go_wp2_with fail
  go_ret
  exact ⟨rfl, rfl⟩

end Go.Proofs.YtgihapdlliidgaaDoor
