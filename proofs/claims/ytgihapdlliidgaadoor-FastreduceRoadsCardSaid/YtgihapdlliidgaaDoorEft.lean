/- The walks of package eft: each function gives the words that Fl's functions name. -/
import Derived.Test.YtgihapdlliidgaaDoorProg
import Derived.Test.YtgihapdlliidgaaDoorFl
import Derived.WalkKit
import Derived.WalkLawsBesides
import Derived.KernelRfl
import Derived.Lib.Hide
namespace Go.Proofs.YtgihapdlliidgaaDoor
open Go Go.RowKit

theorem hop {P : Program} {op : BinOp} {x y r : Nat} (h : floatBits op .f64 x y = some r) : ∀ t w, (binOp op t (.float .f64 x) (.float .f64 y)).run P w = .ok (.float .f64 r) w := fun t w => run_float_arith w op t .f64 x y r h

set_option maxHeartbeats 400000 in
theorem twoSum_calls (a b s e : Nat) (w : World) (h : twoSum a b = some (s, e)) :
    Calls Tryd.prog 44 #[.float .f64 a, .float .f64 b] w fun E w' => E = .returned (.tuple #[.float .f64 s, .float .f64 e]) ∧ w = w' := by
  simp only [twoSum, Option.bind_eq_some_iff, Option.some.injEq, Prod.mk.injEq] at h
  obtain ⟨s', h1, bb, h2, aa, h3, x, h4, y, h5, e', h6, rfl, rfl⟩ := h
  have g1 := hop (P := Tryd.prog) h1
  have g2 := hop (P := Tryd.prog) h2
  have g3 := hop (P := Tryd.prog) h3
  have g4 := hop (P := Tryd.prog) h4
  have g5 := hop (P := Tryd.prog) h5
  have g6 := hop (P := Tryd.prog) h6
  clear h1 h2 h3 h4 h5 h6
  go_enter Tryd.func44, Tryd.ntmps44
  go_wp2
  go_ret2
  exact ⟨rfl, rfl⟩


set_option maxHeartbeats 400000 in
theorem fastTwoSum_calls (a b s e : Nat) (w : World) (h : fastTwoSum a b = some (s, e)) :
    Calls Tryd.prog 61 #[.float .f64 a, .float .f64 b] w fun E w' => E = .returned (.tuple #[.float .f64 s, .float .f64 e]) ∧ w = w' := by
  simp only [fastTwoSum, Option.bind_eq_some_iff, Option.some.injEq, Prod.mk.injEq] at h
  obtain ⟨s', h1, x, h2, e', h3, rfl, rfl⟩ := h
  have g1 := hop (P := Tryd.prog) h1
  have g2 := hop (P := Tryd.prog) h2
  have g3 := hop (P := Tryd.prog) h3
  clear h1 h2 h3
  go_enter Tryd.func61, Tryd.ntmps61
  go_wp2
  go_ret2
  exact ⟨rfl, rfl⟩

set_option maxHeartbeats 400000 in
theorem splitF_calls (a s e : Nat) (w : World) (h : splitF a = some (s, e)) :
    Calls Tryd.prog 60 #[.float .f64 a] w fun E w' => E = .returned (.tuple #[.float .f64 s, .float .f64 e]) ∧ w = w' := by
  simp only [splitF, Option.bind_eq_some_iff, Option.some.injEq, Prod.mk.injEq] at h
  obtain ⟨c, h1, d, h2, s', h3, e', h4, rfl, rfl⟩ := h
  have g1 := hop (P := Tryd.prog) h1
  have g2 := hop (P := Tryd.prog) h2
  have g3 := hop (P := Tryd.prog) h3
  have g4 := hop (P := Tryd.prog) h4
  clear h1 h2 h3 h4
  go_enter Tryd.func60, Tryd.ntmps60
  go_wp2
  go_ret2
  exact ⟨rfl, rfl⟩

set_option maxHeartbeats 800000 in
theorem twoProd_calls (a b s e : Nat) (w : World) (h : twoProd a b = some (s, e)) :
    Calls Tryd.prog 38 #[.float .f64 a, .float .f64 b] w fun E w' => E = .returned (.tuple #[.float .f64 s, .float .f64 e]) ∧ w = w' := by
  simp only [twoProd, Option.bind_eq_some_iff, Option.some.injEq, Prod.mk.injEq] at h
  obtain ⟨p, h1, A, hA, B, hB, x1, h2, e1, h3, x2, h4, e2, h5, x3, h6, e3, h7, x4, h8, e4, h9, rfl, rfl⟩ := h
  obtain ⟨A1, A2⟩ := A
  obtain ⟨B1, B2⟩ := B
  have g1 := hop (P := Tryd.prog) h1
  have g2 := hop (P := Tryd.prog) h2
  have g3 := hop (P := Tryd.prog) h3
  have g4 := hop (P := Tryd.prog) h4
  have g5 := hop (P := Tryd.prog) h5
  have g6 := hop (P := Tryd.prog) h6
  have g7 := hop (P := Tryd.prog) h7
  have g8 := hop (P := Tryd.prog) h8
  have g9 := hop (P := Tryd.prog) h9
  have HA := Lib.hid hA
  have HB := Lib.hid hB
  clear h1 h2 h3 h4 h5 h6 h7 h8 h9 hA hB
  go_enter Tryd.func38, Tryd.ntmps38
  go_wp2_with fail
  refine (splitF_calls _ _ _ _ HA.out).mono ?_
  rintro E w' ⟨rfl, rfl⟩
  go_wp2_with fail
  refine (splitF_calls _ _ _ _ HB.out).mono ?_
  rintro E w' ⟨rfl, rfl⟩
  go_wp2_with fail
  go_ret2
  exact ⟨rfl, rfl⟩

end Go.Proofs.YtgihapdlliidgaaDoor
