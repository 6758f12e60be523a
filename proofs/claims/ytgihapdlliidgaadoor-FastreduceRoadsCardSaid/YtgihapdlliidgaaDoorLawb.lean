/- The walk of beside. -/
import Derived.Test.YtgihapdlliidgaaDoorVal
import Derived.Test.YtgihapdlliidgaaDoorDy4
namespace Go.Proofs.YtgihapdlliidgaaDoor
open Go Go.RowKit
set_option linter.unusedVariables false
set_option linter.unusedSimpArgs false

theorem isSome_setCell (w : World) (p a : Addr) (u : Value) : ((w.setCell p u).cell? a).isSome = (w.cell? a).isSome := by
  by_cases e : p = a
  · subst e
    unfold World.cell? World.setCell
    simp only [Array.getElem?_modify, if_true]
    cases hc : w.heap[p.block]? with
    | none => rfl
    | some o =>
      cases o with
      | cells c t f =>
        simp only [Option.map_some]
        split
        · rfl
        · rw [Bool.eq_iff_iff]
          simp
      | _ => rfl
  · rw [World.cell?_setCell_other w p a u e]
attribute [go_sem] isSome_setCell

theorem IsDy.put_lt {w : World} {neg : Bool} {v : Value} {e m : Int} {B : Nat} {p : Addr} (h : IsDy w neg v e m) (hb : Bd B v) (hp : B ≤ p.block) (u : Value) : IsDy (w.setCell p u) neg v e m :=
  h.same_lt (N := B) (n := p.block + 1 - B) hb (SameB.setCell (SameB.refl _ _ _) hp (by omega) u)
theorem IsDy.put_ge {w : World} {neg : Bool} {v : Value} {e m : Int} {M : Nat} {p : Addr} (h : IsDy w neg v e m) (hg : Ge M v) (hp : p.block < M) (u : Value) : IsDy (w.setCell p u) neg v e m :=
  h.same_ge (N := p.block) (n := 1) hg (by omega) (SameB.setCell (SameB.refl _ _ _) (Nat.le_refl _) (by omega) u)
theorem IsDy.alloc {w : World} {neg : Bool} {v : Value} {e m : Int} (h : IsDy w neg v e m) (o : Obj) : IsDy (w.alloc o) neg v e m :=
  h.same_lt (N := w.heap.size) (n := 0) h.bd (SameB.alloc (SameB.refl _ _ _) o)
theorem IsDy.abs {w : World} {neg : Bool} {v : Value} {e m : Int} (h : IsDy w neg v e m) : IsDy w false v e (m.natAbs : Int) := by
  obtain ⟨⟨a, b, c⟩, d1, d2, d3⟩ := h
  exact ⟨⟨by simpa using a, by symm; rw [decide_eq_false_iff_not]; omega, c⟩, d1, d2, by omega⟩

/-- the difference of two double-doubles, times 2^78 -/
def bM (a b : Nat × Nat) : Int := dyM (dyZ (ddM a) (ddE a) (-ddM b) (ddE b))
def bE (a b : Nat × Nat) : Int := dyE (dyZ (ddM a) (ddE a) (-ddM b) (ddE b)) (min (ddE a) (ddE b))
def bS (a b : Nat × Nat) : Int := if bM a b = 0 then 0 else bE a b + 78
def besideB (a b : Nat × Nat) : Bool := decide (dyCmp ((bM a b).natAbs : Int) (bS a b) ((ddM a).natAbs : Int) (ddE a) ≤ 0)

/-- a double-double in form, of finite words -/
def DDok (a : Nat × Nat) : Prop := a.1 < 18446744073709551616 ∧ a.2 < 18446744073709551616 ∧ pSz a.1 < PINF ∧ pSz a.2 < PINF ∧ ddForm a = some true

theorem b_sm {a b : Nat × Nat} (ha : DDok a) (hb : DDok b) : Sm 77342 (bM a b) (bE a b) :=
  dyM_sm (k := 38671) (dyZ_sm (k := 12890) (dd_sm ha.2.2.1 ha.2.2.2.1) (dd_sm hb.2.2.1 hb.2.2.2.1).neg)

theorem Sm.abs {k : Nat} {m e : Int} (h : Sm k m e) : Sm k (m.natAbs : Int) e := ⟨by simpa using h.1, h.2.1, h.2.2⟩

theorem sh_ok {k : Nat} {m e m' e' : Int} (h : Sm k m e) (h' : Sm k m' e') (hk : 3 * k ≤ 524288) : m.natAbs * 2 ^ (e - min e e').toNat < LIM :=
  Nat.lt_of_lt_of_le (sm_shift h (by have := h.2.1; have := h'.2.1; omega) (by omega)) (pow_lt_LIM hk)
theorem sh_ok' {k : Nat} {m e m' e' : Int} (h : Sm k m e) (h' : Sm k m' e') (hk : 3 * k ≤ 524288) : m'.natAbs * 2 ^ (e' - min e e').toNat < LIM :=
  Nat.lt_of_lt_of_le (sm_shift h' (by have := h.2.1; have := h'.2.1; omega) (by omega)) (pow_lt_LIM hk)

set_option maxRecDepth 100000 in
set_option maxHeartbeats 6400000 in
theorem beside_calls (a b : Nat × Nat) (ha : DDok a) (hb : DDok b) (w : World) (hT : Tab w) :
    Calls Tryd.prog 11 #[ddV a, ddV b] w fun E w' => E = .returned (.bool (besideB a b)) ∧ Below w.heap.size w w' := by
  have HVa : Hid (∀ w0, Tab w0 → Calls Tryd.prog 26 #[ddV a] w0 (DRes w0 (ddM a) (ddE a))) := Lib.hid fun w0 h => ddValue_calls a ha.1 ha.2.1 ha.2.2.1 ha.2.2.2.1 w0 ha.2.2.2.2 h
  have HVb : Hid (∀ w0, Tab w0 → Calls Tryd.prog 26 #[ddV b] w0 (DRes w0 (ddM b) (ddE b))) := Lib.hid fun w0 h => ddValue_calls b hb.1 hb.2.1 hb.2.2.1 hb.2.2.2.1 w0 hb.2.2.2.2 h
  have hsa := dd_sm ha.2.2.1 ha.2.2.2.1
  have hsb := dd_sm hb.2.2.1 hb.2.2.2.1
  have hsd := b_sm ha hb
  have hA : Hid (AddOk (ddM a) (ddE a) (-ddM b) (ddE b)) := Lib.hid (addOk_sm hsa hsb.neg (by decide))
  have hS : Hid (bM a b ≠ 0 → -2097152 ≤ (78 : Int) ∧ (78 : Int) ≤ 2097152 ∧ bE a b + 78 ≤ 1048576 ∧ -1048576 ≤ bE a b + 78) := Lib.hid (by
    intro _
    have := hsd.2
    exact ⟨by decide, by decide, by omega, by omega⟩)
  have hss : Sm 77420 (bM a b) (bS a b) := by
    refine ⟨(hsd.mono (l := 77420) (by decide)).1, ?_, ?_⟩ <;> (unfold bS; have := hsd.2; split <;> omega)
  have O1 := Lib.hid (sh_ok hss.abs (hsa.mono (l := 77420) (by decide)).abs (by decide))
  have O2 := Lib.hid (sh_ok' hss.abs (hsa.mono (l := 77420) (by decide)).abs (by decide))
  have hSub : Hid (∀ w0 na nb va vb, IsDy w0 na va (ddE a) (ddM a) → IsDy w0 nb vb (ddE b) (ddM b) → Tab w0 → Calls Tryd.prog 27 #[dyV na va (ddE a), dyV nb vb (ddE b)] w0 (DRes w0 (bM a b) (bE a b))) :=
    Lib.hid fun w0 na nb va vb h1 h2 h3 => dySub_calls h1 h2 h3 hA.out
  have hSc : Hid (∀ w0 na va, IsDy w0 na va (bE a b) (bM a b) → Calls Tryd.prog 28 #[dyV na va (bE a b), .int .i64 78] w0 (DRes w0 (bM a b) (bS a b))) :=
    Lib.hid fun w0 na va h1 => dyScale_calls 78 h1 hS.out
  have hCmp : Hid (∀ w0 va vb, IsDy w0 false va (bS a b) ((bM a b).natAbs : Int) → IsDy w0 false vb (ddE a) ((ddM a).natAbs : Int) → Calls Tryd.prog 29 #[dyV false va (bS a b), dyV false vb (ddE a)] w0 fun E w' => E = .returned (.tuple #[.int .i64 (dyCmp ((bM a b).natAbs : Int) (bS a b) ((ddM a).natAbs : Int) (ddE a)), .int .i64 0]) ∧ Below w0.heap.size w0 w') :=
    Lib.hid fun w0 va vb h1 h2 => dyCmp_calls h1 h2 O1.out O2.out
  have HT := Lib.hid hT
  unfold besideB
  generalize dyCmp ((bM a b).natAbs : Int) (bS a b) ((ddM a).natAbs : Int) (ddE a) = cc at *
  clear O1 O2
  clear ha hb hT hsa hsb hsd hA hS hss
  obtain ⟨a1, a2⟩ := a
  obtain ⟨b1, b2⟩ := b
  unfold ddV at *
  generalize bM (a1, a2) (b1, b2) = m3 at *
  generalize bE (a1, a2) (b1, b2) = e3 at *
  generalize bS (a1, a2) (b1, b2) = e4 at *
  generalize ddM (a1, a2) = m1 at *
  generalize ddE (a1, a2) = e1 at *
  generalize ddM (b1, b2) = m2 at *
  generalize ddE (b1, b2) = e2 at *
  simp only at *
  have HW0 : Hid (Below w.heap.size w w) := Lib.hid (Below.refl _ _)
  go_enter Tryd.func11, Tryd.ntmps11
  go_wp2_with fail
  refine Calls.mono (HVa.out _ (HT.out.below (by (repeat (first | with_reducible exact HW0.out | refine Below.setCell (p := ⟨_, _, _⟩) ?_ (by first | omega | (simp; done) | (simp; omega)) _ | refine Below.alloc ?_ (by first | omega | (simp; done) | (simp; omega)) _ | refine Below.drew ?_ | refine below_dn ?_ _))))) ?_
  rintro E w1 ⟨n1, v1, rfl, hv1, hg1, hb1⟩
  obtain ⟨hc1, hf1⟩ := bcell hb1
  have HW1 : Hid (Below w.heap.size w w1) := Lib.hid (by
    refine Below.trans ?_ (hb1.mono ?_)
    · (repeat (first | with_reducible exact HW0.out | refine Below.setCell (p := ⟨_, _, _⟩) ?_ (by first | omega | (simp; done) | (simp; omega)) _ | refine Below.alloc ?_ (by first | omega | (simp; done) | (simp; omega)) _ | refine Below.drew ?_ | refine below_dn ?_ _))
    · first | omega | (simp; done) | (simp; omega))
  have hS0_1 : Hid (SameB w.heap.size 2 w w1) := Lib.hid (by
    refine SameB.below ?_ hb1
    (repeat (first | with_reducible exact SameB.refl _ _ _ | refine SameB.setCell (p := ⟨_, _, _⟩) ?_ (by first | omega | (simp; done) | (simp; omega)) (by first | omega | (simp; done) | (simp; omega)) _ | refine SameB.setNew (p := ⟨_, _, _⟩) ?_ (by first | omega | (simp; done) | (simp; omega)) _ | refine SameB.alloc ?_ _ | refine SameB.drew ?_ | refine SameB.drewN ?_ _)))
  have hs1 : w.heap.size + 1 + 1 ≤ w1.heap.size := by have := hb1.size; (try simp at this); omega
  have hc1_0 := fun o : Nat => hc1 (w.heap.size) o (by first | omega | (simp; done) | (simp; omega))
  have hf1_0 := fun o : Nat => hf1 (w.heap.size) o (by first | omega | (simp; done) | (simp; omega))
  have hc1_1 := fun o : Nat => hc1 (w.heap.size + 1) o (by first | omega | (simp; done) | (simp; omega))
  have hf1_1 := fun o : Nat => hf1 (w.heap.size + 1) o (by first | omega | (simp; done) | (simp; omega))
  clear hc1 hf1
  clear hb1
  have HB1 := Lib.hid hv1.bd
  obtain ⟨A1, k1, c1, rfl, _, _, _⟩ := hv1.nat.form
  have HV1 := Lib.hid hv1
  have HG1 : Hid (Ge (w.heap.size + 1 + 1) _) := Lib.hid (hg1.mono (by first | omega | (simp; done) | (simp; omega)))
  clear hv1 hg1
  unfold dyV
  have hlt2_0 : w.heap.size < w1.heap.size := by omega
  have hne2_0 : ¬ (w.heap.size = w1.heap.size) := by omega
  have hen2_0 : ¬ (w1.heap.size = w.heap.size) := by omega
  have hlt2_1 : w.heap.size + 1 < w1.heap.size := by omega
  have hne2_1 : ¬ (w.heap.size + 1 = w1.heap.size) := by omega
  have hen2_1 : ¬ (w1.heap.size = w.heap.size + 1) := by omega
  go_wp2_with fail
  refine Calls.mono (HVb.out _ (HT.out.below (by (repeat (first | with_reducible exact HW1.out | refine Below.setCell (p := ⟨_, _, _⟩) ?_ (by first | omega | (simp; done) | (simp; omega)) _ | refine Below.alloc ?_ (by first | omega | (simp; done) | (simp; omega)) _ | refine Below.drew ?_ | refine below_dn ?_ _))))) ?_
  rintro E w2 ⟨n2, v2, rfl, hv2, hg2, hb2⟩
  obtain ⟨hc2, hf2⟩ := bcell hb2
  have HW2 : Hid (Below w.heap.size w w2) := Lib.hid (by
    refine Below.trans ?_ (hb2.mono ?_)
    · (repeat (first | with_reducible exact HW1.out | refine Below.setCell (p := ⟨_, _, _⟩) ?_ (by first | omega | (simp; done) | (simp; omega)) _ | refine Below.alloc ?_ (by first | omega | (simp; done) | (simp; omega)) _ | refine Below.drew ?_ | refine below_dn ?_ _))
    · first | omega | (simp; done) | (simp; omega))
  have hS1_2 : Hid (SameB w.heap.size 2 w1 w2) := Lib.hid (by
    refine SameB.below ?_ hb2
    (repeat (first | with_reducible exact SameB.refl _ _ _ | refine SameB.setCell (p := ⟨_, _, _⟩) ?_ (by first | omega | (simp; done) | (simp; omega)) (by first | omega | (simp; done) | (simp; omega)) _ | refine SameB.setNew (p := ⟨_, _, _⟩) ?_ (by first | omega | (simp; done) | (simp; omega)) _ | refine SameB.alloc ?_ _ | refine SameB.drew ?_ | refine SameB.drewN ?_ _)))
  have hS0_2 := Lib.hid (hS0_1.out.trans hS1_2.out)
  have hs2 : w.heap.size + 1 + 1 ≤ w2.heap.size := by have := hb2.size; (try simp at this); omega
  have hc2_0 := fun o : Nat => hc2 (w.heap.size) o (by first | omega | (simp; done) | (simp; omega))
  have hf2_0 := fun o : Nat => hf2 (w.heap.size) o (by first | omega | (simp; done) | (simp; omega))
  have hc2_1 := fun o : Nat => hc2 (w.heap.size + 1) o (by first | omega | (simp; done) | (simp; omega))
  have hf2_1 := fun o : Nat => hf2 (w.heap.size + 1) o (by first | omega | (simp; done) | (simp; omega))
  have hsx2_0 : w1.heap.size + 1 ≤ w2.heap.size := by have := hb2.size; (try simp at this); omega
  have hx2_0 := fun o : Nat => hc2 (w1.heap.size) o (by first | omega | (simp; done) | (simp; omega))
  have hxf2_0 := fun o : Nat => hf2 (w1.heap.size) o (by first | omega | (simp; done) | (simp; omega))
  clear hc2 hf2
  clear hb2
  obtain ⟨A2, k2, c2, rfl, _, _, _⟩ := hv2.nat.form
  have HV2 := Lib.hid hv2
  have HG2 : Hid (Ge (w.heap.size + 1 + 1) _) := Lib.hid (hg2.mono (by first | omega | (simp; done) | (simp; omega)))
  clear hv2 hg2
  unfold dyV
  have hlt3_0 : w.heap.size < w2.heap.size := by omega
  have hne3_0 : ¬ (w.heap.size = w2.heap.size) := by omega
  have hen3_0 : ¬ (w2.heap.size = w.heap.size) := by omega
  have hlt3_1 : w.heap.size + 1 < w2.heap.size := by omega
  have hne3_1 : ¬ (w.heap.size + 1 = w2.heap.size) := by omega
  have hen3_1 : ¬ (w2.heap.size = w.heap.size + 1) := by omega
  have hlt3_2 : w1.heap.size < w2.heap.size := by omega
  have hne3_2 : ¬ (w1.heap.size = w2.heap.size) := by omega
  have hen3_2 : ¬ (w2.heap.size = w1.heap.size) := by omega
  go_wp2_with fail
  refine Calls.mono (hSub.out _ _ _ _ _ (HV1.out.same_ge (N := w.heap.size) (n := 2) HG1.out (by omega) (by (refine SameB.trans hS1_2.out ?_; (repeat (first | with_reducible exact SameB.refl _ _ _ | refine SameB.setCell (p := ⟨_, _, _⟩) ?_ (by first | omega | (simp; done) | (simp; omega)) (by first | omega | (simp; done) | (simp; omega)) _ | refine SameB.setNew (p := ⟨_, _, _⟩) ?_ (by first | omega | (simp; done) | (simp; omega)) _ | refine SameB.alloc ?_ _ | refine SameB.drew ?_ | refine SameB.drewN ?_ _))))) (HV2.out.same_ge (N := w.heap.size) (n := 2) HG2.out (by omega) (by (repeat (first | with_reducible exact SameB.refl _ _ _ | refine SameB.setCell (p := ⟨_, _, _⟩) ?_ (by first | omega | (simp; done) | (simp; omega)) (by first | omega | (simp; done) | (simp; omega)) _ | refine SameB.setNew (p := ⟨_, _, _⟩) ?_ (by first | omega | (simp; done) | (simp; omega)) _ | refine SameB.alloc ?_ _ | refine SameB.drew ?_ | refine SameB.drewN ?_ _)))) (HT.out.below (by (repeat (first | with_reducible exact HW2.out | refine Below.setCell (p := ⟨_, _, _⟩) ?_ (by first | omega | (simp; done) | (simp; omega)) _ | refine Below.alloc ?_ (by first | omega | (simp; done) | (simp; omega)) _ | refine Below.drew ?_ | refine below_dn ?_ _))))) ?_
  rintro E w3 ⟨n3, v3, rfl, hv3, hg3, hb3⟩
  obtain ⟨hc3, hf3⟩ := bcell hb3
  have HW3 : Hid (Below w.heap.size w w3) := Lib.hid (by
    refine Below.trans ?_ (hb3.mono ?_)
    · (repeat (first | with_reducible exact HW2.out | refine Below.setCell (p := ⟨_, _, _⟩) ?_ (by first | omega | (simp; done) | (simp; omega)) _ | refine Below.alloc ?_ (by first | omega | (simp; done) | (simp; omega)) _ | refine Below.drew ?_ | refine below_dn ?_ _))
    · first | omega | (simp; done) | (simp; omega))
  have hS2_3 : Hid (SameB w.heap.size 2 w2 w3) := Lib.hid (by
    refine SameB.below ?_ hb3
    (repeat (first | with_reducible exact SameB.refl _ _ _ | refine SameB.setCell (p := ⟨_, _, _⟩) ?_ (by first | omega | (simp; done) | (simp; omega)) (by first | omega | (simp; done) | (simp; omega)) _ | refine SameB.setNew (p := ⟨_, _, _⟩) ?_ (by first | omega | (simp; done) | (simp; omega)) _ | refine SameB.alloc ?_ _ | refine SameB.drew ?_ | refine SameB.drewN ?_ _)))
  have hS0_3 := Lib.hid (hS0_2.out.trans hS2_3.out)
  have hS1_3 := Lib.hid (hS1_2.out.trans hS2_3.out)
  have hs3 : w.heap.size + 1 + 1 ≤ w3.heap.size := by have := hb3.size; (try simp at this); omega
  have hc3_0 := fun o : Nat => hc3 (w.heap.size) o (by first | omega | (simp; done) | (simp; omega))
  have hf3_0 := fun o : Nat => hf3 (w.heap.size) o (by first | omega | (simp; done) | (simp; omega))
  have hc3_1 := fun o : Nat => hc3 (w.heap.size + 1) o (by first | omega | (simp; done) | (simp; omega))
  have hf3_1 := fun o : Nat => hf3 (w.heap.size + 1) o (by first | omega | (simp; done) | (simp; omega))
  have hsx3_0 : w2.heap.size + 1 ≤ w3.heap.size := by have := hb3.size; (try simp at this); omega
  have hx3_0 := fun o : Nat => hc3 (w2.heap.size) o (by first | omega | (simp; done) | (simp; omega))
  have hxf3_0 := fun o : Nat => hf3 (w2.heap.size) o (by first | omega | (simp; done) | (simp; omega))
  have hsx3_1 : w1.heap.size + 1 ≤ w3.heap.size := by have := hb3.size; (try simp at this); omega
  have hx3_1 := fun o : Nat => hc3 (w1.heap.size) o (by first | omega | (simp; done) | (simp; omega))
  have hxf3_1 := fun o : Nat => hf3 (w1.heap.size) o (by first | omega | (simp; done) | (simp; omega))
  clear hc3 hf3
  clear hb3
  obtain ⟨A3, k3, c3, rfl, _, _, _⟩ := hv3.nat.form
  have HV3 := Lib.hid hv3
  have HG3 : Hid (Ge (w.heap.size + 1 + 1) _) := Lib.hid (hg3.mono (by first | omega | (simp; done) | (simp; omega)))
  clear hv3 hg3
  unfold dyV
  have hlt4_0 : w.heap.size < w3.heap.size := by omega
  have hne4_0 : ¬ (w.heap.size = w3.heap.size) := by omega
  have hen4_0 : ¬ (w3.heap.size = w.heap.size) := by omega
  have hlt4_1 : w.heap.size + 1 < w3.heap.size := by omega
  have hne4_1 : ¬ (w.heap.size + 1 = w3.heap.size) := by omega
  have hen4_1 : ¬ (w3.heap.size = w.heap.size + 1) := by omega
  have hlt4_2 : w1.heap.size < w3.heap.size := by omega
  have hne4_2 : ¬ (w1.heap.size = w3.heap.size) := by omega
  have hen4_2 : ¬ (w3.heap.size = w1.heap.size) := by omega
  go_wp2_with fail
  refine Calls.mono (hSc.out _ _ _ (HV3.out.same_ge (N := w.heap.size) (n := 2) HG3.out (by omega) (by (repeat (first | with_reducible exact SameB.refl _ _ _ | refine SameB.setCell (p := ⟨_, _, _⟩) ?_ (by first | omega | (simp; done) | (simp; omega)) (by first | omega | (simp; done) | (simp; omega)) _ | refine SameB.setNew (p := ⟨_, _, _⟩) ?_ (by first | omega | (simp; done) | (simp; omega)) _ | refine SameB.alloc ?_ _ | refine SameB.drew ?_ | refine SameB.drewN ?_ _))))) ?_
  rintro E w4 ⟨n4, v4, rfl, hv4, hg4, hb4⟩
  obtain ⟨hc4, hf4⟩ := bcell hb4
  have HW4 : Hid (Below w.heap.size w w4) := Lib.hid (by
    refine Below.trans ?_ (hb4.mono ?_)
    · (repeat (first | with_reducible exact HW3.out | refine Below.setCell (p := ⟨_, _, _⟩) ?_ (by first | omega | (simp; done) | (simp; omega)) _ | refine Below.alloc ?_ (by first | omega | (simp; done) | (simp; omega)) _ | refine Below.drew ?_ | refine below_dn ?_ _))
    · first | omega | (simp; done) | (simp; omega))
  have hS3_4 : Hid (SameB w.heap.size 2 w3 w4) := Lib.hid (by
    refine SameB.below ?_ hb4
    (repeat (first | with_reducible exact SameB.refl _ _ _ | refine SameB.setCell (p := ⟨_, _, _⟩) ?_ (by first | omega | (simp; done) | (simp; omega)) (by first | omega | (simp; done) | (simp; omega)) _ | refine SameB.setNew (p := ⟨_, _, _⟩) ?_ (by first | omega | (simp; done) | (simp; omega)) _ | refine SameB.alloc ?_ _ | refine SameB.drew ?_ | refine SameB.drewN ?_ _)))
  have hS0_4 := Lib.hid (hS0_3.out.trans hS3_4.out)
  have hS1_4 := Lib.hid (hS1_3.out.trans hS3_4.out)
  have hS2_4 := Lib.hid (hS2_3.out.trans hS3_4.out)
  have hs4 : w.heap.size + 1 + 1 ≤ w4.heap.size := by have := hb4.size; (try simp at this); omega
  have hc4_0 := fun o : Nat => hc4 (w.heap.size) o (by first | omega | (simp; done) | (simp; omega))
  have hf4_0 := fun o : Nat => hf4 (w.heap.size) o (by first | omega | (simp; done) | (simp; omega))
  have hc4_1 := fun o : Nat => hc4 (w.heap.size + 1) o (by first | omega | (simp; done) | (simp; omega))
  have hf4_1 := fun o : Nat => hf4 (w.heap.size + 1) o (by first | omega | (simp; done) | (simp; omega))
  have hsx4_0 : w3.heap.size + 1 ≤ w4.heap.size := by have := hb4.size; (try simp at this); omega
  have hx4_0 := fun o : Nat => hc4 (w3.heap.size) o (by first | omega | (simp; done) | (simp; omega))
  have hxf4_0 := fun o : Nat => hf4 (w3.heap.size) o (by first | omega | (simp; done) | (simp; omega))
  have hsx4_1 : w1.heap.size + 1 ≤ w4.heap.size := by have := hb4.size; (try simp at this); omega
  have hx4_1 := fun o : Nat => hc4 (w1.heap.size) o (by first | omega | (simp; done) | (simp; omega))
  have hxf4_1 := fun o : Nat => hf4 (w1.heap.size) o (by first | omega | (simp; done) | (simp; omega))
  clear hc4 hf4
  clear hb4
  have HB4 := Lib.hid hv4.bd
  have HG4' := Lib.hid hg4
  have HA4 : Hid (IsDy w4 n1 (.slice A1 k1 c1) e1 m1) := Lib.hid (HV1.out.same_ge (N := w.heap.size) (n := 2) HG1.out (by omega) (by (refine SameB.trans hS1_4.out ?_; (repeat (first | with_reducible exact SameB.refl _ _ _ | refine SameB.setCell (p := ⟨_, _, _⟩) ?_ (by first | omega | (simp; done) | (simp; omega)) (by first | omega | (simp; done) | (simp; omega)) _ | refine SameB.setNew (p := ⟨_, _, _⟩) ?_ (by first | omega | (simp; done) | (simp; omega)) _ | refine SameB.alloc ?_ _ | refine SameB.drew ?_ | refine SameB.drewN ?_ _)))))
  obtain ⟨A4, k4, c4, rfl, _, _, _⟩ := hv4.nat.form
  have HV4 := Lib.hid hv4
  have HG4 : Hid (Ge (w.heap.size + 1 + 1) _) := Lib.hid (hg4.mono (by first | omega | (simp; done) | (simp; omega)))
  clear hv4 hg4
  have HG4b : Hid (Ge (w1.heap.size + 1) (.slice A4 k4 c4)) := Lib.hid (HG4'.out.mono (by first | omega | (simp; omega)))
  clear HG4'
  unfold dyV
  have hlt5_0 : w.heap.size < w4.heap.size := by omega
  have hne5_0 : ¬ (w.heap.size = w4.heap.size) := by omega
  have hen5_0 : ¬ (w4.heap.size = w.heap.size) := by omega
  have hlt5_1 : w.heap.size + 1 < w4.heap.size := by omega
  have hne5_1 : ¬ (w.heap.size + 1 = w4.heap.size) := by omega
  have hen5_1 : ¬ (w4.heap.size = w.heap.size + 1) := by omega
  have hlt5_2 : w1.heap.size < w4.heap.size := by omega
  have hne5_2 : ¬ (w1.heap.size = w4.heap.size) := by omega
  have hen5_2 : ¬ (w4.heap.size = w1.heap.size) := by omega
  go_wp2_with fail
  refine Calls.mono (hCmp.out _ _ _ (IsDy.abs (neg := n4) (by (repeat (first | with_reducible exact HV4.out | refine IsDy.put_lt (p := ⟨_, _, _⟩) ?_ HB4.out (by first | omega | (simp; done) | (simp; omega)) _ | refine IsDy.put_ge (p := ⟨_, _, _⟩) ?_ HG4b.out (by first | omega | (simp; done) | (simp; omega)) _ | refine IsDy.alloc ?_ _)))) (IsDy.abs (neg := n1) (by (repeat (first | with_reducible exact HA4.out | refine IsDy.put_lt (p := ⟨_, _, _⟩) ?_ HB1.out (by first | omega | (simp; done) | (simp; omega)) _ | refine IsDy.put_ge (p := ⟨_, _, _⟩) ?_ HG4b.out (by first | omega | (simp; done) | (simp; omega)) _ | refine IsDy.alloc ?_ _))))) ?_
  rintro E w5 ⟨rfl, hb5⟩
  obtain ⟨hc5, hf5⟩ := bcell hb5
  have HW5 : Hid (Below w.heap.size w w5) := Lib.hid (by
    refine Below.trans ?_ (hb5.mono ?_)
    · (repeat (first | with_reducible exact HW4.out | refine Below.setCell (p := ⟨_, _, _⟩) ?_ (by first | omega | (simp; done) | (simp; omega)) _ | refine Below.alloc ?_ (by first | omega | (simp; done) | (simp; omega)) _ | refine Below.drew ?_ | refine below_dn ?_ _))
    · first | omega | (simp; done) | (simp; omega))
  have hs5 : w.heap.size + 1 + 1 ≤ w5.heap.size := by have := hb5.size; (try simp at this); omega
  have hc5_0 := fun o : Nat => hc5 (w.heap.size) o (by first | omega | (simp; done) | (simp; omega))
  have hf5_0 := fun o : Nat => hf5 (w.heap.size) o (by first | omega | (simp; done) | (simp; omega))
  have hc5_1 := fun o : Nat => hc5 (w.heap.size + 1) o (by first | omega | (simp; done) | (simp; omega))
  have hf5_1 := fun o : Nat => hf5 (w.heap.size + 1) o (by first | omega | (simp; done) | (simp; omega))
  have hsx5_0 : w4.heap.size + 1 ≤ w5.heap.size := by have := hb5.size; (try simp at this); omega
  have hx5_0 := fun o : Nat => hc5 (w4.heap.size) o (by first | omega | (simp; done) | (simp; omega))
  have hxf5_0 := fun o : Nat => hf5 (w4.heap.size) o (by first | omega | (simp; done) | (simp; omega))
  have hsx5_1 : w1.heap.size + 1 ≤ w5.heap.size := by have := hb5.size; (try simp at this); omega
  have hx5_1 := fun o : Nat => hc5 (w1.heap.size) o (by first | omega | (simp; done) | (simp; omega))
  have hxf5_1 := fun o : Nat => hf5 (w1.heap.size) o (by first | omega | (simp; done) | (simp; omega))
  clear hc5 hf5
  clear hb5
  go_wp2_with fail
  go_ret
  exact ⟨rfl, by (repeat (first | with_reducible exact HW5.out | refine Below.setCell (p := ⟨_, _, _⟩) ?_ (by first | omega | (simp; done) | (simp; omega)) _ | refine Below.alloc ?_ (by first | omega | (simp; done) | (simp; omega)) _ | refine Below.drew ?_ | refine below_dn ?_ _))⟩

end Go.Proofs.YtgihapdlliidgaaDoor
