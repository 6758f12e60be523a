/- What it is for a slice value to read as a list of digits, and for two of the program's numbers to stand in memory. -/
import Derived.Test.YtgihapdlliidgaaDoorLv
import Derived.Test.YtgihapdlliidgaaDoorExt
import Derived.LoopTactic
import Derived.Deep.RegionWith
import Derived.BigQuiet
import Derived.Deep.QuietTactic
namespace Go.Proofs.YtgihapdlliidgaaDoor
open Go Go.RowKit
set_option linter.unusedVariables false
set_option linter.unusedSimpArgs false

/-- the digits' base of the program's naturals, closed to the walk -/
def B64 : Nat := 18446744073709551616

/-- the slice at A with that many cells reads as the list l -/
def Rd (k : IntKind) (w : World) (A : Option Addr) (l : List Nat) : Prop :=
  0 < l.length → ∃ b o, A = some ⟨b, o, none⟩ ∧ b < w.heap.size ∧ ∀ i, i < l.length → w.cell? ⟨b, o + i, none⟩ = some (.int k ((l.getD i 0 : Nat) : Int))

theorem below_dn {B : Nat} {a w : World} (h : Below B a w) (n : Nat) : Below B a (w.drewN n) := ⟨h.os, h.tape, h.output, h.size, h.block⟩

theorem Rd.below {k : IntKind} {w w' : World} {A : Option Addr} {l : List Nat} (h : Rd k w A l) (hb : Below w.heap.size w w') : Rd k w' A l := by
  intro hl
  obtain ⟨b, o, e, hlt, hc⟩ := h hl
  exact ⟨b, o, e, Nat.lt_of_lt_of_le hlt hb.size, fun i hi => (hb.cell (p := ⟨b, o + i, none⟩) hlt).trans (hc i hi)⟩

theorem Rd.take {k : IntKind} {w : World} {A : Option Addr} {l : List Nat} (h : Rd k w A l) (n : Nat) : Rd k w A (l.take n) := by
  intro hl
  rw [List.length_take] at hl
  obtain ⟨b, o, e, hlt, hc⟩ := h (by omega)
  refine ⟨b, o, e, hlt, fun i hi => ?_⟩
  rw [List.length_take] at hi
  rw [getD_take _ _ _ (by omega)]
  exact hc i (by omega)

theorem Rd.nil {k : IntKind} {w : World} {A : Option Addr} : Rd k w A [] := fun h => absurd h (by simp)


theorem B64_pos : 0 < B64 := by decide
theorem B64_eq : B64 = 18446744073709551616 := rfl
attribute [irreducible] B64

theorem add64_nat (x y c : Nat) (hc : c ≤ 1) (w : World) : (callFunc 56 #[.int .u64 (x : Int), .int .u64 (y : Int), .int .u64 (c : Int)]).run Tryd.prog w =
    .ok (.value (.tuple #[.int .u64 (((x + y + c) % B64 : Nat) : Int), .int .u64 (((x + y + c) / B64 : Nat) : Int)])) w := by
  rw [ext_add64 _ _ _ (by omega) (by omega) (by omega) (by omega), B64_eq]
  simp only [Int.natCast_emod, Int.natCast_ediv, Int.natCast_add]
  rfl

theorem sub64_nat (x y c : Nat) (hc : c ≤ 1) (w : World) : (callFunc 34 #[.int .u64 (x : Int), .int .u64 (y : Int), .int .u64 (c : Int)]).run Tryd.prog w =
    .ok (.value (.tuple #[.int .u64 (((x + B64 - y - c) % B64 : Nat) : Int), .int .u64 ((if x < y + c then 1 else 0 : Nat) : Int)])) w := by
  rw [ext_sub64 _ _ _ hc, B64_eq]

/-- the cells of a list of digits -/
def cells (k : IntKind) (l : List Nat) : List Value := l.map fun x => .int k ((x : Nat) : Int)

theorem cells_length (k : IntKind) (l : List Nat) : (cells k l).length = l.length := by simp [cells]
theorem cells_get (k : IntKind) (l : List Nat) (i : Nat) (h : i < l.length) : (cells k l)[i]? = some (.int k ((l.getD i 0 : Nat) : Int)) := by
  simp [cells, List.getElem?_map, List.getD_eq_getElem?_getD, List.getElem?_eq_getElem h]
theorem cells_set (k : IntKind) (l : List Nat) (i x : Nat) : (cells k l).set i (.int k ((x : Nat) : Int)) = cells k (l.set i x) := by
  simp [cells, List.map_set]

/-- the block g, the call's own, holds the list l -/
def Own (T : TypeId) (k : IntKind) (base g : Nat) (w : World) (n : Nat) (l : List Nat) : Prop :=
  w.ownsRow base T 1 (.slice (some ⟨g, 0, none⟩) n n) n (cells k l) ∧ l.length = n ∧ base ≤ g ∧ g < w.heap.size

theorem Own.cell {T : TypeId} {k : IntKind} {base g n : Nat} {w : World} {l : List Nat} (h : Own T k base g w n l) (i : Nat) (hi : i < n) : w.cell? ⟨g, i, none⟩ = some (.int k ((l.getD i 0 : Nat) : Int)) := by
  rw [h.1.cellAt i (by omega), cells_get _ _ _ (by rw [h.2.1]; exact hi)]
theorem Own.frozen {T : TypeId} {k : IntKind} {base g n : Nat} {w : World} {l : List Nat} (h : Own T k base g w n l) (i : Nat) : w.frozen? ⟨g, i, none⟩ = false := h.1.frozenAt i
theorem Own.stored {T : TypeId} {k : IntKind} {base g n : Nat} {w : World} {l : List Nat} (h : Own T k base g w n l) (i x : Nat) : Own T k base g (w.setCell ⟨g, i, none⟩ (.int k ((x : Nat) : Int))) n (l.set i x) := by
  refine ⟨?_, by simpa using h.2.1, h.2.2.1, by simpa [World.setCell] using h.2.2.2⟩
  have := (h.1.stored i (.int k ((x : Nat) : Int))).1
  rwa [cells_set] at this
theorem Own.rd {T : TypeId} {k : IntKind} {base g n : Nat} {w : World} {l : List Nat} (h : Own T k base g w n l) : Rd k w (some ⟨g, 0, none⟩) l := by
  intro _
  refine ⟨g, 0, rfl, h.2.2.2, fun i hi => ?_⟩
  rw [Nat.zero_add]
  exact h.cell i (by rw [← h.2.1]; exact hi)
theorem Own.new {T : TypeId} {k : IntKind} {base : Nat} {w w' : World} {n : Nat} (hb : base ≤ w.heap.size) (h : w'.ownsRow base T 1 (.slice (some ⟨w.heap.size, 0, none⟩) n n) n (madeCells #[.int k 0] n).toList) : Own T k base w.heap.size w' n (List.replicate n 0) := by
  have hg : w.heap.size < w'.heap.size := by
    rcases h.2 with ⟨h', _⟩ | ⟨g', cap, cur, h', _, hh, _⟩
    · simp at h'
    · simp only [Value.slice.injEq, Option.some.injEq, Addr.mk.injEq, and_true, true_and] at h'
      obtain ⟨rfl, rfl⟩ := h'
      rcases Nat.lt_or_ge w.heap.size w'.heap.size with hlt | hge
      · exact hlt
      · rw [Array.getElem?_eq_none hge] at hh; cases hh
  refine ⟨?_, by simp, hb, hg⟩
  have e : (madeCells #[.int k 0] n).toList = cells k (List.replicate n 0) := by
    simp only [madeCells, cells, List.map_replicate]
    simp [Nat.mod_one, List.map_const']
  rwa [e] at h

/-- the limit of the naturals, closed to the walk -/
def LIML : Nat := 8192
theorem LIML_eq : LIML = 8192 := rfl
attribute [irreducible] LIML
def LIM : Nat := B64 ^ LIML
theorem LIM_le_pow {n : Nat} (h : 8192 ≤ n) : LIM ≤ B64 ^ n := by
  unfold LIM; exact Nat.pow_le_pow_right B64_pos (by rw [LIML_eq]; exact h)
theorem pow_le_LIM {n : Nat} (h : n ≤ 8192) : B64 ^ n ≤ LIM := by
  unfold LIM; exact Nat.pow_le_pow_right B64_pos (by rw [LIML_eq]; exact h)
attribute [irreducible] LIM

theorem canon_len {l : List Nat} (h : canon l) (hl : lv B64 l < LIM) : l.length ≤ 8192 := by
  rcases Nat.lt_or_ge 8192 l.length with hlt | hle
  · exfalso
    have hge := lv_ge B64 l B64_pos h (by intro e; simp [e] at hlt)
    have := LIM_le_pow (n := l.length - 1) (by omega)
    omega
  · exact hle
theorem lv_lt_LIM {l : List Nat} (hB : ∀ x ∈ l, x < B64) (h : l.length ≤ 8192) : lv B64 l < LIM := Nat.lt_of_lt_of_le (lv_lt B64 l hB) (pow_le_LIM h)


/-- the slice, if it has cells, lies below block N; lies from block N on -/
def Bd (N : Nat) (v : Value) : Prop := ∀ b o k l c, v = .slice (some ⟨b, o, k⟩) l c → 0 < l → b < N
def Ge (N : Nat) (v : Value) : Prop := ∀ b o k l c, v = .slice (some ⟨b, o, k⟩) l c → k = none ∧ (0 < l → N ≤ b)
/-- the slice's address is a plain one -/
def Spot (v : Value) : Prop := ∀ b o k l c, v = .slice (some ⟨b, o, k⟩) l c → k = none
theorem Ge.spot {N : Nat} {v : Value} (h : Ge N v) : Spot v := fun b o k l c e => (h b o k l c e).1
theorem Ge.nil (N l c : Nat) : Ge N (.slice none l c) := by intro b o k l c h; cases h
theorem Ge.mono {N M : Nat} {v : Value} (h : Ge N v) (hm : M ≤ N) : Ge M v := fun b o k l c e => ⟨(h b o k l c e).1, fun hl => Nat.le_trans hm ((h b o k l c e).2 hl)⟩
theorem Bd.mono {N M : Nat} {v : Value} (h : Bd N v) (hm : N ≤ M) : Bd M v := fun b o k l c e hl => Nat.lt_of_lt_of_le (h b o k l c e hl) hm
theorem Ge.at_ {N g o l c : Nat} (h : N ≤ g) : Ge N (.slice (some ⟨g, o, none⟩) l c) := by
  intro b o k l c e
  simp only [Value.slice.injEq, Option.some.injEq, Addr.mk.injEq] at e
  exact ⟨e.1.2.2.symm, fun _ => by omega⟩

/-- but for the n blocks from N on, what was there is as it was -/
def SameB (N n : Nat) (w w' : World) : Prop := w.heap.size ≤ w'.heap.size ∧ ∀ b, b < w.heap.size → (b < N ∨ N + n ≤ b) → w'.heap[b]? = w.heap[b]?
theorem SameB.refl (N n : Nat) (w : World) : SameB N n w w := ⟨Nat.le_refl _, fun _ _ _ => rfl⟩
theorem SameB.trans {N n : Nat} {a b c : World} (h : SameB N n a b) (k : SameB N n b c) : SameB N n a c :=
  ⟨Nat.le_trans h.1 k.1, fun i hi hr => (k.2 i (Nat.lt_of_lt_of_le hi h.1) hr).trans (h.2 i hi hr)⟩
theorem SameB.below {N n : Nat} {a b c : World} (h : SameB N n a b) (k : Below b.heap.size b c) : SameB N n a c :=
  h.trans ⟨k.size, fun i hi _ => k.block i hi⟩
theorem SameB.setCell {N n : Nat} {a b : World} (h : SameB N n a b) {p : Addr} (h1 : N ≤ p.block) (h2 : p.block < N + n) (u : Value) : SameB N n a (b.setCell p u) :=
  h.trans ⟨by simp [World.setCell], fun i hi hr => Below.heap_setCell _ _ _ _ (by omega)⟩
theorem SameB.setNew {N n : Nat} {a b : World} (h : SameB N n a b) {p : Addr} (h1 : a.heap.size ≤ p.block) (u : Value) : SameB N n a (b.setCell p u) :=
  ⟨by simpa [World.setCell] using h.1, fun i hi hr => (Below.heap_setCell _ _ _ _ (by omega)).trans (h.2 i hi hr)⟩
theorem SameB.alloc {N n : Nat} {a b : World} (h : SameB N n a b) (o : Obj) : SameB N n a (b.alloc o) :=
  h.trans ⟨by simp, fun i hi _ => Below.heap_alloc _ _ _ hi⟩
theorem SameB.drew {N n : Nat} {a b : World} (h : SameB N n a b) : SameB N n a b.drew := h
theorem SameB.drewN {N n : Nat} {a b : World} (h : SameB N n a b) (k : Nat) : SameB N n a (b.drewN k) := h

theorem Rd.same {k : IntKind} {N n : Nat} {w w' : World} {A : Option Addr} {l : List Nat} {c : Nat} (h : Rd k w A l) (hs : SameB N n w w')
    (hb : ∀ b o m, A = some ⟨b, o, m⟩ → 0 < l.length → (b < N ∨ N + n ≤ b)) : Rd k w' A l := by
  intro hl
  obtain ⟨b, o, e, hlt, hc⟩ := h hl
  exact ⟨b, o, e, Nat.lt_of_lt_of_le hlt hs.1, fun i hi => (World.cell?_of_block (w := w) (a := ⟨b, o + i, none⟩) (hs.2 b hlt (hb b o none e hl))).trans (hc i hi)⟩

end Go.Proofs.YtgihapdlliidgaaDoor
