/- The functions without a body that the program calls: what a call of each gives. -/
import Derived.Test.YtgihapdlliidgaaDoorFl
import Derived.Test.YtgihapdlliidgaaDoorProg
import Derived.WalkKit
import Derived.WalkLawsBesides
import Derived.KernelRfl
import Derived.Lib.Hide
namespace Go.Proofs.YtgihapdlliidgaaDoor
open Go Go.RowKit

theorem ext_bits (x : Nat) (w : World) : (callFunc 17 #[.float .f64 x]).run Tryd.prog w = .ok (.value (.int .u64 x)) w := by
  rw [run_callFunc_extern (e := Extern.MathFloatBits.float64bits) Tryd.func17 (by kernel_rfl) (by kernel_rfl) (by kernel_rfl) (by kernel_rfl)]
  rfl

theorem ext_frombits (x : Int) (w : World) : (callFunc 6 #[.int .u64 x]).run Tryd.prog w = .ok (.value (.float .f64 x.toNat)) w := by
  rw [run_callFunc_extern (e := Extern.MathFloatBits.float64frombits) Tryd.func6 (by kernel_rfl) (by kernel_rfl) (by kernel_rfl) (by kernel_rfl)]
  rfl

theorem ext_floor (x : Nat) (hx : fnum x = true) (w : World) : (callFunc 40 #[.float .f64 x]).run Tryd.prog w = .ok (.value (.float .f64 (ffloor x))) w := by
  rw [run_callFunc_extern (e := Extern.MathFloor.toIntegral "math.archFloor" .down) Tryd.func40 (by kernel_rfl) (by kernel_rfl) (by kernel_rfl) (by kernel_rfl)]
  have h : ∃ d, FloatKind.f64.decode x = d ∧ (!d.isNaN) = true := ⟨_, rfl, hx⟩
  obtain ⟨d, hd, hn⟩ := h
  have e : Ieee.double.read x = d := hd
  unfold ffloor
  rw [e]
  change (Sem.run _ (match FloatKind.f64.decode x with
    | .nan s t => _
    | d => (pure (Value.float .f64 (FloatKind.f64.encode (d.integral .down))) : Sem Value)) w).andThen _ = _
  rw [hd]
  cases d with
  | nan s t => simp [Ieee.Datum.isNaN] at hn
  | infinity s => rfl
  | number s m e => rfl

theorem ext_add64 (x y c : Int) (hx : 0 ≤ x) (hy : 0 ≤ y) (hc0 : 0 ≤ c) (hc : c ≤ 1) (w : World) : (callFunc 56 #[.int .u64 x, .int .u64 y, .int .u64 c]).run Tryd.prog w =
    .ok (.value (.tuple #[.int .u64 ((x + y + c) % 18446744073709551616), .int .u64 ((x + y + c) / 18446744073709551616)])) w := by
  rw [run_callFunc_extern (e := add64Entry) Tryd.func56 (by kernel_rfl) (by kernel_rfl) (by kernel_rfl) (by kernel_rfl), run_add64 x y c hx hy hc0 hc]
  rfl

/-- the second entry's body -/
def sub64Entry : Array Value → Sem Value := fun args => do
  let (x, y, b) ← Extern.MathBitsCarry.three "Sub64" args
  pure (Extern.MathBitsCarry.pair ((x + Extern.MathBitsCarry.m64 - y - b) % Extern.MathBitsCarry.m64) (if x < y + b then 1 else 0))

theorem ext_sub64 (x y c : Nat) (hc : c ≤ 1) (w : World) : (callFunc 34 #[.int .u64 x, .int .u64 y, .int .u64 c]).run Tryd.prog w =
    .ok (.value (.tuple #[.int .u64 ((x + 18446744073709551616 - y - c) % 18446744073709551616 : Nat), .int .u64 ((if x < y + c then 1 else 0 : Nat))])) w := by
  rw [run_callFunc_extern (e := sub64Entry) Tryd.func34 (by kernel_rfl) (by kernel_rfl) (by kernel_rfl) (by kernel_rfl)]
  have : c = 0 ∨ c = 1 := by omega
  rcases this with rfl | rfl <;> rfl
theorem unary_neg_float (x : Nat) : Op.unary .neg (.float .f64 x) = pure (.float .f64 (fneg x)) := rfl
attribute [go_sem] unary_neg_float ext_bits ext_frombits ext_floor

theorem bcell {W w1 : World} (hb : Below W.heap.size W w1) : (∀ b o, b < W.heap.size → w1.cell? ⟨b, o, none⟩ = W.cell? ⟨b, o, none⟩) ∧ (∀ b o, b < W.heap.size → w1.frozen? ⟨b, o, none⟩ = W.frozen? ⟨b, o, none⟩) :=
  ⟨fun b o h => hb.cell (p := ⟨b, o, none⟩) h, fun b o h => hb.frozen (p := ⟨b, o, none⟩) h⟩

end Go.Proofs.YtgihapdlliidgaaDoor
