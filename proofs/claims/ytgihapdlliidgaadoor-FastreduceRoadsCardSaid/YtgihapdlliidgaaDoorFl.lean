/- Plain words on double-precision words: the operations as functions of the words, in the option monad. -/
import Derived.Laws.FloatArith
namespace Go.Proofs.YtgihapdlliidgaaDoor
set_option linter.unusedVariables false
open Go

/-- the four operations on double-precision words -/
def fadd (x y : Nat) : Option Nat := floatBits .add .f64 x y
def fsub (x y : Nat) : Option Nat := floatBits .sub .f64 x y
def fmul (x y : Nat) : Option Nat := floatBits .mul .f64 x y
def fdiv (x y : Nat) : Option Nat := floatBits .quo .f64 x y

/-- the sign turned -/
def fneg (x : Nat) : Nat := x ^^^ 9223372036854775808
/-- the sign struck -/
def fabs (x : Nat) : Nat := x % 9223372036854775808

/-- the whole number below or equal -/
def ffloor (x : Nat) : Nat := Ieee.double.write ((Ieee.double.read x).integral .down)
/-- is it no NaN? -/
def fnum (x : Nat) : Bool := !(Ieee.double.read x).isNaN
/-- comparing -/
def flt (x y : Nat) : Bool := FloatKind.f64.format.order x y == some .lt
def fle (x y : Nat) : Bool := (FloatKind.f64.format.order x y == some .lt || FloatKind.f64.format.order x y == some .eq)
def fgt (x y : Nat) : Bool := FloatKind.f64.format.order x y == some .gt
def fge (x y : Nat) : Bool := (FloatKind.f64.format.order x y == some .gt || FloatKind.f64.format.order x y == some .eq)
def feq (x y : Nat) : Bool := FloatKind.f64.format.order x y == some .eq

def twoSum (a b : Nat) : Option (Nat × Nat) :=
  (fadd a b).bind fun s => (fsub s a).bind fun bb => (fsub s bb).bind fun aa =>
  (fsub a aa).bind fun x => (fsub b bb).bind fun y => (fadd x y).bind fun e => some (s, e)

def fastTwoSum (a b : Nat) : Option (Nat × Nat) :=
  (fadd a b).bind fun s => (fsub s a).bind fun x => (fsub b x).bind fun e => some (s, e)

def splitF (a : Nat) : Option (Nat × Nat) :=
  (fmul 4728779608772575232 a).bind fun c => (fsub c a).bind fun d => (fsub c d).bind fun h => (fsub a h).bind fun l => some (h, l)

def twoProd (a b : Nat) : Option (Nat × Nat) :=
  (fmul a b).bind fun p => (splitF a).bind fun A => (splitF b).bind fun B =>
  (fmul A.1 B.1).bind fun x1 => (fsub x1 p).bind fun e1 =>
  (fmul A.1 B.2).bind fun x2 => (fadd e1 x2).bind fun e2 =>
  (fmul A.2 B.1).bind fun x3 => (fadd e2 x3).bind fun e3 =>
  (fmul A.2 B.2).bind fun x4 => (fadd e3 x4).bind fun e4 => some (p, e4)

/-- double-doubles: pairs of words -/
def ddAdd (a b : Nat × Nat) : Option (Nat × Nat) :=
  (twoSum a.1 b.1).bind fun S => (twoSum a.2 b.2).bind fun T => (fadd S.2 T.1).bind fun c => (fastTwoSum S.1 c).bind fun V =>
  (fadd T.2 V.2).bind fun d => fastTwoSum V.1 d

def ddNeg (a : Nat × Nat) : Nat × Nat := (fneg a.1, fneg a.2)
def ddSub (a b : Nat × Nat) : Option (Nat × Nat) := ddAdd a (ddNeg b)

def ddMul (a b : Nat × Nat) : Option (Nat × Nat) :=
  (twoProd a.1 b.1).bind fun P => (fmul a.1 b.2).bind fun x => (fmul a.2 b.1).bind fun y => (fadd x y).bind fun c => (fadd P.2 c).bind fun d =>
  fastTwoSum P.1 d

/-- is the word finite, as dd asks? -/
def ffin (x : Nat) : Bool := fle (fabs x) 9218868437227405311

def ddForm (a : Nat × Nat) : Option Bool :=
  if ffin a.1 = true then if ffin a.2 = true then (fadd a.1 a.2).bind fun s => some (feq s a.1) else some false else some false

def ddOf (x : Nat) : Nat × Nat := if ffin x = true then (x, 0) else (0, 0)

def ddMulFloat (a : Nat × Nat) (x : Nat) : Option (Nat × Nat) :=
  (twoProd a.1 x).bind fun P => (fmul a.2 x).bind fun y => (fastTwoSum P.1 y).bind fun V => (fadd V.2 P.2).bind fun d => fastTwoSum V.1 d

def ddDiv (a b : Nat × Nat) : Option (Nat × Nat) :=
  (fdiv a.1 b.1).bind fun q => (ddMulFloat b q).bind fun r => (fsub a.1 r.1).bind fun x => (fsub a.2 r.2).bind fun y => (fadd x y).bind fun l =>
  (fdiv l b.1).bind fun d => fastTwoSum q d

/-- the three parts of pi/2 -/
def P1 : Nat := 4609753056924401664
def P2 : Nat := 4454258360616747008
def P3 : Nat := 4297306550709743731

def leftF (x k : Nat) : Option (Nat × Nat) :=
  (fmul k P1).bind fun m1 => (twoSum x (fneg m1)).bind fun S => (fmul k P2).bind fun m2 => (twoSum S.1 (fneg m2)).bind fun T =>
  (twoProd k P3).bind fun H => ddSub T H

/-- the k of Cody -/
def codyK (x : Nat) : Option Nat := (fmul x 4603909380684499075).bind fun p => (fadd p 4602678819172646912).bind fun s => some (ffloor s)

end Go.Proofs.YtgihapdlliidgaaDoor
