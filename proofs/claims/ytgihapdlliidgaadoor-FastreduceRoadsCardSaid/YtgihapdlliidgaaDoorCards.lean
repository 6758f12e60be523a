/-
  DERIVED. GIVEN WITH THE SEED: THE CARDS: each row of YtgihapdlliidgaaDoorRows.lean that lists a variable, with what it lists TIED to the program's text (the seventh form; the later family's looks); each row that meets fmt, with fmt's text TOLD by the authors' own Lean function (tested against real Go, not proved from fmt's source: count such statements apart). THE CARD IS WHAT COUNTS. Prove the row's statement (the work); the ties are given (YtgihapdlliidgaaDoorTie.lean); close each card by the builder's one call (the guide's Derived/Test/ToyasCard.lean, 'card_holds'). Laid BY PROGRAM, IN A SANDBOX (cutbox-door.mjs). By AI agents, Wed Nov 11 2026. No macro, syntax, notation, axiom, sorry.
-/
import Derived.Test.YtgihapdlliidgaaDoorRows
import GoSem.ClaimSeven
namespace Go.Proofs.YtgihapdlliidgaaDoor
namespace Rows

/-- THE TIED CARD OF 'gnomonlaw22.FastreduceRoads'. -/
def fastreduceRoadsCard : Claim7 := { stood := { row := fastreduceRoadsRow, standIns := [], harness := (true, "f49786fe18020ccae32eaaf5f8deb9ff6f5a8051129c0c8ab997a45fa5ff64fb"), looks := false }, kinds := [], alts := [], laidByText := true, laidKinds := [.data, .data], laidTests := true, laidLooks := .later }
def FastreduceRoadsCardSaid : Prop := Claim7.holds Tryd.pinned (.plain (OpenSpec.ofChange fastreduceRoadsSpec)) fastreduceRoadsCard

/-- THE TIED CARD OF 'gnomonlaw22.FastreduceSmall'. -/
def fastreduceSmallCard : Claim7 := { stood := { row := fastreduceSmallRow, standIns := [], harness := (true, "f49786fe18020ccae32eaaf5f8deb9ff6f5a8051129c0c8ab997a45fa5ff64fb"), looks := false }, kinds := [], alts := [], laidByText := true, laidKinds := [.data, .data], laidTests := true, laidLooks := .later }
def FastreduceSmallCardSaid : Prop := Claim7.holds Tryd.pinned (.plain (OpenSpec.ofChange fastreduceSmallSpec)) fastreduceSmallCard

/-- THE SECOND FORM's CARD OF 'gnomonlaw22.FastreduceRoads'. -/
def fastreduceRoadsUptoCard : Claim7 := { stood := { row := fastreduceRoadsUptoRow, standIns := [], harness := (true, "f49786fe18020ccae32eaaf5f8deb9ff6f5a8051129c0c8ab997a45fa5ff64fb"), looks := false }, kinds := [], alts := [], laidByText := true, laidKinds := [.data, .data], laidTests := true, laidLooks := .later }
def FastreduceRoadsUptoCardSaid : Prop := Claim7.holds Tryd.pinned (.plain (OpenSpec.upto fastreduceRoadsSpec)) fastreduceRoadsUptoCard

/-- THE SECOND FORM's CARD OF 'gnomonlaw22.FastreduceSmall'. -/
def fastreduceSmallUptoCard : Claim7 := { stood := { row := fastreduceSmallUptoRow, standIns := [], harness := (true, "f49786fe18020ccae32eaaf5f8deb9ff6f5a8051129c0c8ab997a45fa5ff64fb"), looks := false }, kinds := [], alts := [], laidByText := true, laidKinds := [.data, .data], laidTests := true, laidLooks := .later }
def FastreduceSmallUptoCardSaid : Prop := Claim7.holds Tryd.pinned (.plain (OpenSpec.upto fastreduceSmallSpec)) fastreduceSmallUptoCard
end Rows
end Go.Proofs.YtgihapdlliidgaaDoor
