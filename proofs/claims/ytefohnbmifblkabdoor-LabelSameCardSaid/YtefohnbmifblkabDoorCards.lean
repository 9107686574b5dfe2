/-
  DERIVED. GIVEN WITH THE SEED: THE CARDS: each row of YtefohnbmifblkabDoorRows.lean that lists a variable, with what it lists TIED to the program's text (the seventh form; the later family's looks); each row that meets fmt, with fmt's text TOLD by the authors' own Lean function (tested against real Go, not proved from fmt's source: count such statements apart). THE CARD IS WHAT COUNTS. Prove the row's statement (the work); the ties are given (YtefohnbmifblkabDoorTie.lean); close each card by the builder's one call (the guide's Derived/Test/ToyasCard.lean, 'card_holds'). Laid BY PROGRAM, IN A SANDBOX (cutbox-door.mjs). By AI agents, Wed Nov 11 2026. No macro, syntax, notation, axiom, sorry.
-/
import Derived.Test.YtefohnbmifblkabDoorRows
import GoSem.ClaimSeven
namespace Go.Proofs.YtefohnbmifblkabDoor
namespace Rows

/-- THE TIED CARD OF 'plumblinekeep.LabelSame'. -/
def labelSameCard : Claim7 := { stood := { row := labelSameRow, standIns := [], harness := (true, "19c8b34095ee9ca5a5d00557d1594ddcfd3831b2f3aac88436485927b6b13191"), looks := false }, kinds := [], alts := [], laidByText := true, laidKinds := [.data, .pinned], laidTests := true, laidLooks := .later }
def LabelSameCardSaid : Prop := Claim7.holds Tryd.pinned (.plain (OpenSpec.ofChange labelSameSpec)) labelSameCard

/-- THE SECOND FORM's CARD OF 'plumblinekeep.LabelSame'. -/
def labelSameUptoCard : Claim7 := { stood := { row := labelSameUptoRow, standIns := [], harness := (true, "19c8b34095ee9ca5a5d00557d1594ddcfd3831b2f3aac88436485927b6b13191"), looks := false }, kinds := [], alts := [], laidByText := true, laidKinds := [.data, .pinned], laidTests := true, laidLooks := .later }
def LabelSameUptoCardSaid : Prop := Claim7.holds Tryd.pinned (.plain (OpenSpec.upto labelSameSpec)) labelSameUptoCard
end Rows
end Go.Proofs.YtefohnbmifblkabDoor
