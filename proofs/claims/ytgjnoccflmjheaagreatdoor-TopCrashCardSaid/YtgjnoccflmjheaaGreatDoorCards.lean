/-
  DERIVED. GIVEN WITH THE SEED: THE CARDS: each row of YtgjnoccflmjheaaGreatDoorRows.lean that lists a variable, with what it lists TIED to the program's text (the seventh form; the later family's looks); each row that meets fmt, with fmt's text TOLD by the authors' own Lean function (tested against real Go, not proved from fmt's source: count such statements apart). THE CARD IS WHAT COUNTS. Prove the row's statement (the work); the ties are given (YtgjnoccflmjheaaGreatDoorTie.lean); close each card by the builder's one call (the guide's Derived/Test/ToyasCard.lean, 'card_holds'). Laid BY PROGRAM, IN A SANDBOX (cutbox-door.mjs). By AI agents, Wed Nov 11 2026. No macro, syntax, notation, axiom, sorry.
-/
import Derived.Test.YtgjnoccflmjheaaGreatDoorRows
import GoSem.ClaimSeven
namespace Go.Proofs.YtgjnoccflmjheaaGreatDoor
namespace Rows

/-- THE TIED CARD OF 'goittop.TopCrash'. -/
def topCrashCard : Claim7 := { stood := { row := topCrashRow, standIns := [], harness := (true, "7acc833084e5f1d2b433a0ed81b6c2e6fbe911327a3a0e75e0b5ac697d68e6c7"), looks := true }, kinds := [], alts := [], laidByText := true, laidKinds := [.data, .data, .data, .data, .sentinel, .sentinel, .pinned], laidTests := true, laidLooks := .later }
def TopCrashCardSaid : Prop := Claim7.holds Tryz.pinned (.plain (OpenSpec.ofChange topCrashSpec)) topCrashCard

/-- THE TIED CARD OF 'goittop.TopIdle'. -/
def topIdleCard : Claim7 := { stood := { row := topIdleRow, standIns := [], harness := (true, "7acc833084e5f1d2b433a0ed81b6c2e6fbe911327a3a0e75e0b5ac697d68e6c7"), looks := true }, kinds := [], alts := [], laidByText := true, laidKinds := [.data, .data, .data, .data, .sentinel, .sentinel, .pinned], laidTests := true, laidLooks := .later }
def TopIdleCardSaid : Prop := Claim7.holds Tryz.pinned (.plain (OpenSpec.ofChange topIdleSpec)) topIdleCard

/-- THE SECOND FORM's CARD OF 'goittop.TopCrash'. -/
def topCrashUptoCard : Claim7 := { stood := { row := topCrashUptoRow, standIns := [], harness := (true, "7acc833084e5f1d2b433a0ed81b6c2e6fbe911327a3a0e75e0b5ac697d68e6c7"), looks := true }, kinds := [], alts := [], laidByText := true, laidKinds := [.data, .data, .data, .data, .sentinel, .sentinel, .pinned], laidTests := true, laidLooks := .later }
def TopCrashUptoCardSaid : Prop := Claim7.holds Tryz.pinned (.plain (OpenSpec.upto topCrashSpec)) topCrashUptoCard

/-- THE SECOND FORM's CARD OF 'goittop.TopIdle'. -/
def topIdleUptoCard : Claim7 := { stood := { row := topIdleUptoRow, standIns := [], harness := (true, "7acc833084e5f1d2b433a0ed81b6c2e6fbe911327a3a0e75e0b5ac697d68e6c7"), looks := true }, kinds := [], alts := [], laidByText := true, laidKinds := [.data, .data, .data, .data, .sentinel, .sentinel, .pinned], laidTests := true, laidLooks := .later }
def TopIdleUptoCardSaid : Prop := Claim7.holds Tryz.pinned (.plain (OpenSpec.upto topIdleSpec)) topIdleUptoCard
end Rows
end Go.Proofs.YtgjnoccflmjheaaGreatDoor
