/-
  DERIVED. GIVEN WITH THE SEED: THE CARDS: each row of YtamefnngdhbjiaaGreatDoorRows.lean that lists a variable, with what it lists TIED to the program's text (the seventh form; the later family's looks); each row that meets fmt, with fmt's text TOLD by the authors' own Lean function (tested against real Go, not proved from fmt's source: count such statements apart). THE CARD IS WHAT COUNTS. Prove the row's statement (the work); the ties are given (YtamefnngdhbjiaaGreatDoorTie.lean); close each card by the builder's one call (the guide's Derived/Test/ToyasCard.lean, 'card_holds'). Laid BY PROGRAM, IN A SANDBOX (cutbox-door.mjs). By AI agents, Wed Nov 11 2026. No macro, syntax, notation, axiom, sorry.
-/
import Derived.Test.YtamefnngdhbjiaaGreatDoorRows
import GoSem.ClaimSeven
namespace Go.Proofs.YtamefnngdhbjiaaGreatDoor
namespace Rows

/-- THE TIED CARD OF 'windlasslaw25.FilesFit'. -/
def filesFitCard : Claim7 := { stood := { row := filesFitRow, standIns := [], harness := (true, "09c75229b110c77ba97b1a40dfe90010f17b56e2d95e6d6e9f8e39c0b564d51f"), looks := false }, kinds := [], alts := [], laidByText := true, laidKinds := [.data, .pinned], laidTests := true, laidLooks := .later }
def FilesFitCardSaid : Prop := Claim7.holds Tryz.pinned (.plain (OpenSpec.ofChange filesFitSpec)) filesFitCard

/-- THE TIED CARD OF 'windlasslaw25.FilesThere'. -/
def filesThereCard : Claim7 := { stood := { row := filesThereRow, standIns := [], harness := (true, "09c75229b110c77ba97b1a40dfe90010f17b56e2d95e6d6e9f8e39c0b564d51f"), looks := false }, kinds := [], alts := [], laidByText := true, laidKinds := [.data, .pinned], laidTests := true, laidLooks := .later }
def FilesThereCardSaid : Prop := Claim7.holds Tryz.pinned (.plain (OpenSpec.ofChange filesThereSpec)) filesThereCard

/-- THE TIED CARD OF 'windlasslaw25.FilesCopies'. -/
def filesCopiesCard : Claim7 := { stood := { row := filesCopiesRow, standIns := [], harness := (true, "09c75229b110c77ba97b1a40dfe90010f17b56e2d95e6d6e9f8e39c0b564d51f"), looks := false }, kinds := [], alts := [], laidByText := true, laidKinds := [.data, .pinned], laidTests := true, laidLooks := .later }
def FilesCopiesCardSaid : Prop := Claim7.holds Tryz.pinned (.plain (OpenSpec.ofChange filesCopiesSpec)) filesCopiesCard

/-- THE SECOND FORM's CARD OF 'windlasslaw25.FilesFit'. -/
def filesFitUptoCard : Claim7 := { stood := { row := filesFitUptoRow, standIns := [], harness := (true, "09c75229b110c77ba97b1a40dfe90010f17b56e2d95e6d6e9f8e39c0b564d51f"), looks := false }, kinds := [], alts := [], laidByText := true, laidKinds := [.data, .pinned], laidTests := true, laidLooks := .later }
def FilesFitUptoCardSaid : Prop := Claim7.holds Tryz.pinned (.plain (OpenSpec.upto filesFitSpec)) filesFitUptoCard

/-- THE SECOND FORM's CARD OF 'windlasslaw25.FilesThere'. -/
def filesThereUptoCard : Claim7 := { stood := { row := filesThereUptoRow, standIns := [], harness := (true, "09c75229b110c77ba97b1a40dfe90010f17b56e2d95e6d6e9f8e39c0b564d51f"), looks := false }, kinds := [], alts := [], laidByText := true, laidKinds := [.data, .pinned], laidTests := true, laidLooks := .later }
def FilesThereUptoCardSaid : Prop := Claim7.holds Tryz.pinned (.plain (OpenSpec.upto filesThereSpec)) filesThereUptoCard

/-- THE SECOND FORM's CARD OF 'windlasslaw25.FilesCopies'. -/
def filesCopiesUptoCard : Claim7 := { stood := { row := filesCopiesUptoRow, standIns := [], harness := (true, "09c75229b110c77ba97b1a40dfe90010f17b56e2d95e6d6e9f8e39c0b564d51f"), looks := false }, kinds := [], alts := [], laidByText := true, laidKinds := [.data, .pinned], laidTests := true, laidLooks := .later }
def FilesCopiesUptoCardSaid : Prop := Claim7.holds Tryz.pinned (.plain (OpenSpec.upto filesCopiesSpec)) filesCopiesUptoCard
end Rows
end Go.Proofs.YtamefnngdhbjiaaGreatDoor
