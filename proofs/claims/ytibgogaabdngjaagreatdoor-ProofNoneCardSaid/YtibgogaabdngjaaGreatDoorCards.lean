/-
  DERIVED. GIVEN WITH THE SEED: THE CARDS: each row of YtibgogaabdngjaaGreatDoorRows.lean that lists a variable, with what it lists TIED to the program's text (the seventh form; the later family's looks); each row that meets fmt, with fmt's text TOLD by the authors' own Lean function (tested against real Go, not proved from fmt's source: count such statements apart). THE CARD IS WHAT COUNTS. Prove the row's statement (the work); the ties are given (YtibgogaabdngjaaGreatDoorTie.lean); close each card by the builder's one call (the guide's Derived/Test/ToyasCard.lean, 'card_holds'). Laid BY PROGRAM, IN A SANDBOX (cutbox-door.mjs). By AI agents, Wed Nov 11 2026. No macro, syntax, notation, axiom, sorry.
-/
import Derived.Test.YtibgogaabdngjaaGreatDoorRows
import GoSem.ClaimSeven
namespace Go.Proofs.YtibgogaabdngjaaGreatDoor
namespace Rows

/-- THE TIED CARD OF 'victuallerlaw14.ProofNone'. -/
def proofNoneCard : Claim7 := { stood := { row := proofNoneRow, standIns := [], harness := (true, "cfa8df18b88074a1826ea05d0999ceb722adcf3d74fcf38e2a41269d457193f0"), looks := true }, kinds := [], alts := [], laidByText := true, laidKinds := [.data, .data, .data, .data, .sentinel, .sentinel, .pinned], laidTests := true, laidLooks := .later }
def ProofNoneCardSaid : Prop := Claim7.holds Tryz.pinned (.plain (OpenSpec.ofChange proofNoneSpec)) proofNoneCard

/-- THE SECOND FORM's CARD OF 'victuallerlaw14.ProofNone'. -/
def proofNoneUptoCard : Claim7 := { stood := { row := proofNoneUptoRow, standIns := [], harness := (true, "cfa8df18b88074a1826ea05d0999ceb722adcf3d74fcf38e2a41269d457193f0"), looks := true }, kinds := [], alts := [], laidByText := true, laidKinds := [.data, .data, .data, .data, .sentinel, .sentinel, .pinned], laidTests := true, laidLooks := .later }
def ProofNoneUptoCardSaid : Prop := Claim7.holds Tryz.pinned (.plain (OpenSpec.upto proofNoneSpec)) proofNoneUptoCard
end Rows
end Go.Proofs.YtibgogaabdngjaaGreatDoor
