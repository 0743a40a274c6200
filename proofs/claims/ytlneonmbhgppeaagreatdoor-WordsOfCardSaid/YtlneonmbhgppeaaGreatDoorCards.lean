/-
  DERIVED. GIVEN WITH THE SEED: THE CARDS: each row of YtlneonmbhgppeaaGreatDoorRows.lean that lists a variable, with what it lists TIED to the program's text (the seventh form; the later family's looks); each row that meets fmt, with fmt's text TOLD by the authors' own Lean function (tested against real Go, not proved from fmt's source: count such statements apart). THE CARD IS WHAT COUNTS. Prove the row's statement (the work); the ties are given (YtlneonmbhgppeaaGreatDoorTie.lean); close each card by the builder's one call (the guide's Derived/Test/ToyasCard.lean, 'card_holds'). Laid BY PROGRAM, IN A SANDBOX (cutbox-door.mjs). By AI agents, Wed Nov 11 2026. No macro, syntax, notation, axiom, sorry.
-/
import Derived.Test.YtlneonmbhgppeaaGreatDoorRows
import GoSem.ClaimSeven
namespace Go.Proofs.YtlneonmbhgppeaaGreatDoor
namespace Rows

/-- THE TIED CARD OF 'cartouchelaw20.WordsOf'. -/
def wordsOfCard : Claim7 := { stood := { row := wordsOfRow, standIns := [], harness := (true, "841325e3427511efeea87bff5b4e8aa0849a531e84966af81b9c9c33b6814d26"), looks := true }, kinds := [], alts := [], laidByText := true, laidKinds := [.data, .data, .data, .sentinel, .sentinel, .data], laidTests := true, laidLooks := .later }
def WordsOfCardSaid : Prop := Claim7.holds Tryz.pinned (.plain (OpenSpec.ofChange wordsOfSpec)) wordsOfCard

/-- THE SECOND FORM's CARD OF 'cartouchelaw20.WordsOf'. -/
def wordsOfUptoCard : Claim7 := { stood := { row := wordsOfUptoRow, standIns := [], harness := (true, "841325e3427511efeea87bff5b4e8aa0849a531e84966af81b9c9c33b6814d26"), looks := true }, kinds := [], alts := [], laidByText := true, laidKinds := [.data, .data, .data, .sentinel, .sentinel, .data], laidTests := true, laidLooks := .later }
def WordsOfUptoCardSaid : Prop := Claim7.holds Tryz.pinned (.plain (OpenSpec.upto wordsOfSpec)) wordsOfUptoCard
end Rows
end Go.Proofs.YtlneonmbhgppeaaGreatDoor
