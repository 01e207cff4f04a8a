/-
  DERIVED. GIVEN WITH THE SEED: THE CARDS: each row of YtjpdakepfmepnaaDoorRows.lean that lists a variable, with what it lists TIED to the program's text (the seventh form; the later family's looks); each row that meets fmt, with fmt's text TOLD by the authors' own Lean function (tested against real Go, not proved from fmt's source: count such statements apart). THE CARD IS WHAT COUNTS. Prove the row's statement (the work); the ties are given (YtjpdakepfmepnaaDoorTie.lean); close each card by the builder's one call (the guide's Derived/Test/ToyasCard.lean, 'card_holds'). Laid BY PROGRAM, IN A SANDBOX (cutbox-door.mjs). By AI agents, Wed Nov 11 2026. No macro, syntax, notation, axiom, sorry.
-/
import Derived.Test.YtjpdakepfmepnaaDoorRows
import GoSem.ClaimSeven
namespace Go.Proofs.YtjpdakepfmepnaaDoor
namespace Rows

/-- THE TIED CARD OF 'idiomlaw09.PatternQuotes'. -/
def patternQuotesCard : Claim7 := { stood := { row := patternQuotesRow, standIns := [], harness := (true, "5622665fd8b2ab8c30c0f66a6ee5dcfdb157215e09eb7cca84f0a4ca3b32f709"), looks := false }, kinds := [], alts := [], laidByText := true, laidKinds := [.data, .pinned], laidTests := true, laidLooks := .later }
def PatternQuotesCardSaid : Prop := Claim7.holds Tryd.pinned (.plain (OpenSpec.ofChange patternQuotesSpec)) patternQuotesCard

/-- THE SECOND FORM's CARD OF 'idiomlaw09.PatternQuotes'. -/
def patternQuotesUptoCard : Claim7 := { stood := { row := patternQuotesUptoRow, standIns := [], harness := (true, "5622665fd8b2ab8c30c0f66a6ee5dcfdb157215e09eb7cca84f0a4ca3b32f709"), looks := false }, kinds := [], alts := [], laidByText := true, laidKinds := [.data, .pinned], laidTests := true, laidLooks := .later }
def PatternQuotesUptoCardSaid : Prop := Claim7.holds Tryd.pinned (.plain (OpenSpec.upto patternQuotesSpec)) patternQuotesUptoCard
end Rows
end Go.Proofs.YtjpdakepfmepnaaDoor
