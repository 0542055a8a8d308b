/-
  DERIVED. GIVEN WITH THE SEED: THE CARDS: each row of YthlnaejmglajeaaDoorRows.lean that lists a variable, with what it lists TIED to the program's text (the seventh form; the later family's looks); each row that meets fmt, with fmt's text TOLD by the authors' own Lean function (tested against real Go, not proved from fmt's source: count such statements apart). THE CARD IS WHAT COUNTS. Prove the row's statement (the work); the ties are given (YthlnaejmglajeaaDoorTie.lean); close each card by the builder's one call (the guide's Derived/Test/ToyasCard.lean, 'card_holds'). Laid BY PROGRAM, IN A SANDBOX (cutbox-door.mjs). By AI agents, Wed Nov 11 2026. No macro, syntax, notation, axiom, sorry.
-/
import Derived.Test.YthlnaejmglajeaaDoorRows
import GoSem.ClaimSeven
namespace Go.Proofs.YthlnaejmglajeaaDoor
namespace Rows

/-- THE TIED CARD OF 'pedigreelaw19.AskTexts'. -/
def askTextsCard : Claim7 := { stood := { row := askTextsRow, standIns := [], harness := (true, "b19f37609dc240218ca22eb066649d6004d712230c27322aed897cda894aa1b3"), looks := true }, kinds := [], alts := [], laidByText := true, laidKinds := [.data, .data, .data, .sentinel, .sentinel], laidTests := true, laidLooks := .later }
def AskTextsCardSaid : Prop := Claim7.holds Tryd.pinned (.plain (OpenSpec.ofChange askTextsSpec)) askTextsCard

/-- THE TIED CARD OF 'pedigreelaw19.AskBlanks'. -/
def askBlanksCard : Claim7 := { stood := { row := askBlanksRow, standIns := [], harness := (true, "b19f37609dc240218ca22eb066649d6004d712230c27322aed897cda894aa1b3"), looks := true }, kinds := [], alts := [], laidByText := true, laidKinds := [.data, .data, .data, .sentinel, .sentinel], laidTests := true, laidLooks := .later }
def AskBlanksCardSaid : Prop := Claim7.holds Tryd.pinned (.plain (OpenSpec.ofChange askBlanksSpec)) askBlanksCard

/-- THE TIED CARD OF 'pedigreelaw19.AskRows'. -/
def askRowsCard : Claim7 := { stood := { row := askRowsRow, standIns := [], harness := (true, "b19f37609dc240218ca22eb066649d6004d712230c27322aed897cda894aa1b3"), looks := true }, kinds := [], alts := [], laidByText := true, laidKinds := [.data, .data, .data, .sentinel, .sentinel], laidTests := true, laidLooks := .later }
def AskRowsCardSaid : Prop := Claim7.holds Tryd.pinned (.plain (OpenSpec.ofChange askRowsSpec)) askRowsCard

/-- THE TIED CARD OF 'pedigreelaw19.AskStars'. -/
def askStarsCard : Claim7 := { stood := { row := askStarsRow, standIns := [], harness := (true, "b19f37609dc240218ca22eb066649d6004d712230c27322aed897cda894aa1b3"), looks := true }, kinds := [], alts := [], laidByText := true, laidKinds := [.data, .data, .data, .sentinel, .sentinel], laidTests := true, laidLooks := .later }
def AskStarsCardSaid : Prop := Claim7.holds Tryd.pinned (.plain (OpenSpec.ofChange askStarsSpec)) askStarsCard

/-- THE SECOND FORM's CARD OF 'pedigreelaw19.AskTexts'. -/
def askTextsUptoCard : Claim7 := { stood := { row := askTextsUptoRow, standIns := [], harness := (true, "b19f37609dc240218ca22eb066649d6004d712230c27322aed897cda894aa1b3"), looks := true }, kinds := [], alts := [], laidByText := true, laidKinds := [.data, .data, .data, .sentinel, .sentinel], laidTests := true, laidLooks := .later }
def AskTextsUptoCardSaid : Prop := Claim7.holds Tryd.pinned (.plain (OpenSpec.upto askTextsSpec)) askTextsUptoCard

/-- THE SECOND FORM's CARD OF 'pedigreelaw19.AskBlanks'. -/
def askBlanksUptoCard : Claim7 := { stood := { row := askBlanksUptoRow, standIns := [], harness := (true, "b19f37609dc240218ca22eb066649d6004d712230c27322aed897cda894aa1b3"), looks := true }, kinds := [], alts := [], laidByText := true, laidKinds := [.data, .data, .data, .sentinel, .sentinel], laidTests := true, laidLooks := .later }
def AskBlanksUptoCardSaid : Prop := Claim7.holds Tryd.pinned (.plain (OpenSpec.upto askBlanksSpec)) askBlanksUptoCard

/-- THE SECOND FORM's CARD OF 'pedigreelaw19.AskRows'. -/
def askRowsUptoCard : Claim7 := { stood := { row := askRowsUptoRow, standIns := [], harness := (true, "b19f37609dc240218ca22eb066649d6004d712230c27322aed897cda894aa1b3"), looks := true }, kinds := [], alts := [], laidByText := true, laidKinds := [.data, .data, .data, .sentinel, .sentinel], laidTests := true, laidLooks := .later }
def AskRowsUptoCardSaid : Prop := Claim7.holds Tryd.pinned (.plain (OpenSpec.upto askRowsSpec)) askRowsUptoCard

/-- THE SECOND FORM's CARD OF 'pedigreelaw19.AskStars'. -/
def askStarsUptoCard : Claim7 := { stood := { row := askStarsUptoRow, standIns := [], harness := (true, "b19f37609dc240218ca22eb066649d6004d712230c27322aed897cda894aa1b3"), looks := true }, kinds := [], alts := [], laidByText := true, laidKinds := [.data, .data, .data, .sentinel, .sentinel], laidTests := true, laidLooks := .later }
def AskStarsUptoCardSaid : Prop := Claim7.holds Tryd.pinned (.plain (OpenSpec.upto askStarsSpec)) askStarsUptoCard
end Rows
end Go.Proofs.YthlnaejmglajeaaDoor
