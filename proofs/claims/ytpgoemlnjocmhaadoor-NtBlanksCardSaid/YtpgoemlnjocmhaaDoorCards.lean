/-
  DERIVED. GIVEN WITH THE SEED: THE CARDS: each row of YtpgoemlnjocmhaaDoorRows.lean that lists a variable, with what it lists TIED to the program's text (the seventh form; the later family's looks); each row that meets fmt, with fmt's text TOLD by the authors' own Lean function (tested against real Go, not proved from fmt's source: count such statements apart). THE CARD IS WHAT COUNTS. Prove the row's statement (the work); the ties are given (YtpgoemlnjocmhaaDoorTie.lean); close each card by the builder's one call (the guide's Derived/Test/ToyasCard.lean, 'card_holds'). Laid BY PROGRAM, IN A SANDBOX (cutbox-door.mjs). By AI agents, Wed Nov 11 2026. No macro, syntax, notation, axiom, sorry.
-/
import Derived.Test.YtpgoemlnjocmhaaDoorRows
import GoSem.ClaimSeven
namespace Go.Proofs.YtpgoemlnjocmhaaDoor
namespace Rows

/-- THE TIED CARD OF 'triadlaw11.LexTokens'. -/
def lexTokensCard : Claim7 := { stood := { row := lexTokensRow, standIns := [], harness := (true, "de02fa56b9332c732a63307169988dfd24f2134a98c4d2dba160de725a7abae7"), looks := false }, kinds := [], alts := [], laidByText := true, laidKinds := [.data, .pinned], laidTests := true, laidLooks := .later }
def LexTokensCardSaid : Prop := Claim7.holds Tryd.pinned (.plain (OpenSpec.ofChange lexTokensSpec)) lexTokensCard

/-- THE TIED CARD OF 'triadlaw9.NtBlanks'. -/
def ntBlanksCard : Claim7 := { stood := { row := ntBlanksRow, standIns := [], harness := (true, "de02fa56b9332c732a63307169988dfd24f2134a98c4d2dba160de725a7abae7"), looks := false }, kinds := [], alts := [], laidByText := true, laidKinds := [.data, .pinned], laidTests := true, laidLooks := .later }
def NtBlanksCardSaid : Prop := Claim7.holds Tryd.pinned (.plain (OpenSpec.ofChange ntBlanksSpec)) ntBlanksCard

/-- THE SECOND FORM's CARD OF 'triadlaw11.LexTokens'. -/
def lexTokensUptoCard : Claim7 := { stood := { row := lexTokensUptoRow, standIns := [], harness := (true, "de02fa56b9332c732a63307169988dfd24f2134a98c4d2dba160de725a7abae7"), looks := false }, kinds := [], alts := [], laidByText := true, laidKinds := [.data, .pinned], laidTests := true, laidLooks := .later }
def LexTokensUptoCardSaid : Prop := Claim7.holds Tryd.pinned (.plain (OpenSpec.upto lexTokensSpec)) lexTokensUptoCard

/-- THE SECOND FORM's CARD OF 'triadlaw9.NtBlanks'. -/
def ntBlanksUptoCard : Claim7 := { stood := { row := ntBlanksUptoRow, standIns := [], harness := (true, "de02fa56b9332c732a63307169988dfd24f2134a98c4d2dba160de725a7abae7"), looks := false }, kinds := [], alts := [], laidByText := true, laidKinds := [.data, .pinned], laidTests := true, laidLooks := .later }
def NtBlanksUptoCardSaid : Prop := Claim7.holds Tryd.pinned (.plain (OpenSpec.upto ntBlanksSpec)) ntBlanksUptoCard
end Rows
end Go.Proofs.YtpgoemlnjocmhaaDoor
