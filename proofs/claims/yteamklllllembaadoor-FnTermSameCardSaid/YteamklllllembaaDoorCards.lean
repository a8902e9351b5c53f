/-
  DERIVED. GIVEN WITH THE SEED: THE CARDS: each row of YteamklllllembaaDoorRows.lean that lists a variable, with what it lists TIED to the program's text (the seventh form; the later family's looks); each row that meets fmt, with fmt's text TOLD by the authors' own Lean function (tested against real Go, not proved from fmt's source: count such statements apart). THE CARD IS WHAT COUNTS. Prove the row's statement (the work); the ties are given (YteamklllllembaaDoorTie.lean); close each card by the builder's one call (the guide's Derived/Test/ToyasCard.lean, 'card_holds'). Laid BY PROGRAM, IN A SANDBOX (cutbox-door.mjs). By AI agents, Wed Nov 11 2026. No macro, syntax, notation, axiom, sorry.
-/
import Derived.Test.YteamklllllembaaDoorRows
import GoSem.ClaimSeven
namespace Go.Proofs.YteamklllllembaaDoor
namespace Rows

/-- THE TIED CARD OF 'laws.FnExactParseTerm'. -/
def fnExactParseTermCard : Claim7 := { stood := { row := fnExactParseTermRow, standIns := [], harness := (true, "df5ea044d670756d09eaac5841cf2ebc957ca802ad91ec6362c32fecf98ae1f3"), looks := true }, kinds := [], alts := [], laidByText := true, laidKinds := [.data, .data, .data, .data, .sentinel, .sentinel, .pinned], laidTests := true, laidLooks := .later }
def FnExactParseTermCardSaid : Prop := Claim7.holds Tryd.pinned (.plain (OpenSpec.ofChange fnExactParseTermSpec)) fnExactParseTermCard

/-- THE TIED CARD OF 'laws.FnTermText'. -/
def fnTermTextCard : Claim7 := { stood := { row := fnTermTextRow, standIns := [], harness := (true, "df5ea044d670756d09eaac5841cf2ebc957ca802ad91ec6362c32fecf98ae1f3"), looks := true }, kinds := [], alts := [], laidByText := true, laidKinds := [.data, .data, .data, .data, .sentinel, .sentinel, .pinned], laidTests := true, laidLooks := .later }
def FnTermTextCardSaid : Prop := Claim7.holds Tryd.pinned (.plain (OpenSpec.ofChange fnTermTextSpec)) fnTermTextCard

/-- THE TIED CARD OF 'laws.FnTermSame'. -/
def fnTermSameCard : Claim7 := { stood := { row := fnTermSameRow, standIns := [], harness := (true, "df5ea044d670756d09eaac5841cf2ebc957ca802ad91ec6362c32fecf98ae1f3"), looks := true }, kinds := [], alts := [], laidByText := true, laidKinds := [.data, .data, .data, .data, .pinned], laidTests := true, laidLooks := .later }
def FnTermSameCardSaid : Prop := Claim7.holds Tryd.pinned (.plain (OpenSpec.ofChange fnTermSameSpec)) fnTermSameCard

/-- THE TIED CARD OF 'laws.FnExactFormatTerm'. -/
def fnExactFormatTermCard : Claim7 := { stood := { row := fnExactFormatTermRow, standIns := [], harness := (true, "df5ea044d670756d09eaac5841cf2ebc957ca802ad91ec6362c32fecf98ae1f3"), looks := true }, kinds := [], alts := [], laidByText := true, laidKinds := [.data, .data, .data, .data, .pinned], laidTests := true, laidLooks := .later }
def FnExactFormatTermCardSaid : Prop := Claim7.holds Tryd.pinned (.plain (OpenSpec.ofChange fnExactFormatTermSpec)) fnExactFormatTermCard

/-- THE TIED CARD OF 'laws.FnTextLength'. -/
def fnTextLengthCard : Claim7 := { stood := { row := fnTextLengthRow, standIns := [], harness := (true, "df5ea044d670756d09eaac5841cf2ebc957ca802ad91ec6362c32fecf98ae1f3"), looks := true }, kinds := [], alts := [], laidByText := true, laidKinds := [.data, .data, .data, .data, .pinned], laidTests := true, laidLooks := .later }
def FnTextLengthCardSaid : Prop := Claim7.holds Tryd.pinned (.plain (OpenSpec.ofChange fnTextLengthSpec)) fnTextLengthCard

/-- THE SECOND FORM's CARD OF 'laws.FnExactParseTerm'. -/
def fnExactParseTermUptoCard : Claim7 := { stood := { row := fnExactParseTermUptoRow, standIns := [], harness := (true, "df5ea044d670756d09eaac5841cf2ebc957ca802ad91ec6362c32fecf98ae1f3"), looks := true }, kinds := [], alts := [], laidByText := true, laidKinds := [.data, .data, .data, .data, .sentinel, .sentinel, .pinned], laidTests := true, laidLooks := .later }
def FnExactParseTermUptoCardSaid : Prop := Claim7.holds Tryd.pinned (.plain (OpenSpec.upto fnExactParseTermSpec)) fnExactParseTermUptoCard

/-- THE SECOND FORM's CARD OF 'laws.FnTermText'. -/
def fnTermTextUptoCard : Claim7 := { stood := { row := fnTermTextUptoRow, standIns := [], harness := (true, "df5ea044d670756d09eaac5841cf2ebc957ca802ad91ec6362c32fecf98ae1f3"), looks := true }, kinds := [], alts := [], laidByText := true, laidKinds := [.data, .data, .data, .data, .sentinel, .sentinel, .pinned], laidTests := true, laidLooks := .later }
def FnTermTextUptoCardSaid : Prop := Claim7.holds Tryd.pinned (.plain (OpenSpec.upto fnTermTextSpec)) fnTermTextUptoCard

/-- THE SECOND FORM's CARD OF 'laws.FnTermSame'. -/
def fnTermSameUptoCard : Claim7 := { stood := { row := fnTermSameUptoRow, standIns := [], harness := (true, "df5ea044d670756d09eaac5841cf2ebc957ca802ad91ec6362c32fecf98ae1f3"), looks := true }, kinds := [], alts := [], laidByText := true, laidKinds := [.data, .data, .data, .data, .pinned], laidTests := true, laidLooks := .later }
def FnTermSameUptoCardSaid : Prop := Claim7.holds Tryd.pinned (.plain (OpenSpec.upto fnTermSameSpec)) fnTermSameUptoCard

/-- THE SECOND FORM's CARD OF 'laws.FnExactFormatTerm'. -/
def fnExactFormatTermUptoCard : Claim7 := { stood := { row := fnExactFormatTermUptoRow, standIns := [], harness := (true, "df5ea044d670756d09eaac5841cf2ebc957ca802ad91ec6362c32fecf98ae1f3"), looks := true }, kinds := [], alts := [], laidByText := true, laidKinds := [.data, .data, .data, .data, .pinned], laidTests := true, laidLooks := .later }
def FnExactFormatTermUptoCardSaid : Prop := Claim7.holds Tryd.pinned (.plain (OpenSpec.upto fnExactFormatTermSpec)) fnExactFormatTermUptoCard

/-- THE SECOND FORM's CARD OF 'laws.FnTextLength'. -/
def fnTextLengthUptoCard : Claim7 := { stood := { row := fnTextLengthUptoRow, standIns := [], harness := (true, "df5ea044d670756d09eaac5841cf2ebc957ca802ad91ec6362c32fecf98ae1f3"), looks := true }, kinds := [], alts := [], laidByText := true, laidKinds := [.data, .data, .data, .data, .pinned], laidTests := true, laidLooks := .later }
def FnTextLengthUptoCardSaid : Prop := Claim7.holds Tryd.pinned (.plain (OpenSpec.upto fnTextLengthSpec)) fnTextLengthUptoCard
end Rows
end Go.Proofs.YteamklllllembaaDoor
