/-
  DERIVED. GIVEN WITH THE SEED: THE CARDS: each row of YtkienapjmgjafaaDoorRows.lean that lists a variable, with what it lists TIED to the program's text (the seventh form; the later family's looks); each row that meets fmt, with fmt's text TOLD by the authors' own Lean function (tested against real Go, not proved from fmt's source: count such statements apart). THE CARD IS WHAT COUNTS. Prove the row's statement (the work); the ties are given (YtkienapjmgjafaaDoorTie.lean); close each card by the builder's one call (the guide's Derived/Test/ToyasCard.lean, 'card_holds'). Laid BY PROGRAM, IN A SANDBOX (cutbox-door.mjs). By AI agents, Wed Nov 11 2026. No macro, syntax, notation, axiom, sorry.
-/
import Derived.Test.YtkienapjmgjafaaDoorRows
import GoSem.ClaimSeven
namespace Go.Proofs.YtkienapjmgjafaaDoor
namespace Rows

/-- THE TIED CARD OF 'laws.FnExactDigitProduct'. -/
def fnExactDigitProductCard : Claim7 := { stood := { row := fnExactDigitProductRow, standIns := [], harness := (true, "48f48355e672f47f043eabd00806154fcf8ccbb5b6352a28794407111a1ee328"), looks := false }, kinds := [], alts := [], laidByText := true, laidKinds := [.data, .data, .data], laidTests := true, laidLooks := .later }
def FnExactDigitProductCardSaid : Prop := Claim7.holds Tryd.pinned (.plain (OpenSpec.ofChange fnExactDigitProductSpec)) fnExactDigitProductCard

/-- THE TIED CARD OF 'laws.FnExactDigitSum'. -/
def fnExactDigitSumCard : Claim7 := { stood := { row := fnExactDigitSumRow, standIns := [], harness := (true, "48f48355e672f47f043eabd00806154fcf8ccbb5b6352a28794407111a1ee328"), looks := false }, kinds := [], alts := [], laidByText := true, laidKinds := [.data, .data, .data], laidTests := true, laidLooks := .later }
def FnExactDigitSumCardSaid : Prop := Claim7.holds Tryd.pinned (.plain (OpenSpec.ofChange fnExactDigitSumSpec)) fnExactDigitSumCard

/-- THE TIED CARD OF 'laws.FnExactProductEnd'. -/
def fnExactProductEndCard : Claim7 := { stood := { row := fnExactProductEndRow, standIns := [], harness := (true, "48f48355e672f47f043eabd00806154fcf8ccbb5b6352a28794407111a1ee328"), looks := false }, kinds := [], alts := [], laidByText := true, laidKinds := [.data, .data, .data], laidTests := true, laidLooks := .later }
def FnExactProductEndCardSaid : Prop := Claim7.holds Tryd.pinned (.plain (OpenSpec.ofChange fnExactProductEndSpec)) fnExactProductEndCard

/-- THE TIED CARD OF 'laws.FnExactDigitRoot'. -/
def fnExactDigitRootCard : Claim7 := { stood := { row := fnExactDigitRootRow, standIns := [], harness := (true, "48f48355e672f47f043eabd00806154fcf8ccbb5b6352a28794407111a1ee328"), looks := false }, kinds := [], alts := [], laidByText := true, laidKinds := [.data, .data, .data], laidTests := true, laidLooks := .later }
def FnExactDigitRootCardSaid : Prop := Claim7.holds Tryd.pinned (.plain (OpenSpec.ofChange fnExactDigitRootSpec)) fnExactDigitRootCard

/-- THE TIED CARD OF 'laws.FnExactCountWithout'. -/
def fnExactCountWithoutCard : Claim7 := { stood := { row := fnExactCountWithoutRow, standIns := [], harness := (true, "48f48355e672f47f043eabd00806154fcf8ccbb5b6352a28794407111a1ee328"), looks := false }, kinds := [], alts := [], laidByText := true, laidKinds := [.data, .data, .data], laidTests := true, laidLooks := .later }
def FnExactCountWithoutCardSaid : Prop := Claim7.holds Tryd.pinned (.plain (OpenSpec.ofChange fnExactCountWithoutSpec)) fnExactCountWithoutCard

/-- THE TIED CARD OF 'laws.FnExactDigitAtPlace'. -/
def fnExactDigitAtPlaceCard : Claim7 := { stood := { row := fnExactDigitAtPlaceRow, standIns := [], harness := (true, "48f48355e672f47f043eabd00806154fcf8ccbb5b6352a28794407111a1ee328"), looks := false }, kinds := [], alts := [], laidByText := true, laidKinds := [.data, .data, .data], laidTests := true, laidLooks := .later }
def FnExactDigitAtPlaceCardSaid : Prop := Claim7.holds Tryd.pinned (.plain (OpenSpec.ofChange fnExactDigitAtPlaceSpec)) fnExactDigitAtPlaceCard

/-- THE TIED CARD OF 'laws.FnExactCounterShows'. -/
def fnExactCounterShowsCard : Claim7 := { stood := { row := fnExactCounterShowsRow, standIns := [], harness := (true, "48f48355e672f47f043eabd00806154fcf8ccbb5b6352a28794407111a1ee328"), looks := false }, kinds := [], alts := [], laidByText := true, laidKinds := [.data, .data, .data], laidTests := true, laidLooks := .later }
def FnExactCounterShowsCardSaid : Prop := Claim7.holds Tryd.pinned (.plain (OpenSpec.ofChange fnExactCounterShowsSpec)) fnExactCounterShowsCard

/-- THE TIED CARD OF 'laws.FnExactCountOfCounter'. -/
def fnExactCountOfCounterCard : Claim7 := { stood := { row := fnExactCountOfCounterRow, standIns := [], harness := (true, "48f48355e672f47f043eabd00806154fcf8ccbb5b6352a28794407111a1ee328"), looks := false }, kinds := [], alts := [], laidByText := true, laidKinds := [.data, .data, .data], laidTests := true, laidLooks := .later }
def FnExactCountOfCounterCardSaid : Prop := Claim7.holds Tryd.pinned (.plain (OpenSpec.ofChange fnExactCountOfCounterSpec)) fnExactCountOfCounterCard

/-- THE TIED CARD OF 'laws.FnExactCountOfSum'. -/
def fnExactCountOfSumCard : Claim7 := { stood := { row := fnExactCountOfSumRow, standIns := [], harness := (true, "48f48355e672f47f043eabd00806154fcf8ccbb5b6352a28794407111a1ee328"), looks := false }, kinds := [], alts := [], laidByText := true, laidKinds := [.data, .data, .data], laidTests := true, laidLooks := .later }
def FnExactCountOfSumCardSaid : Prop := Claim7.holds Tryd.pinned (.plain (OpenSpec.ofChange fnExactCountOfSumSpec)) fnExactCountOfSumCard

/-- THE TIED CARD OF 'laws.FnExactNextOfSum'. -/
def fnExactNextOfSumCard : Claim7 := { stood := { row := fnExactNextOfSumRow, standIns := [], harness := (true, "48f48355e672f47f043eabd00806154fcf8ccbb5b6352a28794407111a1ee328"), looks := false }, kinds := [], alts := [], laidByText := true, laidKinds := [.data, .data, .data], laidTests := true, laidLooks := .later }
def FnExactNextOfSumCardSaid : Prop := Claim7.holds Tryd.pinned (.plain (OpenSpec.ofChange fnExactNextOfSumSpec)) fnExactNextOfSumCard

/-- THE SECOND FORM's CARD OF 'laws.FnExactDigitProduct'. -/
def fnExactDigitProductUptoCard : Claim7 := { stood := { row := fnExactDigitProductUptoRow, standIns := [], harness := (true, "48f48355e672f47f043eabd00806154fcf8ccbb5b6352a28794407111a1ee328"), looks := false }, kinds := [], alts := [], laidByText := true, laidKinds := [.data, .data, .data], laidTests := true, laidLooks := .later }
def FnExactDigitProductUptoCardSaid : Prop := Claim7.holds Tryd.pinned (.plain (OpenSpec.upto fnExactDigitProductSpec)) fnExactDigitProductUptoCard

/-- THE SECOND FORM's CARD OF 'laws.FnExactDigitSum'. -/
def fnExactDigitSumUptoCard : Claim7 := { stood := { row := fnExactDigitSumUptoRow, standIns := [], harness := (true, "48f48355e672f47f043eabd00806154fcf8ccbb5b6352a28794407111a1ee328"), looks := false }, kinds := [], alts := [], laidByText := true, laidKinds := [.data, .data, .data], laidTests := true, laidLooks := .later }
def FnExactDigitSumUptoCardSaid : Prop := Claim7.holds Tryd.pinned (.plain (OpenSpec.upto fnExactDigitSumSpec)) fnExactDigitSumUptoCard

/-- THE SECOND FORM's CARD OF 'laws.FnExactProductEnd'. -/
def fnExactProductEndUptoCard : Claim7 := { stood := { row := fnExactProductEndUptoRow, standIns := [], harness := (true, "48f48355e672f47f043eabd00806154fcf8ccbb5b6352a28794407111a1ee328"), looks := false }, kinds := [], alts := [], laidByText := true, laidKinds := [.data, .data, .data], laidTests := true, laidLooks := .later }
def FnExactProductEndUptoCardSaid : Prop := Claim7.holds Tryd.pinned (.plain (OpenSpec.upto fnExactProductEndSpec)) fnExactProductEndUptoCard

/-- THE SECOND FORM's CARD OF 'laws.FnExactDigitRoot'. -/
def fnExactDigitRootUptoCard : Claim7 := { stood := { row := fnExactDigitRootUptoRow, standIns := [], harness := (true, "48f48355e672f47f043eabd00806154fcf8ccbb5b6352a28794407111a1ee328"), looks := false }, kinds := [], alts := [], laidByText := true, laidKinds := [.data, .data, .data], laidTests := true, laidLooks := .later }
def FnExactDigitRootUptoCardSaid : Prop := Claim7.holds Tryd.pinned (.plain (OpenSpec.upto fnExactDigitRootSpec)) fnExactDigitRootUptoCard

/-- THE SECOND FORM's CARD OF 'laws.FnExactCountWithout'. -/
def fnExactCountWithoutUptoCard : Claim7 := { stood := { row := fnExactCountWithoutUptoRow, standIns := [], harness := (true, "48f48355e672f47f043eabd00806154fcf8ccbb5b6352a28794407111a1ee328"), looks := false }, kinds := [], alts := [], laidByText := true, laidKinds := [.data, .data, .data], laidTests := true, laidLooks := .later }
def FnExactCountWithoutUptoCardSaid : Prop := Claim7.holds Tryd.pinned (.plain (OpenSpec.upto fnExactCountWithoutSpec)) fnExactCountWithoutUptoCard

/-- THE SECOND FORM's CARD OF 'laws.FnExactDigitAtPlace'. -/
def fnExactDigitAtPlaceUptoCard : Claim7 := { stood := { row := fnExactDigitAtPlaceUptoRow, standIns := [], harness := (true, "48f48355e672f47f043eabd00806154fcf8ccbb5b6352a28794407111a1ee328"), looks := false }, kinds := [], alts := [], laidByText := true, laidKinds := [.data, .data, .data], laidTests := true, laidLooks := .later }
def FnExactDigitAtPlaceUptoCardSaid : Prop := Claim7.holds Tryd.pinned (.plain (OpenSpec.upto fnExactDigitAtPlaceSpec)) fnExactDigitAtPlaceUptoCard

/-- THE SECOND FORM's CARD OF 'laws.FnExactCounterShows'. -/
def fnExactCounterShowsUptoCard : Claim7 := { stood := { row := fnExactCounterShowsUptoRow, standIns := [], harness := (true, "48f48355e672f47f043eabd00806154fcf8ccbb5b6352a28794407111a1ee328"), looks := false }, kinds := [], alts := [], laidByText := true, laidKinds := [.data, .data, .data], laidTests := true, laidLooks := .later }
def FnExactCounterShowsUptoCardSaid : Prop := Claim7.holds Tryd.pinned (.plain (OpenSpec.upto fnExactCounterShowsSpec)) fnExactCounterShowsUptoCard

/-- THE SECOND FORM's CARD OF 'laws.FnExactCountOfCounter'. -/
def fnExactCountOfCounterUptoCard : Claim7 := { stood := { row := fnExactCountOfCounterUptoRow, standIns := [], harness := (true, "48f48355e672f47f043eabd00806154fcf8ccbb5b6352a28794407111a1ee328"), looks := false }, kinds := [], alts := [], laidByText := true, laidKinds := [.data, .data, .data], laidTests := true, laidLooks := .later }
def FnExactCountOfCounterUptoCardSaid : Prop := Claim7.holds Tryd.pinned (.plain (OpenSpec.upto fnExactCountOfCounterSpec)) fnExactCountOfCounterUptoCard

/-- THE SECOND FORM's CARD OF 'laws.FnExactCountOfSum'. -/
def fnExactCountOfSumUptoCard : Claim7 := { stood := { row := fnExactCountOfSumUptoRow, standIns := [], harness := (true, "48f48355e672f47f043eabd00806154fcf8ccbb5b6352a28794407111a1ee328"), looks := false }, kinds := [], alts := [], laidByText := true, laidKinds := [.data, .data, .data], laidTests := true, laidLooks := .later }
def FnExactCountOfSumUptoCardSaid : Prop := Claim7.holds Tryd.pinned (.plain (OpenSpec.upto fnExactCountOfSumSpec)) fnExactCountOfSumUptoCard

/-- THE SECOND FORM's CARD OF 'laws.FnExactNextOfSum'. -/
def fnExactNextOfSumUptoCard : Claim7 := { stood := { row := fnExactNextOfSumUptoRow, standIns := [], harness := (true, "48f48355e672f47f043eabd00806154fcf8ccbb5b6352a28794407111a1ee328"), looks := false }, kinds := [], alts := [], laidByText := true, laidKinds := [.data, .data, .data], laidTests := true, laidLooks := .later }
def FnExactNextOfSumUptoCardSaid : Prop := Claim7.holds Tryd.pinned (.plain (OpenSpec.upto fnExactNextOfSumSpec)) fnExactNextOfSumUptoCard
end Rows
end Go.Proofs.YtkienapjmgjafaaDoor
