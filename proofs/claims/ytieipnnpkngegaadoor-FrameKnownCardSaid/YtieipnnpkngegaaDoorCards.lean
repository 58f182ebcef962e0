/-
  DERIVED. GIVEN WITH THE SEED: THE CARDS: each row of YtieipnnpkngegaaDoorRows.lean that lists a variable, with what it lists TIED to the program's text (the seventh form; the later family's looks); each row that meets fmt, with fmt's text TOLD by the authors' own Lean function (tested against real Go, not proved from fmt's source: count such statements apart). THE CARD IS WHAT COUNTS. Prove the row's statement (the work); the ties are given (YtieipnnpkngegaaDoorTie.lean); close each card by the builder's one call (the guide's Derived/Test/ToyasCard.lean, 'card_holds'). Laid BY PROGRAM, IN A SANDBOX (cutbox-door.mjs). By AI agents, Wed Nov 11 2026. No macro, syntax, notation, axiom, sorry.
-/
import Derived.Test.YtieipnnpkngegaaDoorRows
import GoSem.ClaimSeven
namespace Go.Proofs.YtieipnnpkngegaaDoor
namespace Rows

/-- THE TIED CARD OF 'longwirelaw01.ScribeChecks'. -/
def scribeChecksCard : Claim7 := { stood := { row := scribeChecksRow, standIns := [], harness := (true, "e02a4b6656f5fa77eec44329562d97bedb0238078b2e0390aaef9799fcf91a6b"), looks := false }, kinds := [], alts := [], laidByText := true, laidKinds := [.data], laidTests := true, laidLooks := .later }
def ScribeChecksCardSaid : Prop := Claim7.holds Tryd.pinned (.plain (OpenSpec.ofChange scribeChecksSpec)) scribeChecksCard

/-- THE TIED CARD OF 'longwirelaw01.ScribeLays'. -/
def scribeLaysCard : Claim7 := { stood := { row := scribeLaysRow, standIns := [], harness := (true, "e02a4b6656f5fa77eec44329562d97bedb0238078b2e0390aaef9799fcf91a6b"), looks := false }, kinds := [], alts := [], laidByText := true, laidKinds := [.data], laidTests := true, laidLooks := .later }
def ScribeLaysCardSaid : Prop := Claim7.holds Tryd.pinned (.plain (OpenSpec.ofChange scribeLaysSpec)) scribeLaysCard

/-- THE TIED CARD OF 'longwirelaw01.ScribeBits'. -/
def scribeBitsCard : Claim7 := { stood := { row := scribeBitsRow, standIns := [], harness := (true, "e02a4b6656f5fa77eec44329562d97bedb0238078b2e0390aaef9799fcf91a6b"), looks := false }, kinds := [], alts := [], laidByText := true, laidKinds := [.data], laidTests := true, laidLooks := .later }
def ScribeBitsCardSaid : Prop := Claim7.holds Tryd.pinned (.plain (OpenSpec.ofChange scribeBitsSpec)) scribeBitsCard

/-- THE TIED CARD OF 'longwirelaw01.ScribeReads'. -/
def scribeReadsCard : Claim7 := { stood := { row := scribeReadsRow, standIns := [], harness := (true, "e02a4b6656f5fa77eec44329562d97bedb0238078b2e0390aaef9799fcf91a6b"), looks := false }, kinds := [], alts := [], laidByText := true, laidKinds := [.data], laidTests := true, laidLooks := .later }
def ScribeReadsCardSaid : Prop := Claim7.holds Tryd.pinned (.plain (OpenSpec.ofChange scribeReadsSpec)) scribeReadsCard

/-- THE TIED CARD OF 'longwirelaw01.ScribeBack'. -/
def scribeBackCard : Claim7 := { stood := { row := scribeBackRow, standIns := [], harness := (true, "e02a4b6656f5fa77eec44329562d97bedb0238078b2e0390aaef9799fcf91a6b"), looks := false }, kinds := [], alts := [], laidByText := true, laidKinds := [.data], laidTests := true, laidLooks := .later }
def ScribeBackCardSaid : Prop := Claim7.holds Tryd.pinned (.plain (OpenSpec.ofChange scribeBackSpec)) scribeBackCard

/-- THE TIED CARD OF 'longwirelaw01.ScribeKnown'. -/
def scribeKnownCard : Claim7 := { stood := { row := scribeKnownRow, standIns := [], harness := (true, "e02a4b6656f5fa77eec44329562d97bedb0238078b2e0390aaef9799fcf91a6b"), looks := false }, kinds := [], alts := [], laidByText := true, laidKinds := [.data], laidTests := true, laidLooks := .later }
def ScribeKnownCardSaid : Prop := Claim7.holds Tryd.pinned (.plain (OpenSpec.ofChange scribeKnownSpec)) scribeKnownCard

/-- THE TIED CARD OF 'longwirelaw04.FrameLays'. -/
def frameLaysCard : Claim7 := { stood := { row := frameLaysRow, standIns := [], harness := (true, "e02a4b6656f5fa77eec44329562d97bedb0238078b2e0390aaef9799fcf91a6b"), looks := false }, kinds := [], alts := [], laidByText := true, laidKinds := [.data, .funcs], laidTests := true, laidLooks := .later }
def FrameLaysCardSaid : Prop := Claim7.holds Tryd.pinned (.plain (OpenSpec.ofChange frameLaysSpec)) frameLaysCard

/-- THE TIED CARD OF 'longwirelaw04.FrameSigned'. -/
def frameSignedCard : Claim7 := { stood := { row := frameSignedRow, standIns := [], harness := (true, "e02a4b6656f5fa77eec44329562d97bedb0238078b2e0390aaef9799fcf91a6b"), looks := false }, kinds := [], alts := [], laidByText := true, laidKinds := [.data, .funcs], laidTests := true, laidLooks := .later }
def FrameSignedCardSaid : Prop := Claim7.holds Tryd.pinned (.plain (OpenSpec.ofChange frameSignedSpec)) frameSignedCard

/-- THE TIED CARD OF 'longwirelaw04.FrameReads'. -/
def frameReadsCard : Claim7 := { stood := { row := frameReadsRow, standIns := [], harness := (true, "e02a4b6656f5fa77eec44329562d97bedb0238078b2e0390aaef9799fcf91a6b"), looks := false }, kinds := [], alts := [], laidByText := true, laidKinds := [.data, .funcs], laidTests := true, laidLooks := .later }
def FrameReadsCardSaid : Prop := Claim7.holds Tryd.pinned (.plain (OpenSpec.ofChange frameReadsSpec)) frameReadsCard

/-- THE TIED CARD OF 'longwirelaw04.FrameKnown'. -/
def frameKnownCard : Claim7 := { stood := { row := frameKnownRow, standIns := [], harness := (true, "e02a4b6656f5fa77eec44329562d97bedb0238078b2e0390aaef9799fcf91a6b"), looks := false }, kinds := [], alts := [], laidByText := true, laidKinds := [.data, .funcs], laidTests := true, laidLooks := .later }
def FrameKnownCardSaid : Prop := Claim7.holds Tryd.pinned (.plain (OpenSpec.ofChange frameKnownSpec)) frameKnownCard

/-- THE TIED CARD OF 'longwirelaw04.FrameBack'. -/
def frameBackCard : Claim7 := { stood := { row := frameBackRow, standIns := [], harness := (true, "e02a4b6656f5fa77eec44329562d97bedb0238078b2e0390aaef9799fcf91a6b"), looks := false }, kinds := [], alts := [], laidByText := true, laidKinds := [.data, .funcs], laidTests := true, laidLooks := .later }
def FrameBackCardSaid : Prop := Claim7.holds Tryd.pinned (.plain (OpenSpec.ofChange frameBackSpec)) frameBackCard

/-- THE SECOND FORM's CARD OF 'longwirelaw01.ScribeChecks'. -/
def scribeChecksUptoCard : Claim7 := { stood := { row := scribeChecksUptoRow, standIns := [], harness := (true, "e02a4b6656f5fa77eec44329562d97bedb0238078b2e0390aaef9799fcf91a6b"), looks := false }, kinds := [], alts := [], laidByText := true, laidKinds := [.data], laidTests := true, laidLooks := .later }
def ScribeChecksUptoCardSaid : Prop := Claim7.holds Tryd.pinned (.plain (OpenSpec.upto scribeChecksSpec)) scribeChecksUptoCard

/-- THE SECOND FORM's CARD OF 'longwirelaw01.ScribeLays'. -/
def scribeLaysUptoCard : Claim7 := { stood := { row := scribeLaysUptoRow, standIns := [], harness := (true, "e02a4b6656f5fa77eec44329562d97bedb0238078b2e0390aaef9799fcf91a6b"), looks := false }, kinds := [], alts := [], laidByText := true, laidKinds := [.data], laidTests := true, laidLooks := .later }
def ScribeLaysUptoCardSaid : Prop := Claim7.holds Tryd.pinned (.plain (OpenSpec.upto scribeLaysSpec)) scribeLaysUptoCard

/-- THE SECOND FORM's CARD OF 'longwirelaw01.ScribeBits'. -/
def scribeBitsUptoCard : Claim7 := { stood := { row := scribeBitsUptoRow, standIns := [], harness := (true, "e02a4b6656f5fa77eec44329562d97bedb0238078b2e0390aaef9799fcf91a6b"), looks := false }, kinds := [], alts := [], laidByText := true, laidKinds := [.data], laidTests := true, laidLooks := .later }
def ScribeBitsUptoCardSaid : Prop := Claim7.holds Tryd.pinned (.plain (OpenSpec.upto scribeBitsSpec)) scribeBitsUptoCard

/-- THE SECOND FORM's CARD OF 'longwirelaw01.ScribeReads'. -/
def scribeReadsUptoCard : Claim7 := { stood := { row := scribeReadsUptoRow, standIns := [], harness := (true, "e02a4b6656f5fa77eec44329562d97bedb0238078b2e0390aaef9799fcf91a6b"), looks := false }, kinds := [], alts := [], laidByText := true, laidKinds := [.data], laidTests := true, laidLooks := .later }
def ScribeReadsUptoCardSaid : Prop := Claim7.holds Tryd.pinned (.plain (OpenSpec.upto scribeReadsSpec)) scribeReadsUptoCard

/-- THE SECOND FORM's CARD OF 'longwirelaw01.ScribeBack'. -/
def scribeBackUptoCard : Claim7 := { stood := { row := scribeBackUptoRow, standIns := [], harness := (true, "e02a4b6656f5fa77eec44329562d97bedb0238078b2e0390aaef9799fcf91a6b"), looks := false }, kinds := [], alts := [], laidByText := true, laidKinds := [.data], laidTests := true, laidLooks := .later }
def ScribeBackUptoCardSaid : Prop := Claim7.holds Tryd.pinned (.plain (OpenSpec.upto scribeBackSpec)) scribeBackUptoCard

/-- THE SECOND FORM's CARD OF 'longwirelaw01.ScribeKnown'. -/
def scribeKnownUptoCard : Claim7 := { stood := { row := scribeKnownUptoRow, standIns := [], harness := (true, "e02a4b6656f5fa77eec44329562d97bedb0238078b2e0390aaef9799fcf91a6b"), looks := false }, kinds := [], alts := [], laidByText := true, laidKinds := [.data], laidTests := true, laidLooks := .later }
def ScribeKnownUptoCardSaid : Prop := Claim7.holds Tryd.pinned (.plain (OpenSpec.upto scribeKnownSpec)) scribeKnownUptoCard

/-- THE SECOND FORM's CARD OF 'longwirelaw04.FrameLays'. -/
def frameLaysUptoCard : Claim7 := { stood := { row := frameLaysUptoRow, standIns := [], harness := (true, "e02a4b6656f5fa77eec44329562d97bedb0238078b2e0390aaef9799fcf91a6b"), looks := false }, kinds := [], alts := [], laidByText := true, laidKinds := [.data, .funcs], laidTests := true, laidLooks := .later }
def FrameLaysUptoCardSaid : Prop := Claim7.holds Tryd.pinned (.plain (OpenSpec.upto frameLaysSpec)) frameLaysUptoCard

/-- THE SECOND FORM's CARD OF 'longwirelaw04.FrameSigned'. -/
def frameSignedUptoCard : Claim7 := { stood := { row := frameSignedUptoRow, standIns := [], harness := (true, "e02a4b6656f5fa77eec44329562d97bedb0238078b2e0390aaef9799fcf91a6b"), looks := false }, kinds := [], alts := [], laidByText := true, laidKinds := [.data, .funcs], laidTests := true, laidLooks := .later }
def FrameSignedUptoCardSaid : Prop := Claim7.holds Tryd.pinned (.plain (OpenSpec.upto frameSignedSpec)) frameSignedUptoCard

/-- THE SECOND FORM's CARD OF 'longwirelaw04.FrameReads'. -/
def frameReadsUptoCard : Claim7 := { stood := { row := frameReadsUptoRow, standIns := [], harness := (true, "e02a4b6656f5fa77eec44329562d97bedb0238078b2e0390aaef9799fcf91a6b"), looks := false }, kinds := [], alts := [], laidByText := true, laidKinds := [.data, .funcs], laidTests := true, laidLooks := .later }
def FrameReadsUptoCardSaid : Prop := Claim7.holds Tryd.pinned (.plain (OpenSpec.upto frameReadsSpec)) frameReadsUptoCard

/-- THE SECOND FORM's CARD OF 'longwirelaw04.FrameKnown'. -/
def frameKnownUptoCard : Claim7 := { stood := { row := frameKnownUptoRow, standIns := [], harness := (true, "e02a4b6656f5fa77eec44329562d97bedb0238078b2e0390aaef9799fcf91a6b"), looks := false }, kinds := [], alts := [], laidByText := true, laidKinds := [.data, .funcs], laidTests := true, laidLooks := .later }
def FrameKnownUptoCardSaid : Prop := Claim7.holds Tryd.pinned (.plain (OpenSpec.upto frameKnownSpec)) frameKnownUptoCard

/-- THE SECOND FORM's CARD OF 'longwirelaw04.FrameBack'. -/
def frameBackUptoCard : Claim7 := { stood := { row := frameBackUptoRow, standIns := [], harness := (true, "e02a4b6656f5fa77eec44329562d97bedb0238078b2e0390aaef9799fcf91a6b"), looks := false }, kinds := [], alts := [], laidByText := true, laidKinds := [.data, .funcs], laidTests := true, laidLooks := .later }
def FrameBackUptoCardSaid : Prop := Claim7.holds Tryd.pinned (.plain (OpenSpec.upto frameBackSpec)) frameBackUptoCard
end Rows
end Go.Proofs.YtieipnnpkngegaaDoor
