/-
  DERIVED. GIVEN WITH THE SEED: THE CARDS: each row of YtnbdmmepdmmbmaaDoorRows.lean that lists a variable, with what it lists TIED to the program's text (the seventh form; the later family's looks); each row that meets fmt, with fmt's text TOLD by the authors' own Lean function (tested against real Go, not proved from fmt's source: count such statements apart). THE CARD IS WHAT COUNTS. Prove the row's statement (the work); the ties are given (YtnbdmmepdmmbmaaDoorTie.lean); close each card by the builder's one call (the guide's Derived/Test/ToyasCard.lean, 'card_holds'). Laid BY PROGRAM, IN A SANDBOX (cutbox-door.mjs). By AI agents, Wed Nov 11 2026. No macro, syntax, notation, axiom, sorry.
-/
import Derived.Test.YtnbdmmepdmmbmaaDoorRows
import GoSem.ClaimSeven
namespace Go.Proofs.YtnbdmmepdmmbmaaDoor
namespace Rows

/-- THE TIED CARD OF 'claplaw1.UtfMends'. -/
def utfMendsCard : Claim7 := { stood := { row := utfMendsRow, standIns := [], harness := (true, "1428df8808c9ad85da30109115a50d149b3167b2186aeae6e611edbd7df8ba6b"), looks := false }, kinds := [], alts := [], laidByText := true, laidKinds := [.data, .pinned], laidTests := true, laidLooks := .later }
def UtfMendsCardSaid : Prop := Claim7.holds Tryd.pinned (.plain (OpenSpec.ofChange utfMendsSpec)) utfMendsCard

/-- THE TIED CARD OF 'claplaw1.BitsReads'. -/
def bitsReadsCard : Claim7 := { stood := { row := bitsReadsRow, standIns := [], harness := (true, "1428df8808c9ad85da30109115a50d149b3167b2186aeae6e611edbd7df8ba6b"), looks := false }, kinds := [], alts := [], laidByText := true, laidKinds := [.data, .pinned], laidTests := true, laidLooks := .later }
def BitsReadsCardSaid : Prop := Claim7.holds Tryd.pinned (.plain (OpenSpec.ofChange bitsReadsSpec)) bitsReadsCard

/-- THE TIED CARD OF 'claplaw1.FloatMakes'. -/
def floatMakesCard : Claim7 := { stood := { row := floatMakesRow, standIns := [], harness := (true, "1428df8808c9ad85da30109115a50d149b3167b2186aeae6e611edbd7df8ba6b"), looks := false }, kinds := [], alts := [], laidByText := true, laidKinds := [.data, .pinned], laidTests := true, laidLooks := .later }
def FloatMakesCardSaid : Prop := Claim7.holds Tryd.pinned (.plain (OpenSpec.ofChange floatMakesSpec)) floatMakesCard

/-- THE TIED CARD OF 'claplaw1.DayDates'. -/
def dayDatesCard : Claim7 := { stood := { row := dayDatesRow, standIns := [], harness := (true, "1428df8808c9ad85da30109115a50d149b3167b2186aeae6e611edbd7df8ba6b"), looks := false }, kinds := [], alts := [], laidByText := true, laidKinds := [.data, .data, .data], laidTests := true, laidLooks := .later }
def DayDatesCardSaid : Prop := Claim7.holds Tryd.pinned (.plain (OpenSpec.ofChange dayDatesSpec)) dayDatesCard

/-- THE SECOND FORM's CARD OF 'claplaw1.UtfMends'. -/
def utfMendsUptoCard : Claim7 := { stood := { row := utfMendsUptoRow, standIns := [], harness := (true, "1428df8808c9ad85da30109115a50d149b3167b2186aeae6e611edbd7df8ba6b"), looks := false }, kinds := [], alts := [], laidByText := true, laidKinds := [.data, .pinned], laidTests := true, laidLooks := .later }
def UtfMendsUptoCardSaid : Prop := Claim7.holds Tryd.pinned (.plain (OpenSpec.upto utfMendsSpec)) utfMendsUptoCard

/-- THE SECOND FORM's CARD OF 'claplaw1.BitsReads'. -/
def bitsReadsUptoCard : Claim7 := { stood := { row := bitsReadsUptoRow, standIns := [], harness := (true, "1428df8808c9ad85da30109115a50d149b3167b2186aeae6e611edbd7df8ba6b"), looks := false }, kinds := [], alts := [], laidByText := true, laidKinds := [.data, .pinned], laidTests := true, laidLooks := .later }
def BitsReadsUptoCardSaid : Prop := Claim7.holds Tryd.pinned (.plain (OpenSpec.upto bitsReadsSpec)) bitsReadsUptoCard

/-- THE SECOND FORM's CARD OF 'claplaw1.FloatMakes'. -/
def floatMakesUptoCard : Claim7 := { stood := { row := floatMakesUptoRow, standIns := [], harness := (true, "1428df8808c9ad85da30109115a50d149b3167b2186aeae6e611edbd7df8ba6b"), looks := false }, kinds := [], alts := [], laidByText := true, laidKinds := [.data, .pinned], laidTests := true, laidLooks := .later }
def FloatMakesUptoCardSaid : Prop := Claim7.holds Tryd.pinned (.plain (OpenSpec.upto floatMakesSpec)) floatMakesUptoCard

/-- THE SECOND FORM's CARD OF 'claplaw1.DayDates'. -/
def dayDatesUptoCard : Claim7 := { stood := { row := dayDatesUptoRow, standIns := [], harness := (true, "1428df8808c9ad85da30109115a50d149b3167b2186aeae6e611edbd7df8ba6b"), looks := false }, kinds := [], alts := [], laidByText := true, laidKinds := [.data, .data, .data], laidTests := true, laidLooks := .later }
def DayDatesUptoCardSaid : Prop := Claim7.holds Tryd.pinned (.plain (OpenSpec.upto dayDatesSpec)) dayDatesUptoCard
end Rows
end Go.Proofs.YtnbdmmepdmmbmaaDoor
