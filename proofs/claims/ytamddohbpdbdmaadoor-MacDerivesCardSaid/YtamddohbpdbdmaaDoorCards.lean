/-
  DERIVED. GIVEN WITH THE SEED: THE CARDS: each row of YtamddohbpdbdmaaDoorRows.lean that lists a variable, with what it lists TIED to the program's text (the seventh form; the later family's looks); each row that meets fmt, with fmt's text TOLD by the authors' own Lean function (tested against real Go, not proved from fmt's source: count such statements apart). THE CARD IS WHAT COUNTS. Prove the row's statement (the work); the ties are given (YtamddohbpdbdmaaDoorTie.lean); close each card by the builder's one call (the guide's Derived/Test/ToyasCard.lean, 'card_holds'). Laid BY PROGRAM, IN A SANDBOX (cutbox-door.mjs). By AI agents, Wed Nov 11 2026. No macro, syntax, notation, axiom, sorry.
-/
import Derived.Test.YtamddohbpdbdmaaDoorRows
import GoSem.ClaimSeven
namespace Go.Proofs.YtamddohbpdbdmaaDoor
namespace Rows

/-- THE TIED CARD OF 'charterlaw02.MacMarks'. -/
def macMarksCard : Claim7 := { stood := { row := macMarksRow, standIns := [], harness := (true, "279e9a61eacbab658979db6fb024e83aa0f69075866345ecd10ed52164309ce1"), looks := true }, kinds := [], alts := [], laidByText := true, laidKinds := [.data], laidTests := true, laidLooks := .later }
def MacMarksCardSaid : Prop := Claim7.holds Tryd.pinned (.plain (OpenSpec.ofChange macMarksSpec)) macMarksCard

/-- THE TIED CARD OF 'charterlaw02.MacDerives'. -/
def macDerivesCard : Claim7 := { stood := { row := macDerivesRow, standIns := [], harness := (true, "279e9a61eacbab658979db6fb024e83aa0f69075866345ecd10ed52164309ce1"), looks := true }, kinds := [], alts := [], laidByText := true, laidKinds := [.data], laidTests := true, laidLooks := .later }
def MacDerivesCardSaid : Prop := Claim7.holds Tryd.pinned (.plain (OpenSpec.ofChange macDerivesSpec)) macDerivesCard

/-- THE TIED CARD OF 'charterlaw02.MacBases'. -/
def macBasesCard : Claim7 := { stood := { row := macBasesRow, standIns := [], harness := (true, "279e9a61eacbab658979db6fb024e83aa0f69075866345ecd10ed52164309ce1"), looks := true }, kinds := [], alts := [], laidByText := true, laidKinds := [.data], laidTests := true, laidLooks := .later }
def MacBasesCardSaid : Prop := Claim7.holds Tryd.pinned (.plain (OpenSpec.ofChange macBasesSpec)) macBasesCard

/-- THE TIED CARD OF 'charterlaw02.MacSame'. -/
def macSameCard : Claim7 := { stood := { row := macSameRow, standIns := [], harness := (true, "279e9a61eacbab658979db6fb024e83aa0f69075866345ecd10ed52164309ce1"), looks := true }, kinds := [], alts := [], laidByText := true, laidKinds := [.data], laidTests := true, laidLooks := .later }
def MacSameCardSaid : Prop := Claim7.holds Tryd.pinned (.plain (OpenSpec.ofChange macSameSpec)) macSameCard

/-- THE TIED CARD OF 'charterlaw02.MacLong'. -/
def macLongCard : Claim7 := { stood := { row := macLongRow, standIns := [], harness := (true, "279e9a61eacbab658979db6fb024e83aa0f69075866345ecd10ed52164309ce1"), looks := true }, kinds := [], alts := [], laidByText := true, laidKinds := [.data], laidTests := true, laidLooks := .later }
def MacLongCardSaid : Prop := Claim7.holds Tryd.pinned (.plain (OpenSpec.ofChange macLongSpec)) macLongCard

/-- THE TIED CARD OF 'charterlaw02.MacStays'. -/
def macStaysCard : Claim7 := { stood := { row := macStaysRow, standIns := [], harness := (true, "279e9a61eacbab658979db6fb024e83aa0f69075866345ecd10ed52164309ce1"), looks := true }, kinds := [], alts := [], laidByText := true, laidKinds := [.data], laidTests := true, laidLooks := .later }
def MacStaysCardSaid : Prop := Claim7.holds Tryd.pinned (.plain (OpenSpec.ofChange macStaysSpec)) macStaysCard

/-- THE SECOND FORM's CARD OF 'charterlaw02.MacMarks'. -/
def macMarksUptoCard : Claim7 := { stood := { row := macMarksUptoRow, standIns := [], harness := (true, "279e9a61eacbab658979db6fb024e83aa0f69075866345ecd10ed52164309ce1"), looks := true }, kinds := [], alts := [], laidByText := true, laidKinds := [.data], laidTests := true, laidLooks := .later }
def MacMarksUptoCardSaid : Prop := Claim7.holds Tryd.pinned (.plain (OpenSpec.upto macMarksSpec)) macMarksUptoCard

/-- THE SECOND FORM's CARD OF 'charterlaw02.MacDerives'. -/
def macDerivesUptoCard : Claim7 := { stood := { row := macDerivesUptoRow, standIns := [], harness := (true, "279e9a61eacbab658979db6fb024e83aa0f69075866345ecd10ed52164309ce1"), looks := true }, kinds := [], alts := [], laidByText := true, laidKinds := [.data], laidTests := true, laidLooks := .later }
def MacDerivesUptoCardSaid : Prop := Claim7.holds Tryd.pinned (.plain (OpenSpec.upto macDerivesSpec)) macDerivesUptoCard

/-- THE SECOND FORM's CARD OF 'charterlaw02.MacBases'. -/
def macBasesUptoCard : Claim7 := { stood := { row := macBasesUptoRow, standIns := [], harness := (true, "279e9a61eacbab658979db6fb024e83aa0f69075866345ecd10ed52164309ce1"), looks := true }, kinds := [], alts := [], laidByText := true, laidKinds := [.data], laidTests := true, laidLooks := .later }
def MacBasesUptoCardSaid : Prop := Claim7.holds Tryd.pinned (.plain (OpenSpec.upto macBasesSpec)) macBasesUptoCard

/-- THE SECOND FORM's CARD OF 'charterlaw02.MacSame'. -/
def macSameUptoCard : Claim7 := { stood := { row := macSameUptoRow, standIns := [], harness := (true, "279e9a61eacbab658979db6fb024e83aa0f69075866345ecd10ed52164309ce1"), looks := true }, kinds := [], alts := [], laidByText := true, laidKinds := [.data], laidTests := true, laidLooks := .later }
def MacSameUptoCardSaid : Prop := Claim7.holds Tryd.pinned (.plain (OpenSpec.upto macSameSpec)) macSameUptoCard

/-- THE SECOND FORM's CARD OF 'charterlaw02.MacLong'. -/
def macLongUptoCard : Claim7 := { stood := { row := macLongUptoRow, standIns := [], harness := (true, "279e9a61eacbab658979db6fb024e83aa0f69075866345ecd10ed52164309ce1"), looks := true }, kinds := [], alts := [], laidByText := true, laidKinds := [.data], laidTests := true, laidLooks := .later }
def MacLongUptoCardSaid : Prop := Claim7.holds Tryd.pinned (.plain (OpenSpec.upto macLongSpec)) macLongUptoCard

/-- THE SECOND FORM's CARD OF 'charterlaw02.MacStays'. -/
def macStaysUptoCard : Claim7 := { stood := { row := macStaysUptoRow, standIns := [], harness := (true, "279e9a61eacbab658979db6fb024e83aa0f69075866345ecd10ed52164309ce1"), looks := true }, kinds := [], alts := [], laidByText := true, laidKinds := [.data], laidTests := true, laidLooks := .later }
def MacStaysUptoCardSaid : Prop := Claim7.holds Tryd.pinned (.plain (OpenSpec.upto macStaysSpec)) macStaysUptoCard
end Rows
end Go.Proofs.YtamddohbpdbdmaaDoor
