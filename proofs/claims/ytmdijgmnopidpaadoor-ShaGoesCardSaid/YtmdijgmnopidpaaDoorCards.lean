/-
  DERIVED. GIVEN WITH THE SEED: THE CARDS: each row of YtmdijgmnopidpaaDoorRows.lean that lists a variable, with what it lists TIED to the program's text (the seventh form; the later family's looks); each row that meets fmt, with fmt's text TOLD by the authors' own Lean function (tested against real Go, not proved from fmt's source: count such statements apart). THE CARD IS WHAT COUNTS. Prove the row's statement (the work); the ties are given (YtmdijgmnopidpaaDoorTie.lean); close each card by the builder's one call (the guide's Derived/Test/ToyasCard.lean, 'card_holds'). Laid BY PROGRAM, IN A SANDBOX (cutbox-door.mjs). By AI agents, Wed Nov 11 2026. No macro, syntax, notation, axiom, sorry.
-/
import Derived.Test.YtmdijgmnopidpaaDoorRows
import GoSem.ClaimSeven
namespace Go.Proofs.YtmdijgmnopidpaaDoor
namespace Rows

/-- THE TIED CARD OF 'charterlaw01.ShaSchedules'. -/
def shaSchedulesCard : Claim7 := { stood := { row := shaSchedulesRow, standIns := [], harness := (true, "697546bf94b27c4b9b7da0e7c3b9989973976a8af69e6ed8be6f7cb2d6499bcd"), looks := true }, kinds := [], alts := [], laidByText := true, laidKinds := [.data], laidTests := true, laidLooks := .later }
def ShaSchedulesCardSaid : Prop := Claim7.holds Tryd.pinned (.plain (OpenSpec.ofChange shaSchedulesSpec)) shaSchedulesCard

/-- THE TIED CARD OF 'charterlaw01.ShaRounds'. -/
def shaRoundsCard : Claim7 := { stood := { row := shaRoundsRow, standIns := [], harness := (true, "697546bf94b27c4b9b7da0e7c3b9989973976a8af69e6ed8be6f7cb2d6499bcd"), looks := true }, kinds := [], alts := [], laidByText := true, laidKinds := [.data], laidTests := true, laidLooks := .later }
def ShaRoundsCardSaid : Prop := Claim7.holds Tryd.pinned (.plain (OpenSpec.ofChange shaRoundsSpec)) shaRoundsCard

/-- THE TIED CARD OF 'charterlaw01.ShaPresses'. -/
def shaPressesCard : Claim7 := { stood := { row := shaPressesRow, standIns := [], harness := (true, "697546bf94b27c4b9b7da0e7c3b9989973976a8af69e6ed8be6f7cb2d6499bcd"), looks := true }, kinds := [], alts := [], laidByText := true, laidKinds := [.data], laidTests := true, laidLooks := .later }
def ShaPressesCardSaid : Prop := Claim7.holds Tryd.pinned (.plain (OpenSpec.ofChange shaPressesSpec)) shaPressesCard

/-- THE TIED CARD OF 'charterlaw01.ShaTails'. -/
def shaTailsCard : Claim7 := { stood := { row := shaTailsRow, standIns := [], harness := (true, "697546bf94b27c4b9b7da0e7c3b9989973976a8af69e6ed8be6f7cb2d6499bcd"), looks := true }, kinds := [], alts := [], laidByText := true, laidKinds := [.data], laidTests := true, laidLooks := .later }
def ShaTailsCardSaid : Prop := Claim7.holds Tryd.pinned (.plain (OpenSpec.ofChange shaTailsSpec)) shaTailsCard

/-- THE TIED CARD OF 'charterlaw01.ShaSums'. -/
def shaSumsCard : Claim7 := { stood := { row := shaSumsRow, standIns := [], harness := (true, "697546bf94b27c4b9b7da0e7c3b9989973976a8af69e6ed8be6f7cb2d6499bcd"), looks := true }, kinds := [], alts := [], laidByText := true, laidKinds := [.data], laidTests := true, laidLooks := .later }
def ShaSumsCardSaid : Prop := Claim7.holds Tryd.pinned (.plain (OpenSpec.ofChange shaSumsSpec)) shaSumsCard

/-- THE TIED CARD OF 'charterlaw01.ShaBack'. -/
def shaBackCard : Claim7 := { stood := { row := shaBackRow, standIns := [], harness := (true, "697546bf94b27c4b9b7da0e7c3b9989973976a8af69e6ed8be6f7cb2d6499bcd"), looks := true }, kinds := [], alts := [], laidByText := true, laidKinds := [.data], laidTests := true, laidLooks := .later }
def ShaBackCardSaid : Prop := Claim7.holds Tryd.pinned (.plain (OpenSpec.ofChange shaBackSpec)) shaBackCard

/-- THE TIED CARD OF 'charterlaw01.ShaGoes'. -/
def shaGoesCard : Claim7 := { stood := { row := shaGoesRow, standIns := [], harness := (true, "697546bf94b27c4b9b7da0e7c3b9989973976a8af69e6ed8be6f7cb2d6499bcd"), looks := true }, kinds := [], alts := [], laidByText := true, laidKinds := [.data], laidTests := true, laidLooks := .later }
def ShaGoesCardSaid : Prop := Claim7.holds Tryd.pinned (.plain (OpenSpec.ofChange shaGoesSpec)) shaGoesCard

/-- THE TIED CARD OF 'charterlaw01.ShaStays'. -/
def shaStaysCard : Claim7 := { stood := { row := shaStaysRow, standIns := [], harness := (true, "697546bf94b27c4b9b7da0e7c3b9989973976a8af69e6ed8be6f7cb2d6499bcd"), looks := true }, kinds := [], alts := [], laidByText := true, laidKinds := [.data], laidTests := true, laidLooks := .later }
def ShaStaysCardSaid : Prop := Claim7.holds Tryd.pinned (.plain (OpenSpec.ofChange shaStaysSpec)) shaStaysCard

/-- THE SECOND FORM's CARD OF 'charterlaw01.ShaSchedules'. -/
def shaSchedulesUptoCard : Claim7 := { stood := { row := shaSchedulesUptoRow, standIns := [], harness := (true, "697546bf94b27c4b9b7da0e7c3b9989973976a8af69e6ed8be6f7cb2d6499bcd"), looks := true }, kinds := [], alts := [], laidByText := true, laidKinds := [.data], laidTests := true, laidLooks := .later }
def ShaSchedulesUptoCardSaid : Prop := Claim7.holds Tryd.pinned (.plain (OpenSpec.upto shaSchedulesSpec)) shaSchedulesUptoCard

/-- THE SECOND FORM's CARD OF 'charterlaw01.ShaRounds'. -/
def shaRoundsUptoCard : Claim7 := { stood := { row := shaRoundsUptoRow, standIns := [], harness := (true, "697546bf94b27c4b9b7da0e7c3b9989973976a8af69e6ed8be6f7cb2d6499bcd"), looks := true }, kinds := [], alts := [], laidByText := true, laidKinds := [.data], laidTests := true, laidLooks := .later }
def ShaRoundsUptoCardSaid : Prop := Claim7.holds Tryd.pinned (.plain (OpenSpec.upto shaRoundsSpec)) shaRoundsUptoCard

/-- THE SECOND FORM's CARD OF 'charterlaw01.ShaPresses'. -/
def shaPressesUptoCard : Claim7 := { stood := { row := shaPressesUptoRow, standIns := [], harness := (true, "697546bf94b27c4b9b7da0e7c3b9989973976a8af69e6ed8be6f7cb2d6499bcd"), looks := true }, kinds := [], alts := [], laidByText := true, laidKinds := [.data], laidTests := true, laidLooks := .later }
def ShaPressesUptoCardSaid : Prop := Claim7.holds Tryd.pinned (.plain (OpenSpec.upto shaPressesSpec)) shaPressesUptoCard

/-- THE SECOND FORM's CARD OF 'charterlaw01.ShaTails'. -/
def shaTailsUptoCard : Claim7 := { stood := { row := shaTailsUptoRow, standIns := [], harness := (true, "697546bf94b27c4b9b7da0e7c3b9989973976a8af69e6ed8be6f7cb2d6499bcd"), looks := true }, kinds := [], alts := [], laidByText := true, laidKinds := [.data], laidTests := true, laidLooks := .later }
def ShaTailsUptoCardSaid : Prop := Claim7.holds Tryd.pinned (.plain (OpenSpec.upto shaTailsSpec)) shaTailsUptoCard

/-- THE SECOND FORM's CARD OF 'charterlaw01.ShaSums'. -/
def shaSumsUptoCard : Claim7 := { stood := { row := shaSumsUptoRow, standIns := [], harness := (true, "697546bf94b27c4b9b7da0e7c3b9989973976a8af69e6ed8be6f7cb2d6499bcd"), looks := true }, kinds := [], alts := [], laidByText := true, laidKinds := [.data], laidTests := true, laidLooks := .later }
def ShaSumsUptoCardSaid : Prop := Claim7.holds Tryd.pinned (.plain (OpenSpec.upto shaSumsSpec)) shaSumsUptoCard

/-- THE SECOND FORM's CARD OF 'charterlaw01.ShaBack'. -/
def shaBackUptoCard : Claim7 := { stood := { row := shaBackUptoRow, standIns := [], harness := (true, "697546bf94b27c4b9b7da0e7c3b9989973976a8af69e6ed8be6f7cb2d6499bcd"), looks := true }, kinds := [], alts := [], laidByText := true, laidKinds := [.data], laidTests := true, laidLooks := .later }
def ShaBackUptoCardSaid : Prop := Claim7.holds Tryd.pinned (.plain (OpenSpec.upto shaBackSpec)) shaBackUptoCard

/-- THE SECOND FORM's CARD OF 'charterlaw01.ShaGoes'. -/
def shaGoesUptoCard : Claim7 := { stood := { row := shaGoesUptoRow, standIns := [], harness := (true, "697546bf94b27c4b9b7da0e7c3b9989973976a8af69e6ed8be6f7cb2d6499bcd"), looks := true }, kinds := [], alts := [], laidByText := true, laidKinds := [.data], laidTests := true, laidLooks := .later }
def ShaGoesUptoCardSaid : Prop := Claim7.holds Tryd.pinned (.plain (OpenSpec.upto shaGoesSpec)) shaGoesUptoCard

/-- THE SECOND FORM's CARD OF 'charterlaw01.ShaStays'. -/
def shaStaysUptoCard : Claim7 := { stood := { row := shaStaysUptoRow, standIns := [], harness := (true, "697546bf94b27c4b9b7da0e7c3b9989973976a8af69e6ed8be6f7cb2d6499bcd"), looks := true }, kinds := [], alts := [], laidByText := true, laidKinds := [.data], laidTests := true, laidLooks := .later }
def ShaStaysUptoCardSaid : Prop := Claim7.holds Tryd.pinned (.plain (OpenSpec.upto shaStaysSpec)) shaStaysUptoCard
end Rows
end Go.Proofs.YtmdijgmnopidpaaDoor
