/-
  DERIVED. GIVEN WITH THE SEED: THE CARDS: each row of YthichmclbiggmaaDoorRows.lean that lists a variable, with what it lists TIED to the program's text (the seventh form; the later family's looks); each row that meets fmt, with fmt's text TOLD by the authors' own Lean function (tested against real Go, not proved from fmt's source: count such statements apart). THE CARD IS WHAT COUNTS. Prove the row's statement (the work); the ties are given (YthichmclbiggmaaDoorTie.lean); close each card by the builder's one call (the guide's Derived/Test/ToyasCard.lean, 'card_holds'). Laid BY PROGRAM, IN A SANDBOX (cutbox-door.mjs). By AI agents, Wed Nov 11 2026. No macro, syntax, notation, axiom, sorry.
-/
import Derived.Test.YthichmclbiggmaaDoorRows
import GoSem.ClaimSeven
namespace Go.Proofs.YthichmclbiggmaaDoor
namespace Rows

/-- THE TIED CARD OF 'charterlaw06.RsaSigns'. -/
def rsaSignsCard : Claim7 := { stood := { row := rsaSignsRow, standIns := [], harness := (true, "4a29e074f7a93ff36e27c8b073363a891966b3a391f68e7cfedb61506e24c591"), looks := true }, kinds := [], alts := [], laidByText := true, laidKinds := [.data], laidTests := true, laidLooks := .later }
def RsaSignsCardSaid : Prop := Claim7.holds Tryd.pinned (.plain (OpenSpec.ofChange rsaSignsSpec)) rsaSignsCard

/-- THE TIED CARD OF 'charterlaw06.RsaVerifies'. -/
def rsaVerifiesCard : Claim7 := { stood := { row := rsaVerifiesRow, standIns := [], harness := (true, "4a29e074f7a93ff36e27c8b073363a891966b3a391f68e7cfedb61506e24c591"), looks := true }, kinds := [], alts := [], laidByText := true, laidKinds := [.data], laidTests := true, laidLooks := .later }
def RsaVerifiesCardSaid : Prop := Claim7.holds Tryd.pinned (.plain (OpenSpec.ofChange rsaVerifiesSpec)) rsaVerifiesCard

/-- THE TIED CARD OF 'charterlaw06.RsaOne'. -/
def rsaOneCard : Claim7 := { stood := { row := rsaOneRow, standIns := [], harness := (true, "4a29e074f7a93ff36e27c8b073363a891966b3a391f68e7cfedb61506e24c591"), looks := true }, kinds := [], alts := [], laidByText := true, laidKinds := [.data], laidTests := true, laidLooks := .later }
def RsaOneCardSaid : Prop := Claim7.holds Tryd.pinned (.plain (OpenSpec.ofChange rsaOneSpec)) rsaOneCard

/-- THE TIED CARD OF 'charterlaw06.RsaStays'. -/
def rsaStaysCard : Claim7 := { stood := { row := rsaStaysRow, standIns := [], harness := (true, "4a29e074f7a93ff36e27c8b073363a891966b3a391f68e7cfedb61506e24c591"), looks := true }, kinds := [], alts := [], laidByText := true, laidKinds := [.data], laidTests := true, laidLooks := .later }
def RsaStaysCardSaid : Prop := Claim7.holds Tryd.pinned (.plain (OpenSpec.ofChange rsaStaysSpec)) rsaStaysCard

/-- THE TIED CARD OF 'charterlaw06.RsaHolds'. -/
def rsaHoldsCard : Claim7 := { stood := { row := rsaHoldsRow, standIns := [], harness := (true, "4a29e074f7a93ff36e27c8b073363a891966b3a391f68e7cfedb61506e24c591"), looks := true }, kinds := [], alts := [], laidByText := true, laidKinds := [.data], laidTests := true, laidLooks := .later }
def RsaHoldsCardSaid : Prop := Claim7.holds Tryd.pinned (.plain (OpenSpec.ofChange rsaHoldsSpec)) rsaHoldsCard

/-- THE SECOND FORM's CARD OF 'charterlaw06.RsaSigns'. -/
def rsaSignsUptoCard : Claim7 := { stood := { row := rsaSignsUptoRow, standIns := [], harness := (true, "4a29e074f7a93ff36e27c8b073363a891966b3a391f68e7cfedb61506e24c591"), looks := true }, kinds := [], alts := [], laidByText := true, laidKinds := [.data], laidTests := true, laidLooks := .later }
def RsaSignsUptoCardSaid : Prop := Claim7.holds Tryd.pinned (.plain (OpenSpec.upto rsaSignsSpec)) rsaSignsUptoCard

/-- THE SECOND FORM's CARD OF 'charterlaw06.RsaVerifies'. -/
def rsaVerifiesUptoCard : Claim7 := { stood := { row := rsaVerifiesUptoRow, standIns := [], harness := (true, "4a29e074f7a93ff36e27c8b073363a891966b3a391f68e7cfedb61506e24c591"), looks := true }, kinds := [], alts := [], laidByText := true, laidKinds := [.data], laidTests := true, laidLooks := .later }
def RsaVerifiesUptoCardSaid : Prop := Claim7.holds Tryd.pinned (.plain (OpenSpec.upto rsaVerifiesSpec)) rsaVerifiesUptoCard

/-- THE SECOND FORM's CARD OF 'charterlaw06.RsaOne'. -/
def rsaOneUptoCard : Claim7 := { stood := { row := rsaOneUptoRow, standIns := [], harness := (true, "4a29e074f7a93ff36e27c8b073363a891966b3a391f68e7cfedb61506e24c591"), looks := true }, kinds := [], alts := [], laidByText := true, laidKinds := [.data], laidTests := true, laidLooks := .later }
def RsaOneUptoCardSaid : Prop := Claim7.holds Tryd.pinned (.plain (OpenSpec.upto rsaOneSpec)) rsaOneUptoCard

/-- THE SECOND FORM's CARD OF 'charterlaw06.RsaStays'. -/
def rsaStaysUptoCard : Claim7 := { stood := { row := rsaStaysUptoRow, standIns := [], harness := (true, "4a29e074f7a93ff36e27c8b073363a891966b3a391f68e7cfedb61506e24c591"), looks := true }, kinds := [], alts := [], laidByText := true, laidKinds := [.data], laidTests := true, laidLooks := .later }
def RsaStaysUptoCardSaid : Prop := Claim7.holds Tryd.pinned (.plain (OpenSpec.upto rsaStaysSpec)) rsaStaysUptoCard

/-- THE SECOND FORM's CARD OF 'charterlaw06.RsaHolds'. -/
def rsaHoldsUptoCard : Claim7 := { stood := { row := rsaHoldsUptoRow, standIns := [], harness := (true, "4a29e074f7a93ff36e27c8b073363a891966b3a391f68e7cfedb61506e24c591"), looks := true }, kinds := [], alts := [], laidByText := true, laidKinds := [.data], laidTests := true, laidLooks := .later }
def RsaHoldsUptoCardSaid : Prop := Claim7.holds Tryd.pinned (.plain (OpenSpec.upto rsaHoldsSpec)) rsaHoldsUptoCard
end Rows
end Go.Proofs.YthichmclbiggmaaDoor
