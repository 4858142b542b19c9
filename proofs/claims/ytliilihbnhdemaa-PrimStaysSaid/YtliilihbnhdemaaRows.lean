/-
  No cell of these rows narrows 'for every input' (looked for: loops, veiled, ifaces, maps, wideKeys, modest, calm, conditions, laid).
  DERIVED. THE GIVEN ROWS OF THIS SEAT. 11 by the template 'for every input the law returns true; each argument reads behind the call as it read before'; 0 by the template 'total and deterministic' (their statements: YtliilihbnhdemaaTotals.lean).
  GIVEN WITH THE SEED: the statements are not yours to turn. If you find one false, say at which input.
  Laid BY PROGRAM, IN A SANDBOX (cutbox-rows.mjs): the forced cells as the released guide's own fill.sh prints them over the translation f528d620d6f7ac6f… (all of the seat's roots in one cut). By AI agents, Wed Nov 11 2026. No macro, syntax, notation, axiom, sorry.
-/
import Derived.Test.YtliilihbnhdemaaChecked
import GoSem.Claim
import GoSem.ClaimJoined
import GoSem.ClaimMapViews
import Derived.JoinedTies
import Derived.KernelRfl
namespace Go.Proofs.Ytliilihbnhdemaa
/- THE CELL 'sum', in the pinned program and in every row, IS THE sha256 OF THE DUMP (.gsa) THAT YtliilihbnhdemaaProg.lean LOADS. Nothing in Lean hashes anything: it is a label: what it is worth is what the hold of that sum in a sandbox is worth. -/
noncomputable def Try.pinned : Pinned := { name := "ytliilihbnhdemaa", sum := "f528d620d6f7ac6f146ab6bfda226baf9cca495aa77ebd5eb014651efe75a475", checked := Try.checked }
namespace Rows
def none {H : Type} : Left H := { results := [], args := [] }

/-- 'charterlaw08.PrimInts': WHATEVER THE INPUT: true; the input reads as it did. -/
def primIntsSpec : ChangeSpec := { name := "primInts", fn := fun _ => fun
  | [d1, d2] => { results := [.lit (.bool true)], args := [d1, d2] }
  | _ => none }
def primIntsRow : OpenClaim := { program := "ytliilihbnhdemaa", sum := "f528d620d6f7ac6f146ab6bfda226baf9cca495aa77ebd5eb014651efe75a475", func := "charter/charterlaw08.PrimInts", spec := "primInts", apart := false }
def PrimIntsSaid : Prop := primIntsRow.holds Try.pinned (OpenSpec.ofChange primIntsSpec)

/-- ITS FALSE NEIGHBOUR: 'it returns false'. Refute it at one input. -/
def primIntsWrong : ChangeSpec := { name := "primInts", fn := fun _ => fun
  | [d1, d2] => { results := [.lit (.bool false)], args := [d1, d2] }
  | _ => none }
def PrimIntsWrongFalsely : Prop := primIntsRow.holds Try.pinned (OpenSpec.ofChange primIntsWrong)

/-- 'charterlaw08.PrimLater': WHATEVER THE INPUT: true; the input reads as it did. -/
def primLaterSpec : ChangeSpec := { name := "primLater", fn := fun _ => fun
  | [d1, d2] => { results := [.lit (.bool true)], args := [d1, d2] }
  | _ => none }
def primLaterRow : OpenClaim := { program := "ytliilihbnhdemaa", sum := "f528d620d6f7ac6f146ab6bfda226baf9cca495aa77ebd5eb014651efe75a475", func := "charter/charterlaw08.PrimLater", spec := "primLater", apart := false }
def PrimLaterSaid : Prop := primLaterRow.holds Try.pinned (OpenSpec.ofChange primLaterSpec)

/-- ITS FALSE NEIGHBOUR: 'it returns false'. Refute it at one input. -/
def primLaterWrong : ChangeSpec := { name := "primLater", fn := fun _ => fun
  | [d1, d2] => { results := [.lit (.bool false)], args := [d1, d2] }
  | _ => none }
def PrimLaterWrongFalsely : Prop := primLaterRow.holds Try.pinned (OpenSpec.ofChange primLaterWrong)

/-- 'charterlaw08.PrimCounts': WHATEVER THE INPUT: true; the input reads as it did. -/
def primCountsSpec : ChangeSpec := { name := "primCounts", fn := fun _ => fun
  | [d1, d2] => { results := [.lit (.bool true)], args := [d1, d2] }
  | _ => none }
def primCountsRow : OpenClaim := { program := "ytliilihbnhdemaa", sum := "f528d620d6f7ac6f146ab6bfda226baf9cca495aa77ebd5eb014651efe75a475", func := "charter/charterlaw08.PrimCounts", spec := "primCounts", apart := false }
def PrimCountsSaid : Prop := primCountsRow.holds Try.pinned (OpenSpec.ofChange primCountsSpec)

/-- ITS FALSE NEIGHBOUR: 'it returns false'. Refute it at one input. -/
def primCountsWrong : ChangeSpec := { name := "primCounts", fn := fun _ => fun
  | [d1, d2] => { results := [.lit (.bool false)], args := [d1, d2] }
  | _ => none }
def PrimCountsWrongFalsely : Prop := primCountsRow.holds Try.pinned (OpenSpec.ofChange primCountsWrong)

/-- 'charterlaw08.PrimBits': WHATEVER THE INPUT: true; the input reads as it did. -/
def primBitsSpec : ChangeSpec := { name := "primBits", fn := fun _ => fun
  | [d1, d2] => { results := [.lit (.bool true)], args := [d1, d2] }
  | _ => none }
def primBitsRow : OpenClaim := { program := "ytliilihbnhdemaa", sum := "f528d620d6f7ac6f146ab6bfda226baf9cca495aa77ebd5eb014651efe75a475", func := "charter/charterlaw08.PrimBits", spec := "primBits", apart := false }
def PrimBitsSaid : Prop := primBitsRow.holds Try.pinned (OpenSpec.ofChange primBitsSpec)

/-- ITS FALSE NEIGHBOUR: 'it returns false'. Refute it at one input. -/
def primBitsWrong : ChangeSpec := { name := "primBits", fn := fun _ => fun
  | [d1, d2] => { results := [.lit (.bool false)], args := [d1, d2] }
  | _ => none }
def PrimBitsWrongFalsely : Prop := primBitsRow.holds Try.pinned (OpenSpec.ofChange primBitsWrong)

/-- 'charterlaw08.PrimTimes': WHATEVER THE INPUT: true; the input reads as it did. -/
def primTimesSpec : ChangeSpec := { name := "primTimes", fn := fun _ => fun
  | [d1, d2, d3] => { results := [.lit (.bool true)], args := [d1, d2, d3] }
  | _ => none }
def primTimesRow : OpenClaim := { program := "ytliilihbnhdemaa", sum := "f528d620d6f7ac6f146ab6bfda226baf9cca495aa77ebd5eb014651efe75a475", func := "charter/charterlaw08.PrimTimes", spec := "primTimes", apart := false }
def PrimTimesSaid : Prop := primTimesRow.holds Try.pinned (OpenSpec.ofChange primTimesSpec)

/-- ITS FALSE NEIGHBOUR: 'it returns false'. Refute it at one input. -/
def primTimesWrong : ChangeSpec := { name := "primTimes", fn := fun _ => fun
  | [d1, d2, d3] => { results := [.lit (.bool false)], args := [d1, d2, d3] }
  | _ => none }
def PrimTimesWrongFalsely : Prop := primTimesRow.holds Try.pinned (OpenSpec.ofChange primTimesWrong)

/-- 'charterlaw08.PrimTexts': WHATEVER THE INPUT: true; the input reads as it did. -/
def primTextsSpec : ChangeSpec := { name := "primTexts", fn := fun _ => fun
  | [d1, d2] => { results := [.lit (.bool true)], args := [d1, d2] }
  | _ => none }
def primTextsRow : OpenClaim := { program := "ytliilihbnhdemaa", sum := "f528d620d6f7ac6f146ab6bfda226baf9cca495aa77ebd5eb014651efe75a475", func := "charter/charterlaw08.PrimTexts", spec := "primTexts", inPlace := ["internal/bytealg.IndexByteString"], unfollowed := true, recurses := true, apart := false }
def PrimTextsSaid : Prop := primTextsRow.holds Try.pinned (OpenSpec.ofChange primTextsSpec)

/-- ITS FALSE NEIGHBOUR: 'it returns false'. Refute it at one input. -/
def primTextsWrong : ChangeSpec := { name := "primTexts", fn := fun _ => fun
  | [d1, d2] => { results := [.lit (.bool false)], args := [d1, d2] }
  | _ => none }
def PrimTextsWrongFalsely : Prop := primTextsRow.holds Try.pinned (OpenSpec.ofChange primTextsWrong)

/-- 'charterlaw08.PrimOids': WHATEVER THE INPUT: true; the input reads as it did. -/
def primOidsSpec : ChangeSpec := { name := "primOids", fn := fun _ => fun
  | [d1, d2] => { results := [.lit (.bool true)], args := [d1, d2] }
  | _ => none }
def primOidsRow : OpenClaim := { program := "ytliilihbnhdemaa", sum := "f528d620d6f7ac6f146ab6bfda226baf9cca495aa77ebd5eb014651efe75a475", func := "charter/charterlaw08.PrimOids", spec := "primOids", recurses := true, apart := false }
def PrimOidsSaid : Prop := primOidsRow.holds Try.pinned (OpenSpec.ofChange primOidsSpec)

/-- ITS FALSE NEIGHBOUR: 'it returns false'. Refute it at one input. -/
def primOidsWrong : ChangeSpec := { name := "primOids", fn := fun _ => fun
  | [d1, d2] => { results := [.lit (.bool false)], args := [d1, d2] }
  | _ => none }
def PrimOidsWrongFalsely : Prop := primOidsRow.holds Try.pinned (OpenSpec.ofChange primOidsWrong)

/-- 'charterlaw08.PrimBigs': WHATEVER THE INPUT: true; the input reads as it did. -/
def primBigsSpec : ChangeSpec := { name := "primBigs", fn := fun _ => fun
  | [d1, d2] => { results := [.lit (.bool true)], args := [d1, d2] }
  | _ => none }
def primBigsRow : OpenClaim := { program := "ytliilihbnhdemaa", sum := "f528d620d6f7ac6f146ab6bfda226baf9cca495aa77ebd5eb014651efe75a475", func := "charter/charterlaw08.PrimBigs", spec := "primBigs", apart := false }
def PrimBigsSaid : Prop := primBigsRow.holds Try.pinned (OpenSpec.ofChange primBigsSpec)

/-- ITS FALSE NEIGHBOUR: 'it returns false'. Refute it at one input. -/
def primBigsWrong : ChangeSpec := { name := "primBigs", fn := fun _ => fun
  | [d1, d2] => { results := [.lit (.bool false)], args := [d1, d2] }
  | _ => none }
def PrimBigsWrongFalsely : Prop := primBigsRow.holds Try.pinned (OpenSpec.ofChange primBigsWrong)

/-- 'charterlaw08.PrimSorts': WHATEVER THE INPUT: true; the input reads as it did. -/
def primSortsSpec : ChangeSpec := { name := "primSorts", fn := fun _ => fun
  | [d] => { results := [.lit (.bool true)], args := [d] }
  | _ => none }
def primSortsRow : OpenClaim := { program := "ytliilihbnhdemaa", sum := "f528d620d6f7ac6f146ab6bfda226baf9cca495aa77ebd5eb014651efe75a475", func := "charter/charterlaw08.PrimSorts", spec := "primSorts", inPlace := ["internal/bytealg.Compare"], unfollowed := true, recurses := true, apart := false }
def PrimSortsSaid : Prop := primSortsRow.holds Try.pinned (OpenSpec.ofChange primSortsSpec)

/-- ITS FALSE NEIGHBOUR: 'it returns false'. Refute it at one input. -/
def primSortsWrong : ChangeSpec := { name := "primSorts", fn := fun _ => fun
  | [d] => { results := [.lit (.bool false)], args := [d] }
  | _ => none }
def PrimSortsWrongFalsely : Prop := primSortsRow.holds Try.pinned (OpenSpec.ofChange primSortsWrong)

/-- 'charterlaw08.PrimBack': WHATEVER THE INPUT: true; the input reads as it did. -/
def primBackSpec : ChangeSpec := { name := "primBack", fn := fun _ => fun
  | [d1, d2, d3, d4, d5] => { results := [.lit (.bool true)], args := [d1, d2, d3, d4, d5] }
  | _ => none }
def primBackRow : OpenClaim := { program := "ytliilihbnhdemaa", sum := "f528d620d6f7ac6f146ab6bfda226baf9cca495aa77ebd5eb014651efe75a475", func := "charter/charterlaw08.PrimBack", spec := "primBack", apart := false }
def PrimBackSaid : Prop := primBackRow.holds Try.pinned (OpenSpec.ofChange primBackSpec)

/-- ITS FALSE NEIGHBOUR: 'it returns false'. Refute it at one input. -/
def primBackWrong : ChangeSpec := { name := "primBack", fn := fun _ => fun
  | [d1, d2, d3, d4, d5] => { results := [.lit (.bool false)], args := [d1, d2, d3, d4, d5] }
  | _ => none }
def PrimBackWrongFalsely : Prop := primBackRow.holds Try.pinned (OpenSpec.ofChange primBackWrong)

/-- 'charterlaw08.PrimStays': WHATEVER THE INPUT: true; the input reads as it did. -/
def primStaysSpec : ChangeSpec := { name := "primStays", fn := fun _ => fun
  | [d1, d2, d3] => { results := [.lit (.bool true)], args := [d1, d2, d3] }
  | _ => none }
def primStaysRow : OpenClaim := { program := "ytliilihbnhdemaa", sum := "f528d620d6f7ac6f146ab6bfda226baf9cca495aa77ebd5eb014651efe75a475", func := "charter/charterlaw08.PrimStays", spec := "primStays", inPlace := ["internal/bytealg.Compare"], unfollowed := true, recurses := true, apart := false }
def PrimStaysSaid : Prop := primStaysRow.holds Try.pinned (OpenSpec.ofChange primStaysSpec)

/-- ITS FALSE NEIGHBOUR: 'it returns false'. Refute it at one input. -/
def primStaysWrong : ChangeSpec := { name := "primStays", fn := fun _ => fun
  | [d1, d2, d3] => { results := [.lit (.bool false)], args := [d1, d2, d3] }
  | _ => none }
def PrimStaysWrongFalsely : Prop := primStaysRow.holds Try.pinned (OpenSpec.ofChange primStaysWrong)

/- THE SECOND FORM. 'bulk': how many values and letters a reading holds, each counted each time it is reached (what is shared counts as often as it is met; a slice's spare places count too). A statement '..UptoSaid' is the law's where the arguments, and the package variables that the reading takes, are together of bulk at most 1048576: NARROWER than '..Said'. Prove '..Said' where nothing that the law and all that it calls make is longer than what came in: it says more and counts as full. Else prove '..UptoSaid'. A law counts once. -/
mutual
def uptoBulk {H : Type} : DataW H → Nat
  | .lit (.string bytes) => bytes.length + 1
  | .lit _ => 1
  | .nil => 1
  | .ptr d => uptoBulk d + 1
  | .slice elems spare => uptoBulkAll elems + uptoBulkAll spare + 1
  | .agg parts => uptoBulkAll parts + 1
  | .iface _ d => uptoBulk d + 1
  | .map entries => uptoBulkEntries entries + 1
  | .held _ => 1
def uptoBulkAll {H : Type} : List (DataW H) → Nat
  | [] => 0
  | d :: r => uptoBulk d + uptoBulkAll r
def uptoBulkEntries {H : Type} : List (Lit × DataW H) → Nat
  | [] => 0
  | x :: r => uptoBulkEntry x + uptoBulkEntries r
def uptoBulkEntry {H : Type} : Lit × DataW H → Nat
  | (.string bytes, d) => bytes.length + uptoBulk d + 1
  | (_, d) => uptoBulk d + 1
 end
def uptoSmall : (H : Type) → List (DataW H) → Bool := fun _ ds => decide (uptoBulkAll ds ≤ 1048576)
def OpenSpec.upto (s : _root_.Go.ChangeSpec) : _root_.Go.OpenSpec := { _root_.Go.OpenSpec.ofChange s with cond := some uptoSmall }

/-- 'charterlaw08.PrimInts', WHERE WHAT IT READS IS OF BULK AT MOST 1048576: true; the input reads as it did. -/
def primIntsUptoRow : OpenClaim := { program := "ytliilihbnhdemaa", sum := "f528d620d6f7ac6f146ab6bfda226baf9cca495aa77ebd5eb014651efe75a475", func := "charter/charterlaw08.PrimInts", spec := "primInts", apart := false, narrowed := true }
def PrimIntsUptoSaid : Prop := primIntsUptoRow.holds Try.pinned (OpenSpec.upto primIntsSpec)

/-- 'charterlaw08.PrimLater', WHERE WHAT IT READS IS OF BULK AT MOST 1048576: true; the input reads as it did. -/
def primLaterUptoRow : OpenClaim := { program := "ytliilihbnhdemaa", sum := "f528d620d6f7ac6f146ab6bfda226baf9cca495aa77ebd5eb014651efe75a475", func := "charter/charterlaw08.PrimLater", spec := "primLater", apart := false, narrowed := true }
def PrimLaterUptoSaid : Prop := primLaterUptoRow.holds Try.pinned (OpenSpec.upto primLaterSpec)

/-- 'charterlaw08.PrimCounts', WHERE WHAT IT READS IS OF BULK AT MOST 1048576: true; the input reads as it did. -/
def primCountsUptoRow : OpenClaim := { program := "ytliilihbnhdemaa", sum := "f528d620d6f7ac6f146ab6bfda226baf9cca495aa77ebd5eb014651efe75a475", func := "charter/charterlaw08.PrimCounts", spec := "primCounts", apart := false, narrowed := true }
def PrimCountsUptoSaid : Prop := primCountsUptoRow.holds Try.pinned (OpenSpec.upto primCountsSpec)

/-- 'charterlaw08.PrimBits', WHERE WHAT IT READS IS OF BULK AT MOST 1048576: true; the input reads as it did. -/
def primBitsUptoRow : OpenClaim := { program := "ytliilihbnhdemaa", sum := "f528d620d6f7ac6f146ab6bfda226baf9cca495aa77ebd5eb014651efe75a475", func := "charter/charterlaw08.PrimBits", spec := "primBits", apart := false, narrowed := true }
def PrimBitsUptoSaid : Prop := primBitsUptoRow.holds Try.pinned (OpenSpec.upto primBitsSpec)

/-- 'charterlaw08.PrimTimes', WHERE WHAT IT READS IS OF BULK AT MOST 1048576: true; the input reads as it did. -/
def primTimesUptoRow : OpenClaim := { program := "ytliilihbnhdemaa", sum := "f528d620d6f7ac6f146ab6bfda226baf9cca495aa77ebd5eb014651efe75a475", func := "charter/charterlaw08.PrimTimes", spec := "primTimes", apart := false, narrowed := true }
def PrimTimesUptoSaid : Prop := primTimesUptoRow.holds Try.pinned (OpenSpec.upto primTimesSpec)

/-- 'charterlaw08.PrimTexts', WHERE WHAT IT READS IS OF BULK AT MOST 1048576: true; the input reads as it did. -/
def primTextsUptoRow : OpenClaim := { program := "ytliilihbnhdemaa", sum := "f528d620d6f7ac6f146ab6bfda226baf9cca495aa77ebd5eb014651efe75a475", func := "charter/charterlaw08.PrimTexts", spec := "primTexts", inPlace := ["internal/bytealg.IndexByteString"], unfollowed := true, recurses := true, apart := false, narrowed := true }
def PrimTextsUptoSaid : Prop := primTextsUptoRow.holds Try.pinned (OpenSpec.upto primTextsSpec)

/-- 'charterlaw08.PrimOids', WHERE WHAT IT READS IS OF BULK AT MOST 1048576: true; the input reads as it did. -/
def primOidsUptoRow : OpenClaim := { program := "ytliilihbnhdemaa", sum := "f528d620d6f7ac6f146ab6bfda226baf9cca495aa77ebd5eb014651efe75a475", func := "charter/charterlaw08.PrimOids", spec := "primOids", recurses := true, apart := false, narrowed := true }
def PrimOidsUptoSaid : Prop := primOidsUptoRow.holds Try.pinned (OpenSpec.upto primOidsSpec)

/-- 'charterlaw08.PrimBigs', WHERE WHAT IT READS IS OF BULK AT MOST 1048576: true; the input reads as it did. -/
def primBigsUptoRow : OpenClaim := { program := "ytliilihbnhdemaa", sum := "f528d620d6f7ac6f146ab6bfda226baf9cca495aa77ebd5eb014651efe75a475", func := "charter/charterlaw08.PrimBigs", spec := "primBigs", apart := false, narrowed := true }
def PrimBigsUptoSaid : Prop := primBigsUptoRow.holds Try.pinned (OpenSpec.upto primBigsSpec)

/-- 'charterlaw08.PrimSorts', WHERE WHAT IT READS IS OF BULK AT MOST 1048576: true; the input reads as it did. -/
def primSortsUptoRow : OpenClaim := { program := "ytliilihbnhdemaa", sum := "f528d620d6f7ac6f146ab6bfda226baf9cca495aa77ebd5eb014651efe75a475", func := "charter/charterlaw08.PrimSorts", spec := "primSorts", inPlace := ["internal/bytealg.Compare"], unfollowed := true, recurses := true, apart := false, narrowed := true }
def PrimSortsUptoSaid : Prop := primSortsUptoRow.holds Try.pinned (OpenSpec.upto primSortsSpec)

/-- 'charterlaw08.PrimBack', WHERE WHAT IT READS IS OF BULK AT MOST 1048576: true; the input reads as it did. -/
def primBackUptoRow : OpenClaim := { program := "ytliilihbnhdemaa", sum := "f528d620d6f7ac6f146ab6bfda226baf9cca495aa77ebd5eb014651efe75a475", func := "charter/charterlaw08.PrimBack", spec := "primBack", apart := false, narrowed := true }
def PrimBackUptoSaid : Prop := primBackUptoRow.holds Try.pinned (OpenSpec.upto primBackSpec)

/-- 'charterlaw08.PrimStays', WHERE WHAT IT READS IS OF BULK AT MOST 1048576: true; the input reads as it did. -/
def primStaysUptoRow : OpenClaim := { program := "ytliilihbnhdemaa", sum := "f528d620d6f7ac6f146ab6bfda226baf9cca495aa77ebd5eb014651efe75a475", func := "charter/charterlaw08.PrimStays", spec := "primStays", inPlace := ["internal/bytealg.Compare"], unfollowed := true, recurses := true, apart := false, narrowed := true }
def PrimStaysUptoSaid : Prop := primStaysUptoRow.holds Try.pinned (OpenSpec.upto primStaysSpec)

end Rows
end Go.Proofs.Ytliilihbnhdemaa
