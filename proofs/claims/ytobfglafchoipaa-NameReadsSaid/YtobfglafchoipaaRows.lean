/-
  No cell of these rows narrows 'for every input' (looked for: loops, veiled, ifaces, maps, wideKeys, modest, calm, conditions, laid).
  DERIVED. THE GIVEN ROWS OF THIS SEAT. 7 by the template 'for every input the law returns true; each argument reads behind the call as it read before'; 0 by the template 'total and deterministic' (their statements: YtobfglafchoipaaTotals.lean).
  GIVEN WITH THE SEED: the statements are not yours to turn. If you find one false, say at which input.
  Laid BY PROGRAM, IN A SANDBOX (cutbox-rows.mjs): the forced cells as the released guide's own fill.sh prints them over the translation 22888d288ed6addc… (all of the seat's roots in one cut). By AI agents, Wed Nov 11 2026. No macro, syntax, notation, axiom, sorry.
-/
import Derived.Test.YtobfglafchoipaaChecked
import GoSem.Claim
import GoSem.ClaimJoined
import GoSem.ClaimMapViews
import Derived.JoinedTies
import Derived.KernelRfl
namespace Go.Proofs.Ytobfglafchoipaa
/- THE CELL 'sum', in the pinned program and in every row, IS THE sha256 OF THE DUMP (.gsa) THAT YtobfglafchoipaaProg.lean LOADS. Nothing in Lean hashes anything: it is a label: what it is worth is what the hold of that sum in a sandbox is worth. -/
noncomputable def Try.pinned : Pinned := { name := "ytobfglafchoipaa", sum := "22888d288ed6addc26a600354dbb2135418c775603b0f4db9fab95a8388aaf73", checked := Try.checked }
namespace Rows
def none {H : Type} : Left H := { results := [], args := [] }

/-- 'charterlaw09.NamePlains': WHATEVER THE INPUT: true; the input reads as it did. -/
def namePlainsSpec : ChangeSpec := { name := "namePlains", fn := fun _ => fun
  | [d] => { results := [.lit (.bool true)], args := [d] }
  | _ => none }
def namePlainsRow : OpenClaim := { program := "ytobfglafchoipaa", sum := "22888d288ed6addc26a600354dbb2135418c775603b0f4db9fab95a8388aaf73", func := "charter/charterlaw09.NamePlains", spec := "namePlains", unfollowed := true, recurses := true, apart := false }
def NamePlainsSaid : Prop := namePlainsRow.holds Try.pinned (OpenSpec.ofChange namePlainsSpec)

/-- ITS FALSE NEIGHBOUR: 'it returns false'. Refute it at one input. -/
def namePlainsWrong : ChangeSpec := { name := "namePlains", fn := fun _ => fun
  | [d] => { results := [.lit (.bool false)], args := [d] }
  | _ => none }
def NamePlainsWrongFalsely : Prop := namePlainsRow.holds Try.pinned (OpenSpec.ofChange namePlainsWrong)

/-- 'charterlaw09.NameAlike': WHATEVER THE INPUT: true; the input reads as it did. -/
def nameAlikeSpec : ChangeSpec := { name := "nameAlike", fn := fun _ => fun
  | [d1, d2] => { results := [.lit (.bool true)], args := [d1, d2] }
  | _ => none }
def nameAlikeRow : OpenClaim := { program := "ytobfglafchoipaa", sum := "22888d288ed6addc26a600354dbb2135418c775603b0f4db9fab95a8388aaf73", func := "charter/charterlaw09.NameAlike", spec := "nameAlike", unfollowed := true, recurses := true, apart := false }
def NameAlikeSaid : Prop := nameAlikeRow.holds Try.pinned (OpenSpec.ofChange nameAlikeSpec)

/-- ITS FALSE NEIGHBOUR: 'it returns false'. Refute it at one input. -/
def nameAlikeWrong : ChangeSpec := { name := "nameAlike", fn := fun _ => fun
  | [d1, d2] => { results := [.lit (.bool false)], args := [d1, d2] }
  | _ => none }
def NameAlikeWrongFalsely : Prop := nameAlikeRow.holds Try.pinned (OpenSpec.ofChange nameAlikeWrong)

/-- 'charterlaw09.NameOrder': WHATEVER THE INPUT: true; the input reads as it did. -/
def nameOrderSpec : ChangeSpec := { name := "nameOrder", fn := fun _ => fun
  | [d1, d2, d3] => { results := [.lit (.bool true)], args := [d1, d2, d3] }
  | _ => none }
def nameOrderRow : OpenClaim := { program := "ytobfglafchoipaa", sum := "22888d288ed6addc26a600354dbb2135418c775603b0f4db9fab95a8388aaf73", func := "charter/charterlaw09.NameOrder", spec := "nameOrder", unfollowed := true, recurses := true, apart := false }
def NameOrderSaid : Prop := nameOrderRow.holds Try.pinned (OpenSpec.ofChange nameOrderSpec)

/-- ITS FALSE NEIGHBOUR: 'it returns false'. Refute it at one input. -/
def nameOrderWrong : ChangeSpec := { name := "nameOrder", fn := fun _ => fun
  | [d1, d2, d3] => { results := [.lit (.bool false)], args := [d1, d2, d3] }
  | _ => none }
def NameOrderWrongFalsely : Prop := nameOrderRow.holds Try.pinned (OpenSpec.ofChange nameOrderWrong)

/-- 'charterlaw09.NameWrites': WHATEVER THE INPUT: true; the input reads as it did. -/
def nameWritesSpec : ChangeSpec := { name := "nameWrites", fn := fun _ => fun
  | [d] => { results := [.lit (.bool true)], args := [d] }
  | _ => none }
def nameWritesRow : OpenClaim := { program := "ytobfglafchoipaa", sum := "22888d288ed6addc26a600354dbb2135418c775603b0f4db9fab95a8388aaf73", func := "charter/charterlaw09.NameWrites", spec := "nameWrites", inPlace := ["internal/bytealg.IndexByteString", "internal/bytealg.Compare"], unfollowed := true, recurses := true, apart := false }
def NameWritesSaid : Prop := nameWritesRow.holds Try.pinned (OpenSpec.ofChange nameWritesSpec)

/-- ITS FALSE NEIGHBOUR: 'it returns false'. Refute it at one input. -/
def nameWritesWrong : ChangeSpec := { name := "nameWrites", fn := fun _ => fun
  | [d] => { results := [.lit (.bool false)], args := [d] }
  | _ => none }
def NameWritesWrongFalsely : Prop := nameWritesRow.holds Try.pinned (OpenSpec.ofChange nameWritesWrong)

/-- 'charterlaw09.NameReads': WHATEVER THE INPUT: true; the input reads as it did. -/
def nameReadsSpec : ChangeSpec := { name := "nameReads", fn := fun _ => fun
  | [d] => { results := [.lit (.bool true)], args := [d] }
  | _ => none }
def nameReadsRow : OpenClaim := { program := "ytobfglafchoipaa", sum := "22888d288ed6addc26a600354dbb2135418c775603b0f4db9fab95a8388aaf73", func := "charter/charterlaw09.NameReads", spec := "nameReads", inPlace := ["internal/bytealg.IndexByteString", "internal/bytealg.Compare"], unfollowed := true, recurses := true, apart := false }
def NameReadsSaid : Prop := nameReadsRow.holds Try.pinned (OpenSpec.ofChange nameReadsSpec)

/-- ITS FALSE NEIGHBOUR: 'it returns false'. Refute it at one input. -/
def nameReadsWrong : ChangeSpec := { name := "nameReads", fn := fun _ => fun
  | [d] => { results := [.lit (.bool false)], args := [d] }
  | _ => none }
def NameReadsWrongFalsely : Prop := nameReadsRow.holds Try.pinned (OpenSpec.ofChange nameReadsWrong)

/-- 'charterlaw09.NameBack': WHATEVER THE INPUT: true; the input reads as it did. -/
def nameBackSpec : ChangeSpec := { name := "nameBack", fn := fun _ => fun
  | [d1, d2] => { results := [.lit (.bool true)], args := [d1, d2] }
  | _ => none }
def nameBackRow : OpenClaim := { program := "ytobfglafchoipaa", sum := "22888d288ed6addc26a600354dbb2135418c775603b0f4db9fab95a8388aaf73", func := "charter/charterlaw09.NameBack", spec := "nameBack", inPlace := ["internal/bytealg.IndexByteString", "internal/bytealg.Compare"], unfollowed := true, recurses := true, apart := false }
def NameBackSaid : Prop := nameBackRow.holds Try.pinned (OpenSpec.ofChange nameBackSpec)

/-- ITS FALSE NEIGHBOUR: 'it returns false'. Refute it at one input. -/
def nameBackWrong : ChangeSpec := { name := "nameBack", fn := fun _ => fun
  | [d1, d2] => { results := [.lit (.bool false)], args := [d1, d2] }
  | _ => none }
def NameBackWrongFalsely : Prop := nameBackRow.holds Try.pinned (OpenSpec.ofChange nameBackWrong)

/-- 'charterlaw09.NameStays': WHATEVER THE INPUT: true; the input reads as it did. -/
def nameStaysSpec : ChangeSpec := { name := "nameStays", fn := fun _ => fun
  | [d1, d2] => { results := [.lit (.bool true)], args := [d1, d2] }
  | _ => none }
def nameStaysRow : OpenClaim := { program := "ytobfglafchoipaa", sum := "22888d288ed6addc26a600354dbb2135418c775603b0f4db9fab95a8388aaf73", func := "charter/charterlaw09.NameStays", spec := "nameStays", inPlace := ["internal/bytealg.IndexByteString", "internal/bytealg.Compare"], unfollowed := true, recurses := true, apart := false }
def NameStaysSaid : Prop := nameStaysRow.holds Try.pinned (OpenSpec.ofChange nameStaysSpec)

/-- ITS FALSE NEIGHBOUR: 'it returns false'. Refute it at one input. -/
def nameStaysWrong : ChangeSpec := { name := "nameStays", fn := fun _ => fun
  | [d1, d2] => { results := [.lit (.bool false)], args := [d1, d2] }
  | _ => none }
def NameStaysWrongFalsely : Prop := nameStaysRow.holds Try.pinned (OpenSpec.ofChange nameStaysWrong)

/- THE SECOND FORM. 'bulk': how many values and letters a reading holds, each counted each time it is reached (what is shared counts as often as it is met; a slice's spare places count too). A statement '..UptoSaid' is the law's where the arguments, and the package variables that the reading takes, are together of bulk at most 1048576: NARROWER than '..Said'. Prove '..Said' where nothing that the law and all that it calls make is longer than what came in: it says more and counts as full. Else prove '..UptoSaid'. A law counts once. -/
mutual
def uptoBulk {H : Type} : DataW H → Nat
  | .lit (.string bytes) => bytes.length + 1
  | .lit _ => 1
  | .nil => 1
  | .ptr d => uptoBulk d + 1
  | .slice elems spare => uptoBulkAll elems + uptoBulkAll spare + 1
  | .agg parts => uptoBulkAll parts + 1
  | .iface _ d => uptoBulk d + 1
  | .map entries => uptoBulkEntries entries + 1
  | .held _ => 1
def uptoBulkAll {H : Type} : List (DataW H) → Nat
  | [] => 0
  | d :: r => uptoBulk d + uptoBulkAll r
def uptoBulkEntries {H : Type} : List (Lit × DataW H) → Nat
  | [] => 0
  | x :: r => uptoBulkEntry x + uptoBulkEntries r
def uptoBulkEntry {H : Type} : Lit × DataW H → Nat
  | (.string bytes, d) => bytes.length + uptoBulk d + 1
  | (_, d) => uptoBulk d + 1
 end
def uptoSmall : (H : Type) → List (DataW H) → Bool := fun _ ds => decide (uptoBulkAll ds ≤ 1048576)
def OpenSpec.upto (s : _root_.Go.ChangeSpec) : _root_.Go.OpenSpec := { _root_.Go.OpenSpec.ofChange s with cond := some uptoSmall }

/-- 'charterlaw09.NamePlains', WHERE WHAT IT READS IS OF BULK AT MOST 1048576: true; the input reads as it did. -/
def namePlainsUptoRow : OpenClaim := { program := "ytobfglafchoipaa", sum := "22888d288ed6addc26a600354dbb2135418c775603b0f4db9fab95a8388aaf73", func := "charter/charterlaw09.NamePlains", spec := "namePlains", unfollowed := true, recurses := true, apart := false, narrowed := true }
def NamePlainsUptoSaid : Prop := namePlainsUptoRow.holds Try.pinned (OpenSpec.upto namePlainsSpec)

/-- 'charterlaw09.NameAlike', WHERE WHAT IT READS IS OF BULK AT MOST 1048576: true; the input reads as it did. -/
def nameAlikeUptoRow : OpenClaim := { program := "ytobfglafchoipaa", sum := "22888d288ed6addc26a600354dbb2135418c775603b0f4db9fab95a8388aaf73", func := "charter/charterlaw09.NameAlike", spec := "nameAlike", unfollowed := true, recurses := true, apart := false, narrowed := true }
def NameAlikeUptoSaid : Prop := nameAlikeUptoRow.holds Try.pinned (OpenSpec.upto nameAlikeSpec)

/-- 'charterlaw09.NameOrder', WHERE WHAT IT READS IS OF BULK AT MOST 1048576: true; the input reads as it did. -/
def nameOrderUptoRow : OpenClaim := { program := "ytobfglafchoipaa", sum := "22888d288ed6addc26a600354dbb2135418c775603b0f4db9fab95a8388aaf73", func := "charter/charterlaw09.NameOrder", spec := "nameOrder", unfollowed := true, recurses := true, apart := false, narrowed := true }
def NameOrderUptoSaid : Prop := nameOrderUptoRow.holds Try.pinned (OpenSpec.upto nameOrderSpec)

/-- 'charterlaw09.NameWrites', WHERE WHAT IT READS IS OF BULK AT MOST 1048576: true; the input reads as it did. -/
def nameWritesUptoRow : OpenClaim := { program := "ytobfglafchoipaa", sum := "22888d288ed6addc26a600354dbb2135418c775603b0f4db9fab95a8388aaf73", func := "charter/charterlaw09.NameWrites", spec := "nameWrites", inPlace := ["internal/bytealg.IndexByteString", "internal/bytealg.Compare"], unfollowed := true, recurses := true, apart := false, narrowed := true }
def NameWritesUptoSaid : Prop := nameWritesUptoRow.holds Try.pinned (OpenSpec.upto nameWritesSpec)

/-- 'charterlaw09.NameReads', WHERE WHAT IT READS IS OF BULK AT MOST 1048576: true; the input reads as it did. -/
def nameReadsUptoRow : OpenClaim := { program := "ytobfglafchoipaa", sum := "22888d288ed6addc26a600354dbb2135418c775603b0f4db9fab95a8388aaf73", func := "charter/charterlaw09.NameReads", spec := "nameReads", inPlace := ["internal/bytealg.IndexByteString", "internal/bytealg.Compare"], unfollowed := true, recurses := true, apart := false, narrowed := true }
def NameReadsUptoSaid : Prop := nameReadsUptoRow.holds Try.pinned (OpenSpec.upto nameReadsSpec)

/-- 'charterlaw09.NameBack', WHERE WHAT IT READS IS OF BULK AT MOST 1048576: true; the input reads as it did. -/
def nameBackUptoRow : OpenClaim := { program := "ytobfglafchoipaa", sum := "22888d288ed6addc26a600354dbb2135418c775603b0f4db9fab95a8388aaf73", func := "charter/charterlaw09.NameBack", spec := "nameBack", inPlace := ["internal/bytealg.IndexByteString", "internal/bytealg.Compare"], unfollowed := true, recurses := true, apart := false, narrowed := true }
def NameBackUptoSaid : Prop := nameBackUptoRow.holds Try.pinned (OpenSpec.upto nameBackSpec)

/-- 'charterlaw09.NameStays', WHERE WHAT IT READS IS OF BULK AT MOST 1048576: true; the input reads as it did. -/
def nameStaysUptoRow : OpenClaim := { program := "ytobfglafchoipaa", sum := "22888d288ed6addc26a600354dbb2135418c775603b0f4db9fab95a8388aaf73", func := "charter/charterlaw09.NameStays", spec := "nameStays", inPlace := ["internal/bytealg.IndexByteString", "internal/bytealg.Compare"], unfollowed := true, recurses := true, apart := false, narrowed := true }
def NameStaysUptoSaid : Prop := nameStaysUptoRow.holds Try.pinned (OpenSpec.upto nameStaysSpec)

end Rows
end Go.Proofs.Ytobfglafchoipaa
