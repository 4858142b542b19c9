/-
  No cell of these rows narrows 'for every input' (looked for: loops, veiled, ifaces, maps, wideKeys, modest, calm, conditions, laid).
  DERIVED. THE GIVEN ROWS OF THIS SEAT. 4 by the template 'for every input the law returns true; each argument reads behind the call as it read before'; 0 by the template 'total and deterministic' (their statements: YtcdljciflkefaaaTotals.lean).
  GIVEN WITH THE SEED: the statements are not yours to turn. If you find one false, say at which input.
  Laid BY PROGRAM, IN A SANDBOX (cutbox-rows.mjs): the forced cells as the released guide's own fill.sh prints them over the translation 55b2f4628e7f842a… (all of the seat's roots in one cut). By AI agents, Wed Nov 11 2026. No macro, syntax, notation, axiom, sorry.
-/
import Derived.Test.YtcdljciflkefaaaChecked
import GoSem.Claim
import GoSem.ClaimJoined
import GoSem.ClaimMapViews
import Derived.JoinedTies
import Derived.KernelRfl
namespace Go.Proofs.Ytcdljciflkefaaa
/- THE CELL 'sum', in the pinned program and in every row, IS THE sha256 OF THE DUMP (.gsa) THAT YtcdljciflkefaaaProg.lean LOADS. Nothing in Lean hashes anything: it is a label: what it is worth is what the hold of that sum in a sandbox is worth. -/
noncomputable def Try.pinned : Pinned := { name := "ytcdljciflkefaaa", sum := "55b2f4628e7f842a33b2e8481b78076f4a09594072b56bdbaef90a9535b16acf", checked := Try.checked }
namespace Rows
def none {H : Type} : Left H := { results := [], args := [] }

/-- 'charterlaw07.TlvHeads': WHATEVER THE INPUT: true; the input reads as it did. -/
def tlvHeadsSpec : ChangeSpec := { name := "tlvHeads", fn := fun _ => fun
  | [d1, d2] => { results := [.lit (.bool true)], args := [d1, d2] }
  | _ => none }
def tlvHeadsRow : OpenClaim := { program := "ytcdljciflkefaaa", sum := "55b2f4628e7f842a33b2e8481b78076f4a09594072b56bdbaef90a9535b16acf", func := "charter/charterlaw07.TlvHeads", spec := "tlvHeads", apart := false }
def TlvHeadsSaid : Prop := tlvHeadsRow.holds Try.pinned (OpenSpec.ofChange tlvHeadsSpec)

/-- ITS FALSE NEIGHBOUR: 'it returns false'. Refute it at one input. -/
def tlvHeadsWrong : ChangeSpec := { name := "tlvHeads", fn := fun _ => fun
  | [d1, d2] => { results := [.lit (.bool false)], args := [d1, d2] }
  | _ => none }
def TlvHeadsWrongFalsely : Prop := tlvHeadsRow.holds Try.pinned (OpenSpec.ofChange tlvHeadsWrong)

/-- 'charterlaw07.TlvWrites': WHATEVER THE INPUT: true; the input reads as it did. -/
def tlvWritesSpec : ChangeSpec := { name := "tlvWrites", fn := fun _ => fun
  | [d] => { results := [.lit (.bool true)], args := [d] }
  | _ => none }
def tlvWritesRow : OpenClaim := { program := "ytcdljciflkefaaa", sum := "55b2f4628e7f842a33b2e8481b78076f4a09594072b56bdbaef90a9535b16acf", func := "charter/charterlaw07.TlvWrites", spec := "tlvWrites", apart := false }
def TlvWritesSaid : Prop := tlvWritesRow.holds Try.pinned (OpenSpec.ofChange tlvWritesSpec)

/-- ITS FALSE NEIGHBOUR: 'it returns false'. Refute it at one input. -/
def tlvWritesWrong : ChangeSpec := { name := "tlvWrites", fn := fun _ => fun
  | [d] => { results := [.lit (.bool false)], args := [d] }
  | _ => none }
def TlvWritesWrongFalsely : Prop := tlvWritesRow.holds Try.pinned (OpenSpec.ofChange tlvWritesWrong)

/-- 'charterlaw07.TlvStays': WHATEVER THE INPUT: true; the input reads as it did. -/
def tlvStaysSpec : ChangeSpec := { name := "tlvStays", fn := fun _ => fun
  | [d1, d2] => { results := [.lit (.bool true)], args := [d1, d2] }
  | _ => none }
def tlvStaysRow : OpenClaim := { program := "ytcdljciflkefaaa", sum := "55b2f4628e7f842a33b2e8481b78076f4a09594072b56bdbaef90a9535b16acf", func := "charter/charterlaw07.TlvStays", spec := "tlvStays", apart := false }
def TlvStaysSaid : Prop := tlvStaysRow.holds Try.pinned (OpenSpec.ofChange tlvStaysSpec)

/-- ITS FALSE NEIGHBOUR: 'it returns false'. Refute it at one input. -/
def tlvStaysWrong : ChangeSpec := { name := "tlvStays", fn := fun _ => fun
  | [d1, d2] => { results := [.lit (.bool false)], args := [d1, d2] }
  | _ => none }
def TlvStaysWrongFalsely : Prop := tlvStaysRow.holds Try.pinned (OpenSpec.ofChange tlvStaysWrong)

/-- 'charterlaw07.TlvBack': WHATEVER THE INPUT: true; the input reads as it did. -/
def tlvBackSpec : ChangeSpec := { name := "tlvBack", fn := fun _ => fun
  | [d] => { results := [.lit (.bool true)], args := [d] }
  | _ => none }
def tlvBackRow : OpenClaim := { program := "ytcdljciflkefaaa", sum := "55b2f4628e7f842a33b2e8481b78076f4a09594072b56bdbaef90a9535b16acf", func := "charter/charterlaw07.TlvBack", spec := "tlvBack", recurses := true, apart := false }
def TlvBackSaid : Prop := tlvBackRow.holds Try.pinned (OpenSpec.ofChange tlvBackSpec)

/-- ITS FALSE NEIGHBOUR: 'it returns false'. Refute it at one input. -/
def tlvBackWrong : ChangeSpec := { name := "tlvBack", fn := fun _ => fun
  | [d] => { results := [.lit (.bool false)], args := [d] }
  | _ => none }
def TlvBackWrongFalsely : Prop := tlvBackRow.holds Try.pinned (OpenSpec.ofChange tlvBackWrong)

/- THE SECOND FORM. 'bulk': how many values and letters a reading holds, each counted each time it is reached (what is shared counts as often as it is met; a slice's spare places count too). A statement '..UptoSaid' is the law's where the arguments, and the package variables that the reading takes, are together of bulk at most 1048576: NARROWER than '..Said'. Prove '..Said' where nothing that the law and all that it calls make is longer than what came in: it says more and counts as full. Else prove '..UptoSaid'. A law counts once. -/
mutual
def uptoBulk {H : Type} : DataW H → Nat
  | .lit (.string bytes) => bytes.length + 1
  | .lit _ => 1
  | .nil => 1
  | .ptr d => uptoBulk d + 1
  | .slice elems spare => uptoBulkAll elems + uptoBulkAll spare + 1
  | .agg parts => uptoBulkAll parts + 1
  | .iface _ d => uptoBulk d + 1
  | .map entries => uptoBulkEntries entries + 1
  | .held _ => 1
def uptoBulkAll {H : Type} : List (DataW H) → Nat
  | [] => 0
  | d :: r => uptoBulk d + uptoBulkAll r
def uptoBulkEntries {H : Type} : List (Lit × DataW H) → Nat
  | [] => 0
  | x :: r => uptoBulkEntry x + uptoBulkEntries r
def uptoBulkEntry {H : Type} : Lit × DataW H → Nat
  | (.string bytes, d) => bytes.length + uptoBulk d + 1
  | (_, d) => uptoBulk d + 1
 end
def uptoSmall : (H : Type) → List (DataW H) → Bool := fun _ ds => decide (uptoBulkAll ds ≤ 1048576)
def OpenSpec.upto (s : _root_.Go.ChangeSpec) : _root_.Go.OpenSpec := { _root_.Go.OpenSpec.ofChange s with cond := some uptoSmall }

/-- 'charterlaw07.TlvHeads', WHERE WHAT IT READS IS OF BULK AT MOST 1048576: true; the input reads as it did. -/
def tlvHeadsUptoRow : OpenClaim := { program := "ytcdljciflkefaaa", sum := "55b2f4628e7f842a33b2e8481b78076f4a09594072b56bdbaef90a9535b16acf", func := "charter/charterlaw07.TlvHeads", spec := "tlvHeads", apart := false, narrowed := true }
def TlvHeadsUptoSaid : Prop := tlvHeadsUptoRow.holds Try.pinned (OpenSpec.upto tlvHeadsSpec)

/-- 'charterlaw07.TlvWrites', WHERE WHAT IT READS IS OF BULK AT MOST 1048576: true; the input reads as it did. -/
def tlvWritesUptoRow : OpenClaim := { program := "ytcdljciflkefaaa", sum := "55b2f4628e7f842a33b2e8481b78076f4a09594072b56bdbaef90a9535b16acf", func := "charter/charterlaw07.TlvWrites", spec := "tlvWrites", apart := false, narrowed := true }
def TlvWritesUptoSaid : Prop := tlvWritesUptoRow.holds Try.pinned (OpenSpec.upto tlvWritesSpec)

/-- 'charterlaw07.TlvStays', WHERE WHAT IT READS IS OF BULK AT MOST 1048576: true; the input reads as it did. -/
def tlvStaysUptoRow : OpenClaim := { program := "ytcdljciflkefaaa", sum := "55b2f4628e7f842a33b2e8481b78076f4a09594072b56bdbaef90a9535b16acf", func := "charter/charterlaw07.TlvStays", spec := "tlvStays", apart := false, narrowed := true }
def TlvStaysUptoSaid : Prop := tlvStaysUptoRow.holds Try.pinned (OpenSpec.upto tlvStaysSpec)

/-- 'charterlaw07.TlvBack', WHERE WHAT IT READS IS OF BULK AT MOST 1048576: true; the input reads as it did. -/
def tlvBackUptoRow : OpenClaim := { program := "ytcdljciflkefaaa", sum := "55b2f4628e7f842a33b2e8481b78076f4a09594072b56bdbaef90a9535b16acf", func := "charter/charterlaw07.TlvBack", spec := "tlvBack", recurses := true, apart := false, narrowed := true }
def TlvBackUptoSaid : Prop := tlvBackUptoRow.holds Try.pinned (OpenSpec.upto tlvBackSpec)

end Rows
end Go.Proofs.Ytcdljciflkefaaa
