/-
  No cell of these rows narrows 'for every input' (looked for: loops, veiled, ifaces, maps, wideKeys, modest, calm, conditions, laid).
  DERIVED. THE GIVEN ROWS OF THIS SEAT. 8 by the template 'for every input the law returns true; each argument reads behind the call as it read before'; 0 by the template 'total and deterministic' (their statements: YtpinmaodpfoinaaTotals.lean).
  GIVEN WITH THE SEED: the statements are not yours to turn. If you find one false, say at which input.
  Laid BY PROGRAM, IN A SANDBOX (cutbox-rows.mjs): the forced cells as the released guide's own fill.sh prints them over the translation 5135f1cef38299a1… (all of the seat's roots in one cut). By AI agents, Wed Nov 11 2026. No macro, syntax, notation, axiom, sorry.
-/
import Derived.Test.YtpinmaodpfoinaaChecked
import GoSem.Claim
import GoSem.ClaimJoined
import GoSem.ClaimMapViews
import Derived.JoinedTies
import Derived.KernelRfl
namespace Go.Proofs.Ytpinmaodpfoinaa
/- THE CELL 'sum', in the pinned program and in every row, IS THE sha256 OF THE DUMP (.gsa) THAT YtpinmaodpfoinaaProg.lean LOADS. Nothing in Lean hashes anything: it is a label: what it is worth is what the hold of that sum in a sandbox is worth. -/
noncomputable def Try.pinned : Pinned := { name := "ytpinmaodpfoinaa", sum := "5135f1cef38299a1f45244b1d1e8159b4a9f706142d43c54a06adbc2b83f0f9d", checked := Try.checked }
namespace Rows
def none {H : Type} : Left H := { results := [], args := [] }

/-- 'charterlaw05.NatDivs': WHATEVER THE INPUT: true; the input reads as it did. -/
def natDivsSpec : ChangeSpec := { name := "natDivs", fn := fun _ => fun
  | [d1, d2] => { results := [.lit (.bool true)], args := [d1, d2] }
  | _ => none }
def natDivsRow : OpenClaim := { program := "ytpinmaodpfoinaa", sum := "5135f1cef38299a1f45244b1d1e8159b4a9f706142d43c54a06adbc2b83f0f9d", func := "charter/charterlaw05.NatDivs", spec := "natDivs", apart := false }
def NatDivsSaid : Prop := natDivsRow.holds Try.pinned (OpenSpec.ofChange natDivsSpec)

/-- ITS FALSE NEIGHBOUR: 'it returns false'. Refute it at one input. -/
def natDivsWrong : ChangeSpec := { name := "natDivs", fn := fun _ => fun
  | [d1, d2] => { results := [.lit (.bool false)], args := [d1, d2] }
  | _ => none }
def NatDivsWrongFalsely : Prop := natDivsRow.holds Try.pinned (OpenSpec.ofChange natDivsWrong)

/-- 'charterlaw05.NatExps': WHATEVER THE INPUT: true; the input reads as it did. -/
def natExpsSpec : ChangeSpec := { name := "natExps", fn := fun _ => fun
  | [d1, d2, d3] => { results := [.lit (.bool true)], args := [d1, d2, d3] }
  | _ => none }
def natExpsRow : OpenClaim := { program := "ytpinmaodpfoinaa", sum := "5135f1cef38299a1f45244b1d1e8159b4a9f706142d43c54a06adbc2b83f0f9d", func := "charter/charterlaw05.NatExps", spec := "natExps", apart := false }
def NatExpsSaid : Prop := natExpsRow.holds Try.pinned (OpenSpec.ofChange natExpsSpec)

/-- ITS FALSE NEIGHBOUR: 'it returns false'. Refute it at one input. -/
def natExpsWrong : ChangeSpec := { name := "natExps", fn := fun _ => fun
  | [d1, d2, d3] => { results := [.lit (.bool false)], args := [d1, d2, d3] }
  | _ => none }
def NatExpsWrongFalsely : Prop := natExpsRow.holds Try.pinned (OpenSpec.ofChange natExpsWrong)

/-- 'charterlaw05.NatInvs': WHATEVER THE INPUT: true; the input reads as it did. -/
def natInvsSpec : ChangeSpec := { name := "natInvs", fn := fun _ => fun
  | [d1, d2] => { results := [.lit (.bool true)], args := [d1, d2] }
  | _ => none }
def natInvsRow : OpenClaim := { program := "ytpinmaodpfoinaa", sum := "5135f1cef38299a1f45244b1d1e8159b4a9f706142d43c54a06adbc2b83f0f9d", func := "charter/charterlaw05.NatInvs", spec := "natInvs", apart := false }
def NatInvsSaid : Prop := natInvsRow.holds Try.pinned (OpenSpec.ofChange natInvsSpec)

/-- ITS FALSE NEIGHBOUR: 'it returns false'. Refute it at one input. -/
def natInvsWrong : ChangeSpec := { name := "natInvs", fn := fun _ => fun
  | [d1, d2] => { results := [.lit (.bool false)], args := [d1, d2] }
  | _ => none }
def NatInvsWrongFalsely : Prop := natInvsRow.holds Try.pinned (OpenSpec.ofChange natInvsWrong)

/-- 'charterlaw05.NatMuls': WHATEVER THE INPUT: true; the input reads as it did. -/
def natMulsSpec : ChangeSpec := { name := "natMuls", fn := fun _ => fun
  | [d1, d2] => { results := [.lit (.bool true)], args := [d1, d2] }
  | _ => none }
def natMulsRow : OpenClaim := { program := "ytpinmaodpfoinaa", sum := "5135f1cef38299a1f45244b1d1e8159b4a9f706142d43c54a06adbc2b83f0f9d", func := "charter/charterlaw05.NatMuls", spec := "natMuls", apart := false }
def NatMulsSaid : Prop := natMulsRow.holds Try.pinned (OpenSpec.ofChange natMulsSpec)

/-- ITS FALSE NEIGHBOUR: 'it returns false'. Refute it at one input. -/
def natMulsWrong : ChangeSpec := { name := "natMuls", fn := fun _ => fun
  | [d1, d2] => { results := [.lit (.bool false)], args := [d1, d2] }
  | _ => none }
def NatMulsWrongFalsely : Prop := natMulsRow.holds Try.pinned (OpenSpec.ofChange natMulsWrong)

/-- 'charterlaw05.NatSums': WHATEVER THE INPUT: true; the input reads as it did. -/
def natSumsSpec : ChangeSpec := { name := "natSums", fn := fun _ => fun
  | [d1, d2] => { results := [.lit (.bool true)], args := [d1, d2] }
  | _ => none }
def natSumsRow : OpenClaim := { program := "ytpinmaodpfoinaa", sum := "5135f1cef38299a1f45244b1d1e8159b4a9f706142d43c54a06adbc2b83f0f9d", func := "charter/charterlaw05.NatSums", spec := "natSums", apart := false }
def NatSumsSaid : Prop := natSumsRow.holds Try.pinned (OpenSpec.ofChange natSumsSpec)

/-- ITS FALSE NEIGHBOUR: 'it returns false'. Refute it at one input. -/
def natSumsWrong : ChangeSpec := { name := "natSums", fn := fun _ => fun
  | [d1, d2] => { results := [.lit (.bool false)], args := [d1, d2] }
  | _ => none }
def NatSumsWrongFalsely : Prop := natSumsRow.holds Try.pinned (OpenSpec.ofChange natSumsWrong)

/-- 'charterlaw05.NatStays': WHATEVER THE INPUT: true; the input reads as it did. -/
def natStaysSpec : ChangeSpec := { name := "natStays", fn := fun _ => fun
  | [d1, d2] => { results := [.lit (.bool true)], args := [d1, d2] }
  | _ => none }
def natStaysRow : OpenClaim := { program := "ytpinmaodpfoinaa", sum := "5135f1cef38299a1f45244b1d1e8159b4a9f706142d43c54a06adbc2b83f0f9d", func := "charter/charterlaw05.NatStays", spec := "natStays", apart := false }
def NatStaysSaid : Prop := natStaysRow.holds Try.pinned (OpenSpec.ofChange natStaysSpec)

/-- ITS FALSE NEIGHBOUR: 'it returns false'. Refute it at one input. -/
def natStaysWrong : ChangeSpec := { name := "natStays", fn := fun _ => fun
  | [d1, d2] => { results := [.lit (.bool false)], args := [d1, d2] }
  | _ => none }
def NatStaysWrongFalsely : Prop := natStaysRow.holds Try.pinned (OpenSpec.ofChange natStaysWrong)

/-- 'charterlaw05.NatRing': WHATEVER THE INPUT: true; the input reads as it did. -/
def natRingSpec : ChangeSpec := { name := "natRing", fn := fun _ => fun
  | [d1, d2, d3] => { results := [.lit (.bool true)], args := [d1, d2, d3] }
  | _ => none }
def natRingRow : OpenClaim := { program := "ytpinmaodpfoinaa", sum := "5135f1cef38299a1f45244b1d1e8159b4a9f706142d43c54a06adbc2b83f0f9d", func := "charter/charterlaw05.NatRing", spec := "natRing", apart := false }
def NatRingSaid : Prop := natRingRow.holds Try.pinned (OpenSpec.ofChange natRingSpec)

/-- ITS FALSE NEIGHBOUR: 'it returns false'. Refute it at one input. -/
def natRingWrong : ChangeSpec := { name := "natRing", fn := fun _ => fun
  | [d1, d2, d3] => { results := [.lit (.bool false)], args := [d1, d2, d3] }
  | _ => none }
def NatRingWrongFalsely : Prop := natRingRow.holds Try.pinned (OpenSpec.ofChange natRingWrong)

/-- 'charterlaw05.NatPowers': WHATEVER THE INPUT: true; the input reads as it did. -/
def natPowersSpec : ChangeSpec := { name := "natPowers", fn := fun _ => fun
  | [d1, d2, d3, d4] => { results := [.lit (.bool true)], args := [d1, d2, d3, d4] }
  | _ => none }
def natPowersRow : OpenClaim := { program := "ytpinmaodpfoinaa", sum := "5135f1cef38299a1f45244b1d1e8159b4a9f706142d43c54a06adbc2b83f0f9d", func := "charter/charterlaw05.NatPowers", spec := "natPowers", apart := false }
def NatPowersSaid : Prop := natPowersRow.holds Try.pinned (OpenSpec.ofChange natPowersSpec)

/-- ITS FALSE NEIGHBOUR: 'it returns false'. Refute it at one input. -/
def natPowersWrong : ChangeSpec := { name := "natPowers", fn := fun _ => fun
  | [d1, d2, d3, d4] => { results := [.lit (.bool false)], args := [d1, d2, d3, d4] }
  | _ => none }
def NatPowersWrongFalsely : Prop := natPowersRow.holds Try.pinned (OpenSpec.ofChange natPowersWrong)

/- THE SECOND FORM. 'bulk': how many values and letters a reading holds, each counted each time it is reached (what is shared counts as often as it is met; a slice's spare places count too). A statement '..UptoSaid' is the law's where the arguments, and the package variables that the reading takes, are together of bulk at most 1048576: NARROWER than '..Said'. Prove '..Said' where nothing that the law and all that it calls make is longer than what came in: it says more and counts as full. Else prove '..UptoSaid'. A law counts once. -/
mutual
def uptoBulk {H : Type} : DataW H → Nat
  | .lit (.string bytes) => bytes.length + 1
  | .lit _ => 1
  | .nil => 1
  | .ptr d => uptoBulk d + 1
  | .slice elems spare => uptoBulkAll elems + uptoBulkAll spare + 1
  | .agg parts => uptoBulkAll parts + 1
  | .iface _ d => uptoBulk d + 1
  | .map entries => uptoBulkEntries entries + 1
  | .held _ => 1
def uptoBulkAll {H : Type} : List (DataW H) → Nat
  | [] => 0
  | d :: r => uptoBulk d + uptoBulkAll r
def uptoBulkEntries {H : Type} : List (Lit × DataW H) → Nat
  | [] => 0
  | x :: r => uptoBulkEntry x + uptoBulkEntries r
def uptoBulkEntry {H : Type} : Lit × DataW H → Nat
  | (.string bytes, d) => bytes.length + uptoBulk d + 1
  | (_, d) => uptoBulk d + 1
 end
def uptoSmall : (H : Type) → List (DataW H) → Bool := fun _ ds => decide (uptoBulkAll ds ≤ 1048576)
def OpenSpec.upto (s : _root_.Go.ChangeSpec) : _root_.Go.OpenSpec := { _root_.Go.OpenSpec.ofChange s with cond := some uptoSmall }

/-- 'charterlaw05.NatDivs', WHERE WHAT IT READS IS OF BULK AT MOST 1048576: true; the input reads as it did. -/
def natDivsUptoRow : OpenClaim := { program := "ytpinmaodpfoinaa", sum := "5135f1cef38299a1f45244b1d1e8159b4a9f706142d43c54a06adbc2b83f0f9d", func := "charter/charterlaw05.NatDivs", spec := "natDivs", apart := false, narrowed := true }
def NatDivsUptoSaid : Prop := natDivsUptoRow.holds Try.pinned (OpenSpec.upto natDivsSpec)

/-- 'charterlaw05.NatExps', WHERE WHAT IT READS IS OF BULK AT MOST 1048576: true; the input reads as it did. -/
def natExpsUptoRow : OpenClaim := { program := "ytpinmaodpfoinaa", sum := "5135f1cef38299a1f45244b1d1e8159b4a9f706142d43c54a06adbc2b83f0f9d", func := "charter/charterlaw05.NatExps", spec := "natExps", apart := false, narrowed := true }
def NatExpsUptoSaid : Prop := natExpsUptoRow.holds Try.pinned (OpenSpec.upto natExpsSpec)

/-- 'charterlaw05.NatInvs', WHERE WHAT IT READS IS OF BULK AT MOST 1048576: true; the input reads as it did. -/
def natInvsUptoRow : OpenClaim := { program := "ytpinmaodpfoinaa", sum := "5135f1cef38299a1f45244b1d1e8159b4a9f706142d43c54a06adbc2b83f0f9d", func := "charter/charterlaw05.NatInvs", spec := "natInvs", apart := false, narrowed := true }
def NatInvsUptoSaid : Prop := natInvsUptoRow.holds Try.pinned (OpenSpec.upto natInvsSpec)

/-- 'charterlaw05.NatMuls', WHERE WHAT IT READS IS OF BULK AT MOST 1048576: true; the input reads as it did. -/
def natMulsUptoRow : OpenClaim := { program := "ytpinmaodpfoinaa", sum := "5135f1cef38299a1f45244b1d1e8159b4a9f706142d43c54a06adbc2b83f0f9d", func := "charter/charterlaw05.NatMuls", spec := "natMuls", apart := false, narrowed := true }
def NatMulsUptoSaid : Prop := natMulsUptoRow.holds Try.pinned (OpenSpec.upto natMulsSpec)

/-- 'charterlaw05.NatSums', WHERE WHAT IT READS IS OF BULK AT MOST 1048576: true; the input reads as it did. -/
def natSumsUptoRow : OpenClaim := { program := "ytpinmaodpfoinaa", sum := "5135f1cef38299a1f45244b1d1e8159b4a9f706142d43c54a06adbc2b83f0f9d", func := "charter/charterlaw05.NatSums", spec := "natSums", apart := false, narrowed := true }
def NatSumsUptoSaid : Prop := natSumsUptoRow.holds Try.pinned (OpenSpec.upto natSumsSpec)

/-- 'charterlaw05.NatStays', WHERE WHAT IT READS IS OF BULK AT MOST 1048576: true; the input reads as it did. -/
def natStaysUptoRow : OpenClaim := { program := "ytpinmaodpfoinaa", sum := "5135f1cef38299a1f45244b1d1e8159b4a9f706142d43c54a06adbc2b83f0f9d", func := "charter/charterlaw05.NatStays", spec := "natStays", apart := false, narrowed := true }
def NatStaysUptoSaid : Prop := natStaysUptoRow.holds Try.pinned (OpenSpec.upto natStaysSpec)

/-- 'charterlaw05.NatRing', WHERE WHAT IT READS IS OF BULK AT MOST 1048576: true; the input reads as it did. -/
def natRingUptoRow : OpenClaim := { program := "ytpinmaodpfoinaa", sum := "5135f1cef38299a1f45244b1d1e8159b4a9f706142d43c54a06adbc2b83f0f9d", func := "charter/charterlaw05.NatRing", spec := "natRing", apart := false, narrowed := true }
def NatRingUptoSaid : Prop := natRingUptoRow.holds Try.pinned (OpenSpec.upto natRingSpec)

/-- 'charterlaw05.NatPowers', WHERE WHAT IT READS IS OF BULK AT MOST 1048576: true; the input reads as it did. -/
def natPowersUptoRow : OpenClaim := { program := "ytpinmaodpfoinaa", sum := "5135f1cef38299a1f45244b1d1e8159b4a9f706142d43c54a06adbc2b83f0f9d", func := "charter/charterlaw05.NatPowers", spec := "natPowers", apart := false, narrowed := true }
def NatPowersUptoSaid : Prop := natPowersUptoRow.holds Try.pinned (OpenSpec.upto natPowersSpec)

end Rows
end Go.Proofs.Ytpinmaodpfoinaa
