/-
  NARROWER THAN 'FOR EVERY INPUT', by the rows' own cells (each row's printed sentence says how): ShaSchedules: laid · ShaRounds: laid · ShaPresses: laid · ShaTails: laid · ShaSums: laid · ShaBack: laid · ShaGoes: laid · ShaStays: laid.
  DERIVED. THE GIVEN ROWS OF THIS SEAT. 8 by the template 'for every input the law returns true; each argument reads behind the call as it read before'; 0 by the template 'total and deterministic' (their statements: YtmdijgmnopidpaaDoorTotals.lean).
  GIVEN WITH THE SEED: the statements are not yours to turn. If you find one false, say at which input.
  Laid BY PROGRAM, IN A SANDBOX (cutbox-rows.mjs): the forced cells as the released guide's own fill.sh prints them over the translation ee1a6b55861ae8d4… (all of the seat's roots in one cut). By AI agents, Wed Nov 11 2026. No macro, syntax, notation, axiom, sorry.
-/
import Derived.Test.YtmdijgmnopidpaaDoorChecked
import GoSem.Claim
import GoSem.ClaimJoined
import GoSem.ClaimMapViews
import Derived.JoinedTies
import Derived.KernelRfl
namespace Go.Proofs.YtmdijgmnopidpaaDoor
/- THE CELL 'sum', in the pinned program and in every row, IS THE sha256 OF THE DUMP (.gsa) THAT YtmdijgmnopidpaaDoorProg.lean LOADS. Nothing in Lean hashes anything: it is a label: what it is worth is what the hold of that sum in a sandbox is worth. -/
noncomputable def Tryd.pinned : Pinned := { name := "ytmdijgmnopidpaadoor", sum := "ee1a6b55861ae8d4e0cd106d5dc7a98cb6518ecb01c1cec2a41aa66872edb8f8", checked := Tryd.checked }
namespace Rows
def none {H : Type} : Left H := { results := [], args := [] }

/- WHAT THE LISTED PACKAGE-LEVEL VARIABLES READ AS WHEN THE CALL BEGINS. Each datum BY PROGRAM (the guide's laid-datum.mjs) off the statement by which the dump's own 'gosem.cut.vars' lays the variable. In a bare row this is a premise. The card (YtmdijgmnopidpaaDoorCards.lean) ties it to the program's text. -/
def laid_charter_sha_constants {H : Type} : DataW H := .agg [.lit (.int .u32 1116352408), .lit (.int .u32 1899447441), .lit (.int .u32 3049323471), .lit (.int .u32 3921009573), .lit (.int .u32 961987163), .lit (.int .u32 1508970993), .lit (.int .u32 2453635748), .lit (.int .u32 2870763221), .lit (.int .u32 3624381080), .lit (.int .u32 310598401), .lit (.int .u32 607225278), .lit (.int .u32 1426881987), .lit (.int .u32 1925078388), .lit (.int .u32 2162078206), .lit (.int .u32 2614888103), .lit (.int .u32 3248222580), .lit (.int .u32 3835390401), .lit (.int .u32 4022224774), .lit (.int .u32 264347078), .lit (.int .u32 604807628), .lit (.int .u32 770255983), .lit (.int .u32 1249150122), .lit (.int .u32 1555081692), .lit (.int .u32 1996064986), .lit (.int .u32 2554220882), .lit (.int .u32 2821834349), .lit (.int .u32 2952996808), .lit (.int .u32 3210313671), .lit (.int .u32 3336571891), .lit (.int .u32 3584528711), .lit (.int .u32 113926993), .lit (.int .u32 338241895), .lit (.int .u32 666307205), .lit (.int .u32 773529912), .lit (.int .u32 1294757372), .lit (.int .u32 1396182291), .lit (.int .u32 1695183700), .lit (.int .u32 1986661051), .lit (.int .u32 2177026350), .lit (.int .u32 2456956037), .lit (.int .u32 2730485921), .lit (.int .u32 2820302411), .lit (.int .u32 3259730800), .lit (.int .u32 3345764771), .lit (.int .u32 3516065817), .lit (.int .u32 3600352804), .lit (.int .u32 4094571909), .lit (.int .u32 275423344), .lit (.int .u32 430227734), .lit (.int .u32 506948616), .lit (.int .u32 659060556), .lit (.int .u32 883997877), .lit (.int .u32 958139571), .lit (.int .u32 1322822218), .lit (.int .u32 1537002063), .lit (.int .u32 1747873779), .lit (.int .u32 1955562222), .lit (.int .u32 2024104815), .lit (.int .u32 2227730452), .lit (.int .u32 2361852424), .lit (.int .u32 2428436474), .lit (.int .u32 2756734187), .lit (.int .u32 3204031479), .lit (.int .u32 3329325298)]

/-- 'charterlaw01.ShaSchedules': WHATEVER THE INPUT: true; the input reads as it did. -/
def shaSchedulesSpec : ChangeSpec := { name := "shaSchedules", fn := fun _ => fun
  | [d] => { results := [.lit (.bool true)], args := [d] }
  | _ => none }
def shaSchedulesRow : OpenClaim := { program := "ytmdijgmnopidpaadoor", sum := "ee1a6b55861ae8d4e0cd106d5dc7a98cb6518ecb01c1cec2a41aa66872edb8f8", func := "charter/charterlaw01.ShaSchedules", spec := "shaSchedules", named := ["charter/sha.constants"], apart := false, laid := [("charter/sha.constants", laid_charter_sha_constants)] }
def ShaSchedulesSaid : Prop := shaSchedulesRow.holds Tryd.pinned (OpenSpec.ofChange shaSchedulesSpec)

/-- ITS FALSE NEIGHBOUR: 'it returns false'. Refute it at one input. -/
def shaSchedulesWrong : ChangeSpec := { name := "shaSchedules", fn := fun _ => fun
  | [d] => { results := [.lit (.bool false)], args := [d] }
  | _ => none }
def ShaSchedulesWrongFalsely : Prop := shaSchedulesRow.holds Tryd.pinned (OpenSpec.ofChange shaSchedulesWrong)

/-- 'charterlaw01.ShaRounds': WHATEVER THE INPUT: true; the input reads as it did. -/
def shaRoundsSpec : ChangeSpec := { name := "shaRounds", fn := fun _ => fun
  | [d1, d2] => { results := [.lit (.bool true)], args := [d1, d2] }
  | _ => none }
def shaRoundsRow : OpenClaim := { program := "ytmdijgmnopidpaadoor", sum := "ee1a6b55861ae8d4e0cd106d5dc7a98cb6518ecb01c1cec2a41aa66872edb8f8", func := "charter/charterlaw01.ShaRounds", spec := "shaRounds", named := ["charter/sha.constants"], apart := false, laid := [("charter/sha.constants", laid_charter_sha_constants)] }
def ShaRoundsSaid : Prop := shaRoundsRow.holds Tryd.pinned (OpenSpec.ofChange shaRoundsSpec)

/-- ITS FALSE NEIGHBOUR: 'it returns false'. Refute it at one input. -/
def shaRoundsWrong : ChangeSpec := { name := "shaRounds", fn := fun _ => fun
  | [d1, d2] => { results := [.lit (.bool false)], args := [d1, d2] }
  | _ => none }
def ShaRoundsWrongFalsely : Prop := shaRoundsRow.holds Tryd.pinned (OpenSpec.ofChange shaRoundsWrong)

/-- 'charterlaw01.ShaPresses': WHATEVER THE INPUT: true; the input reads as it did. -/
def shaPressesSpec : ChangeSpec := { name := "shaPresses", fn := fun _ => fun
  | [d1, d2] => { results := [.lit (.bool true)], args := [d1, d2] }
  | _ => none }
def shaPressesRow : OpenClaim := { program := "ytmdijgmnopidpaadoor", sum := "ee1a6b55861ae8d4e0cd106d5dc7a98cb6518ecb01c1cec2a41aa66872edb8f8", func := "charter/charterlaw01.ShaPresses", spec := "shaPresses", named := ["charter/sha.constants"], apart := false, laid := [("charter/sha.constants", laid_charter_sha_constants)] }
def ShaPressesSaid : Prop := shaPressesRow.holds Tryd.pinned (OpenSpec.ofChange shaPressesSpec)

/-- ITS FALSE NEIGHBOUR: 'it returns false'. Refute it at one input. -/
def shaPressesWrong : ChangeSpec := { name := "shaPresses", fn := fun _ => fun
  | [d1, d2] => { results := [.lit (.bool false)], args := [d1, d2] }
  | _ => none }
def ShaPressesWrongFalsely : Prop := shaPressesRow.holds Tryd.pinned (OpenSpec.ofChange shaPressesWrong)

/-- 'charterlaw01.ShaTails': WHATEVER THE INPUT: true; the input reads as it did. -/
def shaTailsSpec : ChangeSpec := { name := "shaTails", fn := fun _ => fun
  | [d] => { results := [.lit (.bool true)], args := [d] }
  | _ => none }
def shaTailsRow : OpenClaim := { program := "ytmdijgmnopidpaadoor", sum := "ee1a6b55861ae8d4e0cd106d5dc7a98cb6518ecb01c1cec2a41aa66872edb8f8", func := "charter/charterlaw01.ShaTails", spec := "shaTails", named := ["charter/sha.constants"], apart := false, laid := [("charter/sha.constants", laid_charter_sha_constants)] }
def ShaTailsSaid : Prop := shaTailsRow.holds Tryd.pinned (OpenSpec.ofChange shaTailsSpec)

/-- ITS FALSE NEIGHBOUR: 'it returns false'. Refute it at one input. -/
def shaTailsWrong : ChangeSpec := { name := "shaTails", fn := fun _ => fun
  | [d] => { results := [.lit (.bool false)], args := [d] }
  | _ => none }
def ShaTailsWrongFalsely : Prop := shaTailsRow.holds Tryd.pinned (OpenSpec.ofChange shaTailsWrong)

/-- 'charterlaw01.ShaSums': WHATEVER THE INPUT: true; the input reads as it did. -/
def shaSumsSpec : ChangeSpec := { name := "shaSums", fn := fun _ => fun
  | [d] => { results := [.lit (.bool true)], args := [d] }
  | _ => none }
def shaSumsRow : OpenClaim := { program := "ytmdijgmnopidpaadoor", sum := "ee1a6b55861ae8d4e0cd106d5dc7a98cb6518ecb01c1cec2a41aa66872edb8f8", func := "charter/charterlaw01.ShaSums", spec := "shaSums", named := ["charter/sha.constants"], apart := false, laid := [("charter/sha.constants", laid_charter_sha_constants)] }
def ShaSumsSaid : Prop := shaSumsRow.holds Tryd.pinned (OpenSpec.ofChange shaSumsSpec)

/-- ITS FALSE NEIGHBOUR: 'it returns false'. Refute it at one input. -/
def shaSumsWrong : ChangeSpec := { name := "shaSums", fn := fun _ => fun
  | [d] => { results := [.lit (.bool false)], args := [d] }
  | _ => none }
def ShaSumsWrongFalsely : Prop := shaSumsRow.holds Tryd.pinned (OpenSpec.ofChange shaSumsWrong)

/-- 'charterlaw01.ShaBack': WHATEVER THE INPUT: true; the input reads as it did. -/
def shaBackSpec : ChangeSpec := { name := "shaBack", fn := fun _ => fun
  | [d1, d2, d3] => { results := [.lit (.bool true)], args := [d1, d2, d3] }
  | _ => none }
def shaBackRow : OpenClaim := { program := "ytmdijgmnopidpaadoor", sum := "ee1a6b55861ae8d4e0cd106d5dc7a98cb6518ecb01c1cec2a41aa66872edb8f8", func := "charter/charterlaw01.ShaBack", spec := "shaBack", named := ["charter/sha.constants"], apart := false, laid := [("charter/sha.constants", laid_charter_sha_constants)] }
def ShaBackSaid : Prop := shaBackRow.holds Tryd.pinned (OpenSpec.ofChange shaBackSpec)

/-- ITS FALSE NEIGHBOUR: 'it returns false'. Refute it at one input. -/
def shaBackWrong : ChangeSpec := { name := "shaBack", fn := fun _ => fun
  | [d1, d2, d3] => { results := [.lit (.bool false)], args := [d1, d2, d3] }
  | _ => none }
def ShaBackWrongFalsely : Prop := shaBackRow.holds Tryd.pinned (OpenSpec.ofChange shaBackWrong)

/-- 'charterlaw01.ShaGoes': WHATEVER THE INPUT: true; the input reads as it did. -/
def shaGoesSpec : ChangeSpec := { name := "shaGoes", fn := fun _ => fun
  | [d] => { results := [.lit (.bool true)], args := [d] }
  | _ => none }
def shaGoesRow : OpenClaim := { program := "ytmdijgmnopidpaadoor", sum := "ee1a6b55861ae8d4e0cd106d5dc7a98cb6518ecb01c1cec2a41aa66872edb8f8", func := "charter/charterlaw01.ShaGoes", spec := "shaGoes", named := ["charter/sha.constants"], apart := false, laid := [("charter/sha.constants", laid_charter_sha_constants)] }
def ShaGoesSaid : Prop := shaGoesRow.holds Tryd.pinned (OpenSpec.ofChange shaGoesSpec)

/-- ITS FALSE NEIGHBOUR: 'it returns false'. Refute it at one input. -/
def shaGoesWrong : ChangeSpec := { name := "shaGoes", fn := fun _ => fun
  | [d] => { results := [.lit (.bool false)], args := [d] }
  | _ => none }
def ShaGoesWrongFalsely : Prop := shaGoesRow.holds Tryd.pinned (OpenSpec.ofChange shaGoesWrong)

/-- 'charterlaw01.ShaStays': WHATEVER THE INPUT: true; the input reads as it did. -/
def shaStaysSpec : ChangeSpec := { name := "shaStays", fn := fun _ => fun
  | [d1, d2] => { results := [.lit (.bool true)], args := [d1, d2] }
  | _ => none }
def shaStaysRow : OpenClaim := { program := "ytmdijgmnopidpaadoor", sum := "ee1a6b55861ae8d4e0cd106d5dc7a98cb6518ecb01c1cec2a41aa66872edb8f8", func := "charter/charterlaw01.ShaStays", spec := "shaStays", named := ["charter/sha.constants"], apart := false, laid := [("charter/sha.constants", laid_charter_sha_constants)] }
def ShaStaysSaid : Prop := shaStaysRow.holds Tryd.pinned (OpenSpec.ofChange shaStaysSpec)

/-- ITS FALSE NEIGHBOUR: 'it returns false'. Refute it at one input. -/
def shaStaysWrong : ChangeSpec := { name := "shaStays", fn := fun _ => fun
  | [d1, d2] => { results := [.lit (.bool false)], args := [d1, d2] }
  | _ => none }
def ShaStaysWrongFalsely : Prop := shaStaysRow.holds Tryd.pinned (OpenSpec.ofChange shaStaysWrong)

/- THE SECOND FORM. 'bulk': how many values and letters a reading holds, each counted each time it is reached (what is shared counts as often as it is met; a slice's spare places count too). A statement '..UptoSaid' is the law's where the arguments, and the package variables that the reading takes, are together of bulk at most 1048576: NARROWER than '..Said'. Prove '..Said' where nothing that the law and all that it calls make is longer than what came in: it says more and counts as full. Else prove '..UptoSaid'. A law counts once. -/
mutual
def uptoBulk {H : Type} : DataW H → Nat
  | .lit (.string bytes) => bytes.length + 1
  | .lit _ => 1
  | .nil => 1
  | .ptr d => uptoBulk d + 1
  | .slice elems spare => uptoBulkAll elems + uptoBulkAll spare + 1
  | .agg parts => uptoBulkAll parts + 1
  | .iface _ d => uptoBulk d + 1
  | .map entries => uptoBulkEntries entries + 1
  | .held _ => 1
def uptoBulkAll {H : Type} : List (DataW H) → Nat
  | [] => 0
  | d :: r => uptoBulk d + uptoBulkAll r
def uptoBulkEntries {H : Type} : List (Lit × DataW H) → Nat
  | [] => 0
  | x :: r => uptoBulkEntry x + uptoBulkEntries r
def uptoBulkEntry {H : Type} : Lit × DataW H → Nat
  | (.string bytes, d) => bytes.length + uptoBulk d + 1
  | (_, d) => uptoBulk d + 1
 end
def uptoSmall : (H : Type) → List (DataW H) → Bool := fun _ ds => decide (uptoBulkAll ds ≤ 1048576)
def OpenSpec.upto (s : _root_.Go.ChangeSpec) : _root_.Go.OpenSpec := { _root_.Go.OpenSpec.ofChange s with cond := some uptoSmall }

/-- 'charterlaw01.ShaSchedules', WHERE WHAT IT READS IS OF BULK AT MOST 1048576: true; the input reads as it did. -/
def shaSchedulesUptoRow : OpenClaim := { program := "ytmdijgmnopidpaadoor", sum := "ee1a6b55861ae8d4e0cd106d5dc7a98cb6518ecb01c1cec2a41aa66872edb8f8", func := "charter/charterlaw01.ShaSchedules", spec := "shaSchedules", named := ["charter/sha.constants"], apart := false, laid := [("charter/sha.constants", laid_charter_sha_constants)], narrowed := true }
def ShaSchedulesUptoSaid : Prop := shaSchedulesUptoRow.holds Tryd.pinned (OpenSpec.upto shaSchedulesSpec)

/-- 'charterlaw01.ShaRounds', WHERE WHAT IT READS IS OF BULK AT MOST 1048576: true; the input reads as it did. -/
def shaRoundsUptoRow : OpenClaim := { program := "ytmdijgmnopidpaadoor", sum := "ee1a6b55861ae8d4e0cd106d5dc7a98cb6518ecb01c1cec2a41aa66872edb8f8", func := "charter/charterlaw01.ShaRounds", spec := "shaRounds", named := ["charter/sha.constants"], apart := false, laid := [("charter/sha.constants", laid_charter_sha_constants)], narrowed := true }
def ShaRoundsUptoSaid : Prop := shaRoundsUptoRow.holds Tryd.pinned (OpenSpec.upto shaRoundsSpec)

/-- 'charterlaw01.ShaPresses', WHERE WHAT IT READS IS OF BULK AT MOST 1048576: true; the input reads as it did. -/
def shaPressesUptoRow : OpenClaim := { program := "ytmdijgmnopidpaadoor", sum := "ee1a6b55861ae8d4e0cd106d5dc7a98cb6518ecb01c1cec2a41aa66872edb8f8", func := "charter/charterlaw01.ShaPresses", spec := "shaPresses", named := ["charter/sha.constants"], apart := false, laid := [("charter/sha.constants", laid_charter_sha_constants)], narrowed := true }
def ShaPressesUptoSaid : Prop := shaPressesUptoRow.holds Tryd.pinned (OpenSpec.upto shaPressesSpec)

/-- 'charterlaw01.ShaTails', WHERE WHAT IT READS IS OF BULK AT MOST 1048576: true; the input reads as it did. -/
def shaTailsUptoRow : OpenClaim := { program := "ytmdijgmnopidpaadoor", sum := "ee1a6b55861ae8d4e0cd106d5dc7a98cb6518ecb01c1cec2a41aa66872edb8f8", func := "charter/charterlaw01.ShaTails", spec := "shaTails", named := ["charter/sha.constants"], apart := false, laid := [("charter/sha.constants", laid_charter_sha_constants)], narrowed := true }
def ShaTailsUptoSaid : Prop := shaTailsUptoRow.holds Tryd.pinned (OpenSpec.upto shaTailsSpec)

/-- 'charterlaw01.ShaSums', WHERE WHAT IT READS IS OF BULK AT MOST 1048576: true; the input reads as it did. -/
def shaSumsUptoRow : OpenClaim := { program := "ytmdijgmnopidpaadoor", sum := "ee1a6b55861ae8d4e0cd106d5dc7a98cb6518ecb01c1cec2a41aa66872edb8f8", func := "charter/charterlaw01.ShaSums", spec := "shaSums", named := ["charter/sha.constants"], apart := false, laid := [("charter/sha.constants", laid_charter_sha_constants)], narrowed := true }
def ShaSumsUptoSaid : Prop := shaSumsUptoRow.holds Tryd.pinned (OpenSpec.upto shaSumsSpec)

/-- 'charterlaw01.ShaBack', WHERE WHAT IT READS IS OF BULK AT MOST 1048576: true; the input reads as it did. -/
def shaBackUptoRow : OpenClaim := { program := "ytmdijgmnopidpaadoor", sum := "ee1a6b55861ae8d4e0cd106d5dc7a98cb6518ecb01c1cec2a41aa66872edb8f8", func := "charter/charterlaw01.ShaBack", spec := "shaBack", named := ["charter/sha.constants"], apart := false, laid := [("charter/sha.constants", laid_charter_sha_constants)], narrowed := true }
def ShaBackUptoSaid : Prop := shaBackUptoRow.holds Tryd.pinned (OpenSpec.upto shaBackSpec)

/-- 'charterlaw01.ShaGoes', WHERE WHAT IT READS IS OF BULK AT MOST 1048576: true; the input reads as it did. -/
def shaGoesUptoRow : OpenClaim := { program := "ytmdijgmnopidpaadoor", sum := "ee1a6b55861ae8d4e0cd106d5dc7a98cb6518ecb01c1cec2a41aa66872edb8f8", func := "charter/charterlaw01.ShaGoes", spec := "shaGoes", named := ["charter/sha.constants"], apart := false, laid := [("charter/sha.constants", laid_charter_sha_constants)], narrowed := true }
def ShaGoesUptoSaid : Prop := shaGoesUptoRow.holds Tryd.pinned (OpenSpec.upto shaGoesSpec)

/-- 'charterlaw01.ShaStays', WHERE WHAT IT READS IS OF BULK AT MOST 1048576: true; the input reads as it did. -/
def shaStaysUptoRow : OpenClaim := { program := "ytmdijgmnopidpaadoor", sum := "ee1a6b55861ae8d4e0cd106d5dc7a98cb6518ecb01c1cec2a41aa66872edb8f8", func := "charter/charterlaw01.ShaStays", spec := "shaStays", named := ["charter/sha.constants"], apart := false, laid := [("charter/sha.constants", laid_charter_sha_constants)], narrowed := true }
def ShaStaysUptoSaid : Prop := shaStaysUptoRow.holds Tryd.pinned (OpenSpec.upto shaStaysSpec)

end Rows
end Go.Proofs.YtmdijgmnopidpaaDoor
