import Derived.Test.YtpinmaodpfoinaaSxX
import Derived.Test.YtpinmaodpfoinaaProg
import Derived.Test.YtpinmaodpfoinaaNu
set_option linter.unusedVariables false
set_option linter.unusedSimpArgs false
namespace Go.Proofs.Ytpinmaodpfoinaa
open Go.RowKit Go.Ch Go.Sx

def tabL_nvstays : List (TypeId × Ti) := [(4, ⟨.bool, 1, 1, true, some [.bool]⟩),
  (23, ⟨.sl 45, 1, 24, false, some [.nils]⟩),
  (27, ⟨.ifc, 1, 16, true, some [.ifc]⟩),
  (45, ⟨.int .u32, 1, 4, true, some [.int .u32]⟩)]
def tab_nvstays : Tab := fun t => (tabL_nvstays).lookup t
theorem tabE_nvstays : (tabL_nvstays.map fun p => tiOf Try.prog p.1) = tabL_nvstays.map fun p => some p.2 := by kernel_rfl
theorem tabO_nvstays : TabOk Try.prog tab_nvstays := tab_of tabE_nvstays

def lStays_l2 (n : Nat) (a0 : List UInt32) (a1 : List UInt32) (r30 : Bool) (r49 : List UInt32 × Nat × Option Int) (r55 : List UInt32 × Nat × List UInt32 × Nat × Option Int) (r63 : List UInt32 × Option Int) (r69 : List UInt32 × Option Int) (r78 : Bool) : Nat → List UInt32 → Int → Option (Bool)
  | 0, _, _ => none
  | fu_l2 + 1, w7_4, i20_4 =>
    bif (decide (i20_4 < ((([] ++ a1).length : Nat) : Int))) then
      gd (0 ≤ i20_4) <|
      gd (i20_4 < ((([] ++ a1).length : Nat) : Int)) <|
      gd (0 ≤ i20_4) <|
      gd (i20_4 < ((([] ++ a1).length : Nat) : Int)) <|
      gd (okI .i64 (i20_4 + 1)) <|
      (lStays_l2 n a0 a1 r30 r49 r55 r63 r69 r78 fu_l2) (w7_4.set i20_4.toNat ((w7_4.getD i20_4.toNat 0) + (1 : UInt32))) (i20_4 + 1)
    else
      (pAdd n a0 a1).bind fun r114 =>
      (pDiv n a0 a1).bind fun r120 =>
      (pExp n a0 [3] a1).bind fun r128 =>
      (pInv n a0 a1).bind fun r134 =>
      bif r30 then
        bif r78 then
          (lsame n r49.1 ([] ++ r49.1)).bind fun r144 =>
          bif r144 then
            (lsame n r49.1 r114.1).bind fun r149 =>
            bif r149 then
              (lsame n r55.1 r120.1).bind fun r154 =>
              bif r154 then
                (lsame n r55.2.2.1 r120.2.2.1).bind fun r159 =>
                bif r159 then
                  (lsame n r63.1 r128.1).bind fun r164 =>
                  bif r164 then
                    (lsame n r69.1 r134.1).bind fun r169 =>
                    bif r169 then
                      bif (((r55.2.2.2.2).isNone) == ((r120.2.2.2.2).isNone)) then
                        bif (((r63.2).isNone) == ((r128.2).isNone)) then
                          some (((r69.2).isNone) == ((r134.2).isNone))
                        else
                          some false
                      else
                        some false
                    else
                      some false
                  else
                    some false
                else
                  some false
              else
                some false
            else
              some false
          else
            some false
        else
          some false
      else
        some false
def lStays_l1 (n : Nat) (a0 : List UInt32) (a1 : List UInt32) (r30 : Bool) (r49 : List UInt32 × Nat × Option Int) (r55 : List UInt32 × Nat × List UInt32 × Nat × Option Int) (r63 : List UInt32 × Option Int) (r69 : List UInt32 × Option Int) (r78 : Bool) : Nat → List UInt32 → Int → Option (Bool)
  | 0, _, _ => none
  | fu_l1 + 1, w6_4, i19_4 =>
    bif (decide (i19_4 < ((([] ++ a0).length : Nat) : Int))) then
      gd (0 ≤ i19_4) <|
      gd (i19_4 < ((([] ++ a0).length : Nat) : Int)) <|
      gd (0 ≤ i19_4) <|
      gd (i19_4 < ((([] ++ a0).length : Nat) : Int)) <|
      gd (okI .i64 (i19_4 + 1)) <|
      (lStays_l1 n a0 a1 r30 r49 r55 r63 r69 r78 fu_l1) (w6_4.set i19_4.toNat ((w6_4.getD i19_4.toNat 0) + (1 : UInt32))) (i19_4 + 1)
    else
      lStays_l2 n a0 a1 r30 r49 r55 r63 r69 r78 n ([] ++ a1) 0
def lStays_l4 (n : Nat) (a0 : List UInt32) (a1 : List UInt32) (r30 : Bool) (r49 : List UInt32 × Nat × Option Int) (r55 : List UInt32 × Nat × List UInt32 × Nat × Option Int) (r63 : List UInt32 × Option Int) (r69 : List UInt32 × Option Int) : Nat → List UInt32 → Int → Option (Bool)
  | 0, _, _ => none
  | fu_l4 + 1, w7_5, i20_5 =>
    bif (decide (i20_5 < ((([] ++ a1).length : Nat) : Int))) then
      gd (0 ≤ i20_5) <|
      gd (i20_5 < ((([] ++ a1).length : Nat) : Int)) <|
      gd (0 ≤ i20_5) <|
      gd (i20_5 < ((([] ++ a1).length : Nat) : Int)) <|
      gd (okI .i64 (i20_5 + 1)) <|
      (lStays_l4 n a0 a1 r30 r49 r55 r63 r69 fu_l4) (w7_5.set i20_5.toNat ((w7_5.getD i20_5.toNat 0) + (1 : UInt32))) (i20_5 + 1)
    else
      (pAdd n a0 a1).bind fun r114 =>
      (pDiv n a0 a1).bind fun r120 =>
      (pExp n a0 [3] a1).bind fun r128 =>
      (pInv n a0 a1).bind fun r134 =>
      bif r30 then
        some false
      else
        some false
def lStays_l3 (n : Nat) (a0 : List UInt32) (a1 : List UInt32) (r30 : Bool) (r49 : List UInt32 × Nat × Option Int) (r55 : List UInt32 × Nat × List UInt32 × Nat × Option Int) (r63 : List UInt32 × Option Int) (r69 : List UInt32 × Option Int) : Nat → List UInt32 → Int → Option (Bool)
  | 0, _, _ => none
  | fu_l3 + 1, w6_5, i19_5 =>
    bif (decide (i19_5 < ((([] ++ a0).length : Nat) : Int))) then
      gd (0 ≤ i19_5) <|
      gd (i19_5 < ((([] ++ a0).length : Nat) : Int)) <|
      gd (0 ≤ i19_5) <|
      gd (i19_5 < ((([] ++ a0).length : Nat) : Int)) <|
      gd (okI .i64 (i19_5 + 1)) <|
      (lStays_l3 n a0 a1 r30 r49 r55 r63 r69 fu_l3) (w6_5.set i19_5.toNat ((w6_5.getD i19_5.toNat 0) + (1 : UInt32))) (i19_5 + 1)
    else
      lStays_l4 n a0 a1 r30 r49 r55 r63 r69 n ([] ++ a1) 0
def lStays (n : Nat) (a0 : List UInt32) (a1 : List UInt32) : Option (Bool) :=
  (lup n).bind fun r30 =>
  bif (decide ((20 : Int) < ((a0.length : Nat) : Int))) then
    some r30
  else
    bif (decide ((6 : Int) < ((a1.length : Nat) : Int))) then
      some r30
    else
      gd (rmB (0 + a0.length) 4) <|
      gd (rmB (0 + a1.length) 4) <|
      (pAdd n ([] ++ a0) ([] ++ a1)).bind fun r49 =>
      (pDiv n ([] ++ a0) ([] ++ a1)).bind fun r55 =>
      (pExp n ([] ++ a0) [3] ([] ++ a1)).bind fun r63 =>
      (pInv n ([] ++ a0) ([] ++ a1)).bind fun r69 =>
      (lsame n ([] ++ a0) a0).bind fun r74 =>
      bif r74 then
        (lsame n ([] ++ a1) a1).bind fun r78 =>
        gd (rmB (0 + r49.2.1) 4) <|
        lStays_l1 n a0 a1 r30 r49 r55 r63 r69 r78 n ([] ++ a0) 0
      else
        gd (rmB (0 + r49.2.1) 4) <|
        lStays_l3 n a0 a1 r30 r49 r55 r63 r69 n ([] ++ a0) 0

def lStays_l2_E (a0 : List UInt32) (a1 : List UInt32) (r30 : Bool) (r49 : List UInt32 × Nat × Option Int) (r55 : List UInt32 × Nat × List UInt32 × Nat × Option Int) (r63 : List UInt32 × Option Int) (r69 : List UInt32 × Option Int) (r78 : Bool) (w7_4 : List UInt32) (i20_4 : Int) : S := ⟨[(0, .c (.wh 0)), (1, .c (.wh 1)), (5, .c (.s (.b r30))), (7, .c (.wh 2)), (8, .c (.wh 3)), (10, .c (.wh 4)), (11, .c (.wh 5)), (12, .c (.s (.er 30 .i64 r55.2.2.2.2))), (13, .c (.wh 6)), (14, .c (.s (.er 30 .i64 r63.2))), (15, .c (.wh 7)), (16, .c (.s (.er 30 .i64 r69.2))), (17, .c (.s (.b r78))), (18, .c (.wh 8)), (20, .c (.s (.k .i64 i20_4)))], [], [⟨(.ro false), 45, 1, a0.length, .w a0⟩, ⟨(.ro false), 45, 1, a1.length, .w a1⟩, ⟨.row, 45, 1, ([] ++ a1).length, .w w7_4⟩, ⟨(.ro true), 45, 1, r49.2.1, .w r49.1⟩, ⟨(.ro true), 45, 1, r55.2.1, .w r55.1⟩, ⟨(.ro true), 45, 1, r55.2.2.2.1, .w r55.2.2.1⟩, ⟨.row, 45, 1, r63.1.length, .w r63.1⟩, ⟨.row, 45, 1, r69.1.length, .w r69.1⟩, ⟨.row, 45, 1, ([] ++ r49.1).length, .w ([] ++ r49.1)⟩]⟩
def lStays_l2_P (n : Nat) (a0 : List UInt32) (a1 : List UInt32) (r30 : Bool) (r49 : List UInt32 × Nat × Option Int) (r55 : List UInt32 × Nat × List UInt32 × Nat × Option Int) (r63 : List UInt32 × Option Int) (r69 : List UInt32 × Option Int) (r78 : Bool) (r : Bool) (fu : Nat) : S → Prop := fun s => ∃ (w7_4 : List UInt32), ∃ (i20_4 : Int), s = lStays_l2_E a0 a1 r30 r49 r55 r63 r69 r78 w7_4 i20_4 ∧ lStays_l2 n a0 a1 r30 r49 r55 r63 r69 r78 fu w7_4 i20_4 = some r
theorem lStays_l2_M {n : Nat} {a0 : List UInt32} {a1 : List UInt32} {r30 : Bool} {r49 : List UInt32 × Nat × Option Int} {r55 : List UInt32 × Nat × List UInt32 × Nat × Option Int} {r63 : List UInt32 × Option Int} {r69 : List UInt32 × Option Int} {r78 : Bool} {w7_4 : List UInt32} {i20_4 : Int} {r : Bool} {fu : Nat} (h : lStays_l2 n a0 a1 r30 r49 r55 r63 r69 r78 fu w7_4 i20_4 = some r) : lStays_l2_P n a0 a1 r30 r49 r55 r63 r69 r78 r fu (lStays_l2_E a0 a1 r30 r49 r55 r63 r69 r78 w7_4 i20_4) := ⟨w7_4, i20_4, rfl, h⟩
def lStays_l1_E (a0 : List UInt32) (a1 : List UInt32) (r30 : Bool) (r49 : List UInt32 × Nat × Option Int) (r55 : List UInt32 × Nat × List UInt32 × Nat × Option Int) (r63 : List UInt32 × Option Int) (r69 : List UInt32 × Option Int) (r78 : Bool) (w6_4 : List UInt32) (i19_4 : Int) : S := ⟨[(0, .c (.wh 0)), (1, .c (.wh 1)), (5, .c (.s (.b r30))), (6, .c (.wh 2)), (7, .c (.wh 3)), (8, .c (.wh 4)), (10, .c (.wh 5)), (11, .c (.wh 6)), (12, .c (.s (.er 30 .i64 r55.2.2.2.2))), (13, .c (.wh 7)), (14, .c (.s (.er 30 .i64 r63.2))), (15, .c (.wh 8)), (16, .c (.s (.er 30 .i64 r69.2))), (17, .c (.s (.b r78))), (18, .c (.wh 9)), (19, .c (.s (.k .i64 i19_4)))], [], [⟨(.ro false), 45, 1, a0.length, .w a0⟩, ⟨(.ro false), 45, 1, a1.length, .w a1⟩, ⟨.row, 45, 1, ([] ++ a0).length, .w w6_4⟩, ⟨.row, 45, 1, ([] ++ a1).length, .w ([] ++ a1)⟩, ⟨(.ro true), 45, 1, r49.2.1, .w r49.1⟩, ⟨(.ro true), 45, 1, r55.2.1, .w r55.1⟩, ⟨(.ro true), 45, 1, r55.2.2.2.1, .w r55.2.2.1⟩, ⟨.row, 45, 1, r63.1.length, .w r63.1⟩, ⟨.row, 45, 1, r69.1.length, .w r69.1⟩, ⟨.row, 45, 1, ([] ++ r49.1).length, .w ([] ++ r49.1)⟩]⟩
def lStays_l1_P (n : Nat) (a0 : List UInt32) (a1 : List UInt32) (r30 : Bool) (r49 : List UInt32 × Nat × Option Int) (r55 : List UInt32 × Nat × List UInt32 × Nat × Option Int) (r63 : List UInt32 × Option Int) (r69 : List UInt32 × Option Int) (r78 : Bool) (r : Bool) (fu : Nat) : S → Prop := fun s => ∃ (w6_4 : List UInt32), ∃ (i19_4 : Int), s = lStays_l1_E a0 a1 r30 r49 r55 r63 r69 r78 w6_4 i19_4 ∧ lStays_l1 n a0 a1 r30 r49 r55 r63 r69 r78 fu w6_4 i19_4 = some r
theorem lStays_l1_M {n : Nat} {a0 : List UInt32} {a1 : List UInt32} {r30 : Bool} {r49 : List UInt32 × Nat × Option Int} {r55 : List UInt32 × Nat × List UInt32 × Nat × Option Int} {r63 : List UInt32 × Option Int} {r69 : List UInt32 × Option Int} {r78 : Bool} {w6_4 : List UInt32} {i19_4 : Int} {r : Bool} {fu : Nat} (h : lStays_l1 n a0 a1 r30 r49 r55 r63 r69 r78 fu w6_4 i19_4 = some r) : lStays_l1_P n a0 a1 r30 r49 r55 r63 r69 r78 r fu (lStays_l1_E a0 a1 r30 r49 r55 r63 r69 r78 w6_4 i19_4) := ⟨w6_4, i19_4, rfl, h⟩
def lStays_l4_E (a0 : List UInt32) (a1 : List UInt32) (r30 : Bool) (r49 : List UInt32 × Nat × Option Int) (r55 : List UInt32 × Nat × List UInt32 × Nat × Option Int) (r63 : List UInt32 × Option Int) (r69 : List UInt32 × Option Int) (w7_5 : List UInt32) (i20_5 : Int) : S := ⟨[(0, .c (.wh 0)), (1, .c (.wh 1)), (5, .c (.s (.b r30))), (7, .c (.wh 2)), (8, .c (.wh 3)), (10, .c (.wh 4)), (11, .c (.wh 5)), (12, .c (.s (.er 30 .i64 r55.2.2.2.2))), (13, .c (.wh 6)), (14, .c (.s (.er 30 .i64 r63.2))), (15, .c (.wh 7)), (16, .c (.s (.er 30 .i64 r69.2))), (17, .c (.s (.b false))), (18, .c (.wh 8)), (20, .c (.s (.k .i64 i20_5)))], [], [⟨(.ro false), 45, 1, a0.length, .w a0⟩, ⟨(.ro false), 45, 1, a1.length, .w a1⟩, ⟨.row, 45, 1, ([] ++ a1).length, .w w7_5⟩, ⟨(.ro true), 45, 1, r49.2.1, .w r49.1⟩, ⟨(.ro true), 45, 1, r55.2.1, .w r55.1⟩, ⟨(.ro true), 45, 1, r55.2.2.2.1, .w r55.2.2.1⟩, ⟨.row, 45, 1, r63.1.length, .w r63.1⟩, ⟨.row, 45, 1, r69.1.length, .w r69.1⟩, ⟨.row, 45, 1, ([] ++ r49.1).length, .w ([] ++ r49.1)⟩]⟩
def lStays_l4_P (n : Nat) (a0 : List UInt32) (a1 : List UInt32) (r30 : Bool) (r49 : List UInt32 × Nat × Option Int) (r55 : List UInt32 × Nat × List UInt32 × Nat × Option Int) (r63 : List UInt32 × Option Int) (r69 : List UInt32 × Option Int) (r : Bool) (fu : Nat) : S → Prop := fun s => ∃ (w7_5 : List UInt32), ∃ (i20_5 : Int), s = lStays_l4_E a0 a1 r30 r49 r55 r63 r69 w7_5 i20_5 ∧ lStays_l4 n a0 a1 r30 r49 r55 r63 r69 fu w7_5 i20_5 = some r
theorem lStays_l4_M {n : Nat} {a0 : List UInt32} {a1 : List UInt32} {r30 : Bool} {r49 : List UInt32 × Nat × Option Int} {r55 : List UInt32 × Nat × List UInt32 × Nat × Option Int} {r63 : List UInt32 × Option Int} {r69 : List UInt32 × Option Int} {w7_5 : List UInt32} {i20_5 : Int} {r : Bool} {fu : Nat} (h : lStays_l4 n a0 a1 r30 r49 r55 r63 r69 fu w7_5 i20_5 = some r) : lStays_l4_P n a0 a1 r30 r49 r55 r63 r69 r fu (lStays_l4_E a0 a1 r30 r49 r55 r63 r69 w7_5 i20_5) := ⟨w7_5, i20_5, rfl, h⟩
def lStays_l3_E (a0 : List UInt32) (a1 : List UInt32) (r30 : Bool) (r49 : List UInt32 × Nat × Option Int) (r55 : List UInt32 × Nat × List UInt32 × Nat × Option Int) (r63 : List UInt32 × Option Int) (r69 : List UInt32 × Option Int) (w6_5 : List UInt32) (i19_5 : Int) : S := ⟨[(0, .c (.wh 0)), (1, .c (.wh 1)), (5, .c (.s (.b r30))), (6, .c (.wh 2)), (7, .c (.wh 3)), (8, .c (.wh 4)), (10, .c (.wh 5)), (11, .c (.wh 6)), (12, .c (.s (.er 30 .i64 r55.2.2.2.2))), (13, .c (.wh 7)), (14, .c (.s (.er 30 .i64 r63.2))), (15, .c (.wh 8)), (16, .c (.s (.er 30 .i64 r69.2))), (17, .c (.s (.b false))), (18, .c (.wh 9)), (19, .c (.s (.k .i64 i19_5)))], [], [⟨(.ro false), 45, 1, a0.length, .w a0⟩, ⟨(.ro false), 45, 1, a1.length, .w a1⟩, ⟨.row, 45, 1, ([] ++ a0).length, .w w6_5⟩, ⟨.row, 45, 1, ([] ++ a1).length, .w ([] ++ a1)⟩, ⟨(.ro true), 45, 1, r49.2.1, .w r49.1⟩, ⟨(.ro true), 45, 1, r55.2.1, .w r55.1⟩, ⟨(.ro true), 45, 1, r55.2.2.2.1, .w r55.2.2.1⟩, ⟨.row, 45, 1, r63.1.length, .w r63.1⟩, ⟨.row, 45, 1, r69.1.length, .w r69.1⟩, ⟨.row, 45, 1, ([] ++ r49.1).length, .w ([] ++ r49.1)⟩]⟩
def lStays_l3_P (n : Nat) (a0 : List UInt32) (a1 : List UInt32) (r30 : Bool) (r49 : List UInt32 × Nat × Option Int) (r55 : List UInt32 × Nat × List UInt32 × Nat × Option Int) (r63 : List UInt32 × Option Int) (r69 : List UInt32 × Option Int) (r : Bool) (fu : Nat) : S → Prop := fun s => ∃ (w6_5 : List UInt32), ∃ (i19_5 : Int), s = lStays_l3_E a0 a1 r30 r49 r55 r63 r69 w6_5 i19_5 ∧ lStays_l3 n a0 a1 r30 r49 r55 r63 r69 fu w6_5 i19_5 = some r
theorem lStays_l3_M {n : Nat} {a0 : List UInt32} {a1 : List UInt32} {r30 : Bool} {r49 : List UInt32 × Nat × Option Int} {r55 : List UInt32 × Nat × List UInt32 × Nat × Option Int} {r63 : List UInt32 × Option Int} {r69 : List UInt32 × Option Int} {w6_5 : List UInt32} {i19_5 : Int} {r : Bool} {fu : Nat} (h : lStays_l3 n a0 a1 r30 r49 r55 r63 r69 fu w6_5 i19_5 = some r) : lStays_l3_P n a0 a1 r30 r49 r55 r63 r69 r fu (lStays_l3_E a0 a1 r30 r49 r55 r63 r69 w6_5 i19_5) := ⟨w6_5, i19_5, rfl, h⟩
def lStays_R (r : Bool) : S := ⟨[(4, .c (.s (.b r)))], [], []⟩
def lStays_ct (n : Nat) (r : Bool) : Ct := fun args H => match args with
  | [x0, x1] => (match aW H x0 with | some l0 => (match aW H x1 with | some l1 => some ([lStays n l0 l1 = some r], shA H.length (.c (.s (.b r))), shH H.length []) | none => none) | none => none)
  | _ => none
theorem lStays_ok (n : Nat) (r : Bool) : FnOk Try.prog Tr 8 (lStays_ct n r) := by
  refine ⟨fun args H g av objs hF hg ρ w vals hG hp ha => ?_, _, Try.func8, by kernel_rfl, by kernel_rfl⟩
  obtain ⟨x0, x1, rfl⟩ : ∃ x0 x1, args = [x0, x1] := by
    unfold lStays_ct at hF; split at hF
    · exact ⟨_, _, rfl⟩
    · cases hF
  cases e0 : aW H x0 with
  | none => simp only [lStays_ct, e0, reduceCtorEq] at hF
  | some l0 =>
  cases e1 : aW H x1 with
  | none => simp only [lStays_ct, e0, e1, reduceCtorEq] at hF
  | some l1 =>
  simp only [lStays_ct, e0, e1, Option.some.injEq, Prod.mk.injEq] at hF
  obtain ⟨rfl, rfl, rfl⟩ := hF
  obtain ⟨v0, vals, rfl, k0, ha⟩ := F2.inv ha
  obtain ⟨v1, vals, rfl, k1, ha⟩ := F2.inv ha
  obtain rfl := F2.inv0 ha
  have hI : ∀ w', Kp (noB (fun _ => undef)) w w' → Tr w' := fun _ hk => Tr.keep hk.below hG
  have h : lStays n l0 l1 = some r := hg
  obtain ⟨p0, s0, o0⟩ := aW_ok hp e0 (k0) 45
  obtain ⟨p1, s1, o1⟩ := aW_ok hp e1 (k1) 45
  have hR0 := rel0 (gv := (fun _ => undef)) (n := 192) (w := w) (args := [.c (.wh 0), .c (.wh 1)]) (H := [⟨.ro false, 45, 1, l0.length, .w l0⟩, ⟨.ro false, 45, 1, l1.length, .w l1⟩]) (gl := []) (hpL (ps := [p0, p1]) (F2.cons o0 (F2.cons o1 F2.nil))) (allRo_ok rfl) (F2.cons s0 (F2.cons s1 F2.nil)) GlR.nil (by simp)
  clear ha hp hg k0 k1 e0 e1
  refine calls_W Try.func8 rfl rfl hR0 (Q := fun e s => (e = .ret ∨ e = .normal) ∧ s = lStays_R r) ?_ ?_
  · clear hR0
    unfold lStays at h
    have hT := tabO_nvstays
    refine W_seq ?_
    refine W_reg hT ftL_nil [] [] [0, 1] [0, 1] (s' := ⟨[(0, .c (.wh 0)), (1, .c (.wh 1))], [], [⟨(.ro false), 45, 1, l0.length, .w l0⟩, ⟨(.ro false), 45, 1, l1.length, .w l1⟩]⟩) (by kernel_rfl) allP_nil ?_
    refine W_seq ?_
    obtain ⟨r30, g1, h⟩ := bind_some' h
    refine W_reg hT (ftL_cons (k := 0) (f := 11) (F := (lup_ct n r30)) (lup_ok n r30) (fun _ _ => True.intro) ftL_nil) [] [] [0, 1, 5] [0, 1] (s' := ⟨[(0, .c (.wh 0)), (1, .c (.wh 1)), (5, .c (.s (.b r30)))], [], [⟨(.ro false), 45, 1, l0.length, .w l0⟩, ⟨(.ro false), 45, 1, l1.length, .w l1⟩]⟩) (by kernel_rfl) (allP_cons.2 ⟨g1, allP_nil⟩) ?_
    refine W_seq ?_
    refine W_seq ?_
    rcases Bool.eq_false_or_eq_true (decide ((20 : Int) < ((l0.length : Nat) : Int))) with g2 | g2
    · replace h := bif_t h g2
      refine W_reg hT ftL_nil [(3, true)] [] [0, 1, 5, 38] [0, 1] (s' := ⟨[(0, .c (.wh 0)), (1, .c (.wh 1)), (5, .c (.s (.b r30))), (38, .c (.s (.b true)))], [], [⟨(.ro false), 45, 1, l0.length, .w l0⟩, ⟨(.ro false), 45, 1, l1.length, .w l1⟩]⟩) (by kernel_rfl) (allP_cons.2 ⟨g2, allP_nil⟩) ?_
      refine W_cond (b := true) (by kernel_rfl) (fun _ => ?_) (fun hb => by cases hb)
      refine W_seq ?_
      refine W_reg hT ftL_nil [] [] [4] [] (s' := ⟨[(4, .c (.s (.b r30)))], [], []⟩) (by kernel_rfl) allP_nil ?_
      refine W_co [] [4] [] (s' := (lStays_R r30)) (by kernel_rfl) (W_ret ?_)
      exact ⟨.inl rfl, by cases h; rfl⟩
    · replace h := bif_f h g2
      refine W_reg hT ftL_nil [(3, false)] [] [0, 1, 5, 38] [0, 1] (s' := ⟨[(0, .c (.wh 0)), (1, .c (.wh 1)), (5, .c (.s (.b r30))), (38, .c (.s (.b (decide ((6 : Int) < ((l1.length : Nat) : Int))))))], [], [⟨(.ro false), 45, 1, l0.length, .w l0⟩, ⟨(.ro false), 45, 1, l1.length, .w l1⟩]⟩) (by kernel_rfl) (allP_cons.2 ⟨g2, allP_nil⟩) ?_
      refine W_cond (b := (decide ((6 : Int) < ((l1.length : Nat) : Int)))) (by kernel_rfl) (fun g63 => ?_) (fun g63 => ?_)
      · replace h := bif_t h g63
        refine W_seq ?_
        refine W_reg hT ftL_nil [] [] [4] [] (s' := ⟨[(4, .c (.s (.b r30)))], [], []⟩) (by kernel_rfl) allP_nil ?_
        refine W_co [] [4] [] (s' := (lStays_R r30)) (by kernel_rfl) (W_ret ?_)
        exact ⟨.inl rfl, by cases h; rfl⟩
      · replace h := bif_f h g63
        refine W_co [] [0, 1, 5] [0, 1] (s' := ⟨[(0, .c (.wh 0)), (1, .c (.wh 1)), (5, .c (.s (.b r30)))], [], [⟨(.ro false), 45, 1, l0.length, .w l0⟩, ⟨(.ro false), 45, 1, l1.length, .w l1⟩]⟩) (by kernel_rfl) (W_skip ?_)
        refine W_seq ?_
        obtain ⟨g3, h⟩ := gd_some h
        refine W_reg hT ftL_nil [] [] [0, 1, 5, 6] [0, 1, 3] (s' := ⟨[(0, .c (.wh 0)), (1, .c (.wh 1)), (5, .c (.s (.b r30))), (6, .c (.wh 2))], [], [⟨(.ro false), 45, 1, l0.length, .w l0⟩, ⟨(.ro false), 45, 1, l1.length, .w l1⟩, ⟨.row, 45, 1, ([] ++ l0).length, .w ([] ++ l0)⟩]⟩) (by kernel_rfl) (allP_cons.2 ⟨g3, allP_nil⟩) ?_
        refine W_seq ?_
        obtain ⟨g4, h⟩ := gd_some h
        refine W_reg hT ftL_nil [] [] [0, 1, 5, 6, 7] [0, 1, 2, 4] (s' := ⟨[(0, .c (.wh 0)), (1, .c (.wh 1)), (5, .c (.s (.b r30))), (6, .c (.wh 2)), (7, .c (.wh 3))], [], [⟨(.ro false), 45, 1, l0.length, .w l0⟩, ⟨(.ro false), 45, 1, l1.length, .w l1⟩, ⟨.row, 45, 1, ([] ++ l0).length, .w ([] ++ l0)⟩, ⟨.row, 45, 1, ([] ++ l1).length, .w ([] ++ l1)⟩]⟩) (by kernel_rfl) (allP_cons.2 ⟨g4, allP_nil⟩) ?_
        refine W_seq ?_
        obtain ⟨r49, g5, h⟩ := bind_some' h
        refine W_reg hT (ftL_cons (k := 2) (f := 26) (F := (pAdd_ct n r49)) (pAdd_ok n r49) (fun _ _ => True.intro) ftL_nil) [] [] [0, 1, 5, 6, 7, 8] [0, 1, 2, 3, 4] (s' := ⟨[(0, .c (.wh 0)), (1, .c (.wh 1)), (5, .c (.s (.b r30))), (6, .c (.wh 2)), (7, .c (.wh 3)), (8, .c (.wh 4))], [], [⟨(.ro false), 45, 1, l0.length, .w l0⟩, ⟨(.ro false), 45, 1, l1.length, .w l1⟩, ⟨.row, 45, 1, ([] ++ l0).length, .w ([] ++ l0)⟩, ⟨.row, 45, 1, ([] ++ l1).length, .w ([] ++ l1)⟩, ⟨(.ro true), 45, 1, r49.2.1, .w r49.1⟩]⟩) (by kernel_rfl) (allP_cons.2 ⟨g5, allP_nil⟩) ?_
        refine W_seq ?_
        obtain ⟨r55, g6, h⟩ := bind_some' h
        refine W_reg hT (ftL_cons (k := 2) (f := 13) (F := (pDiv_ct n r55)) (pDiv_ok n r55) (fun _ _ => True.intro) ftL_nil) [] [] [0, 1, 5, 6, 7, 8, 10, 11, 12] [0, 1, 2, 3, 4, 5, 6] (s' := ⟨[(0, .c (.wh 0)), (1, .c (.wh 1)), (5, .c (.s (.b r30))), (6, .c (.wh 2)), (7, .c (.wh 3)), (8, .c (.wh 4)), (10, .c (.wh 5)), (11, .c (.wh 6)), (12, .c (.s (.er 30 .i64 r55.2.2.2.2)))], [], [⟨(.ro false), 45, 1, l0.length, .w l0⟩, ⟨(.ro false), 45, 1, l1.length, .w l1⟩, ⟨.row, 45, 1, ([] ++ l0).length, .w ([] ++ l0)⟩, ⟨.row, 45, 1, ([] ++ l1).length, .w ([] ++ l1)⟩, ⟨(.ro true), 45, 1, r49.2.1, .w r49.1⟩, ⟨(.ro true), 45, 1, r55.2.1, .w r55.1⟩, ⟨(.ro true), 45, 1, r55.2.2.2.1, .w r55.2.2.1⟩]⟩) (by kernel_rfl) (allP_cons.2 ⟨g6, allP_nil⟩) ?_
        refine W_seq ?_
        obtain ⟨r63, g7, h⟩ := bind_some' h
        refine W_reg hT (ftL_cons (k := 3) (f := 18) (F := (pExp_ct n r63)) (pExp_ok n r63) (fun _ _ => True.intro) ftL_nil) [] [] [0, 1, 5, 6, 7, 8, 10, 11, 12, 13, 14] [0, 1, 2, 3, 4, 5, 6, 8] (s' := ⟨[(0, .c (.wh 0)), (1, .c (.wh 1)), (5, .c (.s (.b r30))), (6, .c (.wh 2)), (7, .c (.wh 3)), (8, .c (.wh 4)), (10, .c (.wh 5)), (11, .c (.wh 6)), (12, .c (.s (.er 30 .i64 r55.2.2.2.2))), (13, .c (.wh 7)), (14, .c (.s (.er 30 .i64 r63.2)))], [], [⟨(.ro false), 45, 1, l0.length, .w l0⟩, ⟨(.ro false), 45, 1, l1.length, .w l1⟩, ⟨.row, 45, 1, ([] ++ l0).length, .w ([] ++ l0)⟩, ⟨.row, 45, 1, ([] ++ l1).length, .w ([] ++ l1)⟩, ⟨(.ro true), 45, 1, r49.2.1, .w r49.1⟩, ⟨(.ro true), 45, 1, r55.2.1, .w r55.1⟩, ⟨(.ro true), 45, 1, r55.2.2.2.1, .w r55.2.2.1⟩, ⟨.row, 45, 1, r63.1.length, .w r63.1⟩]⟩) (by kernel_rfl) (allP_cons.2 ⟨g7, allP_nil⟩) ?_
        refine W_seq ?_
        obtain ⟨r69, g8, h⟩ := bind_some' h
        refine W_reg hT (ftL_cons (k := 2) (f := 20) (F := (pInv_ct n r69)) (pInv_ok n r69) (fun _ _ => True.intro) ftL_nil) [] [] [0, 1, 5, 6, 7, 8, 10, 11, 12, 13, 14, 15, 16] [0, 1, 2, 3, 4, 5, 6, 7, 8] (s' := ⟨[(0, .c (.wh 0)), (1, .c (.wh 1)), (5, .c (.s (.b r30))), (6, .c (.wh 2)), (7, .c (.wh 3)), (8, .c (.wh 4)), (10, .c (.wh 5)), (11, .c (.wh 6)), (12, .c (.s (.er 30 .i64 r55.2.2.2.2))), (13, .c (.wh 7)), (14, .c (.s (.er 30 .i64 r63.2))), (15, .c (.wh 8)), (16, .c (.s (.er 30 .i64 r69.2)))], [], [⟨(.ro false), 45, 1, l0.length, .w l0⟩, ⟨(.ro false), 45, 1, l1.length, .w l1⟩, ⟨.row, 45, 1, ([] ++ l0).length, .w ([] ++ l0)⟩, ⟨.row, 45, 1, ([] ++ l1).length, .w ([] ++ l1)⟩, ⟨(.ro true), 45, 1, r49.2.1, .w r49.1⟩, ⟨(.ro true), 45, 1, r55.2.1, .w r55.1⟩, ⟨(.ro true), 45, 1, r55.2.2.2.1, .w r55.2.2.1⟩, ⟨.row, 45, 1, r63.1.length, .w r63.1⟩, ⟨.row, 45, 1, r69.1.length, .w r69.1⟩]⟩) (by kernel_rfl) (allP_cons.2 ⟨g8, allP_nil⟩) ?_
        refine W_seq ?_
        obtain ⟨r74, g9, h⟩ := bind_some' h
        rcases Bool.eq_false_or_eq_true r74 with g10 | g10
        · replace h := bif_t h g10
          obtain ⟨r78, g11, h⟩ := bind_some' h
          refine W_reg hT (ftL_cons (k := 2) (f := 30) (F := (lsame_ct n r74)) (lsame_ok n r74) (fun _ _ => True.intro) (ftL_cons (k := 6) (f := 30) (F := (lsame_ct n r78)) (lsame_ok n r78) (fun _ _ => True.intro) ftL_nil)) [(3, true)] [] [0, 1, 5, 6, 7, 8, 10, 11, 12, 13, 14, 15, 16, 17] [0, 1, 2, 3, 4, 5, 6, 7, 8] (s' := ⟨[(0, .c (.wh 0)), (1, .c (.wh 1)), (5, .c (.s (.b r30))), (6, .c (.wh 2)), (7, .c (.wh 3)), (8, .c (.wh 4)), (10, .c (.wh 5)), (11, .c (.wh 6)), (12, .c (.s (.er 30 .i64 r55.2.2.2.2))), (13, .c (.wh 7)), (14, .c (.s (.er 30 .i64 r63.2))), (15, .c (.wh 8)), (16, .c (.s (.er 30 .i64 r69.2))), (17, .c (.s (.b r78)))], [], [⟨(.ro false), 45, 1, l0.length, .w l0⟩, ⟨(.ro false), 45, 1, l1.length, .w l1⟩, ⟨.row, 45, 1, ([] ++ l0).length, .w ([] ++ l0)⟩, ⟨.row, 45, 1, ([] ++ l1).length, .w ([] ++ l1)⟩, ⟨(.ro true), 45, 1, r49.2.1, .w r49.1⟩, ⟨(.ro true), 45, 1, r55.2.1, .w r55.1⟩, ⟨(.ro true), 45, 1, r55.2.2.2.1, .w r55.2.2.1⟩, ⟨.row, 45, 1, r63.1.length, .w r63.1⟩, ⟨.row, 45, 1, r69.1.length, .w r69.1⟩]⟩) (by kernel_rfl) (allP_cons.2 ⟨g9, (allP_cons.2 ⟨g10, (allP_cons.2 ⟨g11, allP_nil⟩)⟩)⟩) ?_
          refine W_seq ?_
          obtain ⟨g12, h⟩ := gd_some h
          refine W_reg hT ftL_nil [] [] [0, 1, 5, 6, 7, 8, 10, 11, 12, 13, 14, 15, 16, 17, 18] [0, 1, 2, 3, 4, 5, 6, 7, 8, 10] (s' := ⟨[(0, .c (.wh 0)), (1, .c (.wh 1)), (5, .c (.s (.b r30))), (6, .c (.wh 2)), (7, .c (.wh 3)), (8, .c (.wh 4)), (10, .c (.wh 5)), (11, .c (.wh 6)), (12, .c (.s (.er 30 .i64 r55.2.2.2.2))), (13, .c (.wh 7)), (14, .c (.s (.er 30 .i64 r63.2))), (15, .c (.wh 8)), (16, .c (.s (.er 30 .i64 r69.2))), (17, .c (.s (.b r78))), (18, .c (.wh 9))], [], [⟨(.ro false), 45, 1, l0.length, .w l0⟩, ⟨(.ro false), 45, 1, l1.length, .w l1⟩, ⟨.row, 45, 1, ([] ++ l0).length, .w ([] ++ l0)⟩, ⟨.row, 45, 1, ([] ++ l1).length, .w ([] ++ l1)⟩, ⟨(.ro true), 45, 1, r49.2.1, .w r49.1⟩, ⟨(.ro true), 45, 1, r55.2.1, .w r55.1⟩, ⟨(.ro true), 45, 1, r55.2.2.2.1, .w r55.2.2.1⟩, ⟨.row, 45, 1, r63.1.length, .w r63.1⟩, ⟨.row, 45, 1, r69.1.length, .w r69.1⟩, ⟨.row, 45, 1, ([] ++ r49.1).length, .w ([] ++ r49.1)⟩]⟩) (by kernel_rfl) (allP_cons.2 ⟨g12, allP_nil⟩) ?_
          refine W_seq ?_
          refine W_seq ?_
          refine W_reg hT ftL_nil [] [] [0, 1, 5, 6, 7, 8, 10, 11, 12, 13, 14, 15, 16, 17, 18, 19] [0, 1, 2, 3, 4, 5, 6, 7, 8, 9] (s' := ⟨[(0, .c (.wh 0)), (1, .c (.wh 1)), (5, .c (.s (.b r30))), (6, .c (.wh 2)), (7, .c (.wh 3)), (8, .c (.wh 4)), (10, .c (.wh 5)), (11, .c (.wh 6)), (12, .c (.s (.er 30 .i64 r55.2.2.2.2))), (13, .c (.wh 7)), (14, .c (.s (.er 30 .i64 r63.2))), (15, .c (.wh 8)), (16, .c (.s (.er 30 .i64 r69.2))), (17, .c (.s (.b r78))), (18, .c (.wh 9)), (19, .c (.s (.k .i64 0)))], [], [⟨(.ro false), 45, 1, l0.length, .w l0⟩, ⟨(.ro false), 45, 1, l1.length, .w l1⟩, ⟨.row, 45, 1, ([] ++ l0).length, .w ([] ++ l0)⟩, ⟨.row, 45, 1, ([] ++ l1).length, .w ([] ++ l1)⟩, ⟨(.ro true), 45, 1, r49.2.1, .w r49.1⟩, ⟨(.ro true), 45, 1, r55.2.1, .w r55.1⟩, ⟨(.ro true), 45, 1, r55.2.2.2.1, .w r55.2.2.1⟩, ⟨.row, 45, 1, r63.1.length, .w r63.1⟩, ⟨.row, 45, 1, r69.1.length, .w r69.1⟩, ⟨.row, 45, 1, ([] ++ r49.1).length, .w ([] ++ r49.1)⟩]⟩) (by kernel_rfl) allP_nil ?_
          refine W_block ?_
          refine W_co [] [0, 1, 5, 6, 7, 8, 10, 11, 12, 13, 14, 15, 16, 17, 18, 19] [0, 1, 2, 3, 4, 5, 6, 7, 8, 9] (s' := (lStays_l1_E l0 l1 r30 r49 r55 r63 r69 r78 ([] ++ l0) 0)) (by kernel_rfl) (W_lp ((lStays_l1_P n l0 l1 r30 r49 r55 r63 r69 r78 r)) n (lStays_l1_M h) ?_)
          rintro fu_l1 _ ⟨w6_4, i19_4, rfl, h⟩
          cases fu_l1 with
          | zero => cases h
          | succ fu_l1 =>
            refine ⟨fu_l1, rfl, ?_⟩
            rw [lStays_l1] at h
            refine W_seq ?_
            refine W_seq ?_
            refine W_reg hT ftL_nil [] [] [0, 1, 5, 6, 7, 8, 10, 11, 12, 13, 14, 15, 16, 17, 18, 19, 86] [0, 1, 2, 3, 4, 5, 6, 7, 8, 9] (s' := ⟨[(0, .c (.wh 0)), (1, .c (.wh 1)), (5, .c (.s (.b r30))), (6, .c (.wh 2)), (7, .c (.wh 3)), (8, .c (.wh 4)), (10, .c (.wh 5)), (11, .c (.wh 6)), (12, .c (.s (.er 30 .i64 r55.2.2.2.2))), (13, .c (.wh 7)), (14, .c (.s (.er 30 .i64 r63.2))), (15, .c (.wh 8)), (16, .c (.s (.er 30 .i64 r69.2))), (17, .c (.s (.b r78))), (18, .c (.wh 9)), (19, .c (.s (.k .i64 i19_4))), (86, .c (.s (.b (decide (i19_4 < ((([] ++ l0).length : Nat) : Int))))))], [], [⟨(.ro false), 45, 1, l0.length, .w l0⟩, ⟨(.ro false), 45, 1, l1.length, .w l1⟩, ⟨.row, 45, 1, ([] ++ l0).length, .w w6_4⟩, ⟨.row, 45, 1, ([] ++ l1).length, .w ([] ++ l1)⟩, ⟨(.ro true), 45, 1, r49.2.1, .w r49.1⟩, ⟨(.ro true), 45, 1, r55.2.1, .w r55.1⟩, ⟨(.ro true), 45, 1, r55.2.2.2.1, .w r55.2.2.1⟩, ⟨.row, 45, 1, r63.1.length, .w r63.1⟩, ⟨.row, 45, 1, r69.1.length, .w r69.1⟩, ⟨.row, 45, 1, ([] ++ r49.1).length, .w ([] ++ r49.1)⟩]⟩) (by kernel_rfl) allP_nil ?_
            refine W_cond (b := (decide (i19_4 < ((([] ++ l0).length : Nat) : Int)))) (by kernel_rfl) (fun g44 => ?_) (fun g44 => ?_)
            · replace h := bif_t h g44
              refine W_co [] [0, 1, 5, 6, 7, 8, 10, 11, 12, 13, 14, 15, 16, 17, 18, 19] [0, 1, 2, 3, 4, 5, 6, 7, 8, 9] (s' := ⟨[(0, .c (.wh 0)), (1, .c (.wh 1)), (5, .c (.s (.b r30))), (6, .c (.wh 2)), (7, .c (.wh 3)), (8, .c (.wh 4)), (10, .c (.wh 5)), (11, .c (.wh 6)), (12, .c (.s (.er 30 .i64 r55.2.2.2.2))), (13, .c (.wh 7)), (14, .c (.s (.er 30 .i64 r63.2))), (15, .c (.wh 8)), (16, .c (.s (.er 30 .i64 r69.2))), (17, .c (.s (.b r78))), (18, .c (.wh 9)), (19, .c (.s (.k .i64 i19_4)))], [], [⟨(.ro false), 45, 1, l0.length, .w l0⟩, ⟨(.ro false), 45, 1, l1.length, .w l1⟩, ⟨.row, 45, 1, ([] ++ l0).length, .w w6_4⟩, ⟨.row, 45, 1, ([] ++ l1).length, .w ([] ++ l1)⟩, ⟨(.ro true), 45, 1, r49.2.1, .w r49.1⟩, ⟨(.ro true), 45, 1, r55.2.1, .w r55.1⟩, ⟨(.ro true), 45, 1, r55.2.2.2.1, .w r55.2.2.1⟩, ⟨.row, 45, 1, r63.1.length, .w r63.1⟩, ⟨.row, 45, 1, r69.1.length, .w r69.1⟩, ⟨.row, 45, 1, ([] ++ r49.1).length, .w ([] ++ r49.1)⟩]⟩) (by kernel_rfl) (W_skip ?_)
              refine W_seq ?_
              refine W_block ?_
              obtain ⟨g13, h⟩ := gd_some h
              obtain ⟨g14, h⟩ := gd_some h
              obtain ⟨g15, h⟩ := gd_some h
              obtain ⟨g16, h⟩ := gd_some h
              refine W_reg hT ftL_nil [] [] [0, 1, 5, 6, 7, 8, 10, 11, 12, 13, 14, 15, 16, 17, 18, 19] [0, 1, 2, 3, 4, 5, 6, 7, 8, 9] (s' := ⟨[(0, .c (.wh 0)), (1, .c (.wh 1)), (5, .c (.s (.b r30))), (6, .c (.wh 2)), (7, .c (.wh 3)), (8, .c (.wh 4)), (10, .c (.wh 5)), (11, .c (.wh 6)), (12, .c (.s (.er 30 .i64 r55.2.2.2.2))), (13, .c (.wh 7)), (14, .c (.s (.er 30 .i64 r63.2))), (15, .c (.wh 8)), (16, .c (.s (.er 30 .i64 r69.2))), (17, .c (.s (.b r78))), (18, .c (.wh 9)), (19, .c (.s (.k .i64 i19_4)))], [], [⟨(.ro false), 45, 1, l0.length, .w l0⟩, ⟨(.ro false), 45, 1, l1.length, .w l1⟩, ⟨.row, 45, 1, ([] ++ l0).length, .w (w6_4.set i19_4.toNat ((w6_4.getD i19_4.toNat 0) + (1 : UInt32)))⟩, ⟨.row, 45, 1, ([] ++ l1).length, .w ([] ++ l1)⟩, ⟨(.ro true), 45, 1, r49.2.1, .w r49.1⟩, ⟨(.ro true), 45, 1, r55.2.1, .w r55.1⟩, ⟨(.ro true), 45, 1, r55.2.2.2.1, .w r55.2.2.1⟩, ⟨.row, 45, 1, r63.1.length, .w r63.1⟩, ⟨.row, 45, 1, r69.1.length, .w r69.1⟩, ⟨.row, 45, 1, ([] ++ r49.1).length, .w ([] ++ r49.1)⟩]⟩) (by kernel_rfl) (allP_cons.2 ⟨g13, (allP_cons.2 ⟨g14, (allP_cons.2 ⟨g15, (allP_cons.2 ⟨g16, allP_nil⟩)⟩)⟩)⟩) ?_
              obtain ⟨g17, h⟩ := gd_some h
              refine W_reg hT ftL_nil [] [] [0, 1, 5, 6, 7, 8, 10, 11, 12, 13, 14, 15, 16, 17, 18, 19] [0, 1, 2, 3, 4, 5, 6, 7, 8, 9] (s' := (lStays_l1_E l0 l1 r30 r49 r55 r63 r69 r78 (w6_4.set i19_4.toNat ((w6_4.getD i19_4.toNat 0) + (1 : UInt32))) (i19_4 + 1))) (by kernel_rfl) (allP_cons.2 ⟨g17, allP_nil⟩) ?_
              exact lStays_l1_M h
            · replace h := bif_f h g44
              refine W_co [] [0, 1, 5, 7, 8, 10, 11, 12, 13, 14, 15, 16, 17, 18] [0, 1, 3, 4, 5, 6, 7, 8, 9] (s' := ⟨[(0, .c (.wh 0)), (1, .c (.wh 1)), (5, .c (.s (.b r30))), (7, .c (.wh 2)), (8, .c (.wh 3)), (10, .c (.wh 4)), (11, .c (.wh 5)), (12, .c (.s (.er 30 .i64 r55.2.2.2.2))), (13, .c (.wh 6)), (14, .c (.s (.er 30 .i64 r63.2))), (15, .c (.wh 7)), (16, .c (.s (.er 30 .i64 r69.2))), (17, .c (.s (.b r78))), (18, .c (.wh 8))], [], [⟨(.ro false), 45, 1, l0.length, .w l0⟩, ⟨(.ro false), 45, 1, l1.length, .w l1⟩, ⟨.row, 45, 1, ([] ++ l1).length, .w ([] ++ l1)⟩, ⟨(.ro true), 45, 1, r49.2.1, .w r49.1⟩, ⟨(.ro true), 45, 1, r55.2.1, .w r55.1⟩, ⟨(.ro true), 45, 1, r55.2.2.2.1, .w r55.2.2.1⟩, ⟨.row, 45, 1, r63.1.length, .w r63.1⟩, ⟨.row, 45, 1, r69.1.length, .w r69.1⟩, ⟨.row, 45, 1, ([] ++ r49.1).length, .w ([] ++ r49.1)⟩]⟩) (by kernel_rfl) (W_exit ?_)
              refine W_seq ?_
              refine W_seq ?_
              refine W_reg hT ftL_nil [] [] [0, 1, 5, 7, 8, 10, 11, 12, 13, 14, 15, 16, 17, 18, 20] [0, 1, 2, 3, 4, 5, 6, 7, 8] (s' := ⟨[(0, .c (.wh 0)), (1, .c (.wh 1)), (5, .c (.s (.b r30))), (7, .c (.wh 2)), (8, .c (.wh 3)), (10, .c (.wh 4)), (11, .c (.wh 5)), (12, .c (.s (.er 30 .i64 r55.2.2.2.2))), (13, .c (.wh 6)), (14, .c (.s (.er 30 .i64 r63.2))), (15, .c (.wh 7)), (16, .c (.s (.er 30 .i64 r69.2))), (17, .c (.s (.b r78))), (18, .c (.wh 8)), (20, .c (.s (.k .i64 0)))], [], [⟨(.ro false), 45, 1, l0.length, .w l0⟩, ⟨(.ro false), 45, 1, l1.length, .w l1⟩, ⟨.row, 45, 1, ([] ++ l1).length, .w ([] ++ l1)⟩, ⟨(.ro true), 45, 1, r49.2.1, .w r49.1⟩, ⟨(.ro true), 45, 1, r55.2.1, .w r55.1⟩, ⟨(.ro true), 45, 1, r55.2.2.2.1, .w r55.2.2.1⟩, ⟨.row, 45, 1, r63.1.length, .w r63.1⟩, ⟨.row, 45, 1, r69.1.length, .w r69.1⟩, ⟨.row, 45, 1, ([] ++ r49.1).length, .w ([] ++ r49.1)⟩]⟩) (by kernel_rfl) allP_nil ?_
              refine W_block ?_
              refine W_co [] [0, 1, 5, 7, 8, 10, 11, 12, 13, 14, 15, 16, 17, 18, 20] [0, 1, 2, 3, 4, 5, 6, 7, 8] (s' := (lStays_l2_E l0 l1 r30 r49 r55 r63 r69 r78 ([] ++ l1) 0)) (by kernel_rfl) (W_lp ((lStays_l2_P n l0 l1 r30 r49 r55 r63 r69 r78 r)) n (lStays_l2_M h) ?_)
              rintro fu_l2 _ ⟨w7_4, i20_4, rfl, h⟩
              cases fu_l2 with
              | zero => cases h
              | succ fu_l2 =>
                refine ⟨fu_l2, rfl, ?_⟩
                rw [lStays_l2] at h
                refine W_seq ?_
                refine W_seq ?_
                refine W_reg hT ftL_nil [] [] [0, 1, 5, 7, 8, 10, 11, 12, 13, 14, 15, 16, 17, 18, 20, 100] [0, 1, 2, 3, 4, 5, 6, 7, 8] (s' := ⟨[(0, .c (.wh 0)), (1, .c (.wh 1)), (5, .c (.s (.b r30))), (7, .c (.wh 2)), (8, .c (.wh 3)), (10, .c (.wh 4)), (11, .c (.wh 5)), (12, .c (.s (.er 30 .i64 r55.2.2.2.2))), (13, .c (.wh 6)), (14, .c (.s (.er 30 .i64 r63.2))), (15, .c (.wh 7)), (16, .c (.s (.er 30 .i64 r69.2))), (17, .c (.s (.b r78))), (18, .c (.wh 8)), (20, .c (.s (.k .i64 i20_4))), (100, .c (.s (.b (decide (i20_4 < ((([] ++ l1).length : Nat) : Int))))))], [], [⟨(.ro false), 45, 1, l0.length, .w l0⟩, ⟨(.ro false), 45, 1, l1.length, .w l1⟩, ⟨.row, 45, 1, ([] ++ l1).length, .w w7_4⟩, ⟨(.ro true), 45, 1, r49.2.1, .w r49.1⟩, ⟨(.ro true), 45, 1, r55.2.1, .w r55.1⟩, ⟨(.ro true), 45, 1, r55.2.2.2.1, .w r55.2.2.1⟩, ⟨.row, 45, 1, r63.1.length, .w r63.1⟩, ⟨.row, 45, 1, r69.1.length, .w r69.1⟩, ⟨.row, 45, 1, ([] ++ r49.1).length, .w ([] ++ r49.1)⟩]⟩) (by kernel_rfl) allP_nil ?_
                refine W_cond (b := (decide (i20_4 < ((([] ++ l1).length : Nat) : Int)))) (by kernel_rfl) (fun g43 => ?_) (fun g43 => ?_)
                · replace h := bif_t h g43
                  refine W_co [] [0, 1, 5, 7, 8, 10, 11, 12, 13, 14, 15, 16, 17, 18, 20] [0, 1, 2, 3, 4, 5, 6, 7, 8] (s' := ⟨[(0, .c (.wh 0)), (1, .c (.wh 1)), (5, .c (.s (.b r30))), (7, .c (.wh 2)), (8, .c (.wh 3)), (10, .c (.wh 4)), (11, .c (.wh 5)), (12, .c (.s (.er 30 .i64 r55.2.2.2.2))), (13, .c (.wh 6)), (14, .c (.s (.er 30 .i64 r63.2))), (15, .c (.wh 7)), (16, .c (.s (.er 30 .i64 r69.2))), (17, .c (.s (.b r78))), (18, .c (.wh 8)), (20, .c (.s (.k .i64 i20_4)))], [], [⟨(.ro false), 45, 1, l0.length, .w l0⟩, ⟨(.ro false), 45, 1, l1.length, .w l1⟩, ⟨.row, 45, 1, ([] ++ l1).length, .w w7_4⟩, ⟨(.ro true), 45, 1, r49.2.1, .w r49.1⟩, ⟨(.ro true), 45, 1, r55.2.1, .w r55.1⟩, ⟨(.ro true), 45, 1, r55.2.2.2.1, .w r55.2.2.1⟩, ⟨.row, 45, 1, r63.1.length, .w r63.1⟩, ⟨.row, 45, 1, r69.1.length, .w r69.1⟩, ⟨.row, 45, 1, ([] ++ r49.1).length, .w ([] ++ r49.1)⟩]⟩) (by kernel_rfl) (W_skip ?_)
                  refine W_seq ?_
                  refine W_block ?_
                  obtain ⟨g18, h⟩ := gd_some h
                  obtain ⟨g19, h⟩ := gd_some h
                  obtain ⟨g20, h⟩ := gd_some h
                  obtain ⟨g21, h⟩ := gd_some h
                  refine W_reg hT ftL_nil [] [] [0, 1, 5, 7, 8, 10, 11, 12, 13, 14, 15, 16, 17, 18, 20] [0, 1, 2, 3, 4, 5, 6, 7, 8] (s' := ⟨[(0, .c (.wh 0)), (1, .c (.wh 1)), (5, .c (.s (.b r30))), (7, .c (.wh 2)), (8, .c (.wh 3)), (10, .c (.wh 4)), (11, .c (.wh 5)), (12, .c (.s (.er 30 .i64 r55.2.2.2.2))), (13, .c (.wh 6)), (14, .c (.s (.er 30 .i64 r63.2))), (15, .c (.wh 7)), (16, .c (.s (.er 30 .i64 r69.2))), (17, .c (.s (.b r78))), (18, .c (.wh 8)), (20, .c (.s (.k .i64 i20_4)))], [], [⟨(.ro false), 45, 1, l0.length, .w l0⟩, ⟨(.ro false), 45, 1, l1.length, .w l1⟩, ⟨.row, 45, 1, ([] ++ l1).length, .w (w7_4.set i20_4.toNat ((w7_4.getD i20_4.toNat 0) + (1 : UInt32)))⟩, ⟨(.ro true), 45, 1, r49.2.1, .w r49.1⟩, ⟨(.ro true), 45, 1, r55.2.1, .w r55.1⟩, ⟨(.ro true), 45, 1, r55.2.2.2.1, .w r55.2.2.1⟩, ⟨.row, 45, 1, r63.1.length, .w r63.1⟩, ⟨.row, 45, 1, r69.1.length, .w r69.1⟩, ⟨.row, 45, 1, ([] ++ r49.1).length, .w ([] ++ r49.1)⟩]⟩) (by kernel_rfl) (allP_cons.2 ⟨g18, (allP_cons.2 ⟨g19, (allP_cons.2 ⟨g20, (allP_cons.2 ⟨g21, allP_nil⟩)⟩)⟩)⟩) ?_
                  obtain ⟨g22, h⟩ := gd_some h
                  refine W_reg hT ftL_nil [] [] [0, 1, 5, 7, 8, 10, 11, 12, 13, 14, 15, 16, 17, 18, 20] [0, 1, 2, 3, 4, 5, 6, 7, 8] (s' := (lStays_l2_E l0 l1 r30 r49 r55 r63 r69 r78 (w7_4.set i20_4.toNat ((w7_4.getD i20_4.toNat 0) + (1 : UInt32))) (i20_4 + 1))) (by kernel_rfl) (allP_cons.2 ⟨g22, allP_nil⟩) ?_
                  exact lStays_l2_M h
                · replace h := bif_f h g43
                  refine W_co [] [0, 1, 5, 8, 10, 11, 12, 13, 14, 15, 16, 17, 18] [0, 1, 3, 4, 5, 6, 7, 8] (s' := ⟨[(0, .c (.wh 0)), (1, .c (.wh 1)), (5, .c (.s (.b r30))), (8, .c (.wh 2)), (10, .c (.wh 3)), (11, .c (.wh 4)), (12, .c (.s (.er 30 .i64 r55.2.2.2.2))), (13, .c (.wh 5)), (14, .c (.s (.er 30 .i64 r63.2))), (15, .c (.wh 6)), (16, .c (.s (.er 30 .i64 r69.2))), (17, .c (.s (.b r78))), (18, .c (.wh 7))], [], [⟨(.ro false), 45, 1, l0.length, .w l0⟩, ⟨(.ro false), 45, 1, l1.length, .w l1⟩, ⟨(.ro true), 45, 1, r49.2.1, .w r49.1⟩, ⟨(.ro true), 45, 1, r55.2.1, .w r55.1⟩, ⟨(.ro true), 45, 1, r55.2.2.2.1, .w r55.2.2.1⟩, ⟨.row, 45, 1, r63.1.length, .w r63.1⟩, ⟨.row, 45, 1, r69.1.length, .w r69.1⟩, ⟨.row, 45, 1, ([] ++ r49.1).length, .w ([] ++ r49.1)⟩]⟩) (by kernel_rfl) (W_exit ?_)
                  refine W_seq ?_
                  obtain ⟨r114, g23, h⟩ := bind_some' h
                  refine W_reg hT (ftL_cons (k := 2) (f := 26) (F := (pAdd_ct n r114)) (pAdd_ok n r114) (fun _ _ => True.intro) ftL_nil) [] [] [0, 1, 5, 8, 10, 11, 12, 13, 14, 15, 16, 17, 18, 21] [0, 1, 2, 3, 4, 5, 6, 7, 8] (s' := ⟨[(0, .c (.wh 0)), (1, .c (.wh 1)), (5, .c (.s (.b r30))), (8, .c (.wh 2)), (10, .c (.wh 3)), (11, .c (.wh 4)), (12, .c (.s (.er 30 .i64 r55.2.2.2.2))), (13, .c (.wh 5)), (14, .c (.s (.er 30 .i64 r63.2))), (15, .c (.wh 6)), (16, .c (.s (.er 30 .i64 r69.2))), (17, .c (.s (.b r78))), (18, .c (.wh 7)), (21, .c (.wh 8))], [], [⟨(.ro false), 45, 1, l0.length, .w l0⟩, ⟨(.ro false), 45, 1, l1.length, .w l1⟩, ⟨(.ro true), 45, 1, r49.2.1, .w r49.1⟩, ⟨(.ro true), 45, 1, r55.2.1, .w r55.1⟩, ⟨(.ro true), 45, 1, r55.2.2.2.1, .w r55.2.2.1⟩, ⟨.row, 45, 1, r63.1.length, .w r63.1⟩, ⟨.row, 45, 1, r69.1.length, .w r69.1⟩, ⟨.row, 45, 1, ([] ++ r49.1).length, .w ([] ++ r49.1)⟩, ⟨(.ro true), 45, 1, r114.2.1, .w r114.1⟩]⟩) (by kernel_rfl) (allP_cons.2 ⟨g23, allP_nil⟩) ?_
                  refine W_seq ?_
                  obtain ⟨r120, g24, h⟩ := bind_some' h
                  refine W_reg hT (ftL_cons (k := 2) (f := 13) (F := (pDiv_ct n r120)) (pDiv_ok n r120) (fun _ _ => True.intro) ftL_nil) [] [] [0, 1, 5, 8, 10, 11, 12, 13, 14, 15, 16, 17, 18, 21, 23, 24, 25] [0, 1, 2, 3, 4, 5, 6, 7, 8, 9, 10] (s' := ⟨[(0, .c (.wh 0)), (1, .c (.wh 1)), (5, .c (.s (.b r30))), (8, .c (.wh 2)), (10, .c (.wh 3)), (11, .c (.wh 4)), (12, .c (.s (.er 30 .i64 r55.2.2.2.2))), (13, .c (.wh 5)), (14, .c (.s (.er 30 .i64 r63.2))), (15, .c (.wh 6)), (16, .c (.s (.er 30 .i64 r69.2))), (17, .c (.s (.b r78))), (18, .c (.wh 7)), (21, .c (.wh 8)), (23, .c (.wh 9)), (24, .c (.wh 10)), (25, .c (.s (.er 30 .i64 r120.2.2.2.2)))], [], [⟨(.ro false), 45, 1, l0.length, .w l0⟩, ⟨(.ro false), 45, 1, l1.length, .w l1⟩, ⟨(.ro true), 45, 1, r49.2.1, .w r49.1⟩, ⟨(.ro true), 45, 1, r55.2.1, .w r55.1⟩, ⟨(.ro true), 45, 1, r55.2.2.2.1, .w r55.2.2.1⟩, ⟨.row, 45, 1, r63.1.length, .w r63.1⟩, ⟨.row, 45, 1, r69.1.length, .w r69.1⟩, ⟨.row, 45, 1, ([] ++ r49.1).length, .w ([] ++ r49.1)⟩, ⟨(.ro true), 45, 1, r114.2.1, .w r114.1⟩, ⟨(.ro true), 45, 1, r120.2.1, .w r120.1⟩, ⟨(.ro true), 45, 1, r120.2.2.2.1, .w r120.2.2.1⟩]⟩) (by kernel_rfl) (allP_cons.2 ⟨g24, allP_nil⟩) ?_
                  refine W_seq ?_
                  obtain ⟨r128, g25, h⟩ := bind_some' h
                  refine W_reg hT (ftL_cons (k := 3) (f := 18) (F := (pExp_ct n r128)) (pExp_ok n r128) (fun _ _ => True.intro) ftL_nil) [] [] [0, 1, 5, 8, 10, 11, 12, 13, 14, 15, 16, 17, 18, 21, 23, 24, 25, 26, 27] [0, 1, 2, 3, 4, 5, 6, 7, 8, 9, 10, 12] (s' := ⟨[(0, .c (.wh 0)), (1, .c (.wh 1)), (5, .c (.s (.b r30))), (8, .c (.wh 2)), (10, .c (.wh 3)), (11, .c (.wh 4)), (12, .c (.s (.er 30 .i64 r55.2.2.2.2))), (13, .c (.wh 5)), (14, .c (.s (.er 30 .i64 r63.2))), (15, .c (.wh 6)), (16, .c (.s (.er 30 .i64 r69.2))), (17, .c (.s (.b r78))), (18, .c (.wh 7)), (21, .c (.wh 8)), (23, .c (.wh 9)), (24, .c (.wh 10)), (25, .c (.s (.er 30 .i64 r120.2.2.2.2))), (26, .c (.wh 11)), (27, .c (.s (.er 30 .i64 r128.2)))], [], [⟨(.ro false), 45, 1, l0.length, .w l0⟩, ⟨(.ro false), 45, 1, l1.length, .w l1⟩, ⟨(.ro true), 45, 1, r49.2.1, .w r49.1⟩, ⟨(.ro true), 45, 1, r55.2.1, .w r55.1⟩, ⟨(.ro true), 45, 1, r55.2.2.2.1, .w r55.2.2.1⟩, ⟨.row, 45, 1, r63.1.length, .w r63.1⟩, ⟨.row, 45, 1, r69.1.length, .w r69.1⟩, ⟨.row, 45, 1, ([] ++ r49.1).length, .w ([] ++ r49.1)⟩, ⟨(.ro true), 45, 1, r114.2.1, .w r114.1⟩, ⟨(.ro true), 45, 1, r120.2.1, .w r120.1⟩, ⟨(.ro true), 45, 1, r120.2.2.2.1, .w r120.2.2.1⟩, ⟨.row, 45, 1, r128.1.length, .w r128.1⟩]⟩) (by kernel_rfl) (allP_cons.2 ⟨g25, allP_nil⟩) ?_
                  refine W_seq ?_
                  obtain ⟨r134, g26, h⟩ := bind_some' h
                  refine W_reg hT (ftL_cons (k := 2) (f := 20) (F := (pInv_ct n r134)) (pInv_ok n r134) (fun _ _ => True.intro) ftL_nil) [] [] [5, 8, 10, 11, 12, 13, 14, 15, 16, 17, 18, 21, 23, 24, 25, 26, 27, 28, 29] [2, 3, 4, 5, 6, 7, 8, 9, 10, 11, 12] (s' := ⟨[(5, .c (.s (.b r30))), (8, .c (.wh 0)), (10, .c (.wh 1)), (11, .c (.wh 2)), (12, .c (.s (.er 30 .i64 r55.2.2.2.2))), (13, .c (.wh 3)), (14, .c (.s (.er 30 .i64 r63.2))), (15, .c (.wh 4)), (16, .c (.s (.er 30 .i64 r69.2))), (17, .c (.s (.b r78))), (18, .c (.wh 5)), (21, .c (.wh 6)), (23, .c (.wh 7)), (24, .c (.wh 8)), (25, .c (.s (.er 30 .i64 r120.2.2.2.2))), (26, .c (.wh 9)), (27, .c (.s (.er 30 .i64 r128.2))), (28, .c (.wh 10)), (29, .c (.s (.er 30 .i64 r134.2)))], [], [⟨(.ro true), 45, 1, r49.2.1, .w r49.1⟩, ⟨(.ro true), 45, 1, r55.2.1, .w r55.1⟩, ⟨(.ro true), 45, 1, r55.2.2.2.1, .w r55.2.2.1⟩, ⟨.row, 45, 1, r63.1.length, .w r63.1⟩, ⟨.row, 45, 1, r69.1.length, .w r69.1⟩, ⟨.row, 45, 1, ([] ++ r49.1).length, .w ([] ++ r49.1)⟩, ⟨(.ro true), 45, 1, r114.2.1, .w r114.1⟩, ⟨(.ro true), 45, 1, r120.2.1, .w r120.1⟩, ⟨(.ro true), 45, 1, r120.2.2.2.1, .w r120.2.2.1⟩, ⟨.row, 45, 1, r128.1.length, .w r128.1⟩, ⟨.row, 45, 1, r134.1.length, .w r134.1⟩]⟩) (by kernel_rfl) (allP_cons.2 ⟨g26, allP_nil⟩) ?_
                  refine W_seq ?_
                  rcases Bool.eq_false_or_eq_true r30 with g27 | g27
                  · replace h := bif_t h g27
                    rcases Bool.eq_false_or_eq_true r78 with g28 | g28
                    · replace h := bif_t h g28
                      obtain ⟨r144, g29, h⟩ := bind_some' h
                      rcases Bool.eq_false_or_eq_true r144 with g30 | g30
                      · replace h := bif_t h g30
                        obtain ⟨r149, g31, h⟩ := bind_some' h
                        rcases Bool.eq_false_or_eq_true r149 with g32 | g32
                        · replace h := bif_t h g32
                          obtain ⟨r154, g33, h⟩ := bind_some' h
                          rcases Bool.eq_false_or_eq_true r154 with g34 | g34
                          · replace h := bif_t h g34
                            obtain ⟨r159, g35, h⟩ := bind_some' h
                            rcases Bool.eq_false_or_eq_true r159 with g36 | g36
                            · replace h := bif_t h g36
                              obtain ⟨r164, g37, h⟩ := bind_some' h
                              rcases Bool.eq_false_or_eq_true r164 with g38 | g38
                              · replace h := bif_t h g38
                                obtain ⟨r169, g39, h⟩ := bind_some' h
                                rcases Bool.eq_false_or_eq_true r169 with g40 | g40
                                · replace h := bif_t h g40
                                  rcases Bool.eq_false_or_eq_true (((r55.2.2.2.2).isNone) == ((r120.2.2.2.2).isNone)) with g41 | g41
                                  · replace h := bif_t h g41
                                    rcases Bool.eq_false_or_eq_true (((r63.2).isNone) == ((r128.2).isNone)) with g42 | g42
                                    · replace h := bif_t h g42
                                      refine W_regD hT (ftL_cons (k := 7) (f := 30) (F := (lsame_ct n r144)) (lsame_ok n r144) (fun _ _ => True.intro) (ftL_cons (k := 12) (f := 30) (F := (lsame_ct n r149)) (lsame_ok n r149) (fun _ _ => True.intro) (ftL_cons (k := 17) (f := 30) (F := (lsame_ct n r154)) (lsame_ok n r154) (fun _ _ => True.intro) (ftL_cons (k := 22) (f := 30) (F := (lsame_ct n r159)) (lsame_ok n r159) (fun _ _ => True.intro) (ftL_cons (k := 27) (f := 30) (F := (lsame_ct n r164)) (lsame_ok n r164) (fun _ _ => True.intro) (ftL_cons (k := 32) (f := 30) (F := (lsame_ct n r169)) (lsame_ok n r169) (fun _ _ => True.intro) ftL_nil)))))) (by kernel_rfl) 53 [(1, true), (4, true), (9, true), (14, true), (19, true), (24, true), (29, true), (34, true), (41, true), (48, true)] [(185, false), (187, false), (189, false)] [] [4] [] (s' := ⟨[(4, .c (.s (.b (((r69.2).isNone) == ((r134.2).isNone)))))], [], []⟩) (by kernel_rfl) (by kernel_rfl) (allP_cons.2 ⟨g27, (allP_cons.2 ⟨g28, (allP_cons.2 ⟨g29, (allP_cons.2 ⟨g30, (allP_cons.2 ⟨g31, (allP_cons.2 ⟨g32, (allP_cons.2 ⟨g33, (allP_cons.2 ⟨g34, (allP_cons.2 ⟨g35, (allP_cons.2 ⟨g36, (allP_cons.2 ⟨g37, (allP_cons.2 ⟨g38, (allP_cons.2 ⟨g39, (allP_cons.2 ⟨g40, (allP_cons.2 ⟨g41, (allP_cons.2 ⟨g42, allP_nil⟩)⟩)⟩)⟩)⟩)⟩)⟩)⟩)⟩)⟩)⟩)⟩)⟩)⟩)⟩)⟩) ?_
                                      refine W_co [] [4] [] (s' := (lStays_R (((r69.2).isNone) == ((r134.2).isNone)))) (by kernel_rfl) (W_ret ?_)
                                      exact ⟨.inl rfl, by cases h; rfl⟩
                                    · replace h := bif_f h g42
                                      refine W_regD hT (ftL_cons (k := 7) (f := 30) (F := (lsame_ct n r144)) (lsame_ok n r144) (fun _ _ => True.intro) (ftL_cons (k := 12) (f := 30) (F := (lsame_ct n r149)) (lsame_ok n r149) (fun _ _ => True.intro) (ftL_cons (k := 17) (f := 30) (F := (lsame_ct n r154)) (lsame_ok n r154) (fun _ _ => True.intro) (ftL_cons (k := 22) (f := 30) (F := (lsame_ct n r159)) (lsame_ok n r159) (fun _ _ => True.intro) (ftL_cons (k := 27) (f := 30) (F := (lsame_ct n r164)) (lsame_ok n r164) (fun _ _ => True.intro) (ftL_cons (k := 32) (f := 30) (F := (lsame_ct n r169)) (lsame_ok n r169) (fun _ _ => True.intro) ftL_nil)))))) (by kernel_rfl) 53 [(1, true), (4, true), (9, true), (14, true), (19, true), (24, true), (29, true), (34, true), (41, true), (48, false)] [(185, false), (187, false), (189, false)] [] [4] [] (s' := ⟨[(4, .c (.s (.b false)))], [], []⟩) (by kernel_rfl) (by kernel_rfl) (allP_cons.2 ⟨g27, (allP_cons.2 ⟨g28, (allP_cons.2 ⟨g29, (allP_cons.2 ⟨g30, (allP_cons.2 ⟨g31, (allP_cons.2 ⟨g32, (allP_cons.2 ⟨g33, (allP_cons.2 ⟨g34, (allP_cons.2 ⟨g35, (allP_cons.2 ⟨g36, (allP_cons.2 ⟨g37, (allP_cons.2 ⟨g38, (allP_cons.2 ⟨g39, (allP_cons.2 ⟨g40, (allP_cons.2 ⟨g41, (allP_cons.2 ⟨g42, allP_nil⟩)⟩)⟩)⟩)⟩)⟩)⟩)⟩)⟩)⟩)⟩)⟩)⟩)⟩)⟩)⟩) ?_
                                      refine W_co [] [4] [] (s' := (lStays_R false)) (by kernel_rfl) (W_ret ?_)
                                      exact ⟨.inl rfl, by cases h; rfl⟩
                                  · replace h := bif_f h g41
                                    refine W_regD hT (ftL_cons (k := 7) (f := 30) (F := (lsame_ct n r144)) (lsame_ok n r144) (fun _ _ => True.intro) (ftL_cons (k := 12) (f := 30) (F := (lsame_ct n r149)) (lsame_ok n r149) (fun _ _ => True.intro) (ftL_cons (k := 17) (f := 30) (F := (lsame_ct n r154)) (lsame_ok n r154) (fun _ _ => True.intro) (ftL_cons (k := 22) (f := 30) (F := (lsame_ct n r159)) (lsame_ok n r159) (fun _ _ => True.intro) (ftL_cons (k := 27) (f := 30) (F := (lsame_ct n r164)) (lsame_ok n r164) (fun _ _ => True.intro) (ftL_cons (k := 32) (f := 30) (F := (lsame_ct n r169)) (lsame_ok n r169) (fun _ _ => True.intro) ftL_nil)))))) (by kernel_rfl) 53 [(1, true), (4, true), (9, true), (14, true), (19, true), (24, true), (29, true), (34, true), (41, false)] [(185, false), (187, false), (189, false)] [] [4] [] (s' := ⟨[(4, .c (.s (.b false)))], [], []⟩) (by kernel_rfl) (by kernel_rfl) (allP_cons.2 ⟨g27, (allP_cons.2 ⟨g28, (allP_cons.2 ⟨g29, (allP_cons.2 ⟨g30, (allP_cons.2 ⟨g31, (allP_cons.2 ⟨g32, (allP_cons.2 ⟨g33, (allP_cons.2 ⟨g34, (allP_cons.2 ⟨g35, (allP_cons.2 ⟨g36, (allP_cons.2 ⟨g37, (allP_cons.2 ⟨g38, (allP_cons.2 ⟨g39, (allP_cons.2 ⟨g40, (allP_cons.2 ⟨g41, allP_nil⟩)⟩)⟩)⟩)⟩)⟩)⟩)⟩)⟩)⟩)⟩)⟩)⟩)⟩)⟩) ?_
                                    refine W_co [] [4] [] (s' := (lStays_R false)) (by kernel_rfl) (W_ret ?_)
                                    exact ⟨.inl rfl, by cases h; rfl⟩
                                · replace h := bif_f h g40
                                  refine W_regD hT (ftL_cons (k := 7) (f := 30) (F := (lsame_ct n r144)) (lsame_ok n r144) (fun _ _ => True.intro) (ftL_cons (k := 12) (f := 30) (F := (lsame_ct n r149)) (lsame_ok n r149) (fun _ _ => True.intro) (ftL_cons (k := 17) (f := 30) (F := (lsame_ct n r154)) (lsame_ok n r154) (fun _ _ => True.intro) (ftL_cons (k := 22) (f := 30) (F := (lsame_ct n r159)) (lsame_ok n r159) (fun _ _ => True.intro) (ftL_cons (k := 27) (f := 30) (F := (lsame_ct n r164)) (lsame_ok n r164) (fun _ _ => True.intro) (ftL_cons (k := 32) (f := 30) (F := (lsame_ct n r169)) (lsame_ok n r169) (fun _ _ => True.intro) ftL_nil)))))) (by kernel_rfl) 53 [(1, true), (4, true), (9, true), (14, true), (19, true), (24, true), (29, true), (34, false)] [(185, false), (187, false), (189, false)] [] [4] [] (s' := ⟨[(4, .c (.s (.b false)))], [], []⟩) (by kernel_rfl) (by kernel_rfl) (allP_cons.2 ⟨g27, (allP_cons.2 ⟨g28, (allP_cons.2 ⟨g29, (allP_cons.2 ⟨g30, (allP_cons.2 ⟨g31, (allP_cons.2 ⟨g32, (allP_cons.2 ⟨g33, (allP_cons.2 ⟨g34, (allP_cons.2 ⟨g35, (allP_cons.2 ⟨g36, (allP_cons.2 ⟨g37, (allP_cons.2 ⟨g38, (allP_cons.2 ⟨g39, (allP_cons.2 ⟨g40, allP_nil⟩)⟩)⟩)⟩)⟩)⟩)⟩)⟩)⟩)⟩)⟩)⟩)⟩)⟩) ?_
                                  refine W_co [] [4] [] (s' := (lStays_R false)) (by kernel_rfl) (W_ret ?_)
                                  exact ⟨.inl rfl, by cases h; rfl⟩
                              · replace h := bif_f h g38
                                refine W_regD hT (ftL_cons (k := 7) (f := 30) (F := (lsame_ct n r144)) (lsame_ok n r144) (fun _ _ => True.intro) (ftL_cons (k := 12) (f := 30) (F := (lsame_ct n r149)) (lsame_ok n r149) (fun _ _ => True.intro) (ftL_cons (k := 17) (f := 30) (F := (lsame_ct n r154)) (lsame_ok n r154) (fun _ _ => True.intro) (ftL_cons (k := 22) (f := 30) (F := (lsame_ct n r159)) (lsame_ok n r159) (fun _ _ => True.intro) (ftL_cons (k := 27) (f := 30) (F := (lsame_ct n r164)) (lsame_ok n r164) (fun _ _ => True.intro) ftL_nil))))) (by kernel_rfl) 53 [(1, true), (4, true), (9, true), (14, true), (19, true), (24, true), (29, false)] [(185, false), (187, false), (189, false)] [] [4] [] (s' := ⟨[(4, .c (.s (.b false)))], [], []⟩) (by kernel_rfl) (by kernel_rfl) (allP_cons.2 ⟨g27, (allP_cons.2 ⟨g28, (allP_cons.2 ⟨g29, (allP_cons.2 ⟨g30, (allP_cons.2 ⟨g31, (allP_cons.2 ⟨g32, (allP_cons.2 ⟨g33, (allP_cons.2 ⟨g34, (allP_cons.2 ⟨g35, (allP_cons.2 ⟨g36, (allP_cons.2 ⟨g37, (allP_cons.2 ⟨g38, allP_nil⟩)⟩)⟩)⟩)⟩)⟩)⟩)⟩)⟩)⟩)⟩)⟩) ?_
                                refine W_co [] [4] [] (s' := (lStays_R false)) (by kernel_rfl) (W_ret ?_)
                                exact ⟨.inl rfl, by cases h; rfl⟩
                            · replace h := bif_f h g36
                              refine W_regD hT (ftL_cons (k := 7) (f := 30) (F := (lsame_ct n r144)) (lsame_ok n r144) (fun _ _ => True.intro) (ftL_cons (k := 12) (f := 30) (F := (lsame_ct n r149)) (lsame_ok n r149) (fun _ _ => True.intro) (ftL_cons (k := 17) (f := 30) (F := (lsame_ct n r154)) (lsame_ok n r154) (fun _ _ => True.intro) (ftL_cons (k := 22) (f := 30) (F := (lsame_ct n r159)) (lsame_ok n r159) (fun _ _ => True.intro) ftL_nil)))) (by kernel_rfl) 53 [(1, true), (4, true), (9, true), (14, true), (19, true), (24, false)] [(185, false), (187, false), (189, false)] [] [4] [] (s' := ⟨[(4, .c (.s (.b false)))], [], []⟩) (by kernel_rfl) (by kernel_rfl) (allP_cons.2 ⟨g27, (allP_cons.2 ⟨g28, (allP_cons.2 ⟨g29, (allP_cons.2 ⟨g30, (allP_cons.2 ⟨g31, (allP_cons.2 ⟨g32, (allP_cons.2 ⟨g33, (allP_cons.2 ⟨g34, (allP_cons.2 ⟨g35, (allP_cons.2 ⟨g36, allP_nil⟩)⟩)⟩)⟩)⟩)⟩)⟩)⟩)⟩)⟩) ?_
                              refine W_co [] [4] [] (s' := (lStays_R false)) (by kernel_rfl) (W_ret ?_)
                              exact ⟨.inl rfl, by cases h; rfl⟩
                          · replace h := bif_f h g34
                            refine W_regD hT (ftL_cons (k := 7) (f := 30) (F := (lsame_ct n r144)) (lsame_ok n r144) (fun _ _ => True.intro) (ftL_cons (k := 12) (f := 30) (F := (lsame_ct n r149)) (lsame_ok n r149) (fun _ _ => True.intro) (ftL_cons (k := 17) (f := 30) (F := (lsame_ct n r154)) (lsame_ok n r154) (fun _ _ => True.intro) ftL_nil))) (by kernel_rfl) 53 [(1, true), (4, true), (9, true), (14, true), (19, false)] [(185, false), (187, false), (189, false)] [] [4] [] (s' := ⟨[(4, .c (.s (.b false)))], [], []⟩) (by kernel_rfl) (by kernel_rfl) (allP_cons.2 ⟨g27, (allP_cons.2 ⟨g28, (allP_cons.2 ⟨g29, (allP_cons.2 ⟨g30, (allP_cons.2 ⟨g31, (allP_cons.2 ⟨g32, (allP_cons.2 ⟨g33, (allP_cons.2 ⟨g34, allP_nil⟩)⟩)⟩)⟩)⟩)⟩)⟩)⟩) ?_
                            refine W_co [] [4] [] (s' := (lStays_R false)) (by kernel_rfl) (W_ret ?_)
                            exact ⟨.inl rfl, by cases h; rfl⟩
                        · replace h := bif_f h g32
                          refine W_regD hT (ftL_cons (k := 7) (f := 30) (F := (lsame_ct n r144)) (lsame_ok n r144) (fun _ _ => True.intro) (ftL_cons (k := 12) (f := 30) (F := (lsame_ct n r149)) (lsame_ok n r149) (fun _ _ => True.intro) ftL_nil)) (by kernel_rfl) 53 [(1, true), (4, true), (9, true), (14, false)] [(185, false), (187, false), (189, false)] [] [4] [] (s' := ⟨[(4, .c (.s (.b false)))], [], []⟩) (by kernel_rfl) (by kernel_rfl) (allP_cons.2 ⟨g27, (allP_cons.2 ⟨g28, (allP_cons.2 ⟨g29, (allP_cons.2 ⟨g30, (allP_cons.2 ⟨g31, (allP_cons.2 ⟨g32, allP_nil⟩)⟩)⟩)⟩)⟩)⟩) ?_
                          refine W_co [] [4] [] (s' := (lStays_R false)) (by kernel_rfl) (W_ret ?_)
                          exact ⟨.inl rfl, by cases h; rfl⟩
                      · replace h := bif_f h g30
                        refine W_regD hT (ftL_cons (k := 7) (f := 30) (F := (lsame_ct n r144)) (lsame_ok n r144) (fun _ _ => True.intro) ftL_nil) (by kernel_rfl) 53 [(1, true), (4, true), (9, false)] [(185, false), (187, false), (189, false)] [] [4] [] (s' := ⟨[(4, .c (.s (.b false)))], [], []⟩) (by kernel_rfl) (by kernel_rfl) (allP_cons.2 ⟨g27, (allP_cons.2 ⟨g28, (allP_cons.2 ⟨g29, (allP_cons.2 ⟨g30, allP_nil⟩)⟩)⟩)⟩) ?_
                        refine W_co [] [4] [] (s' := (lStays_R false)) (by kernel_rfl) (W_ret ?_)
                        exact ⟨.inl rfl, by cases h; rfl⟩
                    · replace h := bif_f h g28
                      refine W_regD hT ftL_nil (by kernel_rfl) 53 [(1, true), (4, false)] [(185, false), (187, false), (189, false)] [] [4] [] (s' := ⟨[(4, .c (.s (.b false)))], [], []⟩) (by kernel_rfl) (by kernel_rfl) (allP_cons.2 ⟨g27, (allP_cons.2 ⟨g28, allP_nil⟩)⟩) ?_
                      refine W_co [] [4] [] (s' := (lStays_R false)) (by kernel_rfl) (W_ret ?_)
                      exact ⟨.inl rfl, by cases h; rfl⟩
                  · replace h := bif_f h g27
                    refine W_regD hT ftL_nil (by kernel_rfl) 53 [(1, false)] [(185, false), (187, false), (189, false)] [] [4] [] (s' := ⟨[(4, .c (.s (.b false)))], [], []⟩) (by kernel_rfl) (by kernel_rfl) (allP_cons.2 ⟨g27, allP_nil⟩) ?_
                    refine W_co [] [4] [] (s' := (lStays_R false)) (by kernel_rfl) (W_ret ?_)
                    exact ⟨.inl rfl, by cases h; rfl⟩
        · replace h := bif_f h g10
          refine W_reg hT (ftL_cons (k := 2) (f := 30) (F := (lsame_ct n r74)) (lsame_ok n r74) (fun _ _ => True.intro) ftL_nil) [(3, false)] [] [0, 1, 5, 6, 7, 8, 10, 11, 12, 13, 14, 15, 16, 17] [0, 1, 2, 3, 4, 5, 6, 7, 8] (s' := ⟨[(0, .c (.wh 0)), (1, .c (.wh 1)), (5, .c (.s (.b r30))), (6, .c (.wh 2)), (7, .c (.wh 3)), (8, .c (.wh 4)), (10, .c (.wh 5)), (11, .c (.wh 6)), (12, .c (.s (.er 30 .i64 r55.2.2.2.2))), (13, .c (.wh 7)), (14, .c (.s (.er 30 .i64 r63.2))), (15, .c (.wh 8)), (16, .c (.s (.er 30 .i64 r69.2))), (17, .c (.s (.b false)))], [], [⟨(.ro false), 45, 1, l0.length, .w l0⟩, ⟨(.ro false), 45, 1, l1.length, .w l1⟩, ⟨.row, 45, 1, ([] ++ l0).length, .w ([] ++ l0)⟩, ⟨.row, 45, 1, ([] ++ l1).length, .w ([] ++ l1)⟩, ⟨(.ro true), 45, 1, r49.2.1, .w r49.1⟩, ⟨(.ro true), 45, 1, r55.2.1, .w r55.1⟩, ⟨(.ro true), 45, 1, r55.2.2.2.1, .w r55.2.2.1⟩, ⟨.row, 45, 1, r63.1.length, .w r63.1⟩, ⟨.row, 45, 1, r69.1.length, .w r69.1⟩]⟩) (by kernel_rfl) (allP_cons.2 ⟨g9, (allP_cons.2 ⟨g10, allP_nil⟩)⟩) ?_
          refine W_seq ?_
          obtain ⟨g45, h⟩ := gd_some h
          refine W_reg hT ftL_nil [] [] [0, 1, 5, 6, 7, 8, 10, 11, 12, 13, 14, 15, 16, 17, 18] [0, 1, 2, 3, 4, 5, 6, 7, 8, 10] (s' := ⟨[(0, .c (.wh 0)), (1, .c (.wh 1)), (5, .c (.s (.b r30))), (6, .c (.wh 2)), (7, .c (.wh 3)), (8, .c (.wh 4)), (10, .c (.wh 5)), (11, .c (.wh 6)), (12, .c (.s (.er 30 .i64 r55.2.2.2.2))), (13, .c (.wh 7)), (14, .c (.s (.er 30 .i64 r63.2))), (15, .c (.wh 8)), (16, .c (.s (.er 30 .i64 r69.2))), (17, .c (.s (.b false))), (18, .c (.wh 9))], [], [⟨(.ro false), 45, 1, l0.length, .w l0⟩, ⟨(.ro false), 45, 1, l1.length, .w l1⟩, ⟨.row, 45, 1, ([] ++ l0).length, .w ([] ++ l0)⟩, ⟨.row, 45, 1, ([] ++ l1).length, .w ([] ++ l1)⟩, ⟨(.ro true), 45, 1, r49.2.1, .w r49.1⟩, ⟨(.ro true), 45, 1, r55.2.1, .w r55.1⟩, ⟨(.ro true), 45, 1, r55.2.2.2.1, .w r55.2.2.1⟩, ⟨.row, 45, 1, r63.1.length, .w r63.1⟩, ⟨.row, 45, 1, r69.1.length, .w r69.1⟩, ⟨.row, 45, 1, ([] ++ r49.1).length, .w ([] ++ r49.1)⟩]⟩) (by kernel_rfl) (allP_cons.2 ⟨g45, allP_nil⟩) ?_
          refine W_seq ?_
          refine W_seq ?_
          refine W_reg hT ftL_nil [] [] [0, 1, 5, 6, 7, 8, 10, 11, 12, 13, 14, 15, 16, 17, 18, 19] [0, 1, 2, 3, 4, 5, 6, 7, 8, 9] (s' := ⟨[(0, .c (.wh 0)), (1, .c (.wh 1)), (5, .c (.s (.b r30))), (6, .c (.wh 2)), (7, .c (.wh 3)), (8, .c (.wh 4)), (10, .c (.wh 5)), (11, .c (.wh 6)), (12, .c (.s (.er 30 .i64 r55.2.2.2.2))), (13, .c (.wh 7)), (14, .c (.s (.er 30 .i64 r63.2))), (15, .c (.wh 8)), (16, .c (.s (.er 30 .i64 r69.2))), (17, .c (.s (.b false))), (18, .c (.wh 9)), (19, .c (.s (.k .i64 0)))], [], [⟨(.ro false), 45, 1, l0.length, .w l0⟩, ⟨(.ro false), 45, 1, l1.length, .w l1⟩, ⟨.row, 45, 1, ([] ++ l0).length, .w ([] ++ l0)⟩, ⟨.row, 45, 1, ([] ++ l1).length, .w ([] ++ l1)⟩, ⟨(.ro true), 45, 1, r49.2.1, .w r49.1⟩, ⟨(.ro true), 45, 1, r55.2.1, .w r55.1⟩, ⟨(.ro true), 45, 1, r55.2.2.2.1, .w r55.2.2.1⟩, ⟨.row, 45, 1, r63.1.length, .w r63.1⟩, ⟨.row, 45, 1, r69.1.length, .w r69.1⟩, ⟨.row, 45, 1, ([] ++ r49.1).length, .w ([] ++ r49.1)⟩]⟩) (by kernel_rfl) allP_nil ?_
          refine W_block ?_
          refine W_co [] [0, 1, 5, 6, 7, 8, 10, 11, 12, 13, 14, 15, 16, 17, 18, 19] [0, 1, 2, 3, 4, 5, 6, 7, 8, 9] (s' := (lStays_l3_E l0 l1 r30 r49 r55 r63 r69 ([] ++ l0) 0)) (by kernel_rfl) (W_lp ((lStays_l3_P n l0 l1 r30 r49 r55 r63 r69 r)) n (lStays_l3_M h) ?_)
          rintro fu_l3 _ ⟨w6_5, i19_5, rfl, h⟩
          cases fu_l3 with
          | zero => cases h
          | succ fu_l3 =>
            refine ⟨fu_l3, rfl, ?_⟩
            rw [lStays_l3] at h
            refine W_seq ?_
            refine W_seq ?_
            refine W_reg hT ftL_nil [] [] [0, 1, 5, 6, 7, 8, 10, 11, 12, 13, 14, 15, 16, 17, 18, 19, 86] [0, 1, 2, 3, 4, 5, 6, 7, 8, 9] (s' := ⟨[(0, .c (.wh 0)), (1, .c (.wh 1)), (5, .c (.s (.b r30))), (6, .c (.wh 2)), (7, .c (.wh 3)), (8, .c (.wh 4)), (10, .c (.wh 5)), (11, .c (.wh 6)), (12, .c (.s (.er 30 .i64 r55.2.2.2.2))), (13, .c (.wh 7)), (14, .c (.s (.er 30 .i64 r63.2))), (15, .c (.wh 8)), (16, .c (.s (.er 30 .i64 r69.2))), (17, .c (.s (.b false))), (18, .c (.wh 9)), (19, .c (.s (.k .i64 i19_5))), (86, .c (.s (.b (decide (i19_5 < ((([] ++ l0).length : Nat) : Int))))))], [], [⟨(.ro false), 45, 1, l0.length, .w l0⟩, ⟨(.ro false), 45, 1, l1.length, .w l1⟩, ⟨.row, 45, 1, ([] ++ l0).length, .w w6_5⟩, ⟨.row, 45, 1, ([] ++ l1).length, .w ([] ++ l1)⟩, ⟨(.ro true), 45, 1, r49.2.1, .w r49.1⟩, ⟨(.ro true), 45, 1, r55.2.1, .w r55.1⟩, ⟨(.ro true), 45, 1, r55.2.2.2.1, .w r55.2.2.1⟩, ⟨.row, 45, 1, r63.1.length, .w r63.1⟩, ⟨.row, 45, 1, r69.1.length, .w r69.1⟩, ⟨.row, 45, 1, ([] ++ r49.1).length, .w ([] ++ r49.1)⟩]⟩) (by kernel_rfl) allP_nil ?_
            refine W_cond (b := (decide (i19_5 < ((([] ++ l0).length : Nat) : Int)))) (by kernel_rfl) (fun g62 => ?_) (fun g62 => ?_)
            · replace h := bif_t h g62
              refine W_co [] [0, 1, 5, 6, 7, 8, 10, 11, 12, 13, 14, 15, 16, 17, 18, 19] [0, 1, 2, 3, 4, 5, 6, 7, 8, 9] (s' := ⟨[(0, .c (.wh 0)), (1, .c (.wh 1)), (5, .c (.s (.b r30))), (6, .c (.wh 2)), (7, .c (.wh 3)), (8, .c (.wh 4)), (10, .c (.wh 5)), (11, .c (.wh 6)), (12, .c (.s (.er 30 .i64 r55.2.2.2.2))), (13, .c (.wh 7)), (14, .c (.s (.er 30 .i64 r63.2))), (15, .c (.wh 8)), (16, .c (.s (.er 30 .i64 r69.2))), (17, .c (.s (.b false))), (18, .c (.wh 9)), (19, .c (.s (.k .i64 i19_5)))], [], [⟨(.ro false), 45, 1, l0.length, .w l0⟩, ⟨(.ro false), 45, 1, l1.length, .w l1⟩, ⟨.row, 45, 1, ([] ++ l0).length, .w w6_5⟩, ⟨.row, 45, 1, ([] ++ l1).length, .w ([] ++ l1)⟩, ⟨(.ro true), 45, 1, r49.2.1, .w r49.1⟩, ⟨(.ro true), 45, 1, r55.2.1, .w r55.1⟩, ⟨(.ro true), 45, 1, r55.2.2.2.1, .w r55.2.2.1⟩, ⟨.row, 45, 1, r63.1.length, .w r63.1⟩, ⟨.row, 45, 1, r69.1.length, .w r69.1⟩, ⟨.row, 45, 1, ([] ++ r49.1).length, .w ([] ++ r49.1)⟩]⟩) (by kernel_rfl) (W_skip ?_)
              refine W_seq ?_
              refine W_block ?_
              obtain ⟨g46, h⟩ := gd_some h
              obtain ⟨g47, h⟩ := gd_some h
              obtain ⟨g48, h⟩ := gd_some h
              obtain ⟨g49, h⟩ := gd_some h
              refine W_reg hT ftL_nil [] [] [0, 1, 5, 6, 7, 8, 10, 11, 12, 13, 14, 15, 16, 17, 18, 19] [0, 1, 2, 3, 4, 5, 6, 7, 8, 9] (s' := ⟨[(0, .c (.wh 0)), (1, .c (.wh 1)), (5, .c (.s (.b r30))), (6, .c (.wh 2)), (7, .c (.wh 3)), (8, .c (.wh 4)), (10, .c (.wh 5)), (11, .c (.wh 6)), (12, .c (.s (.er 30 .i64 r55.2.2.2.2))), (13, .c (.wh 7)), (14, .c (.s (.er 30 .i64 r63.2))), (15, .c (.wh 8)), (16, .c (.s (.er 30 .i64 r69.2))), (17, .c (.s (.b false))), (18, .c (.wh 9)), (19, .c (.s (.k .i64 i19_5)))], [], [⟨(.ro false), 45, 1, l0.length, .w l0⟩, ⟨(.ro false), 45, 1, l1.length, .w l1⟩, ⟨.row, 45, 1, ([] ++ l0).length, .w (w6_5.set i19_5.toNat ((w6_5.getD i19_5.toNat 0) + (1 : UInt32)))⟩, ⟨.row, 45, 1, ([] ++ l1).length, .w ([] ++ l1)⟩, ⟨(.ro true), 45, 1, r49.2.1, .w r49.1⟩, ⟨(.ro true), 45, 1, r55.2.1, .w r55.1⟩, ⟨(.ro true), 45, 1, r55.2.2.2.1, .w r55.2.2.1⟩, ⟨.row, 45, 1, r63.1.length, .w r63.1⟩, ⟨.row, 45, 1, r69.1.length, .w r69.1⟩, ⟨.row, 45, 1, ([] ++ r49.1).length, .w ([] ++ r49.1)⟩]⟩) (by kernel_rfl) (allP_cons.2 ⟨g46, (allP_cons.2 ⟨g47, (allP_cons.2 ⟨g48, (allP_cons.2 ⟨g49, allP_nil⟩)⟩)⟩)⟩) ?_
              obtain ⟨g50, h⟩ := gd_some h
              refine W_reg hT ftL_nil [] [] [0, 1, 5, 6, 7, 8, 10, 11, 12, 13, 14, 15, 16, 17, 18, 19] [0, 1, 2, 3, 4, 5, 6, 7, 8, 9] (s' := (lStays_l3_E l0 l1 r30 r49 r55 r63 r69 (w6_5.set i19_5.toNat ((w6_5.getD i19_5.toNat 0) + (1 : UInt32))) (i19_5 + 1))) (by kernel_rfl) (allP_cons.2 ⟨g50, allP_nil⟩) ?_
              exact lStays_l3_M h
            · replace h := bif_f h g62
              refine W_co [] [0, 1, 5, 7, 8, 10, 11, 12, 13, 14, 15, 16, 17, 18] [0, 1, 3, 4, 5, 6, 7, 8, 9] (s' := ⟨[(0, .c (.wh 0)), (1, .c (.wh 1)), (5, .c (.s (.b r30))), (7, .c (.wh 2)), (8, .c (.wh 3)), (10, .c (.wh 4)), (11, .c (.wh 5)), (12, .c (.s (.er 30 .i64 r55.2.2.2.2))), (13, .c (.wh 6)), (14, .c (.s (.er 30 .i64 r63.2))), (15, .c (.wh 7)), (16, .c (.s (.er 30 .i64 r69.2))), (17, .c (.s (.b false))), (18, .c (.wh 8))], [], [⟨(.ro false), 45, 1, l0.length, .w l0⟩, ⟨(.ro false), 45, 1, l1.length, .w l1⟩, ⟨.row, 45, 1, ([] ++ l1).length, .w ([] ++ l1)⟩, ⟨(.ro true), 45, 1, r49.2.1, .w r49.1⟩, ⟨(.ro true), 45, 1, r55.2.1, .w r55.1⟩, ⟨(.ro true), 45, 1, r55.2.2.2.1, .w r55.2.2.1⟩, ⟨.row, 45, 1, r63.1.length, .w r63.1⟩, ⟨.row, 45, 1, r69.1.length, .w r69.1⟩, ⟨.row, 45, 1, ([] ++ r49.1).length, .w ([] ++ r49.1)⟩]⟩) (by kernel_rfl) (W_exit ?_)
              refine W_seq ?_
              refine W_seq ?_
              refine W_reg hT ftL_nil [] [] [0, 1, 5, 7, 8, 10, 11, 12, 13, 14, 15, 16, 17, 18, 20] [0, 1, 2, 3, 4, 5, 6, 7, 8] (s' := ⟨[(0, .c (.wh 0)), (1, .c (.wh 1)), (5, .c (.s (.b r30))), (7, .c (.wh 2)), (8, .c (.wh 3)), (10, .c (.wh 4)), (11, .c (.wh 5)), (12, .c (.s (.er 30 .i64 r55.2.2.2.2))), (13, .c (.wh 6)), (14, .c (.s (.er 30 .i64 r63.2))), (15, .c (.wh 7)), (16, .c (.s (.er 30 .i64 r69.2))), (17, .c (.s (.b false))), (18, .c (.wh 8)), (20, .c (.s (.k .i64 0)))], [], [⟨(.ro false), 45, 1, l0.length, .w l0⟩, ⟨(.ro false), 45, 1, l1.length, .w l1⟩, ⟨.row, 45, 1, ([] ++ l1).length, .w ([] ++ l1)⟩, ⟨(.ro true), 45, 1, r49.2.1, .w r49.1⟩, ⟨(.ro true), 45, 1, r55.2.1, .w r55.1⟩, ⟨(.ro true), 45, 1, r55.2.2.2.1, .w r55.2.2.1⟩, ⟨.row, 45, 1, r63.1.length, .w r63.1⟩, ⟨.row, 45, 1, r69.1.length, .w r69.1⟩, ⟨.row, 45, 1, ([] ++ r49.1).length, .w ([] ++ r49.1)⟩]⟩) (by kernel_rfl) allP_nil ?_
              refine W_block ?_
              refine W_co [] [0, 1, 5, 7, 8, 10, 11, 12, 13, 14, 15, 16, 17, 18, 20] [0, 1, 2, 3, 4, 5, 6, 7, 8] (s' := (lStays_l4_E l0 l1 r30 r49 r55 r63 r69 ([] ++ l1) 0)) (by kernel_rfl) (W_lp ((lStays_l4_P n l0 l1 r30 r49 r55 r63 r69 r)) n (lStays_l4_M h) ?_)
              rintro fu_l4 _ ⟨w7_5, i20_5, rfl, h⟩
              cases fu_l4 with
              | zero => cases h
              | succ fu_l4 =>
                refine ⟨fu_l4, rfl, ?_⟩
                rw [lStays_l4] at h
                refine W_seq ?_
                refine W_seq ?_
                refine W_reg hT ftL_nil [] [] [0, 1, 5, 7, 8, 10, 11, 12, 13, 14, 15, 16, 17, 18, 20, 100] [0, 1, 2, 3, 4, 5, 6, 7, 8] (s' := ⟨[(0, .c (.wh 0)), (1, .c (.wh 1)), (5, .c (.s (.b r30))), (7, .c (.wh 2)), (8, .c (.wh 3)), (10, .c (.wh 4)), (11, .c (.wh 5)), (12, .c (.s (.er 30 .i64 r55.2.2.2.2))), (13, .c (.wh 6)), (14, .c (.s (.er 30 .i64 r63.2))), (15, .c (.wh 7)), (16, .c (.s (.er 30 .i64 r69.2))), (17, .c (.s (.b false))), (18, .c (.wh 8)), (20, .c (.s (.k .i64 i20_5))), (100, .c (.s (.b (decide (i20_5 < ((([] ++ l1).length : Nat) : Int))))))], [], [⟨(.ro false), 45, 1, l0.length, .w l0⟩, ⟨(.ro false), 45, 1, l1.length, .w l1⟩, ⟨.row, 45, 1, ([] ++ l1).length, .w w7_5⟩, ⟨(.ro true), 45, 1, r49.2.1, .w r49.1⟩, ⟨(.ro true), 45, 1, r55.2.1, .w r55.1⟩, ⟨(.ro true), 45, 1, r55.2.2.2.1, .w r55.2.2.1⟩, ⟨.row, 45, 1, r63.1.length, .w r63.1⟩, ⟨.row, 45, 1, r69.1.length, .w r69.1⟩, ⟨.row, 45, 1, ([] ++ r49.1).length, .w ([] ++ r49.1)⟩]⟩) (by kernel_rfl) allP_nil ?_
                refine W_cond (b := (decide (i20_5 < ((([] ++ l1).length : Nat) : Int)))) (by kernel_rfl) (fun g61 => ?_) (fun g61 => ?_)
                · replace h := bif_t h g61
                  refine W_co [] [0, 1, 5, 7, 8, 10, 11, 12, 13, 14, 15, 16, 17, 18, 20] [0, 1, 2, 3, 4, 5, 6, 7, 8] (s' := ⟨[(0, .c (.wh 0)), (1, .c (.wh 1)), (5, .c (.s (.b r30))), (7, .c (.wh 2)), (8, .c (.wh 3)), (10, .c (.wh 4)), (11, .c (.wh 5)), (12, .c (.s (.er 30 .i64 r55.2.2.2.2))), (13, .c (.wh 6)), (14, .c (.s (.er 30 .i64 r63.2))), (15, .c (.wh 7)), (16, .c (.s (.er 30 .i64 r69.2))), (17, .c (.s (.b false))), (18, .c (.wh 8)), (20, .c (.s (.k .i64 i20_5)))], [], [⟨(.ro false), 45, 1, l0.length, .w l0⟩, ⟨(.ro false), 45, 1, l1.length, .w l1⟩, ⟨.row, 45, 1, ([] ++ l1).length, .w w7_5⟩, ⟨(.ro true), 45, 1, r49.2.1, .w r49.1⟩, ⟨(.ro true), 45, 1, r55.2.1, .w r55.1⟩, ⟨(.ro true), 45, 1, r55.2.2.2.1, .w r55.2.2.1⟩, ⟨.row, 45, 1, r63.1.length, .w r63.1⟩, ⟨.row, 45, 1, r69.1.length, .w r69.1⟩, ⟨.row, 45, 1, ([] ++ r49.1).length, .w ([] ++ r49.1)⟩]⟩) (by kernel_rfl) (W_skip ?_)
                  refine W_seq ?_
                  refine W_block ?_
                  obtain ⟨g51, h⟩ := gd_some h
                  obtain ⟨g52, h⟩ := gd_some h
                  obtain ⟨g53, h⟩ := gd_some h
                  obtain ⟨g54, h⟩ := gd_some h
                  refine W_reg hT ftL_nil [] [] [0, 1, 5, 7, 8, 10, 11, 12, 13, 14, 15, 16, 17, 18, 20] [0, 1, 2, 3, 4, 5, 6, 7, 8] (s' := ⟨[(0, .c (.wh 0)), (1, .c (.wh 1)), (5, .c (.s (.b r30))), (7, .c (.wh 2)), (8, .c (.wh 3)), (10, .c (.wh 4)), (11, .c (.wh 5)), (12, .c (.s (.er 30 .i64 r55.2.2.2.2))), (13, .c (.wh 6)), (14, .c (.s (.er 30 .i64 r63.2))), (15, .c (.wh 7)), (16, .c (.s (.er 30 .i64 r69.2))), (17, .c (.s (.b false))), (18, .c (.wh 8)), (20, .c (.s (.k .i64 i20_5)))], [], [⟨(.ro false), 45, 1, l0.length, .w l0⟩, ⟨(.ro false), 45, 1, l1.length, .w l1⟩, ⟨.row, 45, 1, ([] ++ l1).length, .w (w7_5.set i20_5.toNat ((w7_5.getD i20_5.toNat 0) + (1 : UInt32)))⟩, ⟨(.ro true), 45, 1, r49.2.1, .w r49.1⟩, ⟨(.ro true), 45, 1, r55.2.1, .w r55.1⟩, ⟨(.ro true), 45, 1, r55.2.2.2.1, .w r55.2.2.1⟩, ⟨.row, 45, 1, r63.1.length, .w r63.1⟩, ⟨.row, 45, 1, r69.1.length, .w r69.1⟩, ⟨.row, 45, 1, ([] ++ r49.1).length, .w ([] ++ r49.1)⟩]⟩) (by kernel_rfl) (allP_cons.2 ⟨g51, (allP_cons.2 ⟨g52, (allP_cons.2 ⟨g53, (allP_cons.2 ⟨g54, allP_nil⟩)⟩)⟩)⟩) ?_
                  obtain ⟨g55, h⟩ := gd_some h
                  refine W_reg hT ftL_nil [] [] [0, 1, 5, 7, 8, 10, 11, 12, 13, 14, 15, 16, 17, 18, 20] [0, 1, 2, 3, 4, 5, 6, 7, 8] (s' := (lStays_l4_E l0 l1 r30 r49 r55 r63 r69 (w7_5.set i20_5.toNat ((w7_5.getD i20_5.toNat 0) + (1 : UInt32))) (i20_5 + 1))) (by kernel_rfl) (allP_cons.2 ⟨g55, allP_nil⟩) ?_
                  exact lStays_l4_M h
                · replace h := bif_f h g61
                  refine W_co [] [0, 1, 5, 8, 10, 11, 12, 13, 14, 15, 16, 17, 18] [0, 1, 3, 4, 5, 6, 7, 8] (s' := ⟨[(0, .c (.wh 0)), (1, .c (.wh 1)), (5, .c (.s (.b r30))), (8, .c (.wh 2)), (10, .c (.wh 3)), (11, .c (.wh 4)), (12, .c (.s (.er 30 .i64 r55.2.2.2.2))), (13, .c (.wh 5)), (14, .c (.s (.er 30 .i64 r63.2))), (15, .c (.wh 6)), (16, .c (.s (.er 30 .i64 r69.2))), (17, .c (.s (.b false))), (18, .c (.wh 7))], [], [⟨(.ro false), 45, 1, l0.length, .w l0⟩, ⟨(.ro false), 45, 1, l1.length, .w l1⟩, ⟨(.ro true), 45, 1, r49.2.1, .w r49.1⟩, ⟨(.ro true), 45, 1, r55.2.1, .w r55.1⟩, ⟨(.ro true), 45, 1, r55.2.2.2.1, .w r55.2.2.1⟩, ⟨.row, 45, 1, r63.1.length, .w r63.1⟩, ⟨.row, 45, 1, r69.1.length, .w r69.1⟩, ⟨.row, 45, 1, ([] ++ r49.1).length, .w ([] ++ r49.1)⟩]⟩) (by kernel_rfl) (W_exit ?_)
                  refine W_seq ?_
                  obtain ⟨r114, g56, h⟩ := bind_some' h
                  refine W_reg hT (ftL_cons (k := 2) (f := 26) (F := (pAdd_ct n r114)) (pAdd_ok n r114) (fun _ _ => True.intro) ftL_nil) [] [] [0, 1, 5, 8, 10, 11, 12, 13, 14, 15, 16, 17, 18, 21] [0, 1, 2, 3, 4, 5, 6, 7, 8] (s' := ⟨[(0, .c (.wh 0)), (1, .c (.wh 1)), (5, .c (.s (.b r30))), (8, .c (.wh 2)), (10, .c (.wh 3)), (11, .c (.wh 4)), (12, .c (.s (.er 30 .i64 r55.2.2.2.2))), (13, .c (.wh 5)), (14, .c (.s (.er 30 .i64 r63.2))), (15, .c (.wh 6)), (16, .c (.s (.er 30 .i64 r69.2))), (17, .c (.s (.b false))), (18, .c (.wh 7)), (21, .c (.wh 8))], [], [⟨(.ro false), 45, 1, l0.length, .w l0⟩, ⟨(.ro false), 45, 1, l1.length, .w l1⟩, ⟨(.ro true), 45, 1, r49.2.1, .w r49.1⟩, ⟨(.ro true), 45, 1, r55.2.1, .w r55.1⟩, ⟨(.ro true), 45, 1, r55.2.2.2.1, .w r55.2.2.1⟩, ⟨.row, 45, 1, r63.1.length, .w r63.1⟩, ⟨.row, 45, 1, r69.1.length, .w r69.1⟩, ⟨.row, 45, 1, ([] ++ r49.1).length, .w ([] ++ r49.1)⟩, ⟨(.ro true), 45, 1, r114.2.1, .w r114.1⟩]⟩) (by kernel_rfl) (allP_cons.2 ⟨g56, allP_nil⟩) ?_
                  refine W_seq ?_
                  obtain ⟨r120, g57, h⟩ := bind_some' h
                  refine W_reg hT (ftL_cons (k := 2) (f := 13) (F := (pDiv_ct n r120)) (pDiv_ok n r120) (fun _ _ => True.intro) ftL_nil) [] [] [0, 1, 5, 8, 10, 11, 12, 13, 14, 15, 16, 17, 18, 21, 23, 24, 25] [0, 1, 2, 3, 4, 5, 6, 7, 8, 9, 10] (s' := ⟨[(0, .c (.wh 0)), (1, .c (.wh 1)), (5, .c (.s (.b r30))), (8, .c (.wh 2)), (10, .c (.wh 3)), (11, .c (.wh 4)), (12, .c (.s (.er 30 .i64 r55.2.2.2.2))), (13, .c (.wh 5)), (14, .c (.s (.er 30 .i64 r63.2))), (15, .c (.wh 6)), (16, .c (.s (.er 30 .i64 r69.2))), (17, .c (.s (.b false))), (18, .c (.wh 7)), (21, .c (.wh 8)), (23, .c (.wh 9)), (24, .c (.wh 10)), (25, .c (.s (.er 30 .i64 r120.2.2.2.2)))], [], [⟨(.ro false), 45, 1, l0.length, .w l0⟩, ⟨(.ro false), 45, 1, l1.length, .w l1⟩, ⟨(.ro true), 45, 1, r49.2.1, .w r49.1⟩, ⟨(.ro true), 45, 1, r55.2.1, .w r55.1⟩, ⟨(.ro true), 45, 1, r55.2.2.2.1, .w r55.2.2.1⟩, ⟨.row, 45, 1, r63.1.length, .w r63.1⟩, ⟨.row, 45, 1, r69.1.length, .w r69.1⟩, ⟨.row, 45, 1, ([] ++ r49.1).length, .w ([] ++ r49.1)⟩, ⟨(.ro true), 45, 1, r114.2.1, .w r114.1⟩, ⟨(.ro true), 45, 1, r120.2.1, .w r120.1⟩, ⟨(.ro true), 45, 1, r120.2.2.2.1, .w r120.2.2.1⟩]⟩) (by kernel_rfl) (allP_cons.2 ⟨g57, allP_nil⟩) ?_
                  refine W_seq ?_
                  obtain ⟨r128, g58, h⟩ := bind_some' h
                  refine W_reg hT (ftL_cons (k := 3) (f := 18) (F := (pExp_ct n r128)) (pExp_ok n r128) (fun _ _ => True.intro) ftL_nil) [] [] [0, 1, 5, 8, 10, 11, 12, 13, 14, 15, 16, 17, 18, 21, 23, 24, 25, 26, 27] [0, 1, 2, 3, 4, 5, 6, 7, 8, 9, 10, 12] (s' := ⟨[(0, .c (.wh 0)), (1, .c (.wh 1)), (5, .c (.s (.b r30))), (8, .c (.wh 2)), (10, .c (.wh 3)), (11, .c (.wh 4)), (12, .c (.s (.er 30 .i64 r55.2.2.2.2))), (13, .c (.wh 5)), (14, .c (.s (.er 30 .i64 r63.2))), (15, .c (.wh 6)), (16, .c (.s (.er 30 .i64 r69.2))), (17, .c (.s (.b false))), (18, .c (.wh 7)), (21, .c (.wh 8)), (23, .c (.wh 9)), (24, .c (.wh 10)), (25, .c (.s (.er 30 .i64 r120.2.2.2.2))), (26, .c (.wh 11)), (27, .c (.s (.er 30 .i64 r128.2)))], [], [⟨(.ro false), 45, 1, l0.length, .w l0⟩, ⟨(.ro false), 45, 1, l1.length, .w l1⟩, ⟨(.ro true), 45, 1, r49.2.1, .w r49.1⟩, ⟨(.ro true), 45, 1, r55.2.1, .w r55.1⟩, ⟨(.ro true), 45, 1, r55.2.2.2.1, .w r55.2.2.1⟩, ⟨.row, 45, 1, r63.1.length, .w r63.1⟩, ⟨.row, 45, 1, r69.1.length, .w r69.1⟩, ⟨.row, 45, 1, ([] ++ r49.1).length, .w ([] ++ r49.1)⟩, ⟨(.ro true), 45, 1, r114.2.1, .w r114.1⟩, ⟨(.ro true), 45, 1, r120.2.1, .w r120.1⟩, ⟨(.ro true), 45, 1, r120.2.2.2.1, .w r120.2.2.1⟩, ⟨.row, 45, 1, r128.1.length, .w r128.1⟩]⟩) (by kernel_rfl) (allP_cons.2 ⟨g58, allP_nil⟩) ?_
                  refine W_seq ?_
                  obtain ⟨r134, g59, h⟩ := bind_some' h
                  refine W_reg hT (ftL_cons (k := 2) (f := 20) (F := (pInv_ct n r134)) (pInv_ok n r134) (fun _ _ => True.intro) ftL_nil) [] [] [5, 8, 10, 11, 12, 13, 14, 15, 16, 17, 18, 21, 23, 24, 25, 26, 27, 28, 29] [2, 3, 4, 5, 6, 7, 8, 9, 10, 11, 12] (s' := ⟨[(5, .c (.s (.b r30))), (8, .c (.wh 0)), (10, .c (.wh 1)), (11, .c (.wh 2)), (12, .c (.s (.er 30 .i64 r55.2.2.2.2))), (13, .c (.wh 3)), (14, .c (.s (.er 30 .i64 r63.2))), (15, .c (.wh 4)), (16, .c (.s (.er 30 .i64 r69.2))), (17, .c (.s (.b false))), (18, .c (.wh 5)), (21, .c (.wh 6)), (23, .c (.wh 7)), (24, .c (.wh 8)), (25, .c (.s (.er 30 .i64 r120.2.2.2.2))), (26, .c (.wh 9)), (27, .c (.s (.er 30 .i64 r128.2))), (28, .c (.wh 10)), (29, .c (.s (.er 30 .i64 r134.2)))], [], [⟨(.ro true), 45, 1, r49.2.1, .w r49.1⟩, ⟨(.ro true), 45, 1, r55.2.1, .w r55.1⟩, ⟨(.ro true), 45, 1, r55.2.2.2.1, .w r55.2.2.1⟩, ⟨.row, 45, 1, r63.1.length, .w r63.1⟩, ⟨.row, 45, 1, r69.1.length, .w r69.1⟩, ⟨.row, 45, 1, ([] ++ r49.1).length, .w ([] ++ r49.1)⟩, ⟨(.ro true), 45, 1, r114.2.1, .w r114.1⟩, ⟨(.ro true), 45, 1, r120.2.1, .w r120.1⟩, ⟨(.ro true), 45, 1, r120.2.2.2.1, .w r120.2.2.1⟩, ⟨.row, 45, 1, r128.1.length, .w r128.1⟩, ⟨.row, 45, 1, r134.1.length, .w r134.1⟩]⟩) (by kernel_rfl) (allP_cons.2 ⟨g59, allP_nil⟩) ?_
                  refine W_seq ?_
                  rcases Bool.eq_false_or_eq_true r30 with g60 | g60
                  · replace h := bif_t h g60
                    refine W_regD hT ftL_nil (by kernel_rfl) 53 [(1, true)] [(185, false), (187, false), (189, false)] [] [4] [] (s' := ⟨[(4, .c (.s (.b false)))], [], []⟩) (by kernel_rfl) (by kernel_rfl) (allP_cons.2 ⟨g60, allP_nil⟩) ?_
                    refine W_co [] [4] [] (s' := (lStays_R false)) (by kernel_rfl) (W_ret ?_)
                    exact ⟨.inl rfl, by cases h; rfl⟩
                  · replace h := bif_f h g60
                    refine W_regD hT ftL_nil (by kernel_rfl) 53 [(1, false)] [(185, false), (187, false), (189, false)] [] [4] [] (s' := ⟨[(4, .c (.s (.b false)))], [], []⟩) (by kernel_rfl) (by kernel_rfl) (allP_cons.2 ⟨g60, allP_nil⟩) ?_
                    refine W_co [] [4] [] (s' := (lStays_R false)) (by kernel_rfl) (W_ret ?_)
                    exact ⟨.inl rfl, by cases h; rfl⟩
  · rintro e s' ⟨he, rfl⟩
    refine ⟨he, fun a' w' hr => ?_⟩
    exact retS_ok tabO_nvstays hr (rs := [.tmp 4]) rfl (objs := []) (by kernel_rfl)
end Go.Proofs.Ytpinmaodpfoinaa
