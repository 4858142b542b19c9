import Derived.Test.YtliilihbnhdemaaZ2
import Derived.Test.YtliilihbnhdemaaProg
import Derived.Shelf.RegionOpenPlain
import Derived.WalkKit
import Derived.Lib.Walk
import Derived.Lib.SliceRun
import Derived.Lib.AppendZerosOnto
import Derived.Lib.Strings
import Derived.Lib.Bytealg
import Derived.Lib.BytesEntry
import Derived.BigCall
set_option linter.unusedVariables false
set_option linter.unusedSimpArgs false
section
namespace Go.Proofs.Ytliilihbnhdemaa
open Go.RowKit Go.Ch Go.Sx
def tabL_pr : List (TypeId × Ti) := [(2, ⟨.int .i64, 1, 8, true, some [.int .i64]⟩),
 (3, ⟨.int .i64, 1, 8, true, some [.int .i64]⟩),
 (5, ⟨.int .u8, 1, 1, true, some [.int .u8]⟩),
 (9, ⟨.str, 1, 16, true, some [.str]⟩),
 (22, ⟨.sl 5, 1, 24, false, some [.nils]⟩),
 (28, ⟨.ifc, 1, 16, true, some [.ifc]⟩),
 (31, ⟨.int .i64, 1, 8, true, some [.int .i64]⟩),
 (34, ⟨.st [(3, 0), (3, 1), (3, 2), (3, 3), (3, 4), (3, 5)], 6, 48, true, some [.int .i64, .int .i64, .int .i64, .int .i64, .int .i64, .int .i64]⟩),
 (60, ⟨.sl 89, 1, 24, false, some [.nils]⟩),
 (76, ⟨.sl 3, 1, 24, false, some [.nils]⟩),
 (89, ⟨.int .u32, 1, 4, true, some [.int .u32]⟩),
 (91, ⟨.int .i8, 1, 1, true, some [.int .i8]⟩),
 (102, ⟨.int .u64, 1, 8, true, some [.int .u64]⟩)]
def tab_pr : Tab := fun t => (tabL_pr).lookup t
theorem tabE_pr : (tabL_pr.map fun p => tiOf Try.prog p.1) = tabL_pr.map fun p => some p.2 := by kernel_rfl
theorem tabO_pr : TabOk Try.prog tab_pr := tab_of tabE_pr
def pspare (n : Nat) (a0 : List UInt8) : Option (Bool) :=
 gd (0 ≤ (0 : Int)) <|
 gd ((0 : Int) < ((a0.length : Nat) : Int)) <|
 bif ((a0.getD 0 0) == 0) then
 gd (0 ≤ (1 : Int)) <|
 gd ((1 : Int) < ((a0.length : Nat) : Int)) <|
 bif (decide ((a0.getD 1 0) < (128 : UInt8))) then
 some true
 else
 gd (0 ≤ (0 : Int)) <|
 gd ((0 : Int) < ((a0.length : Nat) : Int)) <|
 bif ((a0.getD 0 0) == 255) then
 gd (0 ≤ (1 : Int)) <|
 gd ((1 : Int) < ((a0.length : Nat) : Int)) <|
 some (decide ((128 : UInt8) ≤ (a0.getD 1 0)))
 else
 some false
 else
 gd (0 ≤ (0 : Int)) <|
 gd ((0 : Int) < ((a0.length : Nat) : Int)) <|
 bif ((a0.getD 0 0) == 255) then
 gd (0 ≤ (1 : Int)) <|
 gd ((1 : Int) < ((a0.length : Nat) : Int)) <|
 some (decide ((128 : UInt8) ≤ (a0.getD 1 0)))
 else
 some false
def pReadInt_l1 (n : Nat) (a0 : List UInt8) : Nat → Int → Int → Option (Int × Option Int)
 | 0, _, _ => none
 | fu_l1 + 1, i4_2, i34_2 =>
 bif (decide (i34_2 < (((a0.length - 1) : Nat) : Int))) then
 gd (0 ≤ i34_2) <|
 gd (i34_2 < (((a0.length - 1) : Nat) : Int)) <|
 gd (0 ≤ (8 : Int)) <|
 gd ((8 : Int) ≤ (((IntKind.i64).bits : Nat) : Int)) <|
 gd (okI .i64 (i4_2 * 2 ^ 8)) <|
 gd (okI .i64 (i34_2 + 1)) <|
 (pReadInt_l1 n a0 fu_l1) (bitI .or .i64 (i4_2 * 2 ^ 8) (((((a0.drop 1).take (a0.length - 1)).getD i34_2.toNat 0).toNat : Nat) : Int)) (i34_2 + 1)
 else
 some (i4_2, none)
def pReadInt_l2 (n : Nat) (a0 : List UInt8) : Nat → Int → Int → Option (Int × Option Int)
 | 0, _, _ => none
 | fu_l2 + 1, i4_3, i34_3 =>
 bif (decide (i34_3 < (((a0.length - 1) : Nat) : Int))) then
 gd (0 ≤ i34_3) <|
 gd (i34_3 < (((a0.length - 1) : Nat) : Int)) <|
 gd (0 ≤ (8 : Int)) <|
 gd ((8 : Int) ≤ (((IntKind.i64).bits : Nat) : Int)) <|
 gd (okI .i64 (i4_3 * 2 ^ 8)) <|
 gd (okI .i64 (i34_3 + 1)) <|
 (pReadInt_l2 n a0 fu_l2) (bitI .or .i64 (i4_3 * 2 ^ 8) (((((a0.drop 1).take (a0.length - 1)).getD i34_3.toNat 0).toNat : Nat) : Int)) (i34_3 + 1)
 else
 some (i4_3, none)
def pReadInt (n : Nat) (a0 : List UInt8) : Option (Int × Option Int) :=
 bif (((a0.length : Nat) : Int) == 0) then
  some (0, (some 2))
 else
  bif (decide ((1 : Int) < ((a0.length : Nat) : Int))) then
   (pspare n a0).bind fun r17 =>
   bif r17 then
    some (0, (some 2))
   else
    bif (decide ((8 : Int) < ((a0.length : Nat) : Int))) then
     some (0, (some 4))
    else
     gd (0 ≤ (0 : Int)) <|
     gd ((0 : Int) < ((a0.length : Nat) : Int)) <|
     gd (okI .i64 (IntKind.i8.wrap (((a0.getD 0 0).toNat : Nat) : Int))) <|
     gd (0 ≤ (1 : Int)) <|
     gd ((1 : Int) ≤ ((a0.length : Nat) : Int)) <|
     pReadInt_l1 n a0 n (IntKind.i8.wrap (((a0.getD 0 0).toNat : Nat) : Int)) 0
  else
   bif (decide ((8 : Int) < ((a0.length : Nat) : Int))) then
    some (0, (some 4))
   else
    gd (0 ≤ (0 : Int)) <|
    gd ((0 : Int) < ((a0.length : Nat) : Int)) <|
    gd (okI .i64 (IntKind.i8.wrap (((a0.getD 0 0).toNat : Nat) : Int))) <|
    gd (0 ≤ (1 : Int)) <|
    gd ((1 : Int) ≤ ((a0.length : Nat) : Int)) <|
    pReadInt_l2 n a0 n (IntKind.i8.wrap (((a0.getD 0 0).toNat : Nat) : Int)) 0
def pident (n : Nat) (a0 : List UInt32) : Option (Bool) :=
 bif (decide (((a0.length : Nat) : Int) < (2 : Int))) then
 some false
 else
 bif (decide ((16 : Int) < ((a0.length : Nat) : Int))) then
 some false
 else
 gd (0 ≤ (0 : Int)) <|
 gd ((0 : Int) < ((a0.length : Nat) : Int)) <|
 bif (decide ((2 : UInt32) < (a0.getD 0 0))) then
 some false
 else
 gd (0 ≤ (0 : Int)) <|
 gd ((0 : Int) < ((a0.length : Nat) : Int)) <|
 bif (decide ((a0.getD 0 0) < (2 : UInt32))) then
 gd (0 ≤ (1 : Int)) <|
 gd ((1 : Int) < ((a0.length : Nat) : Int)) <|
 some (decide ((a0.getD 1 0) < (40 : UInt32)))
 else
 gd (0 ≤ (1 : Int)) <|
 gd ((1 : Int) < ((a0.length : Nat) : Int)) <|
 some (decide ((((a0.getD 1 0).toUInt64) + (80 : UInt64)) < (4294967296 : UInt64)))
def pOid_l1 (n : Nat) (a0 : List UInt32) : Nat → List UInt8 → Int → Option (List UInt8 × Option Int)
 | 0, _, _ => none
 | fu_l1 + 1, l4_1, i23_1 =>
 bif (decide (i23_1 < (((a0.length - 2) : Nat) : Int))) then
 gd (0 ≤ i23_1) <|
 gd (i23_1 < (((a0.length - 2) : Nat) : Int)) <|
 gd (rmB (l4_1.length + ((grp (((a0.drop 2).take (a0.length - 2)).getD i23_1.toNat 0)).length)) 1) <|
 gd (okI .i64 (i23_1 + 1)) <|
 (pOid_l1 n a0 fu_l1) (l4_1 ++ (grp (((a0.drop 2).take (a0.length - 2)).getD i23_1.toNat 0))) (i23_1 + 1)
 else
 some (l4_1, none)
def pOid (n : Nat) (a0 : List UInt32) : Option (List UInt8 × Option Int) :=
 (pident n a0).bind fun r8 =>
 bif (!r8) then
  some ([], (some 1))
 else
  gd (0 ≤ (0 : Int)) <|
  gd ((0 : Int) < ((a0.length : Nat) : Int)) <|
  gd (0 ≤ (1 : Int)) <|
  gd ((1 : Int) < ((a0.length : Nat) : Int)) <|
  gd (0 ≤ (2 : Int)) <|
  gd ((2 : Int) ≤ ((a0.length : Nat) : Int)) <|
  pOid_l1 n a0 n (grp (((40 : UInt32) * (a0.getD 0 0)) + (a0.getD 1 0))) 0
def pleap (n : Nat) (a0 : Int) : Option (Bool) :=
 gd ((4 : Int) ≠ 0) <|
 bif ((Int.tmod a0 4) == 0) then
 gd ((100 : Int) ≠ 0) <|
 bif ((Int.tmod a0 100) != 0) then
 some true
 else
 gd ((400 : Int) ≠ 0) <|
 some ((Int.tmod a0 400) == 0)
 else
 some false
def pdays_j1 (n : Nat) (a0 : Int) (a1 : Int) (p6_1 : Bool) : Option (Int) :=
 bif p6_1 then
  some 30
 else
  bif (a1 == 2) then
   (pleap n a0).bind fun r14 =>
   bif r14 then
    some 29
   else
    some 28
  else
   some 31
def pdays (n : Nat) (a0 : Int) (a1 : Int) : Option (Int) :=
 bif (a1 == 4) then
 pdays_j1 n a0 a1 (a1 == 4)
 else
 bif (a1 == 6) then
 pdays_j1 n a0 a1 (a1 == 6)
 else
 bif (a1 == 9) then
 pdays_j1 n a0 a1 (a1 == 9)
 else
 pdays_j1 n a0 a1 (a1 == 11)
def pvalid (n : Nat) (a0_0 : Int) (a0_1 : Int) (a0_2 : Int) (a0_3 : Int) (a0_4 : Int) (a0_5 : Int) : Option (Bool) :=
 bif (decide (a0_0 < (1 : Int))) then
  some false
 else
  bif (decide ((9999 : Int) < a0_0)) then
   some false
  else
   bif (decide (a0_1 < (1 : Int))) then
    some false
   else
    bif (decide ((12 : Int) < a0_1)) then
     some false
    else
     bif (decide (a0_2 < (1 : Int))) then
      some false
     else
      (pdays n a0_0 a0_1).bind fun r33 =>
      bif (decide (r33 < a0_2)) then
       some false
      else
       bif (decide ((0 : Int) ≤ a0_3)) then
        bif (decide (a0_3 ≤ (23 : Int))) then
         bif (decide ((0 : Int) ≤ a0_4)) then
          bif (decide (a0_4 ≤ (59 : Int))) then
           bif (decide ((0 : Int) ≤ a0_5)) then
            some (decide (a0_5 ≤ (59 : Int)))
           else
            some false
          else
           some false
         else
          some false
        else
         some false
       else
        some false
def pTime_l1 (n : Nat) (b5_1 : UInt8) (z6_1 : List Int) (m6_1 : Nat) : Nat → List UInt8 → Int → Option (UInt8 × List UInt8 × Option Int)
 | 0, _, _ => none
 | fu_l1 + 1, l7_1, i43_1 =>
 bif (decide (i43_1 < ((m6_1 : Nat) : Int))) then
 gd (0 ≤ i43_1) <|
 gd (i43_1 < ((m6_1 : Nat) : Int)) <|
 gd ((10 : Int) ≠ 0) <|
 gd (okI .i64 (Int.tdiv (z6_1.getD i43_1.toNat 0) 10)) <|
 gd (okI .i64 (48 + (Int.tdiv (z6_1.getD i43_1.toNat 0) 10))) <|
 gd ((10 : Int) ≠ 0) <|
 gd (okI .i64 (48 + (Int.tmod (z6_1.getD i43_1.toNat 0) 10))) <|
 gd (rmB (l7_1.length + 2) 1) <|
 gd (okI .i64 (i43_1 + 1)) <|
 (pTime_l1 n b5_1 z6_1 m6_1 fu_l1) (l7_1 ++ [(UInt8.ofInt (48 + (Int.tdiv (z6_1.getD i43_1.toNat 0) 10))), (UInt8.ofInt (48 + (Int.tmod (z6_1.getD i43_1.toNat 0) 10)))]) (i43_1 + 1)
 else
 gd (rmB (l7_1.length + 1) 1) <|
 some (b5_1, (l7_1 ++ [90]), none)
def pTime_j1 (n : Nat) (b5_1 : UInt8) (z6_1 : List Int) (m6_1 : Nat) : Option (UInt8 × List UInt8 × Option Int) :=
 pTime_l1 n b5_1 z6_1 m6_1 n [] 0
def pTime (n : Nat) (a0_0 : Int) (a0_1 : Int) (a0_2 : Int) (a0_3 : Int) (a0_4 : Int) (a0_5 : Int) : Option (UInt8 × List UInt8 × Option Int) :=
 (pvalid n a0_0 a0_1 a0_2 a0_3 a0_4 a0_5).bind fun r11 =>
 bif (!r11) then
  some (0, [], (some 1))
 else
  gd ((100 : Int) ≠ 0) <|
  gd (okI .i64 (Int.tdiv a0_0 100)) <|
  gd ((100 : Int) ≠ 0) <|
  bif (decide ((1950 : Int) ≤ a0_0)) then
   bif (decide (a0_0 < (2050 : Int))) then
    gd (0 ≤ (1 : Int)) <|
    gd ((1 : Int) ≤ (7 : Int)) <|
    pTime_j1 n 23 (([(Int.tdiv a0_0 100), (Int.tmod a0_0 100), a0_1, a0_2, a0_3, a0_4, a0_5].drop 1).take 6) 6
   else
    pTime_j1 n 24 [(Int.tdiv a0_0 100), (Int.tmod a0_0 100), a0_1, a0_2, a0_3, a0_4, a0_5] 7
  else
   pTime_j1 n 24 [(Int.tdiv a0_0 100), (Int.tmod a0_0 100), a0_1, a0_2, a0_3, a0_4, a0_5] 7
def pahead (n : Nat) (a0 : Int) : Option (Int) :=
 gd (okI .i64 (a0 - 1)) <|
 gd (okI .i64 (365 * (a0 - 1))) <|
 gd ((4 : Int) ≠ 0) <|
 gd (okI .i64 (Int.tdiv (a0 - 1) 4)) <|
 gd (okI .i64 ((365 * (a0 - 1)) + (Int.tdiv (a0 - 1) 4))) <|
 gd ((100 : Int) ≠ 0) <|
 gd (okI .i64 (Int.tdiv (a0 - 1) 100)) <|
 gd (okI .i64 (((365 * (a0 - 1)) + (Int.tdiv (a0 - 1) 4)) - (Int.tdiv (a0 - 1) 100))) <|
 gd ((400 : Int) ≠ 0) <|
 gd (okI .i64 (Int.tdiv (a0 - 1) 400)) <|
 gd (okI .i64 ((((365 * (a0 - 1)) + (Int.tdiv (a0 - 1) 4)) - (Int.tdiv (a0 - 1) 100)) + (Int.tdiv (a0 - 1) 400))) <|
 some ((((365 * (a0 - 1)) + (Int.tdiv (a0 - 1) 4)) - (Int.tdiv (a0 - 1) 100)) + (Int.tdiv (a0 - 1) 400))
def pCount_l1 (n : Nat) (a0_0 : Int) (a0_1 : Int) (a0_2 : Int) (a0_3 : Int) (a0_4 : Int) (a0_5 : Int) : Nat → Int → Int → Option (Int × Option Int)
 | 0, _, _ => none
 | fu_l1 + 1, i4_1, i5_1 =>
  bif (decide (i5_1 < a0_1)) then
   (pdays n a0_0 i5_1).bind fun r27_2 =>
   gd (okI .i64 (i4_1 + r27_2)) <|
   gd (okI .i64 (i5_1 + 1)) <|
   (pCount_l1 n a0_0 a0_1 a0_2 a0_3 a0_4 a0_5 fu_l1) (i4_1 + r27_2) (i5_1 + 1)
  else
   gd (okI .i64 (i4_1 * 86400)) <|
   gd (okI .i64 (a0_3 * 3600)) <|
   gd (okI .i64 (a0_4 * 60)) <|
   gd (okI .i64 ((a0_3 * 3600) + (a0_4 * 60))) <|
   gd (okI .i64 (((a0_3 * 3600) + (a0_4 * 60)) + a0_5)) <|
   gd (okI .i64 ((i4_1 * 86400) + (((a0_3 * 3600) + (a0_4 * 60)) + a0_5))) <|
   some (((i4_1 * 86400) + (((a0_3 * 3600) + (a0_4 * 60)) + a0_5)), none)
def pCount (n : Nat) (a0_0 : Int) (a0_1 : Int) (a0_2 : Int) (a0_3 : Int) (a0_4 : Int) (a0_5 : Int) : Option (Int × Option Int) :=
 (pvalid n a0_0 a0_1 a0_2 a0_3 a0_4 a0_5).bind fun r7 =>
 bif (!r7) then
  some (0, (some 1))
 else
  (pahead n a0_0).bind fun r12 =>
  gd (okI .i64 (a0_2 - 1)) <|
  gd (okI .i64 (r12 + (a0_2 - 1))) <|
  pCount_l1 n a0_0 a0_1 a0_2 a0_3 a0_4 a0_5 n (r12 + (a0_2 - 1)) 1
def pInt_j1 (n : Nat) (l3_6 : List UInt8) (m3_4 : Nat) : Option (List UInt8) :=
 gd ((l3_6).length ≤ 1000000000000) <|
 some l3_6
def pInt_l2 (n : Nat) : Nat → List UInt8 → Nat → Option (List UInt8)
 | 0, _, _ => none
 | fu_l2 + 1, l3_7, m3_5 =>
  bif (decide ((1 : Int) < ((m3_5 : Nat) : Int))) then
   (pspare n l3_7).bind fun r21_5 =>
   bif r21_5 then
    gd (0 ≤ (1 : Int)) <|
    gd ((1 : Int) ≤ ((m3_5 : Nat) : Int)) <|
    (pInt_l2 n fu_l2) ((l3_7.drop 1).take (m3_5 - 1)) (m3_5 - 1)
   else
    pInt_j1 n l3_7 m3_5
  else
   pInt_j1 n l3_7 m3_5
def pInt_l1 (n : Nat) (a0 : Int) : Nat → List UInt8 → Int → Option (List UInt8)
 | 0, _, _ => none
 | fu_l1 + 1, l3_4, i4_1 =>
 bif (decide ((0 : Int) ≤ i4_1)) then
 gd (0 ≤ i4_1) <|
 gd (i4_1 ≤ (((IntKind.i64).bits : Nat) : Int)) <|
 gd (rmB (l3_4.length + 1) 1) <|
 gd (okI .i64 (i4_1 - 8)) <|
 (pInt_l1 n a0 fu_l1) (l3_4 ++ [(UInt8.ofInt (a0 / 2 ^ i4_1.toNat))]) (i4_1 - 8)
 else
 pInt_l2 n n l3_4 l3_4.length
def pInt (n : Nat) (a0 : Int) : Option (List UInt8) :=
 pInt_l1 n a0 n [] 56
def pup (n : Nat) : Option (Bool) :=
 (pReadInt n [0, 127]).bind fun r12 =>
 (pOid n [1, 2, 840, 113549]).bind fun r17 =>
 (pTime n 2049 12 31 23 59 59).bind fun r22 =>
 (pCount n 1 1 1 0 0 1).bind fun r28 =>
 (pInt n (-129)).bind fun r31 =>
 bif (r31 == ([255, 127] : List UInt8)) then
  gd (¬((r12.2 : Option Int) = none ∧ ((some 2) : Option Int) = none)) <|
  bif (r12.2 == (some 2)) then
   bif ((r17.2).isNone) then
    bif (r17.1 == ([42, 134, 72, 134, 247, 13] : List UInt8)) then
     bif ((r22.2.2).isNone) then
      bif (r22.1 == 23) then
       bif (r22.2.1 == ([52, 57, 49, 50, 51, 49, 50, 51, 53, 57, 53, 57, 90] : List UInt8)) then
        bif ((r28.2).isNone) then
         some (r28.1 == 1)
        else
         some false
       else
        some false
      else
       some false
     else
      some false
    else
     some false
   else
    some false
  else
   some false
 else
  some false
def pspare_R (r : Bool) : S := ⟨[(2, kB r)], [], []⟩
def pspare_ct (n : Nat) (r : Bool) : Ct := ctc (rB 5).rd fun _ l0 => ct0 fun H => ([pspare n l0 = some r], shA H.length (kB r), shH H.length [])
theorem pspare_ok (n : Nat) (r : Bool) : FnOk Try.prog Tr 48 (pspare_ct n r) := by
 refine fnok Try.func48 ?_
 refine HO_c (rB 5) fun l0 _ => HO_0 tabO_pr (pspare_R r) [.tmp 2] [] 25 Try.func48 fun w hG h => ?_
 unfold pspare at h
 have hT := tabO_pr
 refine Vrs hT [0] ⟨[(0, kH 0)], [], [ob 5 l0]⟩ ?_
 refine W_seq ?_
 obtain ⟨g1, g2, h⟩ := gd2 h
 rcases Bool.eq_false_or_eq_true ((l0.getD 0 0) == 0) with g3 | g3
 ·replace h := bif_t h g3
  obtain ⟨g4, g5, h⟩ := gd2 h
  rcases Bool.eq_false_or_eq_true (decide ((l0.getD 1 0) < (128 : UInt8))) with g6 | g6
  ·replace h := bif_t h g6
   refine Vg hT fN [(4, true), (10, true)] [] [] ⟨[(2, kB true)], [], []⟩ (aP g1 (aP g2 (aP g3 (aP g4 (aP g5 (aP g6 aN)))))) ?_
   refine Vc [] [] (pspare_R true) (W_ret ?_)
   exact ⟨.inl rfl, by cases h; rfl⟩
  ·replace h := bif_f h g6
   obtain ⟨g7, g8, h⟩ := gd2 h
   rcases Bool.eq_false_or_eq_true ((l0.getD 0 0) == 255) with g9 | g9
   ·replace h := bif_t h g9
    obtain ⟨g10, g11, h⟩ := gd2 h
    refine Vg hT fN [(4, true), (10, false), (15, true)] [] [] ⟨[(2, kB (decide ((128 : UInt8) ≤ (l0.getD 1 0))))], [], []⟩ (aP g1 (aP g2 (aP g3 (aP g4 (aP g5 (aP g6 (aP g7 (aP g8 (aP g9 (aP g10 (aP g11 aN))))))))))) ?_
    refine Vc [] [] (pspare_R (decide ((128 : UInt8) ≤ (l0.getD 1 0)))) (W_ret ?_)
    exact ⟨.inl rfl, by cases h; rfl⟩
   ·replace h := bif_f h g9
    refine Vg hT fN [(4, true), (10, false), (15, false)] [] [] ⟨[(2, kB false)], [], []⟩ (aP g1 (aP g2 (aP g3 (aP g4 (aP g5 (aP g6 (aP g7 (aP g8 (aP g9 aN))))))))) ?_
    refine Vc [] [] (pspare_R false) (W_ret ?_)
    exact ⟨.inl rfl, by cases h; rfl⟩
 ·replace h := bif_f h g3
  obtain ⟨g12, g13, h⟩ := gd2 h
  rcases Bool.eq_false_or_eq_true ((l0.getD 0 0) == 255) with g14 | g14
  ·replace h := bif_t h g14
   obtain ⟨g15, g16, h⟩ := gd2 h
   refine Vg hT fN [(4, false), (15, true)] [] [] ⟨[(2, kB (decide ((128 : UInt8) ≤ (l0.getD 1 0))))], [], []⟩ (aP g1 (aP g2 (aP g3 (aP g12 (aP g13 (aP g14 (aP g15 (aP g16 aN)))))))) ?_
   refine Vc [] [] (pspare_R (decide ((128 : UInt8) ≤ (l0.getD 1 0)))) (W_ret ?_)
   exact ⟨.inl rfl, by cases h; rfl⟩
  ·replace h := bif_f h g14
   refine Vg hT fN [(4, false), (15, false)] [] [] ⟨[(2, kB false)], [], []⟩ (aP g1 (aP g2 (aP g3 (aP g12 (aP g13 (aP g14 aN)))))) ?_
   refine Vc [] [] (pspare_R false) (W_ret ?_)
   exact ⟨.inl rfl, by cases h; rfl⟩
def pReadInt_l1_E (a0 : List UInt8) (i4_2 : Int) (i34_2 : Int) : S := ⟨[(4, kI i4_2), (32, kH 0), (33, kI (((a0.length - 1) : Nat) : Int)), (34, kI i34_2)], [], [⟨(.ro false), 5, 1, (a0.length - 1), .b ((a0.drop 1).take (a0.length - 1))⟩]⟩
abbrev pReadInt_l1_P (n : Nat) (a0 : List UInt8) (r : Int × Option Int) (fu : Nat) : S → Prop := fun s => ∃ (i4_2 : Int), ∃ (i34_2 : Int), s = pReadInt_l1_E a0 i4_2 i34_2 ∧ pReadInt_l1 n a0 fu i4_2 i34_2 = some r
def pReadInt_l2_E (a0 : List UInt8) (i4_3 : Int) (i34_3 : Int) : S := ⟨[(4, kI i4_3), (32, kH 0), (33, kI (((a0.length - 1) : Nat) : Int)), (34, kI i34_3)], [], [⟨(.ro false), 5, 1, (a0.length - 1), .b ((a0.drop 1).take (a0.length - 1))⟩]⟩
abbrev pReadInt_l2_P (n : Nat) (a0 : List UInt8) (r : Int × Option Int) (fu : Nat) : S → Prop := fun s => ∃ (i4_3 : Int), ∃ (i34_3 : Int), s = pReadInt_l2_E a0 i4_3 i34_3 ∧ pReadInt_l2 n a0 fu i4_3 i34_3 = some r
def pReadInt_R (r : Int × Option Int) : S := ⟨[(2, kI r.1), (3, kE 31 r.2)], [], []⟩
def pReadInt_ct (n : Nat) (r : Int × Option Int) : Ct := ctc (rB 5).rd fun _ l0 => ct0 fun H => ([pReadInt n l0 = some r], shA H.length (.t [.c (.s (.k .i64 r.1)), .c (.s (.er 31 .i64 r.2))]), shH H.length [])
theorem pReadInt_ok (n : Nat) (r : Int × Option Int) : FnOk Try.prog Tr 18 (pReadInt_ct n r) := by
 refine fnok Try.func18 ?_
 refine HO_c (rB 5) fun l0 _ => HO_0 tabO_pr (pReadInt_R r) [.tmp 2, .tmp 3] [] 45 Try.func18 fun w hG h => ?_
 unfold pReadInt at h
 have hT := tabO_pr
 refine Vrs hT [0] ⟨[(0, kH 0)], [], [ob 5 l0]⟩ ?_
 refine W_seq ?_
 refine W_block ?_
 refine W_seq ?_
 rcases Bool.eq_false_or_eq_true (((l0.length : Nat) : Int) == 0) with g1 | g1
 ·replace h := bif_t h g1
  refine Vg hT fN [(3, true)] [] [0] ⟨[(0, kH 0), (7, kB true)], [], [ob 5 l0]⟩ (aP g1 aN) ?_
  refine Vi (true) (fun _ => ?_) (fun hb => by cases hb)
  refine Vrs hT [] ⟨[(2, kI 0), (3, kE 31 (some 2))], [], []⟩ ?_
  refine Vc [] [] (pReadInt_R (0, (some 2))) (W_ret ?_)
  exact ⟨.inl rfl, by cases h; rfl⟩
 ·replace h := bif_f h g1
  rcases Bool.eq_false_or_eq_true (decide ((1 : Int) < ((l0.length : Nat) : Int))) with g2 | g2
  ·replace h := bif_t h g2
   obtain ⟨r17, g3, h⟩ := bind_some' h
   refine Vg hT (fT 9 (pspare_ok n r17) fN) [(3, false), (7, true)] [] [0] ⟨[(0, kH 0), (7, kB r17)], [], [ob 5 l0]⟩ (aP g1 (aP g2 (aP g3 aN))) ?_
   refine Vi (r17) (fun g17 => ?_) (fun g17 => ?_)
   ·replace h := bif_t h g17
    refine Vrs hT [] ⟨[(2, kI 0), (3, kE 31 (some 2))], [], []⟩ ?_
    refine Vc [] [] (pReadInt_R (0, (some 2))) (W_ret ?_)
    exact ⟨.inl rfl, by cases h; rfl⟩
   ·replace h := bif_f h g17
    refine Vrs hT [0] ⟨[(0, kH 0), (21, kB (decide ((8 : Int) < ((l0.length : Nat) : Int))))], [], [ob 5 l0]⟩ ?_
    refine Vi ((decide ((8 : Int) < ((l0.length : Nat) : Int)))) (fun g16 => ?_) (fun g16 => ?_)
    ·replace h := bif_t h g16
     refine Vrs hT [] ⟨[(2, kI 0), (3, kE 31 (some 4))], [], []⟩ ?_
     refine Vc [] [] (pReadInt_R (0, (some 4))) (W_ret ?_)
     exact ⟨.inl rfl, by cases h; rfl⟩
    ·replace h := bif_f h g16
     refine W_skip ?_
     obtain ⟨g4, g5, g6, h⟩ := gd3 h
     refine Vgs hT fN [] [] [0] ⟨[(0, kH 0), (4, kI (IntKind.i8.wrap (((l0.getD 0 0).toNat : Nat) : Int)))], [], [ob 5 l0]⟩ (aP g4 (aP g5 (aP g6 aN))) ?_
     refine W_seq ?_
     obtain ⟨g7, g8, h⟩ := gd2 h
     refine Vgs hT fN [] [] [0] ⟨[(4, kI (IntKind.i8.wrap (((l0.getD 0 0).toNat : Nat) : Int))), (32, .c (.sl 0 1 (l0.length - 1))), (33, kI (((l0.length - 1) : Nat) : Int)), (34, kI 0)], [], [ob 5 l0]⟩ (aP g7 (aP g8 aN)) ?_
     refine W_block ?_
     refine Vc [.vw 32 false] [1] (pReadInt_l1_E l0 (IntKind.i8.wrap (((l0.getD 0 0).toNat : Nat) : Int)) 0) (W_lp ((pReadInt_l1_P n l0 r)) n ⟨_, _, rfl, h⟩ ?_)
     rintro fu_l1 _ ⟨i4_2, i34_2, rfl, h⟩
     cases fu_l1 with
     | zero => cases h
     | succ fu_l1 =>
      refine ⟨fu_l1, rfl, ?_⟩
      rw [pReadInt_l1] at h
      refine Vrs hT [0] ⟨[(4, kI i4_2), (32, kH 0), (33, kI (((l0.length - 1) : Nat) : Int)), (34, kI i34_2), (35, kB (decide (i34_2 < (((l0.length - 1) : Nat) : Int))))], [], [⟨(.ro false), 5, 1, (l0.length - 1), .b ((l0.drop 1).take (l0.length - 1))⟩]⟩ ?_
      refine W_seq ?_
      refine Vi ((decide (i34_2 < (((l0.length - 1) : Nat) : Int)))) (fun g15 => ?_) (fun g15 => ?_)
      ·replace h := bif_t h g15
       refine W_skip ?_
       refine W_seq ?_
       refine W_block ?_
       obtain ⟨g9, g10, h⟩ := gd2 h
       refine Vgs hT fN [] [] [0] ⟨[(4, kI i4_2), (6, kU (((l0.drop 1).take (l0.length - 1)).getD i34_2.toNat 0)), (32, kH 0), (33, kI (((l0.length - 1) : Nat) : Int)), (34, kI i34_2)], [], [⟨(.ro false), 5, 1, (l0.length - 1), .b ((l0.drop 1).take (l0.length - 1))⟩]⟩ (aP g9 (aP g10 aN)) ?_
       obtain ⟨g11, g12, g13, h⟩ := gd3 h
       refine Vg hT fN [] [] [0] ⟨[(4, kI (bitI .or .i64 (i4_2 * 2 ^ 8) (((((l0.drop 1).take (l0.length - 1)).getD i34_2.toNat 0).toNat : Nat) : Int))), (32, kH 0), (33, kI (((l0.length - 1) : Nat) : Int)), (34, kI i34_2)], [], [⟨(.ro false), 5, 1, (l0.length - 1), .b ((l0.drop 1).take (l0.length - 1))⟩]⟩ (aP g11 (aP g12 (aP g13 aN))) ?_
       obtain ⟨g14, h⟩ := gd_some h
       refine Vg hT fN [] [] [0] (pReadInt_l1_E l0 (bitI .or .i64 (i4_2 * 2 ^ 8) (((((l0.drop 1).take (l0.length - 1)).getD i34_2.toNat 0).toNat : Nat) : Int)) (i34_2 + 1)) (aP g14 aN) ?_
       exact ⟨_, _, rfl, h⟩
      ·replace h := bif_f h g15
       refine Vc [] [] ⟨[(4, kI i4_2)], [], []⟩ (W_exit ?_)
       refine Vrs hT [] ⟨[(2, kI i4_2), (3, .c (.s (.v .nilIface)))], [], []⟩ ?_
       refine Vc [.er 3 31 .i64] [] (pReadInt_R (i4_2, none)) (W_ret ?_)
       exact ⟨.inl rfl, by cases h; rfl⟩
  ·replace h := bif_f h g2
   refine Vg hT fN [(3, false), (7, false)] [] [0] ⟨[(0, kH 0), (7, kB false)], [], [ob 5 l0]⟩ (aP g1 (aP g2 aN)) ?_
   refine Vi (false) (fun hb => by cases hb) (fun _ => ?_)
   refine Vrs hT [0] ⟨[(0, kH 0), (21, kB (decide ((8 : Int) < ((l0.length : Nat) : Int))))], [], [ob 5 l0]⟩ ?_
   refine Vi ((decide ((8 : Int) < ((l0.length : Nat) : Int)))) (fun g30 => ?_) (fun g30 => ?_)
   ·replace h := bif_t h g30
    refine Vrs hT [] ⟨[(2, kI 0), (3, kE 31 (some 4))], [], []⟩ ?_
    refine Vc [] [] (pReadInt_R (0, (some 4))) (W_ret ?_)
    exact ⟨.inl rfl, by cases h; rfl⟩
   ·replace h := bif_f h g30
    refine W_skip ?_
    obtain ⟨g18, g19, g20, h⟩ := gd3 h
    refine Vgs hT fN [] [] [0] ⟨[(0, kH 0), (4, kI (IntKind.i8.wrap (((l0.getD 0 0).toNat : Nat) : Int)))], [], [ob 5 l0]⟩ (aP g18 (aP g19 (aP g20 aN))) ?_
    refine W_seq ?_
    obtain ⟨g21, g22, h⟩ := gd2 h
    refine Vgs hT fN [] [] [0] ⟨[(4, kI (IntKind.i8.wrap (((l0.getD 0 0).toNat : Nat) : Int))), (32, .c (.sl 0 1 (l0.length - 1))), (33, kI (((l0.length - 1) : Nat) : Int)), (34, kI 0)], [], [ob 5 l0]⟩ (aP g21 (aP g22 aN)) ?_
    refine W_block ?_
    refine Vc [.vw 32 false] [1] (pReadInt_l2_E l0 (IntKind.i8.wrap (((l0.getD 0 0).toNat : Nat) : Int)) 0) (W_lp ((pReadInt_l2_P n l0 r)) n ⟨_, _, rfl, h⟩ ?_)
    rintro fu_l2 _ ⟨i4_3, i34_3, rfl, h⟩
    cases fu_l2 with
    | zero => cases h
    | succ fu_l2 =>
     refine ⟨fu_l2, rfl, ?_⟩
     rw [pReadInt_l2] at h
     refine Vrs hT [0] ⟨[(4, kI i4_3), (32, kH 0), (33, kI (((l0.length - 1) : Nat) : Int)), (34, kI i34_3), (35, kB (decide (i34_3 < (((l0.length - 1) : Nat) : Int))))], [], [⟨(.ro false), 5, 1, (l0.length - 1), .b ((l0.drop 1).take (l0.length - 1))⟩]⟩ ?_
     refine W_seq ?_
     refine Vi ((decide (i34_3 < (((l0.length - 1) : Nat) : Int)))) (fun g29 => ?_) (fun g29 => ?_)
     ·replace h := bif_t h g29
      refine W_skip ?_
      refine W_seq ?_
      refine W_block ?_
      obtain ⟨g23, g24, h⟩ := gd2 h
      refine Vgs hT fN [] [] [0] ⟨[(4, kI i4_3), (6, kU (((l0.drop 1).take (l0.length - 1)).getD i34_3.toNat 0)), (32, kH 0), (33, kI (((l0.length - 1) : Nat) : Int)), (34, kI i34_3)], [], [⟨(.ro false), 5, 1, (l0.length - 1), .b ((l0.drop 1).take (l0.length - 1))⟩]⟩ (aP g23 (aP g24 aN)) ?_
      obtain ⟨g25, g26, g27, h⟩ := gd3 h
      refine Vg hT fN [] [] [0] ⟨[(4, kI (bitI .or .i64 (i4_3 * 2 ^ 8) (((((l0.drop 1).take (l0.length - 1)).getD i34_3.toNat 0).toNat : Nat) : Int))), (32, kH 0), (33, kI (((l0.length - 1) : Nat) : Int)), (34, kI i34_3)], [], [⟨(.ro false), 5, 1, (l0.length - 1), .b ((l0.drop 1).take (l0.length - 1))⟩]⟩ (aP g25 (aP g26 (aP g27 aN))) ?_
      obtain ⟨g28, h⟩ := gd_some h
      refine Vg hT fN [] [] [0] (pReadInt_l2_E l0 (bitI .or .i64 (i4_3 * 2 ^ 8) (((((l0.drop 1).take (l0.length - 1)).getD i34_3.toNat 0).toNat : Nat) : Int)) (i34_3 + 1)) (aP g28 aN) ?_
      exact ⟨_, _, rfl, h⟩
     ·replace h := bif_f h g29
      refine Vc [] [] ⟨[(4, kI i4_3)], [], []⟩ (W_exit ?_)
      refine Vrs hT [] ⟨[(2, kI i4_3), (3, .c (.s (.v .nilIface)))], [], []⟩ ?_
      refine Vc [.er 3 31 .i64] [] (pReadInt_R (i4_3, none)) (W_ret ?_)
      exact ⟨.inl rfl, by cases h; rfl⟩
def pident_R (r : Bool) : S := ⟨[(2, kB r)], [], []⟩
def pident_ct (n : Nat) (r : Bool) : Ct := ctc (rW 89).rd fun _ l0 => ct0 fun H => ([pident n l0 = some r], shA H.length (kB r), shH H.length [])
theorem pident_ok (n : Nat) (r : Bool) : FnOk Try.prog Tr 64 (pident_ct n r) := by
 refine fnok Try.func64 ?_
 refine HO_c (rW 89) fun l0 _ => HO_0 tabO_pr (pident_R r) [.tmp 2] [] 31 Try.func64 fun w hG h => ?_
 unfold pident at h
 have hT := tabO_pr
 refine Vrs hT [0] ⟨[(0, kH 0)], [], [ow 89 l0]⟩ ?_
 refine W_seq ?_
 refine W_seq ?_
 rcases Bool.eq_false_or_eq_true (decide (((l0.length : Nat) : Int) < (2 : Int))) with g1 | g1
 ·replace h := bif_t h g1
  refine Vg hT fN [(3, true)] [] [0] ⟨[(0, kH 0), (16, kB true)], [], [ow 89 l0]⟩ (aP g1 aN) ?_
  refine Vi (true) (fun _ => ?_) (fun hb => by cases hb)
  refine Vrs hT [] ⟨[(2, kB false)], [], []⟩ ?_
  refine Vc [] [] (pident_R false) (W_ret ?_)
  exact ⟨.inl rfl, by cases h; rfl⟩
 ·replace h := bif_f h g1
  rcases Bool.eq_false_or_eq_true (decide ((16 : Int) < ((l0.length : Nat) : Int))) with g2 | g2
  ·replace h := bif_t h g2
   refine Vg hT fN [(3, false), (8, true)] [] [0] ⟨[(0, kH 0), (16, kB true)], [], [ow 89 l0]⟩ (aP g1 (aP g2 aN)) ?_
   refine Vi (true) (fun _ => ?_) (fun hb => by cases hb)
   refine Vrs hT [] ⟨[(2, kB false)], [], []⟩ ?_
   refine Vc [] [] (pident_R false) (W_ret ?_)
   exact ⟨.inl rfl, by cases h; rfl⟩
  ·replace h := bif_f h g2
   obtain ⟨g3, g4, h⟩ := gd2 h
   refine Vg hT fN [(3, false), (8, false)] [] [0] ⟨[(0, kH 0), (16, kB (decide ((2 : UInt32) < (l0.getD 0 0))))], [], [ow 89 l0]⟩ (aP g1 (aP g2 (aP g3 (aP g4 aN)))) ?_
   refine Vi ((decide ((2 : UInt32) < (l0.getD 0 0)))) (fun g12 => ?_) (fun g12 => ?_)
   ·replace h := bif_t h g12
    refine Vrs hT [] ⟨[(2, kB false)], [], []⟩ ?_
    refine Vc [] [] (pident_R false) (W_ret ?_)
    exact ⟨.inl rfl, by cases h; rfl⟩
   ·replace h := bif_f h g12
    refine W_skip ?_
    refine W_seq ?_
    obtain ⟨g5, g6, h⟩ := gd2 h
    refine Vgs hT fN [] [] [0] ⟨[(0, kH 0), (20, kB (decide ((l0.getD 0 0) < (2 : UInt32))))], [], [ow 89 l0]⟩ (aP g5 (aP g6 aN)) ?_
    refine Vi ((decide ((l0.getD 0 0) < (2 : UInt32)))) (fun g11 => ?_) (fun g11 => ?_)
    ·replace h := bif_t h g11
     obtain ⟨g7, g8, h⟩ := gd2 h
     refine Vgs hT fN [] [] [] ⟨[(2, kB (decide ((l0.getD 1 0) < (40 : UInt32))))], [], []⟩ (aP g7 (aP g8 aN)) ?_
     refine Vc [] [] (pident_R (decide ((l0.getD 1 0) < (40 : UInt32)))) (W_ret ?_)
     exact ⟨.inl rfl, by cases h; rfl⟩
    ·replace h := bif_f h g11
     refine W_skip ?_
     obtain ⟨g9, g10, h⟩ := gd2 h
     refine Vgs hT fN [] [] [] ⟨[(2, kB (decide ((((l0.getD 1 0).toUInt64) + (80 : UInt64)) < (4294967296 : UInt64))))], [], []⟩ (aP g9 (aP g10 aN)) ?_
     refine Vc [] [] (pident_R (decide ((((l0.getD 1 0).toUInt64) + (80 : UInt64)) < (4294967296 : UInt64)))) (W_ret ?_)
     exact ⟨.inl rfl, by cases h; rfl⟩
def pOid_l1_E (a0 : List UInt32) (l4_1 : List UInt8) (i23_1 : Int) : S := ⟨[(4, kH 0), (21, kH 1), (22, kI (((a0.length - 2) : Nat) : Int)), (23, kI i23_1)], [], [nb 5 l4_1, ⟨(.ro false), 89, 1, (a0.length - 2), .w ((a0.drop 2).take (a0.length - 2))⟩]⟩
abbrev pOid_l1_P (n : Nat) (a0 : List UInt32) (r : List UInt8 × Option Int) (fu : Nat) : S → Prop := fun s => ∃ (l4_1 : List UInt8), ∃ (i23_1 : Int), s = pOid_l1_E a0 l4_1 i23_1 ∧ pOid_l1 n a0 fu l4_1 i23_1 = some r
def pOid_R (r : List UInt8 × Option Int) : S := ⟨[(2, kH 0), (3, kE 31 r.2)], [], [nb 5 r.1]⟩
def pOid_ct (n : Nat) (r : List UInt8 × Option Int) : Ct := ctc (rW 89).rd fun _ l0 => ct0 fun H => ([pOid n l0 = some r], shA H.length (.t [.c (.wh 0), .c (.s (.er 31 .i64 r.2))]), shH H.length [nb 5 r.1])
theorem pOid_ok (n : Nat) (r : List UInt8 × Option Int) : FnOk Try.prog Tr 32 (pOid_ct n r) := by
 refine fnok Try.func32 ?_
 refine HO_c (rW 89) fun l0 _ => HO_0 tabO_pr (pOid_R r) [.tmp 2, .tmp 3] [0] 33 Try.func32 fun w hG h => ?_
 unfold pOid at h
 have hT := tabO_pr
 refine Vrs hT [0] ⟨[(0, kH 0)], [], [ow 89 l0]⟩ ?_
 refine W_seq ?_
 obtain ⟨r8, g1, h⟩ := bind_some' h
 refine Vgs hT (fT 1 (pident_ok n r8) fN) [] [] [0] ⟨[(0, kH 0), (9, kB (!r8))], [], [ow 89 l0]⟩ (aP g1 aN) ?_
 refine Vi ((!r8)) (fun g13 => ?_) (fun g13 => ?_)
 ·replace h := bif_t h g13
  refine Vrs hT [] ⟨[(2, .c (.nils)), (3, kE 31 (some 1))], [], []⟩ ?_
  refine Vc [.nil 2 5 1 (.b [])] [0] (pOid_R ([], (some 1))) (W_ret ?_)
  exact ⟨.inl rfl, by cases h; rfl⟩
 ·replace h := bif_f h g13
  refine W_skip ?_
  obtain ⟨g2, g3, g4, g5, h⟩ := gd4 h
  refine Vds hT (fT 8 group_h fN) 7 [] [(0, false), (14, false), (17, false)] [] [0, 1] ⟨[(0, kH 0), (4, kH 1)], [], [ow 89 l0, nb 5 (grp (((40 : UInt32) * (l0.getD 0 0)) + (l0.getD 1 0)))]⟩ (aP g2 (aP g3 (aP g4 (aP g5 aN)))) ?_
  refine W_seq ?_
  obtain ⟨g6, g7, h⟩ := gd2 h
  refine Vgs hT fN [] [] [1, 0] ⟨[(4, kH 0), (21, .c (.sl 1 2 (l0.length - 2))), (22, kI (((l0.length - 2) : Nat) : Int)), (23, kI 0)], [], [nb 5 (grp (((40 : UInt32) * (l0.getD 0 0)) + (l0.getD 1 0))), ow 89 l0]⟩ (aP g6 (aP g7 aN)) ?_
  refine W_block ?_
  refine Vc [.vw 21 false] [0, 2] (pOid_l1_E l0 (grp (((40 : UInt32) * (l0.getD 0 0)) + (l0.getD 1 0))) 0) (W_lp ((pOid_l1_P n l0 r)) n ⟨_, _, rfl, h⟩ ?_)
  rintro fu_l1 _ ⟨l4_1, i23_1, rfl, h⟩
  cases fu_l1 with
  | zero => cases h
  | succ fu_l1 =>
   refine ⟨fu_l1, rfl, ?_⟩
   rw [pOid_l1] at h
   refine Vrs hT [0, 1] ⟨[(4, kH 0), (21, kH 1), (22, kI (((l0.length - 2) : Nat) : Int)), (23, kI i23_1), (24, kB (decide (i23_1 < (((l0.length - 2) : Nat) : Int))))], [], [nb 5 l4_1, ⟨(.ro false), 89, 1, (l0.length - 2), .w ((l0.drop 2).take (l0.length - 2))⟩]⟩ ?_
   refine W_seq ?_
   refine Vi ((decide (i23_1 < (((l0.length - 2) : Nat) : Int)))) (fun g12 => ?_) (fun g12 => ?_)
   ·replace h := bif_t h g12
    refine W_skip ?_
    refine W_seq ?_
    refine W_block ?_
    obtain ⟨g8, g9, h⟩ := gd2 h
    refine Vgs hT fN [] [] [0, 1] ⟨[(4, kH 0), (6, kX (((l0.drop 2).take (l0.length - 2)).getD i23_1.toNat 0)), (21, kH 1), (22, kI (((l0.length - 2) : Nat) : Int)), (23, kI i23_1)], [], [nb 5 l4_1, ⟨(.ro false), 89, 1, (l0.length - 2), .w ((l0.drop 2).take (l0.length - 2))⟩]⟩ (aP g8 (aP g9 aN)) ?_
    obtain ⟨g10, h⟩ := gd_some h
    refine Vg hT (fT 2 group_h fN) [] [] [3, 1] ⟨[(4, kH 0), (21, kH 1), (22, kI (((l0.length - 2) : Nat) : Int)), (23, kI i23_1)], [], [nb 5 (l4_1 ++ (grp (((l0.drop 2).take (l0.length - 2)).getD i23_1.toNat 0))), ⟨(.ro false), 89, 1, (l0.length - 2), .w ((l0.drop 2).take (l0.length - 2))⟩]⟩ (aP g10 aN) ?_
    obtain ⟨g11, h⟩ := gd_some h
    refine Vg hT fN [] [] [0, 1] (pOid_l1_E l0 (l4_1 ++ (grp (((l0.drop 2).take (l0.length - 2)).getD i23_1.toNat 0))) (i23_1 + 1)) (aP g11 aN) ?_
    exact ⟨_, _, rfl, h⟩
   ·replace h := bif_f h g12
    refine Vc [] [0] ⟨[(4, kH 0)], [], [nb 5 l4_1]⟩ (W_exit ?_)
    refine Vrs hT [0] ⟨[(2, kH 0), (3, .c (.s (.v .nilIface)))], [], [nb 5 l4_1]⟩ ?_
    refine Vc [.er 3 31 .i64] [0] (pOid_R (l4_1, none)) (W_ret ?_)
    exact ⟨.inl rfl, by cases h; rfl⟩
def pleap_R (r : Bool) : S := ⟨[(2, kB r)], [], []⟩
def pleap_ct (n : Nat) (r : Bool) : Ct := ctc rI.rd fun _ l0 => ct0 fun H => ([pleap n l0 = some r], shA H.length (kB r), shH H.length [])
theorem pleap_ok (n : Nat) (r : Bool) : FnOk Try.prog Tr 76 (pleap_ct n r) := by
 refine fnok Try.func76 ?_
 refine HO_c rI fun l0 _ => HO_0 tabO_pr (pleap_R r) [.tmp 2] [] 16 Try.func76 fun w hG h => ?_
 unfold pleap at h
 have hT := tabO_pr
 refine Vrs hT [] ⟨[(0, kI l0)], [], []⟩ ?_
 refine W_seq ?_
 obtain ⟨g1, h⟩ := gd_some h
 rcases Bool.eq_false_or_eq_true ((Int.tmod l0 4) == 0) with g2 | g2
 ·replace h := bif_t h g2
  obtain ⟨g3, h⟩ := gd_some h
  rcases Bool.eq_false_or_eq_true ((Int.tmod l0 100) != 0) with g4 | g4
  ·replace h := bif_t h g4
   refine Vg hT fN [(3, true), (7, true)] [] [] ⟨[(2, kB true)], [], []⟩ (aP g1 (aP g2 (aP g3 (aP g4 aN)))) ?_
   refine Vc [] [] (pleap_R true) (W_ret ?_)
   exact ⟨.inl rfl, by cases h; rfl⟩
  ·replace h := bif_f h g4
   obtain ⟨g5, h⟩ := gd_some h
   refine Vg hT fN [(3, true), (7, false)] [] [] ⟨[(2, kB ((Int.tmod l0 400) == 0))], [], []⟩ (aP g1 (aP g2 (aP g3 (aP g4 (aP g5 aN))))) ?_
   refine Vc [] [] (pleap_R ((Int.tmod l0 400) == 0)) (W_ret ?_)
   exact ⟨.inl rfl, by cases h; rfl⟩
 ·replace h := bif_f h g2
  refine Vg hT fN [(3, false)] [] [] ⟨[(2, kB false)], [], []⟩ (aP g1 (aP g2 aN)) ?_
  refine Vc [] [] (pleap_R false) (W_ret ?_)
  exact ⟨.inl rfl, by cases h; rfl⟩
def pdays_j1_E (a0 : Int) (a1 : Int) (p6_1 : Bool) : S := ⟨[(0, kI a0), (5, kI a1), (6, kB p6_1)], [], []⟩
abbrev pdays_j1_P (n : Nat) (a0 : Int) (a1 : Int) (r : Int) : S → Prop := fun s => ∃ (p6_1 : Bool), s = pdays_j1_E a0 a1 p6_1 ∧ pdays_j1 n a0 a1 p6_1 = some r
def pdays_R (r : Int) : S := ⟨[(4, kI r)], [], []⟩
def pdays_ct (n : Nat) (r : Int) : Ct := ctc rI.rd fun _ l0 => ctc rI.rd fun _ l1 => ct0 fun H => ([pdays n l0 l1 = some r], shA H.length (kI r), shH H.length [])
theorem pdays_ok (n : Nat) (r : Int) : FnOk Try.prog Tr 52 (pdays_ct n r) := by
 refine fnok Try.func52 ?_
 refine HO_c rI fun l0 _ => HO_c rI fun l1 _ => HO_0 tabO_pr (pdays_R r) [.tmp 4] [] 15 Try.func52 fun w hG h => ?_
 unfold pdays at h
 have hT := tabO_pr
 refine Vrs hT [] ⟨[(0, kI l0), (1, kI l1)], [], []⟩ ?_
 refine W_seq ?_
 refine Vrs hT [] ⟨[(0, kI l0), (5, kI l1)], [], []⟩ ?_
 refine W_block ?_
 refine W_join (pdays_j1_P n l0 l1 r) ?_ ?_
 ·rintro _ ⟨p6_1, rfl, h⟩
  unfold pdays_j1 at h
  refine Vi (p6_1) (fun g4 => ?_) (fun g4 => ?_)
  ·replace h := bif_t h g4
   refine Vrs hT [] ⟨[(4, kI 30)], [], []⟩ ?_
   refine Vc [] [] (pdays_R 30) (W_ret ?_)
   exact ⟨.inl rfl, by cases h; rfl⟩
  ·replace h := bif_f h g4
   refine Vrs hT [] ⟨[(0, kI l0), (11, kB (l1 == 2))], [], []⟩ ?_
   refine Vi ((l1 == 2)) (fun g3 => ?_) (fun g3 => ?_)
   ·replace h := bif_t h g3
    refine W_seq ?_
    obtain ⟨r14, g1, h⟩ := bind_some' h
    refine Vgs hT (fT 1 (pleap_ok n r14) fN) [] [] [] ⟨[(14, kB r14)], [], []⟩ (aP g1 aN) ?_
    refine Vi (r14) (fun g2 => ?_) (fun g2 => ?_)
    ·replace h := bif_t h g2
     refine Vrs hT [] ⟨[(4, kI 29)], [], []⟩ ?_
     refine Vc [] [] (pdays_R 29) (W_ret ?_)
     exact ⟨.inl rfl, by cases h; rfl⟩
    ·replace h := bif_f h g2
     refine W_skip ?_
     refine Vrs hT [] ⟨[(4, kI 28)], [], []⟩ ?_
     refine Vc [] [] (pdays_R 28) (W_ret ?_)
     exact ⟨.inl rfl, by cases h; rfl⟩
   ·replace h := bif_f h g3
    refine W_skip ?_
    refine Vrs hT [] ⟨[(4, kI 31)], [], []⟩ ?_
    refine Vc [] [] (pdays_R 31) (W_ret ?_)
    exact ⟨.inl rfl, by cases h; rfl⟩
 ·refine W_seq ?_
  refine Vr hT [] ⟨[(0, kI l0), (5, kI l1), (6, kB (l1 == 4))], [], []⟩ ?_
  refine Vi ((l1 == 4)) (fun g7 => ?_) (fun g7 => ?_)
  ·replace h := bif_t h g7
   refine Vc [] [] (pdays_j1_E l0 l1 (l1 == 4)) (W_skip ?_)
   exact ⟨_, rfl, h⟩
  ·replace h := bif_f h g7
   refine Vrs hT [] ⟨[(0, kI l0), (5, kI l1), (6, kB (l1 == 6))], [], []⟩ ?_
   refine Vi ((l1 == 6)) (fun g6 => ?_) (fun g6 => ?_)
   ·replace h := bif_t h g6
    refine Vc [] [] (pdays_j1_E l0 l1 (l1 == 6)) (W_skip ?_)
    exact ⟨_, rfl, h⟩
   ·replace h := bif_f h g6
    refine Vrs hT [] ⟨[(0, kI l0), (5, kI l1), (6, kB (l1 == 9))], [], []⟩ ?_
    refine Vi ((l1 == 9)) (fun g5 => ?_) (fun g5 => ?_)
    ·replace h := bif_t h g5
     refine Vc [] [] (pdays_j1_E l0 l1 (l1 == 9)) (W_skip ?_)
     exact ⟨_, rfl, h⟩
    ·replace h := bif_f h g5
     refine Vr hT [] (pdays_j1_E l0 l1 (l1 == 11)) ?_
     exact ⟨_, rfl, h⟩
def pvalid_R (r : Bool) : S := ⟨[(2, kB r)], [], []⟩
def pvalid_ct (n : Nat) (r : Bool) : Ct := ctc (rSt (lC cI (lC cI (lC cI (lC cI (lC cI (lC cI lN))))))).rd fun _ y0 => ct0 fun H => ([pvalid n y0.1 y0.2.1 y0.2.2.1 y0.2.2.2.1 y0.2.2.2.2.1 y0.2.2.2.2.2.1 = some r], shA H.length (kB r), shH H.length [])
theorem pvalid_ok (n : Nat) (r : Bool) : FnOk Try.prog Tr 50 (pvalid_ct n r) := by
 refine fnok Try.func50 ?_
 refine HO_c (rSt (lC cI (lC cI (lC cI (lC cI (lC cI (lC cI lN))))))) fun p0 _ => ?_
 obtain ⟨l0_0, l0_1, l0_2, l0_3, l0_4, l0_5, _⟩ := p0
 refine HO_0 tabO_pr (pvalid_R r) [.tmp 2] [] 64 Try.func50 fun w hG h => ?_
 have h : pvalid n l0_0 l0_1 l0_2 l0_3 l0_4 l0_5 = some r := h
 unfold pvalid at h
 have hT := tabO_pr
 refine Vrs hT [0] ⟨[(1, kP 0 0)], [], [⟨.blk, 34, 1, 6, .c [.s (.k .i64 l0_0), .s (.k .i64 l0_1), .s (.k .i64 l0_2), .s (.k .i64 l0_3), .s (.k .i64 l0_4), .s (.k .i64 l0_5)]⟩]⟩ ?_
 refine W_seq ?_
 refine W_seq ?_
 rcases Bool.eq_false_or_eq_true (decide (l0_0 < (1 : Int))) with g1 | g1
 ·replace h := bif_t h g1
  refine Vd hT fN 31 [(3, true)] [(1, false), (26, false), (28, false), (33, false)] [] [0] ⟨[(1, kP 0 0), (35, kB true)], [], [⟨.blk, 34, 1, 6, .c [.s (.k .i64 l0_0), .s (.k .i64 l0_1), .s (.k .i64 l0_2), .s (.k .i64 l0_3), .s (.k .i64 l0_4), .s (.k .i64 l0_5)]⟩]⟩ (aP g1 aN) ?_
  refine Vi (true) (fun _ => ?_) (fun hb => by cases hb)
  refine Vrs hT [] ⟨[(2, kB false)], [], []⟩ ?_
  refine Vc [] [] (pvalid_R false) (W_ret ?_)
  exact ⟨.inl rfl, by cases h; rfl⟩
 ·replace h := bif_f h g1
  rcases Bool.eq_false_or_eq_true (decide ((9999 : Int) < l0_0)) with g2 | g2
  ·replace h := bif_t h g2
   refine Vd hT fN 31 [(3, false), (8, true)] [(1, false), (26, false), (28, false), (33, false)] [] [0] ⟨[(1, kP 0 0), (35, kB true)], [], [⟨.blk, 34, 1, 6, .c [.s (.k .i64 l0_0), .s (.k .i64 l0_1), .s (.k .i64 l0_2), .s (.k .i64 l0_3), .s (.k .i64 l0_4), .s (.k .i64 l0_5)]⟩]⟩ (aP g1 (aP g2 aN)) ?_
   refine Vi (true) (fun _ => ?_) (fun hb => by cases hb)
   refine Vrs hT [] ⟨[(2, kB false)], [], []⟩ ?_
   refine Vc [] [] (pvalid_R false) (W_ret ?_)
   exact ⟨.inl rfl, by cases h; rfl⟩
  ·replace h := bif_f h g2
   rcases Bool.eq_false_or_eq_true (decide (l0_1 < (1 : Int))) with g3 | g3
   ·replace h := bif_t h g3
    refine Vd hT fN 31 [(3, false), (8, false), (13, true)] [(1, false), (26, false), (28, false), (33, false)] [] [0] ⟨[(1, kP 0 0), (35, kB true)], [], [⟨.blk, 34, 1, 6, .c [.s (.k .i64 l0_0), .s (.k .i64 l0_1), .s (.k .i64 l0_2), .s (.k .i64 l0_3), .s (.k .i64 l0_4), .s (.k .i64 l0_5)]⟩]⟩ (aP g1 (aP g2 (aP g3 aN))) ?_
    refine Vi (true) (fun _ => ?_) (fun hb => by cases hb)
    refine Vrs hT [] ⟨[(2, kB false)], [], []⟩ ?_
    refine Vc [] [] (pvalid_R false) (W_ret ?_)
    exact ⟨.inl rfl, by cases h; rfl⟩
   ·replace h := bif_f h g3
    rcases Bool.eq_false_or_eq_true (decide ((12 : Int) < l0_1)) with g4 | g4
    ·replace h := bif_t h g4
     refine Vd hT fN 31 [(3, false), (8, false), (13, false), (18, true)] [(1, false), (26, false), (28, false), (33, false)] [] [0] ⟨[(1, kP 0 0), (35, kB true)], [], [⟨.blk, 34, 1, 6, .c [.s (.k .i64 l0_0), .s (.k .i64 l0_1), .s (.k .i64 l0_2), .s (.k .i64 l0_3), .s (.k .i64 l0_4), .s (.k .i64 l0_5)]⟩]⟩ (aP g1 (aP g2 (aP g3 (aP g4 aN)))) ?_
     refine Vi (true) (fun _ => ?_) (fun hb => by cases hb)
     refine Vrs hT [] ⟨[(2, kB false)], [], []⟩ ?_
     refine Vc [] [] (pvalid_R false) (W_ret ?_)
     exact ⟨.inl rfl, by cases h; rfl⟩
    ·replace h := bif_f h g4
     rcases Bool.eq_false_or_eq_true (decide (l0_2 < (1 : Int))) with g5 | g5
     ·replace h := bif_t h g5
      refine Vd hT fN 31 [(3, false), (8, false), (13, false), (18, false), (23, true)] [(1, false), (26, false), (28, false), (33, false)] [] [0] ⟨[(1, kP 0 0), (35, kB true)], [], [⟨.blk, 34, 1, 6, .c [.s (.k .i64 l0_0), .s (.k .i64 l0_1), .s (.k .i64 l0_2), .s (.k .i64 l0_3), .s (.k .i64 l0_4), .s (.k .i64 l0_5)]⟩]⟩ (aP g1 (aP g2 (aP g3 (aP g4 (aP g5 aN))))) ?_
      refine Vi (true) (fun _ => ?_) (fun hb => by cases hb)
      refine Vrs hT [] ⟨[(2, kB false)], [], []⟩ ?_
      refine Vc [] [] (pvalid_R false) (W_ret ?_)
      exact ⟨.inl rfl, by cases h; rfl⟩
     ·replace h := bif_f h g5
      obtain ⟨r33, g6, h⟩ := bind_some' h
      refine Vd hT (fT 30 (pdays_ok n r33) fN) 31 [(3, false), (8, false), (13, false), (18, false), (23, false)] [(1, false), (26, false), (28, false), (33, false)] [] [0] ⟨[(1, kP 0 0), (35, kB (decide (r33 < l0_2)))], [], [⟨.blk, 34, 1, 6, .c [.s (.k .i64 l0_0), .s (.k .i64 l0_1), .s (.k .i64 l0_2), .s (.k .i64 l0_3), .s (.k .i64 l0_4), .s (.k .i64 l0_5)]⟩]⟩ (aP g1 (aP g2 (aP g3 (aP g4 (aP g5 (aP g6 aN)))))) ?_
      refine Vi ((decide (r33 < l0_2))) (fun g12 => ?_) (fun g12 => ?_)
      ·replace h := bif_t h g12
       refine Vrs hT [] ⟨[(2, kB false)], [], []⟩ ?_
       refine Vc [] [] (pvalid_R false) (W_ret ?_)
       exact ⟨.inl rfl, by cases h; rfl⟩
      ·replace h := bif_f h g12
       refine Vc [] [0] ⟨[(1, kP 0 0)], [], [⟨.blk, 34, 1, 6, .c [.s (.k .i64 l0_0), .s (.k .i64 l0_1), .s (.k .i64 l0_2), .s (.k .i64 l0_3), .s (.k .i64 l0_4), .s (.k .i64 l0_5)]⟩]⟩ (W_skip ?_)
       refine W_seq ?_
       rcases Bool.eq_false_or_eq_true (decide ((0 : Int) ≤ l0_3)) with g7 | g7
       ·replace h := bif_t h g7
        rcases Bool.eq_false_or_eq_true (decide (l0_3 ≤ (23 : Int))) with g8 | g8
        ·replace h := bif_t h g8
         rcases Bool.eq_false_or_eq_true (decide ((0 : Int) ≤ l0_4)) with g9 | g9
         ·replace h := bif_t h g9
          rcases Bool.eq_false_or_eq_true (decide (l0_4 ≤ (59 : Int))) with g10 | g10
          ·replace h := bif_t h g10
           rcases Bool.eq_false_or_eq_true (decide ((0 : Int) ≤ l0_5)) with g11 | g11
           ·replace h := bif_t h g11
            refine Vg hT fN [(3, true), (8, true), (13, true), (18, true), (23, true)] [] [] ⟨[(2, kB (decide (l0_5 ≤ (59 : Int))))], [], []⟩ (aP g7 (aP g8 (aP g9 (aP g10 (aP g11 aN))))) ?_
            refine Vc [] [] (pvalid_R (decide (l0_5 ≤ (59 : Int)))) (W_ret ?_)
            exact ⟨.inl rfl, by cases h; rfl⟩
           ·replace h := bif_f h g11
            refine Vg hT fN [(3, true), (8, true), (13, true), (18, true), (23, false)] [] [] ⟨[(2, kB false)], [], []⟩ (aP g7 (aP g8 (aP g9 (aP g10 (aP g11 aN))))) ?_
            refine Vc [] [] (pvalid_R false) (W_ret ?_)
            exact ⟨.inl rfl, by cases h; rfl⟩
          ·replace h := bif_f h g10
           refine Vg hT fN [(3, true), (8, true), (13, true), (18, false)] [] [] ⟨[(2, kB false)], [], []⟩ (aP g7 (aP g8 (aP g9 (aP g10 aN)))) ?_
           refine Vc [] [] (pvalid_R false) (W_ret ?_)
           exact ⟨.inl rfl, by cases h; rfl⟩
         ·replace h := bif_f h g9
          refine Vg hT fN [(3, true), (8, true), (13, false)] [] [] ⟨[(2, kB false)], [], []⟩ (aP g7 (aP g8 (aP g9 aN))) ?_
          refine Vc [] [] (pvalid_R false) (W_ret ?_)
          exact ⟨.inl rfl, by cases h; rfl⟩
        ·replace h := bif_f h g8
         refine Vg hT fN [(3, true), (8, false)] [] [] ⟨[(2, kB false)], [], []⟩ (aP g7 (aP g8 aN)) ?_
         refine Vc [] [] (pvalid_R false) (W_ret ?_)
         exact ⟨.inl rfl, by cases h; rfl⟩
       ·replace h := bif_f h g7
        refine Vg hT fN [(3, false)] [] [] ⟨[(2, kB false)], [], []⟩ (aP g7 aN) ?_
        refine Vc [] [] (pvalid_R false) (W_ret ?_)
        exact ⟨.inl rfl, by cases h; rfl⟩
def pTime_l1_E (b5_1 : UInt8) (z6_1 : List Int) (m6_1 : Nat) (l7_1 : List UInt8) (i43_1 : Int) : S := ⟨[(5, kU b5_1), (7, kH 0), (41, kH 1), (42, kI ((m6_1 : Nat) : Int)), (43, kI i43_1)], [], [nb 5 l7_1, ⟨(.ro true), 3, 1, m6_1, .z z6_1⟩]⟩
abbrev pTime_l1_P (n : Nat) (b5_1 : UInt8) (z6_1 : List Int) (m6_1 : Nat) (r : UInt8 × List UInt8 × Option Int) (fu : Nat) : S → Prop := fun s => ∃ (l7_1 : List UInt8), ∃ (i43_1 : Int), s = pTime_l1_E b5_1 z6_1 m6_1 l7_1 i43_1 ∧ pTime_l1 n b5_1 z6_1 m6_1 fu l7_1 i43_1 = some r
def pTime_j1_E (b5_1 : UInt8) (z6_1 : List Int) (m6_1 : Nat) : S := ⟨[(5, kU b5_1), (6, kH 0)], [], [⟨(.ro true), 3, 1, m6_1, .z z6_1⟩]⟩
abbrev pTime_j1_P (n : Nat) (r : UInt8 × List UInt8 × Option Int) : S → Prop := fun s => ∃ (b5_1 : UInt8), ∃ (z6_1 : List Int), ∃ (m6_1 : Nat), s = pTime_j1_E b5_1 z6_1 m6_1 ∧ pTime_j1 n b5_1 z6_1 m6_1 = some r
def pTime_R (r : UInt8 × List UInt8 × Option Int) : S := ⟨[(2, kU r.1), (3, kH 0), (4, kE 31 r.2.2)], [], [nb 5 r.2.1]⟩
def pTime_ct (n : Nat) (r : UInt8 × List UInt8 × Option Int) : Ct := ctc (rSt (lC cI (lC cI (lC cI (lC cI (lC cI (lC cI lN))))))).rd fun _ y0 => ct0 fun H => ([pTime n y0.1 y0.2.1 y0.2.2.1 y0.2.2.2.1 y0.2.2.2.2.1 y0.2.2.2.2.2.1 = some r], shA H.length (.t [.c (.s (.u8 r.1)), .c (.wh 0), .c (.s (.er 31 .i64 r.2.2))]), shH H.length [nb 5 r.2.1])
theorem pTime_ok (n : Nat) (r : UInt8 × List UInt8 × Option Int) : FnOk Try.prog Tr 20 (pTime_ct n r) := by
 refine fnok Try.func20 ?_
 refine HO_c (rSt (lC cI (lC cI (lC cI (lC cI (lC cI (lC cI lN))))))) fun p0 _ => ?_
 obtain ⟨l0_0, l0_1, l0_2, l0_3, l0_4, l0_5, _⟩ := p0
 refine HO_0 tabO_pr (pTime_R r) [.tmp 2, .tmp 3, .tmp 4] [0] 63 Try.func20 fun w hG h => ?_
 have h : pTime n l0_0 l0_1 l0_2 l0_3 l0_4 l0_5 = some r := h
 unfold pTime at h
 have hT := tabO_pr
 refine Vrs hT [0] ⟨[(1, kP 0 0)], [], [⟨.blk, 34, 1, 6, .c [.s (.k .i64 l0_0), .s (.k .i64 l0_1), .s (.k .i64 l0_2), .s (.k .i64 l0_3), .s (.k .i64 l0_4), .s (.k .i64 l0_5)]⟩]⟩ ?_
 refine W_seq ?_
 obtain ⟨r11, g1, h⟩ := bind_some' h
 refine Vgs hT (fT 1 (pvalid_ok n r11) fN) [] [] [0] ⟨[(1, kP 0 0), (12, kB (!r11))], [], [⟨.blk, 34, 1, 6, .c [.s (.k .i64 l0_0), .s (.k .i64 l0_1), .s (.k .i64 l0_2), .s (.k .i64 l0_3), .s (.k .i64 l0_4), .s (.k .i64 l0_5)]⟩]⟩ (aP g1 aN) ?_
 refine Vi ((!r11)) (fun g20 => ?_) (fun g20 => ?_)
 ·replace h := bif_t h g20
  refine Vrs hT [] ⟨[(2, kU 0), (3, .c (.nils)), (4, kE 31 (some 1))], [], []⟩ ?_
  refine Vc [.nil 3 5 1 (.b [])] [0] (pTime_R (0, [], (some 1))) (W_ret ?_)
  exact ⟨.inl rfl, by cases h; rfl⟩
 ·replace h := bif_f h g20
  refine W_skip ?_
  obtain ⟨g2, g3, g4, h⟩ := gd3 h
  refine Vds hT fN 18 [] [(1, false), (5, false), (30, false)] [] [0, 1] ⟨[(1, kP 0 0), (5, kU 24), (6, kH 1)], [], [⟨.blk, 34, 1, 6, .c [.s (.k .i64 l0_0), .s (.k .i64 l0_1), .s (.k .i64 l0_2), .s (.k .i64 l0_3), .s (.k .i64 l0_4), .s (.k .i64 l0_5)]⟩, ⟨.row, 3, 1, 7, .z [(Int.tdiv l0_0 100), (Int.tmod l0_0 100), l0_1, l0_2, l0_3, l0_4, l0_5]⟩]⟩ (aP g2 (aP g3 (aP g4 aN))) ?_
  refine W_join (pTime_j1_P n r) ?_ ?_
  ·rintro _ ⟨b5_1, z6_1, m6_1, rfl, h⟩
   unfold pTime_j1 at h
   refine Vrs hT [0] ⟨[(5, kU b5_1), (6, kH 0), (7, .c (.nils))], [], [⟨(.ro true), 3, 1, m6_1, .z z6_1⟩]⟩ ?_
   refine W_seq ?_
   refine Vrs hT [0] ⟨[(5, kU b5_1), (7, .c (.nils)), (41, kH 0), (42, kI ((m6_1 : Nat) : Int)), (43, kI 0)], [], [⟨(.ro true), 3, 1, m6_1, .z z6_1⟩]⟩ ?_
   refine W_block ?_
   refine Vc [.nil 7 5 1 (.b [])] [1, 0] (pTime_l1_E b5_1 z6_1 m6_1 [] 0) (W_lp ((pTime_l1_P n b5_1 z6_1 m6_1 r)) n ⟨_, _, rfl, h⟩ ?_)
   rintro fu_l1 _ ⟨l7_1, i43_1, rfl, h⟩
   cases fu_l1 with
   | zero => cases h
   | succ fu_l1 =>
    refine ⟨fu_l1, rfl, ?_⟩
    rw [pTime_l1] at h
    refine Vrs hT [0, 1] ⟨[(5, kU b5_1), (7, kH 0), (41, kH 1), (42, kI ((m6_1 : Nat) : Int)), (43, kI i43_1), (44, kB (decide (i43_1 < ((m6_1 : Nat) : Int))))], [], [nb 5 l7_1, ⟨(.ro true), 3, 1, m6_1, .z z6_1⟩]⟩ ?_
    refine W_seq ?_
    refine Vi ((decide (i43_1 < ((m6_1 : Nat) : Int)))) (fun g15 => ?_) (fun g15 => ?_)
    ·replace h := bif_t h g15
     refine W_skip ?_
     refine W_seq ?_
     refine W_block ?_
     obtain ⟨g5, g6, h⟩ := gd2 h
     refine Vgs hT fN [] [] [0, 1] ⟨[(5, kU b5_1), (7, kH 0), (9, kI (z6_1.getD i43_1.toNat 0)), (41, kH 1), (42, kI ((m6_1 : Nat) : Int)), (43, kI i43_1)], [], [nb 5 l7_1, ⟨(.ro true), 3, 1, m6_1, .z z6_1⟩]⟩ (aP g5 (aP g6 aN)) ?_
     obtain ⟨g7, g8, g9, g10, g11, h⟩ := gd5 h
     obtain ⟨g12, h⟩ := gd_some h
     refine Vg hT fN [] [] [3, 1] ⟨[(5, kU b5_1), (7, kH 0), (41, kH 1), (42, kI ((m6_1 : Nat) : Int)), (43, kI i43_1)], [], [nb 5 (l7_1 ++ [(UInt8.ofInt (48 + (Int.tdiv (z6_1.getD i43_1.toNat 0) 10))), (UInt8.ofInt (48 + (Int.tmod (z6_1.getD i43_1.toNat 0) 10)))]), ⟨(.ro true), 3, 1, m6_1, .z z6_1⟩]⟩ (aP g7 (aP g8 (aP g9 (aP g10 (aP g11 (aP g12 aN)))))) ?_
     obtain ⟨g13, h⟩ := gd_some h
     refine Vg hT fN [] [] [0, 1] (pTime_l1_E b5_1 z6_1 m6_1 (l7_1 ++ [(UInt8.ofInt (48 + (Int.tdiv (z6_1.getD i43_1.toNat 0) 10))), (UInt8.ofInt (48 + (Int.tmod (z6_1.getD i43_1.toNat 0) 10)))]) (i43_1 + 1)) (aP g13 aN) ?_
     exact ⟨_, _, rfl, h⟩
    ·replace h := bif_f h g15
     refine Vc [] [0] ⟨[(5, kU b5_1), (7, kH 0)], [], [nb 5 l7_1]⟩ (W_exit ?_)
     obtain ⟨g14, h⟩ := gd_some h
     refine Vgs hT fN [] [] [2] ⟨[(2, kU b5_1), (3, kH 0), (4, .c (.s (.v .nilIface)))], [], [nb 5 (l7_1 ++ [90])]⟩ (aP g14 aN) ?_
     refine Vc [.er 4 31 .i64] [0] (pTime_R (b5_1, (l7_1 ++ [90]), none)) (W_ret ?_)
     exact ⟨.inl rfl, by cases h; rfl⟩
  ·refine W_seq ?_
   rcases Bool.eq_false_or_eq_true (decide ((1950 : Int) ≤ l0_0)) with g16 | g16
   ·replace h := bif_t h g16
    refine Vg hT fN [(3, true)] [] [1] ⟨[(5, kU 24), (6, kH 0), (38, kB (decide (l0_0 < (2050 : Int))))], [], [⟨.row, 3, 1, 7, .z [(Int.tdiv l0_0 100), (Int.tmod l0_0 100), l0_1, l0_2, l0_3, l0_4, l0_5]⟩]⟩ (aP g16 aN) ?_
    refine Vi ((decide (l0_0 < (2050 : Int)))) (fun g19 => ?_) (fun g19 => ?_)
    ·replace h := bif_t h g19
     obtain ⟨g17, g18, h⟩ := gd2 h
     refine Vd hT fN 3 [] [(5, false), (6, false), (40, false)] [.vw 6 true] [1] (pTime_j1_E 23 (([(Int.tdiv l0_0 100), (Int.tmod l0_0 100), l0_1, l0_2, l0_3, l0_4, l0_5].drop 1).take 6) 6) (aP g17 (aP g18 aN)) ?_
     exact ⟨_, _, _, rfl, h⟩
    ·replace h := bif_f h g19
     refine Vc [.vw 6 true] [1] (pTime_j1_E 24 [(Int.tdiv l0_0 100), (Int.tmod l0_0 100), l0_1, l0_2, l0_3, l0_4, l0_5] 7) (W_skip ?_)
     exact ⟨_, _, _, rfl, h⟩
   ·replace h := bif_f h g16
    refine Vg hT fN [(3, false)] [] [1] ⟨[(5, kU 24), (6, kH 0), (38, kB false)], [], [⟨.row, 3, 1, 7, .z [(Int.tdiv l0_0 100), (Int.tmod l0_0 100), l0_1, l0_2, l0_3, l0_4, l0_5]⟩]⟩ (aP g16 aN) ?_
    refine Vi (false) (fun hb => by cases hb) (fun _ => ?_)
    refine Vc [.vw 6 true] [1] (pTime_j1_E 24 [(Int.tdiv l0_0 100), (Int.tmod l0_0 100), l0_1, l0_2, l0_3, l0_4, l0_5] 7) (W_skip ?_)
    exact ⟨_, _, _, rfl, h⟩
def pahead_R (r : Int) : S := ⟨[(2, kI r)], [], []⟩
def pahead_ct (n : Nat) (r : Int) : Ct := ctc rI.rd fun _ l0 => ct0 fun H => ([pahead n l0 = some r], shA H.length (kI r), shH H.length [])
theorem pahead_ok (n : Nat) (r : Int) : FnOk Try.prog Tr 51 (pahead_ct n r) := by
 refine fnok Try.func51 ?_
 refine HO_c rI fun l0 _ => HO_0 tabO_pr (pahead_R r) [.tmp 2] [] 17 Try.func51 fun w hG h => ?_
 unfold pahead at h
 have hT := tabO_pr
 refine Vrs hT [] ⟨[(0, kI l0)], [], []⟩ ?_
 obtain ⟨g1, h⟩ := gd_some h
 refine Vgs hT fN [] [] [] ⟨[(3, kI (l0 - 1))], [], []⟩ (aP g1 aN) ?_
 obtain ⟨g2, g3, g4, g5, g6, h⟩ := gd5 h
 obtain ⟨g7, g8, g9, g10, g11, h⟩ := gd5 h
 refine Vgs hT fN [] [] [] ⟨[(2, kI ((((365 * (l0 - 1)) + (Int.tdiv (l0 - 1) 4)) - (Int.tdiv (l0 - 1) 100)) + (Int.tdiv (l0 - 1) 400)))], [], []⟩ (aP g2 (aP g3 (aP g4 (aP g5 (aP g6 (aP g7 (aP g8 (aP g9 (aP g10 (aP g11 aN)))))))))) ?_
 refine Vc [] [] (pahead_R ((((365 * (l0 - 1)) + (Int.tdiv (l0 - 1) 4)) - (Int.tdiv (l0 - 1) 100)) + (Int.tdiv (l0 - 1) 400))) (W_ret ?_)
 exact ⟨.inl rfl, by cases h; rfl⟩
def pCount_l1_E (a0_0 : Int) (a0_1 : Int) (a0_2 : Int) (a0_3 : Int) (a0_4 : Int) (a0_5 : Int) (i4_1 : Int) (i5_1 : Int) : S := ⟨[(1, kP 0 0), (4, kI i4_1), (5, kI i5_1)], [], [⟨.blk, 34, 1, 6, .c [.s (.k .i64 a0_0), .s (.k .i64 a0_1), .s (.k .i64 a0_2), .s (.k .i64 a0_3), .s (.k .i64 a0_4), .s (.k .i64 a0_5)]⟩]⟩
abbrev pCount_l1_P (n : Nat) (a0_0 : Int) (a0_1 : Int) (a0_2 : Int) (a0_3 : Int) (a0_4 : Int) (a0_5 : Int) (r : Int × Option Int) (fu : Nat) : S → Prop := fun s => ∃ (i4_1 : Int), ∃ (i5_1 : Int), s = pCount_l1_E a0_0 a0_1 a0_2 a0_3 a0_4 a0_5 i4_1 i5_1 ∧ pCount_l1 n a0_0 a0_1 a0_2 a0_3 a0_4 a0_5 fu i4_1 i5_1 = some r
def pCount_R (r : Int × Option Int) : S := ⟨[(2, kI r.1), (3, kE 31 r.2)], [], []⟩
def pCount_ct (n : Nat) (r : Int × Option Int) : Ct := ctc (rSt (lC cI (lC cI (lC cI (lC cI (lC cI (lC cI lN))))))).rd fun _ y0 => ct0 fun H => ([pCount n y0.1 y0.2.1 y0.2.2.1 y0.2.2.2.1 y0.2.2.2.2.1 y0.2.2.2.2.2.1 = some r], shA H.length (.t [.c (.s (.k .i64 r.1)), .c (.s (.er 31 .i64 r.2))]), shH H.length [])
theorem pCount_ok (n : Nat) (r : Int × Option Int) : FnOk Try.prog Tr 19 (pCount_ct n r) := by
 refine fnok Try.func19 ?_
 refine HO_c (rSt (lC cI (lC cI (lC cI (lC cI (lC cI (lC cI lN))))))) fun p0 _ => ?_
 obtain ⟨l0_0, l0_1, l0_2, l0_3, l0_4, l0_5, _⟩ := p0
 refine HO_0 tabO_pr (pCount_R r) [.tmp 2, .tmp 3] [] 42 Try.func19 fun w hG h => ?_
 have h : pCount n l0_0 l0_1 l0_2 l0_3 l0_4 l0_5 = some r := h
 unfold pCount at h
 have hT := tabO_pr
 refine Vrs hT [0] ⟨[(1, kP 0 0)], [], [⟨.blk, 34, 1, 6, .c [.s (.k .i64 l0_0), .s (.k .i64 l0_1), .s (.k .i64 l0_2), .s (.k .i64 l0_3), .s (.k .i64 l0_4), .s (.k .i64 l0_5)]⟩]⟩ ?_
 refine W_seq ?_
 obtain ⟨r7, g1, h⟩ := bind_some' h
 refine Vgs hT (fT 1 (pvalid_ok n r7) fN) [] [] [0] ⟨[(1, kP 0 0), (8, kB (!r7))], [], [⟨.blk, 34, 1, 6, .c [.s (.k .i64 l0_0), .s (.k .i64 l0_1), .s (.k .i64 l0_2), .s (.k .i64 l0_3), .s (.k .i64 l0_4), .s (.k .i64 l0_5)]⟩]⟩ (aP g1 aN) ?_
 refine Vi ((!r7)) (fun g15 => ?_) (fun g15 => ?_)
 ·replace h := bif_t h g15
  refine Vrs hT [] ⟨[(2, kI 0), (3, kE 31 (some 1))], [], []⟩ ?_
  refine Vc [] [] (pCount_R (0, (some 1))) (W_ret ?_)
  exact ⟨.inl rfl, by cases h; rfl⟩
 ·replace h := bif_f h g15
  refine W_skip ?_
  obtain ⟨r12, g2, h⟩ := bind_some' h
  obtain ⟨g3, g4, h⟩ := gd2 h
  refine Vds hT (fT 2 (pahead_ok n r12) fN) 6 [] [(1, false), (12, false), (15, false)] [] [0] ⟨[(1, kP 0 0), (4, kI (r12 + (l0_2 - 1)))], [], [⟨.blk, 34, 1, 6, .c [.s (.k .i64 l0_0), .s (.k .i64 l0_1), .s (.k .i64 l0_2), .s (.k .i64 l0_3), .s (.k .i64 l0_4), .s (.k .i64 l0_5)]⟩]⟩ (aP g2 (aP g3 (aP g4 aN))) ?_
  refine W_seq ?_
  refine Vrs hT [0] ⟨[(1, kP 0 0), (4, kI (r12 + (l0_2 - 1))), (5, kI 1)], [], [⟨.blk, 34, 1, 6, .c [.s (.k .i64 l0_0), .s (.k .i64 l0_1), .s (.k .i64 l0_2), .s (.k .i64 l0_3), .s (.k .i64 l0_4), .s (.k .i64 l0_5)]⟩]⟩ ?_
  refine W_block ?_
  refine Vc [] [0] (pCount_l1_E l0_0 l0_1 l0_2 l0_3 l0_4 l0_5 (r12 + (l0_2 - 1)) 1) (W_lp ((pCount_l1_P n l0_0 l0_1 l0_2 l0_3 l0_4 l0_5 r)) n ⟨_, _, rfl, h⟩ ?_)
  rintro fu_l1 _ ⟨i4_1, i5_1, rfl, h⟩
  cases fu_l1 with
  | zero => cases h
  | succ fu_l1 =>
   refine ⟨fu_l1, rfl, ?_⟩
   rw [pCount_l1] at h
   refine W_seq ?_
   refine Vrs hT [0] ⟨[(1, kP 0 0), (4, kI i4_1), (5, kI i5_1), (20, kB (decide (i5_1 < l0_1)))], [], [⟨.blk, 34, 1, 6, .c [.s (.k .i64 l0_0), .s (.k .i64 l0_1), .s (.k .i64 l0_2), .s (.k .i64 l0_3), .s (.k .i64 l0_4), .s (.k .i64 l0_5)]⟩]⟩ ?_
   refine Vi ((decide (i5_1 < l0_1))) (fun g14 => ?_) (fun g14 => ?_)
   ·replace h := bif_t h g14
    refine W_skip ?_
    refine W_seq ?_
    refine W_block ?_
    obtain ⟨r27_2, g5, h⟩ := bind_some' h
    obtain ⟨g6, h⟩ := gd_some h
    refine Vg hT (fT 4 (pdays_ok n r27_2) fN) [] [] [0] ⟨[(1, kP 0 0), (4, kI (i4_1 + r27_2)), (5, kI i5_1)], [], [⟨.blk, 34, 1, 6, .c [.s (.k .i64 l0_0), .s (.k .i64 l0_1), .s (.k .i64 l0_2), .s (.k .i64 l0_3), .s (.k .i64 l0_4), .s (.k .i64 l0_5)]⟩]⟩ (aP g5 (aP g6 aN)) ?_
    obtain ⟨g7, h⟩ := gd_some h
    refine Vg hT fN [] [] [0] (pCount_l1_E l0_0 l0_1 l0_2 l0_3 l0_4 l0_5 (i4_1 + r27_2) (i5_1 + 1)) (aP g7 aN) ?_
    exact ⟨_, _, rfl, h⟩
   ·replace h := bif_f h g14
    refine Vc [] [0] ⟨[(1, kP 0 0), (4, kI i4_1)], [], [⟨.blk, 34, 1, 6, .c [.s (.k .i64 l0_0), .s (.k .i64 l0_1), .s (.k .i64 l0_2), .s (.k .i64 l0_3), .s (.k .i64 l0_4), .s (.k .i64 l0_5)]⟩]⟩ (W_exit ?_)
    obtain ⟨g8, g9, g10, g11, g12, h⟩ := gd5 h
    obtain ⟨g13, h⟩ := gd_some h
    refine Vgs hT fN [] [] [] ⟨[(2, kI ((i4_1 * 86400) + (((l0_3 * 3600) + (l0_4 * 60)) + l0_5))), (3, .c (.s (.v .nilIface)))], [], []⟩ (aP g8 (aP g9 (aP g10 (aP g11 (aP g12 (aP g13 aN)))))) ?_
    refine Vc [.er 3 31 .i64] [] (pCount_R (((i4_1 * 86400) + (((l0_3 * 3600) + (l0_4 * 60)) + l0_5)), none)) (W_ret ?_)
    exact ⟨.inl rfl, by cases h; rfl⟩
def pInt_j1_E (l3_6 : List UInt8) (m3_4 : Nat) : S := ⟨[(3, kH 0)], [], [⟨(.ro true), 5, 1, m3_4, .b l3_6⟩]⟩
abbrev pInt_j1_P (n : Nat) (r : List UInt8) : S → Prop := fun s => ∃ (l3_6 : List UInt8), ∃ (m3_4 : Nat), s = pInt_j1_E l3_6 m3_4 ∧ pInt_j1 n l3_6 m3_4 = some r
def pInt_l2_E (l3_7 : List UInt8) (m3_5 : Nat) : S := ⟨[(3, kH 0)], [], [⟨(.ro true), 5, 1, m3_5, .b l3_7⟩]⟩
abbrev pInt_l2_P (n : Nat) (r : List UInt8) (fu : Nat) : S → Prop := fun s => ∃ (l3_7 : List UInt8), ∃ (m3_5 : Nat), s = pInt_l2_E l3_7 m3_5 ∧ pInt_l2 n fu l3_7 m3_5 = some r
def pInt_l1_E (a0 : Int) (l3_4 : List UInt8) (i4_1 : Int) : S := ⟨[(0, kI a0), (3, kH 0), (4, kI i4_1)], [], [nb 5 l3_4]⟩
abbrev pInt_l1_P (n : Nat) (a0 : Int) (r : List UInt8) (fu : Nat) : S → Prop := fun s => ∃ (l3_4 : List UInt8), ∃ (i4_1 : Int), s = pInt_l1_E a0 l3_4 i4_1 ∧ pInt_l1 n a0 fu l3_4 i4_1 = some r
def pInt_R (r : List UInt8) : S := ⟨[(2, kH 0)], [], [nb 5 r]⟩
def pInt_ct (n : Nat) (r : List UInt8) : Ct := ctc rI.rd fun _ l0 => ct0 fun H => ([pInt n l0 = some r], shA H.length (kH 0), shH H.length [nb 5 r])
theorem pInt_ok (n : Nat) (r : List UInt8) : FnOk Try.prog Tr 15 (pInt_ct n r) := by
 refine fnok Try.func15 ?_
 refine HO_c rI fun l0 _ => HO_0 tabO_pr (pInt_R r) [.tmp 2] [0] 27 Try.func15 fun w hG h => ?_
 unfold pInt at h
 have hT := tabO_pr
 refine Vrs hT [] ⟨[(0, kI l0)], [], []⟩ ?_
 refine Vrs hT [] ⟨[(0, kI l0), (3, .c (.nils))], [], []⟩ ?_
 refine W_seq ?_
 refine Vrs hT [] ⟨[(0, kI l0), (3, .c (.nils)), (4, kI 56)], [], []⟩ ?_
 refine W_block ?_
 refine Vc [.nil 3 5 1 (.b [])] [0] (pInt_l1_E l0 [] 56) (W_lp ((pInt_l1_P n l0 r)) n ⟨_, _, rfl, h⟩ ?_)
 rintro fu_l1 _ ⟨l3_4, i4_1, rfl, h⟩
 cases fu_l1 with
 | zero => cases h
 | succ fu_l1 =>
  refine ⟨fu_l1, rfl, ?_⟩
  rw [pInt_l1] at h
  refine W_seq ?_
  refine Vrs hT [0] ⟨[(0, kI l0), (3, kH 0), (4, kI i4_1), (6, kB (decide ((0 : Int) ≤ i4_1)))], [], [nb 5 l3_4]⟩ ?_
  refine Vi ((decide ((0 : Int) ≤ i4_1))) (fun g11 => ?_) (fun g11 => ?_)
  ·replace h := bif_t h g11
   refine W_skip ?_
   refine W_seq ?_
   refine W_block ?_
   obtain ⟨g1, g2, g3, h⟩ := gd3 h
   refine Vg hT fN [] [] [2] ⟨[(0, kI l0), (3, kH 0), (4, kI i4_1)], [], [nb 5 (l3_4 ++ [(UInt8.ofInt (l0 / 2 ^ i4_1.toNat))])]⟩ (aP g1 (aP g2 (aP g3 aN))) ?_
   obtain ⟨g4, h⟩ := gd_some h
   refine Vg hT fN [] [] [0] (pInt_l1_E l0 (l3_4 ++ [(UInt8.ofInt (l0 / 2 ^ i4_1.toNat))]) (i4_1 - 8)) (aP g4 aN) ?_
   exact ⟨_, _, rfl, h⟩
  ·replace h := bif_f h g11
   refine Vc [] [0] ⟨[(3, kH 0)], [], [nb 5 l3_4]⟩ (W_exit ?_)
   refine W_join (pInt_j1_P n r) ?_ ?_
   ·rintro _ ⟨l3_6, m3_4, rfl, h⟩
    unfold pInt_j1 at h
    obtain ⟨g5, h⟩ := gd_some h
    refine Vgs hT (fT 1 cloneb_h fN) [] [] [1] ⟨[(2, kH 0)], [], [nb 5 l3_6]⟩ (aP g5 aN) ?_
    refine Vc [] [0] (pInt_R l3_6) (W_ret ?_)
    exact ⟨.inl rfl, by cases h; rfl⟩
   ·refine W_block ?_
    refine Vc [.vw 3 true] [1] (pInt_l2_E l3_4 l3_4.length) (W_lp ((pInt_l2_P n r)) n ⟨_, _, rfl, h⟩ ?_)
    rintro fu_l2 _ ⟨l3_7, m3_5, rfl, h⟩
    cases fu_l2 with
    | zero => cases h
    | succ fu_l2 =>
     refine ⟨fu_l2, rfl, ?_⟩
     rw [pInt_l2] at h
     refine W_seq ?_
     refine W_seq ?_
     rcases Bool.eq_false_or_eq_true (decide ((1 : Int) < ((m3_5 : Nat) : Int))) with g6 | g6
     ·replace h := bif_t h g6
      obtain ⟨r21_5, g7, h⟩ := bind_some' h
      refine Vg hT (fT 5 (pspare_ok n r21_5) fN) [(3, true)] [] [0] ⟨[(3, kH 0), (22, kB r21_5)], [], [⟨(.ro true), 5, 1, m3_5, .b l3_7⟩]⟩ (aP g6 (aP g7 aN)) ?_
      refine Vi (r21_5) (fun g10 => ?_) (fun g10 => ?_)
      ·replace h := bif_t h g10
       refine W_skip ?_
       refine W_block ?_
       obtain ⟨g8, g9, h⟩ := gd2 h
       refine Vg hT fN [] [.vw 3 true] [1] (pInt_l2_E ((l3_7.drop 1).take (m3_5 - 1)) (m3_5 - 1)) (aP g8 (aP g9 aN)) ?_
       exact ⟨_, _, rfl, h⟩
      ·replace h := bif_f h g10
       refine Vc [] [0] (pInt_j1_E l3_7 m3_5) (W_exit ?_)
       exact ⟨_, _, rfl, h⟩
     ·replace h := bif_f h g6
      refine Vg hT fN [(3, false)] [] [0] ⟨[(3, kH 0), (22, kB false)], [], [⟨(.ro true), 5, 1, m3_5, .b l3_7⟩]⟩ (aP g6 aN) ?_
      refine Vi (false) (fun hb => by cases hb) (fun _ => ?_)
      refine Vc [] [0] (pInt_j1_E l3_7 m3_5) (W_exit ?_)
      exact ⟨_, _, rfl, h⟩
def pup_R (r : Bool) : S := ⟨[(0, kB r)], [], []⟩
def pup_ct (n : Nat) (r : Bool) : Ct := ct0 fun H => ([pup n = some r], shA H.length (kB r), shH H.length [])
theorem pup_ok (n : Nat) (r : Bool) : FnOk Try.prog Tr 14 (pup_ct n r) := by
 refine fnok Try.func14 ?_
 refine HO_0 tabO_pr (pup_R r) [.tmp 0] [] 69 Try.func14 fun w hG h => ?_
 unfold pup at h
 have hT := tabO_pr
 refine Vrs hT [] ⟨[], [], []⟩ ?_
 obtain ⟨r12, g1, h⟩ := bind_some' h
 refine Vgs hT (fT 1 (pReadInt_ok n r12) fN) [] [] [] ⟨[(2, kE 31 r12.2)], [], []⟩ (aP g1 aN) ?_
 obtain ⟨r17, g2, h⟩ := bind_some' h
 refine Vgs hT (fT 1 (pOid_ok n r17) fN) [] [] [1] ⟨[(2, kE 31 r12.2), (3, kH 0), (4, kE 31 r17.2)], [], [nb 5 r17.1]⟩ (aP g2 aN) ?_
 obtain ⟨r22, g3, h⟩ := bind_some' h
 refine Vgs hT (fT 1 (pTime_ok n r22) fN) [] [] [0, 1] ⟨[(2, kE 31 r12.2), (3, kH 0), (4, kE 31 r17.2), (5, kU r22.1), (6, kH 1), (7, kE 31 r22.2.2)], [], [nb 5 r17.1, nb 5 r22.2.1]⟩ (aP g3 aN) ?_
 obtain ⟨r28, g4, h⟩ := bind_some' h
 refine Vgs hT (fT 1 (pCount_ok n r28) fN) [] [] [0, 1] ⟨[(2, kE 31 r12.2), (3, kH 0), (4, kE 31 r17.2), (5, kU r22.1), (6, kH 1), (7, kE 31 r22.2.2), (8, kI r28.1), (9, kE 31 r28.2)], [], [nb 5 r17.1, nb 5 r22.2.1]⟩ (aP g4 aN) ?_
 refine W_seq ?_
 obtain ⟨r31, g5, h⟩ := bind_some' h
 rcases Bool.eq_false_or_eq_true (r31 == ([255, 127] : List UInt8)) with g6 | g6
 ·replace h := bif_t h g6
  obtain ⟨g7, h⟩ := gd_some h
  rcases Bool.eq_false_or_eq_true (r12.2 == (some 2)) with g8 | g8
  ·replace h := bif_t h g8
   rcases Bool.eq_false_or_eq_true ((r17.2).isNone) with g9 | g9
   ·replace h := bif_t h g9
    rcases Bool.eq_false_or_eq_true (r17.1 == ([42, 134, 72, 134, 247, 13] : List UInt8)) with g10 | g10
    ·replace h := bif_t h g10
     rcases Bool.eq_false_or_eq_true ((r22.2.2).isNone) with g11 | g11
     ·replace h := bif_t h g11
      rcases Bool.eq_false_or_eq_true (r22.1 == 23) with g12 | g12
      ·replace h := bif_t h g12
       rcases Bool.eq_false_or_eq_true (r22.2.1 == ([52, 57, 49, 50, 51, 49, 50, 51, 53, 57, 53, 57, 90] : List UInt8)) with g13 | g13
       ·replace h := bif_t h g13
        rcases Bool.eq_false_or_eq_true ((r28.2).isNone) with g14 | g14
        ·replace h := bif_t h g14
         refine Vg hT (fT 0 (pInt_ok n r31) fN) [(3, true), (8, true), (12, true), (17, true), (21, true), (25, true), (30, true), (34, true)] [] [] ⟨[(0, kB (r28.1 == 1))], [], []⟩ (aP g5 (aP g6 (aP g7 (aP g8 (aP g9 (aP g10 (aP g11 (aP g12 (aP g13 (aP g14 aN)))))))))) ?_
         refine Vc [] [] (pup_R (r28.1 == 1)) (W_ret ?_)
         exact ⟨.inl rfl, by cases h; rfl⟩
        ·replace h := bif_f h g14
         refine Vg hT (fT 0 (pInt_ok n r31) fN) [(3, true), (8, true), (12, true), (17, true), (21, true), (25, true), (30, true), (34, false)] [] [] ⟨[(0, kB false)], [], []⟩ (aP g5 (aP g6 (aP g7 (aP g8 (aP g9 (aP g10 (aP g11 (aP g12 (aP g13 (aP g14 aN)))))))))) ?_
         refine Vc [] [] (pup_R false) (W_ret ?_)
         exact ⟨.inl rfl, by cases h; rfl⟩
       ·replace h := bif_f h g13
        refine Vg hT (fT 0 (pInt_ok n r31) fN) [(3, true), (8, true), (12, true), (17, true), (21, true), (25, true), (30, false)] [] [] ⟨[(0, kB false)], [], []⟩ (aP g5 (aP g6 (aP g7 (aP g8 (aP g9 (aP g10 (aP g11 (aP g12 (aP g13 aN))))))))) ?_
        refine Vc [] [] (pup_R false) (W_ret ?_)
        exact ⟨.inl rfl, by cases h; rfl⟩
      ·replace h := bif_f h g12
       refine Vg hT (fT 0 (pInt_ok n r31) fN) [(3, true), (8, true), (12, true), (17, true), (21, true), (25, false)] [] [] ⟨[(0, kB false)], [], []⟩ (aP g5 (aP g6 (aP g7 (aP g8 (aP g9 (aP g10 (aP g11 (aP g12 aN)))))))) ?_
       refine Vc [] [] (pup_R false) (W_ret ?_)
       exact ⟨.inl rfl, by cases h; rfl⟩
     ·replace h := bif_f h g11
      refine Vg hT (fT 0 (pInt_ok n r31) fN) [(3, true), (8, true), (12, true), (17, true), (21, false)] [] [] ⟨[(0, kB false)], [], []⟩ (aP g5 (aP g6 (aP g7 (aP g8 (aP g9 (aP g10 (aP g11 aN))))))) ?_
      refine Vc [] [] (pup_R false) (W_ret ?_)
      exact ⟨.inl rfl, by cases h; rfl⟩
    ·replace h := bif_f h g10
     refine Vg hT (fT 0 (pInt_ok n r31) fN) [(3, true), (8, true), (12, true), (17, false)] [] [] ⟨[(0, kB false)], [], []⟩ (aP g5 (aP g6 (aP g7 (aP g8 (aP g9 (aP g10 aN)))))) ?_
     refine Vc [] [] (pup_R false) (W_ret ?_)
     exact ⟨.inl rfl, by cases h; rfl⟩
   ·replace h := bif_f h g9
    refine Vg hT (fT 0 (pInt_ok n r31) fN) [(3, true), (8, true), (12, false)] [] [] ⟨[(0, kB false)], [], []⟩ (aP g5 (aP g6 (aP g7 (aP g8 (aP g9 aN))))) ?_
    refine Vc [] [] (pup_R false) (W_ret ?_)
    exact ⟨.inl rfl, by cases h; rfl⟩
  ·replace h := bif_f h g8
   refine Vg hT (fT 0 (pInt_ok n r31) fN) [(3, true), (8, false)] [] [] ⟨[(0, kB false)], [], []⟩ (aP g5 (aP g6 (aP g7 (aP g8 aN)))) ?_
   refine Vc [] [] (pup_R false) (W_ret ?_)
   exact ⟨.inl rfl, by cases h; rfl⟩
 ·replace h := bif_f h g6
  refine Vg hT (fT 0 (pInt_ok n r31) fN) [(3, false)] [] [] ⟨[(0, kB false)], [], []⟩ (aP g5 (aP g6 aN)) ?_
  refine Vc [] [] (pup_R false) (W_ret ?_)
  exact ⟨.inl rfl, by cases h; rfl⟩
end Go.Proofs.Ytliilihbnhdemaa
end
section
namespace Go.Proofs.Ytliilihbnhdemaa
open Go.RowKit Go.Ch Go.Sx
def tabL_pb : List (TypeId × Ti) := [(3, ⟨.int .i64, 1, 8, true, some [.int .i64]⟩),
 (5, ⟨.int .u8, 1, 1, true, some [.int .u8]⟩),
 (9, ⟨.str, 1, 16, true, some [.str]⟩),
 (22, ⟨.sl 5, 1, 24, false, some [.nils]⟩),
 (28, ⟨.ifc, 1, 16, true, some [.ifc]⟩),
 (31, ⟨.int .i64, 1, 8, true, some [.int .i64]⟩),
 (70, ⟨.sl 89, 1, 24, false, some [.nils]⟩),
 (77, ⟨.sl 3, 1, 24, false, some [.nils]⟩),
 (89, ⟨.int .u32, 1, 4, true, some [.int .u32]⟩)]
def tab_pb : Tab := fun t => (tabL_pb).lookup t
theorem tabE_pb : (tabL_pb.map fun p => tiOf Try.prog p.1) = tabL_pb.map fun p => some p.2 := by kernel_rfl
theorem tabO_pb : TabOk Try.prog tab_pb := tab_of tabE_pb
def ptrim_l1 (n : Nat) : Nat → List UInt32 → Nat → Option (List UInt32 × Nat)
 | 0, _, _ => none
 | fu_l1 + 1, w0_2, m0_2 =>
 bif (decide ((0 : Int) < ((m0_2 : Nat) : Int))) then
 gd (okI .i64 (((m0_2 : Nat) : Int) - 1)) <|
 gd (0 ≤ (((m0_2 : Nat) : Int) - 1)) <|
 gd ((((m0_2 : Nat) : Int) - 1) < ((m0_2 : Nat) : Int)) <|
 bif ((w0_2.getD ((((m0_2 : Nat) : Int) - 1).toNat) 0) == 0) then
 gd (okI .i64 (((m0_2 : Nat) : Int) - 1)) <|
 gd (0 ≤ (((m0_2 : Nat) : Int) - 1)) <|
 gd ((((m0_2 : Nat) : Int) - 1) ≤ ((m0_2 : Nat) : Int)) <|
 (ptrim_l1 n fu_l1) ((w0_2.drop 0).take ((((m0_2 : Nat) : Int) - 1).toNat)) ((((m0_2 : Nat) : Int) - 1).toNat)
 else
 some (w0_2, m0_2)
 else
 some (w0_2, m0_2)
def ptrim (n : Nat) (a0 : List UInt32) : Option (List UInt32 × Nat) :=
 ptrim_l1 n n a0 a0.length
def pWrite_j1 (n : Nat) (a1 : Int) (r10 : List UInt32 × Nat) (i27_1 : Int) (k_l1 : (List UInt8) → Int → Option (List UInt8 × Nat × Option Int)) (l6_7 : List UInt8) : Option (List UInt8 × Nat × Option Int) :=
 gd (okI .i64 (i27_1 + 1)) <|
 k_l1 l6_7 (i27_1 + 1)
def pWrite_l1 (n : Nat) (a1 : Int) (r10 : List UInt32 × Nat) : Nat → List UInt8 → Int → Option (List UInt8 × Nat × Option Int)
 | 0, _, _ => none
 | fu_l1 + 1, l6_5, i27_1 =>
 bif (decide (i27_1 < (4 * ((r10.2 : Nat) : Int)))) then
 gd ((4 : Int) ≠ 0) <|
 gd (okI .i64 (Int.tdiv i27_1 4)) <|
 gd (0 ≤ (Int.tdiv i27_1 4)) <|
 gd ((Int.tdiv i27_1 4) < ((r10.2 : Nat) : Int)) <|
 gd ((4 : Int) ≠ 0) <|
 gd (okI .i64 (8 * (Int.tmod i27_1 4))) <|
 gd (0 ≤ (8 * (Int.tmod i27_1 4))) <|
 bif (decide (i27_1 < a1)) then
 gd (okI .i64 (a1 - 1)) <|
 gd (okI .i64 ((a1 - 1) - i27_1)) <|
 gd (0 ≤ ((a1 - 1) - i27_1)) <|
 gd (((a1 - 1) - i27_1) < ((a1.toNat : Nat) : Int)) <|
 pWrite_j1 n a1 r10 i27_1 (pWrite_l1 n a1 r10 fu_l1) (l6_5.set (((a1 - 1) - i27_1).toNat) ((shr32 (r10.1.getD ((Int.tdiv i27_1 4).toNat) 0) (8 * (Int.tmod i27_1 4))).toUInt8))
 else
 bif (((shr32 (r10.1.getD ((Int.tdiv i27_1 4).toNat) 0) (8 * (Int.tmod i27_1 4))).toUInt8) != 0) then
 some ([], 0, (some 1))
 else
 pWrite_j1 n a1 r10 i27_1 (pWrite_l1 n a1 r10 fu_l1) l6_5
 else
 some (l6_5, a1.toNat, none)
def pWrite (n : Nat) (a0 : List UInt32) (a1 : Int) : Option (List UInt8 × Nat × Option Int) :=
 (ptrim n a0).bind fun r10 =>
 bif (decide ((64 : Int) < ((r10.2 : Nat) : Int))) then
  some ([], 0, (some 4))
 else
  bif (decide (a1 < (0 : Int))) then
   some ([], 0, (some 1))
  else
   bif (decide ((256 : Int) < a1)) then
    some ([], 0, (some 1))
   else
    gd (0 ≤ a1) <|
    gd (a1 = a1) <|
    gd (rmB a1.toNat 1) <|
    gd (okI .i64 (4 * ((r10.2 : Nat) : Int))) <|
    pWrite_l1 n a1 r10 n (List.replicate a1.toNat 0) 0
def pBig_j1 (n : Nat) (l4_4 : List UInt8) (m4_4 : Nat) : Option (List UInt8 × Option Int) :=
 gd ((l4_4).length ≤ 1000000000000) <|
 some (l4_4, none)
def pBig_l1 (n : Nat) : Nat → List UInt8 → Nat → Option (List UInt8 × Option Int)
 | 0, _, _ => none
 | fu_l1 + 1, l4_5, m4_5 =>
  bif (decide ((1 : Int) < ((m4_5 : Nat) : Int))) then
   (pspare n l4_5).bind fun r22_4 =>
   bif r22_4 then
    gd (0 ≤ (1 : Int)) <|
    gd ((1 : Int) ≤ ((m4_5 : Nat) : Int)) <|
    (pBig_l1 n fu_l1) ((l4_5.drop 1).take (m4_5 - 1)) (m4_5 - 1)
   else
    pBig_j1 n l4_5 m4_5
  else
   pBig_j1 n l4_5 m4_5
def pBig (n : Nat) (a0 : List UInt32) : Option (List UInt8 × Option Int) :=
 (pWrite n a0 256).bind fun r8 =>
 bif (!((r8.2.2).isNone)) then
  some ([], (some 4))
 else
  gd (rmB (1 + r8.2.1) 1) <|
  pBig_l1 n n ([0] ++ r8.1) (([0] ++ r8.1).length)
def rtrim_l1 (n : Nat) (a0 : List Int) : Nat → Int → Option (List Int × Nat)
 | 0, _ => none
 | fu_l1 + 1, i3_2 =>
 bif (decide ((0 : Int) < i3_2)) then
 gd (okI .i64 (i3_2 - 1)) <|
 gd (0 ≤ (i3_2 - 1)) <|
 gd ((i3_2 - 1) < ((a0.length : Nat) : Int)) <|
 bif ((a0.getD ((i3_2 - 1).toNat) 0) == 0) then
 gd (okI .i64 (i3_2 - 1)) <|
 (rtrim_l1 n a0 fu_l1) (i3_2 - 1)
 else
 gd (0 ≤ i3_2) <|
 gd (i3_2 ≤ ((a0.length : Nat) : Int)) <|
 some (a0, i3_2.toNat)
 else
 gd (0 ≤ i3_2) <|
 gd (i3_2 ≤ ((a0.length : Nat) : Int)) <|
 some (a0, i3_2.toNat)
def rtrim (n : Nat) (a0 : List Int) : Option (List Int × Nat) :=
 rtrim_l1 n a0 n ((a0.length : Nat) : Int)
def rOf_l1 (n : Nat) (a0 : List UInt32) : Nat → List Int → Int → Option (List Int × Nat)
 | 0, _, _ => none
 | fu_l1 + 1, z3_2, i4_2 =>
  bif (decide (i4_2 < ((a0.length : Nat) : Int))) then
   gd (0 ≤ i4_2) <|
   gd (i4_2 < ((a0.length : Nat) : Int)) <|
   gd ((65536 : UInt32) ≠ 0) <|
   gd (0 ≤ i4_2) <|
   gd (i4_2 < ((a0.length : Nat) : Int)) <|
   gd ((65536 : UInt32) ≠ 0) <|
   gd (rmB (z3_2.length + 2) 8) <|
   gd (okI .i64 (i4_2 + 1)) <|
   (rOf_l1 n a0 fu_l1) (z3_2 ++ [((((a0.getD i4_2.toNat 0) % (65536 : UInt32)).toNat : Nat) : Int), ((((a0.getD i4_2.toNat 0) / (65536 : UInt32)).toNat : Nat) : Int)]) (i4_2 + 1)
  else
   (rtrim n z3_2).bind fun r27_2 =>
   some (((z3_2.drop 0).take r27_2.2), r27_2.2)
def rOf (n : Nat) (a0 : List UInt32) : Option (List Int × Nat) :=
 rOf_l1 n a0 n [] 0
def pRead_l1 (n : Nat) (l0_4 : List UInt8) (m0_4 : Nat) : Nat → List UInt32 → Int → Option (List UInt32 × Nat × Option Int)
 | 0, _, _ => none
 | fu_l1 + 1, w4_1, i30_1 =>
 bif (decide (i30_1 < ((m0_4 : Nat) : Int))) then
 gd (0 ≤ i30_1) <|
 gd (i30_1 < ((m0_4 : Nat) : Int)) <|
 gd (okI .i64 (((m0_4 : Nat) : Int) - 1)) <|
 gd (okI .i64 ((((m0_4 : Nat) : Int) - 1) - i30_1)) <|
 gd ((4 : Int) ≠ 0) <|
 gd (okI .i64 (Int.tdiv ((((m0_4 : Nat) : Int) - 1) - i30_1) 4)) <|
 gd (0 ≤ (Int.tdiv ((((m0_4 : Nat) : Int) - 1) - i30_1) 4)) <|
 gd ((Int.tdiv ((((m0_4 : Nat) : Int) - 1) - i30_1) 4) < (((Int.tdiv (((m0_4 : Nat) : Int) + 3) 4).toNat : Nat) : Int)) <|
 gd ((4 : Int) ≠ 0) <|
 gd (okI .i64 (8 * (Int.tmod ((((m0_4 : Nat) : Int) - 1) - i30_1) 4))) <|
 gd (0 ≤ (8 * (Int.tmod ((((m0_4 : Nat) : Int) - 1) - i30_1) 4))) <|
 gd (0 ≤ (Int.tdiv ((((m0_4 : Nat) : Int) - 1) - i30_1) 4)) <|
 gd ((Int.tdiv ((((m0_4 : Nat) : Int) - 1) - i30_1) 4) < (((Int.tdiv (((m0_4 : Nat) : Int) + 3) 4).toNat : Nat) : Int)) <|
 gd (okI .i64 (i30_1 + 1)) <|
 (pRead_l1 n l0_4 m0_4 fu_l1) (w4_1.set ((Int.tdiv ((((m0_4 : Nat) : Int) - 1) - i30_1) 4).toNat) ((w4_1.getD ((Int.tdiv ((((m0_4 : Nat) : Int) - 1) - i30_1) 4).toNat) 0) ||| (shl32 ((l0_4.getD i30_1.toNat 0).toUInt32) (8 * (Int.tmod ((((m0_4 : Nat) : Int) - 1) - i30_1) 4))))) (i30_1 + 1)
 else
 some (w4_1, (Int.tdiv (((m0_4 : Nat) : Int) + 3) 4).toNat, none)
def pRead_j1 (n : Nat) (l0_4 : List UInt8) (m0_4 : Nat) : Option (List UInt32 × Nat × Option Int) :=
 bif (decide ((256 : Int) < ((m0_4 : Nat) : Int))) then
 some ([], 0, (some 4))
 else
 gd (okI .i64 (((m0_4 : Nat) : Int) + 3)) <|
 gd ((4 : Int) ≠ 0) <|
 gd (okI .i64 (Int.tdiv (((m0_4 : Nat) : Int) + 3) 4)) <|
 gd (0 ≤ (Int.tdiv (((m0_4 : Nat) : Int) + 3) 4)) <|
 gd ((Int.tdiv (((m0_4 : Nat) : Int) + 3) 4) = (Int.tdiv (((m0_4 : Nat) : Int) + 3) 4)) <|
 gd (rmB ((Int.tdiv (((m0_4 : Nat) : Int) + 3) 4).toNat) 4) <|
 pRead_l1 n l0_4 m0_4 n (List.replicate ((Int.tdiv (((m0_4 : Nat) : Int) + 3) 4).toNat) 0) 0
def pRead_l2 (n : Nat) : Nat → List UInt8 → Nat → Option (List UInt32 × Nat × Option Int)
 | 0, _, _ => none
 | fu_l2 + 1, l0_5, m0_5 =>
 bif (decide ((0 : Int) < ((m0_5 : Nat) : Int))) then
 gd (0 ≤ (0 : Int)) <|
 gd ((0 : Int) < ((m0_5 : Nat) : Int)) <|
 bif ((l0_5.getD 0 0) == 0) then
 gd (0 ≤ (1 : Int)) <|
 gd ((1 : Int) ≤ ((m0_5 : Nat) : Int)) <|
 (pRead_l2 n fu_l2) ((l0_5.drop 1).take (m0_5 - 1)) (m0_5 - 1)
 else
 pRead_j1 n l0_5 m0_5
 else
 pRead_j1 n l0_5 m0_5
def pRead (n : Nat) (a0 : List UInt8) : Option (List UInt32 × Nat × Option Int) :=
 pRead_l2 n n a0 a0.length
def pReadBig (n : Nat) (a0 : List UInt8) : Option (List UInt32 × Nat × Option Int) :=
 bif (((a0.length : Nat) : Int) == 0) then
  some ([], 0, (some 2))
 else
  gd (0 ≤ (0 : Int)) <|
  gd ((0 : Int) < ((a0.length : Nat) : Int)) <|
  bif (decide ((128 : UInt8) ≤ (a0.getD 0 0))) then
   some ([], 0, (some 2))
  else
   bif (decide ((1 : Int) < ((a0.length : Nat) : Int))) then
    (pspare n a0).bind fun r19 =>
    bif r19 then
     some ([], 0, (some 2))
    else
     (pRead n a0).bind fun r24 =>
     some (r24.1, r24.2.1, r24.2.2)
   else
    (pRead n a0).bind fun r24 =>
    some (r24.1, r24.2.1, r24.2.2)
def rTo_j1 (n : Nat) (a0 : List Int) (w3_2 : List UInt32) (i4_2 : Int) (k_l1 : (List UInt32) → Int → Option (List UInt32)) (x5_8 : UInt32) : Option (List UInt32) :=
 gd (rmB (w3_2.length + 1) 4) <|
 gd (okI .i64 (i4_2 + 2)) <|
 k_l1 (w3_2 ++ [x5_8]) (i4_2 + 2)
def rTo_l1 (n : Nat) (a0 : List Int) : Nat → List UInt32 → Int → Option (List UInt32)
 | 0, _, _ => none
 | fu_l1 + 1, w3_2, i4_2 =>
 bif (decide (i4_2 < ((a0.length : Nat) : Int))) then
 gd (0 ≤ i4_2) <|
 gd (i4_2 < ((a0.length : Nat) : Int)) <|
 gd (okI .i64 (i4_2 + 1)) <|
 bif (decide ((i4_2 + 1) < ((a0.length : Nat) : Int))) then
 gd (okI .i64 (i4_2 + 1)) <|
 gd (0 ≤ (i4_2 + 1)) <|
 gd ((i4_2 + 1) < ((a0.length : Nat) : Int)) <|
 rTo_j1 n a0 w3_2 i4_2 (rTo_l1 n a0 fu_l1) ((UInt32.ofInt (a0.getD i4_2.toNat 0)) + ((UInt32.ofInt (a0.getD ((i4_2 + 1).toNat) 0)) * (65536 : UInt32)))
 else
 rTo_j1 n a0 w3_2 i4_2 (rTo_l1 n a0 fu_l1) (UInt32.ofInt (a0.getD i4_2.toNat 0))
 else
 some w3_2
def rTo (n : Nat) (a0 : List Int) : Option (List UInt32) :=
 rTo_l1 n a0 n [] 0
def rSame_l1 (n : Nat) (a0 : List UInt32) (r8 : List UInt32) : Nat → Int → Option (Bool)
 | 0, _ => none
 | fu_l1 + 1, i6_2 =>
 bif (decide (i6_2 < ((a0.length : Nat) : Int))) then
 gd (0 ≤ i6_2) <|
 gd (i6_2 < ((a0.length : Nat) : Int)) <|
 gd (0 ≤ i6_2) <|
 gd (i6_2 < ((r8.length : Nat) : Int)) <|
 bif ((a0.getD i6_2.toNat 0) != (r8.getD i6_2.toNat 0)) then
 some false
 else
 gd (okI .i64 (i6_2 + 1)) <|
 (rSame_l1 n a0 r8 fu_l1) (i6_2 + 1)
 else
 some true
def rSame (n : Nat) (a0 : List UInt32) (a1 : List Int) : Option (Bool) :=
 (rTo n a1).bind fun r8 =>
 bif (((a0.length : Nat) : Int) != ((r8.length : Nat) : Int)) then
  some false
 else
  rSame_l1 n a0 r8 n 0
def ptrim_l1_E (w0_2 : List UInt32) (m0_2 : Nat) : S := ⟨[(0, kH 0)], [], [⟨(.ro false), 89, 1, m0_2, .w w0_2⟩]⟩
abbrev ptrim_l1_P (n : Nat) (r : List UInt32 × Nat) (fu : Nat) : S → Prop := fun s => ∃ (w0_2 : List UInt32), ∃ (m0_2 : Nat), s = ptrim_l1_E w0_2 m0_2 ∧ ptrim_l1 n fu w0_2 m0_2 = some r
def ptrim_R (r : List UInt32 × Nat) : S := ⟨[(2, kH 0)], [], [⟨(.ro false), 89, 1, r.2, .w r.1⟩]⟩
def ptrim_ct (n : Nat) (r : List UInt32 × Nat) : Ct := ctc (rW 89).rd fun _ l0 => ct0 fun H => ([ptrim n l0 = some r], shA H.length (kH 0), shH H.length [⟨(.ro false), 89, 1, r.2, .w r.1⟩])
theorem ptrim_ok (n : Nat) (r : List UInt32 × Nat) : FnOk Try.prog Tr 83 (ptrim_ct n r) := by
 refine fnok Try.func83 ?_
 refine HO_c (rW 89) fun l0 _ => HO_0 tabO_pb (ptrim_R r) [.tmp 2] [0] 21 Try.func83 fun w hG h => ?_
 unfold ptrim at h
 have hT := tabO_pb
 refine Vrs hT [0] ⟨[(0, kH 0)], [], [ow 89 l0]⟩ ?_
 refine W_seq ?_
 refine W_block ?_
 refine Vc [] [0] (ptrim_l1_E l0 l0.length) (W_lp ((ptrim_l1_P n r)) n ⟨_, _, rfl, h⟩ ?_)
 rintro fu_l1 _ ⟨w0_2, m0_2, rfl, h⟩
 cases fu_l1 with
 | zero => cases h
 | succ fu_l1 =>
  refine ⟨fu_l1, rfl, ?_⟩
  rw [ptrim_l1] at h
  refine W_seq ?_
  refine W_seq ?_
  rcases Bool.eq_false_or_eq_true (decide ((0 : Int) < ((m0_2 : Nat) : Int))) with g1 | g1
  ·replace h := bif_t h g1
   obtain ⟨g2, g3, g4, h⟩ := gd3 h
   refine Vg hT fN [(3, true)] [] [0] ⟨[(0, kH 0), (14, kB ((w0_2.getD ((((m0_2 : Nat) : Int) - 1).toNat) 0) == 0))], [], [⟨(.ro false), 89, 1, m0_2, .w w0_2⟩]⟩ (aP g1 (aP g2 (aP g3 (aP g4 aN)))) ?_
   refine Vi (((w0_2.getD ((((m0_2 : Nat) : Int) - 1).toNat) 0) == 0)) (fun g8 => ?_) (fun g8 => ?_)
   ·replace h := bif_t h g8
    refine W_skip ?_
    refine W_block ?_
    obtain ⟨g5, g6, g7, h⟩ := gd3 h
    refine Vg hT fN [] [.vw 0 false] [1] (ptrim_l1_E ((w0_2.drop 0).take ((((m0_2 : Nat) : Int) - 1).toNat)) ((((m0_2 : Nat) : Int) - 1).toNat)) (aP g5 (aP g6 (aP g7 aN))) ?_
    exact ⟨_, _, rfl, h⟩
   ·replace h := bif_f h g8
    refine Vc [] [0] ⟨[(0, kH 0)], [], [⟨(.ro false), 89, 1, m0_2, .w w0_2⟩]⟩ (W_exit ?_)
    refine Vrs hT [0] ⟨[(2, kH 0)], [], [⟨(.ro false), 89, 1, m0_2, .w w0_2⟩]⟩ ?_
    refine Vc [] [0] (ptrim_R (w0_2, m0_2)) (W_ret ?_)
    exact ⟨.inl rfl, by cases h; rfl⟩
  ·replace h := bif_f h g1
   refine Vg hT fN [(3, false)] [] [0] ⟨[(0, kH 0), (14, kB false)], [], [⟨(.ro false), 89, 1, m0_2, .w w0_2⟩]⟩ (aP g1 aN) ?_
   refine Vi (false) (fun hb => by cases hb) (fun _ => ?_)
   refine Vc [] [0] ⟨[(0, kH 0)], [], [⟨(.ro false), 89, 1, m0_2, .w w0_2⟩]⟩ (W_exit ?_)
   refine Vrs hT [0] ⟨[(2, kH 0)], [], [⟨(.ro false), 89, 1, m0_2, .w w0_2⟩]⟩ ?_
   refine Vc [] [0] (ptrim_R (w0_2, m0_2)) (W_ret ?_)
   exact ⟨.inl rfl, by cases h; rfl⟩
def pWrite_j1_E (a1 : Int) (r10 : List UInt32 × Nat) (i27_1 : Int) (l6_7 : List UInt8) : S := ⟨[(0, kH 0), (1, kI a1), (6, kH 1), (26, kI (4 * ((r10.2 : Nat) : Int))), (27, kI i27_1)], [], [⟨(.ro false), 89, 1, r10.2, .w r10.1⟩, ⟨.row, 5, 1, a1.toNat, .b l6_7⟩]⟩
abbrev pWrite_j1_P (n : Nat) (a1 : Int) (r10 : List UInt32 × Nat) (i27_1 : Int) (k_l1 : (List UInt8) → Int → Option (List UInt8 × Nat × Option Int)) (r : List UInt8 × Nat × Option Int) : S → Prop := fun s => ∃ (l6_7 : List UInt8), s = pWrite_j1_E a1 r10 i27_1 l6_7 ∧ pWrite_j1 n a1 r10 i27_1 k_l1 l6_7 = some r
def pWrite_l1_E (a1 : Int) (r10 : List UInt32 × Nat) (l6_5 : List UInt8) (i27_1 : Int) : S := ⟨[(0, kH 0), (1, kI a1), (6, kH 1), (26, kI (4 * ((r10.2 : Nat) : Int))), (27, kI i27_1)], [], [⟨(.ro false), 89, 1, r10.2, .w r10.1⟩, ⟨.row, 5, 1, a1.toNat, .b l6_5⟩]⟩
abbrev pWrite_l1_P (n : Nat) (a1 : Int) (r10 : List UInt32 × Nat) (r : List UInt8 × Nat × Option Int) (fu : Nat) : S → Prop := fun s => ∃ (l6_5 : List UInt8), ∃ (i27_1 : Int), s = pWrite_l1_E a1 r10 l6_5 i27_1 ∧ pWrite_l1 n a1 r10 fu l6_5 i27_1 = some r
def pWrite_R (r : List UInt8 × Nat × Option Int) : S := ⟨[(4, kH 0), (5, kE 31 r.2.2)], [], [⟨.row, 5, 1, r.2.1, .b r.1⟩]⟩
def pWrite_ct (n : Nat) (r : List UInt8 × Nat × Option Int) : Ct := ctc (rW 89).rd fun _ l0 => ctc rI.rd fun _ l1 => ct0 fun H => ([pWrite n l0 l1 = some r], shA H.length (.t [.c (.wh 0), .c (.s (.er 31 .i64 r.2.2))]), shH H.length [⟨.row, 5, 1, r.2.1, .b r.1⟩])
theorem pWrite_ok (n : Nat) (r : List UInt8 × Nat × Option Int) : FnOk Try.prog Tr 68 (pWrite_ct n r) := by
 refine fnok Try.func68 ?_
 refine HO_c (rW 89) fun l0 _ => HO_c rI fun l1 _ => HO_0 tabO_pb (pWrite_R r) [.tmp 4, .tmp 5] [0] 55 Try.func68 fun w hG h => ?_
 unfold pWrite at h
 have hT := tabO_pb
 refine Vrs hT [0] ⟨[(0, kH 0), (1, kI l1)], [], [ow 89 l0]⟩ ?_
 obtain ⟨r10, g1, h⟩ := bind_some' h
 refine Vgs hT (fT 1 (ptrim_ok n r10) fN) [] [] [1] ⟨[(0, kH 0), (1, kI l1)], [], [⟨(.ro false), 89, 1, r10.2, .w r10.1⟩]⟩ (aP g1 aN) ?_
 refine W_seq ?_
 refine Vrs hT [0] ⟨[(0, kH 0), (1, kI l1), (13, kB (decide ((64 : Int) < ((r10.2 : Nat) : Int))))], [], [⟨(.ro false), 89, 1, r10.2, .w r10.1⟩]⟩ ?_
 refine Vi ((decide ((64 : Int) < ((r10.2 : Nat) : Int)))) (fun g23 => ?_) (fun g23 => ?_)
 ·replace h := bif_t h g23
  refine Vrs hT [] ⟨[(4, .c (.nils)), (5, kE 31 (some 4))], [], []⟩ ?_
  refine Vc [.nil 4 5 1 (.b [])] [0] (pWrite_R ([], 0, (some 4))) (W_ret ?_)
  exact ⟨.inl rfl, by cases h; rfl⟩
 ·replace h := bif_f h g23
  refine Vc [] [0] ⟨[(0, kH 0), (1, kI l1)], [], [⟨(.ro false), 89, 1, r10.2, .w r10.1⟩]⟩ (W_skip ?_)
  refine W_seq ?_
  refine W_seq ?_
  rcases Bool.eq_false_or_eq_true (decide (l1 < (0 : Int))) with g2 | g2
  ·replace h := bif_t h g2
   refine Vg hT fN [(2, true)] [] [0] ⟨[(0, kH 0), (1, kI l1), (20, kB true)], [], [⟨(.ro false), 89, 1, r10.2, .w r10.1⟩]⟩ (aP g2 aN) ?_
   refine Vi (true) (fun _ => ?_) (fun hb => by cases hb)
   refine Vrs hT [] ⟨[(4, .c (.nils)), (5, kE 31 (some 1))], [], []⟩ ?_
   refine Vc [.nil 4 5 1 (.b [])] [0] (pWrite_R ([], 0, (some 1))) (W_ret ?_)
   exact ⟨.inl rfl, by cases h; rfl⟩
  ·replace h := bif_f h g2
   refine Vg hT fN [(2, false)] [] [0] ⟨[(0, kH 0), (1, kI l1), (20, kB (decide ((256 : Int) < l1)))], [], [⟨(.ro false), 89, 1, r10.2, .w r10.1⟩]⟩ (aP g2 aN) ?_
   refine Vi ((decide ((256 : Int) < l1))) (fun g22 => ?_) (fun g22 => ?_)
   ·replace h := bif_t h g22
    refine Vrs hT [] ⟨[(4, .c (.nils)), (5, kE 31 (some 1))], [], []⟩ ?_
    refine Vc [.nil 4 5 1 (.b [])] [0] (pWrite_R ([], 0, (some 1))) (W_ret ?_)
    exact ⟨.inl rfl, by cases h; rfl⟩
   ·replace h := bif_f h g22
    refine W_skip ?_
    obtain ⟨g3, g4, g5, h⟩ := gd3 h
    refine Vgs hT fN [] [] [0, 1] ⟨[(0, kH 0), (1, kI l1), (6, kH 1)], [], [⟨(.ro false), 89, 1, r10.2, .w r10.1⟩, ⟨.row, 5, 1, l1.toNat, .b (List.replicate l1.toNat 0)⟩]⟩ (aP g3 (aP g4 (aP g5 aN))) ?_
    refine W_seq ?_
    obtain ⟨g6, h⟩ := gd_some h
    refine Vgs hT fN [] [] [0, 1] ⟨[(0, kH 0), (1, kI l1), (6, kH 1), (26, kI (4 * ((r10.2 : Nat) : Int))), (27, kI 0)], [], [⟨(.ro false), 89, 1, r10.2, .w r10.1⟩, ⟨.row, 5, 1, l1.toNat, .b (List.replicate l1.toNat 0)⟩]⟩ (aP g6 aN) ?_
    refine W_block ?_
    refine Vc [] [0, 1] (pWrite_l1_E l1 r10 (List.replicate l1.toNat 0) 0) (W_lp ((pWrite_l1_P n l1 r10 r)) n ⟨_, _, rfl, h⟩ ?_)
    rintro fu_l1 _ ⟨l6_5, i27_1, rfl, h⟩
    cases fu_l1 with
    | zero => cases h
    | succ fu_l1 =>
     refine ⟨fu_l1, rfl, ?_⟩
     rw [pWrite_l1] at h
     refine Vrs hT [0, 1] ⟨[(0, kH 0), (1, kI l1), (6, kH 1), (26, kI (4 * ((r10.2 : Nat) : Int))), (27, kI i27_1), (28, kB (decide (i27_1 < (4 * ((r10.2 : Nat) : Int)))))], [], [⟨(.ro false), 89, 1, r10.2, .w r10.1⟩, ⟨.row, 5, 1, l1.toNat, .b l6_5⟩]⟩ ?_
     refine W_seq ?_
     refine Vi ((decide (i27_1 < (4 * ((r10.2 : Nat) : Int))))) (fun g21 => ?_) (fun g21 => ?_)
     ·replace h := bif_t h g21
      refine Vc [] [0, 1] ⟨[(0, kH 0), (1, kI l1), (6, kH 1), (26, kI (4 * ((r10.2 : Nat) : Int))), (27, kI i27_1)], [], [⟨(.ro false), 89, 1, r10.2, .w r10.1⟩, ⟨.row, 5, 1, l1.toNat, .b l6_5⟩]⟩ (W_skip ?_)
      refine W_join (pWrite_j1_P n l1 r10 i27_1 (pWrite_l1 n l1 r10 fu_l1) r) ?_ ?_
      ·rintro _ ⟨l6_7, rfl, h⟩
       unfold pWrite_j1 at h
       obtain ⟨g7, h⟩ := gd_some h
       refine Vg hT fN [] [] [0, 1] (pWrite_l1_E l1 r10 l6_7 (i27_1 + 1)) (aP g7 aN) ?_
       exact ⟨_, _, rfl, h⟩
      ·refine W_block ?_
       refine Vrs hT [0, 1] ⟨[(0, kH 0), (1, kI l1), (6, kH 1), (7, kI i27_1), (26, kI (4 * ((r10.2 : Nat) : Int))), (27, kI i27_1)], [], [⟨(.ro false), 89, 1, r10.2, .w r10.1⟩, ⟨.row, 5, 1, l1.toNat, .b l6_5⟩]⟩ ?_
       obtain ⟨g8, g9, g10, g11, g12, h⟩ := gd5 h
       obtain ⟨g13, g14, h⟩ := gd2 h
       refine Vgs hT fN [] [] [0, 1] ⟨[(0, kH 0), (1, kI l1), (6, kH 1), (7, kI i27_1), (8, kU ((shr32 (r10.1.getD ((Int.tdiv i27_1 4).toNat) 0) (8 * (Int.tmod i27_1 4))).toUInt8)), (26, kI (4 * ((r10.2 : Nat) : Int))), (27, kI i27_1)], [], [⟨(.ro false), 89, 1, r10.2, .w r10.1⟩, ⟨.row, 5, 1, l1.toNat, .b l6_5⟩]⟩ (aP g8 (aP g9 (aP g10 (aP g11 (aP g12 (aP g13 (aP g14 aN))))))) ?_
       refine Vrs hT [0, 1] ⟨[(0, kH 0), (1, kI l1), (6, kH 1), (7, kI i27_1), (8, kU ((shr32 (r10.1.getD ((Int.tdiv i27_1 4).toNat) 0) (8 * (Int.tmod i27_1 4))).toUInt8)), (26, kI (4 * ((r10.2 : Nat) : Int))), (27, kI i27_1), (42, kB (decide (i27_1 < l1)))], [], [⟨(.ro false), 89, 1, r10.2, .w r10.1⟩, ⟨.row, 5, 1, l1.toNat, .b l6_5⟩]⟩ ?_
       refine Vi ((decide (i27_1 < l1))) (fun g20 => ?_) (fun g20 => ?_)
       ·replace h := bif_t h g20
        obtain ⟨g15, g16, g17, g18, h⟩ := gd4 h
        refine Vg hT fN [] [] [0, 1] (pWrite_j1_E l1 r10 i27_1 (l6_5.set (((l1 - 1) - i27_1).toNat) ((shr32 (r10.1.getD ((Int.tdiv i27_1 4).toNat) 0) (8 * (Int.tmod i27_1 4))).toUInt8))) (aP g15 (aP g16 (aP g17 (aP g18 aN)))) ?_
        exact ⟨_, rfl, h⟩
       ·replace h := bif_f h g20
        refine Vrs hT [0, 1] ⟨[(0, kH 0), (1, kI l1), (6, kH 1), (26, kI (4 * ((r10.2 : Nat) : Int))), (27, kI i27_1), (51, kB (((shr32 (r10.1.getD ((Int.tdiv i27_1 4).toNat) 0) (8 * (Int.tmod i27_1 4))).toUInt8) != 0))], [], [⟨(.ro false), 89, 1, r10.2, .w r10.1⟩, ⟨.row, 5, 1, l1.toNat, .b l6_5⟩]⟩ ?_
        refine Vi ((((shr32 (r10.1.getD ((Int.tdiv i27_1 4).toNat) 0) (8 * (Int.tmod i27_1 4))).toUInt8) != 0)) (fun g19 => ?_) (fun g19 => ?_)
        ·replace h := bif_t h g19
         refine Vrs hT [] ⟨[(4, .c (.nils)), (5, kE 31 (some 1))], [], []⟩ ?_
         refine Vc [.nil 4 5 1 (.b [])] [0] (pWrite_R ([], 0, (some 1))) (W_ret ?_)
         exact ⟨.inl rfl, by cases h; rfl⟩
        ·replace h := bif_f h g19
         refine Vc [] [0, 1] (pWrite_j1_E l1 r10 i27_1 l6_5) (W_skip ?_)
         exact ⟨_, rfl, h⟩
     ·replace h := bif_f h g21
      refine Vc [] [1] ⟨[(6, kH 0)], [], [⟨.row, 5, 1, l1.toNat, .b l6_5⟩]⟩ (W_exit ?_)
      refine Vrs hT [0] ⟨[(4, kH 0), (5, .c (.s (.v .nilIface)))], [], [⟨.row, 5, 1, l1.toNat, .b l6_5⟩]⟩ ?_
      refine Vc [.er 5 31 .i64] [0] (pWrite_R (l6_5, l1.toNat, none)) (W_ret ?_)
      exact ⟨.inl rfl, by cases h; rfl⟩
def pBig_j1_E (l4_4 : List UInt8) (m4_4 : Nat) : S := ⟨[(4, kH 0)], [], [⟨(.ro true), 5, 1, m4_4, .b l4_4⟩]⟩
abbrev pBig_j1_P (n : Nat) (r : List UInt8 × Option Int) : S → Prop := fun s => ∃ (l4_4 : List UInt8), ∃ (m4_4 : Nat), s = pBig_j1_E l4_4 m4_4 ∧ pBig_j1 n l4_4 m4_4 = some r
def pBig_l1_E (l4_5 : List UInt8) (m4_5 : Nat) : S := ⟨[(4, kH 0)], [], [⟨(.ro true), 5, 1, m4_5, .b l4_5⟩]⟩
abbrev pBig_l1_P (n : Nat) (r : List UInt8 × Option Int) (fu : Nat) : S → Prop := fun s => ∃ (l4_5 : List UInt8), ∃ (m4_5 : Nat), s = pBig_l1_E l4_5 m4_5 ∧ pBig_l1 n fu l4_5 m4_5 = some r
def pBig_R (r : List UInt8 × Option Int) : S := ⟨[(2, kH 0), (3, kE 31 r.2)], [], [nb 5 r.1]⟩
def pBig_ct (n : Nat) (r : List UInt8 × Option Int) : Ct := ctc (rW 89).rd fun _ l0 => ct0 fun H => ([pBig n l0 = some r], shA H.length (.t [.c (.wh 0), .c (.s (.er 31 .i64 r.2))]), shH H.length [nb 5 r.1])
theorem pBig_ok (n : Nat) (r : List UInt8 × Option Int) : FnOk Try.prog Tr 38 (pBig_ct n r) := by
 refine fnok Try.func38 ?_
 refine HO_c (rW 89) fun l0 _ => HO_0 tabO_pb (pBig_R r) [.tmp 2, .tmp 3] [0] 28 Try.func38 fun w hG h => ?_
 unfold pBig at h
 have hT := tabO_pb
 refine Vrs hT [0] ⟨[(0, kH 0)], [], [ow 89 l0]⟩ ?_
 obtain ⟨r8, g1, h⟩ := bind_some' h
 refine Vgs hT (fT 1 (pWrite_ok n r8) fN) [] [] [1] ⟨[(4, kH 0), (5, kE 31 r8.2.2)], [], [⟨.row, 5, 1, r8.2.1, .b r8.1⟩]⟩ (aP g1 aN) ?_
 refine W_seq ?_
 refine Vrs hT [0] ⟨[(4, kH 0), (12, kB (!((r8.2.2).isNone)))], [], [⟨.row, 5, 1, r8.2.1, .b r8.1⟩]⟩ ?_
 refine Vi ((!((r8.2.2).isNone))) (fun g9 => ?_) (fun g9 => ?_)
 ·replace h := bif_t h g9
  refine Vrs hT [] ⟨[(2, .c (.nils)), (3, kE 31 (some 4))], [], []⟩ ?_
  refine Vc [.nil 2 5 1 (.b [])] [0] (pBig_R ([], (some 4))) (W_ret ?_)
  exact ⟨.inl rfl, by cases h; rfl⟩
 ·replace h := bif_f h g9
  refine W_skip ?_
  obtain ⟨g2, h⟩ := gd_some h
  refine Vgs hT fN [] [] [2] ⟨[(4, kH 0)], [], [nb 5 ([0] ++ r8.1)]⟩ (aP g2 aN) ?_
  refine W_join (pBig_j1_P n r) ?_ ?_
  ·rintro _ ⟨l4_4, m4_4, rfl, h⟩
   unfold pBig_j1 at h
   obtain ⟨g3, h⟩ := gd_some h
   refine Vgs hT (fT 1 cloneb_h fN) [] [] [1] ⟨[(2, kH 0), (3, .c (.s (.v .nilIface)))], [], [nb 5 l4_4]⟩ (aP g3 aN) ?_
   refine Vc [.er 3 31 .i64] [0] (pBig_R (l4_4, none)) (W_ret ?_)
   exact ⟨.inl rfl, by cases h; rfl⟩
  ·refine W_block ?_
   refine Vc [.vw 4 true] [1] (pBig_l1_E ([0] ++ r8.1) (([0] ++ r8.1).length)) (W_lp ((pBig_l1_P n r)) n ⟨_, _, rfl, h⟩ ?_)
   rintro fu_l1 _ ⟨l4_5, m4_5, rfl, h⟩
   cases fu_l1 with
   | zero => cases h
   | succ fu_l1 =>
    refine ⟨fu_l1, rfl, ?_⟩
    rw [pBig_l1] at h
    refine W_seq ?_
    refine W_seq ?_
    rcases Bool.eq_false_or_eq_true (decide ((1 : Int) < ((m4_5 : Nat) : Int))) with g4 | g4
    ·replace h := bif_t h g4
     obtain ⟨r22_4, g5, h⟩ := bind_some' h
     refine Vg hT (fT 5 (pspare_ok n r22_4) fN) [(3, true)] [] [0] ⟨[(4, kH 0), (23, kB r22_4)], [], [⟨(.ro true), 5, 1, m4_5, .b l4_5⟩]⟩ (aP g4 (aP g5 aN)) ?_
     refine Vi (r22_4) (fun g8 => ?_) (fun g8 => ?_)
     ·replace h := bif_t h g8
      refine W_skip ?_
      refine W_block ?_
      obtain ⟨g6, g7, h⟩ := gd2 h
      refine Vg hT fN [] [.vw 4 true] [1] (pBig_l1_E ((l4_5.drop 1).take (m4_5 - 1)) (m4_5 - 1)) (aP g6 (aP g7 aN)) ?_
      exact ⟨_, _, rfl, h⟩
     ·replace h := bif_f h g8
      refine Vc [] [0] (pBig_j1_E l4_5 m4_5) (W_exit ?_)
      exact ⟨_, _, rfl, h⟩
    ·replace h := bif_f h g4
     refine Vg hT fN [(3, false)] [] [0] ⟨[(4, kH 0), (23, kB false)], [], [⟨(.ro true), 5, 1, m4_5, .b l4_5⟩]⟩ (aP g4 aN) ?_
     refine Vi (false) (fun hb => by cases hb) (fun _ => ?_)
     refine Vc [] [0] (pBig_j1_E l4_5 m4_5) (W_exit ?_)
     exact ⟨_, _, rfl, h⟩
def rtrim_l1_E (a0 : List Int) (i3_2 : Int) : S := ⟨[(0, kH 0), (3, kI i3_2)], [(1000000, kH 0)], [oz 3 a0]⟩
abbrev rtrim_l1_P (n : Nat) (a0 : List Int) (r : List Int × Nat) (fu : Nat) : S → Prop := fun s => ∃ (i3_2 : Int), s = rtrim_l1_E a0 i3_2 ∧ rtrim_l1 n a0 fu i3_2 = some r
def rtrim_R (r : List Int × Nat) : S := ⟨[(2, .c (.sl 0 0 r.2))], [(1000000, kH 0)], [oz 3 r.1]⟩
def rtrim_ct (n : Nat) (r : List Int × Nat) : Ct := ctc aZ fun x0 l0 => ctl (fun H => subC 0 r.2 x0) fun ys => ct0 fun H => ([rtrim n l0 = some r], ys, [])
theorem rtrim_ok (n : Nat) (r : List Int × Nat) : FnOk Try.prog Tr 71 (rtrim_ct n r) := by
 refine ⟨fun args H g av objs hF hg ρ w vals hG hp ha => ?_, _, Try.func71, by kernel_rfl, by kernel_rfl⟩
 obtain ⟨x0, _, l0, rfl, e0, hF⟩ := ctc_inv hF
 obtain ⟨ys, e1, hF⟩ := ctl_inv hF
 obtain ⟨rfl, rfl, rfl, rfl⟩ := ct0_inv hF
 dsimp only
 obtain ⟨v0, vals, rfl, k0, ha⟩ := F2.inv ha
 obtain rfl := F2.inv0 ha
 have h : rtrim n l0 = some r := hg
 obtain ⟨p0, s0, o0⟩ := aZ_ok hp e0 (k0) 3
 have kk := k0
 have zz := aZ_sz hp e0
 have hR0 := rel0 (gv := (fun j => ([v0] : List Value).getD j undef)) (n := 21) (w := w) (args := [kH 0]) (H := [⟨.ro false, 3, 1, l0.length, .z l0⟩]) (gl := [(1000000, .c (.wh 0))]) (hpL (ps := [p0]) (F2.cons o0 F2.nil)) (allRo_ok rfl) (F2.cons s0 F2.nil) (GlR.cons 0 s0 GlR.nil) (by simp)
 clear ha hp hg hF k0 e0
 refine calls_W Try.func71 rfl rfl hR0 (Q := fun e s => (e = .ret ∨ e = .normal) ∧ s = rtrim_R r) ?_ ?_
 ·clear hR0
  unfold rtrim at h
  have hT := tabO_pb
  refine Vrs hT [0] ⟨[(0, kH 0)], [(1000000, kH 0)], [oz 3 l0]⟩ ?_
  refine Vrs hT [0] ⟨[(0, kH 0), (3, kI ((l0.length : Nat) : Int))], [(1000000, kH 0)], [oz 3 l0]⟩ ?_
  refine W_seq ?_
  refine W_block ?_
  refine Vc [] [0] (rtrim_l1_E l0 ((l0.length : Nat) : Int)) (W_lp ((rtrim_l1_P n l0 r)) n ⟨_, rfl, h⟩ ?_)
  rintro fu_l1 _ ⟨i3_2, rfl, h⟩
  cases fu_l1 with
  | zero => cases h
  | succ fu_l1 =>
   refine ⟨fu_l1, rfl, ?_⟩
   rw [rtrim_l1] at h
   refine W_seq ?_
   refine W_seq ?_
   rcases Bool.eq_false_or_eq_true (decide ((0 : Int) < i3_2)) with g1 | g1
   ·replace h := bif_t h g1
    obtain ⟨g2, g3, g4, h⟩ := gd3 h
    refine Vg hT fN [(2, true)] [] [0] ⟨[(0, kH 0), (3, kI i3_2), (15, kB ((l0.getD ((i3_2 - 1).toNat) 0) == 0))], [(1000000, kH 0)], [oz 3 l0]⟩ (aP g1 (aP g2 (aP g3 (aP g4 aN)))) ?_
    refine Vi (((l0.getD ((i3_2 - 1).toNat) 0) == 0)) (fun g8 => ?_) (fun g8 => ?_)
    ·replace h := bif_t h g8
     refine W_skip ?_
     refine W_block ?_
     obtain ⟨g5, h⟩ := gd_some h
     refine Vg hT fN [] [] [0] (rtrim_l1_E l0 (i3_2 - 1)) (aP g5 aN) ?_
     exact ⟨_, rfl, h⟩
    ·replace h := bif_f h g8
     refine Vc [] [0] ⟨[(0, kH 0), (3, kI i3_2)], [(1000000, kH 0)], [oz 3 l0]⟩ (W_exit ?_)
     obtain ⟨g6, g7, h⟩ := gd2 h
     refine Vgs hT fN [] [] [0] ⟨[(2, .c (.sl 0 0 i3_2.toNat))], [(1000000, kH 0)], [oz 3 l0]⟩ (aP g6 (aP g7 aN)) ?_
     refine Vc [] [0] (rtrim_R (l0, i3_2.toNat)) (W_ret ?_)
     exact ⟨.inl rfl, by cases h; rfl⟩
   ·replace h := bif_f h g1
    refine Vg hT fN [(2, false)] [] [0] ⟨[(0, kH 0), (3, kI i3_2), (15, kB false)], [(1000000, kH 0)], [oz 3 l0]⟩ (aP g1 aN) ?_
    refine Vi (false) (fun hb => by cases hb) (fun _ => ?_)
    refine Vc [] [0] ⟨[(0, kH 0), (3, kI i3_2)], [(1000000, kH 0)], [oz 3 l0]⟩ (W_exit ?_)
    obtain ⟨g9, g10, h⟩ := gd2 h
    refine Vgs hT fN [] [] [0] ⟨[(2, .c (.sl 0 0 i3_2.toNat))], [(1000000, kH 0)], [oz 3 l0]⟩ (aP g9 (aP g10 aN)) ?_
    refine Vc [] [0] (rtrim_R (l0, i3_2.toNat)) (W_ret ?_)
    exact ⟨.inl rfl, by cases h; rfl⟩
 ·rintro e s' ⟨he, rfl⟩
  refine ⟨he, fun a' w' hr => ?_⟩
  exact retB_ok (q := 0) hr rfl rfl rfl (by kernel_rfl) kk zz e1
def rOf_l1_E (a0 : List UInt32) (z3_2 : List Int) (i4_2 : Int) : S := ⟨[(0, kH 0), (3, kH 1), (4, kI i4_2)], [], [ow 89 a0, nz 3 z3_2]⟩
abbrev rOf_l1_P (n : Nat) (a0 : List UInt32) (r : List Int × Nat) (fu : Nat) : S → Prop := fun s => ∃ (z3_2 : List Int), ∃ (i4_2 : Int), s = rOf_l1_E a0 z3_2 i4_2 ∧ rOf_l1 n a0 fu z3_2 i4_2 = some r
def rOf_R (r : List Int × Nat) : S := ⟨[(2, kH 0)], [], [⟨(.ro true), 3, 1, r.2, .z r.1⟩]⟩
def rOf_ct (n : Nat) (r : List Int × Nat) : Ct := ctc (rW 89).rd fun _ l0 => ct0 fun H => ([rOf n l0 = some r], shA H.length (kH 0), shH H.length [⟨(.ro true), 3, 1, r.2, .z r.1⟩])
theorem rOf_ok (n : Nat) (r : List Int × Nat) : FnOk Try.prog Tr 47 (rOf_ct n r) := by
 refine fnok Try.func47 ?_
 refine HO_c (rW 89) fun l0 _ => HO_0 tabO_pb (rOf_R r) [.tmp 2] [0] 28 Try.func47 fun w hG h => ?_
 unfold rOf at h
 have hT := tabO_pb
 refine Vrs hT [0] ⟨[(0, kH 0)], [], [ow 89 l0]⟩ ?_
 refine Vrs hT [0] ⟨[(0, kH 0), (3, .c (.nils))], [], [ow 89 l0]⟩ ?_
 refine W_seq ?_
 refine Vrs hT [0] ⟨[(0, kH 0), (3, .c (.nils)), (4, kI 0)], [], [ow 89 l0]⟩ ?_
 refine W_block ?_
 refine Vc [.nil 3 3 1 (.z [])] [0, 1] (rOf_l1_E l0 [] 0) (W_lp ((rOf_l1_P n l0 r)) n ⟨_, _, rfl, h⟩ ?_)
 rintro fu_l1 _ ⟨z3_2, i4_2, rfl, h⟩
 cases fu_l1 with
 | zero => cases h
 | succ fu_l1 =>
  refine ⟨fu_l1, rfl, ?_⟩
  rw [rOf_l1] at h
  refine W_seq ?_
  refine Vrs hT [0, 1] ⟨[(0, kH 0), (3, kH 1), (4, kI i4_2), (8, kB (decide (i4_2 < ((l0.length : Nat) : Int))))], [], [ow 89 l0, nz 3 z3_2]⟩ ?_
  refine Vi ((decide (i4_2 < ((l0.length : Nat) : Int)))) (fun g10 => ?_) (fun g10 => ?_)
  ·replace h := bif_t h g10
   refine W_skip ?_
   refine W_seq ?_
   refine W_block ?_
   obtain ⟨g1, g2, g3, g4, g5, h⟩ := gd5 h
   obtain ⟨g6, g7, h⟩ := gd2 h
   refine Vd hT fN 14 [] [(0, false), (3, false), (4, false), (11, false), (24, false)] [] [0, 3] ⟨[(0, kH 0), (3, kH 1), (4, kI i4_2)], [], [ow 89 l0, nz 3 (z3_2 ++ [((((l0.getD i4_2.toNat 0) % (65536 : UInt32)).toNat : Nat) : Int), ((((l0.getD i4_2.toNat 0) / (65536 : UInt32)).toNat : Nat) : Int)])]⟩ (aP g1 (aP g2 (aP g3 (aP g4 (aP g5 (aP g6 (aP g7 aN))))))) ?_
   obtain ⟨g8, h⟩ := gd_some h
   refine Vg hT fN [] [] [0, 1] (rOf_l1_E l0 (z3_2 ++ [((((l0.getD i4_2.toNat 0) % (65536 : UInt32)).toNat : Nat) : Int), ((((l0.getD i4_2.toNat 0) / (65536 : UInt32)).toNat : Nat) : Int)]) (i4_2 + 1)) (aP g8 aN) ?_
   exact ⟨_, _, rfl, h⟩
  ·replace h := bif_f h g10
   refine Vc [] [1] ⟨[(3, kH 0)], [], [nz 3 z3_2]⟩ (W_exit ?_)
   obtain ⟨r27_2, g9, h⟩ := bind_some' h
   refine Vgs hT (fT 1 (rtrim_ok n r27_2) fN) [] [] [0] ⟨[(2, .c (.sl 0 0 r27_2.2))], [], [nz 3 z3_2]⟩ (aP g9 aN) ?_
   refine Vc [.vw 2 true] [1] (rOf_R (((z3_2.drop 0).take r27_2.2), r27_2.2)) (W_ret ?_)
   exact ⟨.inl rfl, by cases h; rfl⟩
def pRead_l1_E (l0_4 : List UInt8) (m0_4 : Nat) (w4_1 : List UInt32) (i30_1 : Int) : S := ⟨[(0, kH 0), (4, kH 1), (28, kH 0), (29, kI ((m0_4 : Nat) : Int)), (30, kI i30_1)], [], [⟨(.ro false), 5, 1, m0_4, .b l0_4⟩, ⟨.row, 89, 1, (Int.tdiv (((m0_4 : Nat) : Int) + 3) 4).toNat, .w w4_1⟩]⟩
abbrev pRead_l1_P (n : Nat) (l0_4 : List UInt8) (m0_4 : Nat) (r : List UInt32 × Nat × Option Int) (fu : Nat) : S → Prop := fun s => ∃ (w4_1 : List UInt32), ∃ (i30_1 : Int), s = pRead_l1_E l0_4 m0_4 w4_1 i30_1 ∧ pRead_l1 n l0_4 m0_4 fu w4_1 i30_1 = some r
def pRead_j1_E (l0_4 : List UInt8) (m0_4 : Nat) : S := ⟨[(0, kH 0)], [], [⟨(.ro false), 5, 1, m0_4, .b l0_4⟩]⟩
abbrev pRead_j1_P (n : Nat) (r : List UInt32 × Nat × Option Int) : S → Prop := fun s => ∃ (l0_4 : List UInt8), ∃ (m0_4 : Nat), s = pRead_j1_E l0_4 m0_4 ∧ pRead_j1 n l0_4 m0_4 = some r
def pRead_l2_E (l0_5 : List UInt8) (m0_5 : Nat) : S := ⟨[(0, kH 0)], [], [⟨(.ro false), 5, 1, m0_5, .b l0_5⟩]⟩
abbrev pRead_l2_P (n : Nat) (r : List UInt32 × Nat × Option Int) (fu : Nat) : S → Prop := fun s => ∃ (l0_5 : List UInt8), ∃ (m0_5 : Nat), s = pRead_l2_E l0_5 m0_5 ∧ pRead_l2 n fu l0_5 m0_5 = some r
def pRead_R (r : List UInt32 × Nat × Option Int) : S := ⟨[(2, kH 0), (3, kE 31 r.2.2)], [], [⟨.row, 89, 1, r.2.1, .w r.1⟩]⟩
def pRead_ct (n : Nat) (r : List UInt32 × Nat × Option Int) : Ct := ctc (rB 5).rd fun _ l0 => ct0 fun H => ([pRead n l0 = some r], shA H.length (.t [.c (.wh 0), .c (.s (.er 31 .i64 r.2.2))]), shH H.length [⟨.row, 89, 1, r.2.1, .w r.1⟩])
theorem pRead_ok (n : Nat) (r : List UInt32 × Nat × Option Int) : FnOk Try.prog Tr 70 (pRead_ct n r) := by
 refine fnok Try.func70 ?_
 refine HO_c (rB 5) fun l0 _ => HO_0 tabO_pb (pRead_R r) [.tmp 2, .tmp 3] [0] 55 Try.func70 fun w hG h => ?_
 unfold pRead at h
 have hT := tabO_pb
 refine Vrs hT [0] ⟨[(0, kH 0)], [], [ob 5 l0]⟩ ?_
 refine W_join (pRead_j1_P n r) ?_ ?_
 ·rintro _ ⟨l0_4, m0_4, rfl, h⟩
  unfold pRead_j1 at h
  refine W_seq ?_
  refine Vrs hT [0] ⟨[(0, kH 0), (21, kB (decide ((256 : Int) < ((m0_4 : Nat) : Int))))], [], [⟨(.ro false), 5, 1, m0_4, .b l0_4⟩]⟩ ?_
  refine Vi ((decide ((256 : Int) < ((m0_4 : Nat) : Int)))) (fun g22 => ?_) (fun g22 => ?_)
  ·replace h := bif_t h g22
   refine Vrs hT [] ⟨[(2, .c (.nils)), (3, kE 31 (some 4))], [], []⟩ ?_
   refine Vc [.nil 2 89 1 (.w [])] [0] (pRead_R ([], 0, (some 4))) (W_ret ?_)
   exact ⟨.inl rfl, by cases h; rfl⟩
  ·replace h := bif_f h g22
   refine W_skip ?_
   obtain ⟨g1, g2, g3, g4, g5, h⟩ := gd5 h
   obtain ⟨g6, h⟩ := gd_some h
   refine Vgs hT fN [] [] [0, 1] ⟨[(0, kH 0), (4, kH 1)], [], [⟨(.ro false), 5, 1, m0_4, .b l0_4⟩, ⟨.row, 89, 1, (Int.tdiv (((m0_4 : Nat) : Int) + 3) 4).toNat, .w (List.replicate ((Int.tdiv (((m0_4 : Nat) : Int) + 3) 4).toNat) 0)⟩]⟩ (aP g1 (aP g2 (aP g3 (aP g4 (aP g5 (aP g6 aN)))))) ?_
   refine W_seq ?_
   refine Vrs hT [0, 1] ⟨[(0, kH 0), (4, kH 1), (28, kH 0), (29, kI ((m0_4 : Nat) : Int)), (30, kI 0)], [], [⟨(.ro false), 5, 1, m0_4, .b l0_4⟩, ⟨.row, 89, 1, (Int.tdiv (((m0_4 : Nat) : Int) + 3) 4).toNat, .w (List.replicate ((Int.tdiv (((m0_4 : Nat) : Int) + 3) 4).toNat) 0)⟩]⟩ ?_
   refine W_block ?_
   refine Vc [] [0, 1] (pRead_l1_E l0_4 m0_4 (List.replicate ((Int.tdiv (((m0_4 : Nat) : Int) + 3) 4).toNat) 0) 0) (W_lp ((pRead_l1_P n l0_4 m0_4 r)) n ⟨_, _, rfl, h⟩ ?_)
   rintro fu_l1 _ ⟨w4_1, i30_1, rfl, h⟩
   cases fu_l1 with
   | zero => cases h
   | succ fu_l1 =>
    refine ⟨fu_l1, rfl, ?_⟩
    rw [pRead_l1] at h
    refine Vrs hT [0, 1] ⟨[(0, kH 0), (4, kH 1), (28, kH 0), (29, kI ((m0_4 : Nat) : Int)), (30, kI i30_1), (31, kB (decide (i30_1 < ((m0_4 : Nat) : Int))))], [], [⟨(.ro false), 5, 1, m0_4, .b l0_4⟩, ⟨.row, 89, 1, (Int.tdiv (((m0_4 : Nat) : Int) + 3) 4).toNat, .w w4_1⟩]⟩ ?_
    refine W_seq ?_
    refine Vi ((decide (i30_1 < ((m0_4 : Nat) : Int)))) (fun g21 => ?_) (fun g21 => ?_)
    ·replace h := bif_t h g21
     refine W_skip ?_
     refine W_seq ?_
     refine W_block ?_
     obtain ⟨g7, g8, h⟩ := gd2 h
     refine Vgs hT fN [] [] [0, 1] ⟨[(0, kH 0), (4, kH 1), (5, kI i30_1), (6, kU (l0_4.getD i30_1.toNat 0)), (28, kH 0), (29, kI ((m0_4 : Nat) : Int)), (30, kI i30_1)], [], [⟨(.ro false), 5, 1, m0_4, .b l0_4⟩, ⟨.row, 89, 1, (Int.tdiv (((m0_4 : Nat) : Int) + 3) 4).toNat, .w w4_1⟩]⟩ (aP g7 (aP g8 aN)) ?_
     obtain ⟨g9, g10, h⟩ := gd2 h
     refine Vgs hT fN [] [] [0, 1] ⟨[(0, kH 0), (4, kH 1), (6, kU (l0_4.getD i30_1.toNat 0)), (7, kI ((((m0_4 : Nat) : Int) - 1) - i30_1)), (28, kH 0), (29, kI ((m0_4 : Nat) : Int)), (30, kI i30_1)], [], [⟨(.ro false), 5, 1, m0_4, .b l0_4⟩, ⟨.row, 89, 1, (Int.tdiv (((m0_4 : Nat) : Int) + 3) 4).toNat, .w w4_1⟩]⟩ (aP g9 (aP g10 aN)) ?_
     obtain ⟨g11, g12, g13, g14, g15, h⟩ := gd5 h
     obtain ⟨g16, g17, g18, g19, h⟩ := gd4 h
     refine Vd hT fN 11 [] [(0, false), (4, false), (28, false), (29, false), (30, false), (40, false), (42, false), (44, false), (50, false)] [] [0, 1] ⟨[(0, kH 0), (4, kH 1), (28, kH 0), (29, kI ((m0_4 : Nat) : Int)), (30, kI i30_1)], [], [⟨(.ro false), 5, 1, m0_4, .b l0_4⟩, ⟨.row, 89, 1, (Int.tdiv (((m0_4 : Nat) : Int) + 3) 4).toNat, .w (w4_1.set ((Int.tdiv ((((m0_4 : Nat) : Int) - 1) - i30_1) 4).toNat) ((w4_1.getD ((Int.tdiv ((((m0_4 : Nat) : Int) - 1) - i30_1) 4).toNat) 0) ||| (shl32 ((l0_4.getD i30_1.toNat 0).toUInt32) (8 * (Int.tmod ((((m0_4 : Nat) : Int) - 1) - i30_1) 4)))))⟩]⟩ (aP g11 (aP g12 (aP g13 (aP g14 (aP g15 (aP g16 (aP g17 (aP g18 (aP g19 aN))))))))) ?_
     obtain ⟨g20, h⟩ := gd_some h
     refine Vg hT fN [] [] [0, 1] (pRead_l1_E l0_4 m0_4 (w4_1.set ((Int.tdiv ((((m0_4 : Nat) : Int) - 1) - i30_1) 4).toNat) ((w4_1.getD ((Int.tdiv ((((m0_4 : Nat) : Int) - 1) - i30_1) 4).toNat) 0) ||| (shl32 ((l0_4.getD i30_1.toNat 0).toUInt32) (8 * (Int.tmod ((((m0_4 : Nat) : Int) - 1) - i30_1) 4))))) (i30_1 + 1)) (aP g20 aN) ?_
     exact ⟨_, _, rfl, h⟩
    ·replace h := bif_f h g21
     refine Vc [] [1] ⟨[(4, kH 0)], [], [⟨.row, 89, 1, (Int.tdiv (((m0_4 : Nat) : Int) + 3) 4).toNat, .w w4_1⟩]⟩ (W_exit ?_)
     refine Vrs hT [0] ⟨[(2, kH 0), (3, .c (.s (.v .nilIface)))], [], [⟨.row, 89, 1, (Int.tdiv (((m0_4 : Nat) : Int) + 3) 4).toNat, .w w4_1⟩]⟩ ?_
     refine Vc [.er 3 31 .i64] [0] (pRead_R (w4_1, (Int.tdiv (((m0_4 : Nat) : Int) + 3) 4).toNat, none)) (W_ret ?_)
     exact ⟨.inl rfl, by cases h; rfl⟩
 ·refine W_block ?_
  refine Vc [] [0] (pRead_l2_E l0 l0.length) (W_lp ((pRead_l2_P n r)) n ⟨_, _, rfl, h⟩ ?_)
  rintro fu_l2 _ ⟨l0_5, m0_5, rfl, h⟩
  cases fu_l2 with
  | zero => cases h
  | succ fu_l2 =>
   refine ⟨fu_l2, rfl, ?_⟩
   rw [pRead_l2] at h
   refine W_seq ?_
   refine W_seq ?_
   rcases Bool.eq_false_or_eq_true (decide ((0 : Int) < ((m0_5 : Nat) : Int))) with g23 | g23
   ·replace h := bif_t h g23
    obtain ⟨g24, g25, h⟩ := gd2 h
    refine Vg hT fN [(3, true)] [] [0] ⟨[(0, kH 0), (16, kB ((l0_5.getD 0 0) == 0))], [], [⟨(.ro false), 5, 1, m0_5, .b l0_5⟩]⟩ (aP g23 (aP g24 (aP g25 aN))) ?_
    refine Vi (((l0_5.getD 0 0) == 0)) (fun g28 => ?_) (fun g28 => ?_)
    ·replace h := bif_t h g28
     refine W_skip ?_
     refine W_block ?_
     obtain ⟨g26, g27, h⟩ := gd2 h
     refine Vg hT fN [] [.vw 0 false] [1] (pRead_l2_E ((l0_5.drop 1).take (m0_5 - 1)) (m0_5 - 1)) (aP g26 (aP g27 aN)) ?_
     exact ⟨_, _, rfl, h⟩
    ·replace h := bif_f h g28
     refine Vc [] [0] (pRead_j1_E l0_5 m0_5) (W_exit ?_)
     exact ⟨_, _, rfl, h⟩
   ·replace h := bif_f h g23
    refine Vg hT fN [(3, false)] [] [0] ⟨[(0, kH 0), (16, kB false)], [], [⟨(.ro false), 5, 1, m0_5, .b l0_5⟩]⟩ (aP g23 aN) ?_
    refine Vi (false) (fun hb => by cases hb) (fun _ => ?_)
    refine Vc [] [0] (pRead_j1_E l0_5 m0_5) (W_exit ?_)
    exact ⟨_, _, rfl, h⟩
def pReadBig_R (r : List UInt32 × Nat × Option Int) : S := ⟨[(2, kH 0), (3, kE 31 r.2.2)], [], [⟨.row, 89, 1, r.2.1, .w r.1⟩]⟩
def pReadBig_ct (n : Nat) (r : List UInt32 × Nat × Option Int) : Ct := ctc (rB 5).rd fun _ l0 => ct0 fun H => ([pReadBig n l0 = some r], shA H.length (.t [.c (.wh 0), .c (.s (.er 31 .i64 r.2.2))]), shH H.length [⟨.row, 89, 1, r.2.1, .w r.1⟩])
theorem pReadBig_ok (n : Nat) (r : List UInt32 × Nat × Option Int) : FnOk Try.prog Tr 41 (pReadBig_ct n r) := by
 refine fnok Try.func41 ?_
 refine HO_c (rB 5) fun l0 _ => HO_0 tabO_pb (pReadBig_R r) [.tmp 2, .tmp 3] [0] 27 Try.func41 fun w hG h => ?_
 unfold pReadBig at h
 have hT := tabO_pb
 refine Vrs hT [0] ⟨[(0, kH 0)], [], [ob 5 l0]⟩ ?_
 refine W_seq ?_
 refine W_seq ?_
 rcases Bool.eq_false_or_eq_true (((l0.length : Nat) : Int) == 0) with g1 | g1
 ·replace h := bif_t h g1
  refine Vg hT fN [(3, true)] [] [0] ⟨[(0, kH 0), (21, kB true)], [], [ob 5 l0]⟩ (aP g1 aN) ?_
  refine Vi (true) (fun _ => ?_) (fun hb => by cases hb)
  refine Vrs hT [] ⟨[(2, .c (.nils)), (3, kE 31 (some 2))], [], []⟩ ?_
  refine Vc [.nil 2 89 1 (.w [])] [0] (pReadBig_R ([], 0, (some 2))) (W_ret ?_)
  exact ⟨.inl rfl, by cases h; rfl⟩
 ·replace h := bif_f h g1
  obtain ⟨g2, g3, h⟩ := gd2 h
  rcases Bool.eq_false_or_eq_true (decide ((128 : UInt8) ≤ (l0.getD 0 0))) with g4 | g4
  ·replace h := bif_t h g4
   refine Vg hT fN [(3, false), (9, true)] [] [0] ⟨[(0, kH 0), (21, kB true)], [], [ob 5 l0]⟩ (aP g1 (aP g2 (aP g3 (aP g4 aN)))) ?_
   refine Vi (true) (fun _ => ?_) (fun hb => by cases hb)
   refine Vrs hT [] ⟨[(2, .c (.nils)), (3, kE 31 (some 2))], [], []⟩ ?_
   refine Vc [.nil 2 89 1 (.w [])] [0] (pReadBig_R ([], 0, (some 2))) (W_ret ?_)
   exact ⟨.inl rfl, by cases h; rfl⟩
  ·replace h := bif_f h g4
   rcases Bool.eq_false_or_eq_true (decide ((1 : Int) < ((l0.length : Nat) : Int))) with g5 | g5
   ·replace h := bif_t h g5
    obtain ⟨r19, g6, h⟩ := bind_some' h
    refine Vg hT (fT 15 (pspare_ok n r19) fN) [(3, false), (9, false), (13, true)] [] [0] ⟨[(0, kH 0), (21, kB r19)], [], [ob 5 l0]⟩ (aP g1 (aP g2 (aP g3 (aP g4 (aP g5 (aP g6 aN)))))) ?_
    refine Vi (r19) (fun g8 => ?_) (fun g8 => ?_)
    ·replace h := bif_t h g8
     refine Vrs hT [] ⟨[(2, .c (.nils)), (3, kE 31 (some 2))], [], []⟩ ?_
     refine Vc [.nil 2 89 1 (.w [])] [0] (pReadBig_R ([], 0, (some 2))) (W_ret ?_)
     exact ⟨.inl rfl, by cases h; rfl⟩
    ·replace h := bif_f h g8
     refine W_skip ?_
     obtain ⟨r24, g7, h⟩ := bind_some' h
     refine Vgs hT (fT 1 (pRead_ok n r24) fN) [] [] [1] ⟨[(2, kH 0), (3, kE 31 r24.2.2)], [], [⟨.row, 89, 1, r24.2.1, .w r24.1⟩]⟩ (aP g7 aN) ?_
     refine Vc [] [0] (pReadBig_R (r24.1, r24.2.1, r24.2.2)) (W_ret ?_)
     exact ⟨.inl rfl, by cases h; rfl⟩
   ·replace h := bif_f h g5
    refine Vg hT fN [(3, false), (9, false), (13, false)] [] [0] ⟨[(0, kH 0), (21, kB false)], [], [ob 5 l0]⟩ (aP g1 (aP g2 (aP g3 (aP g4 (aP g5 aN))))) ?_
    refine Vi (false) (fun hb => by cases hb) (fun _ => ?_)
    refine W_skip ?_
    obtain ⟨r24, g9, h⟩ := bind_some' h
    refine Vgs hT (fT 1 (pRead_ok n r24) fN) [] [] [1] ⟨[(2, kH 0), (3, kE 31 r24.2.2)], [], [⟨.row, 89, 1, r24.2.1, .w r24.1⟩]⟩ (aP g9 aN) ?_
    refine Vc [] [0] (pReadBig_R (r24.1, r24.2.1, r24.2.2)) (W_ret ?_)
    exact ⟨.inl rfl, by cases h; rfl⟩
def rTo_j1_E (a0 : List Int) (w3_2 : List UInt32) (i4_2 : Int) (x5_8 : UInt32) : S := ⟨[(0, kH 0), (3, kH 1), (4, kI i4_2), (5, kX x5_8)], [], [oz 3 a0, nw 89 w3_2]⟩
abbrev rTo_j1_P (n : Nat) (a0 : List Int) (w3_2 : List UInt32) (i4_2 : Int) (k_l1 : (List UInt32) → Int → Option (List UInt32)) (r : List UInt32) : S → Prop := fun s => ∃ (x5_8 : UInt32), s = rTo_j1_E a0 w3_2 i4_2 x5_8 ∧ rTo_j1 n a0 w3_2 i4_2 k_l1 x5_8 = some r
def rTo_l1_E (a0 : List Int) (w3_2 : List UInt32) (i4_2 : Int) : S := ⟨[(0, kH 0), (3, kH 1), (4, kI i4_2)], [], [oz 3 a0, nw 89 w3_2]⟩
abbrev rTo_l1_P (n : Nat) (a0 : List Int) (r : List UInt32) (fu : Nat) : S → Prop := fun s => ∃ (w3_2 : List UInt32), ∃ (i4_2 : Int), s = rTo_l1_E a0 w3_2 i4_2 ∧ rTo_l1 n a0 fu w3_2 i4_2 = some r
def rTo_R (r : List UInt32) : S := ⟨[(2, kH 0)], [], [nw 89 r]⟩
def rTo_ct (n : Nat) (r : List UInt32) : Ct := ctc (rZ 3).rd fun _ l0 => ct0 fun H => ([rTo n l0 = some r], shA H.length (kH 0), shH H.length [nw 89 r])
theorem rTo_ok (n : Nat) (r : List UInt32) : FnOk Try.prog Tr 72 (rTo_ct n r) := by
 refine fnok Try.func72 ?_
 refine HO_c (rZ 3) fun l0 _ => HO_0 tabO_pb (rTo_R r) [.tmp 2] [0] 36 Try.func72 fun w hG h => ?_
 unfold rTo at h
 have hT := tabO_pb
 refine Vrs hT [0] ⟨[(0, kH 0)], [], [oz 3 l0]⟩ ?_
 refine Vrs hT [0] ⟨[(0, kH 0), (3, .c (.nils))], [], [oz 3 l0]⟩ ?_
 refine W_seq ?_
 refine Vrs hT [0] ⟨[(0, kH 0), (3, .c (.nils)), (4, kI 0)], [], [oz 3 l0]⟩ ?_
 refine W_block ?_
 refine Vc [.nil 3 89 1 (.w [])] [0, 1] (rTo_l1_E l0 [] 0) (W_lp ((rTo_l1_P n l0 r)) n ⟨_, _, rfl, h⟩ ?_)
 rintro fu_l1 _ ⟨w3_2, i4_2, rfl, h⟩
 cases fu_l1 with
 | zero => cases h
 | succ fu_l1 =>
  refine ⟨fu_l1, rfl, ?_⟩
  rw [rTo_l1] at h
  refine W_seq ?_
  refine Vrs hT [0, 1] ⟨[(0, kH 0), (3, kH 1), (4, kI i4_2), (9, kB (decide (i4_2 < ((l0.length : Nat) : Int))))], [], [oz 3 l0, nw 89 w3_2]⟩ ?_
  refine Vi ((decide (i4_2 < ((l0.length : Nat) : Int)))) (fun g10 => ?_) (fun g10 => ?_)
  ·replace h := bif_t h g10
   refine W_skip ?_
   refine W_seq ?_
   refine W_block ?_
   obtain ⟨g1, g2, h⟩ := gd2 h
   refine Vgs hT fN [] [] [0, 1] ⟨[(0, kH 0), (3, kH 1), (4, kI i4_2), (5, kX (UInt32.ofInt (l0.getD i4_2.toNat 0)))], [], [oz 3 l0, nw 89 w3_2]⟩ (aP g1 (aP g2 aN)) ?_
   refine W_join (rTo_j1_P n l0 w3_2 i4_2 (rTo_l1 n l0 fu_l1) r) ?_ ?_
   ·rintro _ ⟨x5_8, rfl, h⟩
    unfold rTo_j1 at h
    obtain ⟨g3, h⟩ := gd_some h
    refine Vg hT fN [] [] [0, 3] ⟨[(0, kH 0), (3, kH 1), (4, kI i4_2)], [], [oz 3 l0, nw 89 (w3_2 ++ [x5_8])]⟩ (aP g3 aN) ?_
    obtain ⟨g4, h⟩ := gd_some h
    refine Vg hT fN [] [] [0, 1] (rTo_l1_E l0 (w3_2 ++ [x5_8]) (i4_2 + 2)) (aP g4 aN) ?_
    exact ⟨_, _, rfl, h⟩
   ·refine W_seq ?_
    obtain ⟨g5, h⟩ := gd_some h
    refine Vg hT fN [] [] [0, 1] ⟨[(0, kH 0), (3, kH 1), (4, kI i4_2), (5, kX (UInt32.ofInt (l0.getD i4_2.toNat 0))), (21, kB (decide ((i4_2 + 1) < ((l0.length : Nat) : Int))))], [], [oz 3 l0, nw 89 w3_2]⟩ (aP g5 aN) ?_
    refine Vi ((decide ((i4_2 + 1) < ((l0.length : Nat) : Int)))) (fun g9 => ?_) (fun g9 => ?_)
    ·replace h := bif_t h g9
     obtain ⟨g6, g7, g8, h⟩ := gd3 h
     refine Vg hT fN [] [] [0, 1] (rTo_j1_E l0 w3_2 i4_2 ((UInt32.ofInt (l0.getD i4_2.toNat 0)) + ((UInt32.ofInt (l0.getD ((i4_2 + 1).toNat) 0)) * (65536 : UInt32)))) (aP g6 (aP g7 (aP g8 aN))) ?_
     exact ⟨_, rfl, h⟩
    ·replace h := bif_f h g9
     refine Vc [] [0, 1] (rTo_j1_E l0 w3_2 i4_2 (UInt32.ofInt (l0.getD i4_2.toNat 0))) (W_skip ?_)
     exact ⟨_, rfl, h⟩
  ·replace h := bif_f h g10
   refine Vc [] [1] ⟨[(3, kH 0)], [], [nw 89 w3_2]⟩ (W_exit ?_)
   refine Vrs hT [0] ⟨[(2, kH 0)], [], [nw 89 w3_2]⟩ ?_
   refine Vc [] [0] (rTo_R w3_2) (W_ret ?_)
   exact ⟨.inl rfl, by cases h; rfl⟩
def rSame_l1_E (a0 : List UInt32) (r8 : List UInt32) (i6_2 : Int) : S := ⟨[(0, kH 0), (5, kH 1), (6, kI i6_2)], [], [ow 89 a0, nw 89 r8]⟩
abbrev rSame_l1_P (n : Nat) (a0 : List UInt32) (r8 : List UInt32) (r : Bool) (fu : Nat) : S → Prop := fun s => ∃ (i6_2 : Int), s = rSame_l1_E a0 r8 i6_2 ∧ rSame_l1 n a0 r8 fu i6_2 = some r
def rSame_R (r : Bool) : S := ⟨[(4, kB r)], [], []⟩
def rSame_ct (n : Nat) (r : Bool) : Ct := ctc (rW 89).rd fun _ l0 => ctc (rZ 3).rd fun _ l1 => ct0 fun H => ([rSame n l0 l1 = some r], shA H.length (kB r), shH H.length [])
theorem rSame_ok (n : Nat) (r : Bool) : FnOk Try.prog Tr 44 (rSame_ct n r) := by
 refine fnok Try.func44 ?_
 refine HO_c (rW 89) fun l0 _ => HO_c (rZ 3) fun l1 _ => HO_0 tabO_pb (rSame_R r) [.tmp 4] [] 29 Try.func44 fun w hG h => ?_
 unfold rSame at h
 have hT := tabO_pb
 refine Vrs hT [0, 1] ⟨[(0, kH 0), (1, kH 1)], [], [ow 89 l0, oz 3 l1]⟩ ?_
 obtain ⟨r8, g1, h⟩ := bind_some' h
 refine Vgs hT (fT 1 (rTo_ok n r8) fN) [] [] [0, 2] ⟨[(0, kH 0), (5, kH 1)], [], [ow 89 l0, nw 89 r8]⟩ (aP g1 aN) ?_
 refine W_seq ?_
 refine Vrs hT [0, 1] ⟨[(0, kH 0), (5, kH 1), (13, kB (((l0.length : Nat) : Int) != ((r8.length : Nat) : Int)))], [], [ow 89 l0, nw 89 r8]⟩ ?_
 refine Vi ((((l0.length : Nat) : Int) != ((r8.length : Nat) : Int))) (fun g9 => ?_) (fun g9 => ?_)
 ·replace h := bif_t h g9
  refine Vrs hT [] ⟨[(4, kB false)], [], []⟩ ?_
  refine Vc [] [] (rSame_R false) (W_ret ?_)
  exact ⟨.inl rfl, by cases h; rfl⟩
 ·replace h := bif_f h g9
  refine W_skip ?_
  refine W_seq ?_
  refine Vrs hT [0, 1] ⟨[(0, kH 0), (5, kH 1), (6, kI 0)], [], [ow 89 l0, nw 89 r8]⟩ ?_
  refine W_block ?_
  refine Vc [] [0, 1] (rSame_l1_E l0 r8 0) (W_lp ((rSame_l1_P n l0 r8 r)) n ⟨_, rfl, h⟩ ?_)
  rintro fu_l1 _ ⟨i6_2, rfl, h⟩
  cases fu_l1 with
  | zero => cases h
  | succ fu_l1 =>
   refine ⟨fu_l1, rfl, ?_⟩
   rw [rSame_l1] at h
   refine W_seq ?_
   refine Vrs hT [0, 1] ⟨[(0, kH 0), (5, kH 1), (6, kI i6_2), (17, kB (decide (i6_2 < ((l0.length : Nat) : Int))))], [], [ow 89 l0, nw 89 r8]⟩ ?_
   refine Vi ((decide (i6_2 < ((l0.length : Nat) : Int)))) (fun g8 => ?_) (fun g8 => ?_)
   ·replace h := bif_t h g8
    refine W_skip ?_
    refine W_seq ?_
    refine W_block ?_
    obtain ⟨g2, g3, g4, g5, h⟩ := gd4 h
    refine Vds hT fN 8 [] [(0, false), (5, false), (6, false), (23, false), (27, false)] [] [0, 1] ⟨[(0, kH 0), (5, kH 1), (6, kI i6_2), (28, kB ((l0.getD i6_2.toNat 0) != (r8.getD i6_2.toNat 0)))], [], [ow 89 l0, nw 89 r8]⟩ (aP g2 (aP g3 (aP g4 (aP g5 aN)))) ?_
    refine Vi (((l0.getD i6_2.toNat 0) != (r8.getD i6_2.toNat 0))) (fun g7 => ?_) (fun g7 => ?_)
    ·replace h := bif_t h g7
     refine Vrs hT [] ⟨[(4, kB false)], [], []⟩ ?_
     refine Vc [] [] (rSame_R false) (W_ret ?_)
     exact ⟨.inl rfl, by cases h; rfl⟩
    ·replace h := bif_f h g7
     refine W_skip ?_
     obtain ⟨g6, h⟩ := gd_some h
     refine Vg hT fN [] [] [0, 1] (rSame_l1_E l0 r8 (i6_2 + 1)) (aP g6 aN) ?_
     exact ⟨_, rfl, h⟩
   ·replace h := bif_f h g8
    refine Vc [] [] ⟨[], [], []⟩ (W_exit ?_)
    refine Vrs hT [] ⟨[(4, kB true)], [], []⟩ ?_
    refine Vc [] [] (rSame_R true) (W_ret ?_)
    exact ⟨.inl rfl, by cases h; rfl⟩
end Go.Proofs.Ytliilihbnhdemaa
end
section
namespace Go.Proofs.Ytliilihbnhdemaa
open Go.RowKit Go.Ch Go.Sx
def tabL_px : List (TypeId × Ti) := [(3, ⟨.int .i64, 1, 8, true, some [.int .i64]⟩),
 (5, ⟨.int .u8, 1, 1, true, some [.int .u8]⟩),
 (9, ⟨.str, 1, 16, true, some [.str]⟩),
 (22, ⟨.sl 5, 1, 24, false, some [.nils]⟩),
 (28, ⟨.ifc, 1, 16, true, some [.ifc]⟩),
 (31, ⟨.int .i64, 1, 8, true, some [.int .i64]⟩),
 (45, ⟨.st [(22, 0), (3, 1)], 2, 32, false, some [.nils, .int .i64]⟩)]
def tab_px : Tab := fun t => (tabL_px).lookup t
theorem tabE_px : (tabL_px.map fun p => tiOf Try.prog p.1) = tabL_px.map fun p => some p.2 := by kernel_rfl
theorem tabO_px : TabOk Try.prog tab_px := tab_of tabE_px
def pfits (n : Nat) (a0_0 : List UInt8) (a0_1 : Int) : Option (Bool) :=
 bif (decide (a0_1 < (0 : Int))) then
 some (a0_1 == 0)
 else
 bif (decide ((7 : Int) < a0_1)) then
 some (a0_1 == 0)
 else
 bif (((a0_0.length : Nat) : Int) == 0) then
 some (a0_1 == 0)
 else
 gd (okI .i64 (((a0_0.length : Nat) : Int) - 1)) <|
 gd (0 ≤ (((a0_0.length : Nat) : Int) - 1)) <|
 gd ((((a0_0.length : Nat) : Int) - 1) < ((a0_0.length : Nat) : Int)) <|
 gd (0 ≤ a0_1) <|
 some (((a0_0.getD ((((a0_0.length : Nat) : Int) - 1).toNat) 0) &&& ((shl8 1 a0_1) - (1 : UInt8))) == 0)
def pReadBits (n : Nat) (a0 : List UInt8) : Option (List UInt8 × Int × Option Int) :=
 bif (((a0.length : Nat) : Int) == 0) then
  some ([], 0, (some 2))
 else
  gd (0 ≤ (1 : Int)) <|
  gd ((1 : Int) ≤ ((a0.length : Nat) : Int)) <|
  gd ((((a0.drop 1).take (a0.length - 1))).length ≤ 1000000000000) <|
  gd (0 ≤ (0 : Int)) <|
  gd ((0 : Int) < ((a0.length : Nat) : Int)) <|
  (pfits n ((a0.drop 1).take (a0.length - 1)) (((a0.getD 0 0).toNat : Nat) : Int)).bind fun r19 =>
  bif (!r19) then
   some ([], 0, (some 2))
  else
   some (((a0.drop 1).take (a0.length - 1)), (((a0.getD 0 0).toNat : Nat) : Int), none)
def pfits_R (r : Bool) : S := ⟨[(2, kB r)], [], []⟩
def pfits_ct (n : Nat) (r : Bool) : Ct := ctc (rSt (lC (cB 5) (lC cI lN))).rd fun _ y0 => ct0 fun H => ([pfits n y0.1 y0.2.1 = some r], shA H.length (kB r), shH H.length [])
theorem pfits_ok (n : Nat) (r : Bool) : FnOk Try.prog Tr 55 (pfits_ct n r) := by
 refine fnok Try.func55 ?_
 refine HO_c (rSt (lC (cB 5) (lC cI lN))) fun p0 _ => ?_
 obtain ⟨l0_0, l0_1, _⟩ := p0
 refine HO_0 tabO_px (pfits_R r) [.tmp 2] [] 34 Try.func55 fun w hG h => ?_
 have h : pfits n l0_0 l0_1 = some r := h
 unfold pfits at h
 have hT := tabO_px
 refine Vrs hT [1, 0] ⟨[(1, kP 0 0)], [], [⟨.blk, 45, 1, 2, .c [.wh 1, .s (.k .i64 l0_1)]⟩, ob 5 l0_0]⟩ ?_
 refine W_seq ?_
 refine W_seq ?_
 rcases Bool.eq_false_or_eq_true (decide (l0_1 < (0 : Int))) with g1 | g1
 ·replace h := bif_t h g1
  refine Vg hT fN [(3, true)] [] [0, 1] ⟨[(1, kP 0 0), (16, kB true)], [], [⟨.blk, 45, 1, 2, .c [.wh 1, .s (.k .i64 l0_1)]⟩, ob 5 l0_0]⟩ (aP g1 aN) ?_
  refine Vi (true) (fun _ => ?_) (fun hb => by cases hb)
  refine Vrs hT [] ⟨[(2, kB (l0_1 == 0))], [], []⟩ ?_
  refine Vc [] [] (pfits_R (l0_1 == 0)) (W_ret ?_)
  exact ⟨.inl rfl, by cases h; rfl⟩
 ·replace h := bif_f h g1
  rcases Bool.eq_false_or_eq_true (decide ((7 : Int) < l0_1)) with g2 | g2
  ·replace h := bif_t h g2
   refine Vg hT fN [(3, false), (8, true)] [] [0, 1] ⟨[(1, kP 0 0), (16, kB true)], [], [⟨.blk, 45, 1, 2, .c [.wh 1, .s (.k .i64 l0_1)]⟩, ob 5 l0_0]⟩ (aP g1 (aP g2 aN)) ?_
   refine Vi (true) (fun _ => ?_) (fun hb => by cases hb)
   refine Vrs hT [] ⟨[(2, kB (l0_1 == 0))], [], []⟩ ?_
   refine Vc [] [] (pfits_R (l0_1 == 0)) (W_ret ?_)
   exact ⟨.inl rfl, by cases h; rfl⟩
  ·replace h := bif_f h g2
   refine Vg hT fN [(3, false), (8, false)] [] [0, 1] ⟨[(1, kP 0 0), (16, kB (((l0_0.length : Nat) : Int) == 0))], [], [⟨.blk, 45, 1, 2, .c [.wh 1, .s (.k .i64 l0_1)]⟩, ob 5 l0_0]⟩ (aP g1 (aP g2 aN)) ?_
   refine Vi ((((l0_0.length : Nat) : Int) == 0)) (fun g7 => ?_) (fun g7 => ?_)
   ·replace h := bif_t h g7
    refine Vrs hT [] ⟨[(2, kB (l0_1 == 0))], [], []⟩ ?_
    refine Vc [] [] (pfits_R (l0_1 == 0)) (W_ret ?_)
    exact ⟨.inl rfl, by cases h; rfl⟩
   ·replace h := bif_f h g7
    refine W_skip ?_
    obtain ⟨g3, g4, g5, g6, h⟩ := gd4 h
    refine Vds hT fN 12 [] [(27, false), (31, false)] [] [] ⟨[(2, kB (((l0_0.getD ((((l0_0.length : Nat) : Int) - 1).toNat) 0) &&& ((shl8 1 l0_1) - (1 : UInt8))) == 0))], [], []⟩ (aP g3 (aP g4 (aP g5 (aP g6 aN)))) ?_
    refine Vc [] [] (pfits_R (((l0_0.getD ((((l0_0.length : Nat) : Int) - 1).toNat) 0) &&& ((shl8 1 l0_1) - (1 : UInt8))) == 0)) (W_ret ?_)
    exact ⟨.inl rfl, by cases h; rfl⟩
def pReadBits_R (r : List UInt8 × Int × Option Int) : S := ⟨[(2, kP 0 0), (3, kE 31 r.2.2)], [], [⟨.blk, 45, 1, 2, .c [.wh 1, .s (.k .i64 r.2.1)]⟩, nb 5 r.1]⟩
def pReadBits_ct (n : Nat) (r : List UInt8 × Int × Option Int) : Ct := ctc (rB 5).rd fun _ l0 => ct0 fun H => ([pReadBits n l0 = some r], shA H.length (.t [.g 2 (.c [.wh 0, .s (.k .i64 r.2.1)]), .c (.s (.er 31 .i64 r.2.2))]), shH H.length [nb 5 r.1])
theorem pReadBits_ok (n : Nat) (r : List UInt8 × Int × Option Int) : FnOk Try.prog Tr 26 (pReadBits_ct n r) := by
 refine fnok Try.func26 ?_
 refine HO_c (rB 5) fun l0 _ => HO_0 tabO_px (pReadBits_R r) [.cell 2 45, .tmp 3] [1] 24 Try.func26 fun w hG h => ?_
 unfold pReadBits at h
 have hT := tabO_px
 refine Vrs hT [0, 1] ⟨[(0, kH 0), (2, kP 1 0)], [], [ob 5 l0, ⟨.blk, 45, 1, 2, .c [.nils, .s (.k .i64 0)]⟩]⟩ ?_
 refine W_seq ?_
 refine Vrs hT [0, 1] ⟨[(0, kH 0), (2, kP 1 0), (7, kB (((l0.length : Nat) : Int) == 0))], [], [ob 5 l0, ⟨.blk, 45, 1, 2, .c [.nils, .s (.k .i64 0)]⟩]⟩ ?_
 refine Vi ((((l0.length : Nat) : Int) == 0)) (fun g8 => ?_) (fun g8 => ?_)
 ·replace h := bif_t h g8
  refine Vrs hT [1] ⟨[(2, kP 0 0), (3, kE 31 (some 2))], [], [⟨.blk, 45, 1, 2, .c [.nils, .s (.k .i64 0)]⟩]⟩ ?_
  refine Vc [.nlc 0 0 5 1 (.b []) none] [0, 1] (pReadBits_R ([], 0, (some 2))) (W_ret ?_)
  exact ⟨.inl rfl, by cases h; rfl⟩
 ·replace h := bif_f h g8
  refine W_skip ?_
  obtain ⟨g1, g2, g3, g4, g5, h⟩ := gd5 h
  refine Vds hT (fT 2 cloneb_h fN) 9 [] [(2, false), (4, false), (17, false)] [] [1, 2, 3] ⟨[(2, kP 0 0), (4, kP 1 0)], [], [⟨.blk, 45, 1, 2, .c [.nils, .s (.k .i64 0)]⟩, ⟨.blk, 45, 1, 2, .c [.wh 2, .s (.k .i64 (((l0.getD 0 0).toNat : Nat) : Int))]⟩, nb 5 ((l0.drop 1).take (l0.length - 1))]⟩ (aP g1 (aP g2 (aP g3 (aP g4 (aP g5 aN))))) ?_
  refine W_seq ?_
  obtain ⟨r19, g6, h⟩ := bind_some' h
  refine Vgs hT (fT 1 (pfits_ok n r19) fN) [] [] [0, 1, 2] ⟨[(2, kP 0 0), (4, kP 1 0), (20, kB (!r19))], [], [⟨.blk, 45, 1, 2, .c [.nils, .s (.k .i64 0)]⟩, ⟨.blk, 45, 1, 2, .c [.wh 2, .s (.k .i64 (((l0.getD 0 0).toNat : Nat) : Int))]⟩, nb 5 ((l0.drop 1).take (l0.length - 1))]⟩ (aP g6 aN) ?_
  refine Vi ((!r19)) (fun g7 => ?_) (fun g7 => ?_)
  ·replace h := bif_t h g7
   refine Vrs hT [0] ⟨[(2, kP 0 0), (3, kE 31 (some 2))], [], [⟨.blk, 45, 1, 2, .c [.nils, .s (.k .i64 0)]⟩]⟩ ?_
   refine Vc [.nlc 0 0 5 1 (.b []) none] [0, 1] (pReadBits_R ([], 0, (some 2))) (W_ret ?_)
   exact ⟨.inl rfl, by cases h; rfl⟩
  ·replace h := bif_f h g7
   refine W_skip ?_
   refine Vrs hT [0, 2] ⟨[(2, kP 0 0), (3, .c (.s (.v .nilIface)))], [], [⟨.blk, 45, 1, 2, .c [.wh 1, .s (.k .i64 (((l0.getD 0 0).toNat : Nat) : Int))]⟩, nb 5 ((l0.drop 1).take (l0.length - 1))]⟩ ?_
   refine Vc [.er 3 31 .i64] [0, 1] (pReadBits_R (((l0.drop 1).take (l0.length - 1)), (((l0.getD 0 0).toNat : Nat) : Int), none)) (W_ret ?_)
   exact ⟨.inl rfl, by cases h; rfl⟩
end Go.Proofs.Ytliilihbnhdemaa
end
section
namespace Go.Proofs.Ytliilihbnhdemaa
open Go.RowKit Go.Ch Go.Sx Go.Lib Go.Shelf Go.Proofs
theorem cat_u8W : (Try.prog.info? 89).map (fun i => (i.zero, i.size, i.bytes)) = some (some (.int .u32 0), 1, 4) := by kernel_rfl
set_option maxHeartbeats 2000000 in
set_option maxRecDepth 100000 in
theorem grow_0W (w : World) : Calls Try.prog 82 #[.slice none 0 0, .int .i64 0] w (Ret fun v w' => Ext w w' ∧ Own w' w.heap.size 89 v []) := by
 go_enter Try.func82, Try.ntmps82
 go_wp2
 go_ret
 exact ⟨_, rfl, Below.refl _ _, World.ownsRow_nil _ _ _ _⟩
set_option maxHeartbeats 4000000 in
set_option maxRecDepth 100000 in
theorem grow_1W (w : World) (n : Nat) (h0 : 0 < n) (hn : n ≤ 1000000000000) : Calls Try.prog 82 #[.slice none 0 0, .int .i64 n] w (Ret fun v w' => Ext w w' ∧ Own w' w.heap.size 89 v []) := by
 obtain ⟨i0, hi0, hz0, hs0, hb0⟩ := info_parts cat_u8W
 have t22 : Try.prog.underlying 60 = some (.slice 89) := Try.underlying60
 have t3 : Try.prog.underlying 3 = some (.int .i64) := Try.underlying3
 have u22 := run_underlying t22
 have u3 := run_underlying t3
 have h1 : ¬ ((n : Int) < 0) := by omega
 have h3 : wrap64 ((n : Int) - 0) = (n : Int) := by unfold wrap64; omega
 have h4 : (n : Int) > 0 := by omega
 have hold : (Builtin.firstCells i0.size 0 (.slice none 0 0)).run Try.prog w.drew = .ok (#[] : Array Value) w.drew := run_firstCells_none w.drew i0.size 0 0 0
 have hrz : ∀ ty, (Builtin.append_ #[60, 3] ty #[.slice none 0 0, .int .i64 (n : Int)]).run Try.prog w =
   .ok (.slice (some ⟨w.heap.size, 0, none⟩) n (grownCap w n 0 89)) (w.drew.alloc (.cells (#[] ++ Builtin.zeroCells (Value.cells (.int .u32 0)) n ++ Builtin.zeroCells (Value.cells (.int .u32 0)) (grownCap w n 0 89 - n)) 89)) := fun ty => by
  have h := Lib.run_append_grow_zeros w 60 3 ty 89 i0 (.int .u32 0) .i64 .i64 t22 t3 hi0 hz0 none 0 0 [] hold n (by omega) (by omega) (by omega) (by omega)
   (by rw [hb0]; omega)
   (by have := growslice_fits (show 0 < n from h0) (show n * i0.bytes ≤ 140737488355328 by rw [hb0]; omega); simpa using this)
  simpa using h
 have hGn : n ≤ grownCap w n 0 89 := grownCap_ge w _ _ _
 have hGm := grownCap_le_maxLen w n 0 89 (by unfold maxLen; omega)
 obtain ⟨G, hG⟩ : ∃ G, G = grownCap w n 0 89 := ⟨_, rfl⟩
 rw [← hG] at hrz hGn hGm
 have hG63 : G ≤ 9223372036854775807 := by unfold maxLen at hGm; omega
 clear hold hG
 go_enter Try.func82, Try.ntmps82
 go_wp2_with (at_builtin; refine Lib.wpList_append_run _ rfl _ _ _ _ rfl _ _ rfl rfl _ _ (hrz _) ?_)
 all_goals
  go_ret
  refine ⟨_, rfl, ?_, rfl, .inr ⟨w.heap.size, G, Builtin.zeroCells #[Value.int .u32 0] n ++ Builtin.zeroCells #[Value.int .u32 0] (G - n), rfl, Nat.le_refl _, ?_, Nat.zero_le _, hGm, ?_, ?_⟩⟩
  ·exact ((Below.refl _ _).alloc (Nat.le_refl _) _).drew
  ·show (w.heap.push _)[w.heap.size]? = _
   exact Array.getElem?_push_size
  ·have hz : ∀ k, (Builtin.zeroCells #[Value.int .u32 0] k).size = k := fun k => by simp [Builtin.zeroCells]
   rw [Array.size_append, hz, hz]; omega
  ·simp
theorem grow_cW (w : World) (n : Nat) (hn : n ≤ 1000000000000) : Calls Try.prog 82 #[.slice none 0 0, .int .i64 n] w (Ret fun v w' => Ext w w' ∧ Own w' w.heap.size 89 v []) := by
 cases n with
 | zero => exact grow_0W w
 | succ n => exact grow_1W w (n + 1) (Nat.succ_pos _) hn
theorem cat_slW : (Try.prog.info? 60).map (fun i => (i.zero, i.size, i.bytes)) = some (some (.slice none 0 0), 1, 24) := by kernel_rfl
def SlSW (w : World) (vs : List Value) (ls : List (List UInt32)) : Prop := vs.length = ls.length ∧ ∀ i, i < ls.length → ∃ B, Sl w B (vs.getD i undef) ((ls.getD i []).map w32)
theorem flat_takeW (ls : List (List UInt32)) (k : Nat) (h : k < ls.length) : (ls.take (k + 1)).flatten = (ls.take k).flatten ++ ls.getD k [] := by
 rw [List.take_succ_eq_append_getElem h, List.flatten_append, List.getD_eq_getElem?_getD, List.getElem?_eq_getElem h]; simp
theorem flat_leW (ls : List (List UInt32)) (k : Nat) : (ls.take k).flatten.length ≤ ls.flatten.length := by
 have : ls.flatten = (ls.take k).flatten ++ (ls.drop k).flatten := by rw [← List.flatten_append, List.take_append_drop]
 rw [this, List.length_append]; omega
theorem vgetW {vs : List Value} {k n : Nat} (hn : vs.length = n) (h : k < n) : vs[k]? = some (vs.getD k undef) := by
 rw [List.getD_eq_getElem?_getD, List.getElem?_eq_getElem (by omega)]; rfl
set_option maxHeartbeats 800000 in
theorem concat_cW (w : World) (B : Nat) (v : Value) (vs : List Value) (ls : List (List UInt32)) (hv : Sl w B v vs) (hvs : SlSW w vs ls) (hl : ls.length ≤ 1000000) (hb : ls.flatten.length ≤ 1000000000) :
  Calls Try.prog 67 #[v] w (Ret fun v' w' => Ext w w' ∧ Own w' w.heap.size 89 v' (ls.flatten.map w32)) := by
 obtain ⟨i89, hi89, hz89, hs89, hb89⟩ := info_parts cat_u8W
 obtain ⟨i60, hi60, hz60, hs60, hb60⟩ := info_parts cat_slW
 have hvl := hvs.1
 go_enter Try.func67, Try.ntmps67
 go_wp2_with (first
  | ((with_reducible refine g_at (d := 10) ?_); refine wpl_len rfl Try.underlying115 hv (by first | rw [List.length_map] | rfl) ?_; try (conv in (Act.put _ _ _) => simp only [Act.put, List.setIfInBounds_toArray, List.set_cons_succ, List.set_cons_zero]))
  | ((with_reducible refine g_at (d := 17) ?_); refine wpl_len rfl Try.underlying60 (by first | assumption | exact Own.sl (by assumption) | exact Sl.back (by first | assumption | exact Ext.drew' (by assumption) | exact Ext.undrew (by assumption)) (by first | assumption | exact Own.sl (by assumption) | exact Sl.back (by first | assumption | exact Ext.drew' (by assumption) | exact Ext.undrew (by assumption)) (by first | assumption | exact Own.sl (by assumption) | exact Sl.back (by first | assumption | exact Ext.drew' (by assumption) | exact Ext.undrew (by assumption)) (by first | assumption | exact Own.sl (by assumption) | exact Sl.back (by first | assumption | exact Ext.drew' (by assumption) | exact Ext.undrew (by assumption)) (by first | assumption | exact Own.sl (by assumption) | exact Sl.back (by first | assumption | exact Ext.drew' (by assumption) | exact Ext.undrew (by assumption)) (by first | assumption | exact Own.sl (by assumption) | exact Sl.back (by first | assumption | exact Ext.drew' (by assumption) | exact Ext.undrew (by assumption)) (by first | assumption | exact Own.sl (by assumption) | exact Sl.back (by first | assumption | exact Ext.drew' (by assumption) | exact Ext.undrew (by assumption)) (by first | assumption | exact Own.sl (by assumption))))))))) (by first | rw [List.length_map] | rfl) ?_; try (conv in (Act.put _ _ _) => simp only [Act.put, List.setIfInBounds_toArray, List.set_cons_succ, List.set_cons_zero]))
  | ((with_reducible refine g_at (d := 26) ?_); refine wpl_len rfl Try.underlying115 (by first | assumption | exact Own.sl (by assumption) | exact Sl.back (by first | assumption | exact Ext.drew' (by assumption) | exact Ext.undrew (by assumption)) (by first | assumption | exact Own.sl (by assumption) | exact Sl.back (by first | assumption | exact Ext.drew' (by assumption) | exact Ext.undrew (by assumption)) (by first | assumption | exact Own.sl (by assumption) | exact Sl.back (by first | assumption | exact Ext.drew' (by assumption) | exact Ext.undrew (by assumption)) (by first | assumption | exact Own.sl (by assumption) | exact Sl.back (by first | assumption | exact Ext.drew' (by assumption) | exact Ext.undrew (by assumption)) (by first | assumption | exact Own.sl (by assumption) | exact Sl.back (by first | assumption | exact Ext.drew' (by assumption) | exact Ext.undrew (by assumption)) (by first | assumption | exact Own.sl (by assumption) | exact Sl.back (by first | assumption | exact Ext.drew' (by assumption) | exact Ext.undrew (by assumption)) (by first | assumption | exact Own.sl (by assumption) | exact Sl.back (by first | assumption | exact Ext.drew' (by assumption) | exact Ext.undrew (by assumption)) (by first | assumption | exact Own.sl (by assumption))))))))) (by first | rw [List.length_map] | rfl) ?_; try (conv in (Act.put _ _ _) => simp only [Act.put, List.setIfInBounds_toArray, List.set_cons_succ, List.set_cons_zero])))
 rw [hvl]
 go_loopw [3, 11] (fun s i wr => ∃ k : Nat, k ≤ ls.length ∧ i = .int .i64 k ∧ s = .int .i64 (((ls.take k).flatten.length : Nat) : Int) ∧ Ext w wr) (fun _ i _ => ls.length - (RowKit.intOf i).toNat)
 case atStart => exact ⟨0, Nat.zero_le _, rfl, by simp, Below.refl _ _⟩
 case round =>
  obtain ⟨k, hk, rfl, rfl, hx⟩ := hrel
  by_cases hlt : k < ls.length
  ·obtain ⟨Bi, hsi⟩ := hvs.2 k hlt
   have hf := flat_takeW ls k hlt
   have hle := flat_leW ls (k + 1)
   generalize ls.getD k [] = x at *
   rw [hf, List.length_append] at hle
   have hg : (ls.take (k + 1)).flatten.length = (ls.take k).flatten.length + x.length := by rw [hf, List.length_append]
   have HF := Lib.hid hg
   clear hf hg
   generalize (ls.take k).flatten.length = S at *
   have hw : wrap64 ((S : Int) + (x.length : Int)) = (S : Int) + (x.length : Int) := by unfold wrap64; omega
   have hneg : ¬ ((S : Int) + (x.length : Int) < 0) := Int.not_lt.2 (Int.add_nonneg (Int.natCast_nonneg _) (Int.natCast_nonneg _))
   go_wp2_with (first
    | ((with_reducible refine g_at (d := 13) ?_); refine wpl_index rfl rfl Try.underlying115 hi60 hs60 (hv.ext hx) rfl (vgetW hvl hlt) ?_; intro ad13 hb13 hc13; try (conv in (Act.put _ _ _) => simp only [Act.put, List.setIfInBounds_toArray, List.set_cons_succ, List.set_cons_zero]))
    | ((with_reducible refine g_at (d := 14) ?_); refine wpl_load1 rfl Try.underlying60 rfl hc13 ?_; try (conv in (Act.put _ _ _) => simp only [Act.put, List.setIfInBounds_toArray, List.set_cons_succ, List.set_cons_zero]))
    | ((with_reducible refine g_at (d := 17) ?_); refine wpl_len rfl Try.underlying60 (hsi.ext hx) (by first | rw [List.length_map] | rfl) ?_; try (conv in (Act.put _ _ _) => simp only [Act.put, List.setIfInBounds_toArray, List.set_cons_succ, List.set_cons_zero]))
    | ((with_reducible refine g_at (d := 10) ?_); refine wpl_len rfl Try.underlying115 (by first | assumption | exact Own.sl (by assumption) | exact Sl.back (by first | assumption | exact Ext.drew' (by assumption) | exact Ext.undrew (by assumption)) (by first | assumption | exact Own.sl (by assumption) | exact Sl.back (by first | assumption | exact Ext.drew' (by assumption) | exact Ext.undrew (by assumption)) (by first | assumption | exact Own.sl (by assumption) | exact Sl.back (by first | assumption | exact Ext.drew' (by assumption) | exact Ext.undrew (by assumption)) (by first | assumption | exact Own.sl (by assumption) | exact Sl.back (by first | assumption | exact Ext.drew' (by assumption) | exact Ext.undrew (by assumption)) (by first | assumption | exact Own.sl (by assumption) | exact Sl.back (by first | assumption | exact Ext.drew' (by assumption) | exact Ext.undrew (by assumption)) (by first | assumption | exact Own.sl (by assumption) | exact Sl.back (by first | assumption | exact Ext.drew' (by assumption) | exact Ext.undrew (by assumption)) (by first | assumption | exact Own.sl (by assumption) | exact Sl.back (by first | assumption | exact Ext.drew' (by assumption) | exact Ext.undrew (by assumption)) (by first | assumption | exact Own.sl (by assumption))))))))) (by first | rw [List.length_map] | rfl) ?_; try (conv in (Act.put _ _ _) => simp only [Act.put, List.setIfInBounds_toArray, List.set_cons_succ, List.set_cons_zero]))
    | ((with_reducible refine g_at (d := 26) ?_); refine wpl_len rfl Try.underlying115 (by first | assumption | exact Own.sl (by assumption) | exact Sl.back (by first | assumption | exact Ext.drew' (by assumption) | exact Ext.undrew (by assumption)) (by first | assumption | exact Own.sl (by assumption) | exact Sl.back (by first | assumption | exact Ext.drew' (by assumption) | exact Ext.undrew (by assumption)) (by first | assumption | exact Own.sl (by assumption) | exact Sl.back (by first | assumption | exact Ext.drew' (by assumption) | exact Ext.undrew (by assumption)) (by first | assumption | exact Own.sl (by assumption) | exact Sl.back (by first | assumption | exact Ext.drew' (by assumption) | exact Ext.undrew (by assumption)) (by first | assumption | exact Own.sl (by assumption) | exact Sl.back (by first | assumption | exact Ext.drew' (by assumption) | exact Ext.undrew (by assumption)) (by first | assumption | exact Own.sl (by assumption) | exact Sl.back (by first | assumption | exact Ext.drew' (by assumption) | exact Ext.undrew (by assumption)) (by first | assumption | exact Own.sl (by assumption) | exact Sl.back (by first | assumption | exact Ext.drew' (by assumption) | exact Ext.undrew (by assumption)) (by first | assumption | exact Own.sl (by assumption))))))))) (by first | rw [List.length_map] | rfl) ?_; try (conv in (Act.put _ _ _) => simp only [Act.put, List.setIfInBounds_toArray, List.set_cons_succ, List.set_cons_zero])))
   go_roundw
   case rel => exact ⟨k + 1, by omega, by go_num, by rw [HF.out]; go_num, hx⟩
   case measure => simp [RowKit.intOf]; omega
  ·obtain rfl : k = ls.length := by omega
   rw [List.take_length]
   have HB := Lib.hid hb
   generalize hS : ls.flatten.length = S at *
   have HS := Lib.hid hS
   clear hS
   go_wp2_with (first
    | ((with_reducible refine g_at (d := 24) ?_); refine wpl_call Try.func82 (by kernel_rfl) (by kernel_rfl) rfl (grow_cW wr S (Nat.le_trans HB.out (by decide))) ?_; rintro v24 w24 ⟨hx24, h24⟩; try (conv in (Act.put _ _ _) => simp only [Act.put, List.setIfInBounds_toArray, List.set_cons_succ, List.set_cons_zero]))
    | ((with_reducible refine g_at (d := 26) ?_); refine wpl_len rfl Try.underlying115 (hv.ext (hx.tr hx24)) (by first | rw [List.length_map] | rfl) ?_; try (conv in (Act.put _ _ _) => simp only [Act.put, List.setIfInBounds_toArray, List.set_cons_succ, List.set_cons_zero]))
    | ((with_reducible refine g_at (d := 10) ?_); refine wpl_len rfl Try.underlying115 (by first | assumption | exact Own.sl (by assumption) | exact Sl.back (by first | assumption | exact Ext.drew' (by assumption) | exact Ext.undrew (by assumption)) (by first | assumption | exact Own.sl (by assumption) | exact Sl.back (by first | assumption | exact Ext.drew' (by assumption) | exact Ext.undrew (by assumption)) (by first | assumption | exact Own.sl (by assumption) | exact Sl.back (by first | assumption | exact Ext.drew' (by assumption) | exact Ext.undrew (by assumption)) (by first | assumption | exact Own.sl (by assumption) | exact Sl.back (by first | assumption | exact Ext.drew' (by assumption) | exact Ext.undrew (by assumption)) (by first | assumption | exact Own.sl (by assumption) | exact Sl.back (by first | assumption | exact Ext.drew' (by assumption) | exact Ext.undrew (by assumption)) (by first | assumption | exact Own.sl (by assumption) | exact Sl.back (by first | assumption | exact Ext.drew' (by assumption) | exact Ext.undrew (by assumption)) (by first | assumption | exact Own.sl (by assumption) | exact Sl.back (by first | assumption | exact Ext.drew' (by assumption) | exact Ext.undrew (by assumption)) (by first | assumption | exact Own.sl (by assumption))))))))) (by first | rw [List.length_map] | rfl) ?_; try (conv in (Act.put _ _ _) => simp only [Act.put, List.setIfInBounds_toArray, List.set_cons_succ, List.set_cons_zero]))
    | ((with_reducible refine g_at (d := 17) ?_); refine wpl_len rfl Try.underlying60 (by first | assumption | exact Own.sl (by assumption) | exact Sl.back (by first | assumption | exact Ext.drew' (by assumption) | exact Ext.undrew (by assumption)) (by first | assumption | exact Own.sl (by assumption) | exact Sl.back (by first | assumption | exact Ext.drew' (by assumption) | exact Ext.undrew (by assumption)) (by first | assumption | exact Own.sl (by assumption) | exact Sl.back (by first | assumption | exact Ext.drew' (by assumption) | exact Ext.undrew (by assumption)) (by first | assumption | exact Own.sl (by assumption) | exact Sl.back (by first | assumption | exact Ext.drew' (by assumption) | exact Ext.undrew (by assumption)) (by first | assumption | exact Own.sl (by assumption) | exact Sl.back (by first | assumption | exact Ext.drew' (by assumption) | exact Ext.undrew (by assumption)) (by first | assumption | exact Own.sl (by assumption) | exact Sl.back (by first | assumption | exact Ext.drew' (by assumption) | exact Ext.undrew (by assumption)) (by first | assumption | exact Own.sl (by assumption) | exact Sl.back (by first | assumption | exact Ext.drew' (by assumption) | exact Ext.undrew (by assumption)) (by first | assumption | exact Own.sl (by assumption))))))))) (by first | rw [List.length_map] | rfl) ?_; try (conv in (Act.put _ _ _) => simp only [Act.put, List.setIfInBounds_toArray, List.set_cons_succ, List.set_cons_zero])))
   rw [hvl]
   have hxx := hx.tr hx24
   have ho0 := h24.down hx.size
   clear hx hx24 h24
   go_loopw [6, 27] (fun o i wq => ∃ k : Nat, k ≤ ls.length ∧ i = .int .i64 k ∧ Own wq w.heap.size 89 o ((ls.take k).flatten.map w32) ∧ Ext w wq) (fun _ i _ => ls.length - (RowKit.intOf i).toNat)
   case atStart => exact ⟨0, Nat.zero_le _, rfl, by simpa using ho0, hxx⟩
   case round =>
    obtain ⟨k, hk, rfl, ho, hx⟩ := hrel
    by_cases hlt : k < ls.length
    ·obtain ⟨Bi, hsi⟩ := hvs.2 k hlt
     have hf := flat_takeW ls k hlt
     have hle := flat_leW ls (k + 1)
     generalize ls.getD k [] = x at *
     rw [hf, List.length_append] at hle
     have HF := Lib.hid hf
     clear hf
     generalize (ls.take k).flatten = X at *
     have hb9 : (List.map w32 X).length + (List.map w32 x).length ≤ 1000000000 := by rw [List.length_map, List.length_map]; have h1 := HS.out; have h2 := HB.out; omega
     go_wp2_with (first
      | ((with_reducible refine g_at (d := 29) ?_); refine wpl_index rfl rfl Try.underlying115 hi60 hs60 (hv.ext hx) rfl (vgetW hvl hlt) ?_; intro ad29 hb29 hc29; try (conv in (Act.put _ _ _) => simp only [Act.put, List.setIfInBounds_toArray, List.set_cons_succ, List.set_cons_zero]))
      | ((with_reducible refine g_at (d := 30) ?_); refine wpl_load1 rfl Try.underlying60 rfl hc29 ?_; try (conv in (Act.put _ _ _) => simp only [Act.put, List.setIfInBounds_toArray, List.set_cons_succ, List.set_cons_zero]))
      | ((with_reducible refine g_at (d := 33) ?_); refine wpl_append (v := u6) rfl rfl Try.underlying60 hi89 hz89 hs89 hb89 rfl ho (hsi.ext hx) (w32_one x) (by first | omega | (simp <;> omega)) (by omega) hx.size ?_; intro v33 w33 h33 hg33 ha33 hx33; try (conv in (Act.put _ _ _) => simp only [Act.put, List.setIfInBounds_toArray, List.set_cons_succ, List.set_cons_zero]))
      | ((with_reducible refine g_at (d := 10) ?_); refine wpl_len rfl Try.underlying115 (by first | assumption | exact Own.sl (by assumption) | exact Sl.back (by first | assumption | exact Ext.drew' (by assumption) | exact Ext.undrew (by assumption)) (by first | assumption | exact Own.sl (by assumption) | exact Sl.back (by first | assumption | exact Ext.drew' (by assumption) | exact Ext.undrew (by assumption)) (by first | assumption | exact Own.sl (by assumption) | exact Sl.back (by first | assumption | exact Ext.drew' (by assumption) | exact Ext.undrew (by assumption)) (by first | assumption | exact Own.sl (by assumption) | exact Sl.back (by first | assumption | exact Ext.drew' (by assumption) | exact Ext.undrew (by assumption)) (by first | assumption | exact Own.sl (by assumption) | exact Sl.back (by first | assumption | exact Ext.drew' (by assumption) | exact Ext.undrew (by assumption)) (by first | assumption | exact Own.sl (by assumption) | exact Sl.back (by first | assumption | exact Ext.drew' (by assumption) | exact Ext.undrew (by assumption)) (by first | assumption | exact Own.sl (by assumption) | exact Sl.back (by first | assumption | exact Ext.drew' (by assumption) | exact Ext.undrew (by assumption)) (by first | assumption | exact Own.sl (by assumption))))))))) (by first | rw [List.length_map] | rfl) ?_; try (conv in (Act.put _ _ _) => simp only [Act.put, List.setIfInBounds_toArray, List.set_cons_succ, List.set_cons_zero]))
      | ((with_reducible refine g_at (d := 17) ?_); refine wpl_len rfl Try.underlying60 (by first | assumption | exact Own.sl (by assumption) | exact Sl.back (by first | assumption | exact Ext.drew' (by assumption) | exact Ext.undrew (by assumption)) (by first | assumption | exact Own.sl (by assumption) | exact Sl.back (by first | assumption | exact Ext.drew' (by assumption) | exact Ext.undrew (by assumption)) (by first | assumption | exact Own.sl (by assumption) | exact Sl.back (by first | assumption | exact Ext.drew' (by assumption) | exact Ext.undrew (by assumption)) (by first | assumption | exact Own.sl (by assumption) | exact Sl.back (by first | assumption | exact Ext.drew' (by assumption) | exact Ext.undrew (by assumption)) (by first | assumption | exact Own.sl (by assumption) | exact Sl.back (by first | assumption | exact Ext.drew' (by assumption) | exact Ext.undrew (by assumption)) (by first | assumption | exact Own.sl (by assumption) | exact Sl.back (by first | assumption | exact Ext.drew' (by assumption) | exact Ext.undrew (by assumption)) (by first | assumption | exact Own.sl (by assumption) | exact Sl.back (by first | assumption | exact Ext.drew' (by assumption) | exact Ext.undrew (by assumption)) (by first | assumption | exact Own.sl (by assumption))))))))) (by first | rw [List.length_map] | rfl) ?_; try (conv in (Act.put _ _ _) => simp only [Act.put, List.setIfInBounds_toArray, List.set_cons_succ, List.set_cons_zero]))
      | ((with_reducible refine g_at (d := 26) ?_); refine wpl_len rfl Try.underlying115 (by first | assumption | exact Own.sl (by assumption) | exact Sl.back (by first | assumption | exact Ext.drew' (by assumption) | exact Ext.undrew (by assumption)) (by first | assumption | exact Own.sl (by assumption) | exact Sl.back (by first | assumption | exact Ext.drew' (by assumption) | exact Ext.undrew (by assumption)) (by first | assumption | exact Own.sl (by assumption) | exact Sl.back (by first | assumption | exact Ext.drew' (by assumption) | exact Ext.undrew (by assumption)) (by first | assumption | exact Own.sl (by assumption) | exact Sl.back (by first | assumption | exact Ext.drew' (by assumption) | exact Ext.undrew (by assumption)) (by first | assumption | exact Own.sl (by assumption) | exact Sl.back (by first | assumption | exact Ext.drew' (by assumption) | exact Ext.undrew (by assumption)) (by first | assumption | exact Own.sl (by assumption) | exact Sl.back (by first | assumption | exact Ext.drew' (by assumption) | exact Ext.undrew (by assumption)) (by first | assumption | exact Own.sl (by assumption) | exact Sl.back (by first | assumption | exact Ext.drew' (by assumption) | exact Ext.undrew (by assumption)) (by first | assumption | exact Own.sl (by assumption))))))))) (by first | rw [List.length_map] | rfl) ?_; try (conv in (Act.put _ _ _) => simp only [Act.put, List.setIfInBounds_toArray, List.set_cons_succ, List.set_cons_zero])))
     go_roundw
     case rel => exact ⟨k + 1, by omega, by go_num, by rw [HF.out, List.map_append]; exact h33, hx.trans hx33⟩
     case measure => simp [RowKit.intOf]; omega
    ·obtain rfl : k = ls.length := by omega
     rw [List.take_length] at ho
     go_wp2
     go_ret
     exact ⟨_, rfl, hx, ho⟩
end Go.Proofs.Ytliilihbnhdemaa
end
section
namespace Go.Proofs.Ytliilihbnhdemaa
open Go.RowKit Go.Ch Go.Sx
theorem slr_slW {w : World} {v : Value} {n : Nat} {vs : List Value} (h : SlR w v n 1 vs) : Sl w w.heap.size v vs := by
 obtain ⟨hl, A, c, rfl, h1, h2, h3, h4⟩ := h
 have hn : vs.length = n := by omega
 subst hn
 refine ⟨Nat.le_refl _, A, c, rfl, h1, h2, h3, fun ad had j u hu => ⟨?_, h4 ad had j u hu⟩⟩
 have := World.block_lt_of_cell? _ _ (h4 ad had j u hu)
 rwa [block_add] at this
def aLsW (H : Hp) : List Cl → Option (List (List UInt32))
 | [] => some []
 | c :: cs => (match aW H (.c c), aLsW H cs with | some l, some ls => some (l :: ls) | _, _ => none)
theorem aLs_okW {ρ : Pls} {w : World} {H : Hp} (hp : HpR ρ w H) : ∀ {cs : List Cl} {ls : List (List UInt32)} {vs : List Value}, aLsW H cs = some ls → F2 (clR ρ) cs vs → SlSW w vs ls
 | [], ls, vs, h, hv => by
  obtain rfl := F2.unnil hv
  simp only [aLsW, Option.some.injEq] at h
  subst h
  exact ⟨rfl, fun i hi => by simp at hi⟩
 | c :: cs, ls, vs, h, hv => by
  obtain ⟨v, vs', rfl, hc, hvs⟩ := F2.uncons hv
  simp only [aLsW] at h
  split at h
  ·rename_i l ls' hl hls
   injection h with h; subst h
   obtain ⟨h1, h2⟩ := aLs_okW hp hls hvs
   obtain ⟨p, hI⟩ := aW_ok hp hl hc 89
   have hs := hI.sl (fun _ _ h => csR_w.1 h) (by simp)
   refine ⟨by simp [h1], fun i hi => ?_⟩
   cases i with
   | zero => exact ⟨_, hs⟩
   | succ i => exact h2 i (by simpa using hi)
  ·cases h
def cat_ctW : Ct := fun args H => match args with
 | [.c x] => (match vcs H x with
  | some (sz, _, .c cells) => (match Nat.beq sz 1, aLsW H cells with
   | true, some ls => some ([ls.length ≤ 1000000, ls.flatten.length ≤ 1000000000], .c (.wh H.length), [⟨.row, 89, 1, ls.flatten.length, .w ls.flatten⟩])
   | _, _ => none)
  | _ => none)
 | _ => none
theorem cat_hW : FnOk Try.prog Tr 67 cat_ctW := by
 refine ⟨fun args H g av objs hF hg ρ w vals hG hp ha => ?_, _, Try.func67, by kernel_rfl, by kernel_rfl⟩
 unfold cat_ctW at hF
 split at hF
 ·rename_i x
  split at hF
  ·rename_i sz n cells hx
   split at hF
   ·rename_i ls hsz hls
    simp only [Option.some.injEq, Prod.mk.injEq] at hF
    obtain ⟨rfl, rfl, rfl⟩ := hF
    obtain ⟨v, vals, rfl, k, ha⟩ := F2.inv ha
    obtain rfl := F2.inv0 ha
    have e1 := Nat.eq_of_beq_eq_true hsz
    subst e1
    obtain ⟨vs, hc, hS⟩ := vcs_ok hp hx k
    obtain ⟨g1, g2⟩ : ls.length ≤ 1000000 ∧ ls.flatten.length ≤ 1000000000 := by simpa [allP] using hg
    exact calls_mono (concat_cW w _ v vs ls (slr_slW hS) (aLs_okW hp hls hc) g1 g2) fun v w' ⟨hx, hv⟩ => ⟨hx, left_row hv (fun _ => csR_w.2 rfl) (by rw [List.length_map])⟩
   ·cases hF
  ·cases hF
 ·cases hF
end Go.Proofs.Ytliilihbnhdemaa
end
section
namespace Go.Proofs.Ytliilihbnhdemaa
open Go.RowKit Go.Ch Go.Sx
def tabL_po : List (TypeId × Ti) := [(5, ⟨.int .u8, 1, 1, true, some [.int .u8]⟩),
 (9, ⟨.str, 1, 16, true, some [.str]⟩),
 (22, ⟨.sl 5, 1, 24, false, some [.nils]⟩),
 (28, ⟨.ifc, 1, 16, true, some [.ifc]⟩),
 (31, ⟨.int .i64, 1, 8, true, some [.int .i64]⟩),
 (60, ⟨.sl 89, 1, 24, false, some [.nils]⟩),
 (89, ⟨.int .u32, 1, 4, true, some [.int .u32]⟩),
 (102, ⟨.int .u64, 1, 8, true, some [.int .u64]⟩),
 (115, ⟨.sl 60, 1, 24, false, some [.nils]⟩)]
def tab_po : Tab := fun t => (tabL_po).lookup t
theorem tabE_po : (tabL_po.map fun p => tiOf Try.prog p.1) = tabL_po.map fun p => some p.2 := by kernel_rfl
theorem tabO_po : TabOk Try.prog tab_po := tab_of tabE_po
def pReadOid_j1 (n : Nat) (a0 : List UInt8) (i12_1 : Int) (k_l1 : (List UInt32) → UInt64 → Bool → Int → Option (List UInt32 × Option Int)) (w4_7 : List UInt32) (y5_7 : UInt64) (p6_7 : Bool) : Option (List UInt32 × Option Int) :=
 gd (okI .i64 (i12_1 + 1)) <|
 k_l1 w4_7 y5_7 p6_7 (i12_1 + 1)
def pReadOid_l1 (n : Nat) (a0 : List UInt8) : Nat → List UInt32 → UInt64 → Bool → Int → Option (List UInt32 × Option Int)
 | 0, _, _, _, _ => none
 | fu_l1 + 1, w4_5, y5_5, p6_5, i12_1 =>
  bif (decide (i12_1 < ((a0.length : Nat) : Int))) then
   gd (0 ≤ i12_1) <|
   gd (i12_1 < ((a0.length : Nat) : Int)) <|
   bif (!p6_5) then
    bif ((a0.getD i12_1.toNat 0) == 128) then
     some ([], (some 2))
    else
     bif (decide ((16 : Int) < ((w4_5.length : Nat) : Int))) then
      some ([], (some 2))
     else
      gd (0 ≤ (7 : Int)) <|
      bif (decide ((4294967296 : UInt64) ≤ ((shl64 y5_5 7) ||| (((a0.getD i12_1.toNat 0) &&& (127 : UInt8)).toUInt64)))) then
       some ([], (some 2))
      else
       bif (decide ((a0.getD i12_1.toNat 0) < (128 : UInt8))) then
        gd (rmB (w4_5.length + 1) 4) <|
        pReadOid_j1 n a0 i12_1 (pReadOid_l1 n a0 fu_l1) (w4_5 ++ [((shl64 y5_5 7) ||| (((a0.getD i12_1.toNat 0) &&& (127 : UInt8)).toUInt64)).toUInt32]) 0 false
       else
        pReadOid_j1 n a0 i12_1 (pReadOid_l1 n a0 fu_l1) w4_5 ((shl64 y5_5 7) ||| (((a0.getD i12_1.toNat 0) &&& (127 : UInt8)).toUInt64)) true
   else
    bif (decide ((16 : Int) < ((w4_5.length : Nat) : Int))) then
     some ([], (some 2))
    else
     gd (0 ≤ (7 : Int)) <|
     bif (decide ((4294967296 : UInt64) ≤ ((shl64 y5_5 7) ||| (((a0.getD i12_1.toNat 0) &&& (127 : UInt8)).toUInt64)))) then
      some ([], (some 2))
     else
      bif (decide ((a0.getD i12_1.toNat 0) < (128 : UInt8))) then
       gd (rmB (w4_5.length + 1) 4) <|
       pReadOid_j1 n a0 i12_1 (pReadOid_l1 n a0 fu_l1) (w4_5 ++ [((shl64 y5_5 7) ||| (((a0.getD i12_1.toNat 0) &&& (127 : UInt8)).toUInt64)).toUInt32]) 0 false
      else
       pReadOid_j1 n a0 i12_1 (pReadOid_l1 n a0 fu_l1) w4_5 ((shl64 y5_5 7) ||| (((a0.getD i12_1.toNat 0) &&& (127 : UInt8)).toUInt64)) true
  else
   bif p6_5 then
    some ([], (some 2))
   else
    bif (((w4_5.length : Nat) : Int) == 0) then
     some ([], (some 2))
    else
     gd (0 ≤ (0 : Int)) <|
     gd ((0 : Int) < ((w4_5.length : Nat) : Int)) <|
     gd ((40 : UInt32) ≠ 0) <|
     gd (0 ≤ (0 : Int)) <|
     gd ((0 : Int) < ((w4_5.length : Nat) : Int)) <|
     gd (0 ≤ (1 : Int)) <|
     gd ((1 : Int) ≤ ((w4_5.length : Nat) : Int)) <|
     gd ((([[(if (2 : UInt32) < ((w4_5.getD 0 0) / (40 : UInt32)) then (2 : UInt32) else ((w4_5.getD 0 0) / (40 : UInt32))), ((w4_5.getD 0 0) - ((40 : UInt32) * (if (2 : UInt32) < ((w4_5.getD 0 0) / (40 : UInt32)) then (2 : UInt32) else ((w4_5.getD 0 0) / (40 : UInt32)))))], ((w4_5.drop 1).take (w4_5.length - 1))] : List (List UInt32))).length ≤ 1000000) <|
     gd ((([[(if (2 : UInt32) < ((w4_5.getD 0 0) / (40 : UInt32)) then (2 : UInt32) else ((w4_5.getD 0 0) / (40 : UInt32))), ((w4_5.getD 0 0) - ((40 : UInt32) * (if (2 : UInt32) < ((w4_5.getD 0 0) / (40 : UInt32)) then (2 : UInt32) else ((w4_5.getD 0 0) / (40 : UInt32)))))], ((w4_5.drop 1).take (w4_5.length - 1))] : List (List UInt32))).flatten.length ≤ 1000000000) <|
     (pident n ((([[(if (2 : UInt32) < ((w4_5.getD 0 0) / (40 : UInt32)) then (2 : UInt32) else ((w4_5.getD 0 0) / (40 : UInt32))), ((w4_5.getD 0 0) - ((40 : UInt32) * (if (2 : UInt32) < ((w4_5.getD 0 0) / (40 : UInt32)) then (2 : UInt32) else ((w4_5.getD 0 0) / (40 : UInt32)))))], ((w4_5.drop 1).take (w4_5.length - 1))] : List (List UInt32))).flatten)).bind fun r70_1 =>
     bif (!r70_1) then
      some ([], (some 2))
     else
      some (((([[(if (2 : UInt32) < ((w4_5.getD 0 0) / (40 : UInt32)) then (2 : UInt32) else ((w4_5.getD 0 0) / (40 : UInt32))), ((w4_5.getD 0 0) - ((40 : UInt32) * (if (2 : UInt32) < ((w4_5.getD 0 0) / (40 : UInt32)) then (2 : UInt32) else ((w4_5.getD 0 0) / (40 : UInt32)))))], ((w4_5.drop 1).take (w4_5.length - 1))] : List (List UInt32))).flatten), none)
def pReadOid (n : Nat) (a0 : List UInt8) : Option (List UInt32 × Option Int) :=
 pReadOid_l1 n a0 n [] 0 false 0
def lsame_l1 (n : Nat) (a0 : List UInt32) (a1 : List UInt32) : Nat → Int → Option (Bool)
 | 0, _ => none
 | fu_l1 + 1, i5_2 =>
 bif (decide (i5_2 < ((a0.length : Nat) : Int))) then
 gd (0 ≤ i5_2) <|
 gd (i5_2 < ((a0.length : Nat) : Int)) <|
 gd (0 ≤ i5_2) <|
 gd (i5_2 < ((a1.length : Nat) : Int)) <|
 bif ((a0.getD i5_2.toNat 0) != (a1.getD i5_2.toNat 0)) then
 some false
 else
 gd (okI .i64 (i5_2 + 1)) <|
 (lsame_l1 n a0 a1 fu_l1) (i5_2 + 1)
 else
 some true
def lsame (n : Nat) (a0 : List UInt32) (a1 : List UInt32) : Option (Bool) :=
 bif (((a0.length : Nat) : Int) != ((a1.length : Nat) : Int)) then
 some false
 else
 lsame_l1 n a0 a1 n 0
def pReadOid_j1_E (a0 : List UInt8) (i12_1 : Int) (w4_7 : List UInt32) (y5_7 : UInt64) (p6_7 : Bool) : S := ⟨[(4, kH 0), (5, kY y5_7), (6, kB p6_7), (10, kH 1), (11, kI ((a0.length : Nat) : Int)), (12, kI i12_1)], [], [nw 89 w4_7, ob 5 a0]⟩
abbrev pReadOid_j1_P (n : Nat) (a0 : List UInt8) (i12_1 : Int) (k_l1 : (List UInt32) → UInt64 → Bool → Int → Option (List UInt32 × Option Int)) (r : List UInt32 × Option Int) : S → Prop := fun s => ∃ (w4_7 : List UInt32), ∃ (y5_7 : UInt64), ∃ (p6_7 : Bool), s = pReadOid_j1_E a0 i12_1 w4_7 y5_7 p6_7 ∧ pReadOid_j1 n a0 i12_1 k_l1 w4_7 y5_7 p6_7 = some r
def pReadOid_l1_E (a0 : List UInt8) (w4_5 : List UInt32) (y5_5 : UInt64) (p6_5 : Bool) (i12_1 : Int) : S := ⟨[(4, kH 0), (5, kY y5_5), (6, kB p6_5), (10, kH 1), (11, kI ((a0.length : Nat) : Int)), (12, kI i12_1)], [], [nw 89 w4_5, ob 5 a0]⟩
abbrev pReadOid_l1_P (n : Nat) (a0 : List UInt8) (r : List UInt32 × Option Int) (fu : Nat) : S → Prop := fun s => ∃ (w4_5 : List UInt32), ∃ (y5_5 : UInt64), ∃ (p6_5 : Bool), ∃ (i12_1 : Int), s = pReadOid_l1_E a0 w4_5 y5_5 p6_5 i12_1 ∧ pReadOid_l1 n a0 fu w4_5 y5_5 p6_5 i12_1 = some r
def pReadOid_R (r : List UInt32 × Option Int) : S := ⟨[(2, kH 0), (3, kE 31 r.2)], [], [nw 89 r.1]⟩
def pReadOid_ct (n : Nat) (r : List UInt32 × Option Int) : Ct := ctc (rB 5).rd fun _ l0 => ct0 fun H => ([pReadOid n l0 = some r], shA H.length (.t [.c (.wh 0), .c (.s (.er 31 .i64 r.2))]), shH H.length [nw 89 r.1])
theorem pReadOid_ok (n : Nat) (r : List UInt32 × Option Int) : FnOk Try.prog Tr 35 (pReadOid_ct n r) := by
 refine fnok Try.func35 ?_
 refine HO_c (rB 5) fun l0 _ => HO_0 tabO_po (pReadOid_R r) [.tmp 2, .tmp 3] [0] 74 Try.func35 fun w hG h => ?_
 unfold pReadOid at h
 have hT := tabO_po
 refine Vrs hT [0] ⟨[(0, kH 0)], [], [ob 5 l0]⟩ ?_
 refine Vrs hT [0] ⟨[(0, kH 0), (4, .c (.nils))], [], [ob 5 l0]⟩ ?_
 refine Vrs hT [0] ⟨[(0, kH 0), (4, .c (.nils)), (5, kY 0), (6, kB false)], [], [ob 5 l0]⟩ ?_
 refine W_seq ?_
 refine Vrs hT [0] ⟨[(4, .c (.nils)), (5, kY 0), (6, kB false), (10, kH 0), (11, kI ((l0.length : Nat) : Int)), (12, kI 0)], [], [ob 5 l0]⟩ ?_
 refine W_block ?_
 refine Vc [.nil 4 89 1 (.w [])] [1, 0] (pReadOid_l1_E l0 [] 0 false 0) (W_lp ((pReadOid_l1_P n l0 r)) n ⟨_, _, _, _, rfl, h⟩ ?_)
 rintro fu_l1 _ ⟨w4_5, y5_5, p6_5, i12_1, rfl, h⟩
 cases fu_l1 with
 | zero => cases h
 | succ fu_l1 =>
  refine ⟨fu_l1, rfl, ?_⟩
  rw [pReadOid_l1] at h
  refine Vrs hT [0, 1] ⟨[(4, kH 0), (5, kY y5_5), (6, kB p6_5), (10, kH 1), (11, kI ((l0.length : Nat) : Int)), (12, kI i12_1), (13, kB (decide (i12_1 < ((l0.length : Nat) : Int))))], [], [nw 89 w4_5, ob 5 l0]⟩ ?_
  refine W_seq ?_
  refine Vi ((decide (i12_1 < ((l0.length : Nat) : Int)))) (fun g29 => ?_) (fun g29 => ?_)
  ·replace h := bif_t h g29
   refine Vc [] [0, 1] ⟨[(4, kH 0), (5, kY y5_5), (6, kB p6_5), (10, kH 1), (11, kI ((l0.length : Nat) : Int)), (12, kI i12_1)], [], [nw 89 w4_5, ob 5 l0]⟩ (W_skip ?_)
   refine W_join (pReadOid_j1_P n l0 i12_1 (pReadOid_l1 n l0 fu_l1) r) ?_ ?_
   ·rintro _ ⟨w4_7, y5_7, p6_7, rfl, h⟩
    unfold pReadOid_j1 at h
    obtain ⟨g1, h⟩ := gd_some h
    refine Vg hT fN [] [] [0, 1] (pReadOid_l1_E l0 w4_7 y5_7 p6_7 (i12_1 + 1)) (aP g1 aN) ?_
    exact ⟨_, _, _, _, rfl, h⟩
   ·refine W_block ?_
    obtain ⟨g2, g3, h⟩ := gd2 h
    refine Vgs hT fN [] [] [0, 1] ⟨[(4, kH 0), (5, kY y5_5), (6, kB p6_5), (8, kU (l0.getD i12_1.toNat 0)), (10, kH 1), (11, kI ((l0.length : Nat) : Int)), (12, kI i12_1)], [], [nw 89 w4_5, ob 5 l0]⟩ (aP g2 (aP g3 aN)) ?_
    refine W_seq ?_
    refine W_seq ?_
    rcases Bool.eq_false_or_eq_true (!p6_5) with g4 | g4
    ·replace h := bif_t h g4
     rcases Bool.eq_false_or_eq_true ((l0.getD i12_1.toNat 0) == 128) with g5 | g5
     ·replace h := bif_t h g5
      refine Vg hT fN [(2, true), (6, true)] [] [0, 1] ⟨[(4, kH 0), (5, kY y5_5), (8, kU (l0.getD i12_1.toNat 0)), (10, kH 1), (11, kI ((l0.length : Nat) : Int)), (12, kI i12_1), (26, kB true)], [], [nw 89 w4_5, ob 5 l0]⟩ (aP g4 (aP g5 aN)) ?_
      refine Vi (true) (fun _ => ?_) (fun hb => by cases hb)
      refine Vrs hT [] ⟨[(2, .c (.nils)), (3, kE 31 (some 2))], [], []⟩ ?_
      refine Vc [.nil 2 89 1 (.w [])] [0] (pReadOid_R ([], (some 2))) (W_ret ?_)
      exact ⟨.inl rfl, by cases h; rfl⟩
     ·replace h := bif_f h g5
      refine Vg hT fN [(2, true), (6, false)] [] [0, 1] ⟨[(4, kH 0), (5, kY y5_5), (8, kU (l0.getD i12_1.toNat 0)), (10, kH 1), (11, kI ((l0.length : Nat) : Int)), (12, kI i12_1), (26, kB (decide ((16 : Int) < ((w4_5.length : Nat) : Int))))], [], [nw 89 w4_5, ob 5 l0]⟩ (aP g4 (aP g5 aN)) ?_
      refine Vi ((decide ((16 : Int) < ((w4_5.length : Nat) : Int)))) (fun g10 => ?_) (fun g10 => ?_)
      ·replace h := bif_t h g10
       refine Vrs hT [] ⟨[(2, .c (.nils)), (3, kE 31 (some 2))], [], []⟩ ?_
       refine Vc [.nil 2 89 1 (.w [])] [0] (pReadOid_R ([], (some 2))) (W_ret ?_)
       exact ⟨.inl rfl, by cases h; rfl⟩
      ·replace h := bif_f h g10
       refine W_skip ?_
       obtain ⟨g6, h⟩ := gd_some h
       refine Vgs hT fN [] [] [0, 1] ⟨[(4, kH 0), (5, kY ((shl64 y5_5 7) ||| (((l0.getD i12_1.toNat 0) &&& (127 : UInt8)).toUInt64))), (6, kB true), (8, kU (l0.getD i12_1.toNat 0)), (10, kH 1), (11, kI ((l0.length : Nat) : Int)), (12, kI i12_1)], [], [nw 89 w4_5, ob 5 l0]⟩ (aP g6 aN) ?_
       refine W_seq ?_
       refine Vrs hT [0, 1] ⟨[(4, kH 0), (5, kY ((shl64 y5_5 7) ||| (((l0.getD i12_1.toNat 0) &&& (127 : UInt8)).toUInt64))), (6, kB true), (8, kU (l0.getD i12_1.toNat 0)), (10, kH 1), (11, kI ((l0.length : Nat) : Int)), (12, kI i12_1), (35, kB (decide ((4294967296 : UInt64) ≤ ((shl64 y5_5 7) ||| (((l0.getD i12_1.toNat 0) &&& (127 : UInt8)).toUInt64)))))], [], [nw 89 w4_5, ob 5 l0]⟩ ?_
       refine Vi ((decide ((4294967296 : UInt64) ≤ ((shl64 y5_5 7) ||| (((l0.getD i12_1.toNat 0) &&& (127 : UInt8)).toUInt64))))) (fun g9 => ?_) (fun g9 => ?_)
       ·replace h := bif_t h g9
        refine Vrs hT [] ⟨[(2, .c (.nils)), (3, kE 31 (some 2))], [], []⟩ ?_
        refine Vc [.nil 2 89 1 (.w [])] [0] (pReadOid_R ([], (some 2))) (W_ret ?_)
        exact ⟨.inl rfl, by cases h; rfl⟩
       ·replace h := bif_f h g9
        refine W_skip ?_
        refine Vrs hT [0, 1] ⟨[(4, kH 0), (5, kY ((shl64 y5_5 7) ||| (((l0.getD i12_1.toNat 0) &&& (127 : UInt8)).toUInt64))), (6, kB true), (10, kH 1), (11, kI ((l0.length : Nat) : Int)), (12, kI i12_1), (38, kB (decide ((l0.getD i12_1.toNat 0) < (128 : UInt8))))], [], [nw 89 w4_5, ob 5 l0]⟩ ?_
        refine Vi ((decide ((l0.getD i12_1.toNat 0) < (128 : UInt8)))) (fun g8 => ?_) (fun g8 => ?_)
        ·replace h := bif_t h g8
         obtain ⟨g7, h⟩ := gd_some h
         refine Vg hT fN [] [] [3, 1] (pReadOid_j1_E l0 i12_1 (w4_5 ++ [((shl64 y5_5 7) ||| (((l0.getD i12_1.toNat 0) &&& (127 : UInt8)).toUInt64)).toUInt32]) 0 false) (aP g7 aN) ?_
         exact ⟨_, _, _, rfl, h⟩
        ·replace h := bif_f h g8
         refine Vc [] [0, 1] (pReadOid_j1_E l0 i12_1 w4_5 ((shl64 y5_5 7) ||| (((l0.getD i12_1.toNat 0) &&& (127 : UInt8)).toUInt64)) true) (W_skip ?_)
         exact ⟨_, _, _, rfl, h⟩
    ·replace h := bif_f h g4
     refine Vg hT fN [(2, false)] [] [0, 1] ⟨[(4, kH 0), (5, kY y5_5), (8, kU (l0.getD i12_1.toNat 0)), (10, kH 1), (11, kI ((l0.length : Nat) : Int)), (12, kI i12_1), (26, kB (decide ((16 : Int) < ((w4_5.length : Nat) : Int))))], [], [nw 89 w4_5, ob 5 l0]⟩ (aP g4 aN) ?_
     refine Vi ((decide ((16 : Int) < ((w4_5.length : Nat) : Int)))) (fun g15 => ?_) (fun g15 => ?_)
     ·replace h := bif_t h g15
      refine Vrs hT [] ⟨[(2, .c (.nils)), (3, kE 31 (some 2))], [], []⟩ ?_
      refine Vc [.nil 2 89 1 (.w [])] [0] (pReadOid_R ([], (some 2))) (W_ret ?_)
      exact ⟨.inl rfl, by cases h; rfl⟩
     ·replace h := bif_f h g15
      refine W_skip ?_
      obtain ⟨g11, h⟩ := gd_some h
      refine Vgs hT fN [] [] [0, 1] ⟨[(4, kH 0), (5, kY ((shl64 y5_5 7) ||| (((l0.getD i12_1.toNat 0) &&& (127 : UInt8)).toUInt64))), (6, kB true), (8, kU (l0.getD i12_1.toNat 0)), (10, kH 1), (11, kI ((l0.length : Nat) : Int)), (12, kI i12_1)], [], [nw 89 w4_5, ob 5 l0]⟩ (aP g11 aN) ?_
      refine W_seq ?_
      refine Vrs hT [0, 1] ⟨[(4, kH 0), (5, kY ((shl64 y5_5 7) ||| (((l0.getD i12_1.toNat 0) &&& (127 : UInt8)).toUInt64))), (6, kB true), (8, kU (l0.getD i12_1.toNat 0)), (10, kH 1), (11, kI ((l0.length : Nat) : Int)), (12, kI i12_1), (35, kB (decide ((4294967296 : UInt64) ≤ ((shl64 y5_5 7) ||| (((l0.getD i12_1.toNat 0) &&& (127 : UInt8)).toUInt64)))))], [], [nw 89 w4_5, ob 5 l0]⟩ ?_
      refine Vi ((decide ((4294967296 : UInt64) ≤ ((shl64 y5_5 7) ||| (((l0.getD i12_1.toNat 0) &&& (127 : UInt8)).toUInt64))))) (fun g14 => ?_) (fun g14 => ?_)
      ·replace h := bif_t h g14
       refine Vrs hT [] ⟨[(2, .c (.nils)), (3, kE 31 (some 2))], [], []⟩ ?_
       refine Vc [.nil 2 89 1 (.w [])] [0] (pReadOid_R ([], (some 2))) (W_ret ?_)
       exact ⟨.inl rfl, by cases h; rfl⟩
      ·replace h := bif_f h g14
       refine W_skip ?_
       refine Vrs hT [0, 1] ⟨[(4, kH 0), (5, kY ((shl64 y5_5 7) ||| (((l0.getD i12_1.toNat 0) &&& (127 : UInt8)).toUInt64))), (6, kB true), (10, kH 1), (11, kI ((l0.length : Nat) : Int)), (12, kI i12_1), (38, kB (decide ((l0.getD i12_1.toNat 0) < (128 : UInt8))))], [], [nw 89 w4_5, ob 5 l0]⟩ ?_
       refine Vi ((decide ((l0.getD i12_1.toNat 0) < (128 : UInt8)))) (fun g13 => ?_) (fun g13 => ?_)
       ·replace h := bif_t h g13
        obtain ⟨g12, h⟩ := gd_some h
        refine Vg hT fN [] [] [3, 1] (pReadOid_j1_E l0 i12_1 (w4_5 ++ [((shl64 y5_5 7) ||| (((l0.getD i12_1.toNat 0) &&& (127 : UInt8)).toUInt64)).toUInt32]) 0 false) (aP g12 aN) ?_
        exact ⟨_, _, _, rfl, h⟩
       ·replace h := bif_f h g13
        refine Vc [] [0, 1] (pReadOid_j1_E l0 i12_1 w4_5 ((shl64 y5_5 7) ||| (((l0.getD i12_1.toNat 0) &&& (127 : UInt8)).toUInt64)) true) (W_skip ?_)
        exact ⟨_, _, _, rfl, h⟩
  ·replace h := bif_f h g29
   refine Vc [] [0] ⟨[(4, kH 0), (6, kB p6_5)], [], [nw 89 w4_5]⟩ (W_exit ?_)
   refine W_seq ?_
   refine W_seq ?_
   rcases Bool.eq_false_or_eq_true p6_5 with g16 | g16
   ·replace h := bif_t h g16
    refine Vg hT fN [(1, true)] [] [0] ⟨[(4, kH 0), (50, kB true)], [], [nw 89 w4_5]⟩ (aP g16 aN) ?_
    refine Vi (true) (fun _ => ?_) (fun hb => by cases hb)
    refine Vrs hT [] ⟨[(2, .c (.nils)), (3, kE 31 (some 2))], [], []⟩ ?_
    refine Vc [.nil 2 89 1 (.w [])] [0] (pReadOid_R ([], (some 2))) (W_ret ?_)
    exact ⟨.inl rfl, by cases h; rfl⟩
   ·replace h := bif_f h g16
    refine Vg hT fN [(1, false)] [] [0] ⟨[(4, kH 0), (50, kB (((w4_5.length : Nat) : Int) == 0))], [], [nw 89 w4_5]⟩ (aP g16 aN) ?_
    refine Vi ((((w4_5.length : Nat) : Int) == 0)) (fun g28 => ?_) (fun g28 => ?_)
    ·replace h := bif_t h g28
     refine Vrs hT [] ⟨[(2, .c (.nils)), (3, kE 31 (some 2))], [], []⟩ ?_
     refine Vc [.nil 2 89 1 (.w [])] [0] (pReadOid_R ([], (some 2))) (W_ret ?_)
     exact ⟨.inl rfl, by cases h; rfl⟩
    ·replace h := bif_f h g28
     refine W_skip ?_
     obtain ⟨g17, g18, g19, h⟩ := gd3 h
     refine Vgs hT fN [] [] [0] ⟨[(4, kH 0), (9, kX (if (2 : UInt32) < ((w4_5.getD 0 0) / (40 : UInt32)) then (2 : UInt32) else ((w4_5.getD 0 0) / (40 : UInt32))))], [], [nw 89 w4_5]⟩ (aP g17 (aP g18 (aP g19 aN))) ?_
     obtain ⟨g20, g21, g22, g23, g24, h⟩ := gd5 h
     obtain ⟨g25, h⟩ := gd_some h
     refine Vds hT (fT 11 cat_hW fN) 10 [] [(4, false), (64, false), (66, false)] [] [3] ⟨[(4, kH 0)], [], [nw 89 ((([[(if (2 : UInt32) < ((w4_5.getD 0 0) / (40 : UInt32)) then (2 : UInt32) else ((w4_5.getD 0 0) / (40 : UInt32))), ((w4_5.getD 0 0) - ((40 : UInt32) * (if (2 : UInt32) < ((w4_5.getD 0 0) / (40 : UInt32)) then (2 : UInt32) else ((w4_5.getD 0 0) / (40 : UInt32)))))], ((w4_5.drop 1).take (w4_5.length - 1))] : List (List UInt32))).flatten)]⟩ (aP g20 (aP g21 (aP g22 (aP g23 (aP g24 (aP g25 aN)))))) ?_
     refine W_seq ?_
     obtain ⟨r70_1, g26, h⟩ := bind_some' h
     refine Vgs hT (fT 1 (pident_ok n r70_1) fN) [] [] [0] ⟨[(4, kH 0), (71, kB (!r70_1))], [], [nw 89 ((([[(if (2 : UInt32) < ((w4_5.getD 0 0) / (40 : UInt32)) then (2 : UInt32) else ((w4_5.getD 0 0) / (40 : UInt32))), ((w4_5.getD 0 0) - ((40 : UInt32) * (if (2 : UInt32) < ((w4_5.getD 0 0) / (40 : UInt32)) then (2 : UInt32) else ((w4_5.getD 0 0) / (40 : UInt32)))))], ((w4_5.drop 1).take (w4_5.length - 1))] : List (List UInt32))).flatten)]⟩ (aP g26 aN) ?_
     refine Vi ((!r70_1)) (fun g27 => ?_) (fun g27 => ?_)
     ·replace h := bif_t h g27
      refine Vrs hT [] ⟨[(2, .c (.nils)), (3, kE 31 (some 2))], [], []⟩ ?_
      refine Vc [.nil 2 89 1 (.w [])] [0] (pReadOid_R ([], (some 2))) (W_ret ?_)
      exact ⟨.inl rfl, by cases h; rfl⟩
     ·replace h := bif_f h g27
      refine W_skip ?_
      refine Vrs hT [0] ⟨[(2, kH 0), (3, .c (.s (.v .nilIface)))], [], [nw 89 ((([[(if (2 : UInt32) < ((w4_5.getD 0 0) / (40 : UInt32)) then (2 : UInt32) else ((w4_5.getD 0 0) / (40 : UInt32))), ((w4_5.getD 0 0) - ((40 : UInt32) * (if (2 : UInt32) < ((w4_5.getD 0 0) / (40 : UInt32)) then (2 : UInt32) else ((w4_5.getD 0 0) / (40 : UInt32)))))], ((w4_5.drop 1).take (w4_5.length - 1))] : List (List UInt32))).flatten)]⟩ ?_
      refine Vc [.er 3 31 .i64] [0] (pReadOid_R (((([[(if (2 : UInt32) < ((w4_5.getD 0 0) / (40 : UInt32)) then (2 : UInt32) else ((w4_5.getD 0 0) / (40 : UInt32))), ((w4_5.getD 0 0) - ((40 : UInt32) * (if (2 : UInt32) < ((w4_5.getD 0 0) / (40 : UInt32)) then (2 : UInt32) else ((w4_5.getD 0 0) / (40 : UInt32)))))], ((w4_5.drop 1).take (w4_5.length - 1))] : List (List UInt32))).flatten), none)) (W_ret ?_)
      exact ⟨.inl rfl, by cases h; rfl⟩
def lsame_l1_E (a0 : List UInt32) (a1 : List UInt32) (i5_2 : Int) : S := ⟨[(0, kH 0), (1, kH 1), (5, kI i5_2)], [], [ow 89 a0, ow 89 a1]⟩
abbrev lsame_l1_P (n : Nat) (a0 : List UInt32) (a1 : List UInt32) (r : Bool) (fu : Nat) : S → Prop := fun s => ∃ (i5_2 : Int), s = lsame_l1_E a0 a1 i5_2 ∧ lsame_l1 n a0 a1 fu i5_2 = some r
def lsame_R (r : Bool) : S := ⟨[(4, kB r)], [], []⟩
def lsame_ct (n : Nat) (r : Bool) : Ct := ctc (rW 89).rd fun _ l0 => ctc (rW 89).rd fun _ l1 => ct0 fun H => ([lsame n l0 l1 = some r], shA H.length (kB r), shH H.length [])
theorem lsame_ok (n : Nat) (r : Bool) : FnOk Try.prog Tr 37 (lsame_ct n r) := by
 refine fnok Try.func37 ?_
 refine HO_c (rW 89) fun l0 _ => HO_c (rW 89) fun l1 _ => HO_0 tabO_po (lsame_R r) [.tmp 4] [] 26 Try.func37 fun w hG h => ?_
 unfold lsame at h
 have hT := tabO_po
 refine Vrs hT [0, 1] ⟨[(0, kH 0), (1, kH 1)], [], [ow 89 l0, ow 89 l1]⟩ ?_
 refine W_seq ?_
 refine Vrs hT [0, 1] ⟨[(0, kH 0), (1, kH 1), (10, kB (((l0.length : Nat) : Int) != ((l1.length : Nat) : Int)))], [], [ow 89 l0, ow 89 l1]⟩ ?_
 refine Vi ((((l0.length : Nat) : Int) != ((l1.length : Nat) : Int))) (fun g8 => ?_) (fun g8 => ?_)
 ·replace h := bif_t h g8
  refine Vrs hT [] ⟨[(4, kB false)], [], []⟩ ?_
  refine Vc [] [] (lsame_R false) (W_ret ?_)
  exact ⟨.inl rfl, by cases h; rfl⟩
 ·replace h := bif_f h g8
  refine W_skip ?_
  refine W_seq ?_
  refine Vrs hT [0, 1] ⟨[(0, kH 0), (1, kH 1), (5, kI 0)], [], [ow 89 l0, ow 89 l1]⟩ ?_
  refine W_block ?_
  refine Vc [] [0, 1] (lsame_l1_E l0 l1 0) (W_lp ((lsame_l1_P n l0 l1 r)) n ⟨_, rfl, h⟩ ?_)
  rintro fu_l1 _ ⟨i5_2, rfl, h⟩
  cases fu_l1 with
  | zero => cases h
  | succ fu_l1 =>
   refine ⟨fu_l1, rfl, ?_⟩
   rw [lsame_l1] at h
   refine W_seq ?_
   refine Vrs hT [0, 1] ⟨[(0, kH 0), (1, kH 1), (5, kI i5_2), (14, kB (decide (i5_2 < ((l0.length : Nat) : Int))))], [], [ow 89 l0, ow 89 l1]⟩ ?_
   refine Vi ((decide (i5_2 < ((l0.length : Nat) : Int)))) (fun g7 => ?_) (fun g7 => ?_)
   ·replace h := bif_t h g7
    refine W_skip ?_
    refine W_seq ?_
    refine W_block ?_
    obtain ⟨g1, g2, g3, g4, h⟩ := gd4 h
    refine Vds hT fN 8 [] [(0, false), (1, false), (5, false), (20, false), (24, false)] [] [0, 1] ⟨[(0, kH 0), (1, kH 1), (5, kI i5_2), (25, kB ((l0.getD i5_2.toNat 0) != (l1.getD i5_2.toNat 0)))], [], [ow 89 l0, ow 89 l1]⟩ (aP g1 (aP g2 (aP g3 (aP g4 aN)))) ?_
    refine Vi (((l0.getD i5_2.toNat 0) != (l1.getD i5_2.toNat 0))) (fun g6 => ?_) (fun g6 => ?_)
    ·replace h := bif_t h g6
     refine Vrs hT [] ⟨[(4, kB false)], [], []⟩ ?_
     refine Vc [] [] (lsame_R false) (W_ret ?_)
     exact ⟨.inl rfl, by cases h; rfl⟩
    ·replace h := bif_f h g6
     refine W_skip ?_
     obtain ⟨g5, h⟩ := gd_some h
     refine Vg hT fN [] [] [0, 1] (lsame_l1_E l0 l1 (i5_2 + 1)) (aP g5 aN) ?_
     exact ⟨_, rfl, h⟩
   ·replace h := bif_f h g7
    refine Vc [] [] ⟨[], [], []⟩ (W_exit ?_)
    refine Vrs hT [] ⟨[(4, kB true)], [], []⟩ ?_
    refine Vc [] [] (lsame_R true) (W_ret ?_)
    exact ⟨.inl rfl, by cases h; rfl⟩
end Go.Proofs.Ytliilihbnhdemaa
end
section
namespace Go.Sx
open Go.RowKit Go.Ch
abbrev kFn (g : Nat) : AV := .c (.s (.v (.func (.func g) #[] #[])))
def isFn (g0 : Nat) : AV → Bool
 | .c (.s (.v (.func (.func g) a b))) => Nat.beq g g0 && (a.isEmpty && b.isEmpty)
 | _ => false
theorem isFn_ok {g0 : Nat} {x : AV} (h : isFn g0 x = true) : x = kFn g0 := by
 unfold isFn at h
 split at h
 ·rename_i g a b
  simp only [Bool.and_eq_true, Array.isEmpty_iff] at h
  obtain ⟨h1, h2, h3⟩ := h
  have := Nat.eq_of_beq_eq_true h1
  subst this; subst h2; subst h3; rfl
 ·cases h
theorem aI_eq {x : AV} {n : Int} (h : aI x = some n) : x = kI n := by
 unfold aI at h
 split at h
 ·injection h with h; subst h; rfl
 ·cases h
def rdN (g0 : Nat) : List AV → Option (List Int)
 | [] => none
 | x :: xs => (match xs with
  | [] => (match isFn g0 x with | true => some [] | false => none)
  | y :: ys => (match aI x, rdN g0 (y :: ys) with | some n, some l => some (n :: l) | _, _ => none))
theorem rdN_ok {g0 : Nat} : ∀ {xs : List AV} {ns : List Int}, rdN g0 xs = some ns → xs = ns.map kI ++ [kFn g0]
 | [], ns, h => by cases h
 | [x], ns, h => by
  simp only [rdN] at h
  split at h
  ·rename_i hx
   injection h with h; subst h
   rw [isFn_ok hx]; rfl
  ·cases h
 | x :: y :: ys, ns, h => by
  rw [rdN] at h
  split at h
  ·rename_i n l hn hl
   injection h with h; subst h
   rw [rdN_ok hl, aI_eq hn]; rfl
  ·cases h
def rowP (e : TypeId) (H : Hp) (r : Nat) : Option (Nat × Oj × List (List UInt8) × List Nat) := match H[r]? with
 | some o => (match o.kd, o.sz, o.cs, Nat.beq o.e e with
  | .row, 1, .p i js, true => (match H[i]? with
   | some o2 => (match o2.kd, o2.cs with
    | .dp _, .d (.by _) l => some (i, o, l, js)
    | _, _ => none)
   | none => none)
  | _, _, _, _ => none)
 | none => none
theorem rowP_ok {e : TypeId} {H : Hp} {r i : Nat} {o : Oj} {l : List (List UInt8)} {js : List Nat} (h : rowP e H r = some (i, o, l, js)) :
  H[r]? = some o ∧ o.kd = .row ∧ o.sz = 1 ∧ o.cs = .p i js ∧ o.e = e ∧ ∃ o2 b e', H[i]? = some o2 ∧ o2.kd = .dp b ∧ o2.cs = .d (.by e') l := by
 unfold rowP at h
 split at h
 ·rename_i o' ho
  split at h
  ·rename_i j js' hk hs hc he
   split at h
   ·rename_i o2 ho2
    split at h
    ·rename_i b e' l' hk2 hc2
     injection h with h
     simp only [Prod.mk.injEq] at h
     obtain ⟨rfl, rfl, rfl, rfl⟩ := h
     exact ⟨ho, hk, hs, hc, Nat.eq_of_beq_eq_true he, o2, b, e', ho2, hk2, hc2⟩
    ·cases h
   ·cases h
  ·cases h
 ·cases h
def rwC (g0 : Nat) (e : TypeId) (G : List (List UInt8) → List Nat → List Int → Prop) (js' : List Nat) : CtM := fun args H => match args with
 | .c (.wh r) :: rest => (match rowP e H r, rdN g0 rest with
  | some (i, o, l, js), some ns => some ([G l js ns], .t [], [(r, ⟨.row, e, 1, o.n, .p i js'⟩)], [])
  | _, _ => none)
 | _ => none
section
variable {P : Program} {T : Tab} {f : FuncId}
theorem fnokR {g0 : Nat} {e e' : TypeId} {G : List (List UInt8) → List Nat → List Int → Prop} {js' : List Nat} (nt : Nat) (R : List (List UInt8) → List Nat → S) {fn : Func} {c : Code} (hf : P.funcs[f]? = some fn)
  (hW : ∀ (w : World) (bs : Bs) (l : List (List UInt8)) (js : List Nat) (ns : List Int), G l js ns →
   W P nt bs w c ⟨args0 0 (kH 0 :: (ns.map kI ++ [kFn g0])), [(1000000, kH 0), (1000001, kH 1)], [⟨.row, e, 1, js.length, .p 1 js⟩, ⟨.dp false, e, 1, l.length, .d (.by e') l⟩]⟩
    (fun ex s => (ex = .ret ∨ ex = .normal) ∧ s = R l js))
  (hl : ∀ l js ns, G l js ns → ns.length + 2 ≤ nt)
  (hR : ∀ l js, ∃ fr, R l js = ⟨fr, [(1000000, kH 0), (1000001, kH 1)], [⟨.row, e, 1, js.length, .p 1 js'⟩, ⟨.dp false, e, 1, l.length, .d (.by e') l⟩]⟩)
  (hb : fn.body = some c := by rfl) (hn : fn.ntmps = nt := by rfl) (hres : fn.results = #[] := by rfl)
  (h1 : ((fn.name == "runtime.NumGoroutine") = false) := by kernel_rfl) (h2 : fn.body.isNone = false := by kernel_rfl) : FnMOk P f (rwC g0 e G js') := by
 refine ⟨fun args H g av up objs hF hg ρ w vals hp hs ha => ?_, fn, hf, h1, h2⟩
 unfold rwC at hF
 split at hF
 ·rename_i r rest
  split at hF
  ·rename_i i o l js ns hrp hrd
   injection hF with hF
   simp only [Prod.mk.injEq] at hF
   obtain ⟨rfl, rfl, rfl, rfl⟩ := hF
   have hG : G l js ns := by simpa [allP] using hg
   obtain ⟨k1, k2, k3, k4, k5, o2, b, e2, k6, k7, k8⟩ := rowP_ok hrp
   obtain ⟨v0, vs, rfl, hv0, ha⟩ := F2.inv ha
   have hrest := rdN_ok hrd
   have hri : r ≠ i := fun e => by subst e; rw [k1] at k6; injection k6 with k6; subst k6; rw [k2] at k7; cases k7
   have hr0 := hp r o k1
   have hd0 := hp i o2 k6
   unfold objR at hr0 hd0
   simp only [k2] at hr0
   simp only [k7] at hd0
   unfold DpR at hd0
   rw [k8] at hd0
   obtain ⟨⟨e1, e2', e3⟩, vs0, hc0, hrow0⟩ := hr0
   obtain ⟨⟨d1, d2, d3, d4⟩, d5, d6, d7⟩ := hd0
   have hown : o.own = true := by unfold Oj.own; rw [k2]
   have hv0' : v0 = .slice (ρ r).A (ρ r).n (ρ r).cap := hv0
   have hjl : o.n = js.length := by
    rw [k4, k3] at e3
    simp only [Cs.cl, List.length_map] at e3
    omega
   have dd7 := d7
   obtain ⟨A, cap, g1, g2, g3, g4, g5, g6⟩ := d7
   rw [d5] at g1
   injection g1 with ga gb gc
   subst ga; subst gc
   let up : List (Nat × Oj) := [(r, ⟨.row, e, 1, o.n, .p i js'⟩)]
   let bs : Bs := ⟨consB ρ H up, fun q => match q with | 0 => v0 | 1 => .slice (ρ i).A (ρ i).n (ρ i).cap | _ => undef, fun _ => False⟩
   let ρ1 : Pls := fun j => match j with | 0 => ρ r | _ => ρ i
   have hfar : ∀ g, (ρ i).foot g → ¬ consB ρ H up g := fun g hg ⟨i', o', o'', hm, ho'', hown', hat⟩ => by
    simp only [up, List.mem_singleton, Prod.mk.injEq] at hm
    obtain ⟨rfl, _⟩ := hm
    refine hs i' i o'' o2 g hri ho'' k6 hown' hat ?_
    unfold objAt; simp only [k7]; exact hg
   have hR0 : Rel nt bs w ⟨args0 0 (kH 0 :: (ns.map kI ++ [kFn g0])), [(1000000, kH 0), (1000001, kH 1)], [⟨.row, e, 1, js.length, .p 1 js⟩, ⟨.dp false, e, 1, l.length, .d (.by e') l⟩]⟩ { tmps := (v0 :: vs).toArray ++ Array.replicate (nt - (v0 :: vs).toArray.size) undef, defers := [] } w := by
    have hvl : vs.length = ns.length + 1 := by have := ha.1; rw [hrest] at this; simp at this; omega
    have hh := hl l js ns hG
    refine ⟨rfl, by simp; omega, ρ1, args0_fr (F2.cons (show _ = _ from hv0') ?_), fun t x hx => ?_, fun j ob hj => ?_, fun j k a b g hjk hj hk hown2 hat hat2 => ?_, fun j a g hj hfs hat => ?_, Kp.refl _ _⟩
    ·rw [← hrest]
     refine ⟨ha.1, fun q x y hx hy => ?_⟩
     have h3 := ha.2 q x y hx hy
     rw [hrest] at hx
     rcases List.mem_append.1 (List.mem_of_getElem? hx) with hm | hm
     ·obtain ⟨n, _, rfl⟩ := List.mem_map.1 hm; exact h3
     ·simp only [List.mem_singleton] at hm; subst hm; exact h3
    ·rw [List.lookup_cons] at hx
     split at hx
     ·rename_i et
      have et : t = 1000000 := by simpa using et
      subst et
      injection hx with hx; subst hx
      exact hv0'
     ·rw [List.lookup_cons] at hx
      split at hx
      ·rename_i et
       have et : t = 1000001 := by simpa using et
       subst et
       injection hx with hx; subst hx
       rfl
      ·simp at hx
    ·match j, hj with
     | 0, hj =>
      simp at hj; subst hj
      refine ⟨⟨e1.trans k3, e2'.trans hjl, by simp [Cs.cl]⟩, vs0, ?_, ?_⟩
      ·rw [k4] at hc0
       exact gi_mono (ρ := ρ) (ρ' := ρ1) (j := i) (j' := 1) rfl hc0
      ·have := hrow0
       rw [k5, k3] at this
       exact this
     | 1, hj =>
      simp at hj; subst hj
      exact ⟨⟨d1.trans d4, d2.trans d3, rfl, rfl⟩, d5, d6, dd7⟩
     | q + 2, hj => simp at hj
    ·match j, hj with
     | 0, hj =>
      simp at hj; subst hj
      match k, hk with
      | 0, hk => exact hjk rfl
      | 1, hk =>
       simp at hk; subst hk
       refine hs r i o o2 g hri k1 k6 hown ?_ ?_
       ·unfold objAt at hat ⊢; simp only [k2]; exact hat
       ·unfold objAt at hat2 ⊢; simp only [k7]; exact hat2
      | q + 2, hk => simp at hk
     | 1, hj => simp at hj; subst hj; cases hown2
     | q + 2, hj => simp at hj
    ·match j, hj with
     | 0, hj =>
      simp at hj; subst hj
      refine .inr (.inl ⟨r, ⟨.row, e, 1, o.n, .p i js'⟩, o, by simp [up], k1, hown, ?_⟩)
      unfold objAt at hat ⊢; simp only [k2]; exact hat
     | 1, hj => simp at hj; subst hj; cases hfs
     | q + 2, hj => simp at hj
   refine calls_WB hf hb hn hR0 (hW w bs l js ns hG) ?_
   rintro ex s' ⟨he, rfl⟩
   obtain ⟨fr, hRe⟩ := hR l js
   rw [hRe]
   refine ⟨he, fun a' w' hR => ?_⟩
   obtain ⟨_, _, ρ2, r3⟩ := hR
   have q0 := r3.gl 1000000 (kH 0) rfl
   have q1 := r3.gl 1000001 (kH 1) rfl
   have q0' : v0 = .slice (ρ2 0).A (ρ2 0).n (ρ2 0).cap := q0
   have q1' : Value.slice (ρ i).A (ρ i).n (ρ i).cap = .slice (ρ2 1).A (ρ2 1).n (ρ2 1).cap := q1
   rw [hv0'] at q0'
   injection q0' with qa qb qc
   injection q1' with ra rb rc
   have hr2 := r3.hp 0 _ rfl
   have hd2 := r3.hp 1 _ rfl
   obtain ⟨⟨f1, f2, f3⟩, vs2, hc2, hrow2⟩ := hr2
   obtain ⟨⟨m1, m2, m3, m4⟩, m5, m6, A', cap', m7, m8, m9, m10, m11, m12⟩ := hd2
   rw [m5] at m7
   injection m7 with na nb nc
   subst na; subst nc
   have hgv : ∀ k, k < (ρ i).n → (ρ2 1).gv [(k, 0)] = (ρ i).gv [(k, 0)] := fun k hk => by
    have hkl : k < List.length (α := List UInt8) l := Nat.lt_of_lt_of_eq hk gb
    cases hA : (ρ i).A with
    | none => have := g4 hA; omega
    | some ad =>
     have c1 := (g6 k (List.getD (α := List UInt8) l k []) (gq_getD hkl)).1 ad hA 0 Nat.one_pos
     have c2 := (m12 k (List.getD (α := List UInt8) l k []) (gq_getD hkl)).1 ad (by rw [← ra]; exact hA) 0 Nat.one_pos
     have hfoot := g5 ad hA (by omega)
     have hkeep := r3.kp.block ad.block (d6 _ hfoot) (hfar _ hfoot)
     rw [World.cell?_of_block (w := w) (by rw [block_add]; exact hkeep)] at c2
     have e9 := c1.symm.trans c2
     injection e9 with e9
     exact e9.symm
   refine ⟨.tuple #[], by simp [results, hres], ⟨r3.kp.os, r3.kp.tape, r3.kp.output, r3.kp.size, r3.kp.block⟩, [], ρ, rfl, fun _ _ _ => SamePl.refl _, fun k o p ho => by simp at ho, fun j o' hm => ?_, ⟨[], F2.nil, rfl⟩, fun k o p g ho => by simp at ho, fun j o' g hm hat => ?_, fun k l o o' p p' g hkl ho => by simp at ho, fun k o p j o' g ho => by simp at ho, fun j o' j' o'' g hjj hm hm' => ?_⟩
   ·simp only [List.mem_singleton, Prod.mk.injEq] at hm
    obtain ⟨rfl, rfl⟩ := hm
    have hu : updL ρ H.length [] = ρ := by funext i; unfold updL; split <;> simp
    rw [hu]
    refine ⟨⟨e1.trans k3, e2', by simp only [Cs.cl, List.length_map] at f3 ⊢; omega⟩, vs2, ?_, ?_⟩
    ·refine ⟨by have := hc2.1; simpa [Cs.cl] using this, fun q x y hx hy => ?_⟩
     simp only [Cs.cl, List.getElem?_map] at hx
     obtain ⟨z, hz, rfl⟩ := Option.map_eq_some_iff.1 hx
     obtain ⟨u1, u2, u3⟩ := hc2.2 q (.gi 1 z) y (by simp [Cs.cl, hz]) hy
     have hzn : z < (ρ i).n := by omega
     exact ⟨by rw [u1]; exact hgv z hzn, hzn, u3⟩
    ·rw [qa, qb, qc]; exact hrow2
   ·simp only [List.mem_singleton, Prod.mk.injEq] at hm
    obtain ⟨rfl, rfl⟩ := hm
    right
    refine ⟨j, ⟨.row, e, 1, o.n, .p i js'⟩, o, by simp, k1, hown, ?_⟩
    unfold objAt at hat ⊢; simp only [k2]; exact hat
   ·simp only [List.mem_singleton, Prod.mk.injEq] at hm hm'
    exact absurd (hm.1.trans hm'.1.symm) hjj
  ·cases hF
 ·cases hF
end
end Go.Sx
end
section
namespace Go.Proofs.Ytliilihbnhdemaa
open Go.RowKit Go.Ch Go.Sx Go.Lib Go.Proofs
theorem bytesOf_sl {P : Program} (w : World) {B : Nat} {v : Value} {l : List UInt8} (hv : Sl w B v (l.map bU)) : (Extern.Bytes.bytesOf v).run P w = .ok ⟨l.toArray⟩ w := by
 obtain ⟨_, A, c, rfl, _, _, _, h4⟩ := hv
 cases A with
 | none =>
  have hl : l = [] := by
   cases l with
   | nil => rfl
   | cons x l => have h1 := ‹(List.map bU (x :: l)).length ≤ c›; have h2 := ‹(none : Option Addr) = none → c = 0› rfl; simp at h1; omega
  subst hl
  simp [Extern.Bytes.bytesOf]; rfl
 | some a =>
  have e : l.map bU = (l.map fun x => ((x.toNat : Nat) : Int)).map (Value.int .u8) := by simp [bU, Function.comp_def]
  have h := run_loadBytesX (P := P) w (l.map fun x => ((x.toNat : Nat) : Int)) a .empty (fun j x hx => (h4 a rfl j _ (by rw [e, List.getElem?_map, hx]; rfl)).2)
  simp only [Extern.Bytes.bytesOf, List.length_map] at h ⊢
  rw [h]
  congr 1
  apply ByteArray.ext
  have e2 : Go.Lib.bytesOf (l.map fun x => ((x.toNat : Nat) : Int)) = l := by
   unfold Go.Lib.bytesOf
   rw [List.map_map]
   conv => rhs; rw [← List.map_id l]
   apply List.map_congr_left; intro x _; simp
  rw [e2]
  simp
set_option maxHeartbeats 1000000 in
set_option maxRecDepth 100000 in
theorem cmp_c (w : World) (B0 B1 : Nat) (v0 v1 : Value) (l0 l1 : List UInt8) (h0 : Sl w B0 v0 (l0.map bU)) (h1 : Sl w B1 v1 (l1.map bU)) :
  Calls Try.prog 75 #[v0, v1] w (Ret fun v w' => Ext w w' ∧ v = .int .i64 (Lib.compareBytes l0 l1)) := by
 go_enter Try.func75, Try.ntmps75
 go_wp2
 rw [run_callFunc_extern Try.func85 (by kernel_rfl) (by kernel_rfl) (by kernel_rfl) (e := Extern.BytealgCompare.compare) (by kernel_rfl)]
 have hr : (Extern.BytealgCompare.compare #[v0, v1]).run Try.prog w = .ok (.int .i64 (Lib.compareBytes l0 l1)) w := by
  change Sem.run Try.prog (do pure (goInt (Extern.BytealgCompare.cmp (← Extern.Bytes.bytesOf v0) (← Extern.Bytes.bytesOf v1)))) w = _
  simp only [Sem.run_bind, bytesOf_sl w h0, bytesOf_sl w h1, Sem.run_pure, Result.andThen]
  rw [cmp_eq]
  rfl
 rw [hr]
 simp only [Result.andThen]
 rw [Oper.upon_value]
 go_wp2
 go_ret
 exact ⟨_, rfl, Below.refl _ _, rfl⟩
def cmp_ct : Ct := ctc aB fun _ l0 => ctc aB fun _ l1 => ct0 fun _ => ([], kI (Lib.compareBytes l0 l1), [])
theorem cmp_h : FnOk Try.prog Tr 75 cmp_ct := by
 refine ⟨fun args H g av objs hF hg ρ w vals hG hp ha => ?_, _, Try.func75, by kernel_rfl, by kernel_rfl⟩
 obtain ⟨x0, _, l0, rfl, e0, hF⟩ := ctc_inv hF
 obtain ⟨x1, _, l1, rfl, e1, hF⟩ := ctc_inv hF
 obtain ⟨rfl, rfl, rfl, rfl⟩ := ct0_inv hF
 obtain ⟨v0, vals, rfl, k0, ha⟩ := F2.inv ha
 obtain ⟨v1, vals, rfl, k1, ha⟩ := F2.inv ha
 obtain rfl := F2.inv0 ha
 obtain ⟨p0, hI0⟩ := aB_ok hp e0 k0 5
 obtain ⟨p1, hI1⟩ := aB_ok hp e1 k1 5
 exact calls_mono (cmp_c w _ _ v0 v1 l0 l1 (hI0.sl (fun _ _ h => csR_b.1 h) (by simp)) (hI1.sl (fun _ _ h => csR_b.1 h) (by simp))) fun v w' ⟨hx, hv⟩ => ⟨hx, left_val fun ρ => hv⟩
end Go.Proofs.Ytliilihbnhdemaa
end
