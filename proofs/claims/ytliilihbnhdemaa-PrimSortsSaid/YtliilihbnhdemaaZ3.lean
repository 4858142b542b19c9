import Derived.Test.YtliilihbnhdemaaZ2
import Derived.Test.YtliilihbnhdemaaProg
import Derived.WalkKit
import Derived.Lib.Walk
import Derived.Lib.Strings
import Derived.Lib.Bytealg
import Derived.Lib.BytesEntry
import Derived.BigCall
set_option linter.unusedVariables false
set_option linter.unusedSimpArgs false
section
namespace Go.Proofs.Ytliilihbnhdemaa
open Go.RowKit Go.Ch Go.Sx
def tabL_pr : List (TypeId × Ti) := [(2, ⟨.int .i64, 1, 8, true, some [.int .i64]⟩),
 (3, ⟨.int .i64, 1, 8, true, some [.int .i64]⟩),
 (5, ⟨.int .u8, 1, 1, true, some [.int .u8]⟩),
 (9, ⟨.str, 1, 16, true, some [.str]⟩),
 (22, ⟨.sl 5, 1, 24, false, some [.nils]⟩),
 (28, ⟨.ifc, 1, 16, true, some [.ifc]⟩),
 (31, ⟨.int .i64, 1, 8, true, some [.int .i64]⟩),
 (34, ⟨.st [(3, 0), (3, 1), (3, 2), (3, 3), (3, 4), (3, 5)], 6, 48, true, some [.int .i64, .int .i64, .int .i64, .int .i64, .int .i64, .int .i64]⟩),
 (60, ⟨.sl 89, 1, 24, false, some [.nils]⟩),
 (76, ⟨.sl 3, 1, 24, false, some [.nils]⟩),
 (89, ⟨.int .u32, 1, 4, true, some [.int .u32]⟩),
 (91, ⟨.int .i8, 1, 1, true, some [.int .i8]⟩),
 (102, ⟨.int .u64, 1, 8, true, some [.int .u64]⟩)]
def tab_pr : Tab := fun t => (tabL_pr).lookup t
theorem tabE_pr : (tabL_pr.map fun p => tiOf Try.prog p.1) = tabL_pr.map fun p => some p.2 := by kernel_rfl
theorem tabO_pr : TabOk Try.prog tab_pr := tab_of tabE_pr
def pspare (n : Nat) (a0 : List UInt8) : Option (Bool) :=
 gd (0 ≤ (0 : Int)) <|
 gd ((0 : Int) < ((a0.length : Nat) : Int)) <|
 bif ((a0.getD 0 0) == 0) then
 gd (0 ≤ (1 : Int)) <|
 gd ((1 : Int) < ((a0.length : Nat) : Int)) <|
 bif (decide ((a0.getD 1 0) < (128 : UInt8))) then
 some true
 else
 gd (0 ≤ (0 : Int)) <|
 gd ((0 : Int) < ((a0.length : Nat) : Int)) <|
 bif ((a0.getD 0 0) == 255) then
 gd (0 ≤ (1 : Int)) <|
 gd ((1 : Int) < ((a0.length : Nat) : Int)) <|
 some (decide ((128 : UInt8) ≤ (a0.getD 1 0)))
 else
 some false
 else
 gd (0 ≤ (0 : Int)) <|
 gd ((0 : Int) < ((a0.length : Nat) : Int)) <|
 bif ((a0.getD 0 0) == 255) then
 gd (0 ≤ (1 : Int)) <|
 gd ((1 : Int) < ((a0.length : Nat) : Int)) <|
 some (decide ((128 : UInt8) ≤ (a0.getD 1 0)))
 else
 some false
def pReadInt_l1 (n : Nat) (a0 : List UInt8) : Nat → Int → Int → Option (Int × Option Int)
 | 0, _, _ => none
 | fu_l1 + 1, i4_2, i34_2 =>
 bif (decide (i34_2 < (((a0.length - 1) : Nat) : Int))) then
 gd (0 ≤ i34_2) <|
 gd (i34_2 < (((a0.length - 1) : Nat) : Int)) <|
 gd (0 ≤ (8 : Int)) <|
 gd ((8 : Int) ≤ (((IntKind.i64).bits : Nat) : Int)) <|
 gd (okI .i64 (i4_2 * 2 ^ 8)) <|
 gd (okI .i64 (i34_2 + 1)) <|
 (pReadInt_l1 n a0 fu_l1) (bitI .or .i64 (i4_2 * 2 ^ 8) (((((a0.drop 1).take (a0.length - 1)).getD i34_2.toNat 0).toNat : Nat) : Int)) (i34_2 + 1)
 else
 some (i4_2, none)
def pReadInt_l2 (n : Nat) (a0 : List UInt8) : Nat → Int → Int → Option (Int × Option Int)
 | 0, _, _ => none
 | fu_l2 + 1, i4_3, i34_3 =>
 bif (decide (i34_3 < (((a0.length - 1) : Nat) : Int))) then
 gd (0 ≤ i34_3) <|
 gd (i34_3 < (((a0.length - 1) : Nat) : Int)) <|
 gd (0 ≤ (8 : Int)) <|
 gd ((8 : Int) ≤ (((IntKind.i64).bits : Nat) : Int)) <|
 gd (okI .i64 (i4_3 * 2 ^ 8)) <|
 gd (okI .i64 (i34_3 + 1)) <|
 (pReadInt_l2 n a0 fu_l2) (bitI .or .i64 (i4_3 * 2 ^ 8) (((((a0.drop 1).take (a0.length - 1)).getD i34_3.toNat 0).toNat : Nat) : Int)) (i34_3 + 1)
 else
 some (i4_3, none)
def pReadInt (n : Nat) (a0 : List UInt8) : Option (Int × Option Int) :=
 bif (((a0.length : Nat) : Int) == 0) then
  some (0, (some 2))
 else
  bif (decide ((1 : Int) < ((a0.length : Nat) : Int))) then
   (pspare n a0).bind fun r17 =>
   bif r17 then
    some (0, (some 2))
   else
    bif (decide ((8 : Int) < ((a0.length : Nat) : Int))) then
     some (0, (some 4))
    else
     gd (0 ≤ (0 : Int)) <|
     gd ((0 : Int) < ((a0.length : Nat) : Int)) <|
     gd (okI .i64 (IntKind.i8.wrap (((a0.getD 0 0).toNat : Nat) : Int))) <|
     gd (0 ≤ (1 : Int)) <|
     gd ((1 : Int) ≤ ((a0.length : Nat) : Int)) <|
     pReadInt_l1 n a0 n (IntKind.i8.wrap (((a0.getD 0 0).toNat : Nat) : Int)) 0
  else
   bif (decide ((8 : Int) < ((a0.length : Nat) : Int))) then
    some (0, (some 4))
   else
    gd (0 ≤ (0 : Int)) <|
    gd ((0 : Int) < ((a0.length : Nat) : Int)) <|
    gd (okI .i64 (IntKind.i8.wrap (((a0.getD 0 0).toNat : Nat) : Int))) <|
    gd (0 ≤ (1 : Int)) <|
    gd ((1 : Int) ≤ ((a0.length : Nat) : Int)) <|
    pReadInt_l2 n a0 n (IntKind.i8.wrap (((a0.getD 0 0).toNat : Nat) : Int)) 0
def pident (n : Nat) (a0 : List UInt32) : Option (Bool) :=
 bif (decide (((a0.length : Nat) : Int) < (2 : Int))) then
 some false
 else
 bif (decide ((16 : Int) < ((a0.length : Nat) : Int))) then
 some false
 else
 gd (0 ≤ (0 : Int)) <|
 gd ((0 : Int) < ((a0.length : Nat) : Int)) <|
 bif (decide ((2 : UInt32) < (a0.getD 0 0))) then
 some false
 else
 gd (0 ≤ (0 : Int)) <|
 gd ((0 : Int) < ((a0.length : Nat) : Int)) <|
 bif (decide ((a0.getD 0 0) < (2 : UInt32))) then
 gd (0 ≤ (1 : Int)) <|
 gd ((1 : Int) < ((a0.length : Nat) : Int)) <|
 some (decide ((a0.getD 1 0) < (40 : UInt32)))
 else
 gd (0 ≤ (1 : Int)) <|
 gd ((1 : Int) < ((a0.length : Nat) : Int)) <|
 some (decide ((((a0.getD 1 0).toUInt64) + (80 : UInt64)) < (4294967296 : UInt64)))
def pOid_l1 (n : Nat) (a0 : List UInt32) : Nat → List UInt8 → Int → Option (List UInt8 × Option Int)
 | 0, _, _ => none
 | fu_l1 + 1, l4_1, i23_1 =>
 bif (decide (i23_1 < (((a0.length - 2) : Nat) : Int))) then
 gd (0 ≤ i23_1) <|
 gd (i23_1 < (((a0.length - 2) : Nat) : Int)) <|
 gd (rmB (l4_1.length + ((grp (((a0.drop 2).take (a0.length - 2)).getD i23_1.toNat 0)).length)) 1) <|
 gd (okI .i64 (i23_1 + 1)) <|
 (pOid_l1 n a0 fu_l1) (l4_1 ++ (grp (((a0.drop 2).take (a0.length - 2)).getD i23_1.toNat 0))) (i23_1 + 1)
 else
 some (l4_1, none)
def pOid (n : Nat) (a0 : List UInt32) : Option (List UInt8 × Option Int) :=
 (pident n a0).bind fun r8 =>
 bif (!r8) then
  some ([], (some 1))
 else
  gd (0 ≤ (0 : Int)) <|
  gd ((0 : Int) < ((a0.length : Nat) : Int)) <|
  gd (0 ≤ (1 : Int)) <|
  gd ((1 : Int) < ((a0.length : Nat) : Int)) <|
  gd (0 ≤ (2 : Int)) <|
  gd ((2 : Int) ≤ ((a0.length : Nat) : Int)) <|
  pOid_l1 n a0 n (grp (((40 : UInt32) * (a0.getD 0 0)) + (a0.getD 1 0))) 0
def pleap (n : Nat) (a0 : Int) : Option (Bool) :=
 gd ((4 : Int) ≠ 0) <|
 bif ((Int.tmod a0 4) == 0) then
 gd ((100 : Int) ≠ 0) <|
 bif ((Int.tmod a0 100) != 0) then
 some true
 else
 gd ((400 : Int) ≠ 0) <|
 some ((Int.tmod a0 400) == 0)
 else
 some false
def pdays_j1 (n : Nat) (a0 : Int) (a1 : Int) (p6_1 : Bool) : Option (Int) :=
 bif p6_1 then
  some 30
 else
  bif (a1 == 2) then
   (pleap n a0).bind fun r14 =>
   bif r14 then
    some 29
   else
    some 28
  else
   some 31
def pdays (n : Nat) (a0 : Int) (a1 : Int) : Option (Int) :=
 bif (a1 == 4) then
 pdays_j1 n a0 a1 (a1 == 4)
 else
 bif (a1 == 6) then
 pdays_j1 n a0 a1 (a1 == 6)
 else
 bif (a1 == 9) then
 pdays_j1 n a0 a1 (a1 == 9)
 else
 pdays_j1 n a0 a1 (a1 == 11)
def pvalid (n : Nat) (a0_0 : Int) (a0_1 : Int) (a0_2 : Int) (a0_3 : Int) (a0_4 : Int) (a0_5 : Int) : Option (Bool) :=
 bif (decide (a0_0 < (1 : Int))) then
  some false
 else
  bif (decide ((9999 : Int) < a0_0)) then
   some false
  else
   bif (decide (a0_1 < (1 : Int))) then
    some false
   else
    bif (decide ((12 : Int) < a0_1)) then
     some false
    else
     bif (decide (a0_2 < (1 : Int))) then
      some false
     else
      (pdays n a0_0 a0_1).bind fun r33 =>
      bif (decide (r33 < a0_2)) then
       some false
      else
       bif (decide ((0 : Int) ≤ a0_3)) then
        bif (decide (a0_3 ≤ (23 : Int))) then
         bif (decide ((0 : Int) ≤ a0_4)) then
          bif (decide (a0_4 ≤ (59 : Int))) then
           bif (decide ((0 : Int) ≤ a0_5)) then
            some (decide (a0_5 ≤ (59 : Int)))
           else
            some false
          else
           some false
         else
          some false
        else
         some false
       else
        some false
def pTime_l1 (n : Nat) (b5_1 : UInt8) (z6_1 : List Int) (m6_1 : Nat) : Nat → List UInt8 → Int → Option (UInt8 × List UInt8 × Option Int)
 | 0, _, _ => none
 | fu_l1 + 1, l7_1, i43_1 =>
 bif (decide (i43_1 < ((m6_1 : Nat) : Int))) then
 gd (0 ≤ i43_1) <|
 gd (i43_1 < ((m6_1 : Nat) : Int)) <|
 gd ((10 : Int) ≠ 0) <|
 gd (okI .i64 (Int.tdiv (z6_1.getD i43_1.toNat 0) 10)) <|
 gd (okI .i64 (48 + (Int.tdiv (z6_1.getD i43_1.toNat 0) 10))) <|
 gd ((10 : Int) ≠ 0) <|
 gd (okI .i64 (48 + (Int.tmod (z6_1.getD i43_1.toNat 0) 10))) <|
 gd (rmB (l7_1.length + 2) 1) <|
 gd (okI .i64 (i43_1 + 1)) <|
 (pTime_l1 n b5_1 z6_1 m6_1 fu_l1) (l7_1 ++ [(UInt8.ofInt (48 + (Int.tdiv (z6_1.getD i43_1.toNat 0) 10))), (UInt8.ofInt (48 + (Int.tmod (z6_1.getD i43_1.toNat 0) 10)))]) (i43_1 + 1)
 else
 gd (rmB (l7_1.length + 1) 1) <|
 some (b5_1, (l7_1 ++ [90]), none)
def pTime_j1 (n : Nat) (b5_1 : UInt8) (z6_1 : List Int) (m6_1 : Nat) : Option (UInt8 × List UInt8 × Option Int) :=
 pTime_l1 n b5_1 z6_1 m6_1 n [] 0
def pTime (n : Nat) (a0_0 : Int) (a0_1 : Int) (a0_2 : Int) (a0_3 : Int) (a0_4 : Int) (a0_5 : Int) : Option (UInt8 × List UInt8 × Option Int) :=
 (pvalid n a0_0 a0_1 a0_2 a0_3 a0_4 a0_5).bind fun r11 =>
 bif (!r11) then
  some (0, [], (some 1))
 else
  gd ((100 : Int) ≠ 0) <|
  gd (okI .i64 (Int.tdiv a0_0 100)) <|
  gd ((100 : Int) ≠ 0) <|
  bif (decide ((1950 : Int) ≤ a0_0)) then
   bif (decide (a0_0 < (2050 : Int))) then
    gd (0 ≤ (1 : Int)) <|
    gd ((1 : Int) ≤ (7 : Int)) <|
    pTime_j1 n 23 (([(Int.tdiv a0_0 100), (Int.tmod a0_0 100), a0_1, a0_2, a0_3, a0_4, a0_5].drop 1).take 6) 6
   else
    pTime_j1 n 24 [(Int.tdiv a0_0 100), (Int.tmod a0_0 100), a0_1, a0_2, a0_3, a0_4, a0_5] 7
  else
   pTime_j1 n 24 [(Int.tdiv a0_0 100), (Int.tmod a0_0 100), a0_1, a0_2, a0_3, a0_4, a0_5] 7
def pahead (n : Nat) (a0 : Int) : Option (Int) :=
 gd (okI .i64 (a0 - 1)) <|
 gd (okI .i64 (365 * (a0 - 1))) <|
 gd ((4 : Int) ≠ 0) <|
 gd (okI .i64 (Int.tdiv (a0 - 1) 4)) <|
 gd (okI .i64 ((365 * (a0 - 1)) + (Int.tdiv (a0 - 1) 4))) <|
 gd ((100 : Int) ≠ 0) <|
 gd (okI .i64 (Int.tdiv (a0 - 1) 100)) <|
 gd (okI .i64 (((365 * (a0 - 1)) + (Int.tdiv (a0 - 1) 4)) - (Int.tdiv (a0 - 1) 100))) <|
 gd ((400 : Int) ≠ 0) <|
 gd (okI .i64 (Int.tdiv (a0 - 1) 400)) <|
 gd (okI .i64 ((((365 * (a0 - 1)) + (Int.tdiv (a0 - 1) 4)) - (Int.tdiv (a0 - 1) 100)) + (Int.tdiv (a0 - 1) 400))) <|
 some ((((365 * (a0 - 1)) + (Int.tdiv (a0 - 1) 4)) - (Int.tdiv (a0 - 1) 100)) + (Int.tdiv (a0 - 1) 400))
def pCount_l1 (n : Nat) (a0_0 : Int) (a0_1 : Int) (a0_2 : Int) (a0_3 : Int) (a0_4 : Int) (a0_5 : Int) : Nat → Int → Int → Option (Int × Option Int)
 | 0, _, _ => none
 | fu_l1 + 1, i4_1, i5_1 =>
  bif (decide (i5_1 < a0_1)) then
   (pdays n a0_0 i5_1).bind fun r27_2 =>
   gd (okI .i64 (i4_1 + r27_2)) <|
   gd (okI .i64 (i5_1 + 1)) <|
   (pCount_l1 n a0_0 a0_1 a0_2 a0_3 a0_4 a0_5 fu_l1) (i4_1 + r27_2) (i5_1 + 1)
  else
   gd (okI .i64 (i4_1 * 86400)) <|
   gd (okI .i64 (a0_3 * 3600)) <|
   gd (okI .i64 (a0_4 * 60)) <|
   gd (okI .i64 ((a0_3 * 3600) + (a0_4 * 60))) <|
   gd (okI .i64 (((a0_3 * 3600) + (a0_4 * 60)) + a0_5)) <|
   gd (okI .i64 ((i4_1 * 86400) + (((a0_3 * 3600) + (a0_4 * 60)) + a0_5))) <|
   some (((i4_1 * 86400) + (((a0_3 * 3600) + (a0_4 * 60)) + a0_5)), none)
def pCount (n : Nat) (a0_0 : Int) (a0_1 : Int) (a0_2 : Int) (a0_3 : Int) (a0_4 : Int) (a0_5 : Int) : Option (Int × Option Int) :=
 (pvalid n a0_0 a0_1 a0_2 a0_3 a0_4 a0_5).bind fun r7 =>
 bif (!r7) then
  some (0, (some 1))
 else
  (pahead n a0_0).bind fun r12 =>
  gd (okI .i64 (a0_2 - 1)) <|
  gd (okI .i64 (r12 + (a0_2 - 1))) <|
  pCount_l1 n a0_0 a0_1 a0_2 a0_3 a0_4 a0_5 n (r12 + (a0_2 - 1)) 1
def pInt_j1 (n : Nat) (l3_6 : List UInt8) (m3_4 : Nat) : Option (List UInt8) :=
 gd ((l3_6).length ≤ 1000000000000) <|
 some l3_6
def pInt_l2 (n : Nat) : Nat → List UInt8 → Nat → Option (List UInt8)
 | 0, _, _ => none
 | fu_l2 + 1, l3_7, m3_5 =>
  bif (decide ((1 : Int) < ((m3_5 : Nat) : Int))) then
   (pspare n l3_7).bind fun r21_5 =>
   bif r21_5 then
    gd (0 ≤ (1 : Int)) <|
    gd ((1 : Int) ≤ ((m3_5 : Nat) : Int)) <|
    (pInt_l2 n fu_l2) ((l3_7.drop 1).take (m3_5 - 1)) (m3_5 - 1)
   else
    pInt_j1 n l3_7 m3_5
  else
   pInt_j1 n l3_7 m3_5
def pInt_l1 (n : Nat) (a0 : Int) : Nat → List UInt8 → Int → Option (List UInt8)
 | 0, _, _ => none
 | fu_l1 + 1, l3_4, i4_1 =>
 bif (decide ((0 : Int) ≤ i4_1)) then
 gd (0 ≤ i4_1) <|
 gd (i4_1 ≤ (((IntKind.i64).bits : Nat) : Int)) <|
 gd (rmB (l3_4.length + 1) 1) <|
 gd (okI .i64 (i4_1 - 8)) <|
 (pInt_l1 n a0 fu_l1) (l3_4 ++ [(UInt8.ofInt (a0 / 2 ^ i4_1.toNat))]) (i4_1 - 8)
 else
 pInt_l2 n n l3_4 l3_4.length
def pInt (n : Nat) (a0 : Int) : Option (List UInt8) :=
 pInt_l1 n a0 n [] 56
def pup (n : Nat) : Option (Bool) :=
 (pReadInt n [0, 127]).bind fun r12 =>
 (pOid n [1, 2, 840, 113549]).bind fun r17 =>
 (pTime n 2049 12 31 23 59 59).bind fun r22 =>
 (pCount n 1 1 1 0 0 1).bind fun r28 =>
 (pInt n (-129)).bind fun r31 =>
 bif (r31 == ([255, 127] : List UInt8)) then
  gd (¬((r12.2 : Option Int) = none ∧ ((some 2) : Option Int) = none)) <|
  bif (r12.2 == (some 2)) then
   bif ((r17.2).isNone) then
    bif (r17.1 == ([42, 134, 72, 134, 247, 13] : List UInt8)) then
     bif ((r22.2.2).isNone) then
      bif (r22.1 == 23) then
       bif (r22.2.1 == ([52, 57, 49, 50, 51, 49, 50, 51, 53, 57, 53, 57, 90] : List UInt8)) then
        bif ((r28.2).isNone) then
         some (r28.1 == 1)
        else
         some false
       else
        some false
      else
       some false
     else
      some false
    else
     some false
   else
    some false
  else
   some false
 else
  some false
def pspare_R (r : Bool) : S := ⟨[(2, kB r)], [], []⟩
def pspare_ct (n : Nat) (r : Bool) : Ct := ctc (rB 5).rd fun _ l0 => ct0 fun H => ([pspare n l0 = some r], shA H.length (kB r), shH H.length [])
theorem pspare_ok (n : Nat) (r : Bool) : FnOk Try.prog Tr 48 (pspare_ct n r) := by
 refine fnok Try.func48 ?_
 refine HO_c (rB 5) fun l0 _ => HO_0 tabO_pr (pspare_R r) [.tmp 2] [] 25 Try.func48 fun w hG h => ?_
 unfold pspare at h
 have hT := tabO_pr
 refine Vrs hT [0] ⟨[(0, kH 0)], [], [ob 5 l0]⟩ ?_
 refine W_seq ?_
 obtain ⟨g1, g2, h⟩ := gd2 h
 rcases Bool.eq_false_or_eq_true ((l0.getD 0 0) == 0) with g3 | g3
 ·replace h := bif_t h g3
  obtain ⟨g4, g5, h⟩ := gd2 h
  rcases Bool.eq_false_or_eq_true (decide ((l0.getD 1 0) < (128 : UInt8))) with g6 | g6
  ·replace h := bif_t h g6
   refine Vg hT fN [(4, true), (10, true)] [] [] ⟨[(2, kB true)], [], []⟩ (aP g1 (aP g2 (aP g3 (aP g4 (aP g5 (aP g6 aN)))))) ?_
   refine Vc [] [] (pspare_R true) (W_ret ?_)
   exact ⟨.inl rfl, by cases h; rfl⟩
  ·replace h := bif_f h g6
   obtain ⟨g7, g8, h⟩ := gd2 h
   rcases Bool.eq_false_or_eq_true ((l0.getD 0 0) == 255) with g9 | g9
   ·replace h := bif_t h g9
    obtain ⟨g10, g11, h⟩ := gd2 h
    refine Vg hT fN [(4, true), (10, false), (15, true)] [] [] ⟨[(2, kB (decide ((128 : UInt8) ≤ (l0.getD 1 0))))], [], []⟩ (aP g1 (aP g2 (aP g3 (aP g4 (aP g5 (aP g6 (aP g7 (aP g8 (aP g9 (aP g10 (aP g11 aN))))))))))) ?_
    refine Vc [] [] (pspare_R (decide ((128 : UInt8) ≤ (l0.getD 1 0)))) (W_ret ?_)
    exact ⟨.inl rfl, by cases h; rfl⟩
   ·replace h := bif_f h g9
    refine Vg hT fN [(4, true), (10, false), (15, false)] [] [] ⟨[(2, kB false)], [], []⟩ (aP g1 (aP g2 (aP g3 (aP g4 (aP g5 (aP g6 (aP g7 (aP g8 (aP g9 aN))))))))) ?_
    refine Vc [] [] (pspare_R false) (W_ret ?_)
    exact ⟨.inl rfl, by cases h; rfl⟩
 ·replace h := bif_f h g3
  obtain ⟨g12, g13, h⟩ := gd2 h
  rcases Bool.eq_false_or_eq_true ((l0.getD 0 0) == 255) with g14 | g14
  ·replace h := bif_t h g14
   obtain ⟨g15, g16, h⟩ := gd2 h
   refine Vg hT fN [(4, false), (15, true)] [] [] ⟨[(2, kB (decide ((128 : UInt8) ≤ (l0.getD 1 0))))], [], []⟩ (aP g1 (aP g2 (aP g3 (aP g12 (aP g13 (aP g14 (aP g15 (aP g16 aN)))))))) ?_
   refine Vc [] [] (pspare_R (decide ((128 : UInt8) ≤ (l0.getD 1 0)))) (W_ret ?_)
   exact ⟨.inl rfl, by cases h; rfl⟩
  ·replace h := bif_f h g14
   refine Vg hT fN [(4, false), (15, false)] [] [] ⟨[(2, kB false)], [], []⟩ (aP g1 (aP g2 (aP g3 (aP g12 (aP g13 (aP g14 aN)))))) ?_
   refine Vc [] [] (pspare_R false) (W_ret ?_)
   exact ⟨.inl rfl, by cases h; rfl⟩
def pReadInt_l1_E (a0 : List UInt8) (i4_2 : Int) (i34_2 : Int) : S := ⟨[(4, kI i4_2), (32, kH 0), (33, kI (((a0.length - 1) : Nat) : Int)), (34, kI i34_2)], [], [⟨(.ro false), 5, 1, (a0.length - 1), .b ((a0.drop 1).take (a0.length - 1))⟩]⟩
abbrev pReadInt_l1_P (n : Nat) (a0 : List UInt8) (r : Int × Option Int) (fu : Nat) : S → Prop := fun s => ∃ (i4_2 : Int), ∃ (i34_2 : Int), s = pReadInt_l1_E a0 i4_2 i34_2 ∧ pReadInt_l1 n a0 fu i4_2 i34_2 = some r
def pReadInt_l2_E (a0 : List UInt8) (i4_3 : Int) (i34_3 : Int) : S := ⟨[(4, kI i4_3), (32, kH 0), (33, kI (((a0.length - 1) : Nat) : Int)), (34, kI i34_3)], [], [⟨(.ro false), 5, 1, (a0.length - 1), .b ((a0.drop 1).take (a0.length - 1))⟩]⟩
abbrev pReadInt_l2_P (n : Nat) (a0 : List UInt8) (r : Int × Option Int) (fu : Nat) : S → Prop := fun s => ∃ (i4_3 : Int), ∃ (i34_3 : Int), s = pReadInt_l2_E a0 i4_3 i34_3 ∧ pReadInt_l2 n a0 fu i4_3 i34_3 = some r
def pReadInt_R (r : Int × Option Int) : S := ⟨[(2, kI r.1), (3, kE 31 r.2)], [], []⟩
def pReadInt_ct (n : Nat) (r : Int × Option Int) : Ct := ctc (rB 5).rd fun _ l0 => ct0 fun H => ([pReadInt n l0 = some r], shA H.length (.t [.c (.s (.k .i64 r.1)), .c (.s (.er 31 .i64 r.2))]), shH H.length [])
theorem pReadInt_ok (n : Nat) (r : Int × Option Int) : FnOk Try.prog Tr 18 (pReadInt_ct n r) := by
 refine fnok Try.func18 ?_
 refine HO_c (rB 5) fun l0 _ => HO_0 tabO_pr (pReadInt_R r) [.tmp 2, .tmp 3] [] 45 Try.func18 fun w hG h => ?_
 unfold pReadInt at h
 have hT := tabO_pr
 refine Vrs hT [0] ⟨[(0, kH 0)], [], [ob 5 l0]⟩ ?_
 refine W_seq ?_
 refine W_block ?_
 refine W_seq ?_
 rcases Bool.eq_false_or_eq_true (((l0.length : Nat) : Int) == 0) with g1 | g1
 ·replace h := bif_t h g1
  refine Vg hT fN [(3, true)] [] [0] ⟨[(0, kH 0), (7, kB true)], [], [ob 5 l0]⟩ (aP g1 aN) ?_
  refine Vi (true) (fun _ => ?_) (fun hb => by cases hb)
  refine Vrs hT [] ⟨[(2, kI 0), (3, kE 31 (some 2))], [], []⟩ ?_
  refine Vc [] [] (pReadInt_R (0, (some 2))) (W_ret ?_)
  exact ⟨.inl rfl, by cases h; rfl⟩
 ·replace h := bif_f h g1
  rcases Bool.eq_false_or_eq_true (decide ((1 : Int) < ((l0.length : Nat) : Int))) with g2 | g2
  ·replace h := bif_t h g2
   obtain ⟨r17, g3, h⟩ := bind_some' h
   refine Vg hT (fT 9 (pspare_ok n r17) fN) [(3, false), (7, true)] [] [0] ⟨[(0, kH 0), (7, kB r17)], [], [ob 5 l0]⟩ (aP g1 (aP g2 (aP g3 aN))) ?_
   refine Vi (r17) (fun g17 => ?_) (fun g17 => ?_)
   ·replace h := bif_t h g17
    refine Vrs hT [] ⟨[(2, kI 0), (3, kE 31 (some 2))], [], []⟩ ?_
    refine Vc [] [] (pReadInt_R (0, (some 2))) (W_ret ?_)
    exact ⟨.inl rfl, by cases h; rfl⟩
   ·replace h := bif_f h g17
    refine Vrs hT [0] ⟨[(0, kH 0), (21, kB (decide ((8 : Int) < ((l0.length : Nat) : Int))))], [], [ob 5 l0]⟩ ?_
    refine Vi ((decide ((8 : Int) < ((l0.length : Nat) : Int)))) (fun g16 => ?_) (fun g16 => ?_)
    ·replace h := bif_t h g16
     refine Vrs hT [] ⟨[(2, kI 0), (3, kE 31 (some 4))], [], []⟩ ?_
     refine Vc [] [] (pReadInt_R (0, (some 4))) (W_ret ?_)
     exact ⟨.inl rfl, by cases h; rfl⟩
    ·replace h := bif_f h g16
     refine W_skip ?_
     obtain ⟨g4, g5, g6, h⟩ := gd3 h
     refine Vgs hT fN [] [] [0] ⟨[(0, kH 0), (4, kI (IntKind.i8.wrap (((l0.getD 0 0).toNat : Nat) : Int)))], [], [ob 5 l0]⟩ (aP g4 (aP g5 (aP g6 aN))) ?_
     refine W_seq ?_
     obtain ⟨g7, g8, h⟩ := gd2 h
     refine Vgs hT fN [] [] [0] ⟨[(4, kI (IntKind.i8.wrap (((l0.getD 0 0).toNat : Nat) : Int))), (32, .c (.sl 0 1 (l0.length - 1))), (33, kI (((l0.length - 1) : Nat) : Int)), (34, kI 0)], [], [ob 5 l0]⟩ (aP g7 (aP g8 aN)) ?_
     refine W_block ?_
     refine Vc [.vw 32 false] [1] (pReadInt_l1_E l0 (IntKind.i8.wrap (((l0.getD 0 0).toNat : Nat) : Int)) 0) (W_lp ((pReadInt_l1_P n l0 r)) n ⟨_, _, rfl, h⟩ ?_)
     rintro fu_l1 _ ⟨i4_2, i34_2, rfl, h⟩
     cases fu_l1 with
     | zero => cases h
     | succ fu_l1 =>
      refine ⟨fu_l1, rfl, ?_⟩
      rw [pReadInt_l1] at h
      refine Vrs hT [0] ⟨[(4, kI i4_2), (32, kH 0), (33, kI (((l0.length - 1) : Nat) : Int)), (34, kI i34_2), (35, kB (decide (i34_2 < (((l0.length - 1) : Nat) : Int))))], [], [⟨(.ro false), 5, 1, (l0.length - 1), .b ((l0.drop 1).take (l0.length - 1))⟩]⟩ ?_
      refine W_seq ?_
      refine Vi ((decide (i34_2 < (((l0.length - 1) : Nat) : Int)))) (fun g15 => ?_) (fun g15 => ?_)
      ·replace h := bif_t h g15
       refine W_skip ?_
       refine W_seq ?_
       refine W_block ?_
       obtain ⟨g9, g10, h⟩ := gd2 h
       refine Vgs hT fN [] [] [0] ⟨[(4, kI i4_2), (6, kU (((l0.drop 1).take (l0.length - 1)).getD i34_2.toNat 0)), (32, kH 0), (33, kI (((l0.length - 1) : Nat) : Int)), (34, kI i34_2)], [], [⟨(.ro false), 5, 1, (l0.length - 1), .b ((l0.drop 1).take (l0.length - 1))⟩]⟩ (aP g9 (aP g10 aN)) ?_
       obtain ⟨g11, g12, g13, h⟩ := gd3 h
       refine Vg hT fN [] [] [0] ⟨[(4, kI (bitI .or .i64 (i4_2 * 2 ^ 8) (((((l0.drop 1).take (l0.length - 1)).getD i34_2.toNat 0).toNat : Nat) : Int))), (32, kH 0), (33, kI (((l0.length - 1) : Nat) : Int)), (34, kI i34_2)], [], [⟨(.ro false), 5, 1, (l0.length - 1), .b ((l0.drop 1).take (l0.length - 1))⟩]⟩ (aP g11 (aP g12 (aP g13 aN))) ?_
       obtain ⟨g14, h⟩ := gd_some h
       refine Vg hT fN [] [] [0] (pReadInt_l1_E l0 (bitI .or .i64 (i4_2 * 2 ^ 8) (((((l0.drop 1).take (l0.length - 1)).getD i34_2.toNat 0).toNat : Nat) : Int)) (i34_2 + 1)) (aP g14 aN) ?_
       exact ⟨_, _, rfl, h⟩
      ·replace h := bif_f h g15
       refine Vc [] [] ⟨[(4, kI i4_2)], [], []⟩ (W_exit ?_)
       refine Vrs hT [] ⟨[(2, kI i4_2), (3, .c (.s (.v .nilIface)))], [], []⟩ ?_
       refine Vc [.er 3 31 .i64] [] (pReadInt_R (i4_2, none)) (W_ret ?_)
       exact ⟨.inl rfl, by cases h; rfl⟩
  ·replace h := bif_f h g2
   refine Vg hT fN [(3, false), (7, false)] [] [0] ⟨[(0, kH 0), (7, kB false)], [], [ob 5 l0]⟩ (aP g1 (aP g2 aN)) ?_
   refine Vi (false) (fun hb => by cases hb) (fun _ => ?_)
   refine Vrs hT [0] ⟨[(0, kH 0), (21, kB (decide ((8 : Int) < ((l0.length : Nat) : Int))))], [], [ob 5 l0]⟩ ?_
   refine Vi ((decide ((8 : Int) < ((l0.length : Nat) : Int)))) (fun g30 => ?_) (fun g30 => ?_)
   ·replace h := bif_t h g30
    refine Vrs hT [] ⟨[(2, kI 0), (3, kE 31 (some 4))], [], []⟩ ?_
    refine Vc [] [] (pReadInt_R (0, (some 4))) (W_ret ?_)
    exact ⟨.inl rfl, by cases h; rfl⟩
   ·replace h := bif_f h g30
    refine W_skip ?_
    obtain ⟨g18, g19, g20, h⟩ := gd3 h
    refine Vgs hT fN [] [] [0] ⟨[(0, kH 0), (4, kI (IntKind.i8.wrap (((l0.getD 0 0).toNat : Nat) : Int)))], [], [ob 5 l0]⟩ (aP g18 (aP g19 (aP g20 aN))) ?_
    refine W_seq ?_
    obtain ⟨g21, g22, h⟩ := gd2 h
    refine Vgs hT fN [] [] [0] ⟨[(4, kI (IntKind.i8.wrap (((l0.getD 0 0).toNat : Nat) : Int))), (32, .c (.sl 0 1 (l0.length - 1))), (33, kI (((l0.length - 1) : Nat) : Int)), (34, kI 0)], [], [ob 5 l0]⟩ (aP g21 (aP g22 aN)) ?_
    refine W_block ?_
    refine Vc [.vw 32 false] [1] (pReadInt_l2_E l0 (IntKind.i8.wrap (((l0.getD 0 0).toNat : Nat) : Int)) 0) (W_lp ((pReadInt_l2_P n l0 r)) n ⟨_, _, rfl, h⟩ ?_)
    rintro fu_l2 _ ⟨i4_3, i34_3, rfl, h⟩
    cases fu_l2 with
    | zero => cases h
    | succ fu_l2 =>
     refine ⟨fu_l2, rfl, ?_⟩
     rw [pReadInt_l2] at h
     refine Vrs hT [0] ⟨[(4, kI i4_3), (32, kH 0), (33, kI (((l0.length - 1) : Nat) : Int)), (34, kI i34_3), (35, kB (decide (i34_3 < (((l0.length - 1) : Nat) : Int))))], [], [⟨(.ro false), 5, 1, (l0.length - 1), .b ((l0.drop 1).take (l0.length - 1))⟩]⟩ ?_
     refine W_seq ?_
     refine Vi ((decide (i34_3 < (((l0.length - 1) : Nat) : Int)))) (fun g29 => ?_) (fun g29 => ?_)
     ·replace h := bif_t h g29
      refine W_skip ?_
      refine W_seq ?_
      refine W_block ?_
      obtain ⟨g23, g24, h⟩ := gd2 h
      refine Vgs hT fN [] [] [0] ⟨[(4, kI i4_3), (6, kU (((l0.drop 1).take (l0.length - 1)).getD i34_3.toNat 0)), (32, kH 0), (33, kI (((l0.length - 1) : Nat) : Int)), (34, kI i34_3)], [], [⟨(.ro false), 5, 1, (l0.length - 1), .b ((l0.drop 1).take (l0.length - 1))⟩]⟩ (aP g23 (aP g24 aN)) ?_
      obtain ⟨g25, g26, g27, h⟩ := gd3 h
      refine Vg hT fN [] [] [0] ⟨[(4, kI (bitI .or .i64 (i4_3 * 2 ^ 8) (((((l0.drop 1).take (l0.length - 1)).getD i34_3.toNat 0).toNat : Nat) : Int))), (32, kH 0), (33, kI (((l0.length - 1) : Nat) : Int)), (34, kI i34_3)], [], [⟨(.ro false), 5, 1, (l0.length - 1), .b ((l0.drop 1).take (l0.length - 1))⟩]⟩ (aP g25 (aP g26 (aP g27 aN))) ?_
      obtain ⟨g28, h⟩ := gd_some h
      refine Vg hT fN [] [] [0] (pReadInt_l2_E l0 (bitI .or .i64 (i4_3 * 2 ^ 8) (((((l0.drop 1).take (l0.length - 1)).getD i34_3.toNat 0).toNat : Nat) : Int)) (i34_3 + 1)) (aP g28 aN) ?_
      exact ⟨_, _, rfl, h⟩
     ·replace h := bif_f h g29
      refine Vc [] [] ⟨[(4, kI i4_3)], [], []⟩ (W_exit ?_)
      refine Vrs hT [] ⟨[(2, kI i4_3), (3, .c (.s (.v .nilIface)))], [], []⟩ ?_
      refine Vc [.er 3 31 .i64] [] (pReadInt_R (i4_3, none)) (W_ret ?_)
      exact ⟨.inl rfl, by cases h; rfl⟩
def pident_R (r : Bool) : S := ⟨[(2, kB r)], [], []⟩
def pident_ct (n : Nat) (r : Bool) : Ct := ctc (rW 89).rd fun _ l0 => ct0 fun H => ([pident n l0 = some r], shA H.length (kB r), shH H.length [])
theorem pident_ok (n : Nat) (r : Bool) : FnOk Try.prog Tr 64 (pident_ct n r) := by
 refine fnok Try.func64 ?_
 refine HO_c (rW 89) fun l0 _ => HO_0 tabO_pr (pident_R r) [.tmp 2] [] 31 Try.func64 fun w hG h => ?_
 unfold pident at h
 have hT := tabO_pr
 refine Vrs hT [0] ⟨[(0, kH 0)], [], [ow 89 l0]⟩ ?_
 refine W_seq ?_
 refine W_seq ?_
 rcases Bool.eq_false_or_eq_true (decide (((l0.length : Nat) : Int) < (2 : Int))) with g1 | g1
 ·replace h := bif_t h g1
  refine Vg hT fN [(3, true)] [] [0] ⟨[(0, kH 0), (16, kB true)], [], [ow 89 l0]⟩ (aP g1 aN) ?_
  refine Vi (true) (fun _ => ?_) (fun hb => by cases hb)
  refine Vrs hT [] ⟨[(2, kB false)], [], []⟩ ?_
  refine Vc [] [] (pident_R false) (W_ret ?_)
  exact ⟨.inl rfl, by cases h; rfl⟩
 ·replace h := bif_f h g1
  rcases Bool.eq_false_or_eq_true (decide ((16 : Int) < ((l0.length : Nat) : Int))) with g2 | g2
  ·replace h := bif_t h g2
   refine Vg hT fN [(3, false), (8, true)] [] [0] ⟨[(0, kH 0), (16, kB true)], [], [ow 89 l0]⟩ (aP g1 (aP g2 aN)) ?_
   refine Vi (true) (fun _ => ?_) (fun hb => by cases hb)
   refine Vrs hT [] ⟨[(2, kB false)], [], []⟩ ?_
   refine Vc [] [] (pident_R false) (W_ret ?_)
   exact ⟨.inl rfl, by cases h; rfl⟩
  ·replace h := bif_f h g2
   obtain ⟨g3, g4, h⟩ := gd2 h
   refine Vg hT fN [(3, false), (8, false)] [] [0] ⟨[(0, kH 0), (16, kB (decide ((2 : UInt32) < (l0.getD 0 0))))], [], [ow 89 l0]⟩ (aP g1 (aP g2 (aP g3 (aP g4 aN)))) ?_
   refine Vi ((decide ((2 : UInt32) < (l0.getD 0 0)))) (fun g12 => ?_) (fun g12 => ?_)
   ·replace h := bif_t h g12
    refine Vrs hT [] ⟨[(2, kB false)], [], []⟩ ?_
    refine Vc [] [] (pident_R false) (W_ret ?_)
    exact ⟨.inl rfl, by cases h; rfl⟩
   ·replace h := bif_f h g12
    refine W_skip ?_
    refine W_seq ?_
    obtain ⟨g5, g6, h⟩ := gd2 h
    refine Vgs hT fN [] [] [0] ⟨[(0, kH 0), (20, kB (decide ((l0.getD 0 0) < (2 : UInt32))))], [], [ow 89 l0]⟩ (aP g5 (aP g6 aN)) ?_
    refine Vi ((decide ((l0.getD 0 0) < (2 : UInt32)))) (fun g11 => ?_) (fun g11 => ?_)
    ·replace h := bif_t h g11
     obtain ⟨g7, g8, h⟩ := gd2 h
     refine Vgs hT fN [] [] [] ⟨[(2, kB (decide ((l0.getD 1 0) < (40 : UInt32))))], [], []⟩ (aP g7 (aP g8 aN)) ?_
     refine Vc [] [] (pident_R (decide ((l0.getD 1 0) < (40 : UInt32)))) (W_ret ?_)
     exact ⟨.inl rfl, by cases h; rfl⟩
    ·replace h := bif_f h g11
     refine W_skip ?_
     obtain ⟨g9, g10, h⟩ := gd2 h
     refine Vgs hT fN [] [] [] ⟨[(2, kB (decide ((((l0.getD 1 0).toUInt64) + (80 : UInt64)) < (4294967296 : UInt64))))], [], []⟩ (aP g9 (aP g10 aN)) ?_
     refine Vc [] [] (pident_R (decide ((((l0.getD 1 0).toUInt64) + (80 : UInt64)) < (4294967296 : UInt64)))) (W_ret ?_)
     exact ⟨.inl rfl, by cases h; rfl⟩
def pOid_l1_E (a0 : List UInt32) (l4_1 : List UInt8) (i23_1 : Int) : S := ⟨[(4, kH 0), (21, kH 1), (22, kI (((a0.length - 2) : Nat) : Int)), (23, kI i23_1)], [], [nb 5 l4_1, ⟨(.ro false), 89, 1, (a0.length - 2), .w ((a0.drop 2).take (a0.length - 2))⟩]⟩
abbrev pOid_l1_P (n : Nat) (a0 : List UInt32) (r : List UInt8 × Option Int) (fu : Nat) : S → Prop := fun s => ∃ (l4_1 : List UInt8), ∃ (i23_1 : Int), s = pOid_l1_E a0 l4_1 i23_1 ∧ pOid_l1 n a0 fu l4_1 i23_1 = some r
def pOid_R (r : List UInt8 × Option Int) : S := ⟨[(2, kH 0), (3, kE 31 r.2)], [], [nb 5 r.1]⟩
def pOid_ct (n : Nat) (r : List UInt8 × Option Int) : Ct := ctc (rW 89).rd fun _ l0 => ct0 fun H => ([pOid n l0 = some r], shA H.length (.t [.c (.wh 0), .c (.s (.er 31 .i64 r.2))]), shH H.length [nb 5 r.1])
theorem pOid_ok (n : Nat) (r : List UInt8 × Option Int) : FnOk Try.prog Tr 32 (pOid_ct n r) := by
 refine fnok Try.func32 ?_
 refine HO_c (rW 89) fun l0 _ => HO_0 tabO_pr (pOid_R r) [.tmp 2, .tmp 3] [0] 33 Try.func32 fun w hG h => ?_
 unfold pOid at h
 have hT := tabO_pr
 refine Vrs hT [0] ⟨[(0, kH 0)], [], [ow 89 l0]⟩ ?_
 refine W_seq ?_
 obtain ⟨r8, g1, h⟩ := bind_some' h
 refine Vgs hT (fT 1 (pident_ok n r8) fN) [] [] [0] ⟨[(0, kH 0), (9, kB (!r8))], [], [ow 89 l0]⟩ (aP g1 aN) ?_
 refine Vi ((!r8)) (fun g13 => ?_) (fun g13 => ?_)
 ·replace h := bif_t h g13
  refine Vrs hT [] ⟨[(2, .c (.nils)), (3, kE 31 (some 1))], [], []⟩ ?_
  refine Vc [.nil 2 5 1 (.b [])] [0] (pOid_R ([], (some 1))) (W_ret ?_)
  exact ⟨.inl rfl, by cases h; rfl⟩
 ·replace h := bif_f h g13
  refine W_skip ?_
  obtain ⟨g2, g3, g4, g5, h⟩ := gd4 h
  refine Vds hT (fT 8 group_h fN) 7 [] [(0, false), (14, false), (17, false)] [] [0, 1] ⟨[(0, kH 0), (4, kH 1)], [], [ow 89 l0, nb 5 (grp (((40 : UInt32) * (l0.getD 0 0)) + (l0.getD 1 0)))]⟩ (aP g2 (aP g3 (aP g4 (aP g5 aN)))) ?_
  refine W_seq ?_
  obtain ⟨g6, g7, h⟩ := gd2 h
  refine Vgs hT fN [] [] [1, 0] ⟨[(4, kH 0), (21, .c (.sl 1 2 (l0.length - 2))), (22, kI (((l0.length - 2) : Nat) : Int)), (23, kI 0)], [], [nb 5 (grp (((40 : UInt32) * (l0.getD 0 0)) + (l0.getD 1 0))), ow 89 l0]⟩ (aP g6 (aP g7 aN)) ?_
  refine W_block ?_
  refine Vc [.vw 21 false] [0, 2] (pOid_l1_E l0 (grp (((40 : UInt32) * (l0.getD 0 0)) + (l0.getD 1 0))) 0) (W_lp ((pOid_l1_P n l0 r)) n ⟨_, _, rfl, h⟩ ?_)
  rintro fu_l1 _ ⟨l4_1, i23_1, rfl, h⟩
  cases fu_l1 with
  | zero => cases h
  | succ fu_l1 =>
   refine ⟨fu_l1, rfl, ?_⟩
   rw [pOid_l1] at h
   refine Vrs hT [0, 1] ⟨[(4, kH 0), (21, kH 1), (22, kI (((l0.length - 2) : Nat) : Int)), (23, kI i23_1), (24, kB (decide (i23_1 < (((l0.length - 2) : Nat) : Int))))], [], [nb 5 l4_1, ⟨(.ro false), 89, 1, (l0.length - 2), .w ((l0.drop 2).take (l0.length - 2))⟩]⟩ ?_
   refine W_seq ?_
   refine Vi ((decide (i23_1 < (((l0.length - 2) : Nat) : Int)))) (fun g12 => ?_) (fun g12 => ?_)
   ·replace h := bif_t h g12
    refine W_skip ?_
    refine W_seq ?_
    refine W_block ?_
    obtain ⟨g8, g9, h⟩ := gd2 h
    refine Vgs hT fN [] [] [0, 1] ⟨[(4, kH 0), (6, kX (((l0.drop 2).take (l0.length - 2)).getD i23_1.toNat 0)), (21, kH 1), (22, kI (((l0.length - 2) : Nat) : Int)), (23, kI i23_1)], [], [nb 5 l4_1, ⟨(.ro false), 89, 1, (l0.length - 2), .w ((l0.drop 2).take (l0.length - 2))⟩]⟩ (aP g8 (aP g9 aN)) ?_
    obtain ⟨g10, h⟩ := gd_some h
    refine Vg hT (fT 2 group_h fN) [] [] [3, 1] ⟨[(4, kH 0), (21, kH 1), (22, kI (((l0.length - 2) : Nat) : Int)), (23, kI i23_1)], [], [nb 5 (l4_1 ++ (grp (((l0.drop 2).take (l0.length - 2)).getD i23_1.toNat 0))), ⟨(.ro false), 89, 1, (l0.length - 2), .w ((l0.drop 2).take (l0.length - 2))⟩]⟩ (aP g10 aN) ?_
    obtain ⟨g11, h⟩ := gd_some h
    refine Vg hT fN [] [] [0, 1] (pOid_l1_E l0 (l4_1 ++ (grp (((l0.drop 2).take (l0.length - 2)).getD i23_1.toNat 0))) (i23_1 + 1)) (aP g11 aN) ?_
    exact ⟨_, _, rfl, h⟩
   ·replace h := bif_f h g12
    refine Vc [] [0] ⟨[(4, kH 0)], [], [nb 5 l4_1]⟩ (W_exit ?_)
    refine Vrs hT [0] ⟨[(2, kH 0), (3, .c (.s (.v .nilIface)))], [], [nb 5 l4_1]⟩ ?_
    refine Vc [.er 3 31 .i64] [0] (pOid_R (l4_1, none)) (W_ret ?_)
    exact ⟨.inl rfl, by cases h; rfl⟩
def pleap_R (r : Bool) : S := ⟨[(2, kB r)], [], []⟩
def pleap_ct (n : Nat) (r : Bool) : Ct := ctc rI.rd fun _ l0 => ct0 fun H => ([pleap n l0 = some r], shA H.length (kB r), shH H.length [])
theorem pleap_ok (n : Nat) (r : Bool) : FnOk Try.prog Tr 76 (pleap_ct n r) := by
 refine fnok Try.func76 ?_
 refine HO_c rI fun l0 _ => HO_0 tabO_pr (pleap_R r) [.tmp 2] [] 16 Try.func76 fun w hG h => ?_
 unfold pleap at h
 have hT := tabO_pr
 refine Vrs hT [] ⟨[(0, kI l0)], [], []⟩ ?_
 refine W_seq ?_
 obtain ⟨g1, h⟩ := gd_some h
 rcases Bool.eq_false_or_eq_true ((Int.tmod l0 4) == 0) with g2 | g2
 ·replace h := bif_t h g2
  obtain ⟨g3, h⟩ := gd_some h
  rcases Bool.eq_false_or_eq_true ((Int.tmod l0 100) != 0) with g4 | g4
  ·replace h := bif_t h g4
   refine Vg hT fN [(3, true), (7, true)] [] [] ⟨[(2, kB true)], [], []⟩ (aP g1 (aP g2 (aP g3 (aP g4 aN)))) ?_
   refine Vc [] [] (pleap_R true) (W_ret ?_)
   exact ⟨.inl rfl, by cases h; rfl⟩
  ·replace h := bif_f h g4
   obtain ⟨g5, h⟩ := gd_some h
   refine Vg hT fN [(3, true), (7, false)] [] [] ⟨[(2, kB ((Int.tmod l0 400) == 0))], [], []⟩ (aP g1 (aP g2 (aP g3 (aP g4 (aP g5 aN))))) ?_
   refine Vc [] [] (pleap_R ((Int.tmod l0 400) == 0)) (W_ret ?_)
   exact ⟨.inl rfl, by cases h; rfl⟩
 ·replace h := bif_f h g2
  refine Vg hT fN [(3, false)] [] [] ⟨[(2, kB false)], [], []⟩ (aP g1 (aP g2 aN)) ?_
  refine Vc [] [] (pleap_R false) (W_ret ?_)
  exact ⟨.inl rfl, by cases h; rfl⟩
def pdays_j1_E (a0 : Int) (a1 : Int) (p6_1 : Bool) : S := ⟨[(0, kI a0), (5, kI a1), (6, kB p6_1)], [], []⟩
abbrev pdays_j1_P (n : Nat) (a0 : Int) (a1 : Int) (r : Int) : S → Prop := fun s => ∃ (p6_1 : Bool), s = pdays_j1_E a0 a1 p6_1 ∧ pdays_j1 n a0 a1 p6_1 = some r
def pdays_R (r : Int) : S := ⟨[(4, kI r)], [], []⟩
def pdays_ct (n : Nat) (r : Int) : Ct := ctc rI.rd fun _ l0 => ctc rI.rd fun _ l1 => ct0 fun H => ([pdays n l0 l1 = some r], shA H.length (kI r), shH H.length [])
theorem pdays_ok (n : Nat) (r : Int) : FnOk Try.prog Tr 52 (pdays_ct n r) := by
 refine fnok Try.func52 ?_
 refine HO_c rI fun l0 _ => HO_c rI fun l1 _ => HO_0 tabO_pr (pdays_R r) [.tmp 4] [] 15 Try.func52 fun w hG h => ?_
 unfold pdays at h
 have hT := tabO_pr
 refine Vrs hT [] ⟨[(0, kI l0), (1, kI l1)], [], []⟩ ?_
 refine W_seq ?_
 refine Vrs hT [] ⟨[(0, kI l0), (5, kI l1)], [], []⟩ ?_
 refine W_block ?_
 refine W_join (pdays_j1_P n l0 l1 r) ?_ ?_
 ·rintro _ ⟨p6_1, rfl, h⟩
  unfold pdays_j1 at h
  refine Vi (p6_1) (fun g4 => ?_) (fun g4 => ?_)
  ·replace h := bif_t h g4
   refine Vrs hT [] ⟨[(4, kI 30)], [], []⟩ ?_
   refine Vc [] [] (pdays_R 30) (W_ret ?_)
   exact ⟨.inl rfl, by cases h; rfl⟩
  ·replace h := bif_f h g4
   refine Vrs hT [] ⟨[(0, kI l0), (11, kB (l1 == 2))], [], []⟩ ?_
   refine Vi ((l1 == 2)) (fun g3 => ?_) (fun g3 => ?_)
   ·replace h := bif_t h g3
    refine W_seq ?_
    obtain ⟨r14, g1, h⟩ := bind_some' h
    refine Vgs hT (fT 1 (pleap_ok n r14) fN) [] [] [] ⟨[(14, kB r14)], [], []⟩ (aP g1 aN) ?_
    refine Vi (r14) (fun g2 => ?_) (fun g2 => ?_)
    ·replace h := bif_t h g2
     refine Vrs hT [] ⟨[(4, kI 29)], [], []⟩ ?_
     refine Vc [] [] (pdays_R 29) (W_ret ?_)
     exact ⟨.inl rfl, by cases h; rfl⟩
    ·replace h := bif_f h g2
     refine W_skip ?_
     refine Vrs hT [] ⟨[(4, kI 28)], [], []⟩ ?_
     refine Vc [] [] (pdays_R 28) (W_ret ?_)
     exact ⟨.inl rfl, by cases h; rfl⟩
   ·replace h := bif_f h g3
    refine W_skip ?_
    refine Vrs hT [] ⟨[(4, kI 31)], [], []⟩ ?_
    refine Vc [] [] (pdays_R 31) (W_ret ?_)
    exact ⟨.inl rfl, by cases h; rfl⟩
 ·refine W_seq ?_
  refine Vr hT [] ⟨[(0, kI l0), (5, kI l1), (6, kB (l1 == 4))], [], []⟩ ?_
  refine Vi ((l1 == 4)) (fun g7 => ?_) (fun g7 => ?_)
  ·replace h := bif_t h g7
   refine Vc [] [] (pdays_j1_E l0 l1 (l1 == 4)) (W_skip ?_)
   exact ⟨_, rfl, h⟩
  ·replace h := bif_f h g7
   refine Vrs hT [] ⟨[(0, kI l0), (5, kI l1), (6, kB (l1 == 6))], [], []⟩ ?_
   refine Vi ((l1 == 6)) (fun g6 => ?_) (fun g6 => ?_)
   ·replace h := bif_t h g6
    refine Vc [] [] (pdays_j1_E l0 l1 (l1 == 6)) (W_skip ?_)
    exact ⟨_, rfl, h⟩
   ·replace h := bif_f h g6
    refine Vrs hT [] ⟨[(0, kI l0), (5, kI l1), (6, kB (l1 == 9))], [], []⟩ ?_
    refine Vi ((l1 == 9)) (fun g5 => ?_) (fun g5 => ?_)
    ·replace h := bif_t h g5
     refine Vc [] [] (pdays_j1_E l0 l1 (l1 == 9)) (W_skip ?_)
     exact ⟨_, rfl, h⟩
    ·replace h := bif_f h g5
     refine Vr hT [] (pdays_j1_E l0 l1 (l1 == 11)) ?_
     exact ⟨_, rfl, h⟩
def pvalid_R (r : Bool) : S := ⟨[(2, kB r)], [], []⟩
def pvalid_ct (n : Nat) (r : Bool) : Ct := ctc (rSt (lC cI (lC cI (lC cI (lC cI (lC cI (lC cI lN))))))).rd fun _ y0 => ct0 fun H => ([pvalid n y0.1 y0.2.1 y0.2.2.1 y0.2.2.2.1 y0.2.2.2.2.1 y0.2.2.2.2.2.1 = some r], shA H.length (kB r), shH H.length [])
theorem pvalid_ok (n : Nat) (r : Bool) : FnOk Try.prog Tr 50 (pvalid_ct n r) := by
 refine fnok Try.func50 ?_
 refine HO_c (rSt (lC cI (lC cI (lC cI (lC cI (lC cI (lC cI lN))))))) fun p0 _ => ?_
 obtain ⟨l0_0, l0_1, l0_2, l0_3, l0_4, l0_5, _⟩ := p0
 refine HO_0 tabO_pr (pvalid_R r) [.tmp 2] [] 64 Try.func50 fun w hG h => ?_
 have h : pvalid n l0_0 l0_1 l0_2 l0_3 l0_4 l0_5 = some r := h
 unfold pvalid at h
 have hT := tabO_pr
 refine Vrs hT [0] ⟨[(1, kP 0 0)], [], [⟨.blk, 34, 1, 6, .c [.s (.k .i64 l0_0), .s (.k .i64 l0_1), .s (.k .i64 l0_2), .s (.k .i64 l0_3), .s (.k .i64 l0_4), .s (.k .i64 l0_5)]⟩]⟩ ?_
 refine W_seq ?_
 refine W_seq ?_
 rcases Bool.eq_false_or_eq_true (decide (l0_0 < (1 : Int))) with g1 | g1
 ·replace h := bif_t h g1
  refine Vd hT fN 31 [(3, true)] [(1, false), (26, false), (28, false), (33, false)] [] [0] ⟨[(1, kP 0 0), (35, kB true)], [], [⟨.blk, 34, 1, 6, .c [.s (.k .i64 l0_0), .s (.k .i64 l0_1), .s (.k .i64 l0_2), .s (.k .i64 l0_3), .s (.k .i64 l0_4), .s (.k .i64 l0_5)]⟩]⟩ (aP g1 aN) ?_
  refine Vi (true) (fun _ => ?_) (fun hb => by cases hb)
  refine Vrs hT [] ⟨[(2, kB false)], [], []⟩ ?_
  refine Vc [] [] (pvalid_R false) (W_ret ?_)
  exact ⟨.inl rfl, by cases h; rfl⟩
 ·replace h := bif_f h g1
  rcases Bool.eq_false_or_eq_true (decide ((9999 : Int) < l0_0)) with g2 | g2
  ·replace h := bif_t h g2
   refine Vd hT fN 31 [(3, false), (8, true)] [(1, false), (26, false), (28, false), (33, false)] [] [0] ⟨[(1, kP 0 0), (35, kB true)], [], [⟨.blk, 34, 1, 6, .c [.s (.k .i64 l0_0), .s (.k .i64 l0_1), .s (.k .i64 l0_2), .s (.k .i64 l0_3), .s (.k .i64 l0_4), .s (.k .i64 l0_5)]⟩]⟩ (aP g1 (aP g2 aN)) ?_
   refine Vi (true) (fun _ => ?_) (fun hb => by cases hb)
   refine Vrs hT [] ⟨[(2, kB false)], [], []⟩ ?_
   refine Vc [] [] (pvalid_R false) (W_ret ?_)
   exact ⟨.inl rfl, by cases h; rfl⟩
  ·replace h := bif_f h g2
   rcases Bool.eq_false_or_eq_true (decide (l0_1 < (1 : Int))) with g3 | g3
   ·replace h := bif_t h g3
    refine Vd hT fN 31 [(3, false), (8, false), (13, true)] [(1, false), (26, false), (28, false), (33, false)] [] [0] ⟨[(1, kP 0 0), (35, kB true)], [], [⟨.blk, 34, 1, 6, .c [.s (.k .i64 l0_0), .s (.k .i64 l0_1), .s (.k .i64 l0_2), .s (.k .i64 l0_3), .s (.k .i64 l0_4), .s (.k .i64 l0_5)]⟩]⟩ (aP g1 (aP g2 (aP g3 aN))) ?_
    refine Vi (true) (fun _ => ?_) (fun hb => by cases hb)
    refine Vrs hT [] ⟨[(2, kB false)], [], []⟩ ?_
    refine Vc [] [] (pvalid_R false) (W_ret ?_)
    exact ⟨.inl rfl, by cases h; rfl⟩
   ·replace h := bif_f h g3
    rcases Bool.eq_false_or_eq_true (decide ((12 : Int) < l0_1)) with g4 | g4
    ·replace h := bif_t h g4
     refine Vd hT fN 31 [(3, false), (8, false), (13, false), (18, true)] [(1, false), (26, false), (28, false), (33, false)] [] [0] ⟨[(1, kP 0 0), (35, kB true)], [], [⟨.blk, 34, 1, 6, .c [.s (.k .i64 l0_0), .s (.k .i64 l0_1), .s (.k .i64 l0_2), .s (.k .i64 l0_3), .s (.k .i64 l0_4), .s (.k .i64 l0_5)]⟩]⟩ (aP g1 (aP g2 (aP g3 (aP g4 aN)))) ?_
     refine Vi (true) (fun _ => ?_) (fun hb => by cases hb)
     refine Vrs hT [] ⟨[(2, kB false)], [], []⟩ ?_
     refine Vc [] [] (pvalid_R false) (W_ret ?_)
     exact ⟨.inl rfl, by cases h; rfl⟩
    ·replace h := bif_f h g4
     rcases Bool.eq_false_or_eq_true (decide (l0_2 < (1 : Int))) with g5 | g5
     ·replace h := bif_t h g5
      refine Vd hT fN 31 [(3, false), (8, false), (13, false), (18, false), (23, true)] [(1, false), (26, false), (28, false), (33, false)] [] [0] ⟨[(1, kP 0 0), (35, kB true)], [], [⟨.blk, 34, 1, 6, .c [.s (.k .i64 l0_0), .s (.k .i64 l0_1), .s (.k .i64 l0_2), .s (.k .i64 l0_3), .s (.k .i64 l0_4), .s (.k .i64 l0_5)]⟩]⟩ (aP g1 (aP g2 (aP g3 (aP g4 (aP g5 aN))))) ?_
      refine Vi (true) (fun _ => ?_) (fun hb => by cases hb)
      refine Vrs hT [] ⟨[(2, kB false)], [], []⟩ ?_
      refine Vc [] [] (pvalid_R false) (W_ret ?_)
      exact ⟨.inl rfl, by cases h; rfl⟩
     ·replace h := bif_f h g5
      obtain ⟨r33, g6, h⟩ := bind_some' h
      refine Vd hT (fT 30 (pdays_ok n r33) fN) 31 [(3, false), (8, false), (13, false), (18, false), (23, false)] [(1, false), (26, false), (28, false), (33, false)] [] [0] ⟨[(1, kP 0 0), (35, kB (decide (r33 < l0_2)))], [], [⟨.blk, 34, 1, 6, .c [.s (.k .i64 l0_0), .s (.k .i64 l0_1), .s (.k .i64 l0_2), .s (.k .i64 l0_3), .s (.k .i64 l0_4), .s (.k .i64 l0_5)]⟩]⟩ (aP g1 (aP g2 (aP g3 (aP g4 (aP g5 (aP g6 aN)))))) ?_
      refine Vi ((decide (r33 < l0_2))) (fun g12 => ?_) (fun g12 => ?_)
      ·replace h := bif_t h g12
       refine Vrs hT [] ⟨[(2, kB false)], [], []⟩ ?_
       refine Vc [] [] (pvalid_R false) (W_ret ?_)
       exact ⟨.inl rfl, by cases h; rfl⟩
      ·replace h := bif_f h g12
       refine Vc [] [0] ⟨[(1, kP 0 0)], [], [⟨.blk, 34, 1, 6, .c [.s (.k .i64 l0_0), .s (.k .i64 l0_1), .s (.k .i64 l0_2), .s (.k .i64 l0_3), .s (.k .i64 l0_4), .s (.k .i64 l0_5)]⟩]⟩ (W_skip ?_)
       refine W_seq ?_
       rcases Bool.eq_false_or_eq_true (decide ((0 : Int) ≤ l0_3)) with g7 | g7
       ·replace h := bif_t h g7
        rcases Bool.eq_false_or_eq_true (decide (l0_3 ≤ (23 : Int))) with g8 | g8
        ·replace h := bif_t h g8
         rcases Bool.eq_false_or_eq_true (decide ((0 : Int) ≤ l0_4)) with g9 | g9
         ·replace h := bif_t h g9
          rcases Bool.eq_false_or_eq_true (decide (l0_4 ≤ (59 : Int))) with g10 | g10
          ·replace h := bif_t h g10
           rcases Bool.eq_false_or_eq_true (decide ((0 : Int) ≤ l0_5)) with g11 | g11
           ·replace h := bif_t h g11
            refine Vg hT fN [(3, true), (8, true), (13, true), (18, true), (23, true)] [] [] ⟨[(2, kB (decide (l0_5 ≤ (59 : Int))))], [], []⟩ (aP g7 (aP g8 (aP g9 (aP g10 (aP g11 aN))))) ?_
            refine Vc [] [] (pvalid_R (decide (l0_5 ≤ (59 : Int)))) (W_ret ?_)
            exact ⟨.inl rfl, by cases h; rfl⟩
           ·replace h := bif_f h g11
            refine Vg hT fN [(3, true), (8, true), (13, true), (18, true), (23, false)] [] [] ⟨[(2, kB false)], [], []⟩ (aP g7 (aP g8 (aP g9 (aP g10 (aP g11 aN))))) ?_
            refine Vc [] [] (pvalid_R false) (W_ret ?_)
            exact ⟨.inl rfl, by cases h; rfl⟩
          ·replace h := bif_f h g10
           refine Vg hT fN [(3, true), (8, true), (13, true), (18, false)] [] [] ⟨[(2, kB false)], [], []⟩ (aP g7 (aP g8 (aP g9 (aP g10 aN)))) ?_
           refine Vc [] [] (pvalid_R false) (W_ret ?_)
           exact ⟨.inl rfl, by cases h; rfl⟩
         ·replace h := bif_f h g9
          refine Vg hT fN [(3, true), (8, true), (13, false)] [] [] ⟨[(2, kB false)], [], []⟩ (aP g7 (aP g8 (aP g9 aN))) ?_
          refine Vc [] [] (pvalid_R false) (W_ret ?_)
          exact ⟨.inl rfl, by cases h; rfl⟩
        ·replace h := bif_f h g8
         refine Vg hT fN [(3, true), (8, false)] [] [] ⟨[(2, kB false)], [], []⟩ (aP g7 (aP g8 aN)) ?_
         refine Vc [] [] (pvalid_R false) (W_ret ?_)
         exact ⟨.inl rfl, by cases h; rfl⟩
       ·replace h := bif_f h g7
        refine Vg hT fN [(3, false)] [] [] ⟨[(2, kB false)], [], []⟩ (aP g7 aN) ?_
        refine Vc [] [] (pvalid_R false) (W_ret ?_)
        exact ⟨.inl rfl, by cases h; rfl⟩
def pTime_l1_E (b5_1 : UInt8) (z6_1 : List Int) (m6_1 : Nat) (l7_1 : List UInt8) (i43_1 : Int) : S := ⟨[(5, kU b5_1), (7, kH 0), (41, kH 1), (42, kI ((m6_1 : Nat) : Int)), (43, kI i43_1)], [], [nb 5 l7_1, ⟨(.ro true), 3, 1, m6_1, .z z6_1⟩]⟩
abbrev pTime_l1_P (n : Nat) (b5_1 : UInt8) (z6_1 : List Int) (m6_1 : Nat) (r : UInt8 × List UInt8 × Option Int) (fu : Nat) : S → Prop := fun s => ∃ (l7_1 : List UInt8), ∃ (i43_1 : Int), s = pTime_l1_E b5_1 z6_1 m6_1 l7_1 i43_1 ∧ pTime_l1 n b5_1 z6_1 m6_1 fu l7_1 i43_1 = some r
def pTime_j1_E (b5_1 : UInt8) (z6_1 : List Int) (m6_1 : Nat) : S := ⟨[(5, kU b5_1), (6, kH 0)], [], [⟨(.ro true), 3, 1, m6_1, .z z6_1⟩]⟩
abbrev pTime_j1_P (n : Nat) (r : UInt8 × List UInt8 × Option Int) : S → Prop := fun s => ∃ (b5_1 : UInt8), ∃ (z6_1 : List Int), ∃ (m6_1 : Nat), s = pTime_j1_E b5_1 z6_1 m6_1 ∧ pTime_j1 n b5_1 z6_1 m6_1 = some r
def pTime_R (r : UInt8 × List UInt8 × Option Int) : S := ⟨[(2, kU r.1), (3, kH 0), (4, kE 31 r.2.2)], [], [nb 5 r.2.1]⟩
def pTime_ct (n : Nat) (r : UInt8 × List UInt8 × Option Int) : Ct := ctc (rSt (lC cI (lC cI (lC cI (lC cI (lC cI (lC cI lN))))))).rd fun _ y0 => ct0 fun H => ([pTime n y0.1 y0.2.1 y0.2.2.1 y0.2.2.2.1 y0.2.2.2.2.1 y0.2.2.2.2.2.1 = some r], shA H.length (.t [.c (.s (.u8 r.1)), .c (.wh 0), .c (.s (.er 31 .i64 r.2.2))]), shH H.length [nb 5 r.2.1])
theorem pTime_ok (n : Nat) (r : UInt8 × List UInt8 × Option Int) : FnOk Try.prog Tr 20 (pTime_ct n r) := by
 refine fnok Try.func20 ?_
 refine HO_c (rSt (lC cI (lC cI (lC cI (lC cI (lC cI (lC cI lN))))))) fun p0 _ => ?_
 obtain ⟨l0_0, l0_1, l0_2, l0_3, l0_4, l0_5, _⟩ := p0
 refine HO_0 tabO_pr (pTime_R r) [.tmp 2, .tmp 3, .tmp 4] [0] 63 Try.func20 fun w hG h => ?_
 have h : pTime n l0_0 l0_1 l0_2 l0_3 l0_4 l0_5 = some r := h
 unfold pTime at h
 have hT := tabO_pr
 refine Vrs hT [0] ⟨[(1, kP 0 0)], [], [⟨.blk, 34, 1, 6, .c [.s (.k .i64 l0_0), .s (.k .i64 l0_1), .s (.k .i64 l0_2), .s (.k .i64 l0_3), .s (.k .i64 l0_4), .s (.k .i64 l0_5)]⟩]⟩ ?_
 refine W_seq ?_
 obtain ⟨r11, g1, h⟩ := bind_some' h
 refine Vgs hT (fT 1 (pvalid_ok n r11) fN) [] [] [0] ⟨[(1, kP 0 0), (12, kB (!r11))], [], [⟨.blk, 34, 1, 6, .c [.s (.k .i64 l0_0), .s (.k .i64 l0_1), .s (.k .i64 l0_2), .s (.k .i64 l0_3), .s (.k .i64 l0_4), .s (.k .i64 l0_5)]⟩]⟩ (aP g1 aN) ?_
 refine Vi ((!r11)) (fun g20 => ?_) (fun g20 => ?_)
 ·replace h := bif_t h g20
  refine Vrs hT [] ⟨[(2, kU 0), (3, .c (.nils)), (4, kE 31 (some 1))], [], []⟩ ?_
  refine Vc [.nil 3 5 1 (.b [])] [0] (pTime_R (0, [], (some 1))) (W_ret ?_)
  exact ⟨.inl rfl, by cases h; rfl⟩
 ·replace h := bif_f h g20
  refine W_skip ?_
  obtain ⟨g2, g3, g4, h⟩ := gd3 h
  refine Vds hT fN 18 [] [(1, false), (5, false), (30, false)] [] [0, 1] ⟨[(1, kP 0 0), (5, kU 24), (6, kH 1)], [], [⟨.blk, 34, 1, 6, .c [.s (.k .i64 l0_0), .s (.k .i64 l0_1), .s (.k .i64 l0_2), .s (.k .i64 l0_3), .s (.k .i64 l0_4), .s (.k .i64 l0_5)]⟩, ⟨.row, 3, 1, 7, .z [(Int.tdiv l0_0 100), (Int.tmod l0_0 100), l0_1, l0_2, l0_3, l0_4, l0_5]⟩]⟩ (aP g2 (aP g3 (aP g4 aN))) ?_
  refine W_join (pTime_j1_P n r) ?_ ?_
  ·rintro _ ⟨b5_1, z6_1, m6_1, rfl, h⟩
   unfold pTime_j1 at h
   refine Vrs hT [0] ⟨[(5, kU b5_1), (6, kH 0), (7, .c (.nils))], [], [⟨(.ro true), 3, 1, m6_1, .z z6_1⟩]⟩ ?_
   refine W_seq ?_
   refine Vrs hT [0] ⟨[(5, kU b5_1), (7, .c (.nils)), (41, kH 0), (42, kI ((m6_1 : Nat) : Int)), (43, kI 0)], [], [⟨(.ro true), 3, 1, m6_1, .z z6_1⟩]⟩ ?_
   refine W_block ?_
   refine Vc [.nil 7 5 1 (.b [])] [1, 0] (pTime_l1_E b5_1 z6_1 m6_1 [] 0) (W_lp ((pTime_l1_P n b5_1 z6_1 m6_1 r)) n ⟨_, _, rfl, h⟩ ?_)
   rintro fu_l1 _ ⟨l7_1, i43_1, rfl, h⟩
   cases fu_l1 with
   | zero => cases h
   | succ fu_l1 =>
    refine ⟨fu_l1, rfl, ?_⟩
    rw [pTime_l1] at h
    refine Vrs hT [0, 1] ⟨[(5, kU b5_1), (7, kH 0), (41, kH 1), (42, kI ((m6_1 : Nat) : Int)), (43, kI i43_1), (44, kB (decide (i43_1 < ((m6_1 : Nat) : Int))))], [], [nb 5 l7_1, ⟨(.ro true), 3, 1, m6_1, .z z6_1⟩]⟩ ?_
    refine W_seq ?_
    refine Vi ((decide (i43_1 < ((m6_1 : Nat) : Int)))) (fun g15 => ?_) (fun g15 => ?_)
    ·replace h := bif_t h g15
     refine W_skip ?_
     refine W_seq ?_
     refine W_block ?_
     obtain ⟨g5, g6, h⟩ := gd2 h
     refine Vgs hT fN [] [] [0, 1] ⟨[(5, kU b5_1), (7, kH 0), (9, kI (z6_1.getD i43_1.toNat 0)), (41, kH 1), (42, kI ((m6_1 : Nat) : Int)), (43, kI i43_1)], [], [nb 5 l7_1, ⟨(.ro true), 3, 1, m6_1, .z z6_1⟩]⟩ (aP g5 (aP g6 aN)) ?_
     obtain ⟨g7, g8, g9, g10, g11, h⟩ := gd5 h
     obtain ⟨g12, h⟩ := gd_some h
     refine Vg hT fN [] [] [3, 1] ⟨[(5, kU b5_1), (7, kH 0), (41, kH 1), (42, kI ((m6_1 : Nat) : Int)), (43, kI i43_1)], [], [nb 5 (l7_1 ++ [(UInt8.ofInt (48 + (Int.tdiv (z6_1.getD i43_1.toNat 0) 10))), (UInt8.ofInt (48 + (Int.tmod (z6_1.getD i43_1.toNat 0) 10)))]), ⟨(.ro true), 3, 1, m6_1, .z z6_1⟩]⟩ (aP g7 (aP g8 (aP g9 (aP g10 (aP g11 (aP g12 aN)))))) ?_
     obtain ⟨g13, h⟩ := gd_some h
     refine Vg hT fN [] [] [0, 1] (pTime_l1_E b5_1 z6_1 m6_1 (l7_1 ++ [(UInt8.ofInt (48 + (Int.tdiv (z6_1.getD i43_1.toNat 0) 10))), (UInt8.ofInt (48 + (Int.tmod (z6_1.getD i43_1.toNat 0) 10)))]) (i43_1 + 1)) (aP g13 aN) ?_
     exact ⟨_, _, rfl, h⟩
    ·replace h := bif_f h g15
     refine Vc [] [0] ⟨[(5, kU b5_1), (7, kH 0)], [], [nb 5 l7_1]⟩ (W_exit ?_)
     obtain ⟨g14, h⟩ := gd_some h
     refine Vgs hT fN [] [] [2] ⟨[(2, kU b5_1), (3, kH 0), (4, .c (.s (.v .nilIface)))], [], [nb 5 (l7_1 ++ [90])]⟩ (aP g14 aN) ?_
     refine Vc [.er 4 31 .i64] [0] (pTime_R (b5_1, (l7_1 ++ [90]), none)) (W_ret ?_)
     exact ⟨.inl rfl, by cases h; rfl⟩
  ·refine W_seq ?_
   rcases Bool.eq_false_or_eq_true (decide ((1950 : Int) ≤ l0_0)) with g16 | g16
   ·replace h := bif_t h g16
    refine Vg hT fN [(3, true)] [] [1] ⟨[(5, kU 24), (6, kH 0), (38, kB (decide (l0_0 < (2050 : Int))))], [], [⟨.row, 3, 1, 7, .z [(Int.tdiv l0_0 100), (Int.tmod l0_0 100), l0_1, l0_2, l0_3, l0_4, l0_5]⟩]⟩ (aP g16 aN) ?_
    refine Vi ((decide (l0_0 < (2050 : Int)))) (fun g19 => ?_) (fun g19 => ?_)
    ·replace h := bif_t h g19
     obtain ⟨g17, g18, h⟩ := gd2 h
     refine Vd hT fN 3 [] [(5, false), (6, false), (40, false)] [.vw 6 true] [1] (pTime_j1_E 23 (([(Int.tdiv l0_0 100), (Int.tmod l0_0 100), l0_1, l0_2, l0_3, l0_4, l0_5].drop 1).take 6) 6) (aP g17 (aP g18 aN)) ?_
     exact ⟨_, _, _, rfl, h⟩
    ·replace h := bif_f h g19
     refine Vc [.vw 6 true] [1] (pTime_j1_E 24 [(Int.tdiv l0_0 100), (Int.tmod l0_0 100), l0_1, l0_2, l0_3, l0_4, l0_5] 7) (W_skip ?_)
     exact ⟨_, _, _, rfl, h⟩
   ·replace h := bif_f h g16
    refine Vg hT fN [(3, false)] [] [1] ⟨[(5, kU 24), (6, kH 0), (38, kB false)], [], [⟨.row, 3, 1, 7, .z [(Int.tdiv l0_0 100), (Int.tmod l0_0 100), l0_1, l0_2, l0_3, l0_4, l0_5]⟩]⟩ (aP g16 aN) ?_
    refine Vi (false) (fun hb => by cases hb) (fun _ => ?_)
    refine Vc [.vw 6 true] [1] (pTime_j1_E 24 [(Int.tdiv l0_0 100), (Int.tmod l0_0 100), l0_1, l0_2, l0_3, l0_4, l0_5] 7) (W_skip ?_)
    exact ⟨_, _, _, rfl, h⟩
def pahead_R (r : Int) : S := ⟨[(2, kI r)], [], []⟩
def pahead_ct (n : Nat) (r : Int) : Ct := ctc rI.rd fun _ l0 => ct0 fun H => ([pahead n l0 = some r], shA H.length (kI r), shH H.length [])
theorem pahead_ok (n : Nat) (r : Int) : FnOk Try.prog Tr 51 (pahead_ct n r) := by
 refine fnok Try.func51 ?_
 refine HO_c rI fun l0 _ => HO_0 tabO_pr (pahead_R r) [.tmp 2] [] 17 Try.func51 fun w hG h => ?_
 unfold pahead at h
 have hT := tabO_pr
 refine Vrs hT [] ⟨[(0, kI l0)], [], []⟩ ?_
 obtain ⟨g1, h⟩ := gd_some h
 refine Vgs hT fN [] [] [] ⟨[(3, kI (l0 - 1))], [], []⟩ (aP g1 aN) ?_
 obtain ⟨g2, g3, g4, g5, g6, h⟩ := gd5 h
 obtain ⟨g7, g8, g9, g10, g11, h⟩ := gd5 h
 refine Vgs hT fN [] [] [] ⟨[(2, kI ((((365 * (l0 - 1)) + (Int.tdiv (l0 - 1) 4)) - (Int.tdiv (l0 - 1) 100)) + (Int.tdiv (l0 - 1) 400)))], [], []⟩ (aP g2 (aP g3 (aP g4 (aP g5 (aP g6 (aP g7 (aP g8 (aP g9 (aP g10 (aP g11 aN)))))))))) ?_
 refine Vc [] [] (pahead_R ((((365 * (l0 - 1)) + (Int.tdiv (l0 - 1) 4)) - (Int.tdiv (l0 - 1) 100)) + (Int.tdiv (l0 - 1) 400))) (W_ret ?_)
 exact ⟨.inl rfl, by cases h; rfl⟩
def pCount_l1_E (a0_0 : Int) (a0_1 : Int) (a0_2 : Int) (a0_3 : Int) (a0_4 : Int) (a0_5 : Int) (i4_1 : Int) (i5_1 : Int) : S := ⟨[(1, kP 0 0), (4, kI i4_1), (5, kI i5_1)], [], [⟨.blk, 34, 1, 6, .c [.s (.k .i64 a0_0), .s (.k .i64 a0_1), .s (.k .i64 a0_2), .s (.k .i64 a0_3), .s (.k .i64 a0_4), .s (.k .i64 a0_5)]⟩]⟩
abbrev pCount_l1_P (n : Nat) (a0_0 : Int) (a0_1 : Int) (a0_2 : Int) (a0_3 : Int) (a0_4 : Int) (a0_5 : Int) (r : Int × Option Int) (fu : Nat) : S → Prop := fun s => ∃ (i4_1 : Int), ∃ (i5_1 : Int), s = pCount_l1_E a0_0 a0_1 a0_2 a0_3 a0_4 a0_5 i4_1 i5_1 ∧ pCount_l1 n a0_0 a0_1 a0_2 a0_3 a0_4 a0_5 fu i4_1 i5_1 = some r
def pCount_R (r : Int × Option Int) : S := ⟨[(2, kI r.1), (3, kE 31 r.2)], [], []⟩
def pCount_ct (n : Nat) (r : Int × Option Int) : Ct := ctc (rSt (lC cI (lC cI (lC cI (lC cI (lC cI (lC cI lN))))))).rd fun _ y0 => ct0 fun H => ([pCount n y0.1 y0.2.1 y0.2.2.1 y0.2.2.2.1 y0.2.2.2.2.1 y0.2.2.2.2.2.1 = some r], shA H.length (.t [.c (.s (.k .i64 r.1)), .c (.s (.er 31 .i64 r.2))]), shH H.length [])
theorem pCount_ok (n : Nat) (r : Int × Option Int) : FnOk Try.prog Tr 19 (pCount_ct n r) := by
 refine fnok Try.func19 ?_
 refine HO_c (rSt (lC cI (lC cI (lC cI (lC cI (lC cI (lC cI lN))))))) fun p0 _ => ?_
 obtain ⟨l0_0, l0_1, l0_2, l0_3, l0_4, l0_5, _⟩ := p0
 refine HO_0 tabO_pr (pCount_R r) [.tmp 2, .tmp 3] [] 42 Try.func19 fun w hG h => ?_
 have h : pCount n l0_0 l0_1 l0_2 l0_3 l0_4 l0_5 = some r := h
 unfold pCount at h
 have hT := tabO_pr
 refine Vrs hT [0] ⟨[(1, kP 0 0)], [], [⟨.blk, 34, 1, 6, .c [.s (.k .i64 l0_0), .s (.k .i64 l0_1), .s (.k .i64 l0_2), .s (.k .i64 l0_3), .s (.k .i64 l0_4), .s (.k .i64 l0_5)]⟩]⟩ ?_
 refine W_seq ?_
 obtain ⟨r7, g1, h⟩ := bind_some' h
 refine Vgs hT (fT 1 (pvalid_ok n r7) fN) [] [] [0] ⟨[(1, kP 0 0), (8, kB (!r7))], [], [⟨.blk, 34, 1, 6, .c [.s (.k .i64 l0_0), .s (.k .i64 l0_1), .s (.k .i64 l0_2), .s (.k .i64 l0_3), .s (.k .i64 l0_4), .s (.k .i64 l0_5)]⟩]⟩ (aP g1 aN) ?_
 refine Vi ((!r7)) (fun g15 => ?_) (fun g15 => ?_)
 ·replace h := bif_t h g15
  refine Vrs hT [] ⟨[(2, kI 0), (3, kE 31 (some 1))], [], []⟩ ?_
  refine Vc [] [] (pCount_R (0, (some 1))) (W_ret ?_)
  exact ⟨.inl rfl, by cases h; rfl⟩
 ·replace h := bif_f h g15
  refine W_skip ?_
  obtain ⟨r12, g2, h⟩ := bind_some' h
  obtain ⟨g3, g4, h⟩ := gd2 h
  refine Vds hT (fT 2 (pahead_ok n r12) fN) 6 [] [(1, false), (12, false), (15, false)] [] [0] ⟨[(1, kP 0 0), (4, kI (r12 + (l0_2 - 1)))], [], [⟨.blk, 34, 1, 6, .c [.s (.k .i64 l0_0), .s (.k .i64 l0_1), .s (.k .i64 l0_2), .s (.k .i64 l0_3), .s (.k .i64 l0_4), .s (.k .i64 l0_5)]⟩]⟩ (aP g2 (aP g3 (aP g4 aN))) ?_
  refine W_seq ?_
  refine Vrs hT [0] ⟨[(1, kP 0 0), (4, kI (r12 + (l0_2 - 1))), (5, kI 1)], [], [⟨.blk, 34, 1, 6, .c [.s (.k .i64 l0_0), .s (.k .i64 l0_1), .s (.k .i64 l0_2), .s (.k .i64 l0_3), .s (.k .i64 l0_4), .s (.k .i64 l0_5)]⟩]⟩ ?_
  refine W_block ?_
  refine Vc [] [0] (pCount_l1_E l0_0 l0_1 l0_2 l0_3 l0_4 l0_5 (r12 + (l0_2 - 1)) 1) (W_lp ((pCount_l1_P n l0_0 l0_1 l0_2 l0_3 l0_4 l0_5 r)) n ⟨_, _, rfl, h⟩ ?_)
  rintro fu_l1 _ ⟨i4_1, i5_1, rfl, h⟩
  cases fu_l1 with
  | zero => cases h
  | succ fu_l1 =>
   refine ⟨fu_l1, rfl, ?_⟩
   rw [pCount_l1] at h
   refine W_seq ?_
   refine Vrs hT [0] ⟨[(1, kP 0 0), (4, kI i4_1), (5, kI i5_1), (20, kB (decide (i5_1 < l0_1)))], [], [⟨.blk, 34, 1, 6, .c [.s (.k .i64 l0_0), .s (.k .i64 l0_1), .s (.k .i64 l0_2), .s (.k .i64 l0_3), .s (.k .i64 l0_4), .s (.k .i64 l0_5)]⟩]⟩ ?_
   refine Vi ((decide (i5_1 < l0_1))) (fun g14 => ?_) (fun g14 => ?_)
   ·replace h := bif_t h g14
    refine W_skip ?_
    refine W_seq ?_
    refine W_block ?_
    obtain ⟨r27_2, g5, h⟩ := bind_some' h
    obtain ⟨g6, h⟩ := gd_some h
    refine Vg hT (fT 4 (pdays_ok n r27_2) fN) [] [] [0] ⟨[(1, kP 0 0), (4, kI (i4_1 + r27_2)), (5, kI i5_1)], [], [⟨.blk, 34, 1, 6, .c [.s (.k .i64 l0_0), .s (.k .i64 l0_1), .s (.k .i64 l0_2), .s (.k .i64 l0_3), .s (.k .i64 l0_4), .s (.k .i64 l0_5)]⟩]⟩ (aP g5 (aP g6 aN)) ?_
    obtain ⟨g7, h⟩ := gd_some h
    refine Vg hT fN [] [] [0] (pCount_l1_E l0_0 l0_1 l0_2 l0_3 l0_4 l0_5 (i4_1 + r27_2) (i5_1 + 1)) (aP g7 aN) ?_
    exact ⟨_, _, rfl, h⟩
   ·replace h := bif_f h g14
    refine Vc [] [0] ⟨[(1, kP 0 0), (4, kI i4_1)], [], [⟨.blk, 34, 1, 6, .c [.s (.k .i64 l0_0), .s (.k .i64 l0_1), .s (.k .i64 l0_2), .s (.k .i64 l0_3), .s (.k .i64 l0_4), .s (.k .i64 l0_5)]⟩]⟩ (W_exit ?_)
    obtain ⟨g8, g9, g10, g11, g12, h⟩ := gd5 h
    obtain ⟨g13, h⟩ := gd_some h
    refine Vgs hT fN [] [] [] ⟨[(2, kI ((i4_1 * 86400) + (((l0_3 * 3600) + (l0_4 * 60)) + l0_5))), (3, .c (.s (.v .nilIface)))], [], []⟩ (aP g8 (aP g9 (aP g10 (aP g11 (aP g12 (aP g13 aN)))))) ?_
    refine Vc [.er 3 31 .i64] [] (pCount_R (((i4_1 * 86400) + (((l0_3 * 3600) + (l0_4 * 60)) + l0_5)), none)) (W_ret ?_)
    exact ⟨.inl rfl, by cases h; rfl⟩
def pInt_j1_E (l3_6 : List UInt8) (m3_4 : Nat) : S := ⟨[(3, kH 0)], [], [⟨(.ro true), 5, 1, m3_4, .b l3_6⟩]⟩
abbrev pInt_j1_P (n : Nat) (r : List UInt8) : S → Prop := fun s => ∃ (l3_6 : List UInt8), ∃ (m3_4 : Nat), s = pInt_j1_E l3_6 m3_4 ∧ pInt_j1 n l3_6 m3_4 = some r
def pInt_l2_E (l3_7 : List UInt8) (m3_5 : Nat) : S := ⟨[(3, kH 0)], [], [⟨(.ro true), 5, 1, m3_5, .b l3_7⟩]⟩
abbrev pInt_l2_P (n : Nat) (r : List UInt8) (fu : Nat) : S → Prop := fun s => ∃ (l3_7 : List UInt8), ∃ (m3_5 : Nat), s = pInt_l2_E l3_7 m3_5 ∧ pInt_l2 n fu l3_7 m3_5 = some r
def pInt_l1_E (a0 : Int) (l3_4 : List UInt8) (i4_1 : Int) : S := ⟨[(0, kI a0), (3, kH 0), (4, kI i4_1)], [], [nb 5 l3_4]⟩
abbrev pInt_l1_P (n : Nat) (a0 : Int) (r : List UInt8) (fu : Nat) : S → Prop := fun s => ∃ (l3_4 : List UInt8), ∃ (i4_1 : Int), s = pInt_l1_E a0 l3_4 i4_1 ∧ pInt_l1 n a0 fu l3_4 i4_1 = some r
def pInt_R (r : List UInt8) : S := ⟨[(2, kH 0)], [], [nb 5 r]⟩
def pInt_ct (n : Nat) (r : List UInt8) : Ct := ctc rI.rd fun _ l0 => ct0 fun H => ([pInt n l0 = some r], shA H.length (kH 0), shH H.length [nb 5 r])
theorem pInt_ok (n : Nat) (r : List UInt8) : FnOk Try.prog Tr 15 (pInt_ct n r) := by
 refine fnok Try.func15 ?_
 refine HO_c rI fun l0 _ => HO_0 tabO_pr (pInt_R r) [.tmp 2] [0] 27 Try.func15 fun w hG h => ?_
 unfold pInt at h
 have hT := tabO_pr
 refine Vrs hT [] ⟨[(0, kI l0)], [], []⟩ ?_
 refine Vrs hT [] ⟨[(0, kI l0), (3, .c (.nils))], [], []⟩ ?_
 refine W_seq ?_
 refine Vrs hT [] ⟨[(0, kI l0), (3, .c (.nils)), (4, kI 56)], [], []⟩ ?_
 refine W_block ?_
 refine Vc [.nil 3 5 1 (.b [])] [0] (pInt_l1_E l0 [] 56) (W_lp ((pInt_l1_P n l0 r)) n ⟨_, _, rfl, h⟩ ?_)
 rintro fu_l1 _ ⟨l3_4, i4_1, rfl, h⟩
 cases fu_l1 with
 | zero => cases h
 | succ fu_l1 =>
  refine ⟨fu_l1, rfl, ?_⟩
  rw [pInt_l1] at h
  refine W_seq ?_
  refine Vrs hT [0] ⟨[(0, kI l0), (3, kH 0), (4, kI i4_1), (6, kB (decide ((0 : Int) ≤ i4_1)))], [], [nb 5 l3_4]⟩ ?_
  refine Vi ((decide ((0 : Int) ≤ i4_1))) (fun g11 => ?_) (fun g11 => ?_)
  ·replace h := bif_t h g11
   refine W_skip ?_
   refine W_seq ?_
   refine W_block ?_
   obtain ⟨g1, g2, g3, h⟩ := gd3 h
   refine Vg hT fN [] [] [2] ⟨[(0, kI l0), (3, kH 0), (4, kI i4_1)], [], [nb 5 (l3_4 ++ [(UInt8.ofInt (l0 / 2 ^ i4_1.toNat))])]⟩ (aP g1 (aP g2 (aP g3 aN))) ?_
   obtain ⟨g4, h⟩ := gd_some h
   refine Vg hT fN [] [] [0] (pInt_l1_E l0 (l3_4 ++ [(UInt8.ofInt (l0 / 2 ^ i4_1.toNat))]) (i4_1 - 8)) (aP g4 aN) ?_
   exact ⟨_, _, rfl, h⟩
  ·replace h := bif_f h g11
   refine Vc [] [0] ⟨[(3, kH 0)], [], [nb 5 l3_4]⟩ (W_exit ?_)
   refine W_join (pInt_j1_P n r) ?_ ?_
   ·rintro _ ⟨l3_6, m3_4, rfl, h⟩
    unfold pInt_j1 at h
    obtain ⟨g5, h⟩ := gd_some h
    refine Vgs hT (fT 1 cloneb_h fN) [] [] [1] ⟨[(2, kH 0)], [], [nb 5 l3_6]⟩ (aP g5 aN) ?_
    refine Vc [] [0] (pInt_R l3_6) (W_ret ?_)
    exact ⟨.inl rfl, by cases h; rfl⟩
   ·refine W_block ?_
    refine Vc [.vw 3 true] [1] (pInt_l2_E l3_4 l3_4.length) (W_lp ((pInt_l2_P n r)) n ⟨_, _, rfl, h⟩ ?_)
    rintro fu_l2 _ ⟨l3_7, m3_5, rfl, h⟩
    cases fu_l2 with
    | zero => cases h
    | succ fu_l2 =>
     refine ⟨fu_l2, rfl, ?_⟩
     rw [pInt_l2] at h
     refine W_seq ?_
     refine W_seq ?_
     rcases Bool.eq_false_or_eq_true (decide ((1 : Int) < ((m3_5 : Nat) : Int))) with g6 | g6
     ·replace h := bif_t h g6
      obtain ⟨r21_5, g7, h⟩ := bind_some' h
      refine Vg hT (fT 5 (pspare_ok n r21_5) fN) [(3, true)] [] [0] ⟨[(3, kH 0), (22, kB r21_5)], [], [⟨(.ro true), 5, 1, m3_5, .b l3_7⟩]⟩ (aP g6 (aP g7 aN)) ?_
      refine Vi (r21_5) (fun g10 => ?_) (fun g10 => ?_)
      ·replace h := bif_t h g10
       refine W_skip ?_
       refine W_block ?_
       obtain ⟨g8, g9, h⟩ := gd2 h
       refine Vg hT fN [] [.vw 3 true] [1] (pInt_l2_E ((l3_7.drop 1).take (m3_5 - 1)) (m3_5 - 1)) (aP g8 (aP g9 aN)) ?_
       exact ⟨_, _, rfl, h⟩
      ·replace h := bif_f h g10
       refine Vc [] [0] (pInt_j1_E l3_7 m3_5) (W_exit ?_)
       exact ⟨_, _, rfl, h⟩
     ·replace h := bif_f h g6
      refine Vg hT fN [(3, false)] [] [0] ⟨[(3, kH 0), (22, kB false)], [], [⟨(.ro true), 5, 1, m3_5, .b l3_7⟩]⟩ (aP g6 aN) ?_
      refine Vi (false) (fun hb => by cases hb) (fun _ => ?_)
      refine Vc [] [0] (pInt_j1_E l3_7 m3_5) (W_exit ?_)
      exact ⟨_, _, rfl, h⟩
def pup_R (r : Bool) : S := ⟨[(0, kB r)], [], []⟩
def pup_ct (n : Nat) (r : Bool) : Ct := ct0 fun H => ([pup n = some r], shA H.length (kB r), shH H.length [])
theorem pup_ok (n : Nat) (r : Bool) : FnOk Try.prog Tr 14 (pup_ct n r) := by
 refine fnok Try.func14 ?_
 refine HO_0 tabO_pr (pup_R r) [.tmp 0] [] 69 Try.func14 fun w hG h => ?_
 unfold pup at h
 have hT := tabO_pr
 refine Vrs hT [] ⟨[], [], []⟩ ?_
 obtain ⟨r12, g1, h⟩ := bind_some' h
 refine Vgs hT (fT 1 (pReadInt_ok n r12) fN) [] [] [] ⟨[(2, kE 31 r12.2)], [], []⟩ (aP g1 aN) ?_
 obtain ⟨r17, g2, h⟩ := bind_some' h
 refine Vgs hT (fT 1 (pOid_ok n r17) fN) [] [] [1] ⟨[(2, kE 31 r12.2), (3, kH 0), (4, kE 31 r17.2)], [], [nb 5 r17.1]⟩ (aP g2 aN) ?_
 obtain ⟨r22, g3, h⟩ := bind_some' h
 refine Vgs hT (fT 1 (pTime_ok n r22) fN) [] [] [0, 1] ⟨[(2, kE 31 r12.2), (3, kH 0), (4, kE 31 r17.2), (5, kU r22.1), (6, kH 1), (7, kE 31 r22.2.2)], [], [nb 5 r17.1, nb 5 r22.2.1]⟩ (aP g3 aN) ?_
 obtain ⟨r28, g4, h⟩ := bind_some' h
 refine Vgs hT (fT 1 (pCount_ok n r28) fN) [] [] [0, 1] ⟨[(2, kE 31 r12.2), (3, kH 0), (4, kE 31 r17.2), (5, kU r22.1), (6, kH 1), (7, kE 31 r22.2.2), (8, kI r28.1), (9, kE 31 r28.2)], [], [nb 5 r17.1, nb 5 r22.2.1]⟩ (aP g4 aN) ?_
 refine W_seq ?_
 obtain ⟨r31, g5, h⟩ := bind_some' h
 rcases Bool.eq_false_or_eq_true (r31 == ([255, 127] : List UInt8)) with g6 | g6
 ·replace h := bif_t h g6
  obtain ⟨g7, h⟩ := gd_some h
  rcases Bool.eq_false_or_eq_true (r12.2 == (some 2)) with g8 | g8
  ·replace h := bif_t h g8
   rcases Bool.eq_false_or_eq_true ((r17.2).isNone) with g9 | g9
   ·replace h := bif_t h g9
    rcases Bool.eq_false_or_eq_true (r17.1 == ([42, 134, 72, 134, 247, 13] : List UInt8)) with g10 | g10
    ·replace h := bif_t h g10
     rcases Bool.eq_false_or_eq_true ((r22.2.2).isNone) with g11 | g11
     ·replace h := bif_t h g11
      rcases Bool.eq_false_or_eq_true (r22.1 == 23) with g12 | g12
      ·replace h := bif_t h g12
       rcases Bool.eq_false_or_eq_true (r22.2.1 == ([52, 57, 49, 50, 51, 49, 50, 51, 53, 57, 53, 57, 90] : List UInt8)) with g13 | g13
       ·replace h := bif_t h g13
        rcases Bool.eq_false_or_eq_true ((r28.2).isNone) with g14 | g14
        ·replace h := bif_t h g14
         refine Vg hT (fT 0 (pInt_ok n r31) fN) [(3, true), (8, true), (12, true), (17, true), (21, true), (25, true), (30, true), (34, true)] [] [] ⟨[(0, kB (r28.1 == 1))], [], []⟩ (aP g5 (aP g6 (aP g7 (aP g8 (aP g9 (aP g10 (aP g11 (aP g12 (aP g13 (aP g14 aN)))))))))) ?_
         refine Vc [] [] (pup_R (r28.1 == 1)) (W_ret ?_)
         exact ⟨.inl rfl, by cases h; rfl⟩
        ·replace h := bif_f h g14
         refine Vg hT (fT 0 (pInt_ok n r31) fN) [(3, true), (8, true), (12, true), (17, true), (21, true), (25, true), (30, true), (34, false)] [] [] ⟨[(0, kB false)], [], []⟩ (aP g5 (aP g6 (aP g7 (aP g8 (aP g9 (aP g10 (aP g11 (aP g12 (aP g13 (aP g14 aN)))))))))) ?_
         refine Vc [] [] (pup_R false) (W_ret ?_)
         exact ⟨.inl rfl, by cases h; rfl⟩
       ·replace h := bif_f h g13
        refine Vg hT (fT 0 (pInt_ok n r31) fN) [(3, true), (8, true), (12, true), (17, true), (21, true), (25, true), (30, false)] [] [] ⟨[(0, kB false)], [], []⟩ (aP g5 (aP g6 (aP g7 (aP g8 (aP g9 (aP g10 (aP g11 (aP g12 (aP g13 aN))))))))) ?_
        refine Vc [] [] (pup_R false) (W_ret ?_)
        exact ⟨.inl rfl, by cases h; rfl⟩
      ·replace h := bif_f h g12
       refine Vg hT (fT 0 (pInt_ok n r31) fN) [(3, true), (8, true), (12, true), (17, true), (21, true), (25, false)] [] [] ⟨[(0, kB false)], [], []⟩ (aP g5 (aP g6 (aP g7 (aP g8 (aP g9 (aP g10 (aP g11 (aP g12 aN)))))))) ?_
       refine Vc [] [] (pup_R false) (W_ret ?_)
       exact ⟨.inl rfl, by cases h; rfl⟩
     ·replace h := bif_f h g11
      refine Vg hT (fT 0 (pInt_ok n r31) fN) [(3, true), (8, true), (12, true), (17, true), (21, false)] [] [] ⟨[(0, kB false)], [], []⟩ (aP g5 (aP g6 (aP g7 (aP g8 (aP g9 (aP g10 (aP g11 aN))))))) ?_
      refine Vc [] [] (pup_R false) (W_ret ?_)
      exact ⟨.inl rfl, by cases h; rfl⟩
    ·replace h := bif_f h g10
     refine Vg hT (fT 0 (pInt_ok n r31) fN) [(3, true), (8, true), (12, true), (17, false)] [] [] ⟨[(0, kB false)], [], []⟩ (aP g5 (aP g6 (aP g7 (aP g8 (aP g9 (aP g10 aN)))))) ?_
     refine Vc [] [] (pup_R false) (W_ret ?_)
     exact ⟨.inl rfl, by cases h; rfl⟩
   ·replace h := bif_f h g9
    refine Vg hT (fT 0 (pInt_ok n r31) fN) [(3, true), (8, true), (12, false)] [] [] ⟨[(0, kB false)], [], []⟩ (aP g5 (aP g6 (aP g7 (aP g8 (aP g9 aN))))) ?_
    refine Vc [] [] (pup_R false) (W_ret ?_)
    exact ⟨.inl rfl, by cases h; rfl⟩
  ·replace h := bif_f h g8
   refine Vg hT (fT 0 (pInt_ok n r31) fN) [(3, true), (8, false)] [] [] ⟨[(0, kB false)], [], []⟩ (aP g5 (aP g6 (aP g7 (aP g8 aN)))) ?_
   refine Vc [] [] (pup_R false) (W_ret ?_)
   exact ⟨.inl rfl, by cases h; rfl⟩
 ·replace h := bif_f h g6
  refine Vg hT (fT 0 (pInt_ok n r31) fN) [(3, false)] [] [] ⟨[(0, kB false)], [], []⟩ (aP g5 (aP g6 aN)) ?_
  refine Vc [] [] (pup_R false) (W_ret ?_)
  exact ⟨.inl rfl, by cases h; rfl⟩
end Go.Proofs.Ytliilihbnhdemaa
end
section
namespace Go.Sx
open Go.RowKit Go.Ch
abbrev kFn (g : Nat) : AV := .c (.s (.v (.func (.func g) #[] #[])))
def isFn (g0 : Nat) : AV → Bool
 | .c (.s (.v (.func (.func g) a b))) => Nat.beq g g0 && (a.isEmpty && b.isEmpty)
 | _ => false
theorem isFn_ok {g0 : Nat} {x : AV} (h : isFn g0 x = true) : x = kFn g0 := by
 unfold isFn at h
 split at h
 ·rename_i g a b
  simp only [Bool.and_eq_true, Array.isEmpty_iff] at h
  obtain ⟨h1, h2, h3⟩ := h
  have := Nat.eq_of_beq_eq_true h1
  subst this; subst h2; subst h3; rfl
 ·cases h
theorem aI_eq {x : AV} {n : Int} (h : aI x = some n) : x = kI n := by
 unfold aI at h
 split at h
 ·injection h with h; subst h; rfl
 ·cases h
def rdN (g0 : Nat) : List AV → Option (List Int)
 | [] => none
 | x :: xs => (match xs with
  | [] => (match isFn g0 x with | true => some [] | false => none)
  | y :: ys => (match aI x, rdN g0 (y :: ys) with | some n, some l => some (n :: l) | _, _ => none))
theorem rdN_ok {g0 : Nat} : ∀ {xs : List AV} {ns : List Int}, rdN g0 xs = some ns → xs = ns.map kI ++ [kFn g0]
 | [], ns, h => by cases h
 | [x], ns, h => by
  simp only [rdN] at h
  split at h
  ·rename_i hx
   injection h with h; subst h
   rw [isFn_ok hx]; rfl
  ·cases h
 | x :: y :: ys, ns, h => by
  rw [rdN] at h
  split at h
  ·rename_i n l hn hl
   injection h with h; subst h
   rw [rdN_ok hl, aI_eq hn]; rfl
  ·cases h
def rowP (e : TypeId) (H : Hp) (r : Nat) : Option (Nat × Oj × List (List UInt8) × List Nat) := match H[r]? with
 | some o => (match o.kd, o.sz, o.cs, Nat.beq o.e e with
  | .row, 1, .p i js, true => (match H[i]? with
   | some o2 => (match o2.kd, o2.cs with
    | .dp _, .d (.by _) l => some (i, o, l, js)
    | _, _ => none)
   | none => none)
  | _, _, _, _ => none)
 | none => none
theorem rowP_ok {e : TypeId} {H : Hp} {r i : Nat} {o : Oj} {l : List (List UInt8)} {js : List Nat} (h : rowP e H r = some (i, o, l, js)) :
  H[r]? = some o ∧ o.kd = .row ∧ o.sz = 1 ∧ o.cs = .p i js ∧ o.e = e ∧ ∃ o2 b e', H[i]? = some o2 ∧ o2.kd = .dp b ∧ o2.cs = .d (.by e') l := by
 unfold rowP at h
 split at h
 ·rename_i o' ho
  split at h
  ·rename_i j js' hk hs hc he
   split at h
   ·rename_i o2 ho2
    split at h
    ·rename_i b e' l' hk2 hc2
     injection h with h
     simp only [Prod.mk.injEq] at h
     obtain ⟨rfl, rfl, rfl, rfl⟩ := h
     exact ⟨ho, hk, hs, hc, Nat.eq_of_beq_eq_true he, o2, b, e', ho2, hk2, hc2⟩
    ·cases h
   ·cases h
  ·cases h
 ·cases h
def rwC (g0 : Nat) (e : TypeId) (G : List (List UInt8) → List Nat → List Int → Prop) (js' : List Nat) : CtM := fun args H => match args with
 | .c (.wh r) :: rest => (match rowP e H r, rdN g0 rest with
  | some (i, o, l, js), some ns => some ([G l js ns], .t [], [(r, ⟨.row, e, 1, o.n, .p i js'⟩)], [])
  | _, _ => none)
 | _ => none
section
variable {P : Program} {T : Tab} {f : FuncId}
theorem fnokR {g0 : Nat} {e e' : TypeId} {G : List (List UInt8) → List Nat → List Int → Prop} {js' : List Nat} (nt : Nat) (R : List (List UInt8) → List Nat → S) {fn : Func} {c : Code} (hf : P.funcs[f]? = some fn)
  (hW : ∀ (w : World) (bs : Bs) (l : List (List UInt8)) (js : List Nat) (ns : List Int), G l js ns →
   W P nt bs w c ⟨args0 0 (kH 0 :: (ns.map kI ++ [kFn g0])), [(1000000, kH 0), (1000001, kH 1)], [⟨.row, e, 1, js.length, .p 1 js⟩, ⟨.dp false, e, 1, l.length, .d (.by e') l⟩]⟩
    (fun ex s => (ex = .ret ∨ ex = .normal) ∧ s = R l js))
  (hl : ∀ l js ns, G l js ns → ns.length + 2 ≤ nt)
  (hR : ∀ l js, ∃ fr, R l js = ⟨fr, [(1000000, kH 0), (1000001, kH 1)], [⟨.row, e, 1, js.length, .p 1 js'⟩, ⟨.dp false, e, 1, l.length, .d (.by e') l⟩]⟩)
  (hb : fn.body = some c := by rfl) (hn : fn.ntmps = nt := by rfl) (hres : fn.results = #[] := by rfl)
  (h1 : ((fn.name == "runtime.NumGoroutine") = false) := by kernel_rfl) (h2 : fn.body.isNone = false := by kernel_rfl) : FnMOk P f (rwC g0 e G js') := by
 refine ⟨fun args H g av up objs hF hg ρ w vals hp hs ha => ?_, fn, hf, h1, h2⟩
 unfold rwC at hF
 split at hF
 ·rename_i r rest
  split at hF
  ·rename_i i o l js ns hrp hrd
   injection hF with hF
   simp only [Prod.mk.injEq] at hF
   obtain ⟨rfl, rfl, rfl, rfl⟩ := hF
   have hG : G l js ns := by simpa [allP] using hg
   obtain ⟨k1, k2, k3, k4, k5, o2, b, e2, k6, k7, k8⟩ := rowP_ok hrp
   obtain ⟨v0, vs, rfl, hv0, ha⟩ := F2.inv ha
   have hrest := rdN_ok hrd
   have hri : r ≠ i := fun e => by subst e; rw [k1] at k6; injection k6 with k6; subst k6; rw [k2] at k7; cases k7
   have hr0 := hp r o k1
   have hd0 := hp i o2 k6
   unfold objR at hr0 hd0
   simp only [k2] at hr0
   simp only [k7] at hd0
   unfold DpR at hd0
   rw [k8] at hd0
   obtain ⟨⟨e1, e2', e3⟩, vs0, hc0, hrow0⟩ := hr0
   obtain ⟨⟨d1, d2, d3, d4⟩, d5, d6, d7⟩ := hd0
   have hown : o.own = true := by unfold Oj.own; rw [k2]
   have hv0' : v0 = .slice (ρ r).A (ρ r).n (ρ r).cap := hv0
   have hjl : o.n = js.length := by
    rw [k4, k3] at e3
    simp only [Cs.cl, List.length_map] at e3
    omega
   have dd7 := d7
   obtain ⟨A, cap, g1, g2, g3, g4, g5, g6⟩ := d7
   rw [d5] at g1
   injection g1 with ga gb gc
   subst ga; subst gc
   let up : List (Nat × Oj) := [(r, ⟨.row, e, 1, o.n, .p i js'⟩)]
   let bs : Bs := ⟨consB ρ H up, fun q => match q with | 0 => v0 | 1 => .slice (ρ i).A (ρ i).n (ρ i).cap | _ => undef, fun _ => False⟩
   let ρ1 : Pls := fun j => match j with | 0 => ρ r | _ => ρ i
   have hfar : ∀ g, (ρ i).foot g → ¬ consB ρ H up g := fun g hg ⟨i', o', o'', hm, ho'', hown', hat⟩ => by
    simp only [up, List.mem_singleton, Prod.mk.injEq] at hm
    obtain ⟨rfl, _⟩ := hm
    refine hs i' i o'' o2 g hri ho'' k6 hown' hat ?_
    unfold objAt; simp only [k7]; exact hg
   have hR0 : Rel nt bs w ⟨args0 0 (kH 0 :: (ns.map kI ++ [kFn g0])), [(1000000, kH 0), (1000001, kH 1)], [⟨.row, e, 1, js.length, .p 1 js⟩, ⟨.dp false, e, 1, l.length, .d (.by e') l⟩]⟩ { tmps := (v0 :: vs).toArray ++ Array.replicate (nt - (v0 :: vs).toArray.size) undef, defers := [] } w := by
    have hvl : vs.length = ns.length + 1 := by have := ha.1; rw [hrest] at this; simp at this; omega
    have hh := hl l js ns hG
    refine ⟨rfl, by simp; omega, ρ1, args0_fr (F2.cons (show _ = _ from hv0') ?_), fun t x hx => ?_, fun j ob hj => ?_, fun j k a b g hjk hj hk hown2 hat hat2 => ?_, fun j a g hj hfs hat => ?_, Kp.refl _ _⟩
    ·rw [← hrest]
     refine ⟨ha.1, fun q x y hx hy => ?_⟩
     have h3 := ha.2 q x y hx hy
     rw [hrest] at hx
     rcases List.mem_append.1 (List.mem_of_getElem? hx) with hm | hm
     ·obtain ⟨n, _, rfl⟩ := List.mem_map.1 hm; exact h3
     ·simp only [List.mem_singleton] at hm; subst hm; exact h3
    ·rw [List.lookup_cons] at hx
     split at hx
     ·rename_i et
      have et : t = 1000000 := by simpa using et
      subst et
      injection hx with hx; subst hx
      exact hv0'
     ·rw [List.lookup_cons] at hx
      split at hx
      ·rename_i et
       have et : t = 1000001 := by simpa using et
       subst et
       injection hx with hx; subst hx
       rfl
      ·simp at hx
    ·match j, hj with
     | 0, hj =>
      simp at hj; subst hj
      refine ⟨⟨e1.trans k3, e2'.trans hjl, by simp [Cs.cl]⟩, vs0, ?_, ?_⟩
      ·rw [k4] at hc0
       exact gi_mono (ρ := ρ) (ρ' := ρ1) (j := i) (j' := 1) rfl hc0
      ·have := hrow0
       rw [k5, k3] at this
       exact this
     | 1, hj =>
      simp at hj; subst hj
      exact ⟨⟨d1.trans d4, d2.trans d3, rfl, rfl⟩, d5, d6, dd7⟩
     | q + 2, hj => simp at hj
    ·match j, hj with
     | 0, hj =>
      simp at hj; subst hj
      match k, hk with
      | 0, hk => exact hjk rfl
      | 1, hk =>
       simp at hk; subst hk
       refine hs r i o o2 g hri k1 k6 hown ?_ ?_
       ·unfold objAt at hat ⊢; simp only [k2]; exact hat
       ·unfold objAt at hat2 ⊢; simp only [k7]; exact hat2
      | q + 2, hk => simp at hk
     | 1, hj => simp at hj; subst hj; cases hown2
     | q + 2, hj => simp at hj
    ·match j, hj with
     | 0, hj =>
      simp at hj; subst hj
      refine .inr (.inl ⟨r, ⟨.row, e, 1, o.n, .p i js'⟩, o, by simp [up], k1, hown, ?_⟩)
      unfold objAt at hat ⊢; simp only [k2]; exact hat
     | 1, hj => simp at hj; subst hj; cases hfs
     | q + 2, hj => simp at hj
   refine calls_WB hf hb hn hR0 (hW w bs l js ns hG) ?_
   rintro ex s' ⟨he, rfl⟩
   obtain ⟨fr, hRe⟩ := hR l js
   rw [hRe]
   refine ⟨he, fun a' w' hR => ?_⟩
   obtain ⟨_, _, ρ2, r3⟩ := hR
   have q0 := r3.gl 1000000 (kH 0) rfl
   have q1 := r3.gl 1000001 (kH 1) rfl
   have q0' : v0 = .slice (ρ2 0).A (ρ2 0).n (ρ2 0).cap := q0
   have q1' : Value.slice (ρ i).A (ρ i).n (ρ i).cap = .slice (ρ2 1).A (ρ2 1).n (ρ2 1).cap := q1
   rw [hv0'] at q0'
   injection q0' with qa qb qc
   injection q1' with ra rb rc
   have hr2 := r3.hp 0 _ rfl
   have hd2 := r3.hp 1 _ rfl
   obtain ⟨⟨f1, f2, f3⟩, vs2, hc2, hrow2⟩ := hr2
   obtain ⟨⟨m1, m2, m3, m4⟩, m5, m6, A', cap', m7, m8, m9, m10, m11, m12⟩ := hd2
   rw [m5] at m7
   injection m7 with na nb nc
   subst na; subst nc
   have hgv : ∀ k, k < (ρ i).n → (ρ2 1).gv [(k, 0)] = (ρ i).gv [(k, 0)] := fun k hk => by
    have hkl : k < List.length (α := List UInt8) l := Nat.lt_of_lt_of_eq hk gb
    cases hA : (ρ i).A with
    | none => have := g4 hA; omega
    | some ad =>
     have c1 := (g6 k (List.getD (α := List UInt8) l k []) (gq_getD hkl)).1 ad hA 0 Nat.one_pos
     have c2 := (m12 k (List.getD (α := List UInt8) l k []) (gq_getD hkl)).1 ad (by rw [← ra]; exact hA) 0 Nat.one_pos
     have hfoot := g5 ad hA (by omega)
     have hkeep := r3.kp.block ad.block (d6 _ hfoot) (hfar _ hfoot)
     rw [World.cell?_of_block (w := w) (by rw [block_add]; exact hkeep)] at c2
     have e9 := c1.symm.trans c2
     injection e9 with e9
     exact e9.symm
   refine ⟨.tuple #[], by simp [results, hres], ⟨r3.kp.os, r3.kp.tape, r3.kp.output, r3.kp.size, r3.kp.block⟩, [], ρ, rfl, fun _ _ _ => SamePl.refl _, fun k o p ho => by simp at ho, fun j o' hm => ?_, ⟨[], F2.nil, rfl⟩, fun k o p g ho => by simp at ho, fun j o' g hm hat => ?_, fun k l o o' p p' g hkl ho => by simp at ho, fun k o p j o' g ho => by simp at ho, fun j o' j' o'' g hjj hm hm' => ?_⟩
   ·simp only [List.mem_singleton, Prod.mk.injEq] at hm
    obtain ⟨rfl, rfl⟩ := hm
    have hu : updL ρ H.length [] = ρ := by funext i; unfold updL; split <;> simp
    rw [hu]
    refine ⟨⟨e1.trans k3, e2', by simp only [Cs.cl, List.length_map] at f3 ⊢; omega⟩, vs2, ?_, ?_⟩
    ·refine ⟨by have := hc2.1; simpa [Cs.cl] using this, fun q x y hx hy => ?_⟩
     simp only [Cs.cl, List.getElem?_map] at hx
     obtain ⟨z, hz, rfl⟩ := Option.map_eq_some_iff.1 hx
     obtain ⟨u1, u2, u3⟩ := hc2.2 q (.gi 1 z) y (by simp [Cs.cl, hz]) hy
     have hzn : z < (ρ i).n := by omega
     exact ⟨by rw [u1]; exact hgv z hzn, hzn, u3⟩
    ·rw [qa, qb, qc]; exact hrow2
   ·simp only [List.mem_singleton, Prod.mk.injEq] at hm
    obtain ⟨rfl, rfl⟩ := hm
    right
    refine ⟨j, ⟨.row, e, 1, o.n, .p i js'⟩, o, by simp, k1, hown, ?_⟩
    unfold objAt at hat ⊢; simp only [k2]; exact hat
   ·simp only [List.mem_singleton, Prod.mk.injEq] at hm hm'
    exact absurd (hm.1.trans hm'.1.symm) hjj
  ·cases hF
 ·cases hF
end
end Go.Sx
end
section
namespace Go.Proofs.Ytliilihbnhdemaa
open Go.RowKit Go.Ch Go.Sx Go.Lib Go.Proofs
theorem bytesOf_sl {P : Program} (w : World) {B : Nat} {v : Value} {l : List UInt8} (hv : Sl w B v (l.map bU)) : (Extern.Bytes.bytesOf v).run P w = .ok ⟨l.toArray⟩ w := by
 obtain ⟨_, A, c, rfl, _, _, _, h4⟩ := hv
 cases A with
 | none =>
  have hl : l = [] := by
   cases l with
   | nil => rfl
   | cons x l => have h1 := ‹(List.map bU (x :: l)).length ≤ c›; have h2 := ‹(none : Option Addr) = none → c = 0› rfl; simp at h1; omega
  subst hl
  simp [Extern.Bytes.bytesOf]; rfl
 | some a =>
  have e : l.map bU = (l.map fun x => ((x.toNat : Nat) : Int)).map (Value.int .u8) := by simp [bU, Function.comp_def]
  have h := run_loadBytesX (P := P) w (l.map fun x => ((x.toNat : Nat) : Int)) a .empty (fun j x hx => (h4 a rfl j _ (by rw [e, List.getElem?_map, hx]; rfl)).2)
  simp only [Extern.Bytes.bytesOf, List.length_map] at h ⊢
  rw [h]
  congr 1
  apply ByteArray.ext
  have e2 : Go.Lib.bytesOf (l.map fun x => ((x.toNat : Nat) : Int)) = l := by
   unfold Go.Lib.bytesOf
   rw [List.map_map]
   conv => rhs; rw [← List.map_id l]
   apply List.map_congr_left; intro x _; simp
  rw [e2]
  simp
set_option maxHeartbeats 1000000 in
set_option maxRecDepth 100000 in
theorem cmp_c (w : World) (B0 B1 : Nat) (v0 v1 : Value) (l0 l1 : List UInt8) (h0 : Sl w B0 v0 (l0.map bU)) (h1 : Sl w B1 v1 (l1.map bU)) :
  Calls Try.prog 75 #[v0, v1] w (Ret fun v w' => Ext w w' ∧ v = .int .i64 (Lib.compareBytes l0 l1)) := by
 go_enter Try.func75, Try.ntmps75
 go_wp2
 rw [run_callFunc_extern Try.func85 (by kernel_rfl) (by kernel_rfl) (by kernel_rfl) (e := Extern.BytealgCompare.compare) (by kernel_rfl)]
 have hr : (Extern.BytealgCompare.compare #[v0, v1]).run Try.prog w = .ok (.int .i64 (Lib.compareBytes l0 l1)) w := by
  change Sem.run Try.prog (do pure (goInt (Extern.BytealgCompare.cmp (← Extern.Bytes.bytesOf v0) (← Extern.Bytes.bytesOf v1)))) w = _
  simp only [Sem.run_bind, bytesOf_sl w h0, bytesOf_sl w h1, Sem.run_pure, Result.andThen]
  rw [cmp_eq]
  rfl
 rw [hr]
 simp only [Result.andThen]
 rw [Oper.upon_value]
 go_wp2
 go_ret
 exact ⟨_, rfl, Below.refl _ _, rfl⟩
def cmp_ct : Ct := ctc aB fun _ l0 => ctc aB fun _ l1 => ct0 fun _ => ([], kI (Lib.compareBytes l0 l1), [])
theorem cmp_h : FnOk Try.prog Tr 75 cmp_ct := by
 refine ⟨fun args H g av objs hF hg ρ w vals hG hp ha => ?_, _, Try.func75, by kernel_rfl, by kernel_rfl⟩
 obtain ⟨x0, _, l0, rfl, e0, hF⟩ := ctc_inv hF
 obtain ⟨x1, _, l1, rfl, e1, hF⟩ := ctc_inv hF
 obtain ⟨rfl, rfl, rfl, rfl⟩ := ct0_inv hF
 obtain ⟨v0, vals, rfl, k0, ha⟩ := F2.inv ha
 obtain ⟨v1, vals, rfl, k1, ha⟩ := F2.inv ha
 obtain rfl := F2.inv0 ha
 obtain ⟨p0, hI0⟩ := aB_ok hp e0 k0 5
 obtain ⟨p1, hI1⟩ := aB_ok hp e1 k1 5
 exact calls_mono (cmp_c w _ _ v0 v1 l0 l1 (hI0.sl (fun _ _ h => csR_b.1 h) (by simp)) (hI1.sl (fun _ _ h => csR_b.1 h) (by simp))) fun v w' ⟨hx, hv⟩ => ⟨hx, left_val fun ρ => hv⟩
end Go.Proofs.Ytliilihbnhdemaa
end
section
namespace Go.Proofs.Ytliilihbnhdemaa
open Go.RowKit Go.Ch Go.Sx
def tabL_psa : List (TypeId × Ti) := [(3, ⟨.int .i64, 1, 8, true, some [.int .i64]⟩),
 (5, ⟨.int .u8, 1, 1, true, some [.int .u8]⟩),
 (22, ⟨.sl 5, 1, 24, false, some [.nils]⟩),
 (82, ⟨.sl 22, 1, 24, false, some [.nils]⟩),
 (92, ⟨.int .u64, 1, 8, true, some [.int .u64]⟩)]
def tab_psa : Tab := fun t => (tabL_psa).lookup t
theorem tabE_psa : (tabL_psa.map fun p => tiOf Try.prog p.1) = tabL_psa.map fun p => some p.2 := by kernel_rfl
theorem tabO_psa : TabOk Try.prog tab_psa := tab_of tabE_psa
def srIns_l2 (n : Nat) (l : List (List UInt8)) (js : List Nat) (a1 : Int) (a2 : Int) (i8_1 : Int) (k_l1 : (List Nat) → Int → Option (List Nat)) : Nat → List Nat → Int → Option (List Nat)
 | 0, _, _ => none
 | fu_l2 + 1, dg1000000_8, i9_5 =>
 bif (decide (a1 < i9_5)) then
 gd (0 ≤ i9_5) <|
 gd (i9_5 < ((js.length : Nat) : Int)) <|
 gd (okI .i64 (i9_5 - 1)) <|
 gd (0 ≤ (i9_5 - 1)) <|
 gd ((i9_5 - 1) < ((js.length : Nat) : Int)) <|
 bif (decide ((Lib.compareBytes (l.getD (dg1000000_8.getD i9_5.toNat 0) []) (l.getD (dg1000000_8.getD ((i9_5 - 1).toNat) 0) [])) < (0 : Int))) then
 gd (okI .i64 (i9_5 - 1)) <|
 gd (okI .i64 (i9_5 - 1)) <|
 gd (0 ≤ (i9_5 - 1)) <|
 gd ((i9_5 - 1) < ((js.length : Nat) : Int)) <|
 gd (0 ≤ i9_5) <|
 gd (i9_5 < ((js.length : Nat) : Int)) <|
 gd (0 ≤ i9_5) <|
 gd (i9_5 < ((js.length : Nat) : Int)) <|
 gd (0 ≤ (i9_5 - 1)) <|
 gd ((i9_5 - 1) < ((js.length : Nat) : Int)) <|
 gd (okI .i64 (i9_5 - 1)) <|
 (srIns_l2 n l js a1 a2 i8_1 k_l1 fu_l2) ((dg1000000_8.set i9_5.toNat (dg1000000_8.getD ((i9_5 - 1).toNat) 0)).set ((i9_5 - 1).toNat) (dg1000000_8.getD i9_5.toNat 0)) (i9_5 - 1)
 else
 gd (okI .i64 (i8_1 + 1)) <|
 k_l1 dg1000000_8 (i8_1 + 1)
 else
 gd (okI .i64 (i8_1 + 1)) <|
 k_l1 dg1000000_8 (i8_1 + 1)
def srIns_l1 (n : Nat) (l : List (List UInt8)) (js : List Nat) (a1 : Int) (a2 : Int) : Nat → List Nat → Int → Option (List Nat)
 | 0, _, _ => none
 | fu_l1 + 1, dg1000000_6, i8_1 =>
 bif (decide (i8_1 < a2)) then
 srIns_l2 n l js a1 a2 i8_1 (srIns_l1 n l js a1 a2 fu_l1) n dg1000000_6 i8_1
 else
 some dg1000000_6
def srIns (n : Nat) (l : List (List UInt8)) (js : List Nat) (a1 : Int) (a2 : Int) : Option (List Nat) :=
 gd (okI .i64 (a1 + 1)) <|
 srIns_l1 n l js a1 a2 n js (a1 + 1)
def srSwap_l1 (n : Nat) (l : List (List UInt8)) (js : List Nat) (a1 : Int) (a2 : Int) (a3 : Int) : Nat → List Nat → Int → Option (List Nat)
 | 0, _, _ => none
 | fu_l1 + 1, dg1000000_2, i10_1 =>
 bif (decide (i10_1 < a3)) then
 gd (okI .i64 (a1 + i10_1)) <|
 gd (okI .i64 (a2 + i10_1)) <|
 gd (okI .i64 (a2 + i10_1)) <|
 gd (0 ≤ (a2 + i10_1)) <|
 gd ((a2 + i10_1) < ((js.length : Nat) : Int)) <|
 gd (okI .i64 (a1 + i10_1)) <|
 gd (0 ≤ (a1 + i10_1)) <|
 gd ((a1 + i10_1) < ((js.length : Nat) : Int)) <|
 gd (0 ≤ (a1 + i10_1)) <|
 gd ((a1 + i10_1) < ((js.length : Nat) : Int)) <|
 gd (0 ≤ (a2 + i10_1)) <|
 gd ((a2 + i10_1) < ((js.length : Nat) : Int)) <|
 gd (okI .i64 (i10_1 + 1)) <|
 (srSwap_l1 n l js a1 a2 a3 fu_l1) ((dg1000000_2.set ((a1 + i10_1).toNat) (dg1000000_2.getD ((a2 + i10_1).toNat) 0)).set ((a2 + i10_1).toNat) (dg1000000_2.getD ((a1 + i10_1).toNat) 0)) (i10_1 + 1)
 else
 some dg1000000_2
def srSwap (n : Nat) (l : List (List UInt8)) (js : List Nat) (a1 : Int) (a2 : Int) (a3 : Int) : Option (List Nat) :=
 srSwap_l1 n l js a1 a2 a3 n js 0
def srRot_j1 (n : Nat) (l : List (List UInt8)) (js : List Nat) (a2 : Int) (dg1000000_5 : List Nat) (i10_4 : Int) : Option (List Nat) :=
 gd (okI .i64 (a2 - i10_4)) <|
 (srSwap n l dg1000000_5 (a2 - i10_4) a2 i10_4).bind fun r57_1 =>
 some r57_1
def srRot_l1 (n : Nat) (l : List (List UInt8)) (js : List Nat) (a2 : Int) : Nat → List Nat → Int → Int → Option (List Nat)
 | 0, _, _, _ => none
 | fu_l1 + 1, dg1000000_6, i10_5, i11_3 =>
  bif (i10_5 != i11_3) then
   bif (decide (i11_3 < i10_5)) then
    gd (okI .i64 (a2 - i10_5)) <|
    (srSwap n l dg1000000_6 (a2 - i10_5) a2 i11_3).bind fun r31_4 =>
    gd (okI .i64 (i10_5 - i11_3)) <|
    (srRot_l1 n l js a2 fu_l1) r31_4 (i10_5 - i11_3) i11_3
   else
    gd (okI .i64 (a2 - i10_5)) <|
    gd (okI .i64 (a2 + i11_3)) <|
    gd (okI .i64 ((a2 + i11_3) - i10_5)) <|
    (srSwap n l dg1000000_6 (a2 - i10_5) ((a2 + i11_3) - i10_5) i10_5).bind fun r46_4 =>
    gd (okI .i64 (i11_3 - i10_5)) <|
    (srRot_l1 n l js a2 fu_l1) r46_4 i10_5 (i11_3 - i10_5)
  else
   srRot_j1 n l js a2 dg1000000_6 i10_5
def srRot (n : Nat) (l : List (List UInt8)) (js : List Nat) (a1 : Int) (a2 : Int) (a3 : Int) : Option (List Nat) :=
 gd (okI .i64 (a2 - a1)) <|
 gd (okI .i64 (a3 - a2)) <|
 srRot_l1 n l js a2 n js (a2 - a1) (a3 - a2)
def srMerge_l1 (n : Nat) (rc : (List (List UInt8)) → (List Nat) → Int → Int → Int → Option (List Nat)) (l : List (List UInt8)) (js : List Nat) (i10_4 : Int) : Nat → List Nat → Int → Option (List Nat)
 | 0, _, _ => none
 | fu_l1 + 1, dg1000000_5, i13_1 =>
 gd (okI .i64 (i10_4 - 1)) <|
 bif (decide (i13_1 < (i10_4 - 1))) then
 gd (okI .i64 (i13_1 + 1)) <|
 gd (okI .i64 (i13_1 + 1)) <|
 gd (0 ≤ (i13_1 + 1)) <|
 gd ((i13_1 + 1) < ((js.length : Nat) : Int)) <|
 gd (0 ≤ i13_1) <|
 gd (i13_1 < ((js.length : Nat) : Int)) <|
 gd (0 ≤ i13_1) <|
 gd (i13_1 < ((js.length : Nat) : Int)) <|
 gd (0 ≤ (i13_1 + 1)) <|
 gd ((i13_1 + 1) < ((js.length : Nat) : Int)) <|
 gd (okI .i64 (i13_1 + 1)) <|
 (srMerge_l1 n rc l js i10_4 fu_l1) ((dg1000000_5.set i13_1.toNat (dg1000000_5.getD ((i13_1 + 1).toNat) 0)).set ((i13_1 + 1).toNat) (dg1000000_5.getD i13_1.toNat 0)) (i13_1 + 1)
 else
 some dg1000000_5
def srMerge_j1 (n : Nat) (rc : (List (List UInt8)) → (List Nat) → Int → Int → Int → Option (List Nat)) (l : List (List UInt8)) (js : List Nat) (a1 : Int) (i10_4 : Int) : Option (List Nat) :=
 srMerge_l1 n rc l js i10_4 n js a1
def srMerge_l2 (n : Nat) (rc : (List (List UInt8)) → (List Nat) → Int → Int → Int → Option (List Nat)) (l : List (List UInt8)) (js : List Nat) (a1 : Int) : Nat → Int → Int → Option (List Nat)
 | 0, _, _ => none
 | fu_l2 + 1, i10_5, i11_3 =>
 bif (decide (i10_5 < i11_3)) then
 gd (okI .i64 (i10_5 + i11_3)) <|
 gd (0 ≤ (1 : Int)) <|
 gd (0 ≤ (IntKind.i64.wrap (((shr64 (UInt64.ofInt (i10_5 + i11_3)) 1).toNat : Nat) : Int))) <|
 gd ((IntKind.i64.wrap (((shr64 (UInt64.ofInt (i10_5 + i11_3)) 1).toNat : Nat) : Int)) < ((js.length : Nat) : Int)) <|
 gd (0 ≤ a1) <|
 gd (a1 < ((js.length : Nat) : Int)) <|
 bif (decide ((Lib.compareBytes (l.getD (js.getD ((IntKind.i64.wrap (((shr64 (UInt64.ofInt (i10_5 + i11_3)) 1).toNat : Nat) : Int)).toNat) 0) []) (l.getD (js.getD a1.toNat 0) [])) < (0 : Int))) then
 gd (okI .i64 ((IntKind.i64.wrap (((shr64 (UInt64.ofInt (i10_5 + i11_3)) 1).toNat : Nat) : Int)) + 1)) <|
 (srMerge_l2 n rc l js a1 fu_l2) ((IntKind.i64.wrap (((shr64 (UInt64.ofInt (i10_5 + i11_3)) 1).toNat : Nat) : Int)) + 1) i11_3
 else
 (srMerge_l2 n rc l js a1 fu_l2) i10_5 (IntKind.i64.wrap (((shr64 (UInt64.ofInt (i10_5 + i11_3)) 1).toNat : Nat) : Int))
 else
 srMerge_j1 n rc l js a1 i10_5
def srMerge_l3 (n : Nat) (rc : (List (List UInt8)) → (List Nat) → Int → Int → Int → Option (List Nat)) (l : List (List UInt8)) (js : List Nat) (i14_4 : Int) : Nat → List Nat → Int → Option (List Nat)
 | 0, _, _ => none
 | fu_l3 + 1, dg1000000_6, i17_1 =>
 bif (decide (i14_4 < i17_1)) then
 gd (okI .i64 (i17_1 - 1)) <|
 gd (okI .i64 (i17_1 - 1)) <|
 gd (0 ≤ (i17_1 - 1)) <|
 gd ((i17_1 - 1) < ((js.length : Nat) : Int)) <|
 gd (0 ≤ i17_1) <|
 gd (i17_1 < ((js.length : Nat) : Int)) <|
 gd (0 ≤ i17_1) <|
 gd (i17_1 < ((js.length : Nat) : Int)) <|
 gd (0 ≤ (i17_1 - 1)) <|
 gd ((i17_1 - 1) < ((js.length : Nat) : Int)) <|
 gd (okI .i64 (i17_1 - 1)) <|
 (srMerge_l3 n rc l js i14_4 fu_l3) ((dg1000000_6.set i17_1.toNat (dg1000000_6.getD ((i17_1 - 1).toNat) 0)).set ((i17_1 - 1).toNat) (dg1000000_6.getD i17_1.toNat 0)) (i17_1 - 1)
 else
 some dg1000000_6
def srMerge_j2 (n : Nat) (rc : (List (List UInt8)) → (List Nat) → Int → Int → Int → Option (List Nat)) (l : List (List UInt8)) (js : List Nat) (a2 : Int) (i14_4 : Int) : Option (List Nat) :=
 srMerge_l3 n rc l js i14_4 n js a2
def srMerge_l4 (n : Nat) (rc : (List (List UInt8)) → (List Nat) → Int → Int → Int → Option (List Nat)) (l : List (List UInt8)) (js : List Nat) (a2 : Int) : Nat → Int → Int → Option (List Nat)
 | 0, _, _ => none
 | fu_l4 + 1, i14_5, i15_3 =>
 bif (decide (i14_5 < i15_3)) then
 gd (okI .i64 (i14_5 + i15_3)) <|
 gd (0 ≤ (1 : Int)) <|
 gd (0 ≤ a2) <|
 gd (a2 < ((js.length : Nat) : Int)) <|
 gd (0 ≤ (IntKind.i64.wrap (((shr64 (UInt64.ofInt (i14_5 + i15_3)) 1).toNat : Nat) : Int))) <|
 gd ((IntKind.i64.wrap (((shr64 (UInt64.ofInt (i14_5 + i15_3)) 1).toNat : Nat) : Int)) < ((js.length : Nat) : Int)) <|
 bif (!(decide ((Lib.compareBytes (l.getD (js.getD a2.toNat 0) []) (l.getD (js.getD ((IntKind.i64.wrap (((shr64 (UInt64.ofInt (i14_5 + i15_3)) 1).toNat : Nat) : Int)).toNat) 0) [])) < (0 : Int)))) then
 gd (okI .i64 ((IntKind.i64.wrap (((shr64 (UInt64.ofInt (i14_5 + i15_3)) 1).toNat : Nat) : Int)) + 1)) <|
 (srMerge_l4 n rc l js a2 fu_l4) ((IntKind.i64.wrap (((shr64 (UInt64.ofInt (i14_5 + i15_3)) 1).toNat : Nat) : Int)) + 1) i15_3
 else
 (srMerge_l4 n rc l js a2 fu_l4) i14_5 (IntKind.i64.wrap (((shr64 (UInt64.ofInt (i14_5 + i15_3)) 1).toNat : Nat) : Int))
 else
 srMerge_j2 n rc l js a2 i14_5
def srMerge_j6 (n : Nat) (rc : (List (List UInt8)) → (List Nat) → Int → Int → Int → Option (List Nat)) (l : List (List UInt8)) (js : List Nat) (a1 : Int) (a2 : Int) (a3 : Int) (i20_6 : Int) (dg1000000_8 : List Nat) : Option (List Nat) :=
 bif (decide ((IntKind.i64.wrap (((shr64 (UInt64.ofInt (a1 + a3)) 1).toNat : Nat) : Int)) < (((IntKind.i64.wrap (((shr64 (UInt64.ofInt (a1 + a3)) 1).toNat : Nat) : Int)) + a2) - i20_6))) then
  bif (decide ((((IntKind.i64.wrap (((shr64 (UInt64.ofInt (a1 + a3)) 1).toNat : Nat) : Int)) + a2) - i20_6) < a3)) then
   (rc l dg1000000_8 (IntKind.i64.wrap (((shr64 (UInt64.ofInt (a1 + a3)) 1).toNat : Nat) : Int)) (((IntKind.i64.wrap (((shr64 (UInt64.ofInt (a1 + a3)) 1).toNat : Nat) : Int)) + a2) - i20_6) a3).bind fun r219_1 =>
   some r219_1
  else
   some dg1000000_8
 else
  some dg1000000_8
def srMerge_j5 (n : Nat) (rc : (List (List UInt8)) → (List Nat) → Int → Int → Int → Option (List Nat)) (l : List (List UInt8)) (js : List Nat) (a1 : Int) (a2 : Int) (a3 : Int) (i20_6 : Int) (dg1000000_7 : List Nat) : Option (List Nat) :=
 bif (decide (a1 < i20_6)) then
  bif (decide (i20_6 < (IntKind.i64.wrap (((shr64 (UInt64.ofInt (a1 + a3)) 1).toNat : Nat) : Int)))) then
   (rc l dg1000000_7 a1 i20_6 (IntKind.i64.wrap (((shr64 (UInt64.ofInt (a1 + a3)) 1).toNat : Nat) : Int))).bind fun r205_1 =>
   srMerge_j6 n rc l js a1 a2 a3 i20_6 r205_1
  else
   srMerge_j6 n rc l js a1 a2 a3 i20_6 dg1000000_7
 else
  srMerge_j6 n rc l js a1 a2 a3 i20_6 dg1000000_7
def srMerge_j4 (n : Nat) (rc : (List (List UInt8)) → (List Nat) → Int → Int → Int → Option (List Nat)) (l : List (List UInt8)) (js : List Nat) (a1 : Int) (a2 : Int) (a3 : Int) (i20_6 : Int) : Option (List Nat) :=
 gd (okI .i64 (((IntKind.i64.wrap (((shr64 (UInt64.ofInt (a1 + a3)) 1).toNat : Nat) : Int)) + a2) - i20_6)) <|
 bif (decide (i20_6 < a2)) then
  bif (decide (a2 < (((IntKind.i64.wrap (((shr64 (UInt64.ofInt (a1 + a3)) 1).toNat : Nat) : Int)) + a2) - i20_6))) then
   (srRot n l js i20_6 a2 (((IntKind.i64.wrap (((shr64 (UInt64.ofInt (a1 + a3)) 1).toNat : Nat) : Int)) + a2) - i20_6)).bind fun r191_1 =>
   srMerge_j5 n rc l js a1 a2 a3 i20_6 r191_1
  else
   srMerge_j5 n rc l js a1 a2 a3 i20_6 js
 else
  srMerge_j5 n rc l js a1 a2 a3 i20_6 js
def srMerge_l5 (n : Nat) (rc : (List (List UInt8)) → (List Nat) → Int → Int → Int → Option (List Nat)) (l : List (List UInt8)) (js : List Nat) (a1 : Int) (a2 : Int) (a3 : Int) : Nat → Int → Int → Option (List Nat)
 | 0, _, _ => none
 | fu_l5 + 1, i20_7, i21_5 =>
 bif (decide (i20_7 < i21_5)) then
 gd (okI .i64 (i20_7 + i21_5)) <|
 gd (0 ≤ (1 : Int)) <|
 gd (okI .i64 ((((IntKind.i64.wrap (((shr64 (UInt64.ofInt (a1 + a3)) 1).toNat : Nat) : Int)) + a2) - 1) - (IntKind.i64.wrap (((shr64 (UInt64.ofInt (i20_7 + i21_5)) 1).toNat : Nat) : Int)))) <|
 gd (0 ≤ ((((IntKind.i64.wrap (((shr64 (UInt64.ofInt (a1 + a3)) 1).toNat : Nat) : Int)) + a2) - 1) - (IntKind.i64.wrap (((shr64 (UInt64.ofInt (i20_7 + i21_5)) 1).toNat : Nat) : Int)))) <|
 gd (((((IntKind.i64.wrap (((shr64 (UInt64.ofInt (a1 + a3)) 1).toNat : Nat) : Int)) + a2) - 1) - (IntKind.i64.wrap (((shr64 (UInt64.ofInt (i20_7 + i21_5)) 1).toNat : Nat) : Int))) < ((js.length : Nat) : Int)) <|
 gd (0 ≤ (IntKind.i64.wrap (((shr64 (UInt64.ofInt (i20_7 + i21_5)) 1).toNat : Nat) : Int))) <|
 gd ((IntKind.i64.wrap (((shr64 (UInt64.ofInt (i20_7 + i21_5)) 1).toNat : Nat) : Int)) < ((js.length : Nat) : Int)) <|
 bif (!(decide ((Lib.compareBytes (l.getD (js.getD (((((IntKind.i64.wrap (((shr64 (UInt64.ofInt (a1 + a3)) 1).toNat : Nat) : Int)) + a2) - 1) - (IntKind.i64.wrap (((shr64 (UInt64.ofInt (i20_7 + i21_5)) 1).toNat : Nat) : Int))).toNat) 0) []) (l.getD (js.getD ((IntKind.i64.wrap (((shr64 (UInt64.ofInt (i20_7 + i21_5)) 1).toNat : Nat) : Int)).toNat) 0) [])) < (0 : Int)))) then
 gd (okI .i64 ((IntKind.i64.wrap (((shr64 (UInt64.ofInt (i20_7 + i21_5)) 1).toNat : Nat) : Int)) + 1)) <|
 (srMerge_l5 n rc l js a1 a2 a3 fu_l5) ((IntKind.i64.wrap (((shr64 (UInt64.ofInt (i20_7 + i21_5)) 1).toNat : Nat) : Int)) + 1) i21_5
 else
 (srMerge_l5 n rc l js a1 a2 a3 fu_l5) i20_7 (IntKind.i64.wrap (((shr64 (UInt64.ofInt (i20_7 + i21_5)) 1).toNat : Nat) : Int))
 else
 srMerge_j4 n rc l js a1 a2 a3 i20_7
def srMerge_j3 (n : Nat) (rc : (List (List UInt8)) → (List Nat) → Int → Int → Int → Option (List Nat)) (l : List (List UInt8)) (js : List Nat) (a1 : Int) (a2 : Int) (a3 : Int) (i20_4 : Int) (i21_3 : Int) : Option (List Nat) :=
 gd (okI .i64 (((IntKind.i64.wrap (((shr64 (UInt64.ofInt (a1 + a3)) 1).toNat : Nat) : Int)) + a2) - 1)) <|
 srMerge_l5 n rc l js a1 a2 a3 n i20_4 i21_3
def srMerge : Nat → (List (List UInt8)) → (List Nat) → Int → Int → Int → Option (List Nat)
 | 0, _, _, _, _, _ => none
 | n + 1, l, js, a1, a2, a3 =>
 gd (okI .i64 (a2 - a1)) <|
 bif ((a2 - a1) == 1) then
 srMerge_l2 n (srMerge n) l js a1 n a2 a3
 else
 gd (okI .i64 (a3 - a2)) <|
 bif ((a3 - a2) == 1) then
 srMerge_l4 n (srMerge n) l js a2 n a1 a2
 else
 gd (okI .i64 (a1 + a3)) <|
 gd (0 ≤ (1 : Int)) <|
 gd (okI .i64 ((IntKind.i64.wrap (((shr64 (UInt64.ofInt (a1 + a3)) 1).toNat : Nat) : Int)) + a2)) <|
 bif (decide ((IntKind.i64.wrap (((shr64 (UInt64.ofInt (a1 + a3)) 1).toNat : Nat) : Int)) < a2)) then
 gd (okI .i64 (((IntKind.i64.wrap (((shr64 (UInt64.ofInt (a1 + a3)) 1).toNat : Nat) : Int)) + a2) - a3)) <|
 srMerge_j3 n (srMerge n) l js a1 a2 a3 (((IntKind.i64.wrap (((shr64 (UInt64.ofInt (a1 + a3)) 1).toNat : Nat) : Int)) + a2) - a3) (IntKind.i64.wrap (((shr64 (UInt64.ofInt (a1 + a3)) 1).toNat : Nat) : Int))
 else
 srMerge_j3 n (srMerge n) l js a1 a2 a3 a1 a2
def srStable_j3 (n : Nat) (l : List (List UInt8)) (js : List Nat) (a1 : Int) (i6_1 : Int) (k_l1 : (List Nat) → Int → Option (List Nat)) (dg1000000_30 : List Nat) : Option (List Nat) :=
 gd (okI .i64 (i6_1 * 2)) <|
 k_l1 dg1000000_30 (i6_1 * 2)
def srStable_j2 (n : Nat) (l : List (List UInt8)) (js : List Nat) (a1 : Int) (i6_1 : Int) (k_l1 : (List Nat) → Int → Option (List Nat)) (dg1000000_29 : List Nat) (i7_21 : Int) : Option (List Nat) :=
 gd (okI .i64 (i7_21 + i6_1)) <|
 bif (decide ((i7_21 + i6_1) < a1)) then
  (srMerge n l dg1000000_29 i7_21 (i7_21 + i6_1) a1).bind fun r60_5 =>
  srStable_j3 n l js a1 i6_1 k_l1 r60_5
 else
  srStable_j3 n l js a1 i6_1 k_l1 dg1000000_29
def srStable_l2 (n : Nat) (l : List (List UInt8)) (js : List Nat) (a1 : Int) (i6_1 : Int) (k_l1 : (List Nat) → Int → Option (List Nat)) : Nat → List Nat → Int → Int → Option (List Nat)
 | 0, _, _, _ => none
 | fu_l2 + 1, dg1000000_31, i7_22, i8_14 =>
  bif (decide (i8_14 ≤ a1)) then
   gd (okI .i64 (i7_22 + i6_1)) <|
   (srMerge n l dg1000000_31 i7_22 (i7_22 + i6_1) i8_14).bind fun r43_15 =>
   gd (okI .i64 (2 * i6_1)) <|
   gd (okI .i64 (i8_14 + (2 * i6_1))) <|
   (srStable_l2 n l js a1 i6_1 k_l1 fu_l2) r43_15 i8_14 (i8_14 + (2 * i6_1))
  else
   srStable_j2 n l js a1 i6_1 k_l1 dg1000000_31 i7_22
def srStable_l1 (n : Nat) (l : List (List UInt8)) (js : List Nat) (a1 : Int) : Nat → List Nat → Int → Option (List Nat)
 | 0, _, _ => none
 | fu_l1 + 1, dg1000000_23, i6_1 =>
 bif (decide (i6_1 < a1)) then
 gd (okI .i64 (2 * i6_1)) <|
 srStable_l2 n l js a1 i6_1 (srStable_l1 n l js a1 fu_l1) n dg1000000_23 0 (2 * i6_1)
 else
 some dg1000000_23
def srStable_j1 (n : Nat) (l : List (List UInt8)) (js : List Nat) (a1 : Int) (dg1000000_18 : List Nat) (i7_13 : Int) : Option (List Nat) :=
 (srIns n l dg1000000_18 i7_13 a1).bind fun r27_1 =>
 srStable_l1 n l js a1 n r27_1 20
def srStable_l3 (n : Nat) (l : List (List UInt8)) (js : List Nat) (a1 : Int) : Nat → List Nat → Int → Int → Option (List Nat)
 | 0, _, _, _ => none
 | fu_l3 + 1, dg1000000_32, i7_23, i8_15 =>
  bif (decide (i8_15 ≤ a1)) then
   (srIns n l dg1000000_32 i7_23 i8_15).bind fun r18_4 =>
   gd (okI .i64 (i8_15 + 20)) <|
   (srStable_l3 n l js a1 fu_l3) r18_4 i8_15 (i8_15 + 20)
  else
   srStable_j1 n l js a1 dg1000000_32 i7_23
def srStable (n : Nat) (l : List (List UInt8)) (js : List Nat) (a1 : Int) : Option (List Nat) :=
 srStable_l3 n l js a1 n js 0 20
def srSort (n : Nat) (l : List (List UInt8)) (js : List Nat) : Option (List Nat) :=
 (srStable n l js ((js.length : Nat) : Int)).bind fun r8 =>
 some r8
def srIns_l2_E (l : List (List UInt8)) (js : List Nat) (a1 : Int) (a2 : Int) (i8_1 : Int) (dg1000000_8 : List Nat) (i9_5 : Int) : S := ⟨[(0, kH 0), (1, kI a1), (2, kI a2), (3, .c (.s (.v (.func (.func 75) #[] #[])))), (8, kI i8_1), (9, kI i9_5)], [(1000000, kH 0), (1000001, kH 1)], [⟨.row, 22, 1, js.length, .p 1 dg1000000_8⟩, ⟨(.dp false), 22, 1, l.length, .d (.by 5) l⟩]⟩
abbrev srIns_l2_P (n : Nat) (l : List (List UInt8)) (js : List Nat) (a1 : Int) (a2 : Int) (i8_1 : Int) (k_l1 : (List Nat) → Int → Option (List Nat)) (r : List Nat) (fu : Nat) : S → Prop := fun s => ∃ (dg1000000_8 : List Nat), ∃ (i9_5 : Int), s = srIns_l2_E l js a1 a2 i8_1 dg1000000_8 i9_5 ∧ srIns_l2 n l js a1 a2 i8_1 k_l1 fu dg1000000_8 i9_5 = some r
def srIns_l1_E (l : List (List UInt8)) (js : List Nat) (a1 : Int) (a2 : Int) (dg1000000_6 : List Nat) (i8_1 : Int) : S := ⟨[(0, kH 0), (1, kI a1), (2, kI a2), (3, .c (.s (.v (.func (.func 75) #[] #[])))), (8, kI i8_1)], [(1000000, kH 0), (1000001, kH 1)], [⟨.row, 22, 1, js.length, .p 1 dg1000000_6⟩, ⟨(.dp false), 22, 1, l.length, .d (.by 5) l⟩]⟩
abbrev srIns_l1_P (n : Nat) (l : List (List UInt8)) (js : List Nat) (a1 : Int) (a2 : Int) (r : List Nat) (fu : Nat) : S → Prop := fun s => ∃ (dg1000000_6 : List Nat), ∃ (i8_1 : Int), s = srIns_l1_E l js a1 a2 dg1000000_6 i8_1 ∧ srIns_l1 n l js a1 a2 fu dg1000000_6 i8_1 = some r
def srIns_R (l : List (List UInt8)) (js : List Nat) (r : List Nat) : S := ⟨[], [(1000000, kH 0), (1000001, kH 1)], [⟨.row, 22, 1, js.length, .p 1 r⟩, ⟨(.dp false), 22, 1, l.length, .d (.by 5) l⟩]⟩
def srIns_ct (n : Nat) (r : List Nat) : CtM := rwC 75 22 (fun l js ns => match ns with | [a1, a2] => srIns n l js a1 a2 = some r | _ => False) r
theorem srIns_ok (n : Nat) (r : List Nat) : FnMOk Try.prog 88 (srIns_ct n r) := by
 refine fnokR (e' := 5) 53 (fun l js => srIns_R l js r) Try.func88 (fun w bs l js ns h => ?_) (fun l js ns h => ?_) (fun l js => ⟨_, rfl⟩)
 ·cases ns with
  | nil => exact (show False from h).elim
  | cons a1 ns =>
   cases ns with
   | nil => exact (show False from h).elim
   | cons a2 ns =>
    cases ns with
    | cons z ns => exact (show False from h).elim
    | nil =>
     have h : srIns n l js a1 a2 = some r := h
     unfold srIns at h
     have hT := tabO_psa
     obtain ⟨g1, h⟩ := gd_some h
     refine Vgs hT fN [] [] [0, 1] ⟨[(0, kH 0), (1, kI a1), (2, kI a2), (3, .c (.s (.v (.func (.func 75) #[] #[])))), (8, kI (a1 + 1))], [(1000000, kH 0), (1000001, kH 1)], [⟨.row, 22, 1, js.length, .p 1 js⟩, ⟨(.dp false), 22, 1, l.length, .d (.by 5) l⟩]⟩ (aP g1 aN) ?_
     refine W_block ?_
     refine Vc [] [0, 1] (srIns_l1_E l js a1 a2 js (a1 + 1)) (W_lp ((srIns_l1_P n l js a1 a2 r)) n ⟨_, _, rfl, h⟩ ?_)
     rintro fu_l1 _ ⟨dg1000000_6, i8_1, rfl, h⟩
     cases fu_l1 with
     | zero => cases h
     | succ fu_l1 =>
      refine ⟨fu_l1, rfl, ?_⟩
      rw [srIns_l1] at h
      refine W_seq ?_
      refine Vrs hT [0, 1] ⟨[(0, kH 0), (1, kI a1), (2, kI a2), (3, .c (.s (.v (.func (.func 75) #[] #[])))), (8, kI i8_1), (14, kB (decide (i8_1 < a2)))], [(1000000, kH 0), (1000001, kH 1)], [⟨.row, 22, 1, js.length, .p 1 dg1000000_6⟩, ⟨(.dp false), 22, 1, l.length, .d (.by 5) l⟩]⟩ ?_
      refine Vi ((decide (i8_1 < a2))) (fun g22 => ?_) (fun g22 => ?_)
      ·replace h := bif_t h g22
       refine W_skip ?_
       refine W_seq ?_
       refine W_block ?_
       refine Vrs hT [0, 1] ⟨[(0, kH 0), (1, kI a1), (2, kI a2), (3, .c (.s (.v (.func (.func 75) #[] #[])))), (8, kI i8_1), (9, kI i8_1)], [(1000000, kH 0), (1000001, kH 1)], [⟨.row, 22, 1, js.length, .p 1 dg1000000_6⟩, ⟨(.dp false), 22, 1, l.length, .d (.by 5) l⟩]⟩ ?_
       refine W_block ?_
       refine Vc [] [0, 1] (srIns_l2_E l js a1 a2 i8_1 dg1000000_6 i8_1) (W_lp ((srIns_l2_P n l js a1 a2 i8_1 (srIns_l1 n l js a1 a2 fu_l1) r)) n ⟨_, _, rfl, h⟩ ?_)
       rintro fu_l2 _ ⟨dg1000000_8, i9_5, rfl, h⟩
       cases fu_l2 with
       | zero => cases h
       | succ fu_l2 =>
        refine ⟨fu_l2, rfl, ?_⟩
        rw [srIns_l2] at h
        refine W_seq ?_
        refine W_seq ?_
        rcases Bool.eq_false_or_eq_true (decide (a1 < i9_5)) with g2 | g2
        ·replace h := bif_t h g2
         obtain ⟨g3, g4, g5, g6, g7, h⟩ := gd5 h
         refine W_regG hT (fT 14 cmp_h fN) (by kernel_rfl) [(3, true)] [0, 1, 2, 3, 4, 5, 6, 7, 8, 9, 10, 11, 12, 13, 15, 16] [[0, 1, 2, 3, 4, 5, 6, 7, 8, 9, 10, 11, 12, 13], [0, 1, 2, 3, 4, 5, 6, 7, 8, 9, 10, 11, 12, 13, 14, 15, 16]] [⟨[(0, kH 0), (1, kI a1), (2, kI a2), (3, .c (.s (.v (.func (.func 75) #[] #[])))), (8, kI i8_1), (9, kI i9_5), (18, kI i9_5), (19, kI a1), (20, kB (decide (a1 < i9_5))), (21, kB true), (22, .c (.s (.v (.func (.func 75) #[] #[])))), (23, kH 0), (24, kI i9_5), (25, kP 0 i9_5.toNat), (26, .c (.gi 1 (dg1000000_8.getD i9_5.toNat 0))), (27, kH 0), (28, kI i9_5), (29, kI (i9_5 - 1)), (30, kP 0 ((i9_5 - 1).toNat)), (31, .c (.gi 1 (dg1000000_8.getD ((i9_5 - 1).toNat) 0)))], [(1000000, kH 0), (1000001, kH 1)], [⟨.row, 22, 1, js.length, .p 1 dg1000000_8⟩, ⟨(.dp false), 22, 1, l.length, .d (.by 5) l⟩]⟩, ⟨[(0, kH 0), (1, kI a1), (2, kI a2), (3, .c (.s (.v (.func (.func 75) #[] #[])))), (8, kI i8_1), (9, kI i9_5), (21, kB true), (32, kI (Lib.compareBytes (l.getD (dg1000000_8.getD i9_5.toNat 0) []) (l.getD (dg1000000_8.getD ((i9_5 - 1).toNat) 0) []))), (33, kB (decide ((Lib.compareBytes (l.getD (dg1000000_8.getD i9_5.toNat 0) []) (l.getD (dg1000000_8.getD ((i9_5 - 1).toNat) 0) [])) < (0 : Int)))), (34, kB (decide ((Lib.compareBytes (l.getD (dg1000000_8.getD i9_5.toNat 0) []) (l.getD (dg1000000_8.getD ((i9_5 - 1).toNat) 0) [])) < (0 : Int))))], [(1000000, kH 0), (1000001, kH 1)], [⟨.row, 22, 1, js.length, .p 1 dg1000000_8⟩, ⟨(.dp false), 22, 1, l.length, .d (.by 5) l⟩]⟩] [0, 1, 2, 3, 4, 5, 6, 7, 8, 9, 10, 11, 12, 13] [⟨0, 14, 1, [15, 16], [], [0, 1, 2, 3, 8, 9, 21, 32, 33, 34], [0, 1]⟩] [(0, 0), (0, 1), (0, 2), (0, 3), (0, 4), (0, 5), (0, 6), (0, 7), (0, 8), (0, 9), (0, 10), (0, 11), (0, 12), (0, 13), (1, 15), (1, 16)] 1 [0, 1, 2, 3, 8, 9, 18, 19, 20, 21, 22, 23, 24, 25, 26, 27, 28, 29, 30, 31] [0, 1] [] [0, 1, 2, 3, 8, 9, 34] [0, 1] (s' := ⟨[(0, kH 0), (1, kI a1), (2, kI a2), (3, .c (.s (.v (.func (.func 75) #[] #[])))), (8, kI i8_1), (9, kI i9_5), (34, kB (decide ((Lib.compareBytes (l.getD (dg1000000_8.getD i9_5.toNat 0) []) (l.getD (dg1000000_8.getD ((i9_5 - 1).toNat) 0) [])) < (0 : Int))))], [(1000000, kH 0), (1000001, kH 1)], [⟨.row, 22, 1, js.length, .p 1 dg1000000_8⟩, ⟨(.dp false), 22, 1, l.length, .d (.by 5) l⟩]⟩) (by kernel_rfl) ⟨_, (by kernel_rfl), (allP_cons.2 ⟨g2, (allP_cons.2 ⟨g3, (allP_cons.2 ⟨g4, (allP_cons.2 ⟨g5, (allP_cons.2 ⟨g6, (allP_cons.2 ⟨g7, allP_nil⟩)⟩)⟩)⟩)⟩)⟩)⟩ (AllE.cons ⟨_, (by kernel_rfl), allP_nil⟩ AllE.nil) (AllR.cons ⟨_, (by kernel_rfl), allP_nil⟩ (AllR.cons ⟨_, (by kernel_rfl), allP_nil⟩ (AllR.cons ⟨_, (by kernel_rfl), allP_nil⟩ (AllR.cons ⟨_, (by kernel_rfl), (allP_cons.2 ⟨g2, allP_nil⟩)⟩ (AllR.cons ⟨_, (by kernel_rfl), allP_nil⟩ (AllR.cons ⟨_, (by kernel_rfl), allP_nil⟩ (AllR.cons ⟨_, (by kernel_rfl), allP_nil⟩ (AllR.cons ⟨_, (by kernel_rfl), (allP_cons.2 ⟨g3, (allP_cons.2 ⟨g4, allP_nil⟩)⟩)⟩ (AllR.cons ⟨_, (by kernel_rfl), allP_nil⟩ (AllR.cons ⟨_, (by kernel_rfl), allP_nil⟩ (AllR.cons ⟨_, (by kernel_rfl), allP_nil⟩ (AllR.cons ⟨_, (by kernel_rfl), (allP_cons.2 ⟨g5, allP_nil⟩)⟩ (AllR.cons ⟨_, (by kernel_rfl), (allP_cons.2 ⟨g6, (allP_cons.2 ⟨g7, allP_nil⟩)⟩)⟩ (AllR.cons ⟨_, (by kernel_rfl), allP_nil⟩ (AllR.cons ⟨_, (by kernel_rfl), allP_nil⟩ (AllR.cons ⟨_, (by kernel_rfl), allP_nil⟩ AllR.nil)))))))))))))))) (by kernel_rfl) ?_
         refine Vi ((decide ((Lib.compareBytes (l.getD (dg1000000_8.getD i9_5.toNat 0) []) (l.getD (dg1000000_8.getD ((i9_5 - 1).toNat) 0) [])) < (0 : Int)))) (fun g20 => ?_) (fun g20 => ?_)
         ·replace h := bif_t h g20
          refine Vc [] [0, 1] ⟨[(0, kH 0), (1, kI a1), (2, kI a2), (3, .c (.s (.v (.func (.func 75) #[] #[])))), (8, kI i8_1), (9, kI i9_5)], [(1000000, kH 0), (1000001, kH 1)], [⟨.row, 22, 1, js.length, .p 1 dg1000000_8⟩, ⟨(.dp false), 22, 1, l.length, .d (.by 5) l⟩]⟩ (W_skip ?_)
          refine W_seq ?_
          refine W_block ?_
          obtain ⟨g8, g9, g10, g11, g12, h⟩ := gd5 h
          obtain ⟨g13, g14, g15, g16, g17, h⟩ := gd5 h
          refine W_regG hT fN (by kernel_rfl) [] [0, 1, 2, 3, 4, 5, 6, 7, 8, 9, 10, 11, 12, 13, 14, 16] [[0, 1, 2, 3, 4, 5, 6, 7, 8, 9, 10, 11, 12, 13, 14], [0, 1, 2, 3, 4, 5, 6, 7, 8, 9, 10, 11, 12, 13, 14, 15, 16], [0, 1, 2, 3, 4, 5, 6, 7, 8, 9, 10, 11, 12, 13, 14, 15, 16, 17]] [⟨[(0, kH 0), (1, kI a1), (2, kI a2), (3, .c (.s (.v (.func (.func 75) #[] #[])))), (8, kI i8_1), (9, kI i9_5), (37, kH 0), (38, kI i9_5), (39, kH 0), (40, kI i9_5), (41, kI (i9_5 - 1)), (42, kH 0), (43, kI i9_5), (44, kI (i9_5 - 1)), (45, kP 0 ((i9_5 - 1).toNat)), (46, .c (.gi 1 (dg1000000_8.getD ((i9_5 - 1).toNat) 0))), (47, kH 0), (48, kI i9_5), (49, kP 0 i9_5.toNat), (50, .c (.gi 1 (dg1000000_8.getD i9_5.toNat 0))), (51, kP 0 i9_5.toNat)], [(1000000, kH 0), (1000001, kH 1)], [⟨.row, 22, 1, js.length, .p 1 dg1000000_8⟩, ⟨(.dp false), 22, 1, l.length, .d (.by 5) l⟩]⟩, ⟨[(0, kH 0), (1, kI a1), (2, kI a2), (3, .c (.s (.v (.func (.func 75) #[] #[])))), (8, kI i8_1), (9, kI i9_5), (39, kH 0), (40, kI i9_5), (41, kI (i9_5 - 1)), (50, .c (.gi 1 (dg1000000_8.getD i9_5.toNat 0))), (52, kP 0 ((i9_5 - 1).toNat))], [(1000000, kH 0), (1000001, kH 1)], [⟨.row, 22, 1, js.length, .p 1 (dg1000000_8.set i9_5.toNat (dg1000000_8.getD ((i9_5 - 1).toNat) 0))⟩, ⟨(.dp false), 22, 1, l.length, .d (.by 5) l⟩]⟩, ⟨[(0, kH 0), (1, kI a1), (2, kI a2), (3, .c (.s (.v (.func (.func 75) #[] #[])))), (8, kI i8_1), (9, kI i9_5)], [(1000000, kH 0), (1000001, kH 1)], [⟨.row, 22, 1, js.length, .p 1 ((dg1000000_8.set i9_5.toNat (dg1000000_8.getD ((i9_5 - 1).toNat) 0)).set ((i9_5 - 1).toNat) (dg1000000_8.getD i9_5.toNat 0))⟩, ⟨(.dp false), 22, 1, l.length, .d (.by 5) l⟩]⟩] [0, 1, 2, 3, 4, 5, 6, 7, 8, 9, 10, 11, 12, 13, 14] [⟨0, 15, 1, [16], [], [0, 1, 2, 3, 8, 9, 39, 40, 41, 50, 52], [0, 1]⟩, ⟨1, 17, 2, [], [], [0, 1, 2, 3, 8, 9], [0, 1]⟩] [(0, 0), (0, 1), (0, 2), (0, 3), (0, 4), (0, 5), (0, 6), (0, 7), (0, 8), (0, 9), (0, 10), (0, 11), (0, 12), (0, 13), (0, 14), (1, 2), (1, 3), (1, 4), (1, 16)] 2 [0, 1, 2, 3, 8, 9, 37, 38, 39, 40, 41, 42, 43, 44, 45, 46, 47, 48, 49, 50, 51] [0, 1] [] [0, 1, 2, 3, 8, 9] [0, 1] (s' := ⟨[(0, kH 0), (1, kI a1), (2, kI a2), (3, .c (.s (.v (.func (.func 75) #[] #[])))), (8, kI i8_1), (9, kI i9_5)], [(1000000, kH 0), (1000001, kH 1)], [⟨.row, 22, 1, js.length, .p 1 ((dg1000000_8.set i9_5.toNat (dg1000000_8.getD ((i9_5 - 1).toNat) 0)).set ((i9_5 - 1).toNat) (dg1000000_8.getD i9_5.toNat 0))⟩, ⟨(.dp false), 22, 1, l.length, .d (.by 5) l⟩]⟩) (by kernel_rfl) ⟨_, (by kernel_rfl), (allP_cons.2 ⟨g8, (allP_cons.2 ⟨g9, (allP_cons.2 ⟨g10, (allP_cons.2 ⟨g11, (allP_cons.2 ⟨g12, (allP_cons.2 ⟨g13, (allP_cons.2 ⟨g14, (allP_cons.2 ⟨g15, allP_nil⟩)⟩)⟩)⟩)⟩)⟩)⟩)⟩)⟩ (AllE.cons ⟨_, (by kernel_rfl), (allP_cons.2 ⟨g16, (allP_cons.2 ⟨g17, allP_nil⟩)⟩)⟩ (AllE.cons ⟨_, (by kernel_rfl), allP_nil⟩ AllE.nil)) (AllR.cons ⟨_, (by kernel_rfl), allP_nil⟩ (AllR.cons ⟨_, (by kernel_rfl), allP_nil⟩ (AllR.cons ⟨_, (by kernel_rfl), allP_nil⟩ (AllR.cons ⟨_, (by kernel_rfl), allP_nil⟩ (AllR.cons ⟨_, (by kernel_rfl), (allP_cons.2 ⟨g8, allP_nil⟩)⟩ (AllR.cons ⟨_, (by kernel_rfl), allP_nil⟩ (AllR.cons ⟨_, (by kernel_rfl), allP_nil⟩ (AllR.cons ⟨_, (by kernel_rfl), (allP_cons.2 ⟨g9, allP_nil⟩)⟩ (AllR.cons ⟨_, (by kernel_rfl), (allP_cons.2 ⟨g10, (allP_cons.2 ⟨g11, allP_nil⟩)⟩)⟩ (AllR.cons ⟨_, (by kernel_rfl), allP_nil⟩ (AllR.cons ⟨_, (by kernel_rfl), allP_nil⟩ (AllR.cons ⟨_, (by kernel_rfl), allP_nil⟩ (AllR.cons ⟨_, (by kernel_rfl), (allP_cons.2 ⟨g12, (allP_cons.2 ⟨g13, allP_nil⟩)⟩)⟩ (AllR.cons ⟨_, (by kernel_rfl), allP_nil⟩ (AllR.cons ⟨_, (by kernel_rfl), (allP_cons.2 ⟨g14, (allP_cons.2 ⟨g15, allP_nil⟩)⟩)⟩ (AllR.cons ⟨_, (by kernel_rfl), allP_nil⟩ (AllR.cons ⟨_, (by kernel_rfl), allP_nil⟩ (AllR.cons ⟨_, (by kernel_rfl), (allP_cons.2 ⟨g8, allP_nil⟩)⟩ (AllR.cons ⟨_, (by kernel_rfl), (allP_cons.2 ⟨g16, (allP_cons.2 ⟨g17, allP_nil⟩)⟩)⟩ AllR.nil))))))))))))))))))) (by kernel_rfl) ?_
          obtain ⟨g18, h⟩ := gd_some h
          refine Vg hT fN [] [] [0, 1] (srIns_l2_E l js a1 a2 i8_1 ((dg1000000_8.set i9_5.toNat (dg1000000_8.getD ((i9_5 - 1).toNat) 0)).set ((i9_5 - 1).toNat) (dg1000000_8.getD i9_5.toNat 0)) (i9_5 - 1)) (aP g18 aN) ?_
          exact ⟨_, _, rfl, h⟩
         ·replace h := bif_f h g20
          refine Vc [] [0, 1] ⟨[(0, kH 0), (1, kI a1), (2, kI a2), (3, .c (.s (.v (.func (.func 75) #[] #[])))), (8, kI i8_1)], [(1000000, kH 0), (1000001, kH 1)], [⟨.row, 22, 1, js.length, .p 1 dg1000000_8⟩, ⟨(.dp false), 22, 1, l.length, .d (.by 5) l⟩]⟩ (W_exit ?_)
          obtain ⟨g19, h⟩ := gd_some h
          refine Vg hT fN [] [] [0, 1] (srIns_l1_E l js a1 a2 dg1000000_8 (i8_1 + 1)) (aP g19 aN) ?_
          exact ⟨_, _, rfl, h⟩
        ·replace h := bif_f h g2
         refine W_regG hT fN (by kernel_rfl) [(3, false)] [0, 1, 2, 3, 4, 5, 6, 7, 8, 9, 10, 11, 12, 13, 14, 15, 16] [[0, 1, 2, 3, 4, 5, 6, 7, 8, 9, 10, 11, 12, 13, 14, 15, 16]] [⟨[(0, kH 0), (1, kI a1), (2, kI a2), (3, .c (.s (.v (.func (.func 75) #[] #[])))), (8, kI i8_1), (9, kI i9_5), (18, kI i9_5), (19, kI a1), (20, kB (decide (a1 < i9_5))), (21, kB false), (22, .t []), (23, .t []), (24, .t []), (25, .t []), (26, .t []), (27, .t []), (28, .t []), (29, .t []), (30, .t []), (31, .t []), (32, .t []), (33, .t []), (34, kB false)], [(1000000, kH 0), (1000001, kH 1)], [⟨.row, 22, 1, js.length, .p 1 dg1000000_8⟩, ⟨(.dp false), 22, 1, l.length, .d (.by 5) l⟩]⟩] [0, 1, 2, 3, 4, 5, 6, 7, 8, 9, 10, 11, 12, 13, 14, 15, 16] [] [(0, 0), (0, 1), (0, 2), (0, 3), (0, 4), (0, 5), (0, 6), (0, 7), (0, 8), (0, 9), (0, 10), (0, 11), (0, 12), (0, 13), (0, 14), (0, 15), (0, 16)] 0 [0, 1, 2, 3, 8, 9, 18, 19, 20, 21, 22, 23, 24, 25, 26, 27, 28, 29, 30, 31, 32, 33, 34] [0, 1] [] [0, 1, 2, 3, 8, 9, 34] [0, 1] (s' := ⟨[(0, kH 0), (1, kI a1), (2, kI a2), (3, .c (.s (.v (.func (.func 75) #[] #[])))), (8, kI i8_1), (9, kI i9_5), (34, kB false)], [(1000000, kH 0), (1000001, kH 1)], [⟨.row, 22, 1, js.length, .p 1 dg1000000_8⟩, ⟨(.dp false), 22, 1, l.length, .d (.by 5) l⟩]⟩) (by kernel_rfl) ⟨_, (by kernel_rfl), (allP_cons.2 ⟨g2, allP_nil⟩)⟩ AllE.nil (AllR.cons ⟨_, (by kernel_rfl), allP_nil⟩ (AllR.cons ⟨_, (by kernel_rfl), allP_nil⟩ (AllR.cons ⟨_, (by kernel_rfl), allP_nil⟩ (AllR.cons ⟨_, (by kernel_rfl), (allP_cons.2 ⟨g2, allP_nil⟩)⟩ (AllR.cons ⟨_, (by kernel_rfl), allP_nil⟩ (AllR.cons ⟨_, (by kernel_rfl), allP_nil⟩ (AllR.cons ⟨_, (by kernel_rfl), allP_nil⟩ (AllR.cons ⟨_, (by kernel_rfl), allP_nil⟩ (AllR.cons ⟨_, (by kernel_rfl), allP_nil⟩ (AllR.cons ⟨_, (by kernel_rfl), allP_nil⟩ (AllR.cons ⟨_, (by kernel_rfl), allP_nil⟩ (AllR.cons ⟨_, (by kernel_rfl), allP_nil⟩ (AllR.cons ⟨_, (by kernel_rfl), allP_nil⟩ (AllR.cons ⟨_, (by kernel_rfl), allP_nil⟩ (AllR.cons ⟨_, (by kernel_rfl), allP_nil⟩ (AllR.cons ⟨_, (by kernel_rfl), allP_nil⟩ (AllR.cons ⟨_, (by kernel_rfl), allP_nil⟩ AllR.nil))))))))))))))))) (by kernel_rfl) ?_
         refine Vi (false) (fun hb => by cases hb) (fun _ => ?_)
         refine Vc [] [0, 1] ⟨[(0, kH 0), (1, kI a1), (2, kI a2), (3, .c (.s (.v (.func (.func 75) #[] #[])))), (8, kI i8_1)], [(1000000, kH 0), (1000001, kH 1)], [⟨.row, 22, 1, js.length, .p 1 dg1000000_8⟩, ⟨(.dp false), 22, 1, l.length, .d (.by 5) l⟩]⟩ (W_exit ?_)
         obtain ⟨g21, h⟩ := gd_some h
         refine Vg hT fN [] [] [0, 1] (srIns_l1_E l js a1 a2 dg1000000_8 (i8_1 + 1)) (aP g21 aN) ?_
         exact ⟨_, _, rfl, h⟩
      ·replace h := bif_f h g22
       refine Vc [] [0, 1] (srIns_R l js dg1000000_6) (W_exit ?_)
       exact ⟨.inr rfl, by cases h; rfl⟩
 ·cases ns with
  | nil => exact (show False from h).elim
  | cons a1 ns =>
   cases ns with
   | nil => exact (show False from h).elim
   | cons a2 ns =>
    cases ns with
    | cons z ns => exact (show False from h).elim
    | nil =>
     exact Nat.le_of_ble_eq_true rfl
def srSwap_l1_E (l : List (List UInt8)) (js : List Nat) (a1 : Int) (a2 : Int) (a3 : Int) (dg1000000_2 : List Nat) (i10_1 : Int) : S := ⟨[(0, kH 0), (1, kI a1), (2, kI a2), (3, kI a3), (10, kI i10_1)], [(1000000, kH 0), (1000001, kH 1)], [⟨.row, 22, 1, js.length, .p 1 dg1000000_2⟩, ⟨(.dp false), 22, 1, l.length, .d (.by 5) l⟩]⟩
abbrev srSwap_l1_P (n : Nat) (l : List (List UInt8)) (js : List Nat) (a1 : Int) (a2 : Int) (a3 : Int) (r : List Nat) (fu : Nat) : S → Prop := fun s => ∃ (dg1000000_2 : List Nat), ∃ (i10_1 : Int), s = srSwap_l1_E l js a1 a2 a3 dg1000000_2 i10_1 ∧ srSwap_l1 n l js a1 a2 a3 fu dg1000000_2 i10_1 = some r
def srSwap_R (l : List (List UInt8)) (js : List Nat) (r : List Nat) : S := ⟨[], [(1000000, kH 0), (1000001, kH 1)], [⟨.row, 22, 1, js.length, .p 1 r⟩, ⟨(.dp false), 22, 1, l.length, .d (.by 5) l⟩]⟩
def srSwap_ct (n : Nat) (r : List Nat) : CtM := rwC 75 22 (fun l js ns => match ns with | [a1, a2, a3] => srSwap n l js a1 a2 a3 = some r | _ => False) r
theorem srSwap_ok (n : Nat) (r : List Nat) : FnMOk Try.prog 92 (srSwap_ct n r) := by
 refine fnokR (e' := 5) 38 (fun l js => srSwap_R l js r) Try.func92 (fun w bs l js ns h => ?_) (fun l js ns h => ?_) (fun l js => ⟨_, rfl⟩)
 ·cases ns with
  | nil => exact (show False from h).elim
  | cons a1 ns =>
   cases ns with
   | nil => exact (show False from h).elim
   | cons a2 ns =>
    cases ns with
    | nil => exact (show False from h).elim
    | cons a3 ns =>
     cases ns with
     | cons z ns => exact (show False from h).elim
     | nil =>
      have h : srSwap n l js a1 a2 a3 = some r := h
      unfold srSwap at h
      have hT := tabO_psa
      refine Vrs hT [0, 1] ⟨[(0, kH 0), (1, kI a1), (2, kI a2), (3, kI a3), (10, kI 0)], [(1000000, kH 0), (1000001, kH 1)], [⟨.row, 22, 1, js.length, .p 1 js⟩, ⟨(.dp false), 22, 1, l.length, .d (.by 5) l⟩]⟩ ?_
      refine W_block ?_
      refine Vc [] [0, 1] (srSwap_l1_E l js a1 a2 a3 js 0) (W_lp ((srSwap_l1_P n l js a1 a2 a3 r)) n ⟨_, _, rfl, h⟩ ?_)
      rintro fu_l1 _ ⟨dg1000000_2, i10_1, rfl, h⟩
      cases fu_l1 with
      | zero => cases h
      | succ fu_l1 =>
       refine ⟨fu_l1, rfl, ?_⟩
       rw [srSwap_l1] at h
       refine W_seq ?_
       refine Vrs hT [0, 1] ⟨[(0, kH 0), (1, kI a1), (2, kI a2), (3, kI a3), (10, kI i10_1), (13, kB (decide (i10_1 < a3)))], [(1000000, kH 0), (1000001, kH 1)], [⟨.row, 22, 1, js.length, .p 1 dg1000000_2⟩, ⟨(.dp false), 22, 1, l.length, .d (.by 5) l⟩]⟩ ?_
       refine Vi ((decide (i10_1 < a3))) (fun g14 => ?_) (fun g14 => ?_)
       ·replace h := bif_t h g14
        refine Vc [] [0, 1] ⟨[(0, kH 0), (1, kI a1), (2, kI a2), (3, kI a3), (10, kI i10_1)], [(1000000, kH 0), (1000001, kH 1)], [⟨.row, 22, 1, js.length, .p 1 dg1000000_2⟩, ⟨(.dp false), 22, 1, l.length, .d (.by 5) l⟩]⟩ (W_skip ?_)
        refine W_seq ?_
        refine W_block ?_
        obtain ⟨g1, g2, g3, g4, g5, h⟩ := gd5 h
        obtain ⟨g6, g7, g8, g9, g10, h⟩ := gd5 h
        obtain ⟨g11, g12, h⟩ := gd2 h
        refine W_regG hT fN (by kernel_rfl) [] [0, 1, 2, 3, 4, 5, 6, 7, 8, 9, 10, 11, 12, 13, 14, 15, 16, 17, 18, 19, 20, 22] [[0, 1, 2, 3, 4, 5, 6, 7, 8, 9, 10, 11, 12, 13, 14, 15, 16, 17, 18, 19, 20], [0, 1, 2, 3, 4, 5, 6, 7, 8, 9, 10, 11, 12, 13, 14, 15, 16, 17, 18, 19, 20, 21, 22], [0, 1, 2, 3, 4, 5, 6, 7, 8, 9, 10, 11, 12, 13, 14, 15, 16, 17, 18, 19, 20, 21, 22, 23]] [⟨[(0, kH 0), (1, kI a1), (2, kI a2), (3, kI a3), (10, kI i10_1), (16, kH 0), (17, kI a1), (18, kI i10_1), (19, kI (a1 + i10_1)), (20, kH 0), (21, kI a2), (22, kI i10_1), (23, kI (a2 + i10_1)), (24, kH 0), (25, kI a2), (26, kI i10_1), (27, kI (a2 + i10_1)), (28, kP 0 ((a2 + i10_1).toNat)), (29, .c (.gi 1 (dg1000000_2.getD ((a2 + i10_1).toNat) 0))), (30, kH 0), (31, kI a1), (32, kI i10_1), (33, kI (a1 + i10_1)), (34, kP 0 ((a1 + i10_1).toNat)), (35, .c (.gi 1 (dg1000000_2.getD ((a1 + i10_1).toNat) 0))), (36, kP 0 ((a1 + i10_1).toNat))], [(1000000, kH 0), (1000001, kH 1)], [⟨.row, 22, 1, js.length, .p 1 dg1000000_2⟩, ⟨(.dp false), 22, 1, l.length, .d (.by 5) l⟩]⟩, ⟨[(0, kH 0), (1, kI a1), (2, kI a2), (3, kI a3), (10, kI i10_1), (20, kH 0), (21, kI a2), (22, kI i10_1), (23, kI (a2 + i10_1)), (35, .c (.gi 1 (dg1000000_2.getD ((a1 + i10_1).toNat) 0))), (37, kP 0 ((a2 + i10_1).toNat))], [(1000000, kH 0), (1000001, kH 1)], [⟨.row, 22, 1, js.length, .p 1 (dg1000000_2.set ((a1 + i10_1).toNat) (dg1000000_2.getD ((a2 + i10_1).toNat) 0))⟩, ⟨(.dp false), 22, 1, l.length, .d (.by 5) l⟩]⟩, ⟨[(0, kH 0), (1, kI a1), (2, kI a2), (3, kI a3), (10, kI i10_1)], [(1000000, kH 0), (1000001, kH 1)], [⟨.row, 22, 1, js.length, .p 1 ((dg1000000_2.set ((a1 + i10_1).toNat) (dg1000000_2.getD ((a2 + i10_1).toNat) 0)).set ((a2 + i10_1).toNat) (dg1000000_2.getD ((a1 + i10_1).toNat) 0))⟩, ⟨(.dp false), 22, 1, l.length, .d (.by 5) l⟩]⟩] [0, 1, 2, 3, 4, 5, 6, 7, 8, 9, 10, 11, 12, 13, 14, 15, 16, 17, 18, 19, 20] [⟨0, 21, 1, [22], [], [0, 1, 2, 3, 10, 20, 21, 22, 23, 35, 37], [0, 1]⟩, ⟨1, 23, 2, [], [], [0, 1, 2, 3, 10], [0, 1]⟩] [(0, 0), (0, 1), (0, 2), (0, 3), (0, 4), (0, 5), (0, 6), (0, 7), (0, 8), (0, 9), (0, 10), (0, 11), (0, 12), (0, 13), (0, 14), (0, 15), (0, 16), (0, 17), (0, 18), (0, 19), (0, 20), (1, 4), (1, 5), (1, 6), (1, 7), (1, 22)] 2 [0, 1, 2, 3, 10, 16, 17, 18, 19, 20, 21, 22, 23, 24, 25, 26, 27, 28, 29, 30, 31, 32, 33, 34, 35, 36] [0, 1] [] [0, 1, 2, 3, 10] [0, 1] (s' := ⟨[(0, kH 0), (1, kI a1), (2, kI a2), (3, kI a3), (10, kI i10_1)], [(1000000, kH 0), (1000001, kH 1)], [⟨.row, 22, 1, js.length, .p 1 ((dg1000000_2.set ((a1 + i10_1).toNat) (dg1000000_2.getD ((a2 + i10_1).toNat) 0)).set ((a2 + i10_1).toNat) (dg1000000_2.getD ((a1 + i10_1).toNat) 0))⟩, ⟨(.dp false), 22, 1, l.length, .d (.by 5) l⟩]⟩) (by kernel_rfl) ⟨_, (by kernel_rfl), (allP_cons.2 ⟨g1, (allP_cons.2 ⟨g2, (allP_cons.2 ⟨g3, (allP_cons.2 ⟨g4, (allP_cons.2 ⟨g5, (allP_cons.2 ⟨g6, (allP_cons.2 ⟨g7, (allP_cons.2 ⟨g8, (allP_cons.2 ⟨g9, (allP_cons.2 ⟨g10, allP_nil⟩)⟩)⟩)⟩)⟩)⟩)⟩)⟩)⟩)⟩)⟩ (AllE.cons ⟨_, (by kernel_rfl), (allP_cons.2 ⟨g11, (allP_cons.2 ⟨g12, allP_nil⟩)⟩)⟩ (AllE.cons ⟨_, (by kernel_rfl), allP_nil⟩ AllE.nil)) (AllR.cons ⟨_, (by kernel_rfl), allP_nil⟩ (AllR.cons ⟨_, (by kernel_rfl), allP_nil⟩ (AllR.cons ⟨_, (by kernel_rfl), allP_nil⟩ (AllR.cons ⟨_, (by kernel_rfl), (allP_cons.2 ⟨g1, allP_nil⟩)⟩ (AllR.cons ⟨_, (by kernel_rfl), allP_nil⟩ (AllR.cons ⟨_, (by kernel_rfl), allP_nil⟩ (AllR.cons ⟨_, (by kernel_rfl), allP_nil⟩ (AllR.cons ⟨_, (by kernel_rfl), (allP_cons.2 ⟨g2, allP_nil⟩)⟩ (AllR.cons ⟨_, (by kernel_rfl), allP_nil⟩ (AllR.cons ⟨_, (by kernel_rfl), allP_nil⟩ (AllR.cons ⟨_, (by kernel_rfl), allP_nil⟩ (AllR.cons ⟨_, (by kernel_rfl), (allP_cons.2 ⟨g3, allP_nil⟩)⟩ (AllR.cons ⟨_, (by kernel_rfl), (allP_cons.2 ⟨g4, (allP_cons.2 ⟨g5, allP_nil⟩)⟩)⟩ (AllR.cons ⟨_, (by kernel_rfl), allP_nil⟩ (AllR.cons ⟨_, (by kernel_rfl), allP_nil⟩ (AllR.cons ⟨_, (by kernel_rfl), allP_nil⟩ (AllR.cons ⟨_, (by kernel_rfl), allP_nil⟩ (AllR.cons ⟨_, (by kernel_rfl), (allP_cons.2 ⟨g6, allP_nil⟩)⟩ (AllR.cons ⟨_, (by kernel_rfl), (allP_cons.2 ⟨g7, (allP_cons.2 ⟨g8, allP_nil⟩)⟩)⟩ (AllR.cons ⟨_, (by kernel_rfl), allP_nil⟩ (AllR.cons ⟨_, (by kernel_rfl), (allP_cons.2 ⟨g9, (allP_cons.2 ⟨g10, allP_nil⟩)⟩)⟩ (AllR.cons ⟨_, (by kernel_rfl), allP_nil⟩ (AllR.cons ⟨_, (by kernel_rfl), allP_nil⟩ (AllR.cons ⟨_, (by kernel_rfl), allP_nil⟩ (AllR.cons ⟨_, (by kernel_rfl), (allP_cons.2 ⟨g2, allP_nil⟩)⟩ (AllR.cons ⟨_, (by kernel_rfl), (allP_cons.2 ⟨g11, (allP_cons.2 ⟨g12, allP_nil⟩)⟩)⟩ AllR.nil)))))))))))))))))))))))))) (by kernel_rfl) ?_
        obtain ⟨g13, h⟩ := gd_some h
        refine Vg hT fN [] [] [0, 1] (srSwap_l1_E l js a1 a2 a3 ((dg1000000_2.set ((a1 + i10_1).toNat) (dg1000000_2.getD ((a2 + i10_1).toNat) 0)).set ((a2 + i10_1).toNat) (dg1000000_2.getD ((a1 + i10_1).toNat) 0)) (i10_1 + 1)) (aP g13 aN) ?_
        exact ⟨_, _, rfl, h⟩
       ·replace h := bif_f h g14
        refine Vc [] [0, 1] (srSwap_R l js dg1000000_2) (W_exit ?_)
        exact ⟨.inr rfl, by cases h; rfl⟩
 ·cases ns with
  | nil => exact (show False from h).elim
  | cons a1 ns =>
   cases ns with
   | nil => exact (show False from h).elim
   | cons a2 ns =>
    cases ns with
    | nil => exact (show False from h).elim
    | cons a3 ns =>
     cases ns with
     | cons z ns => exact (show False from h).elim
     | nil =>
      exact Nat.le_of_ble_eq_true rfl
def srRot_j1_E (l : List (List UInt8)) (js : List Nat) (a2 : Int) (dg1000000_5 : List Nat) (i10_4 : Int) : S := ⟨[(0, kH 0), (2, kI a2), (4, .c (.s (.v (.func (.func 75) #[] #[])))), (10, kI i10_4)], [(1000000, kH 0), (1000001, kH 1)], [⟨.row, 22, 1, js.length, .p 1 dg1000000_5⟩, ⟨(.dp false), 22, 1, l.length, .d (.by 5) l⟩]⟩
abbrev srRot_j1_P (n : Nat) (l : List (List UInt8)) (js : List Nat) (a2 : Int) (r : List Nat) : S → Prop := fun s => ∃ (dg1000000_5 : List Nat), ∃ (i10_4 : Int), s = srRot_j1_E l js a2 dg1000000_5 i10_4 ∧ srRot_j1 n l js a2 dg1000000_5 i10_4 = some r
def srRot_l1_E (l : List (List UInt8)) (js : List Nat) (a2 : Int) (dg1000000_6 : List Nat) (i10_5 : Int) (i11_3 : Int) : S := ⟨[(0, kH 0), (2, kI a2), (4, .c (.s (.v (.func (.func 75) #[] #[])))), (10, kI i10_5), (11, kI i11_3)], [(1000000, kH 0), (1000001, kH 1)], [⟨.row, 22, 1, js.length, .p 1 dg1000000_6⟩, ⟨(.dp false), 22, 1, l.length, .d (.by 5) l⟩]⟩
abbrev srRot_l1_P (n : Nat) (l : List (List UInt8)) (js : List Nat) (a2 : Int) (r : List Nat) (fu : Nat) : S → Prop := fun s => ∃ (dg1000000_6 : List Nat), ∃ (i10_5 : Int), ∃ (i11_3 : Int), s = srRot_l1_E l js a2 dg1000000_6 i10_5 i11_3 ∧ srRot_l1 n l js a2 fu dg1000000_6 i10_5 i11_3 = some r
def srRot_R (l : List (List UInt8)) (js : List Nat) (r : List Nat) : S := ⟨[], [(1000000, kH 0), (1000001, kH 1)], [⟨.row, 22, 1, js.length, .p 1 r⟩, ⟨(.dp false), 22, 1, l.length, .d (.by 5) l⟩]⟩
def srRot_ct (n : Nat) (r : List Nat) : CtM := rwC 75 22 (fun l js ns => match ns with | [a1, a2, a3] => srRot n l js a1 a2 a3 = some r | _ => False) r
theorem srRot_ok (n : Nat) (r : List Nat) : FnMOk Try.prog 91 (srRot_ct n r) := by
 refine fnokR (e' := 5) 58 (fun l js => srRot_R l js r) Try.func91 (fun w bs l js ns h => ?_) (fun l js ns h => ?_) (fun l js => ⟨_, rfl⟩)
 ·cases ns with
  | nil => exact (show False from h).elim
  | cons a1 ns =>
   cases ns with
   | nil => exact (show False from h).elim
   | cons a2 ns =>
    cases ns with
    | nil => exact (show False from h).elim
    | cons a3 ns =>
     cases ns with
     | cons z ns => exact (show False from h).elim
     | nil =>
      have h : srRot n l js a1 a2 a3 = some r := h
      unfold srRot at h
      have hT := tabO_psa
      obtain ⟨g1, h⟩ := gd_some h
      refine Vgs hT fN [] [] [0, 1] ⟨[(0, kH 0), (2, kI a2), (3, kI a3), (4, .c (.s (.v (.func (.func 75) #[] #[])))), (10, kI (a2 - a1))], [(1000000, kH 0), (1000001, kH 1)], [⟨.row, 22, 1, js.length, .p 1 js⟩, ⟨(.dp false), 22, 1, l.length, .d (.by 5) l⟩]⟩ (aP g1 aN) ?_
      obtain ⟨g2, h⟩ := gd_some h
      refine Vgs hT fN [] [] [0, 1] ⟨[(0, kH 0), (2, kI a2), (4, .c (.s (.v (.func (.func 75) #[] #[])))), (10, kI (a2 - a1)), (11, kI (a3 - a2))], [(1000000, kH 0), (1000001, kH 1)], [⟨.row, 22, 1, js.length, .p 1 js⟩, ⟨(.dp false), 22, 1, l.length, .d (.by 5) l⟩]⟩ (aP g2 aN) ?_
      refine W_join (srRot_j1_P n l js a2 r) ?_ ?_
      ·rintro _ ⟨dg1000000_5, i10_4, rfl, h⟩
       unfold srRot_j1 at h
       obtain ⟨g3, h⟩ := gd_some h
       obtain ⟨r57_1, g4, h⟩ := bind_some' h
       refine Vg hT (fM 7 (srSwap_ok n r57_1) fN) [] [] [0, 1] (srRot_R l js r57_1) (aP g3 (aP g4 aN)) ?_
       exact ⟨.inr rfl, by cases h; rfl⟩
      ·refine W_block ?_
       refine Vc [] [0, 1] (srRot_l1_E l js a2 js (a2 - a1) (a3 - a2)) (W_lp ((srRot_l1_P n l js a2 r)) n ⟨_, _, _, rfl, h⟩ ?_)
       rintro fu_l1 _ ⟨dg1000000_6, i10_5, i11_3, rfl, h⟩
       cases fu_l1 with
       | zero => cases h
       | succ fu_l1 =>
        refine ⟨fu_l1, rfl, ?_⟩
        rw [srRot_l1] at h
        refine W_seq ?_
        refine Vrs hT [0, 1] ⟨[(0, kH 0), (2, kI a2), (4, .c (.s (.v (.func (.func 75) #[] #[])))), (10, kI i10_5), (11, kI i11_3), (20, kB (i10_5 != i11_3))], [(1000000, kH 0), (1000001, kH 1)], [⟨.row, 22, 1, js.length, .p 1 dg1000000_6⟩, ⟨(.dp false), 22, 1, l.length, .d (.by 5) l⟩]⟩ ?_
        refine Vi ((i10_5 != i11_3)) (fun g14 => ?_) (fun g14 => ?_)
        ·replace h := bif_t h g14
         refine W_skip ?_
         refine W_block ?_
         refine Vrs hT [0, 1] ⟨[(0, kH 0), (2, kI a2), (4, .c (.s (.v (.func (.func 75) #[] #[])))), (10, kI i10_5), (11, kI i11_3), (23, kB (decide (i11_3 < i10_5)))], [(1000000, kH 0), (1000001, kH 1)], [⟨.row, 22, 1, js.length, .p 1 dg1000000_6⟩, ⟨(.dp false), 22, 1, l.length, .d (.by 5) l⟩]⟩ ?_
         refine Vi ((decide (i11_3 < i10_5))) (fun g13 => ?_) (fun g13 => ?_)
         ·replace h := bif_t h g13
          obtain ⟨g5, h⟩ := gd_some h
          obtain ⟨r31_4, g6, h⟩ := bind_some' h
          refine Vgs hT (fM 7 (srSwap_ok n r31_4) fN) [] [] [0, 1] ⟨[(0, kH 0), (2, kI a2), (4, .c (.s (.v (.func (.func 75) #[] #[])))), (10, kI i10_5), (11, kI i11_3)], [(1000000, kH 0), (1000001, kH 1)], [⟨.row, 22, 1, js.length, .p 1 r31_4⟩, ⟨(.dp false), 22, 1, l.length, .d (.by 5) l⟩]⟩ (aP g5 (aP g6 aN)) ?_
          obtain ⟨g7, h⟩ := gd_some h
          refine Vg hT fN [] [] [0, 1] (srRot_l1_E l js a2 r31_4 (i10_5 - i11_3) i11_3) (aP g7 aN) ?_
          exact ⟨_, _, _, rfl, h⟩
         ·replace h := bif_f h g13
          obtain ⟨g8, g9, g10, h⟩ := gd3 h
          obtain ⟨r46_4, g11, h⟩ := bind_some' h
          refine Vgs hT (fM 11 (srSwap_ok n r46_4) fN) [] [] [0, 1] ⟨[(0, kH 0), (2, kI a2), (4, .c (.s (.v (.func (.func 75) #[] #[])))), (10, kI i10_5), (11, kI i11_3)], [(1000000, kH 0), (1000001, kH 1)], [⟨.row, 22, 1, js.length, .p 1 r46_4⟩, ⟨(.dp false), 22, 1, l.length, .d (.by 5) l⟩]⟩ (aP g8 (aP g9 (aP g10 (aP g11 aN)))) ?_
          obtain ⟨g12, h⟩ := gd_some h
          refine Vg hT fN [] [] [0, 1] (srRot_l1_E l js a2 r46_4 i10_5 (i11_3 - i10_5)) (aP g12 aN) ?_
          exact ⟨_, _, _, rfl, h⟩
        ·replace h := bif_f h g14
         refine Vc [] [0, 1] (srRot_j1_E l js a2 dg1000000_6 i10_5) (W_exit ?_)
         exact ⟨_, _, rfl, h⟩
 ·cases ns with
  | nil => exact (show False from h).elim
  | cons a1 ns =>
   cases ns with
   | nil => exact (show False from h).elim
   | cons a2 ns =>
    cases ns with
    | nil => exact (show False from h).elim
    | cons a3 ns =>
     cases ns with
     | cons z ns => exact (show False from h).elim
     | nil =>
      exact Nat.le_of_ble_eq_true rfl
def srMerge_l1_E (l : List (List UInt8)) (js : List Nat) (i10_4 : Int) (dg1000000_5 : List Nat) (i13_1 : Int) : S := ⟨[(0, kH 0), (10, kI i10_4), (13, kI i13_1)], [(1000000, kH 0), (1000001, kH 1)], [⟨.row, 22, 1, js.length, .p 1 dg1000000_5⟩, ⟨(.dp false), 22, 1, l.length, .d (.by 5) l⟩]⟩
abbrev srMerge_l1_P (n : Nat) (l : List (List UInt8)) (js : List Nat) (i10_4 : Int) (r : List Nat) (fu : Nat) : S → Prop := fun s => ∃ (dg1000000_5 : List Nat), ∃ (i13_1 : Int), s = srMerge_l1_E l js i10_4 dg1000000_5 i13_1 ∧ srMerge_l1 n (srMerge n) l js i10_4 fu dg1000000_5 i13_1 = some r
def srMerge_j1_E (l : List (List UInt8)) (js : List Nat) (a1 : Int) (i10_4 : Int) : S := ⟨[(0, kH 0), (1, kI a1), (10, kI i10_4)], [(1000000, kH 0), (1000001, kH 1)], [⟨.row, 22, 1, js.length, .p 1 js⟩, ⟨(.dp false), 22, 1, l.length, .d (.by 5) l⟩]⟩
abbrev srMerge_j1_P (n : Nat) (l : List (List UInt8)) (js : List Nat) (a1 : Int) (r : List Nat) : S → Prop := fun s => ∃ (i10_4 : Int), s = srMerge_j1_E l js a1 i10_4 ∧ srMerge_j1 n (srMerge n) l js a1 i10_4 = some r
def srMerge_l2_E (l : List (List UInt8)) (js : List Nat) (a1 : Int) (i10_5 : Int) (i11_3 : Int) : S := ⟨[(0, kH 0), (1, kI a1), (4, .c (.s (.v (.func (.func 75) #[] #[])))), (10, kI i10_5), (11, kI i11_3)], [(1000000, kH 0), (1000001, kH 1)], [⟨.row, 22, 1, js.length, .p 1 js⟩, ⟨(.dp false), 22, 1, l.length, .d (.by 5) l⟩]⟩
abbrev srMerge_l2_P (n : Nat) (l : List (List UInt8)) (js : List Nat) (a1 : Int) (r : List Nat) (fu : Nat) : S → Prop := fun s => ∃ (i10_5 : Int), ∃ (i11_3 : Int), s = srMerge_l2_E l js a1 i10_5 i11_3 ∧ srMerge_l2 n (srMerge n) l js a1 fu i10_5 i11_3 = some r
def srMerge_l3_E (l : List (List UInt8)) (js : List Nat) (i14_4 : Int) (dg1000000_6 : List Nat) (i17_1 : Int) : S := ⟨[(0, kH 0), (14, kI i14_4), (17, kI i17_1)], [(1000000, kH 0), (1000001, kH 1)], [⟨.row, 22, 1, js.length, .p 1 dg1000000_6⟩, ⟨(.dp false), 22, 1, l.length, .d (.by 5) l⟩]⟩
abbrev srMerge_l3_P (n : Nat) (l : List (List UInt8)) (js : List Nat) (i14_4 : Int) (r : List Nat) (fu : Nat) : S → Prop := fun s => ∃ (dg1000000_6 : List Nat), ∃ (i17_1 : Int), s = srMerge_l3_E l js i14_4 dg1000000_6 i17_1 ∧ srMerge_l3 n (srMerge n) l js i14_4 fu dg1000000_6 i17_1 = some r
def srMerge_j2_E (l : List (List UInt8)) (js : List Nat) (a2 : Int) (i14_4 : Int) : S := ⟨[(0, kH 0), (2, kI a2), (14, kI i14_4)], [(1000000, kH 0), (1000001, kH 1)], [⟨.row, 22, 1, js.length, .p 1 js⟩, ⟨(.dp false), 22, 1, l.length, .d (.by 5) l⟩]⟩
abbrev srMerge_j2_P (n : Nat) (l : List (List UInt8)) (js : List Nat) (a2 : Int) (r : List Nat) : S → Prop := fun s => ∃ (i14_4 : Int), s = srMerge_j2_E l js a2 i14_4 ∧ srMerge_j2 n (srMerge n) l js a2 i14_4 = some r
def srMerge_l4_E (l : List (List UInt8)) (js : List Nat) (a2 : Int) (i14_5 : Int) (i15_3 : Int) : S := ⟨[(0, kH 0), (2, kI a2), (4, .c (.s (.v (.func (.func 75) #[] #[])))), (14, kI i14_5), (15, kI i15_3)], [(1000000, kH 0), (1000001, kH 1)], [⟨.row, 22, 1, js.length, .p 1 js⟩, ⟨(.dp false), 22, 1, l.length, .d (.by 5) l⟩]⟩
abbrev srMerge_l4_P (n : Nat) (l : List (List UInt8)) (js : List Nat) (a2 : Int) (r : List Nat) (fu : Nat) : S → Prop := fun s => ∃ (i14_5 : Int), ∃ (i15_3 : Int), s = srMerge_l4_E l js a2 i14_5 i15_3 ∧ srMerge_l4 n (srMerge n) l js a2 fu i14_5 i15_3 = some r
def srMerge_j6_E (l : List (List UInt8)) (js : List Nat) (a1 : Int) (a2 : Int) (a3 : Int) (i20_6 : Int) (dg1000000_8 : List Nat) : S := ⟨[(0, kH 0), (3, kI a3), (4, .c (.s (.v (.func (.func 75) #[] #[])))), (18, kI (IntKind.i64.wrap (((shr64 (UInt64.ofInt (a1 + a3)) 1).toNat : Nat) : Int))), (24, kI (((IntKind.i64.wrap (((shr64 (UInt64.ofInt (a1 + a3)) 1).toNat : Nat) : Int)) + a2) - i20_6))], [(1000000, kH 0), (1000001, kH 1)], [⟨.row, 22, 1, js.length, .p 1 dg1000000_8⟩, ⟨(.dp false), 22, 1, l.length, .d (.by 5) l⟩]⟩
abbrev srMerge_j6_P (n : Nat) (l : List (List UInt8)) (js : List Nat) (a1 : Int) (a2 : Int) (a3 : Int) (i20_6 : Int) (r : List Nat) : S → Prop := fun s => ∃ (dg1000000_8 : List Nat), s = srMerge_j6_E l js a1 a2 a3 i20_6 dg1000000_8 ∧ srMerge_j6 n (srMerge n) l js a1 a2 a3 i20_6 dg1000000_8 = some r
def srMerge_j5_E (l : List (List UInt8)) (js : List Nat) (a1 : Int) (a2 : Int) (a3 : Int) (i20_6 : Int) (dg1000000_7 : List Nat) : S := ⟨[(0, kH 0), (1, kI a1), (3, kI a3), (4, .c (.s (.v (.func (.func 75) #[] #[])))), (18, kI (IntKind.i64.wrap (((shr64 (UInt64.ofInt (a1 + a3)) 1).toNat : Nat) : Int))), (20, kI i20_6), (24, kI (((IntKind.i64.wrap (((shr64 (UInt64.ofInt (a1 + a3)) 1).toNat : Nat) : Int)) + a2) - i20_6))], [(1000000, kH 0), (1000001, kH 1)], [⟨.row, 22, 1, js.length, .p 1 dg1000000_7⟩, ⟨(.dp false), 22, 1, l.length, .d (.by 5) l⟩]⟩
abbrev srMerge_j5_P (n : Nat) (l : List (List UInt8)) (js : List Nat) (a1 : Int) (a2 : Int) (a3 : Int) (i20_6 : Int) (r : List Nat) : S → Prop := fun s => ∃ (dg1000000_7 : List Nat), s = srMerge_j5_E l js a1 a2 a3 i20_6 dg1000000_7 ∧ srMerge_j5 n (srMerge n) l js a1 a2 a3 i20_6 dg1000000_7 = some r
def srMerge_j4_E (l : List (List UInt8)) (js : List Nat) (a1 : Int) (a2 : Int) (a3 : Int) (i20_6 : Int) : S := ⟨[(0, kH 0), (1, kI a1), (2, kI a2), (3, kI a3), (4, .c (.s (.v (.func (.func 75) #[] #[])))), (18, kI (IntKind.i64.wrap (((shr64 (UInt64.ofInt (a1 + a3)) 1).toNat : Nat) : Int))), (19, kI ((IntKind.i64.wrap (((shr64 (UInt64.ofInt (a1 + a3)) 1).toNat : Nat) : Int)) + a2)), (20, kI i20_6)], [(1000000, kH 0), (1000001, kH 1)], [⟨.row, 22, 1, js.length, .p 1 js⟩, ⟨(.dp false), 22, 1, l.length, .d (.by 5) l⟩]⟩
abbrev srMerge_j4_P (n : Nat) (l : List (List UInt8)) (js : List Nat) (a1 : Int) (a2 : Int) (a3 : Int) (r : List Nat) : S → Prop := fun s => ∃ (i20_6 : Int), s = srMerge_j4_E l js a1 a2 a3 i20_6 ∧ srMerge_j4 n (srMerge n) l js a1 a2 a3 i20_6 = some r
def srMerge_l5_E (l : List (List UInt8)) (js : List Nat) (a1 : Int) (a2 : Int) (a3 : Int) (i20_7 : Int) (i21_5 : Int) : S := ⟨[(0, kH 0), (1, kI a1), (2, kI a2), (3, kI a3), (4, .c (.s (.v (.func (.func 75) #[] #[])))), (18, kI (IntKind.i64.wrap (((shr64 (UInt64.ofInt (a1 + a3)) 1).toNat : Nat) : Int))), (19, kI ((IntKind.i64.wrap (((shr64 (UInt64.ofInt (a1 + a3)) 1).toNat : Nat) : Int)) + a2)), (20, kI i20_7), (21, kI i21_5), (22, kI (((IntKind.i64.wrap (((shr64 (UInt64.ofInt (a1 + a3)) 1).toNat : Nat) : Int)) + a2) - 1))], [(1000000, kH 0), (1000001, kH 1)], [⟨.row, 22, 1, js.length, .p 1 js⟩, ⟨(.dp false), 22, 1, l.length, .d (.by 5) l⟩]⟩
abbrev srMerge_l5_P (n : Nat) (l : List (List UInt8)) (js : List Nat) (a1 : Int) (a2 : Int) (a3 : Int) (r : List Nat) (fu : Nat) : S → Prop := fun s => ∃ (i20_7 : Int), ∃ (i21_5 : Int), s = srMerge_l5_E l js a1 a2 a3 i20_7 i21_5 ∧ srMerge_l5 n (srMerge n) l js a1 a2 a3 fu i20_7 i21_5 = some r
def srMerge_j3_E (l : List (List UInt8)) (js : List Nat) (a1 : Int) (a2 : Int) (a3 : Int) (i20_4 : Int) (i21_3 : Int) : S := ⟨[(0, kH 0), (1, kI a1), (2, kI a2), (3, kI a3), (4, .c (.s (.v (.func (.func 75) #[] #[])))), (18, kI (IntKind.i64.wrap (((shr64 (UInt64.ofInt (a1 + a3)) 1).toNat : Nat) : Int))), (19, kI ((IntKind.i64.wrap (((shr64 (UInt64.ofInt (a1 + a3)) 1).toNat : Nat) : Int)) + a2)), (20, kI i20_4), (21, kI i21_3)], [(1000000, kH 0), (1000001, kH 1)], [⟨.row, 22, 1, js.length, .p 1 js⟩, ⟨(.dp false), 22, 1, l.length, .d (.by 5) l⟩]⟩
abbrev srMerge_j3_P (n : Nat) (l : List (List UInt8)) (js : List Nat) (a1 : Int) (a2 : Int) (a3 : Int) (r : List Nat) : S → Prop := fun s => ∃ (i20_4 : Int), ∃ (i21_3 : Int), s = srMerge_j3_E l js a1 a2 a3 i20_4 i21_3 ∧ srMerge_j3 n (srMerge n) l js a1 a2 a3 i20_4 i21_3 = some r
def srMerge_R (l : List (List UInt8)) (js : List Nat) (r : List Nat) : S := ⟨[], [(1000000, kH 0), (1000001, kH 1)], [⟨.row, 22, 1, js.length, .p 1 r⟩, ⟨(.dp false), 22, 1, l.length, .d (.by 5) l⟩]⟩
def srMerge_ct (n : Nat) (r : List Nat) : CtM := rwC 75 22 (fun l js ns => match ns with | [a1, a2, a3] => srMerge n l js a1 a2 a3 = some r | _ => False) r
theorem srMerge_ok (n : Nat) : ∀ r : List Nat, FnMOk Try.prog 89 (srMerge_ct n r) := by
 induction n with
 | zero =>
  intro r
  refine fnokR (e' := 5) 220 (fun l js => srMerge_R l js r) Try.func89 (fun w bs l js ns h => ?_) (fun l js ns h => ?_) (fun l js => ⟨_, rfl⟩)
  ·cases ns with
   | nil => exact (show False from h).elim
   | cons a1 ns =>
    cases ns with
    | nil => exact (show False from h).elim
    | cons a2 ns =>
     cases ns with
     | nil => exact (show False from h).elim
     | cons a3 ns =>
      cases ns with
      | cons z ns => exact (show False from h).elim
      | nil =>
       cases h
  ·cases ns with
   | nil => exact (show False from h).elim
   | cons a1 ns =>
    cases ns with
    | nil => exact (show False from h).elim
    | cons a2 ns =>
     cases ns with
     | nil => exact (show False from h).elim
     | cons a3 ns =>
      cases ns with
      | cons z ns => exact (show False from h).elim
      | nil =>
       cases h
 | succ n ih =>
  intro r
  refine fnokR (e' := 5) 220 (fun l js => srMerge_R l js r) Try.func89 (fun w bs l js ns h => ?_) (fun l js ns h => ?_) (fun l js => ⟨_, rfl⟩)
  ·cases ns with
   | nil => exact (show False from h).elim
   | cons a1 ns =>
    cases ns with
    | nil => exact (show False from h).elim
    | cons a2 ns =>
     cases ns with
     | nil => exact (show False from h).elim
     | cons a3 ns =>
      cases ns with
      | cons z ns => exact (show False from h).elim
      | nil =>
       have h : srMerge (n + 1) l js a1 a2 a3 = some r := h
       unfold srMerge at h
       have hT := tabO_psa
       refine W_seq ?_
       obtain ⟨g1, h⟩ := gd_some h
       refine Vgs hT fN [] [] [0, 1] ⟨[(0, kH 0), (1, kI a1), (2, kI a2), (3, kI a3), (4, .c (.s (.v (.func (.func 75) #[] #[])))), (28, kB ((a2 - a1) == 1))], [(1000000, kH 0), (1000001, kH 1)], [⟨.row, 22, 1, js.length, .p 1 js⟩, ⟨(.dp false), 22, 1, l.length, .d (.by 5) l⟩]⟩ (aP g1 aN) ?_
       refine Vi (((a2 - a1) == 1)) (fun g73 => ?_) (fun g73 => ?_)
       ·replace h := bif_t h g73
        refine Vrs hT [0, 1] ⟨[(0, kH 0), (1, kI a1), (3, kI a3), (4, .c (.s (.v (.func (.func 75) #[] #[])))), (10, kI a2)], [(1000000, kH 0), (1000001, kH 1)], [⟨.row, 22, 1, js.length, .p 1 js⟩, ⟨(.dp false), 22, 1, l.length, .d (.by 5) l⟩]⟩ ?_
        refine Vrs hT [0, 1] ⟨[(0, kH 0), (1, kI a1), (4, .c (.s (.v (.func (.func 75) #[] #[])))), (10, kI a2), (11, kI a3)], [(1000000, kH 0), (1000001, kH 1)], [⟨.row, 22, 1, js.length, .p 1 js⟩, ⟨(.dp false), 22, 1, l.length, .d (.by 5) l⟩]⟩ ?_
        refine W_join (srMerge_j1_P n l js a1 r) ?_ ?_
        ·rintro _ ⟨i10_4, rfl, h⟩
         unfold srMerge_j1 at h
         refine W_seq ?_
         refine Vrs hT [0, 1] ⟨[(0, kH 0), (10, kI i10_4), (13, kI a1)], [(1000000, kH 0), (1000001, kH 1)], [⟨.row, 22, 1, js.length, .p 1 js⟩, ⟨(.dp false), 22, 1, l.length, .d (.by 5) l⟩]⟩ ?_
         refine W_block ?_
         refine Vc [] [0, 1] (srMerge_l1_E l js i10_4 js a1) (W_lp ((srMerge_l1_P n l js i10_4 r)) n ⟨_, _, rfl, h⟩ ?_)
         rintro fu_l1 _ ⟨dg1000000_5, i13_1, rfl, h⟩
         cases fu_l1 with
         | zero => cases h
         | succ fu_l1 =>
          refine ⟨fu_l1, rfl, ?_⟩
          rw [srMerge_l1] at h
          refine W_seq ?_
          obtain ⟨g2, h⟩ := gd_some h
          refine Vgs hT fN [] [] [0, 1] ⟨[(0, kH 0), (10, kI i10_4), (13, kI i13_1), (58, kB (decide (i13_1 < (i10_4 - 1))))], [(1000000, kH 0), (1000001, kH 1)], [⟨.row, 22, 1, js.length, .p 1 dg1000000_5⟩, ⟨(.dp false), 22, 1, l.length, .d (.by 5) l⟩]⟩ (aP g2 aN) ?_
          refine Vi ((decide (i13_1 < (i10_4 - 1)))) (fun g14 => ?_) (fun g14 => ?_)
          ·replace h := bif_t h g14
           refine Vc [] [0, 1] ⟨[(0, kH 0), (10, kI i10_4), (13, kI i13_1)], [(1000000, kH 0), (1000001, kH 1)], [⟨.row, 22, 1, js.length, .p 1 dg1000000_5⟩, ⟨(.dp false), 22, 1, l.length, .d (.by 5) l⟩]⟩ (W_skip ?_)
           refine W_seq ?_
           refine W_block ?_
           obtain ⟨g3, g4, g5, g6, g7, h⟩ := gd5 h
           obtain ⟨g8, g9, g10, g11, g12, h⟩ := gd5 h
           refine W_regG hT fN (by kernel_rfl) [] [0, 1, 2, 3, 4, 5, 6, 7, 8, 9, 10, 11, 12, 13, 14, 16] [[0, 1, 2, 3, 4, 5, 6, 7, 8, 9, 10, 11, 12, 13, 14], [0, 1, 2, 3, 4, 5, 6, 7, 8, 9, 10, 11, 12, 13, 14, 15, 16], [0, 1, 2, 3, 4, 5, 6, 7, 8, 9, 10, 11, 12, 13, 14, 15, 16, 17]] [⟨[(0, kH 0), (10, kI i10_4), (13, kI i13_1), (61, kH 0), (62, kI i13_1), (63, kH 0), (64, kI i13_1), (65, kI (i13_1 + 1)), (66, kH 0), (67, kI i13_1), (68, kI (i13_1 + 1)), (69, kP 0 ((i13_1 + 1).toNat)), (70, .c (.gi 1 (dg1000000_5.getD ((i13_1 + 1).toNat) 0))), (71, kH 0), (72, kI i13_1), (73, kP 0 i13_1.toNat), (74, .c (.gi 1 (dg1000000_5.getD i13_1.toNat 0))), (75, kP 0 i13_1.toNat)], [(1000000, kH 0), (1000001, kH 1)], [⟨.row, 22, 1, js.length, .p 1 dg1000000_5⟩, ⟨(.dp false), 22, 1, l.length, .d (.by 5) l⟩]⟩, ⟨[(0, kH 0), (10, kI i10_4), (13, kI i13_1), (63, kH 0), (64, kI i13_1), (65, kI (i13_1 + 1)), (74, .c (.gi 1 (dg1000000_5.getD i13_1.toNat 0))), (76, kP 0 ((i13_1 + 1).toNat))], [(1000000, kH 0), (1000001, kH 1)], [⟨.row, 22, 1, js.length, .p 1 (dg1000000_5.set i13_1.toNat (dg1000000_5.getD ((i13_1 + 1).toNat) 0))⟩, ⟨(.dp false), 22, 1, l.length, .d (.by 5) l⟩]⟩, ⟨[(0, kH 0), (10, kI i10_4), (13, kI i13_1)], [(1000000, kH 0), (1000001, kH 1)], [⟨.row, 22, 1, js.length, .p 1 ((dg1000000_5.set i13_1.toNat (dg1000000_5.getD ((i13_1 + 1).toNat) 0)).set ((i13_1 + 1).toNat) (dg1000000_5.getD i13_1.toNat 0))⟩, ⟨(.dp false), 22, 1, l.length, .d (.by 5) l⟩]⟩] [0, 1, 2, 3, 4, 5, 6, 7, 8, 9, 10, 11, 12, 13, 14] [⟨0, 15, 1, [16], [], [0, 10, 13, 63, 64, 65, 74, 76], [0, 1]⟩, ⟨1, 17, 2, [], [], [0, 10, 13], [0, 1]⟩] [(0, 0), (0, 1), (0, 2), (0, 3), (0, 4), (0, 5), (0, 6), (0, 7), (0, 8), (0, 9), (0, 10), (0, 11), (0, 12), (0, 13), (0, 14), (1, 2), (1, 3), (1, 4), (1, 16)] 2 [0, 10, 13, 61, 62, 63, 64, 65, 66, 67, 68, 69, 70, 71, 72, 73, 74, 75] [0, 1] [] [0, 10, 13] [0, 1] (s' := ⟨[(0, kH 0), (10, kI i10_4), (13, kI i13_1)], [(1000000, kH 0), (1000001, kH 1)], [⟨.row, 22, 1, js.length, .p 1 ((dg1000000_5.set i13_1.toNat (dg1000000_5.getD ((i13_1 + 1).toNat) 0)).set ((i13_1 + 1).toNat) (dg1000000_5.getD i13_1.toNat 0))⟩, ⟨(.dp false), 22, 1, l.length, .d (.by 5) l⟩]⟩) (by kernel_rfl) ⟨_, (by kernel_rfl), (allP_cons.2 ⟨g3, (allP_cons.2 ⟨g4, (allP_cons.2 ⟨g5, (allP_cons.2 ⟨g6, (allP_cons.2 ⟨g7, (allP_cons.2 ⟨g8, (allP_cons.2 ⟨g9, (allP_cons.2 ⟨g10, allP_nil⟩)⟩)⟩)⟩)⟩)⟩)⟩)⟩)⟩ (AllE.cons ⟨_, (by kernel_rfl), (allP_cons.2 ⟨g11, (allP_cons.2 ⟨g12, allP_nil⟩)⟩)⟩ (AllE.cons ⟨_, (by kernel_rfl), allP_nil⟩ AllE.nil)) (AllR.cons ⟨_, (by kernel_rfl), allP_nil⟩ (AllR.cons ⟨_, (by kernel_rfl), allP_nil⟩ (AllR.cons ⟨_, (by kernel_rfl), allP_nil⟩ (AllR.cons ⟨_, (by kernel_rfl), allP_nil⟩ (AllR.cons ⟨_, (by kernel_rfl), (allP_cons.2 ⟨g3, allP_nil⟩)⟩ (AllR.cons ⟨_, (by kernel_rfl), allP_nil⟩ (AllR.cons ⟨_, (by kernel_rfl), allP_nil⟩ (AllR.cons ⟨_, (by kernel_rfl), (allP_cons.2 ⟨g4, allP_nil⟩)⟩ (AllR.cons ⟨_, (by kernel_rfl), (allP_cons.2 ⟨g5, (allP_cons.2 ⟨g6, allP_nil⟩)⟩)⟩ (AllR.cons ⟨_, (by kernel_rfl), allP_nil⟩ (AllR.cons ⟨_, (by kernel_rfl), allP_nil⟩ (AllR.cons ⟨_, (by kernel_rfl), allP_nil⟩ (AllR.cons ⟨_, (by kernel_rfl), (allP_cons.2 ⟨g7, (allP_cons.2 ⟨g8, allP_nil⟩)⟩)⟩ (AllR.cons ⟨_, (by kernel_rfl), allP_nil⟩ (AllR.cons ⟨_, (by kernel_rfl), (allP_cons.2 ⟨g9, (allP_cons.2 ⟨g10, allP_nil⟩)⟩)⟩ (AllR.cons ⟨_, (by kernel_rfl), allP_nil⟩ (AllR.cons ⟨_, (by kernel_rfl), allP_nil⟩ (AllR.cons ⟨_, (by kernel_rfl), (allP_cons.2 ⟨g3, allP_nil⟩)⟩ (AllR.cons ⟨_, (by kernel_rfl), (allP_cons.2 ⟨g11, (allP_cons.2 ⟨g12, allP_nil⟩)⟩)⟩ AllR.nil))))))))))))))))))) (by kernel_rfl) ?_
           obtain ⟨g13, h⟩ := gd_some h
           refine Vg hT fN [] [] [0, 1] (srMerge_l1_E l js i10_4 ((dg1000000_5.set i13_1.toNat (dg1000000_5.getD ((i13_1 + 1).toNat) 0)).set ((i13_1 + 1).toNat) (dg1000000_5.getD i13_1.toNat 0)) (i13_1 + 1)) (aP g13 aN) ?_
           exact ⟨_, _, rfl, h⟩
          ·replace h := bif_f h g14
           refine Vc [] [0, 1] ⟨[], [(1000000, kH 0), (1000001, kH 1)], [⟨.row, 22, 1, js.length, .p 1 dg1000000_5⟩, ⟨(.dp false), 22, 1, l.length, .d (.by 5) l⟩]⟩ (W_exit ?_)
           refine Vc [] [0, 1] (srMerge_R l js dg1000000_5) (W_ret ?_)
           exact ⟨.inl rfl, by cases h; rfl⟩
        ·refine W_block ?_
         refine Vc [] [0, 1] (srMerge_l2_E l js a1 a2 a3) (W_lp ((srMerge_l2_P n l js a1 r)) n ⟨_, _, rfl, h⟩ ?_)
         rintro fu_l2 _ ⟨i10_5, i11_3, rfl, h⟩
         cases fu_l2 with
         | zero => cases h
         | succ fu_l2 =>
          refine ⟨fu_l2, rfl, ?_⟩
          rw [srMerge_l2] at h
          refine W_seq ?_
          refine Vrs hT [0, 1] ⟨[(0, kH 0), (1, kI a1), (4, .c (.s (.v (.func (.func 75) #[] #[])))), (10, kI i10_5), (11, kI i11_3), (33, kB (decide (i10_5 < i11_3)))], [(1000000, kH 0), (1000001, kH 1)], [⟨.row, 22, 1, js.length, .p 1 js⟩, ⟨(.dp false), 22, 1, l.length, .d (.by 5) l⟩]⟩ ?_
          refine Vi ((decide (i10_5 < i11_3))) (fun g23 => ?_) (fun g23 => ?_)
          ·replace h := bif_t h g23
           refine W_skip ?_
           refine W_block ?_
           obtain ⟨g15, g16, h⟩ := gd2 h
           refine Vgs hT fN [] [] [0, 1] ⟨[(0, kH 0), (1, kI a1), (4, .c (.s (.v (.func (.func 75) #[] #[])))), (10, kI i10_5), (11, kI i11_3), (12, kI (IntKind.i64.wrap (((shr64 (UInt64.ofInt (i10_5 + i11_3)) 1).toNat : Nat) : Int)))], [(1000000, kH 0), (1000001, kH 1)], [⟨.row, 22, 1, js.length, .p 1 js⟩, ⟨(.dp false), 22, 1, l.length, .d (.by 5) l⟩]⟩ (aP g15 (aP g16 aN)) ?_
           refine W_seq ?_
           obtain ⟨g17, g18, g19, g20, h⟩ := gd4 h
           refine W_regG hT (fT 9 cmp_h fN) (by kernel_rfl) [] [0, 1, 2, 3, 4, 5, 6, 7, 8, 10] [[0, 1, 2, 3, 4, 5, 6, 7, 8], [0, 1, 2, 3, 4, 5, 6, 7, 8, 9, 10]] [⟨[(0, kH 0), (1, kI a1), (4, .c (.s (.v (.func (.func 75) #[] #[])))), (10, kI i10_5), (11, kI i11_3), (12, kI (IntKind.i64.wrap (((shr64 (UInt64.ofInt (i10_5 + i11_3)) 1).toNat : Nat) : Int))), (40, .c (.s (.v (.func (.func 75) #[] #[])))), (41, kH 0), (42, kI (IntKind.i64.wrap (((shr64 (UInt64.ofInt (i10_5 + i11_3)) 1).toNat : Nat) : Int))), (43, kP 0 ((IntKind.i64.wrap (((shr64 (UInt64.ofInt (i10_5 + i11_3)) 1).toNat : Nat) : Int)).toNat)), (44, .c (.gi 1 (js.getD ((IntKind.i64.wrap (((shr64 (UInt64.ofInt (i10_5 + i11_3)) 1).toNat : Nat) : Int)).toNat) 0))), (45, kH 0), (46, kI a1), (47, kP 0 a1.toNat), (48, .c (.gi 1 (js.getD a1.toNat 0)))], [(1000000, kH 0), (1000001, kH 1)], [⟨.row, 22, 1, js.length, .p 1 js⟩, ⟨(.dp false), 22, 1, l.length, .d (.by 5) l⟩]⟩, ⟨[(0, kH 0), (1, kI a1), (4, .c (.s (.v (.func (.func 75) #[] #[])))), (10, kI i10_5), (11, kI i11_3), (12, kI (IntKind.i64.wrap (((shr64 (UInt64.ofInt (i10_5 + i11_3)) 1).toNat : Nat) : Int))), (49, kI (Lib.compareBytes (l.getD (js.getD ((IntKind.i64.wrap (((shr64 (UInt64.ofInt (i10_5 + i11_3)) 1).toNat : Nat) : Int)).toNat) 0) []) (l.getD (js.getD a1.toNat 0) []))), (50, kB (decide ((Lib.compareBytes (l.getD (js.getD ((IntKind.i64.wrap (((shr64 (UInt64.ofInt (i10_5 + i11_3)) 1).toNat : Nat) : Int)).toNat) 0) []) (l.getD (js.getD a1.toNat 0) [])) < (0 : Int))))], [(1000000, kH 0), (1000001, kH 1)], [⟨.row, 22, 1, js.length, .p 1 js⟩, ⟨(.dp false), 22, 1, l.length, .d (.by 5) l⟩]⟩] [0, 1, 2, 3, 4, 5, 6, 7, 8] [⟨0, 9, 1, [10], [], [0, 1, 4, 10, 11, 12, 49, 50], [0, 1]⟩] [(0, 0), (0, 1), (0, 2), (0, 3), (0, 4), (0, 5), (0, 6), (0, 7), (0, 8), (1, 10)] 1 [0, 1, 4, 10, 11, 12, 40, 41, 42, 43, 44, 45, 46, 47, 48] [0, 1] [] [0, 1, 4, 10, 11, 12, 50] [0, 1] (s' := ⟨[(0, kH 0), (1, kI a1), (4, .c (.s (.v (.func (.func 75) #[] #[])))), (10, kI i10_5), (11, kI i11_3), (12, kI (IntKind.i64.wrap (((shr64 (UInt64.ofInt (i10_5 + i11_3)) 1).toNat : Nat) : Int))), (50, kB (decide ((Lib.compareBytes (l.getD (js.getD ((IntKind.i64.wrap (((shr64 (UInt64.ofInt (i10_5 + i11_3)) 1).toNat : Nat) : Int)).toNat) 0) []) (l.getD (js.getD a1.toNat 0) [])) < (0 : Int))))], [(1000000, kH 0), (1000001, kH 1)], [⟨.row, 22, 1, js.length, .p 1 js⟩, ⟨(.dp false), 22, 1, l.length, .d (.by 5) l⟩]⟩) (by kernel_rfl) ⟨_, (by kernel_rfl), (allP_cons.2 ⟨g17, (allP_cons.2 ⟨g18, (allP_cons.2 ⟨g19, (allP_cons.2 ⟨g20, allP_nil⟩)⟩)⟩)⟩)⟩ (AllE.cons ⟨_, (by kernel_rfl), allP_nil⟩ AllE.nil) (AllR.cons ⟨_, (by kernel_rfl), allP_nil⟩ (AllR.cons ⟨_, (by kernel_rfl), allP_nil⟩ (AllR.cons ⟨_, (by kernel_rfl), allP_nil⟩ (AllR.cons ⟨_, (by kernel_rfl), (allP_cons.2 ⟨g17, (allP_cons.2 ⟨g18, allP_nil⟩)⟩)⟩ (AllR.cons ⟨_, (by kernel_rfl), allP_nil⟩ (AllR.cons ⟨_, (by kernel_rfl), allP_nil⟩ (AllR.cons ⟨_, (by kernel_rfl), allP_nil⟩ (AllR.cons ⟨_, (by kernel_rfl), (allP_cons.2 ⟨g19, (allP_cons.2 ⟨g20, allP_nil⟩)⟩)⟩ (AllR.cons ⟨_, (by kernel_rfl), allP_nil⟩ (AllR.cons ⟨_, (by kernel_rfl), allP_nil⟩ AllR.nil)))))))))) (by kernel_rfl) ?_
           refine Vi ((decide ((Lib.compareBytes (l.getD (js.getD ((IntKind.i64.wrap (((shr64 (UInt64.ofInt (i10_5 + i11_3)) 1).toNat : Nat) : Int)).toNat) 0) []) (l.getD (js.getD a1.toNat 0) [])) < (0 : Int)))) (fun g22 => ?_) (fun g22 => ?_)
           ·replace h := bif_t h g22
            obtain ⟨g21, h⟩ := gd_some h
            refine Vg hT fN [] [] [0, 1] (srMerge_l2_E l js a1 ((IntKind.i64.wrap (((shr64 (UInt64.ofInt (i10_5 + i11_3)) 1).toNat : Nat) : Int)) + 1) i11_3) (aP g21 aN) ?_
            exact ⟨_, _, rfl, h⟩
           ·replace h := bif_f h g22
            refine Vr hT [0, 1] (srMerge_l2_E l js a1 i10_5 (IntKind.i64.wrap (((shr64 (UInt64.ofInt (i10_5 + i11_3)) 1).toNat : Nat) : Int))) ?_
            exact ⟨_, _, rfl, h⟩
          ·replace h := bif_f h g23
           refine Vc [] [0, 1] (srMerge_j1_E l js a1 i10_5) (W_exit ?_)
           exact ⟨_, rfl, h⟩
       ·replace h := bif_f h g73
        refine W_skip ?_
        refine W_seq ?_
        obtain ⟨g24, h⟩ := gd_some h
        refine Vgs hT fN [] [] [0, 1] ⟨[(0, kH 0), (1, kI a1), (2, kI a2), (3, kI a3), (4, .c (.s (.v (.func (.func 75) #[] #[])))), (80, kB ((a3 - a2) == 1))], [(1000000, kH 0), (1000001, kH 1)], [⟨.row, 22, 1, js.length, .p 1 js⟩, ⟨(.dp false), 22, 1, l.length, .d (.by 5) l⟩]⟩ (aP g24 aN) ?_
        refine Vi (((a3 - a2) == 1)) (fun g72 => ?_) (fun g72 => ?_)
        ·replace h := bif_t h g72
         refine Vrs hT [0, 1] ⟨[(0, kH 0), (2, kI a2), (4, .c (.s (.v (.func (.func 75) #[] #[])))), (14, kI a1)], [(1000000, kH 0), (1000001, kH 1)], [⟨.row, 22, 1, js.length, .p 1 js⟩, ⟨(.dp false), 22, 1, l.length, .d (.by 5) l⟩]⟩ ?_
         refine Vrs hT [0, 1] ⟨[(0, kH 0), (2, kI a2), (4, .c (.s (.v (.func (.func 75) #[] #[])))), (14, kI a1), (15, kI a2)], [(1000000, kH 0), (1000001, kH 1)], [⟨.row, 22, 1, js.length, .p 1 js⟩, ⟨(.dp false), 22, 1, l.length, .d (.by 5) l⟩]⟩ ?_
         refine W_join (srMerge_j2_P n l js a2 r) ?_ ?_
         ·rintro _ ⟨i14_4, rfl, h⟩
          unfold srMerge_j2 at h
          refine W_seq ?_
          refine Vrs hT [0, 1] ⟨[(0, kH 0), (14, kI i14_4), (17, kI a2)], [(1000000, kH 0), (1000001, kH 1)], [⟨.row, 22, 1, js.length, .p 1 js⟩, ⟨(.dp false), 22, 1, l.length, .d (.by 5) l⟩]⟩ ?_
          refine W_block ?_
          refine Vc [] [0, 1] (srMerge_l3_E l js i14_4 js a2) (W_lp ((srMerge_l3_P n l js i14_4 r)) n ⟨_, _, rfl, h⟩ ?_)
          rintro fu_l3 _ ⟨dg1000000_6, i17_1, rfl, h⟩
          cases fu_l3 with
          | zero => cases h
          | succ fu_l3 =>
           refine ⟨fu_l3, rfl, ?_⟩
           rw [srMerge_l3] at h
           refine W_seq ?_
           refine Vrs hT [0, 1] ⟨[(0, kH 0), (14, kI i14_4), (17, kI i17_1), (110, kB (decide (i14_4 < i17_1)))], [(1000000, kH 0), (1000001, kH 1)], [⟨.row, 22, 1, js.length, .p 1 dg1000000_6⟩, ⟨(.dp false), 22, 1, l.length, .d (.by 5) l⟩]⟩ ?_
           refine Vi ((decide (i14_4 < i17_1))) (fun g36 => ?_) (fun g36 => ?_)
           ·replace h := bif_t h g36
            refine Vc [] [0, 1] ⟨[(0, kH 0), (14, kI i14_4), (17, kI i17_1)], [(1000000, kH 0), (1000001, kH 1)], [⟨.row, 22, 1, js.length, .p 1 dg1000000_6⟩, ⟨(.dp false), 22, 1, l.length, .d (.by 5) l⟩]⟩ (W_skip ?_)
            refine W_seq ?_
            refine W_block ?_
            obtain ⟨g25, g26, g27, g28, g29, h⟩ := gd5 h
            obtain ⟨g30, g31, g32, g33, g34, h⟩ := gd5 h
            refine W_regG hT fN (by kernel_rfl) [] [0, 1, 2, 3, 4, 5, 6, 7, 8, 9, 10, 11, 12, 13, 14, 16] [[0, 1, 2, 3, 4, 5, 6, 7, 8, 9, 10, 11, 12, 13, 14], [0, 1, 2, 3, 4, 5, 6, 7, 8, 9, 10, 11, 12, 13, 14, 15, 16], [0, 1, 2, 3, 4, 5, 6, 7, 8, 9, 10, 11, 12, 13, 14, 15, 16, 17]] [⟨[(0, kH 0), (14, kI i14_4), (17, kI i17_1), (113, kH 0), (114, kI i17_1), (115, kH 0), (116, kI i17_1), (117, kI (i17_1 - 1)), (118, kH 0), (119, kI i17_1), (120, kI (i17_1 - 1)), (121, kP 0 ((i17_1 - 1).toNat)), (122, .c (.gi 1 (dg1000000_6.getD ((i17_1 - 1).toNat) 0))), (123, kH 0), (124, kI i17_1), (125, kP 0 i17_1.toNat), (126, .c (.gi 1 (dg1000000_6.getD i17_1.toNat 0))), (127, kP 0 i17_1.toNat)], [(1000000, kH 0), (1000001, kH 1)], [⟨.row, 22, 1, js.length, .p 1 dg1000000_6⟩, ⟨(.dp false), 22, 1, l.length, .d (.by 5) l⟩]⟩, ⟨[(0, kH 0), (14, kI i14_4), (17, kI i17_1), (115, kH 0), (116, kI i17_1), (117, kI (i17_1 - 1)), (126, .c (.gi 1 (dg1000000_6.getD i17_1.toNat 0))), (128, kP 0 ((i17_1 - 1).toNat))], [(1000000, kH 0), (1000001, kH 1)], [⟨.row, 22, 1, js.length, .p 1 (dg1000000_6.set i17_1.toNat (dg1000000_6.getD ((i17_1 - 1).toNat) 0))⟩, ⟨(.dp false), 22, 1, l.length, .d (.by 5) l⟩]⟩, ⟨[(0, kH 0), (14, kI i14_4), (17, kI i17_1)], [(1000000, kH 0), (1000001, kH 1)], [⟨.row, 22, 1, js.length, .p 1 ((dg1000000_6.set i17_1.toNat (dg1000000_6.getD ((i17_1 - 1).toNat) 0)).set ((i17_1 - 1).toNat) (dg1000000_6.getD i17_1.toNat 0))⟩, ⟨(.dp false), 22, 1, l.length, .d (.by 5) l⟩]⟩] [0, 1, 2, 3, 4, 5, 6, 7, 8, 9, 10, 11, 12, 13, 14] [⟨0, 15, 1, [16], [], [0, 14, 17, 115, 116, 117, 126, 128], [0, 1]⟩, ⟨1, 17, 2, [], [], [0, 14, 17], [0, 1]⟩] [(0, 0), (0, 1), (0, 2), (0, 3), (0, 4), (0, 5), (0, 6), (0, 7), (0, 8), (0, 9), (0, 10), (0, 11), (0, 12), (0, 13), (0, 14), (1, 2), (1, 3), (1, 4), (1, 16)] 2 [0, 14, 17, 113, 114, 115, 116, 117, 118, 119, 120, 121, 122, 123, 124, 125, 126, 127] [0, 1] [] [0, 14, 17] [0, 1] (s' := ⟨[(0, kH 0), (14, kI i14_4), (17, kI i17_1)], [(1000000, kH 0), (1000001, kH 1)], [⟨.row, 22, 1, js.length, .p 1 ((dg1000000_6.set i17_1.toNat (dg1000000_6.getD ((i17_1 - 1).toNat) 0)).set ((i17_1 - 1).toNat) (dg1000000_6.getD i17_1.toNat 0))⟩, ⟨(.dp false), 22, 1, l.length, .d (.by 5) l⟩]⟩) (by kernel_rfl) ⟨_, (by kernel_rfl), (allP_cons.2 ⟨g25, (allP_cons.2 ⟨g26, (allP_cons.2 ⟨g27, (allP_cons.2 ⟨g28, (allP_cons.2 ⟨g29, (allP_cons.2 ⟨g30, (allP_cons.2 ⟨g31, (allP_cons.2 ⟨g32, allP_nil⟩)⟩)⟩)⟩)⟩)⟩)⟩)⟩)⟩ (AllE.cons ⟨_, (by kernel_rfl), (allP_cons.2 ⟨g33, (allP_cons.2 ⟨g34, allP_nil⟩)⟩)⟩ (AllE.cons ⟨_, (by kernel_rfl), allP_nil⟩ AllE.nil)) (AllR.cons ⟨_, (by kernel_rfl), allP_nil⟩ (AllR.cons ⟨_, (by kernel_rfl), allP_nil⟩ (AllR.cons ⟨_, (by kernel_rfl), allP_nil⟩ (AllR.cons ⟨_, (by kernel_rfl), allP_nil⟩ (AllR.cons ⟨_, (by kernel_rfl), (allP_cons.2 ⟨g25, allP_nil⟩)⟩ (AllR.cons ⟨_, (by kernel_rfl), allP_nil⟩ (AllR.cons ⟨_, (by kernel_rfl), allP_nil⟩ (AllR.cons ⟨_, (by kernel_rfl), (allP_cons.2 ⟨g26, allP_nil⟩)⟩ (AllR.cons ⟨_, (by kernel_rfl), (allP_cons.2 ⟨g27, (allP_cons.2 ⟨g28, allP_nil⟩)⟩)⟩ (AllR.cons ⟨_, (by kernel_rfl), allP_nil⟩ (AllR.cons ⟨_, (by kernel_rfl), allP_nil⟩ (AllR.cons ⟨_, (by kernel_rfl), allP_nil⟩ (AllR.cons ⟨_, (by kernel_rfl), (allP_cons.2 ⟨g29, (allP_cons.2 ⟨g30, allP_nil⟩)⟩)⟩ (AllR.cons ⟨_, (by kernel_rfl), allP_nil⟩ (AllR.cons ⟨_, (by kernel_rfl), (allP_cons.2 ⟨g31, (allP_cons.2 ⟨g32, allP_nil⟩)⟩)⟩ (AllR.cons ⟨_, (by kernel_rfl), allP_nil⟩ (AllR.cons ⟨_, (by kernel_rfl), allP_nil⟩ (AllR.cons ⟨_, (by kernel_rfl), (allP_cons.2 ⟨g25, allP_nil⟩)⟩ (AllR.cons ⟨_, (by kernel_rfl), (allP_cons.2 ⟨g33, (allP_cons.2 ⟨g34, allP_nil⟩)⟩)⟩ AllR.nil))))))))))))))))))) (by kernel_rfl) ?_
            obtain ⟨g35, h⟩ := gd_some h
            refine Vg hT fN [] [] [0, 1] (srMerge_l3_E l js i14_4 ((dg1000000_6.set i17_1.toNat (dg1000000_6.getD ((i17_1 - 1).toNat) 0)).set ((i17_1 - 1).toNat) (dg1000000_6.getD i17_1.toNat 0)) (i17_1 - 1)) (aP g35 aN) ?_
            exact ⟨_, _, rfl, h⟩
           ·replace h := bif_f h g36
            refine Vc [] [0, 1] ⟨[], [(1000000, kH 0), (1000001, kH 1)], [⟨.row, 22, 1, js.length, .p 1 dg1000000_6⟩, ⟨(.dp false), 22, 1, l.length, .d (.by 5) l⟩]⟩ (W_exit ?_)
            refine Vc [] [0, 1] (srMerge_R l js dg1000000_6) (W_ret ?_)
            exact ⟨.inl rfl, by cases h; rfl⟩
         ·refine W_block ?_
          refine Vc [] [0, 1] (srMerge_l4_E l js a2 a1 a2) (W_lp ((srMerge_l4_P n l js a2 r)) n ⟨_, _, rfl, h⟩ ?_)
          rintro fu_l4 _ ⟨i14_5, i15_3, rfl, h⟩
          cases fu_l4 with
          | zero => cases h
          | succ fu_l4 =>
           refine ⟨fu_l4, rfl, ?_⟩
           rw [srMerge_l4] at h
           refine W_seq ?_
           refine Vrs hT [0, 1] ⟨[(0, kH 0), (2, kI a2), (4, .c (.s (.v (.func (.func 75) #[] #[])))), (14, kI i14_5), (15, kI i15_3), (85, kB (decide (i14_5 < i15_3)))], [(1000000, kH 0), (1000001, kH 1)], [⟨.row, 22, 1, js.length, .p 1 js⟩, ⟨(.dp false), 22, 1, l.length, .d (.by 5) l⟩]⟩ ?_
           refine Vi ((decide (i14_5 < i15_3))) (fun g45 => ?_) (fun g45 => ?_)
           ·replace h := bif_t h g45
            refine W_skip ?_
            refine W_block ?_
            obtain ⟨g37, g38, h⟩ := gd2 h
            refine Vgs hT fN [] [] [0, 1] ⟨[(0, kH 0), (2, kI a2), (4, .c (.s (.v (.func (.func 75) #[] #[])))), (14, kI i14_5), (15, kI i15_3), (16, kI (IntKind.i64.wrap (((shr64 (UInt64.ofInt (i14_5 + i15_3)) 1).toNat : Nat) : Int)))], [(1000000, kH 0), (1000001, kH 1)], [⟨.row, 22, 1, js.length, .p 1 js⟩, ⟨(.dp false), 22, 1, l.length, .d (.by 5) l⟩]⟩ (aP g37 (aP g38 aN)) ?_
            refine W_seq ?_
            obtain ⟨g39, g40, g41, g42, h⟩ := gd4 h
            refine W_regG hT (fT 9 cmp_h fN) (by kernel_rfl) [] [0, 1, 2, 3, 4, 5, 6, 7, 8, 10, 11] [[0, 1, 2, 3, 4, 5, 6, 7, 8], [0, 1, 2, 3, 4, 5, 6, 7, 8, 9, 10, 11]] [⟨[(0, kH 0), (2, kI a2), (4, .c (.s (.v (.func (.func 75) #[] #[])))), (14, kI i14_5), (15, kI i15_3), (16, kI (IntKind.i64.wrap (((shr64 (UInt64.ofInt (i14_5 + i15_3)) 1).toNat : Nat) : Int))), (92, .c (.s (.v (.func (.func 75) #[] #[])))), (93, kH 0), (94, kI a2), (95, kP 0 a2.toNat), (96, .c (.gi 1 (js.getD a2.toNat 0))), (97, kH 0), (98, kI (IntKind.i64.wrap (((shr64 (UInt64.ofInt (i14_5 + i15_3)) 1).toNat : Nat) : Int))), (99, kP 0 ((IntKind.i64.wrap (((shr64 (UInt64.ofInt (i14_5 + i15_3)) 1).toNat : Nat) : Int)).toNat)), (100, .c (.gi 1 (js.getD ((IntKind.i64.wrap (((shr64 (UInt64.ofInt (i14_5 + i15_3)) 1).toNat : Nat) : Int)).toNat) 0)))], [(1000000, kH 0), (1000001, kH 1)], [⟨.row, 22, 1, js.length, .p 1 js⟩, ⟨(.dp false), 22, 1, l.length, .d (.by 5) l⟩]⟩, ⟨[(0, kH 0), (2, kI a2), (4, .c (.s (.v (.func (.func 75) #[] #[])))), (14, kI i14_5), (15, kI i15_3), (16, kI (IntKind.i64.wrap (((shr64 (UInt64.ofInt (i14_5 + i15_3)) 1).toNat : Nat) : Int))), (101, kI (Lib.compareBytes (l.getD (js.getD a2.toNat 0) []) (l.getD (js.getD ((IntKind.i64.wrap (((shr64 (UInt64.ofInt (i14_5 + i15_3)) 1).toNat : Nat) : Int)).toNat) 0) []))), (102, kB (decide ((Lib.compareBytes (l.getD (js.getD a2.toNat 0) []) (l.getD (js.getD ((IntKind.i64.wrap (((shr64 (UInt64.ofInt (i14_5 + i15_3)) 1).toNat : Nat) : Int)).toNat) 0) [])) < (0 : Int)))), (103, kB (!(decide ((Lib.compareBytes (l.getD (js.getD a2.toNat 0) []) (l.getD (js.getD ((IntKind.i64.wrap (((shr64 (UInt64.ofInt (i14_5 + i15_3)) 1).toNat : Nat) : Int)).toNat) 0) [])) < (0 : Int)))))], [(1000000, kH 0), (1000001, kH 1)], [⟨.row, 22, 1, js.length, .p 1 js⟩, ⟨(.dp false), 22, 1, l.length, .d (.by 5) l⟩]⟩] [0, 1, 2, 3, 4, 5, 6, 7, 8] [⟨0, 9, 1, [10, 11], [], [0, 2, 4, 14, 15, 16, 101, 102, 103], [0, 1]⟩] [(0, 0), (0, 1), (0, 2), (0, 3), (0, 4), (0, 5), (0, 6), (0, 7), (0, 8), (1, 10), (1, 11)] 1 [0, 2, 4, 14, 15, 16, 92, 93, 94, 95, 96, 97, 98, 99, 100] [0, 1] [] [0, 2, 4, 14, 15, 16, 103] [0, 1] (s' := ⟨[(0, kH 0), (2, kI a2), (4, .c (.s (.v (.func (.func 75) #[] #[])))), (14, kI i14_5), (15, kI i15_3), (16, kI (IntKind.i64.wrap (((shr64 (UInt64.ofInt (i14_5 + i15_3)) 1).toNat : Nat) : Int))), (103, kB (!(decide ((Lib.compareBytes (l.getD (js.getD a2.toNat 0) []) (l.getD (js.getD ((IntKind.i64.wrap (((shr64 (UInt64.ofInt (i14_5 + i15_3)) 1).toNat : Nat) : Int)).toNat) 0) [])) < (0 : Int)))))], [(1000000, kH 0), (1000001, kH 1)], [⟨.row, 22, 1, js.length, .p 1 js⟩, ⟨(.dp false), 22, 1, l.length, .d (.by 5) l⟩]⟩) (by kernel_rfl) ⟨_, (by kernel_rfl), (allP_cons.2 ⟨g39, (allP_cons.2 ⟨g40, (allP_cons.2 ⟨g41, (allP_cons.2 ⟨g42, allP_nil⟩)⟩)⟩)⟩)⟩ (AllE.cons ⟨_, (by kernel_rfl), allP_nil⟩ AllE.nil) (AllR.cons ⟨_, (by kernel_rfl), allP_nil⟩ (AllR.cons ⟨_, (by kernel_rfl), allP_nil⟩ (AllR.cons ⟨_, (by kernel_rfl), allP_nil⟩ (AllR.cons ⟨_, (by kernel_rfl), (allP_cons.2 ⟨g39, (allP_cons.2 ⟨g40, allP_nil⟩)⟩)⟩ (AllR.cons ⟨_, (by kernel_rfl), allP_nil⟩ (AllR.cons ⟨_, (by kernel_rfl), allP_nil⟩ (AllR.cons ⟨_, (by kernel_rfl), allP_nil⟩ (AllR.cons ⟨_, (by kernel_rfl), (allP_cons.2 ⟨g41, (allP_cons.2 ⟨g42, allP_nil⟩)⟩)⟩ (AllR.cons ⟨_, (by kernel_rfl), allP_nil⟩ (AllR.cons ⟨_, (by kernel_rfl), allP_nil⟩ (AllR.cons ⟨_, (by kernel_rfl), allP_nil⟩ AllR.nil))))))))))) (by kernel_rfl) ?_
            refine Vi ((!(decide ((Lib.compareBytes (l.getD (js.getD a2.toNat 0) []) (l.getD (js.getD ((IntKind.i64.wrap (((shr64 (UInt64.ofInt (i14_5 + i15_3)) 1).toNat : Nat) : Int)).toNat) 0) [])) < (0 : Int))))) (fun g44 => ?_) (fun g44 => ?_)
            ·replace h := bif_t h g44
             obtain ⟨g43, h⟩ := gd_some h
             refine Vg hT fN [] [] [0, 1] (srMerge_l4_E l js a2 ((IntKind.i64.wrap (((shr64 (UInt64.ofInt (i14_5 + i15_3)) 1).toNat : Nat) : Int)) + 1) i15_3) (aP g43 aN) ?_
             exact ⟨_, _, rfl, h⟩
            ·replace h := bif_f h g44
             refine Vr hT [0, 1] (srMerge_l4_E l js a2 i14_5 (IntKind.i64.wrap (((shr64 (UInt64.ofInt (i14_5 + i15_3)) 1).toNat : Nat) : Int))) ?_
             exact ⟨_, _, rfl, h⟩
           ·replace h := bif_f h g45
            refine Vc [] [0, 1] (srMerge_j2_E l js a2 i14_5) (W_exit ?_)
            exact ⟨_, rfl, h⟩
        ·replace h := bif_f h g72
         refine W_skip ?_
         obtain ⟨g46, g47, h⟩ := gd2 h
         refine Vgs hT fN [] [] [0, 1] ⟨[(0, kH 0), (1, kI a1), (2, kI a2), (3, kI a3), (4, .c (.s (.v (.func (.func 75) #[] #[])))), (18, kI (IntKind.i64.wrap (((shr64 (UInt64.ofInt (a1 + a3)) 1).toNat : Nat) : Int)))], [(1000000, kH 0), (1000001, kH 1)], [⟨.row, 22, 1, js.length, .p 1 js⟩, ⟨(.dp false), 22, 1, l.length, .d (.by 5) l⟩]⟩ (aP g46 (aP g47 aN)) ?_
         obtain ⟨g48, h⟩ := gd_some h
         refine Vgs hT fN [] [] [0, 1] ⟨[(0, kH 0), (1, kI a1), (2, kI a2), (3, kI a3), (4, .c (.s (.v (.func (.func 75) #[] #[])))), (18, kI (IntKind.i64.wrap (((shr64 (UInt64.ofInt (a1 + a3)) 1).toNat : Nat) : Int))), (19, kI ((IntKind.i64.wrap (((shr64 (UInt64.ofInt (a1 + a3)) 1).toNat : Nat) : Int)) + a2))], [(1000000, kH 0), (1000001, kH 1)], [⟨.row, 22, 1, js.length, .p 1 js⟩, ⟨(.dp false), 22, 1, l.length, .d (.by 5) l⟩]⟩ (aP g48 aN) ?_
         refine Vrs hT [0, 1] ⟨[(0, kH 0), (1, kI a1), (2, kI a2), (3, kI a3), (4, .c (.s (.v (.func (.func 75) #[] #[])))), (18, kI (IntKind.i64.wrap (((shr64 (UInt64.ofInt (a1 + a3)) 1).toNat : Nat) : Int))), (19, kI ((IntKind.i64.wrap (((shr64 (UInt64.ofInt (a1 + a3)) 1).toNat : Nat) : Int)) + a2))], [(1000000, kH 0), (1000001, kH 1)], [⟨.row, 22, 1, js.length, .p 1 js⟩, ⟨(.dp false), 22, 1, l.length, .d (.by 5) l⟩]⟩ ?_
         refine W_join (srMerge_j3_P n l js a1 a2 a3 r) ?_ ?_
         ·rintro _ ⟨i20_4, i21_3, rfl, h⟩
          unfold srMerge_j3 at h
          obtain ⟨g49, h⟩ := gd_some h
          refine Vgs hT fN [] [] [0, 1] ⟨[(0, kH 0), (1, kI a1), (2, kI a2), (3, kI a3), (4, .c (.s (.v (.func (.func 75) #[] #[])))), (18, kI (IntKind.i64.wrap (((shr64 (UInt64.ofInt (a1 + a3)) 1).toNat : Nat) : Int))), (19, kI ((IntKind.i64.wrap (((shr64 (UInt64.ofInt (a1 + a3)) 1).toNat : Nat) : Int)) + a2)), (20, kI i20_4), (21, kI i21_3), (22, kI (((IntKind.i64.wrap (((shr64 (UInt64.ofInt (a1 + a3)) 1).toNat : Nat) : Int)) + a2) - 1))], [(1000000, kH 0), (1000001, kH 1)], [⟨.row, 22, 1, js.length, .p 1 js⟩, ⟨(.dp false), 22, 1, l.length, .d (.by 5) l⟩]⟩ (aP g49 aN) ?_
          refine W_join (srMerge_j4_P n l js a1 a2 a3 r) ?_ ?_
          ·rintro _ ⟨i20_6, rfl, h⟩
           unfold srMerge_j4 at h
           obtain ⟨g50, h⟩ := gd_some h
           refine Vgs hT fN [] [] [0, 1] ⟨[(0, kH 0), (1, kI a1), (2, kI a2), (3, kI a3), (4, .c (.s (.v (.func (.func 75) #[] #[])))), (18, kI (IntKind.i64.wrap (((shr64 (UInt64.ofInt (a1 + a3)) 1).toNat : Nat) : Int))), (20, kI i20_6), (24, kI (((IntKind.i64.wrap (((shr64 (UInt64.ofInt (a1 + a3)) 1).toNat : Nat) : Int)) + a2) - i20_6))], [(1000000, kH 0), (1000001, kH 1)], [⟨.row, 22, 1, js.length, .p 1 js⟩, ⟨(.dp false), 22, 1, l.length, .d (.by 5) l⟩]⟩ (aP g50 aN) ?_
           refine W_join (srMerge_j5_P n l js a1 a2 a3 i20_6 r) ?_ ?_
           ·rintro _ ⟨dg1000000_7, rfl, h⟩
            unfold srMerge_j5 at h
            refine W_join (srMerge_j6_P n l js a1 a2 a3 i20_6 r) ?_ ?_
            ·rintro _ ⟨dg1000000_8, rfl, h⟩
             unfold srMerge_j6 at h
             refine W_seq ?_
             rcases Bool.eq_false_or_eq_true (decide ((IntKind.i64.wrap (((shr64 (UInt64.ofInt (a1 + a3)) 1).toNat : Nat) : Int)) < (((IntKind.i64.wrap (((shr64 (UInt64.ofInt (a1 + a3)) 1).toNat : Nat) : Int)) + a2) - i20_6))) with g51 | g51
             ·replace h := bif_t h g51
              refine Vg hT fN [(3, true)] [] [0, 1] ⟨[(0, kH 0), (3, kI a3), (4, .c (.s (.v (.func (.func 75) #[] #[])))), (18, kI (IntKind.i64.wrap (((shr64 (UInt64.ofInt (a1 + a3)) 1).toNat : Nat) : Int))), (24, kI (((IntKind.i64.wrap (((shr64 (UInt64.ofInt (a1 + a3)) 1).toNat : Nat) : Int)) + a2) - i20_6)), (213, kB (decide ((((IntKind.i64.wrap (((shr64 (UInt64.ofInt (a1 + a3)) 1).toNat : Nat) : Int)) + a2) - i20_6) < a3)))], [(1000000, kH 0), (1000001, kH 1)], [⟨.row, 22, 1, js.length, .p 1 dg1000000_8⟩, ⟨(.dp false), 22, 1, l.length, .d (.by 5) l⟩]⟩ (aP g51 aN) ?_
              refine Vi ((decide ((((IntKind.i64.wrap (((shr64 (UInt64.ofInt (a1 + a3)) 1).toNat : Nat) : Int)) + a2) - i20_6) < a3))) (fun g53 => ?_) (fun g53 => ?_)
              ·replace h := bif_t h g53
               obtain ⟨r219_1, g52, h⟩ := bind_some' h
               refine Vg hT (fM 5 (ih r219_1) fN) [] [] [0, 1] (srMerge_R l js r219_1) (aP g52 aN) ?_
               exact ⟨.inr rfl, by cases h; rfl⟩
              ·replace h := bif_f h g53
               refine Vc [] [0, 1] (srMerge_R l js dg1000000_8) (W_skip ?_)
               exact ⟨.inr rfl, by cases h; rfl⟩
             ·replace h := bif_f h g51
              refine Vg hT fN [(3, false)] [] [0, 1] ⟨[(0, kH 0), (3, kI a3), (4, .c (.s (.v (.func (.func 75) #[] #[])))), (18, kI (IntKind.i64.wrap (((shr64 (UInt64.ofInt (a1 + a3)) 1).toNat : Nat) : Int))), (24, kI (((IntKind.i64.wrap (((shr64 (UInt64.ofInt (a1 + a3)) 1).toNat : Nat) : Int)) + a2) - i20_6)), (213, kB false)], [(1000000, kH 0), (1000001, kH 1)], [⟨.row, 22, 1, js.length, .p 1 dg1000000_8⟩, ⟨(.dp false), 22, 1, l.length, .d (.by 5) l⟩]⟩ (aP g51 aN) ?_
              refine Vi (false) (fun hb => by cases hb) (fun _ => ?_)
              refine Vc [] [0, 1] (srMerge_R l js dg1000000_8) (W_skip ?_)
              exact ⟨.inr rfl, by cases h; rfl⟩
            ·refine W_seq ?_
             rcases Bool.eq_false_or_eq_true (decide (a1 < i20_6)) with g54 | g54
             ·replace h := bif_t h g54
              refine Vg hT fN [(3, true)] [] [0, 1] ⟨[(0, kH 0), (1, kI a1), (3, kI a3), (4, .c (.s (.v (.func (.func 75) #[] #[])))), (18, kI (IntKind.i64.wrap (((shr64 (UInt64.ofInt (a1 + a3)) 1).toNat : Nat) : Int))), (20, kI i20_6), (24, kI (((IntKind.i64.wrap (((shr64 (UInt64.ofInt (a1 + a3)) 1).toNat : Nat) : Int)) + a2) - i20_6)), (199, kB (decide (i20_6 < (IntKind.i64.wrap (((shr64 (UInt64.ofInt (a1 + a3)) 1).toNat : Nat) : Int)))))], [(1000000, kH 0), (1000001, kH 1)], [⟨.row, 22, 1, js.length, .p 1 dg1000000_7⟩, ⟨(.dp false), 22, 1, l.length, .d (.by 5) l⟩]⟩ (aP g54 aN) ?_
              refine Vi ((decide (i20_6 < (IntKind.i64.wrap (((shr64 (UInt64.ofInt (a1 + a3)) 1).toNat : Nat) : Int))))) (fun g56 => ?_) (fun g56 => ?_)
              ·replace h := bif_t h g56
               obtain ⟨r205_1, g55, h⟩ := bind_some' h
               refine Vg hT (fM 5 (ih r205_1) fN) [] [] [0, 1] (srMerge_j6_E l js a1 a2 a3 i20_6 r205_1) (aP g55 aN) ?_
               exact ⟨_, rfl, h⟩
              ·replace h := bif_f h g56
               refine Vc [] [0, 1] (srMerge_j6_E l js a1 a2 a3 i20_6 dg1000000_7) (W_skip ?_)
               exact ⟨_, rfl, h⟩
             ·replace h := bif_f h g54
              refine Vg hT fN [(3, false)] [] [0, 1] ⟨[(0, kH 0), (1, kI a1), (3, kI a3), (4, .c (.s (.v (.func (.func 75) #[] #[])))), (18, kI (IntKind.i64.wrap (((shr64 (UInt64.ofInt (a1 + a3)) 1).toNat : Nat) : Int))), (20, kI i20_6), (24, kI (((IntKind.i64.wrap (((shr64 (UInt64.ofInt (a1 + a3)) 1).toNat : Nat) : Int)) + a2) - i20_6)), (199, kB false)], [(1000000, kH 0), (1000001, kH 1)], [⟨.row, 22, 1, js.length, .p 1 dg1000000_7⟩, ⟨(.dp false), 22, 1, l.length, .d (.by 5) l⟩]⟩ (aP g54 aN) ?_
              refine Vi (false) (fun hb => by cases hb) (fun _ => ?_)
              refine Vc [] [0, 1] (srMerge_j6_E l js a1 a2 a3 i20_6 dg1000000_7) (W_skip ?_)
              exact ⟨_, rfl, h⟩
           ·refine W_seq ?_
            rcases Bool.eq_false_or_eq_true (decide (i20_6 < a2)) with g57 | g57
            ·replace h := bif_t h g57
             refine Vg hT fN [(3, true)] [] [0, 1] ⟨[(0, kH 0), (1, kI a1), (2, kI a2), (3, kI a3), (4, .c (.s (.v (.func (.func 75) #[] #[])))), (18, kI (IntKind.i64.wrap (((shr64 (UInt64.ofInt (a1 + a3)) 1).toNat : Nat) : Int))), (20, kI i20_6), (24, kI (((IntKind.i64.wrap (((shr64 (UInt64.ofInt (a1 + a3)) 1).toNat : Nat) : Int)) + a2) - i20_6)), (185, kB (decide (a2 < (((IntKind.i64.wrap (((shr64 (UInt64.ofInt (a1 + a3)) 1).toNat : Nat) : Int)) + a2) - i20_6))))], [(1000000, kH 0), (1000001, kH 1)], [⟨.row, 22, 1, js.length, .p 1 js⟩, ⟨(.dp false), 22, 1, l.length, .d (.by 5) l⟩]⟩ (aP g57 aN) ?_
             refine Vi ((decide (a2 < (((IntKind.i64.wrap (((shr64 (UInt64.ofInt (a1 + a3)) 1).toNat : Nat) : Int)) + a2) - i20_6)))) (fun g59 => ?_) (fun g59 => ?_)
             ·replace h := bif_t h g59
              obtain ⟨r191_1, g58, h⟩ := bind_some' h
              refine Vg hT (fM 5 (srRot_ok n r191_1) fN) [] [] [0, 1] (srMerge_j5_E l js a1 a2 a3 i20_6 r191_1) (aP g58 aN) ?_
              exact ⟨_, rfl, h⟩
             ·replace h := bif_f h g59
              refine Vc [] [0, 1] (srMerge_j5_E l js a1 a2 a3 i20_6 js) (W_skip ?_)
              exact ⟨_, rfl, h⟩
            ·replace h := bif_f h g57
             refine Vg hT fN [(3, false)] [] [0, 1] ⟨[(0, kH 0), (1, kI a1), (2, kI a2), (3, kI a3), (4, .c (.s (.v (.func (.func 75) #[] #[])))), (18, kI (IntKind.i64.wrap (((shr64 (UInt64.ofInt (a1 + a3)) 1).toNat : Nat) : Int))), (20, kI i20_6), (24, kI (((IntKind.i64.wrap (((shr64 (UInt64.ofInt (a1 + a3)) 1).toNat : Nat) : Int)) + a2) - i20_6)), (185, kB false)], [(1000000, kH 0), (1000001, kH 1)], [⟨.row, 22, 1, js.length, .p 1 js⟩, ⟨(.dp false), 22, 1, l.length, .d (.by 5) l⟩]⟩ (aP g57 aN) ?_
             refine Vi (false) (fun hb => by cases hb) (fun _ => ?_)
             refine Vc [] [0, 1] (srMerge_j5_E l js a1 a2 a3 i20_6 js) (W_skip ?_)
             exact ⟨_, rfl, h⟩
          ·refine W_block ?_
           refine Vc [] [0, 1] (srMerge_l5_E l js a1 a2 a3 i20_4 i21_3) (W_lp ((srMerge_l5_P n l js a1 a2 a3 r)) n ⟨_, _, rfl, h⟩ ?_)
           rintro fu_l5 _ ⟨i20_7, i21_5, rfl, h⟩
           cases fu_l5 with
           | zero => cases h
           | succ fu_l5 =>
            refine ⟨fu_l5, rfl, ?_⟩
            rw [srMerge_l5] at h
            refine W_seq ?_
            refine Vrs hT [0, 1] ⟨[(0, kH 0), (1, kI a1), (2, kI a2), (3, kI a3), (4, .c (.s (.v (.func (.func 75) #[] #[])))), (18, kI (IntKind.i64.wrap (((shr64 (UInt64.ofInt (a1 + a3)) 1).toNat : Nat) : Int))), (19, kI ((IntKind.i64.wrap (((shr64 (UInt64.ofInt (a1 + a3)) 1).toNat : Nat) : Int)) + a2)), (20, kI i20_7), (21, kI i21_5), (22, kI (((IntKind.i64.wrap (((shr64 (UInt64.ofInt (a1 + a3)) 1).toNat : Nat) : Int)) + a2) - 1)), (151, kB (decide (i20_7 < i21_5)))], [(1000000, kH 0), (1000001, kH 1)], [⟨.row, 22, 1, js.length, .p 1 js⟩, ⟨(.dp false), 22, 1, l.length, .d (.by 5) l⟩]⟩ ?_
            refine Vi ((decide (i20_7 < i21_5))) (fun g69 => ?_) (fun g69 => ?_)
            ·replace h := bif_t h g69
             refine W_skip ?_
             refine W_block ?_
             obtain ⟨g60, g61, h⟩ := gd2 h
             refine Vgs hT fN [] [] [0, 1] ⟨[(0, kH 0), (1, kI a1), (2, kI a2), (3, kI a3), (4, .c (.s (.v (.func (.func 75) #[] #[])))), (18, kI (IntKind.i64.wrap (((shr64 (UInt64.ofInt (a1 + a3)) 1).toNat : Nat) : Int))), (19, kI ((IntKind.i64.wrap (((shr64 (UInt64.ofInt (a1 + a3)) 1).toNat : Nat) : Int)) + a2)), (20, kI i20_7), (21, kI i21_5), (22, kI (((IntKind.i64.wrap (((shr64 (UInt64.ofInt (a1 + a3)) 1).toNat : Nat) : Int)) + a2) - 1)), (23, kI (IntKind.i64.wrap (((shr64 (UInt64.ofInt (i20_7 + i21_5)) 1).toNat : Nat) : Int)))], [(1000000, kH 0), (1000001, kH 1)], [⟨.row, 22, 1, js.length, .p 1 js⟩, ⟨(.dp false), 22, 1, l.length, .d (.by 5) l⟩]⟩ (aP g60 (aP g61 aN)) ?_
             refine W_seq ?_
             obtain ⟨g62, g63, g64, g65, g66, h⟩ := gd5 h
             refine W_regG hT (fT 11 cmp_h fN) (by kernel_rfl) [] [0, 1, 2, 3, 4, 5, 6, 7, 8, 9, 10, 12, 13] [[0, 1, 2, 3, 4, 5, 6, 7, 8, 9, 10], [0, 1, 2, 3, 4, 5, 6, 7, 8, 9, 10, 11, 12, 13]] [⟨[(0, kH 0), (1, kI a1), (2, kI a2), (3, kI a3), (4, .c (.s (.v (.func (.func 75) #[] #[])))), (18, kI (IntKind.i64.wrap (((shr64 (UInt64.ofInt (a1 + a3)) 1).toNat : Nat) : Int))), (19, kI ((IntKind.i64.wrap (((shr64 (UInt64.ofInt (a1 + a3)) 1).toNat : Nat) : Int)) + a2)), (20, kI i20_7), (21, kI i21_5), (22, kI (((IntKind.i64.wrap (((shr64 (UInt64.ofInt (a1 + a3)) 1).toNat : Nat) : Int)) + a2) - 1)), (23, kI (IntKind.i64.wrap (((shr64 (UInt64.ofInt (i20_7 + i21_5)) 1).toNat : Nat) : Int))), (158, .c (.s (.v (.func (.func 75) #[] #[])))), (159, kH 0), (160, kI (((IntKind.i64.wrap (((shr64 (UInt64.ofInt (a1 + a3)) 1).toNat : Nat) : Int)) + a2) - 1)), (161, kI (IntKind.i64.wrap (((shr64 (UInt64.ofInt (i20_7 + i21_5)) 1).toNat : Nat) : Int))), (162, kI ((((IntKind.i64.wrap (((shr64 (UInt64.ofInt (a1 + a3)) 1).toNat : Nat) : Int)) + a2) - 1) - (IntKind.i64.wrap (((shr64 (UInt64.ofInt (i20_7 + i21_5)) 1).toNat : Nat) : Int)))), (163, kP 0 (((((IntKind.i64.wrap (((shr64 (UInt64.ofInt (a1 + a3)) 1).toNat : Nat) : Int)) + a2) - 1) - (IntKind.i64.wrap (((shr64 (UInt64.ofInt (i20_7 + i21_5)) 1).toNat : Nat) : Int))).toNat)), (164, .c (.gi 1 (js.getD (((((IntKind.i64.wrap (((shr64 (UInt64.ofInt (a1 + a3)) 1).toNat : Nat) : Int)) + a2) - 1) - (IntKind.i64.wrap (((shr64 (UInt64.ofInt (i20_7 + i21_5)) 1).toNat : Nat) : Int))).toNat) 0))), (165, kH 0), (166, kI (IntKind.i64.wrap (((shr64 (UInt64.ofInt (i20_7 + i21_5)) 1).toNat : Nat) : Int))), (167, kP 0 ((IntKind.i64.wrap (((shr64 (UInt64.ofInt (i20_7 + i21_5)) 1).toNat : Nat) : Int)).toNat)), (168, .c (.gi 1 (js.getD ((IntKind.i64.wrap (((shr64 (UInt64.ofInt (i20_7 + i21_5)) 1).toNat : Nat) : Int)).toNat) 0)))], [(1000000, kH 0), (1000001, kH 1)], [⟨.row, 22, 1, js.length, .p 1 js⟩, ⟨(.dp false), 22, 1, l.length, .d (.by 5) l⟩]⟩, ⟨[(0, kH 0), (1, kI a1), (2, kI a2), (3, kI a3), (4, .c (.s (.v (.func (.func 75) #[] #[])))), (18, kI (IntKind.i64.wrap (((shr64 (UInt64.ofInt (a1 + a3)) 1).toNat : Nat) : Int))), (19, kI ((IntKind.i64.wrap (((shr64 (UInt64.ofInt (a1 + a3)) 1).toNat : Nat) : Int)) + a2)), (20, kI i20_7), (21, kI i21_5), (22, kI (((IntKind.i64.wrap (((shr64 (UInt64.ofInt (a1 + a3)) 1).toNat : Nat) : Int)) + a2) - 1)), (23, kI (IntKind.i64.wrap (((shr64 (UInt64.ofInt (i20_7 + i21_5)) 1).toNat : Nat) : Int))), (169, kI (Lib.compareBytes (l.getD (js.getD (((((IntKind.i64.wrap (((shr64 (UInt64.ofInt (a1 + a3)) 1).toNat : Nat) : Int)) + a2) - 1) - (IntKind.i64.wrap (((shr64 (UInt64.ofInt (i20_7 + i21_5)) 1).toNat : Nat) : Int))).toNat) 0) []) (l.getD (js.getD ((IntKind.i64.wrap (((shr64 (UInt64.ofInt (i20_7 + i21_5)) 1).toNat : Nat) : Int)).toNat) 0) []))), (170, kB (decide ((Lib.compareBytes (l.getD (js.getD (((((IntKind.i64.wrap (((shr64 (UInt64.ofInt (a1 + a3)) 1).toNat : Nat) : Int)) + a2) - 1) - (IntKind.i64.wrap (((shr64 (UInt64.ofInt (i20_7 + i21_5)) 1).toNat : Nat) : Int))).toNat) 0) []) (l.getD (js.getD ((IntKind.i64.wrap (((shr64 (UInt64.ofInt (i20_7 + i21_5)) 1).toNat : Nat) : Int)).toNat) 0) [])) < (0 : Int)))), (171, kB (!(decide ((Lib.compareBytes (l.getD (js.getD (((((IntKind.i64.wrap (((shr64 (UInt64.ofInt (a1 + a3)) 1).toNat : Nat) : Int)) + a2) - 1) - (IntKind.i64.wrap (((shr64 (UInt64.ofInt (i20_7 + i21_5)) 1).toNat : Nat) : Int))).toNat) 0) []) (l.getD (js.getD ((IntKind.i64.wrap (((shr64 (UInt64.ofInt (i20_7 + i21_5)) 1).toNat : Nat) : Int)).toNat) 0) [])) < (0 : Int)))))], [(1000000, kH 0), (1000001, kH 1)], [⟨.row, 22, 1, js.length, .p 1 js⟩, ⟨(.dp false), 22, 1, l.length, .d (.by 5) l⟩]⟩] [0, 1, 2, 3, 4, 5, 6, 7, 8, 9, 10] [⟨0, 11, 1, [12, 13], [], [0, 1, 2, 3, 4, 18, 19, 20, 21, 22, 23, 169, 170, 171], [0, 1]⟩] [(0, 0), (0, 1), (0, 2), (0, 3), (0, 4), (0, 5), (0, 6), (0, 7), (0, 8), (0, 9), (0, 10), (1, 12), (1, 13)] 1 [0, 1, 2, 3, 4, 18, 19, 20, 21, 22, 23, 158, 159, 160, 161, 162, 163, 164, 165, 166, 167, 168] [0, 1] [] [0, 1, 2, 3, 4, 18, 19, 20, 21, 22, 23, 171] [0, 1] (s' := ⟨[(0, kH 0), (1, kI a1), (2, kI a2), (3, kI a3), (4, .c (.s (.v (.func (.func 75) #[] #[])))), (18, kI (IntKind.i64.wrap (((shr64 (UInt64.ofInt (a1 + a3)) 1).toNat : Nat) : Int))), (19, kI ((IntKind.i64.wrap (((shr64 (UInt64.ofInt (a1 + a3)) 1).toNat : Nat) : Int)) + a2)), (20, kI i20_7), (21, kI i21_5), (22, kI (((IntKind.i64.wrap (((shr64 (UInt64.ofInt (a1 + a3)) 1).toNat : Nat) : Int)) + a2) - 1)), (23, kI (IntKind.i64.wrap (((shr64 (UInt64.ofInt (i20_7 + i21_5)) 1).toNat : Nat) : Int))), (171, kB (!(decide ((Lib.compareBytes (l.getD (js.getD (((((IntKind.i64.wrap (((shr64 (UInt64.ofInt (a1 + a3)) 1).toNat : Nat) : Int)) + a2) - 1) - (IntKind.i64.wrap (((shr64 (UInt64.ofInt (i20_7 + i21_5)) 1).toNat : Nat) : Int))).toNat) 0) []) (l.getD (js.getD ((IntKind.i64.wrap (((shr64 (UInt64.ofInt (i20_7 + i21_5)) 1).toNat : Nat) : Int)).toNat) 0) [])) < (0 : Int)))))], [(1000000, kH 0), (1000001, kH 1)], [⟨.row, 22, 1, js.length, .p 1 js⟩, ⟨(.dp false), 22, 1, l.length, .d (.by 5) l⟩]⟩) (by kernel_rfl) ⟨_, (by kernel_rfl), (allP_cons.2 ⟨g62, (allP_cons.2 ⟨g63, (allP_cons.2 ⟨g64, (allP_cons.2 ⟨g65, (allP_cons.2 ⟨g66, allP_nil⟩)⟩)⟩)⟩)⟩)⟩ (AllE.cons ⟨_, (by kernel_rfl), allP_nil⟩ AllE.nil) (AllR.cons ⟨_, (by kernel_rfl), allP_nil⟩ (AllR.cons ⟨_, (by kernel_rfl), allP_nil⟩ (AllR.cons ⟨_, (by kernel_rfl), allP_nil⟩ (AllR.cons ⟨_, (by kernel_rfl), allP_nil⟩ (AllR.cons ⟨_, (by kernel_rfl), (allP_cons.2 ⟨g62, allP_nil⟩)⟩ (AllR.cons ⟨_, (by kernel_rfl), (allP_cons.2 ⟨g63, (allP_cons.2 ⟨g64, allP_nil⟩)⟩)⟩ (AllR.cons ⟨_, (by kernel_rfl), allP_nil⟩ (AllR.cons ⟨_, (by kernel_rfl), allP_nil⟩ (AllR.cons ⟨_, (by kernel_rfl), allP_nil⟩ (AllR.cons ⟨_, (by kernel_rfl), (allP_cons.2 ⟨g65, (allP_cons.2 ⟨g66, allP_nil⟩)⟩)⟩ (AllR.cons ⟨_, (by kernel_rfl), allP_nil⟩ (AllR.cons ⟨_, (by kernel_rfl), allP_nil⟩ (AllR.cons ⟨_, (by kernel_rfl), allP_nil⟩ AllR.nil))))))))))))) (by kernel_rfl) ?_
             refine Vi ((!(decide ((Lib.compareBytes (l.getD (js.getD (((((IntKind.i64.wrap (((shr64 (UInt64.ofInt (a1 + a3)) 1).toNat : Nat) : Int)) + a2) - 1) - (IntKind.i64.wrap (((shr64 (UInt64.ofInt (i20_7 + i21_5)) 1).toNat : Nat) : Int))).toNat) 0) []) (l.getD (js.getD ((IntKind.i64.wrap (((shr64 (UInt64.ofInt (i20_7 + i21_5)) 1).toNat : Nat) : Int)).toNat) 0) [])) < (0 : Int))))) (fun g68 => ?_) (fun g68 => ?_)
             ·replace h := bif_t h g68
              obtain ⟨g67, h⟩ := gd_some h
              refine Vg hT fN [] [] [0, 1] (srMerge_l5_E l js a1 a2 a3 ((IntKind.i64.wrap (((shr64 (UInt64.ofInt (i20_7 + i21_5)) 1).toNat : Nat) : Int)) + 1) i21_5) (aP g67 aN) ?_
              exact ⟨_, _, rfl, h⟩
             ·replace h := bif_f h g68
              refine Vr hT [0, 1] (srMerge_l5_E l js a1 a2 a3 i20_7 (IntKind.i64.wrap (((shr64 (UInt64.ofInt (i20_7 + i21_5)) 1).toNat : Nat) : Int))) ?_
              exact ⟨_, _, rfl, h⟩
            ·replace h := bif_f h g69
             refine Vc [] [0, 1] (srMerge_j4_E l js a1 a2 a3 i20_7) (W_exit ?_)
             exact ⟨_, rfl, h⟩
         ·refine W_seq ?_
          refine Vr hT [0, 1] ⟨[(0, kH 0), (1, kI a1), (2, kI a2), (3, kI a3), (4, .c (.s (.v (.func (.func 75) #[] #[])))), (18, kI (IntKind.i64.wrap (((shr64 (UInt64.ofInt (a1 + a3)) 1).toNat : Nat) : Int))), (19, kI ((IntKind.i64.wrap (((shr64 (UInt64.ofInt (a1 + a3)) 1).toNat : Nat) : Int)) + a2)), (140, kB (decide ((IntKind.i64.wrap (((shr64 (UInt64.ofInt (a1 + a3)) 1).toNat : Nat) : Int)) < a2)))], [(1000000, kH 0), (1000001, kH 1)], [⟨.row, 22, 1, js.length, .p 1 js⟩, ⟨(.dp false), 22, 1, l.length, .d (.by 5) l⟩]⟩ ?_
          refine Vi ((decide ((IntKind.i64.wrap (((shr64 (UInt64.ofInt (a1 + a3)) 1).toNat : Nat) : Int)) < a2))) (fun g71 => ?_) (fun g71 => ?_)
          ·replace h := bif_t h g71
           obtain ⟨g70, h⟩ := gd_some h
           refine Vgs hT fN [] [] [0, 1] ⟨[(0, kH 0), (1, kI a1), (2, kI a2), (3, kI a3), (4, .c (.s (.v (.func (.func 75) #[] #[])))), (18, kI (IntKind.i64.wrap (((shr64 (UInt64.ofInt (a1 + a3)) 1).toNat : Nat) : Int))), (19, kI ((IntKind.i64.wrap (((shr64 (UInt64.ofInt (a1 + a3)) 1).toNat : Nat) : Int)) + a2)), (20, kI (((IntKind.i64.wrap (((shr64 (UInt64.ofInt (a1 + a3)) 1).toNat : Nat) : Int)) + a2) - a3))], [(1000000, kH 0), (1000001, kH 1)], [⟨.row, 22, 1, js.length, .p 1 js⟩, ⟨(.dp false), 22, 1, l.length, .d (.by 5) l⟩]⟩ (aP g70 aN) ?_
           refine Vr hT [0, 1] (srMerge_j3_E l js a1 a2 a3 (((IntKind.i64.wrap (((shr64 (UInt64.ofInt (a1 + a3)) 1).toNat : Nat) : Int)) + a2) - a3) (IntKind.i64.wrap (((shr64 (UInt64.ofInt (a1 + a3)) 1).toNat : Nat) : Int))) ?_
           exact ⟨_, _, rfl, h⟩
          ·replace h := bif_f h g71
           refine Vrs hT [0, 1] ⟨[(0, kH 0), (1, kI a1), (2, kI a2), (3, kI a3), (4, .c (.s (.v (.func (.func 75) #[] #[])))), (18, kI (IntKind.i64.wrap (((shr64 (UInt64.ofInt (a1 + a3)) 1).toNat : Nat) : Int))), (19, kI ((IntKind.i64.wrap (((shr64 (UInt64.ofInt (a1 + a3)) 1).toNat : Nat) : Int)) + a2)), (20, kI a1)], [(1000000, kH 0), (1000001, kH 1)], [⟨.row, 22, 1, js.length, .p 1 js⟩, ⟨(.dp false), 22, 1, l.length, .d (.by 5) l⟩]⟩ ?_
           refine Vr hT [0, 1] (srMerge_j3_E l js a1 a2 a3 a1 a2) ?_
           exact ⟨_, _, rfl, h⟩
  ·cases ns with
   | nil => exact (show False from h).elim
   | cons a1 ns =>
    cases ns with
    | nil => exact (show False from h).elim
    | cons a2 ns =>
     cases ns with
     | nil => exact (show False from h).elim
     | cons a3 ns =>
      cases ns with
      | cons z ns => exact (show False from h).elim
      | nil =>
       exact Nat.le_of_ble_eq_true rfl
def srStable_j3_E (l : List (List UInt8)) (js : List Nat) (a1 : Int) (i6_1 : Int) (dg1000000_30 : List Nat) : S := ⟨[(0, kH 0), (1, kI a1), (2, .c (.s (.v (.func (.func 75) #[] #[])))), (6, kI i6_1)], [(1000000, kH 0), (1000001, kH 1)], [⟨.row, 22, 1, js.length, .p 1 dg1000000_30⟩, ⟨(.dp false), 22, 1, l.length, .d (.by 5) l⟩]⟩
abbrev srStable_j3_P (n : Nat) (l : List (List UInt8)) (js : List Nat) (a1 : Int) (i6_1 : Int) (k_l1 : (List Nat) → Int → Option (List Nat)) (r : List Nat) : S → Prop := fun s => ∃ (dg1000000_30 : List Nat), s = srStable_j3_E l js a1 i6_1 dg1000000_30 ∧ srStable_j3 n l js a1 i6_1 k_l1 dg1000000_30 = some r
def srStable_j2_E (l : List (List UInt8)) (js : List Nat) (a1 : Int) (i6_1 : Int) (dg1000000_29 : List Nat) (i7_21 : Int) : S := ⟨[(0, kH 0), (1, kI a1), (2, .c (.s (.v (.func (.func 75) #[] #[])))), (6, kI i6_1), (7, kI i7_21)], [(1000000, kH 0), (1000001, kH 1)], [⟨.row, 22, 1, js.length, .p 1 dg1000000_29⟩, ⟨(.dp false), 22, 1, l.length, .d (.by 5) l⟩]⟩
abbrev srStable_j2_P (n : Nat) (l : List (List UInt8)) (js : List Nat) (a1 : Int) (i6_1 : Int) (k_l1 : (List Nat) → Int → Option (List Nat)) (r : List Nat) : S → Prop := fun s => ∃ (dg1000000_29 : List Nat), ∃ (i7_21 : Int), s = srStable_j2_E l js a1 i6_1 dg1000000_29 i7_21 ∧ srStable_j2 n l js a1 i6_1 k_l1 dg1000000_29 i7_21 = some r
def srStable_l2_E (l : List (List UInt8)) (js : List Nat) (a1 : Int) (i6_1 : Int) (dg1000000_31 : List Nat) (i7_22 : Int) (i8_14 : Int) : S := ⟨[(0, kH 0), (1, kI a1), (2, .c (.s (.v (.func (.func 75) #[] #[])))), (6, kI i6_1), (7, kI i7_22), (8, kI i8_14)], [(1000000, kH 0), (1000001, kH 1)], [⟨.row, 22, 1, js.length, .p 1 dg1000000_31⟩, ⟨(.dp false), 22, 1, l.length, .d (.by 5) l⟩]⟩
abbrev srStable_l2_P (n : Nat) (l : List (List UInt8)) (js : List Nat) (a1 : Int) (i6_1 : Int) (k_l1 : (List Nat) → Int → Option (List Nat)) (r : List Nat) (fu : Nat) : S → Prop := fun s => ∃ (dg1000000_31 : List Nat), ∃ (i7_22 : Int), ∃ (i8_14 : Int), s = srStable_l2_E l js a1 i6_1 dg1000000_31 i7_22 i8_14 ∧ srStable_l2 n l js a1 i6_1 k_l1 fu dg1000000_31 i7_22 i8_14 = some r
def srStable_l1_E (l : List (List UInt8)) (js : List Nat) (a1 : Int) (dg1000000_23 : List Nat) (i6_1 : Int) : S := ⟨[(0, kH 0), (1, kI a1), (2, .c (.s (.v (.func (.func 75) #[] #[])))), (6, kI i6_1)], [(1000000, kH 0), (1000001, kH 1)], [⟨.row, 22, 1, js.length, .p 1 dg1000000_23⟩, ⟨(.dp false), 22, 1, l.length, .d (.by 5) l⟩]⟩
abbrev srStable_l1_P (n : Nat) (l : List (List UInt8)) (js : List Nat) (a1 : Int) (r : List Nat) (fu : Nat) : S → Prop := fun s => ∃ (dg1000000_23 : List Nat), ∃ (i6_1 : Int), s = srStable_l1_E l js a1 dg1000000_23 i6_1 ∧ srStable_l1 n l js a1 fu dg1000000_23 i6_1 = some r
def srStable_j1_E (l : List (List UInt8)) (js : List Nat) (a1 : Int) (dg1000000_18 : List Nat) (i7_13 : Int) : S := ⟨[(0, kH 0), (1, kI a1), (2, .c (.s (.v (.func (.func 75) #[] #[])))), (6, kI 20), (7, kI i7_13)], [(1000000, kH 0), (1000001, kH 1)], [⟨.row, 22, 1, js.length, .p 1 dg1000000_18⟩, ⟨(.dp false), 22, 1, l.length, .d (.by 5) l⟩]⟩
abbrev srStable_j1_P (n : Nat) (l : List (List UInt8)) (js : List Nat) (a1 : Int) (r : List Nat) : S → Prop := fun s => ∃ (dg1000000_18 : List Nat), ∃ (i7_13 : Int), s = srStable_j1_E l js a1 dg1000000_18 i7_13 ∧ srStable_j1 n l js a1 dg1000000_18 i7_13 = some r
def srStable_l3_E (l : List (List UInt8)) (js : List Nat) (a1 : Int) (dg1000000_32 : List Nat) (i7_23 : Int) (i8_15 : Int) : S := ⟨[(0, kH 0), (1, kI a1), (2, .c (.s (.v (.func (.func 75) #[] #[])))), (6, kI 20), (7, kI i7_23), (8, kI i8_15)], [(1000000, kH 0), (1000001, kH 1)], [⟨.row, 22, 1, js.length, .p 1 dg1000000_32⟩, ⟨(.dp false), 22, 1, l.length, .d (.by 5) l⟩]⟩
abbrev srStable_l3_P (n : Nat) (l : List (List UInt8)) (js : List Nat) (a1 : Int) (r : List Nat) (fu : Nat) : S → Prop := fun s => ∃ (dg1000000_32 : List Nat), ∃ (i7_23 : Int), ∃ (i8_15 : Int), s = srStable_l3_E l js a1 dg1000000_32 i7_23 i8_15 ∧ srStable_l3 n l js a1 fu dg1000000_32 i7_23 i8_15 = some r
def srStable_R (l : List (List UInt8)) (js : List Nat) (r : List Nat) : S := ⟨[], [(1000000, kH 0), (1000001, kH 1)], [⟨.row, 22, 1, js.length, .p 1 r⟩, ⟨(.dp false), 22, 1, l.length, .d (.by 5) l⟩]⟩
def srStable_ct (n : Nat) (r : List Nat) : CtM := rwC 75 22 (fun l js ns => match ns with | [a1] => srStable n l js a1 = some r | _ => False) r
theorem srStable_ok (n : Nat) (r : List Nat) : FnMOk Try.prog 84 (srStable_ct n r) := by
 refine fnokR (e' := 5) 63 (fun l js => srStable_R l js r) Try.func84 (fun w bs l js ns h => ?_) (fun l js ns h => ?_) (fun l js => ⟨_, rfl⟩)
 ·cases ns with
  | nil => exact (show False from h).elim
  | cons a1 ns =>
   cases ns with
   | cons z ns => exact (show False from h).elim
   | nil =>
    have h : srStable n l js a1 = some r := h
    unfold srStable at h
    have hT := tabO_psa
    refine Vrs hT [0, 1] ⟨[(0, kH 0), (1, kI a1), (2, .c (.s (.v (.func (.func 75) #[] #[])))), (6, kI 20)], [(1000000, kH 0), (1000001, kH 1)], [⟨.row, 22, 1, js.length, .p 1 js⟩, ⟨(.dp false), 22, 1, l.length, .d (.by 5) l⟩]⟩ ?_
    refine Vrs hT [0, 1] ⟨[(0, kH 0), (1, kI a1), (2, .c (.s (.v (.func (.func 75) #[] #[])))), (6, kI 20), (7, kI 0), (8, kI 20)], [(1000000, kH 0), (1000001, kH 1)], [⟨.row, 22, 1, js.length, .p 1 js⟩, ⟨(.dp false), 22, 1, l.length, .d (.by 5) l⟩]⟩ ?_
    refine W_join (srStable_j1_P n l js a1 r) ?_ ?_
    ·rintro _ ⟨dg1000000_18, i7_13, rfl, h⟩
     unfold srStable_j1 at h
     obtain ⟨r27_1, g1, h⟩ := bind_some' h
     refine Vgs hT (fM 4 (srIns_ok n r27_1) fN) [] [] [0, 1] ⟨[(0, kH 0), (1, kI a1), (2, .c (.s (.v (.func (.func 75) #[] #[])))), (6, kI 20)], [(1000000, kH 0), (1000001, kH 1)], [⟨.row, 22, 1, js.length, .p 1 r27_1⟩, ⟨(.dp false), 22, 1, l.length, .d (.by 5) l⟩]⟩ (aP g1 aN) ?_
     refine W_block ?_
     refine Vc [] [0, 1] (srStable_l1_E l js a1 r27_1 20) (W_lp ((srStable_l1_P n l js a1 r)) n ⟨_, _, rfl, h⟩ ?_)
     rintro fu_l1 _ ⟨dg1000000_23, i6_1, rfl, h⟩
     cases fu_l1 with
     | zero => cases h
     | succ fu_l1 =>
      refine ⟨fu_l1, rfl, ?_⟩
      rw [srStable_l1] at h
      refine W_seq ?_
      refine Vrs hT [0, 1] ⟨[(0, kH 0), (1, kI a1), (2, .c (.s (.v (.func (.func 75) #[] #[])))), (6, kI i6_1), (30, kB (decide (i6_1 < a1)))], [(1000000, kH 0), (1000001, kH 1)], [⟨.row, 22, 1, js.length, .p 1 dg1000000_23⟩, ⟨(.dp false), 22, 1, l.length, .d (.by 5) l⟩]⟩ ?_
      refine Vi ((decide (i6_1 < a1))) (fun g12 => ?_) (fun g12 => ?_)
      ·replace h := bif_t h g12
       refine W_skip ?_
       refine W_block ?_
       obtain ⟨g2, h⟩ := gd_some h
       refine Vgs hT fN [] [] [0, 1] ⟨[(0, kH 0), (1, kI a1), (2, .c (.s (.v (.func (.func 75) #[] #[])))), (6, kI i6_1), (7, kI 0), (8, kI (2 * i6_1))], [(1000000, kH 0), (1000001, kH 1)], [⟨.row, 22, 1, js.length, .p 1 dg1000000_23⟩, ⟨(.dp false), 22, 1, l.length, .d (.by 5) l⟩]⟩ (aP g2 aN) ?_
       refine W_join (srStable_j2_P n l js a1 i6_1 (srStable_l1 n l js a1 fu_l1) r) ?_ ?_
       ·rintro _ ⟨dg1000000_29, i7_21, rfl, h⟩
        unfold srStable_j2 at h
        refine W_join (srStable_j3_P n l js a1 i6_1 (srStable_l1 n l js a1 fu_l1) r) ?_ ?_
        ·rintro _ ⟨dg1000000_30, rfl, h⟩
         unfold srStable_j3 at h
         obtain ⟨g3, h⟩ := gd_some h
         refine Vg hT fN [] [] [0, 1] (srStable_l1_E l js a1 dg1000000_30 (i6_1 * 2)) (aP g3 aN) ?_
         exact ⟨_, _, rfl, h⟩
        ·refine W_seq ?_
         obtain ⟨g4, h⟩ := gd_some h
         refine Vg hT fN [] [] [0, 1] ⟨[(0, kH 0), (1, kI a1), (2, .c (.s (.v (.func (.func 75) #[] #[])))), (6, kI i6_1), (7, kI i7_21), (9, kI (i7_21 + i6_1))], [(1000000, kH 0), (1000001, kH 1)], [⟨.row, 22, 1, js.length, .p 1 dg1000000_29⟩, ⟨(.dp false), 22, 1, l.length, .d (.by 5) l⟩]⟩ (aP g4 aN) ?_
         refine Vrs hT [0, 1] ⟨[(0, kH 0), (1, kI a1), (2, .c (.s (.v (.func (.func 75) #[] #[])))), (6, kI i6_1), (7, kI i7_21), (9, kI (i7_21 + i6_1)), (54, kB (decide ((i7_21 + i6_1) < a1)))], [(1000000, kH 0), (1000001, kH 1)], [⟨.row, 22, 1, js.length, .p 1 dg1000000_29⟩, ⟨(.dp false), 22, 1, l.length, .d (.by 5) l⟩]⟩ ?_
         refine Vi ((decide ((i7_21 + i6_1) < a1))) (fun g6 => ?_) (fun g6 => ?_)
         ·replace h := bif_t h g6
          obtain ⟨r60_5, g5, h⟩ := bind_some' h
          refine Vg hT (fM 5 (srMerge_ok n r60_5) fN) [] [] [0, 1] (srStable_j3_E l js a1 i6_1 r60_5) (aP g5 aN) ?_
          exact ⟨_, rfl, h⟩
         ·replace h := bif_f h g6
          refine Vc [] [0, 1] (srStable_j3_E l js a1 i6_1 dg1000000_29) (W_skip ?_)
          exact ⟨_, rfl, h⟩
       ·refine W_block ?_
        refine Vc [] [0, 1] (srStable_l2_E l js a1 i6_1 dg1000000_23 0 (2 * i6_1)) (W_lp ((srStable_l2_P n l js a1 i6_1 (srStable_l1 n l js a1 fu_l1) r)) n ⟨_, _, _, rfl, h⟩ ?_)
        rintro fu_l2 _ ⟨dg1000000_31, i7_22, i8_14, rfl, h⟩
        cases fu_l2 with
        | zero => cases h
        | succ fu_l2 =>
         refine ⟨fu_l2, rfl, ?_⟩
         rw [srStable_l2] at h
         refine W_seq ?_
         refine Vrs hT [0, 1] ⟨[(0, kH 0), (1, kI a1), (2, .c (.s (.v (.func (.func 75) #[] #[])))), (6, kI i6_1), (7, kI i7_22), (8, kI i8_14), (35, kB (decide (i8_14 ≤ a1)))], [(1000000, kH 0), (1000001, kH 1)], [⟨.row, 22, 1, js.length, .p 1 dg1000000_31⟩, ⟨(.dp false), 22, 1, l.length, .d (.by 5) l⟩]⟩ ?_
         refine Vi ((decide (i8_14 ≤ a1))) (fun g11 => ?_) (fun g11 => ?_)
         ·replace h := bif_t h g11
          refine W_skip ?_
          refine W_block ?_
          obtain ⟨g7, h⟩ := gd_some h
          obtain ⟨r43_15, g8, h⟩ := bind_some' h
          refine Vgs hT (fM 7 (srMerge_ok n r43_15) fN) [] [] [0, 1] ⟨[(0, kH 0), (1, kI a1), (2, .c (.s (.v (.func (.func 75) #[] #[])))), (6, kI i6_1), (8, kI i8_14)], [(1000000, kH 0), (1000001, kH 1)], [⟨.row, 22, 1, js.length, .p 1 r43_15⟩, ⟨(.dp false), 22, 1, l.length, .d (.by 5) l⟩]⟩ (aP g7 (aP g8 aN)) ?_
          refine Vrs hT [0, 1] ⟨[(0, kH 0), (1, kI a1), (2, .c (.s (.v (.func (.func 75) #[] #[])))), (6, kI i6_1), (7, kI i8_14), (8, kI i8_14)], [(1000000, kH 0), (1000001, kH 1)], [⟨.row, 22, 1, js.length, .p 1 r43_15⟩, ⟨(.dp false), 22, 1, l.length, .d (.by 5) l⟩]⟩ ?_
          obtain ⟨g9, g10, h⟩ := gd2 h
          refine Vg hT fN [] [] [0, 1] (srStable_l2_E l js a1 i6_1 r43_15 i8_14 (i8_14 + (2 * i6_1))) (aP g9 (aP g10 aN)) ?_
          exact ⟨_, _, _, rfl, h⟩
         ·replace h := bif_f h g11
          refine Vc [] [0, 1] (srStable_j2_E l js a1 i6_1 dg1000000_31 i7_22) (W_exit ?_)
          exact ⟨_, _, rfl, h⟩
      ·replace h := bif_f h g12
       refine Vc [] [0, 1] (srStable_R l js dg1000000_23) (W_exit ?_)
       exact ⟨.inr rfl, by cases h; rfl⟩
    ·refine W_block ?_
     refine Vc [] [0, 1] (srStable_l3_E l js a1 js 0 20) (W_lp ((srStable_l3_P n l js a1 r)) n ⟨_, _, _, rfl, h⟩ ?_)
     rintro fu_l3 _ ⟨dg1000000_32, i7_23, i8_15, rfl, h⟩
     cases fu_l3 with
     | zero => cases h
     | succ fu_l3 =>
      refine ⟨fu_l3, rfl, ?_⟩
      rw [srStable_l3] at h
      refine W_seq ?_
      refine Vrs hT [0, 1] ⟨[(0, kH 0), (1, kI a1), (2, .c (.s (.v (.func (.func 75) #[] #[])))), (6, kI 20), (7, kI i7_23), (8, kI i8_15), (13, kB (decide (i8_15 ≤ a1)))], [(1000000, kH 0), (1000001, kH 1)], [⟨.row, 22, 1, js.length, .p 1 dg1000000_32⟩, ⟨(.dp false), 22, 1, l.length, .d (.by 5) l⟩]⟩ ?_
      refine Vi ((decide (i8_15 ≤ a1))) (fun g15 => ?_) (fun g15 => ?_)
      ·replace h := bif_t h g15
       refine W_skip ?_
       refine W_block ?_
       obtain ⟨r18_4, g13, h⟩ := bind_some' h
       refine Vgs hT (fM 4 (srIns_ok n r18_4) fN) [] [] [0, 1] ⟨[(0, kH 0), (1, kI a1), (2, .c (.s (.v (.func (.func 75) #[] #[])))), (6, kI 20), (8, kI i8_15)], [(1000000, kH 0), (1000001, kH 1)], [⟨.row, 22, 1, js.length, .p 1 r18_4⟩, ⟨(.dp false), 22, 1, l.length, .d (.by 5) l⟩]⟩ (aP g13 aN) ?_
       refine Vrs hT [0, 1] ⟨[(0, kH 0), (1, kI a1), (2, .c (.s (.v (.func (.func 75) #[] #[])))), (6, kI 20), (7, kI i8_15), (8, kI i8_15)], [(1000000, kH 0), (1000001, kH 1)], [⟨.row, 22, 1, js.length, .p 1 r18_4⟩, ⟨(.dp false), 22, 1, l.length, .d (.by 5) l⟩]⟩ ?_
       obtain ⟨g14, h⟩ := gd_some h
       refine Vg hT fN [] [] [0, 1] (srStable_l3_E l js a1 r18_4 i8_15 (i8_15 + 20)) (aP g14 aN) ?_
       exact ⟨_, _, _, rfl, h⟩
      ·replace h := bif_f h g15
       refine Vc [] [0, 1] (srStable_j1_E l js a1 dg1000000_32 i7_23) (W_exit ?_)
       exact ⟨_, _, rfl, h⟩
 ·cases ns with
  | nil => exact (show False from h).elim
  | cons a1 ns =>
   cases ns with
   | cons z ns => exact (show False from h).elim
   | nil =>
    exact Nat.le_of_ble_eq_true rfl
def srSort_R (l : List (List UInt8)) (js : List Nat) (r : List Nat) : S := ⟨[], [(1000000, kH 0), (1000001, kH 1)], [⟨.row, 22, 1, js.length, .p 1 r⟩, ⟨(.dp false), 22, 1, l.length, .d (.by 5) l⟩]⟩
def srSort_ct (n : Nat) (r : List Nat) : CtM := rwC 75 22 (fun l js ns => match ns with | [] => srSort n l js = some r | _ => False) r
theorem srSort_ok (n : Nat) (r : List Nat) : FnMOk Try.prog 74 (srSort_ct n r) := by
 refine fnokR (e' := 5) 9 (fun l js => srSort_R l js r) Try.func74 (fun w bs l js ns h => ?_) (fun l js ns h => ?_) (fun l js => ⟨_, rfl⟩)
 ·cases ns with
  | cons z ns => exact (show False from h).elim
  | nil =>
   have h : srSort n l js = some r := h
   unfold srSort at h
   have hT := tabO_psa
   obtain ⟨r8, g1, h⟩ := bind_some' h
   refine Vg hT (fM 4 (srStable_ok n r8) fN) [] [] [0, 1] (srSort_R l js r8) (aP g1 aN) ?_
   exact ⟨.inr rfl, by cases h; rfl⟩
 ·cases ns with
  | cons z ns => exact (show False from h).elim
  | nil =>
   exact Nat.le_of_ble_eq_true rfl
end Go.Proofs.Ytliilihbnhdemaa
end
section
namespace Go.Proofs.Ytliilihbnhdemaa
open Go.RowKit Go.Ch Go.Sx
theorem clp_info : (Try.prog.info? 22).map (fun i => (i.zero, i.size, i.bytes)) = some (some (.slice none 0 0), 1, 24) := by kernel_rfl
set_option maxHeartbeats 400000 in
set_option maxRecDepth 100000 in
theorem clonep_c (w : World) (B : Nat) (v : Value) (vs : List Value) (hv : Sl w B v vs) (h1 : ∀ u ∈ vs, u.oneCell' = true) (hl : vs.length ≤ 1000000000) :
  Calls Try.prog 73 #[v] w (Ret fun v' w' => Ext w w' ∧ Own w' w.heap.size 22 v' vs) := by
 obtain ⟨i22, hi22, hz22, hs22, hb22⟩ := info_parts clp_info
 go_enter Try.func73, Try.ntmps73
 go_wp2_with (first
  | ((with_reducible refine g_at (d := 4) ?_); refine wpl_eq_nil rfl Try.underlying82 hv ?_; intro b4 hb4; try (conv in (Act.put _ _ _) => simp only [Act.put, List.setIfInBounds_toArray, List.set_cons_succ, List.set_cons_zero]))
  | ((with_reducible refine g_at (d := 5) ?_); refine wpl_buildSlice (vs := []) Try.underlying82 hi22 hz22 hs22 rfl (xs := []) rfl rfl rfl (by simp) (by omega) ?_; intro v5 w5 h5 hx5 ha5; try (conv in (Act.put _ _ _) => simp only [Act.put, List.setIfInBounds_toArray, List.set_cons_succ, List.set_cons_zero]))
  | ((with_reducible refine g_at (d := 7) ?_); refine wpl_append (v := v5) rfl rfl Try.underlying82 hi22 hz22 hs22 hb22 rfl h5 (hv.ext hx5) h1 (by first | omega | (simp <;> omega)) (by omega) hx5.size ?_; intro v7 w7 h7 hg7 ha7 hx7; try (conv in (Act.put _ _ _) => simp only [Act.put, List.setIfInBounds_toArray, List.set_cons_succ, List.set_cons_zero])))
 ·go_ret
  have := hb4 (by assumption)
  exact ⟨_, rfl, Below.refl _ _, by rw [this]; exact World.ownsRow_nil _ _ _ _⟩
 ·go_ret
  exact ⟨_, rfl, hx5.trans hx7, by simpa using h7⟩
theorem own_slice {w : World} {B : Nat} {e : TypeId} {v : Value} {vs : List Value} (h : Own w B e v vs) : ∃ p : Pl, v = .slice p.A p.n p.cap ∧ p.sz = 1 ∧ p.n = vs.length ∧ ∀ g, (∃ ad, p.A = some ad ∧ ad.block = g) → B ≤ g := by
 have hn := h.1
 rcases h.2 with ⟨hv, hn0⟩ | ⟨g, cap, cur, hv, hg, _⟩
 ·exact ⟨pl4 none 0 0 1, hv, rfl, hn0.symm, fun g ⟨ad, had, _⟩ => by cases had⟩
 ·exact ⟨pl4 (some ⟨g, 0, none⟩) vs.length cap 1, hv, rfl, rfl, fun g' ⟨ad, had, he⟩ => by injection had with had; subst had; subst he; exact hg⟩
theorem own_up {w : World} {B B' : Nat} {e : TypeId} {v : Value} {n : Nat} {vs : List Value} (h : w.ownsRow B e 1 v n vs) (hb : ∀ g, v.ownBlock = some g → B' ≤ g) : Own w B' e v vs := by
 have hn := h.1
 rw [Nat.mul_one] at hn
 subst hn
 refine ⟨h.1, ?_⟩
 rcases h.2 with h0 | ⟨g, cap, cur, hv, hg, r⟩
 ·exact .inl h0
 ·exact .inr ⟨g, cap, cur, hv, hb g (by rw [hv]; rfl), r⟩
theorem sort_c (n : Nat) {l : List (List UInt8)} {js js' : List Nat} (h : srSort n l js = some js') {ρ : Pls} {j : Nat} {o2 : Oj} {b : Bool} {e' : TypeId} {w0 w : World} (hk : o2.kd = .dp b) (hc : o2.cs = .d (.by e') l) (ho : objR ρ w0 (ρ j) o2)
  (hx : Ext w0 w) {v : Value} {vs : List Value} (hown : Own w w0.heap.size 22 v vs) (hcs : csR ρ (.p j js) vs) :
  Calls Try.prog 74 #[v, .func (.func 75) #[] #[]] w (Ret fun _ w' => Ext w0 w' ∧ ∃ vs', Own w' w0.heap.size 22 v vs' ∧ csR ρ (.p j js') vs' ∧ vs'.length = vs.length) := by
 obtain ⟨p, rfl, p1, p2, p3⟩ := own_slice hown
 have hjl : vs.length = js.length := by have := hcs.1; simpa [Cs.cl] using this.symm
 let ρ1 : Pls := fun q => match q with | 0 => p | _ => ρ j
 let H1 : Hp := [⟨.row, 22, 1, js.length, .p 1 js⟩, ⟨.dp false, 22, 1, l.length, .d (.by e') l⟩]
 unfold objR at ho
 simp only [hk] at ho
 unfold DpR at ho
 rw [hc] at ho
 obtain ⟨⟨d1, d2, d3, d4⟩, d5, d6, d7⟩ := ho
 have hdp : ∀ ρ' : Pls, objR ρ' w0 (ρ j) ⟨.dp false, 22, 1, l.length, .d (.by e') l⟩ := fun ρ' => ⟨⟨d1.trans d4, d2.trans d3, rfl, rfl⟩, d5, d6, d7⟩
 have hp1 : HpR ρ1 w H1 := fun q o hq => by
  match q, hq with
  | 0, hq =>
   simp [H1] at hq; subst hq
   refine ⟨⟨p1, p2.trans hjl, by simp [Cs.cl]⟩, vs, gi_mono (ρ := ρ) (ρ' := ρ1) (j := j) (j' := 1) rfl hcs, ?_⟩
   have := hown.down (Nat.zero_le _)
   show w.ownsRow 0 _ 1 (.slice p.A p.n p.cap) p.n vs
   have e9 := p2
   rw [p2] at this ⊢
   exact this
  | 1, hq =>
   simp [H1] at hq; subst hq
   exact (hdp ρ1).keep fun g hg _ => hx.block g hg
  | q + 2, hq => simp [H1] at hq
 have hs1 : SepR ρ1 H1 := fun i1 j1 a c g hij hi hj hao hat hat2 => by
  match i1, hi with
  | 0, hi =>
   simp [H1] at hi; subst hi
   match j1, hj with
   | 0, _ => exact hij rfl
   | 1, hj =>
    simp [H1] at hj; subst hj
    have h1 := p3 g hat
    have h2 := d6 g hat2
    omega
   | q + 2, hj => simp [H1] at hj
  | 1, hi => simp [H1] at hi; subst hi; cases hao
  | q + 2, hi => simp [H1] at hi
 refine calls_mono ((srSort_ok n js').ct [kH 0, kFn 75] H1 _ _ _ _ rfl (allP_cons.2 ⟨h, allP_nil⟩) ρ1 w [.slice p.A p.n p.cap, .func (.func 75) #[] #[]] hp1 hs1 (F2.cons (show _ = _ from rfl) (F2.cons (show _ = _ from rfl) F2.nil))) fun v' w' ⟨hkp, ps, pu, hL⟩ => ?_
 have hcb : ∀ g, consB ρ1 H1 [(0, (⟨.row, 22, 1, js.length, .p 1 js'⟩ : Oj))] g → w0.heap.size ≤ g := fun g ⟨i1, o', o, hm, ho, _, hat⟩ => by
  simp only [List.mem_singleton, Prod.mk.injEq] at hm
  obtain ⟨rfl, _⟩ := hm
  simp [H1] at ho; subst ho
  exact p3 g hat
 refine ⟨⟨hkp.os.trans hx.os, hkp.tape.trans hx.tape, hkp.output.trans hx.output, Nat.le_trans hx.size hkp.size, fun k hk => (hkp.block k (Nat.lt_of_lt_of_le hk hx.size) fun hc => by have := hcb k hc; omega).trans (hx.block k hk)⟩, ?_⟩
 have hu := hL.upd 0 _ (List.mem_singleton.2 rfl)
 have hsm := hL.same 0 _ (List.mem_singleton.2 rfl)
 obtain ⟨⟨f1, f2, f3⟩, vs2, hc2, hrow2⟩ := hu
 have eA : (pu 0).A = p.A := hsm.A
 have en : (pu 0).n = p.n := hsm.n
 have ec : (pu 0).cap = p.cap := hsm.cap
 rw [eA, en, ec] at hrow2
 have hps : ps = [] := List.eq_nil_of_length_eq_zero hL.len
 subst hps
 refine ⟨vs2, own_up hrow2 fun g hg => ?_, ?_⟩
 ·cases hA : p.A with
  | none => rw [hA] at hg; cases hg
  | some ad =>
   rw [hA] at hg
   injection hg with hg
   exact p3 g ⟨ad, hA, hg⟩
 ·refine ⟨gi_mono (j := 1) (j' := j) rfl hc2, ?_⟩
  have h8 := hc2.len
  rw [f3] at h8
  rw [h8, hjl]
  exact Nat.mul_one _
theorem left_rowP {ρ : Pls} {w w' : World} {H : Hp} {v : Value} {e : TypeId} {vs : List Value} {cs : Cs} {n : Nat} (h : Own w' w.heap.size e v vs) (hc : csR ρ cs vs) (hlt : ltX H.length cs = true) (hn : vs.length = n) :
  ∃ ps, Go.Sx.Left ρ w H (.c (.wh H.length)) [⟨.row, e, 1, n, cs⟩] v w' ps := by
 obtain ⟨p, rfl, e1, e2, hp⟩ := own_slice h
 have hu : updL ρ H.length [p] (H.length + 0) = p := updL_at rfl
 rw [Nat.add_zero] at hu
 refine ⟨[p], rfl, fun k o q ho hq => ?_, ?_, fun k o q g ho hq hat => ?_, fun k l o o' q q' g hkl ho ho' => ?_⟩
 ·cases k with
  | zero =>
   simp at ho hq; subst ho; subst hq
   have hc' := ltX_ok (ρ' := updL ρ H.length [p]) updL_lt hlt hc
   refine ⟨⟨e1, e2.trans hn, by rw [← hc'.len, hn]; simp⟩, vs, hc', ?_⟩
   have := h.down (Nat.zero_le _)
   rw [e2] at this ⊢
   exact this
  | succ k => simp at ho
 ·show clR _ (.wh _) _
  simp only [clR, hu]
 ·cases k with
  | zero => simp at ho hq; subst ho; subst hq; exact .inl (hp g hat)
  | succ k => simp at ho
 ·cases k with
  | zero => cases l with
   | zero => exact absurd rfl hkl
   | succ l => simp at ho'
  | succ k => simp at ho
def sorted_ct (n : Nat) (js' : List Nat) : Ct := fun args H => match args with
 | [.c c] => (match vcs H c with
  | some (1, k, .p j js) => (match H[j]? with
   | some o2 => (match o2.kd, o2.cs with
    | .dp _, .d (.by _) l => some ([k ≤ 1000000000, srSort n l js = some js'], .c (.wh H.length), [⟨.row, 22, 1, k, .p j js'⟩])
    | _, _ => none)
   | none => none)
  | _ => none)
 | _ => none
set_option maxHeartbeats 400000 in
set_option maxRecDepth 100000 in
theorem sorted_c (n : Nat) {l : List (List UInt8)} {js js' : List Nat} (h : srSort n l js = some js') {ρ : Pls} {j : Nat} {o2 : Oj} {b : Bool} {e' : TypeId} {w : World} (hk : o2.kd = .dp b) (hc : o2.cs = .d (.by e') l) (ho : objR ρ w (ρ j) o2)
  {B : Nat} {v : Value} {vs : List Value} (hv : Sl w B v vs) (h1 : ∀ u ∈ vs, u.oneCell' = true) (hl : vs.length ≤ 1000000000) (hcs : csR ρ (.p j js) vs) :
  Calls Try.prog 45 #[v] w (Ret fun v' w' => Ext w w' ∧ ∃ vs', Own w' w.heap.size 22 v' vs' ∧ csR ρ (.p j js') vs' ∧ vs'.length = vs.length) := by
 go_enter Try.func45, Try.ntmps45
 go_wp2_with (first
  | ((with_reducible refine g_at (d := 5) ?_); refine wpl_call Try.func73 (by kernel_rfl) (by kernel_rfl) rfl (clonep_c w B v vs hv h1 hl) ?_; rintro v5 w5 ⟨hx5, h5⟩; try (conv in (Act.put _ _ _) => simp only [Act.put, List.setIfInBounds_toArray, List.set_cons_succ, List.set_cons_zero]))
  | ((with_reducible refine g_at (d := 7) ?_); refine wpl_call Try.func74 (by kernel_rfl) (by kernel_rfl) rfl (sort_c n h hk hc ho hx5 h5 hcs) ?_; rintro v7 w7 ⟨hx7, vs7, h7, hc7, hl7⟩; try (conv in (Act.put _ _ _) => simp only [Act.put, List.setIfInBounds_toArray, List.set_cons_succ, List.set_cons_zero])))
 go_ret
 exact ⟨_, rfl, hx7, vs7, h7, hc7, hl7⟩
theorem sorted_h (n : Nat) (js' : List Nat) : FnOk Try.prog Tr 45 (sorted_ct n js') := by
 refine ⟨fun args H g av objs hF hg ρ w vals hG hp ha => ?_, _, Try.func45, by kernel_rfl, by kernel_rfl⟩
 unfold sorted_ct at hF
 split at hF
 ·rename_i c
  split at hF
  ·rename_i k j js hvc
   split at hF
   ·rename_i o2 ho2
    split at hF
    ·rename_i b e' l hk2 hc2
     injection hF with hF
     simp only [Prod.mk.injEq] at hF
     obtain ⟨rfl, rfl, rfl⟩ := hF
     obtain ⟨v, vals, rfl, hv, ha⟩ := F2.inv ha
     obtain rfl := F2.inv0 ha
     obtain ⟨vs, hcs, hS⟩ := vcs_ok hp hvc hv
     have hlen : vs.length = k := by have := hS.1; omega
     have hg' : k ≤ 1000000000 ∧ srSort n l js = some js' := by simpa [allP] using hg
     have hsl := hS.sl
     refine calls_mono (sorted_c n hg'.2 hk2 hc2 (hp j o2 ho2) hsl (fun u hu => (okX_ok (cs := .p j js) rfl hcs u hu).2) (by omega) hcs) fun v' w' ⟨hx, vs', ho', hc', hl'⟩ => ⟨hx, left_rowP ho' hc' ?_ ?_⟩
     ·simp only [ltX, decide_eq_true_eq]
      exact (List.getElem?_eq_some_iff.1 ho2).1
     ·omega
    ·cases hF
   ·cases hF
  ·cases hF
 ·cases hF
end Go.Proofs.Ytliilihbnhdemaa
end
