import Derived.Test.YtliilihbnhdemaaZ2
import Derived.Test.YtliilihbnhdemaaProg
section
set_option linter.unusedVariables false
set_option linter.unusedSimpArgs false
namespace Go.Proofs.Ytliilihbnhdemaa
open Go.RowKit Go.Ch Go.Sx

def tabL_pz : List (TypeId × Ti) := [(3, ⟨.int .i64, 1, 8, true, some [.int .i64]⟩),
  (5, ⟨.int .u8, 1, 1, true, some [.int .u8]⟩),
  (9, ⟨.str, 1, 16, true, some [.str]⟩),
  (22, ⟨.sl 5, 1, 24, false, some [.nils]⟩),
  (28, ⟨.ifc, 1, 16, true, some [.ifc]⟩),
  (31, ⟨.int .i64, 1, 8, true, some [.int .i64]⟩),
  (34, ⟨.st [(3, 0), (3, 1), (3, 2), (3, 3), (3, 4), (3, 5)], 6, 48, true, some [.int .i64, .int .i64, .int .i64, .int .i64, .int .i64, .int .i64]⟩),
  (76, ⟨.sl 3, 1, 24, false, some [.nils]⟩)]
def tab_pz : Tab := fun t => (tabL_pz).lookup t
theorem tabE_pz : (tabL_pz.map fun p => tiOf Try.prog p.1) = tabL_pz.map fun p => some p.2 := by kernel_rfl
theorem tabO_pz : TabOk Try.prog tab_pz := tab_of tabE_pz

def pReadTime_j2 (n : Nat) (a0 : UInt8) (z7_5 : List Int) : Option (Int × Int × Int × Int × Int × Int × Option Int) :=
  gd (0 ≤ (0 : Int)) <|
  gd ((0 : Int) < ((z7_5.length : Nat) : Int)) <|
  gd (okI .i64 ((z7_5.getD 0 0) * 100)) <|
  gd (0 ≤ (1 : Int)) <|
  gd ((1 : Int) < ((z7_5.length : Nat) : Int)) <|
  gd (okI .i64 (((z7_5.getD 0 0) * 100) + (z7_5.getD 1 0))) <|
  gd (0 ≤ (2 : Int)) <|
  gd ((2 : Int) < ((z7_5.length : Nat) : Int)) <|
  gd (0 ≤ (3 : Int)) <|
  gd ((3 : Int) < ((z7_5.length : Nat) : Int)) <|
  gd (0 ≤ (4 : Int)) <|
  gd ((4 : Int) < ((z7_5.length : Nat) : Int)) <|
  gd (0 ≤ (5 : Int)) <|
  gd ((5 : Int) < ((z7_5.length : Nat) : Int)) <|
  gd (0 ≤ (6 : Int)) <|
  gd ((6 : Int) < ((z7_5.length : Nat) : Int)) <|
  (pTime n (((z7_5.getD 0 0) * 100) + (z7_5.getD 1 0)) (z7_5.getD 2 0) (z7_5.getD 3 0) (z7_5.getD 4 0) (z7_5.getD 5 0) (z7_5.getD 6 0)).bind fun r128_2 =>
  bif (!((r128_2.2.2).isNone)) then
    some (0, 0, 0, 0, 0, 0, (some 2))
  else
    bif (r128_2.1 != a0) then
      some (0, 0, 0, 0, 0, 0, (some 2))
    else
      some ((((z7_5.getD 0 0) * 100) + (z7_5.getD 1 0)), (z7_5.getD 2 0), (z7_5.getD 3 0), (z7_5.getD 4 0), (z7_5.getD 5 0), (z7_5.getD 6 0), none)
def pReadTime_j3 (n : Nat) (a0 : UInt8) (z7_4 : List Int) (i9_5 : Int) : Option (Int × Int × Int × Int × Int × Int × Option Int) :=
  gd (rmB (1 + z7_4.length) 8) <|
  pReadTime_j2 n a0 ([i9_5] ++ z7_4)
def pReadTime_l1 (n : Nat) (a0 : UInt8) (a1 : List UInt8) (i6_1 : Int) : Nat → List Int → Int → Option (Int × Int × Int × Int × Int × Int × Option Int)
  | 0, _, _ => none
  | fu_l1 + 1, z7_4, i8_2 =>
    gd (okI .i64 (i6_1 - 1)) <|
    bif (decide (i8_2 < (i6_1 - 1))) then
      gd (0 ≤ i8_2) <|
      gd (i8_2 < ((a1.length : Nat) : Int)) <|
      bif (decide ((a1.getD i8_2.toNat 0) < (48 : UInt8))) then
        some (0, 0, 0, 0, 0, 0, (some 2))
      else
        gd (0 ≤ i8_2) <|
        gd (i8_2 < ((a1.length : Nat) : Int)) <|
        bif (decide ((57 : UInt8) < (a1.getD i8_2.toNat 0))) then
          some (0, 0, 0, 0, 0, 0, (some 2))
        else
          gd (okI .i64 (i8_2 + 1)) <|
          gd (0 ≤ (i8_2 + 1)) <|
          gd ((i8_2 + 1) < ((a1.length : Nat) : Int)) <|
          bif (decide ((a1.getD ((i8_2 + 1).toNat) 0) < (48 : UInt8))) then
            some (0, 0, 0, 0, 0, 0, (some 2))
          else
            gd (okI .i64 (i8_2 + 1)) <|
            gd (0 ≤ (i8_2 + 1)) <|
            gd ((i8_2 + 1) < ((a1.length : Nat) : Int)) <|
            bif (decide ((57 : UInt8) < (a1.getD ((i8_2 + 1).toNat) 0))) then
              some (0, 0, 0, 0, 0, 0, (some 2))
            else
              gd (0 ≤ i8_2) <|
              gd (i8_2 < ((a1.length : Nat) : Int)) <|
              gd (okI .i64 (((((a1.getD i8_2.toNat 0) - (48 : UInt8)).toNat : Nat) : Int) * 10)) <|
              gd (okI .i64 (i8_2 + 1)) <|
              gd (0 ≤ (i8_2 + 1)) <|
              gd ((i8_2 + 1) < ((a1.length : Nat) : Int)) <|
              gd (okI .i64 ((((((a1.getD i8_2.toNat 0) - (48 : UInt8)).toNat : Nat) : Int) * 10) + ((((a1.getD ((i8_2 + 1).toNat) 0) - (48 : UInt8)).toNat : Nat) : Int))) <|
              gd (rmB (z7_4.length + 1) 8) <|
              gd (okI .i64 (i8_2 + 2)) <|
              (pReadTime_l1 n a0 a1 i6_1 fu_l1) (z7_4 ++ [((((((a1.getD i8_2.toNat 0) - (48 : UInt8)).toNat : Nat) : Int) * 10) + ((((a1.getD ((i8_2 + 1).toNat) 0) - (48 : UInt8)).toNat : Nat) : Int))]) (i8_2 + 2)
    else
      bif (a0 == 23) then
        gd (0 ≤ (0 : Int)) <|
        gd ((0 : Int) < ((z7_4.length : Nat) : Int)) <|
        bif (decide ((50 : Int) ≤ (z7_4.getD 0 0))) then
          pReadTime_j3 n a0 z7_4 19
        else
          pReadTime_j3 n a0 z7_4 20
      else
        pReadTime_j2 n a0 z7_4
def pReadTime_j4 (n : Nat) (a0 : UInt8) (z7_7 : List Int) : Option (Int × Int × Int × Int × Int × Int × Option Int) :=
  gd (0 ≤ (0 : Int)) <|
  gd ((0 : Int) < ((z7_7.length : Nat) : Int)) <|
  gd (okI .i64 ((z7_7.getD 0 0) * 100)) <|
  gd (0 ≤ (1 : Int)) <|
  gd ((1 : Int) < ((z7_7.length : Nat) : Int)) <|
  gd (okI .i64 (((z7_7.getD 0 0) * 100) + (z7_7.getD 1 0))) <|
  gd (0 ≤ (2 : Int)) <|
  gd ((2 : Int) < ((z7_7.length : Nat) : Int)) <|
  gd (0 ≤ (3 : Int)) <|
  gd ((3 : Int) < ((z7_7.length : Nat) : Int)) <|
  gd (0 ≤ (4 : Int)) <|
  gd ((4 : Int) < ((z7_7.length : Nat) : Int)) <|
  gd (0 ≤ (5 : Int)) <|
  gd ((5 : Int) < ((z7_7.length : Nat) : Int)) <|
  gd (0 ≤ (6 : Int)) <|
  gd ((6 : Int) < ((z7_7.length : Nat) : Int)) <|
  (pTime n (((z7_7.getD 0 0) * 100) + (z7_7.getD 1 0)) (z7_7.getD 2 0) (z7_7.getD 3 0) (z7_7.getD 4 0) (z7_7.getD 5 0) (z7_7.getD 6 0)).bind fun r128_3 =>
  bif (!((r128_3.2.2).isNone)) then
    some (0, 0, 0, 0, 0, 0, (some 2))
  else
    bif (r128_3.1 != a0) then
      some (0, 0, 0, 0, 0, 0, (some 2))
    else
      some ((((z7_7.getD 0 0) * 100) + (z7_7.getD 1 0)), (z7_7.getD 2 0), (z7_7.getD 3 0), (z7_7.getD 4 0), (z7_7.getD 5 0), (z7_7.getD 6 0), none)
def pReadTime_j5 (n : Nat) (a0 : UInt8) (z7_6 : List Int) (i9_7 : Int) : Option (Int × Int × Int × Int × Int × Int × Option Int) :=
  gd (rmB (1 + z7_6.length) 8) <|
  pReadTime_j4 n a0 ([i9_7] ++ z7_6)
def pReadTime_l2 (n : Nat) (a0 : UInt8) (a1 : List UInt8) (i6_1 : Int) : Nat → List Int → Int → Option (Int × Int × Int × Int × Int × Int × Option Int)
  | 0, _, _ => none
  | fu_l2 + 1, z7_6, i8_3 =>
    gd (okI .i64 (i6_1 - 1)) <|
    bif (decide (i8_3 < (i6_1 - 1))) then
      gd (0 ≤ i8_3) <|
      gd (i8_3 < ((a1.length : Nat) : Int)) <|
      bif (decide ((a1.getD i8_3.toNat 0) < (48 : UInt8))) then
        some (0, 0, 0, 0, 0, 0, (some 2))
      else
        gd (0 ≤ i8_3) <|
        gd (i8_3 < ((a1.length : Nat) : Int)) <|
        bif (decide ((57 : UInt8) < (a1.getD i8_3.toNat 0))) then
          some (0, 0, 0, 0, 0, 0, (some 2))
        else
          gd (okI .i64 (i8_3 + 1)) <|
          gd (0 ≤ (i8_3 + 1)) <|
          gd ((i8_3 + 1) < ((a1.length : Nat) : Int)) <|
          bif (decide ((a1.getD ((i8_3 + 1).toNat) 0) < (48 : UInt8))) then
            some (0, 0, 0, 0, 0, 0, (some 2))
          else
            gd (okI .i64 (i8_3 + 1)) <|
            gd (0 ≤ (i8_3 + 1)) <|
            gd ((i8_3 + 1) < ((a1.length : Nat) : Int)) <|
            bif (decide ((57 : UInt8) < (a1.getD ((i8_3 + 1).toNat) 0))) then
              some (0, 0, 0, 0, 0, 0, (some 2))
            else
              gd (0 ≤ i8_3) <|
              gd (i8_3 < ((a1.length : Nat) : Int)) <|
              gd (okI .i64 (((((a1.getD i8_3.toNat 0) - (48 : UInt8)).toNat : Nat) : Int) * 10)) <|
              gd (okI .i64 (i8_3 + 1)) <|
              gd (0 ≤ (i8_3 + 1)) <|
              gd ((i8_3 + 1) < ((a1.length : Nat) : Int)) <|
              gd (okI .i64 ((((((a1.getD i8_3.toNat 0) - (48 : UInt8)).toNat : Nat) : Int) * 10) + ((((a1.getD ((i8_3 + 1).toNat) 0) - (48 : UInt8)).toNat : Nat) : Int))) <|
              gd (rmB (z7_6.length + 1) 8) <|
              gd (okI .i64 (i8_3 + 2)) <|
              (pReadTime_l2 n a0 a1 i6_1 fu_l2) (z7_6 ++ [((((((a1.getD i8_3.toNat 0) - (48 : UInt8)).toNat : Nat) : Int) * 10) + ((((a1.getD ((i8_3 + 1).toNat) 0) - (48 : UInt8)).toNat : Nat) : Int))]) (i8_3 + 2)
    else
      bif (a0 == 23) then
        gd (0 ≤ (0 : Int)) <|
        gd ((0 : Int) < ((z7_6.length : Nat) : Int)) <|
        bif (decide ((50 : Int) ≤ (z7_6.getD 0 0))) then
          pReadTime_j5 n a0 z7_6 19
        else
          pReadTime_j5 n a0 z7_6 20
      else
        pReadTime_j4 n a0 z7_6
def pReadTime_j1 (n : Nat) (a0 : UInt8) (a1 : List UInt8) (i6_1 : Int) : Option (Int × Int × Int × Int × Int × Int × Option Int) :=
  bif (a0 != 23) then
    bif (a0 != 24) then
      some (0, 0, 0, 0, 0, 0, (some 2))
    else
      bif (((a1.length : Nat) : Int) != i6_1) then
        some (0, 0, 0, 0, 0, 0, (some 2))
      else
        gd (okI .i64 (i6_1 - 1)) <|
        gd (0 ≤ (i6_1 - 1)) <|
        gd ((i6_1 - 1) < ((a1.length : Nat) : Int)) <|
        bif ((a1.getD ((i6_1 - 1).toNat) 0) != 90) then
          some (0, 0, 0, 0, 0, 0, (some 2))
        else
          pReadTime_l1 n a0 a1 i6_1 n [] 0
  else
    bif (((a1.length : Nat) : Int) != i6_1) then
      some (0, 0, 0, 0, 0, 0, (some 2))
    else
      gd (okI .i64 (i6_1 - 1)) <|
      gd (0 ≤ (i6_1 - 1)) <|
      gd ((i6_1 - 1) < ((a1.length : Nat) : Int)) <|
      bif ((a1.getD ((i6_1 - 1).toNat) 0) != 90) then
        some (0, 0, 0, 0, 0, 0, (some 2))
      else
        pReadTime_l2 n a0 a1 i6_1 n [] 0
def pReadTime (n : Nat) (a0 : UInt8) (a1 : List UInt8) : Option (Int × Int × Int × Int × Int × Int × Option Int) :=
  bif (a0 == 24) then
    pReadTime_j1 n a0 a1 15
  else
    pReadTime_j1 n a0 a1 13
def rtwo (n : Nat) (a0 : Int) : Option (List UInt8) :=
  gd ((10 : Int) ≠ 0) <|
  gd (okI .i64 (Int.tdiv a0 10)) <|
  gd ((10 : Int) ≠ 0) <|
  gd (okI .i64 (48 + (Int.tmod (Int.tdiv a0 10) 10))) <|
  gd ((10 : Int) ≠ 0) <|
  gd (okI .i64 (48 + (Int.tmod a0 10))) <|
  some [(UInt8.ofInt (48 + (Int.tmod (Int.tdiv a0 10) 10))), (UInt8.ofInt (48 + (Int.tmod a0 10)))]
def rTime (n : Nat) (a0_0 : Int) (a0_1 : Int) (a0_2 : Int) (a0_3 : Int) (a0_4 : Int) (a0_5 : Int) : Option (UInt8 × List UInt8) :=
  gd ((100 : Int) ≠ 0) <|
  (rtwo n (Int.tmod a0_0 100)).bind fun r8 =>
  (rtwo n a0_1).bind fun r11 =>
  gd (rmB (r8.length + r11.length) 1) <|
  (rtwo n a0_2).bind fun r15 =>
  gd (rmB (((r8 ++ r11).length) + r15.length) 1) <|
  (rtwo n a0_3).bind fun r19 =>
  gd (rmB ((((r8 ++ r11) ++ r15).length) + r19.length) 1) <|
  (rtwo n a0_4).bind fun r23 =>
  gd (rmB (((((r8 ++ r11) ++ r15) ++ r19).length) + r23.length) 1) <|
  (rtwo n a0_5).bind fun r27 =>
  gd (rmB ((((((r8 ++ r11) ++ r15) ++ r19) ++ r23).length) + r27.length) 1) <|
  gd (rmB (((((((r8 ++ r11) ++ r15) ++ r19) ++ r23) ++ r27).length) + 1) 1) <|
  bif (decide ((1950 : Int) ≤ a0_0)) then
    bif (decide (a0_0 ≤ (2049 : Int))) then
      some (23, ((((((r8 ++ r11) ++ r15) ++ r19) ++ r23) ++ r27) ++ [90]))
    else
      gd ((100 : Int) ≠ 0) <|
      gd (okI .i64 (Int.tdiv a0_0 100)) <|
      (rtwo n (Int.tdiv a0_0 100)).bind fun r44 =>
      gd (rmB (r44.length + (((((((r8 ++ r11) ++ r15) ++ r19) ++ r23) ++ r27) ++ [90]).length)) 1) <|
      some (24, (r44 ++ ((((((r8 ++ r11) ++ r15) ++ r19) ++ r23) ++ r27) ++ [90])))
  else
    gd ((100 : Int) ≠ 0) <|
    gd (okI .i64 (Int.tdiv a0_0 100)) <|
    (rtwo n (Int.tdiv a0_0 100)).bind fun r44 =>
    gd (rmB (r44.length + (((((((r8 ++ r11) ++ r15) ++ r19) ++ r23) ++ r27) ++ [90]).length)) 1) <|
    some (24, (r44 ++ ((((((r8 ++ r11) ++ r15) ++ r19) ++ r23) ++ r27) ++ [90])))
def rdigits (n : Nat) (a0 : List UInt8) (a1 : Int) : Option (Int) :=
  gd (0 ≤ a1) <|
  gd (a1 < ((a0.length : Nat) : Int)) <|
  bif (decide ((a0.getD a1.toNat 0) < (48 : UInt8))) then
    some (-1)
  else
    gd (0 ≤ a1) <|
    gd (a1 < ((a0.length : Nat) : Int)) <|
    bif (decide ((57 : UInt8) < (a0.getD a1.toNat 0))) then
      some (-1)
    else
      gd (okI .i64 (a1 + 1)) <|
      gd (0 ≤ (a1 + 1)) <|
      gd ((a1 + 1) < ((a0.length : Nat) : Int)) <|
      bif (decide ((a0.getD ((a1 + 1).toNat) 0) < (48 : UInt8))) then
        some (-1)
      else
        gd (okI .i64 (a1 + 1)) <|
        gd (0 ≤ (a1 + 1)) <|
        gd ((a1 + 1) < ((a0.length : Nat) : Int)) <|
        bif (decide ((57 : UInt8) < (a0.getD ((a1 + 1).toNat) 0))) then
          some (-1)
        else
          gd (0 ≤ a1) <|
          gd (a1 < ((a0.length : Nat) : Int)) <|
          gd (okI .i64 (10 * ((((a0.getD a1.toNat 0) - (48 : UInt8)).toNat : Nat) : Int))) <|
          gd (okI .i64 (a1 + 1)) <|
          gd (0 ≤ (a1 + 1)) <|
          gd ((a1 + 1) < ((a0.length : Nat) : Int)) <|
          gd (okI .i64 ((10 * ((((a0.getD a1.toNat 0) - (48 : UInt8)).toNat : Nat) : Int)) + ((((a0.getD ((a1 + 1).toNat) 0) - (48 : UInt8)).toNat : Nat) : Int))) <|
          some ((10 * ((((a0.getD a1.toNat 0) - (48 : UInt8)).toNat : Nat) : Int)) + ((((a0.getD ((a1 + 1).toNat) 0) - (48 : UInt8)).toNat : Nat) : Int))
def rReadTime_j1 (n : Nat) (a0 : UInt8) (a1 : List UInt8) (i7_2 : Int) : Option (Int × Int × Int × Int × Int × Int × Bool) :=
  gd (okI .i64 ((((a1.length : Nat) : Int) - 13) + 2)) <|
  (rdigits n a1 ((((a1.length : Nat) : Int) - 13) + 2)).bind fun r45 =>
  gd (okI .i64 ((((a1.length : Nat) : Int) - 13) + 4)) <|
  (rdigits n a1 ((((a1.length : Nat) : Int) - 13) + 4)).bind fun r49 =>
  gd (okI .i64 ((((a1.length : Nat) : Int) - 13) + 6)) <|
  (rdigits n a1 ((((a1.length : Nat) : Int) - 13) + 6)).bind fun r53 =>
  gd (okI .i64 ((((a1.length : Nat) : Int) - 13) + 8)) <|
  (rdigits n a1 ((((a1.length : Nat) : Int) - 13) + 8)).bind fun r57 =>
  gd (okI .i64 ((((a1.length : Nat) : Int) - 13) + 10)) <|
  (rdigits n a1 ((((a1.length : Nat) : Int) - 13) + 10)).bind fun r61 =>
  (rMay8 n i7_2 r45 r49 r53 r57 r61).bind fun r64_2 =>
  bif (!r64_2) then
    some (0, 0, 0, 0, 0, 0, false)
  else
    (rTime n i7_2 r45 r49 r53 r57 r61).bind fun r70_2 =>
    bif (r70_2.1 != a0) then
      some (0, 0, 0, 0, 0, 0, false)
    else
      bif (r70_2.2 != a1) then
        some (0, 0, 0, 0, 0, 0, false)
      else
        some (i7_2, r45, r49, r53, r57, r61, true)
def rReadTime_j2 (n : Nat) (a0 : UInt8) (a1 : List UInt8) (i7_3 : Int) : Option (Int × Int × Int × Int × Int × Int × Bool) :=
  gd (okI .i64 ((((a1.length : Nat) : Int) - 13) + 2)) <|
  (rdigits n a1 ((((a1.length : Nat) : Int) - 13) + 2)).bind fun r45 =>
  gd (okI .i64 ((((a1.length : Nat) : Int) - 13) + 4)) <|
  (rdigits n a1 ((((a1.length : Nat) : Int) - 13) + 4)).bind fun r49 =>
  gd (okI .i64 ((((a1.length : Nat) : Int) - 13) + 6)) <|
  (rdigits n a1 ((((a1.length : Nat) : Int) - 13) + 6)).bind fun r53 =>
  gd (okI .i64 ((((a1.length : Nat) : Int) - 13) + 8)) <|
  (rdigits n a1 ((((a1.length : Nat) : Int) - 13) + 8)).bind fun r57 =>
  gd (okI .i64 ((((a1.length : Nat) : Int) - 13) + 10)) <|
  (rdigits n a1 ((((a1.length : Nat) : Int) - 13) + 10)).bind fun r61 =>
  (rMay8 n i7_3 r45 r49 r53 r57 r61).bind fun r64_3 =>
  bif (!r64_3) then
    some (0, 0, 0, 0, 0, 0, false)
  else
    (rTime n i7_3 r45 r49 r53 r57 r61).bind fun r70_3 =>
    bif (r70_3.1 != a0) then
      some (0, 0, 0, 0, 0, 0, false)
    else
      bif (r70_3.2 != a1) then
        some (0, 0, 0, 0, 0, 0, false)
      else
        some (i7_3, r45, r49, r53, r57, r61, true)
def rReadTime (n : Nat) (a0 : UInt8) (a1 : List UInt8) : Option (Int × Int × Int × Int × Int × Int × Bool) :=
  bif (((a1.length : Nat) : Int) != 13) then
    bif (((a1.length : Nat) : Int) != 15) then
      some (0, 0, 0, 0, 0, 0, false)
    else
      gd (okI .i64 (((a1.length : Nat) : Int) - 13)) <|
      (rdigits n a1 (((a1.length : Nat) : Int) - 13)).bind fun r26 =>
      bif (((a1.length : Nat) : Int) == 15) then
        (rdigits n a1 0).bind fun r32 =>
        gd (okI .i64 (100 * r32)) <|
        gd (okI .i64 (r26 + (100 * r32))) <|
        rReadTime_j1 n a0 a1 (r26 + (100 * r32))
      else
        bif (decide ((50 : Int) ≤ r26)) then
          gd (okI .i64 (r26 + 1900)) <|
          rReadTime_j1 n a0 a1 (r26 + 1900)
        else
          gd (okI .i64 (r26 + 2000)) <|
          rReadTime_j1 n a0 a1 (r26 + 2000)
  else
    gd (okI .i64 (((a1.length : Nat) : Int) - 13)) <|
    (rdigits n a1 (((a1.length : Nat) : Int) - 13)).bind fun r26 =>
    bif (((a1.length : Nat) : Int) == 15) then
      (rdigits n a1 0).bind fun r32 =>
      gd (okI .i64 (100 * r32)) <|
      gd (okI .i64 (r26 + (100 * r32))) <|
      rReadTime_j2 n a0 a1 (r26 + (100 * r32))
    else
      bif (decide ((50 : Int) ≤ r26)) then
        gd (okI .i64 (r26 + 1900)) <|
        rReadTime_j2 n a0 a1 (r26 + 1900)
      else
        gd (okI .i64 (r26 + 2000)) <|
        rReadTime_j2 n a0 a1 (r26 + 2000)
def lTimes_j1 (n : Nat) (a1 : UInt8) (a2 : List UInt8) (r18 : Bool) : Option (Bool) :=
  (pReadTime n a1 a2).bind fun r66 =>
  (rReadTime n a1 a2).bind fun r72 =>
  bif (!r72.2.2.2.2.2.2) then
    bif r18 then
      gd (¬((r66.2.2.2.2.2.2 : Option Int) = none ∧ ((some 2) : Option Int) = none)) <|
      bif (r66.2.2.2.2.2.2 == (some 2)) then
        some ((r66.1 == (0 : Int)) && ((r66.2.1 == (0 : Int)) && ((r66.2.2.1 == (0 : Int)) && ((r66.2.2.2.1 == (0 : Int)) && ((r66.2.2.2.2.1 == (0 : Int)) && ((r66.2.2.2.2.2.1 == (0 : Int)) && true))))))
      else
        some false
    else
      some false
  else
    bif r18 then
      bif ((r66.2.2.2.2.2.2).isNone) then
        some ((r66.1 == r72.1) && ((r66.2.1 == r72.2.1) && ((r66.2.2.1 == r72.2.2.1) && ((r66.2.2.2.1 == r72.2.2.2.1) && ((r66.2.2.2.2.1 == r72.2.2.2.2.1) && ((r66.2.2.2.2.2.1 == r72.2.2.2.2.2.1) && true))))))
      else
        some false
    else
      some false
def lTimes_j2 (n : Nat) (a1 : UInt8) (a2 : List UInt8) (r18 : Bool) : Option (Bool) :=
  (pReadTime n a1 a2).bind fun r66 =>
  (rReadTime n a1 a2).bind fun r72 =>
  bif (!r72.2.2.2.2.2.2) then
    bif r18 then
      gd (¬((r66.2.2.2.2.2.2 : Option Int) = none ∧ ((some 2) : Option Int) = none)) <|
      bif (r66.2.2.2.2.2.2 == (some 2)) then
        some ((r66.1 == (0 : Int)) && ((r66.2.1 == (0 : Int)) && ((r66.2.2.1 == (0 : Int)) && ((r66.2.2.2.1 == (0 : Int)) && ((r66.2.2.2.2.1 == (0 : Int)) && ((r66.2.2.2.2.2.1 == (0 : Int)) && true))))))
      else
        some false
    else
      some false
  else
    bif r18 then
      bif ((r66.2.2.2.2.2.2).isNone) then
        some ((r66.1 == r72.1) && ((r66.2.1 == r72.2.1) && ((r66.2.2.1 == r72.2.2.1) && ((r66.2.2.2.1 == r72.2.2.2.1) && ((r66.2.2.2.2.1 == r72.2.2.2.2.1) && ((r66.2.2.2.2.2.1 == r72.2.2.2.2.2.1) && true))))))
      else
        some false
    else
      some false
def lTimes (n : Nat) (a0_0 : Int) (a0_1 : Int) (a0_2 : Int) (a0_3 : Int) (a0_4 : Int) (a0_5 : Int) (a1 : UInt8) (a2 : List UInt8) : Option (Bool) :=
  (pup n).bind fun r18 =>
  (pTime n a0_0 a0_1 a0_2 a0_3 a0_4 a0_5).bind fun r21 =>
  (rMay8 n a0_0 a0_1 a0_2 a0_3 a0_4 a0_5).bind fun r26 =>
  bif (!r26) then
    gd (¬((r21.2.2 : Option Int) = none ∧ ((some 1) : Option Int) = none)) <|
    bif (!(r21.2.2 == (some 1))) then
      some false
    else
      bif (r21.1 != 0) then
        some false
      else
        bif (((r21.2.1.length : Nat) : Int) != 0) then
          some false
        else
          bif r26 then
            (rTime n a0_0 a0_1 a0_2 a0_3 a0_4 a0_5).bind fun r46 =>
            bif (!((r21.2.2).isNone)) then
              some false
            else
              bif (r21.1 != r46.1) then
                some false
              else
                bif (r21.2.1 != r46.2) then
                  some false
                else
                  lTimes_j1 n a1 a2 r18
          else
            lTimes_j1 n a1 a2 r18
  else
    bif r26 then
      (rTime n a0_0 a0_1 a0_2 a0_3 a0_4 a0_5).bind fun r46 =>
      bif (!((r21.2.2).isNone)) then
        some false
      else
        bif (r21.1 != r46.1) then
          some false
        else
          bif (r21.2.1 != r46.2) then
            some false
          else
            lTimes_j2 n a1 a2 r18
    else
      lTimes_j2 n a1 a2 r18

def pReadTime_j2_E (a0 : UInt8) (z7_5 : List Int) : S := ⟨[(0, .c (.s (.u8 a0))), (4, .c (.pt 0 0)), (7, .c (.wh 1))], [], [⟨.blk, 34, 1, 6, .c [.s (.k .i64 0), .s (.k .i64 0), .s (.k .i64 0), .s (.k .i64 0), .s (.k .i64 0), .s (.k .i64 0)]⟩, ⟨.row, 3, 1, z7_5.length, .z z7_5⟩]⟩
def pReadTime_j2_P (n : Nat) (a0 : UInt8) (r : Int × Int × Int × Int × Int × Int × Option Int) : S → Prop := fun s => ∃ (z7_5 : List Int), s = pReadTime_j2_E a0 z7_5 ∧ pReadTime_j2 n a0 z7_5 = some r
theorem pReadTime_j2_M {n : Nat} {a0 : UInt8} {z7_5 : List Int} {r : Int × Int × Int × Int × Int × Int × Option Int} (h : pReadTime_j2 n a0 z7_5 = some r) : pReadTime_j2_P n a0 r (pReadTime_j2_E a0 z7_5) := ⟨z7_5, rfl, h⟩
def pReadTime_j3_E (a0 : UInt8) (z7_4 : List Int) (i9_5 : Int) : S := ⟨[(0, .c (.s (.u8 a0))), (4, .c (.pt 0 0)), (7, .c (.wh 1)), (9, .c (.s (.k .i64 i9_5)))], [], [⟨.blk, 34, 1, 6, .c [.s (.k .i64 0), .s (.k .i64 0), .s (.k .i64 0), .s (.k .i64 0), .s (.k .i64 0), .s (.k .i64 0)]⟩, ⟨.row, 3, 1, z7_4.length, .z z7_4⟩]⟩
def pReadTime_j3_P (n : Nat) (a0 : UInt8) (z7_4 : List Int) (r : Int × Int × Int × Int × Int × Int × Option Int) : S → Prop := fun s => ∃ (i9_5 : Int), s = pReadTime_j3_E a0 z7_4 i9_5 ∧ pReadTime_j3 n a0 z7_4 i9_5 = some r
theorem pReadTime_j3_M {n : Nat} {a0 : UInt8} {z7_4 : List Int} {i9_5 : Int} {r : Int × Int × Int × Int × Int × Int × Option Int} (h : pReadTime_j3 n a0 z7_4 i9_5 = some r) : pReadTime_j3_P n a0 z7_4 r (pReadTime_j3_E a0 z7_4 i9_5) := ⟨i9_5, rfl, h⟩
def pReadTime_l1_E (a0 : UInt8) (a1 : List UInt8) (i6_1 : Int) (z7_4 : List Int) (i8_2 : Int) : S := ⟨[(0, .c (.s (.u8 a0))), (1, .c (.wh 0)), (4, .c (.pt 1 0)), (6, .c (.s (.k .i64 i6_1))), (7, .c (.wh 2)), (8, .c (.s (.k .i64 i8_2)))], [], [⟨(.ro false), 5, 1, a1.length, .b a1⟩, ⟨.blk, 34, 1, 6, .c [.s (.k .i64 0), .s (.k .i64 0), .s (.k .i64 0), .s (.k .i64 0), .s (.k .i64 0), .s (.k .i64 0)]⟩, ⟨.row, 3, 1, z7_4.length, .z z7_4⟩]⟩
def pReadTime_l1_P (n : Nat) (a0 : UInt8) (a1 : List UInt8) (i6_1 : Int) (r : Int × Int × Int × Int × Int × Int × Option Int) (fu : Nat) : S → Prop := fun s => ∃ (z7_4 : List Int), ∃ (i8_2 : Int), s = pReadTime_l1_E a0 a1 i6_1 z7_4 i8_2 ∧ pReadTime_l1 n a0 a1 i6_1 fu z7_4 i8_2 = some r
theorem pReadTime_l1_M {n : Nat} {a0 : UInt8} {a1 : List UInt8} {i6_1 : Int} {z7_4 : List Int} {i8_2 : Int} {r : Int × Int × Int × Int × Int × Int × Option Int} {fu : Nat} (h : pReadTime_l1 n a0 a1 i6_1 fu z7_4 i8_2 = some r) : pReadTime_l1_P n a0 a1 i6_1 r fu (pReadTime_l1_E a0 a1 i6_1 z7_4 i8_2) := ⟨z7_4, i8_2, rfl, h⟩
def pReadTime_j4_E (a0 : UInt8) (z7_7 : List Int) : S := ⟨[(0, .c (.s (.u8 a0))), (4, .c (.pt 0 0)), (7, .c (.wh 1))], [], [⟨.blk, 34, 1, 6, .c [.s (.k .i64 0), .s (.k .i64 0), .s (.k .i64 0), .s (.k .i64 0), .s (.k .i64 0), .s (.k .i64 0)]⟩, ⟨.row, 3, 1, z7_7.length, .z z7_7⟩]⟩
def pReadTime_j4_P (n : Nat) (a0 : UInt8) (r : Int × Int × Int × Int × Int × Int × Option Int) : S → Prop := fun s => ∃ (z7_7 : List Int), s = pReadTime_j4_E a0 z7_7 ∧ pReadTime_j4 n a0 z7_7 = some r
theorem pReadTime_j4_M {n : Nat} {a0 : UInt8} {z7_7 : List Int} {r : Int × Int × Int × Int × Int × Int × Option Int} (h : pReadTime_j4 n a0 z7_7 = some r) : pReadTime_j4_P n a0 r (pReadTime_j4_E a0 z7_7) := ⟨z7_7, rfl, h⟩
def pReadTime_j5_E (a0 : UInt8) (z7_6 : List Int) (i9_7 : Int) : S := ⟨[(0, .c (.s (.u8 a0))), (4, .c (.pt 0 0)), (7, .c (.wh 1)), (9, .c (.s (.k .i64 i9_7)))], [], [⟨.blk, 34, 1, 6, .c [.s (.k .i64 0), .s (.k .i64 0), .s (.k .i64 0), .s (.k .i64 0), .s (.k .i64 0), .s (.k .i64 0)]⟩, ⟨.row, 3, 1, z7_6.length, .z z7_6⟩]⟩
def pReadTime_j5_P (n : Nat) (a0 : UInt8) (z7_6 : List Int) (r : Int × Int × Int × Int × Int × Int × Option Int) : S → Prop := fun s => ∃ (i9_7 : Int), s = pReadTime_j5_E a0 z7_6 i9_7 ∧ pReadTime_j5 n a0 z7_6 i9_7 = some r
theorem pReadTime_j5_M {n : Nat} {a0 : UInt8} {z7_6 : List Int} {i9_7 : Int} {r : Int × Int × Int × Int × Int × Int × Option Int} (h : pReadTime_j5 n a0 z7_6 i9_7 = some r) : pReadTime_j5_P n a0 z7_6 r (pReadTime_j5_E a0 z7_6 i9_7) := ⟨i9_7, rfl, h⟩
def pReadTime_l2_E (a0 : UInt8) (a1 : List UInt8) (i6_1 : Int) (z7_6 : List Int) (i8_3 : Int) : S := ⟨[(0, .c (.s (.u8 a0))), (1, .c (.wh 0)), (4, .c (.pt 1 0)), (6, .c (.s (.k .i64 i6_1))), (7, .c (.wh 2)), (8, .c (.s (.k .i64 i8_3)))], [], [⟨(.ro false), 5, 1, a1.length, .b a1⟩, ⟨.blk, 34, 1, 6, .c [.s (.k .i64 0), .s (.k .i64 0), .s (.k .i64 0), .s (.k .i64 0), .s (.k .i64 0), .s (.k .i64 0)]⟩, ⟨.row, 3, 1, z7_6.length, .z z7_6⟩]⟩
def pReadTime_l2_P (n : Nat) (a0 : UInt8) (a1 : List UInt8) (i6_1 : Int) (r : Int × Int × Int × Int × Int × Int × Option Int) (fu : Nat) : S → Prop := fun s => ∃ (z7_6 : List Int), ∃ (i8_3 : Int), s = pReadTime_l2_E a0 a1 i6_1 z7_6 i8_3 ∧ pReadTime_l2 n a0 a1 i6_1 fu z7_6 i8_3 = some r
theorem pReadTime_l2_M {n : Nat} {a0 : UInt8} {a1 : List UInt8} {i6_1 : Int} {z7_6 : List Int} {i8_3 : Int} {r : Int × Int × Int × Int × Int × Int × Option Int} {fu : Nat} (h : pReadTime_l2 n a0 a1 i6_1 fu z7_6 i8_3 = some r) : pReadTime_l2_P n a0 a1 i6_1 r fu (pReadTime_l2_E a0 a1 i6_1 z7_6 i8_3) := ⟨z7_6, i8_3, rfl, h⟩
def pReadTime_j1_E (a0 : UInt8) (a1 : List UInt8) (i6_1 : Int) : S := ⟨[(0, .c (.s (.u8 a0))), (1, .c (.wh 0)), (4, .c (.pt 1 0)), (6, .c (.s (.k .i64 i6_1)))], [], [⟨(.ro false), 5, 1, a1.length, .b a1⟩, ⟨.blk, 34, 1, 6, .c [.s (.k .i64 0), .s (.k .i64 0), .s (.k .i64 0), .s (.k .i64 0), .s (.k .i64 0), .s (.k .i64 0)]⟩]⟩
def pReadTime_j1_P (n : Nat) (a0 : UInt8) (a1 : List UInt8) (r : Int × Int × Int × Int × Int × Int × Option Int) : S → Prop := fun s => ∃ (i6_1 : Int), s = pReadTime_j1_E a0 a1 i6_1 ∧ pReadTime_j1 n a0 a1 i6_1 = some r
theorem pReadTime_j1_M {n : Nat} {a0 : UInt8} {a1 : List UInt8} {i6_1 : Int} {r : Int × Int × Int × Int × Int × Int × Option Int} (h : pReadTime_j1 n a0 a1 i6_1 = some r) : pReadTime_j1_P n a0 a1 r (pReadTime_j1_E a0 a1 i6_1) := ⟨i6_1, rfl, h⟩
def pReadTime_R (r : Int × Int × Int × Int × Int × Int × Option Int) : S := ⟨[(4, .c (.pt 0 0)), (5, .c (.s (.er 31 .i64 r.2.2.2.2.2.2)))], [], [⟨.blk, 34, 1, 6, .c [.s (.k .i64 r.1), .s (.k .i64 r.2.1), .s (.k .i64 r.2.2.1), .s (.k .i64 r.2.2.2.1), .s (.k .i64 r.2.2.2.2.1), .s (.k .i64 r.2.2.2.2.2.1)]⟩]⟩
def pReadTime_ct (n : Nat) (r : Int × Int × Int × Int × Int × Int × Option Int) : Ct := fun args H => match args with
  | [x0, x1] => (match aU8 x0 with | some l0 => (match aB H x1 with | some l1 => some ([pReadTime n l0 l1 = some r], shA H.length (.t [.g 6 (.c [.s (.k .i64 r.1), .s (.k .i64 r.2.1), .s (.k .i64 r.2.2.1), .s (.k .i64 r.2.2.2.1), .s (.k .i64 r.2.2.2.2.1), .s (.k .i64 r.2.2.2.2.2.1)]), .c (.s (.er 31 .i64 r.2.2.2.2.2.2))]), shH H.length []) | none => none) | none => none)
  | _ => none
theorem pReadTime_ok (n : Nat) (r : Int × Int × Int × Int × Int × Int × Option Int) : FnOk Try.prog Tr 28 (pReadTime_ct n r) := by
  refine ⟨fun args H g av objs hF hg ρ w vals hG hp ha => ?_, _, Try.func28, by kernel_rfl, by kernel_rfl⟩
  obtain ⟨x0, x1, rfl⟩ : ∃ x0 x1, args = [x0, x1] := by
    unfold pReadTime_ct at hF; split at hF
    · exact ⟨_, _, rfl⟩
    · cases hF
  cases e0 : aU8 x0 with
  | none => simp only [pReadTime_ct, e0, reduceCtorEq] at hF
  | some l0 =>
  cases e1 : aB H x1 with
  | none => simp only [pReadTime_ct, e0, e1, reduceCtorEq] at hF
  | some l1 =>
  simp only [pReadTime_ct, e0, e1, Option.some.injEq, Prod.mk.injEq] at hF
  obtain ⟨rfl, rfl, rfl⟩ := hF
  obtain ⟨v0, vals, rfl, k0, ha⟩ := F2.inv ha
  obtain ⟨v1, vals, rfl, k1, ha⟩ := F2.inv ha
  obtain rfl := F2.inv0 ha
  have hI : ∀ w', Kp (noB (fun _ => undef)) w w' → Tr w' := fun _ hk => Tr.keep hk.below hG
  have h : pReadTime n l0 l1 = some r := hg
  have s0 := aU8_ok e0 (k0)
  obtain ⟨p1, s1, o1⟩ := aB_ok hp e1 (k1) 5
  have hR0 := rel0 (gv := (fun _ => undef)) (n := 142) (w := w) (args := [.c (.s (.u8 l0)), .c (.wh 0)]) (H := [⟨.ro false, 5, 1, l1.length, .b l1⟩]) (gl := []) (hpL (ps := [p1]) (F2.cons o1 F2.nil)) (allRo_ok rfl) (F2.cons s0 (F2.cons s1 F2.nil)) GlR.nil (by simp)
  clear ha hp hg k0 k1 e0 e1
  refine calls_W Try.func28 rfl rfl hR0 (Q := fun e s => (e = .ret ∨ e = .normal) ∧ s = pReadTime_R r) ?_ ?_
  · clear hR0
    unfold pReadTime at h
    have hT := tabO_pz
    refine W_seq ?_
    refine W_reg hT ftL_nil [] [] [0, 1, 4] [0, 1] (s' := ⟨[(0, .c (.s (.u8 l0))), (1, .c (.wh 0)), (4, .c (.pt 1 0))], [], [⟨(.ro false), 5, 1, l1.length, .b l1⟩, ⟨.blk, 34, 1, 6, .c [.s (.k .i64 0), .s (.k .i64 0), .s (.k .i64 0), .s (.k .i64 0), .s (.k .i64 0), .s (.k .i64 0)]⟩]⟩) (by kernel_rfl) allP_nil ?_
    refine W_seq ?_
    refine W_reg hT ftL_nil [] [] [0, 1, 4, 6] [0, 1] (s' := ⟨[(0, .c (.s (.u8 l0))), (1, .c (.wh 0)), (4, .c (.pt 1 0)), (6, .c (.s (.k .i64 13)))], [], [⟨(.ro false), 5, 1, l1.length, .b l1⟩, ⟨.blk, 34, 1, 6, .c [.s (.k .i64 0), .s (.k .i64 0), .s (.k .i64 0), .s (.k .i64 0), .s (.k .i64 0), .s (.k .i64 0)]⟩]⟩) (by kernel_rfl) allP_nil ?_
    refine W_join (pReadTime_j1_P n l0 l1 r) ?_ ?_
    · rintro _ ⟨i6_1, rfl, h⟩
      unfold pReadTime_j1 at h
      refine W_seq ?_
      refine W_seq ?_
      rcases Bool.eq_false_or_eq_true (l0 != 23) with g1 | g1
      · replace h := bif_t h g1
        rcases Bool.eq_false_or_eq_true (l0 != 24) with g2 | g2
        · replace h := bif_t h g2
          refine W_reg hT ftL_nil [(2, true), (6, true)] [] [0, 1, 4, 6, 35] [0, 1] (s' := ⟨[(0, .c (.s (.u8 l0))), (1, .c (.wh 0)), (4, .c (.pt 1 0)), (6, .c (.s (.k .i64 i6_1))), (35, .c (.s (.b true)))], [], [⟨(.ro false), 5, 1, l1.length, .b l1⟩, ⟨.blk, 34, 1, 6, .c [.s (.k .i64 0), .s (.k .i64 0), .s (.k .i64 0), .s (.k .i64 0), .s (.k .i64 0), .s (.k .i64 0)]⟩]⟩) (by kernel_rfl) (allP_cons.2 ⟨g1, (allP_cons.2 ⟨g2, allP_nil⟩)⟩) ?_
          refine W_cond (b := true) (by kernel_rfl) (fun _ => ?_) (fun hb => by cases hb)
          refine W_seq ?_
          refine W_reg hT ftL_nil [] [] [4, 5] [1] (s' := ⟨[(4, .c (.pt 0 0)), (5, .c (.s (.er 31 .i64 (some 2))))], [], [⟨.blk, 34, 1, 6, .c [.s (.k .i64 0), .s (.k .i64 0), .s (.k .i64 0), .s (.k .i64 0), .s (.k .i64 0), .s (.k .i64 0)]⟩]⟩) (by kernel_rfl) allP_nil ?_
          refine W_co [] [4, 5] [0] (s' := (pReadTime_R (0, 0, 0, 0, 0, 0, (some 2)))) (by kernel_rfl) (W_ret ?_)
          exact ⟨.inl rfl, by cases h; rfl⟩
        · replace h := bif_f h g2
          rcases Bool.eq_false_or_eq_true (((l1.length : Nat) : Int) != i6_1) with g3 | g3
          · replace h := bif_t h g3
            refine W_reg hT ftL_nil [(2, true), (6, false), (12, true)] [] [0, 1, 4, 6, 35] [0, 1] (s' := ⟨[(0, .c (.s (.u8 l0))), (1, .c (.wh 0)), (4, .c (.pt 1 0)), (6, .c (.s (.k .i64 i6_1))), (35, .c (.s (.b true)))], [], [⟨(.ro false), 5, 1, l1.length, .b l1⟩, ⟨.blk, 34, 1, 6, .c [.s (.k .i64 0), .s (.k .i64 0), .s (.k .i64 0), .s (.k .i64 0), .s (.k .i64 0), .s (.k .i64 0)]⟩]⟩) (by kernel_rfl) (allP_cons.2 ⟨g1, (allP_cons.2 ⟨g2, (allP_cons.2 ⟨g3, allP_nil⟩)⟩)⟩) ?_
            refine W_cond (b := true) (by kernel_rfl) (fun _ => ?_) (fun hb => by cases hb)
            refine W_seq ?_
            refine W_reg hT ftL_nil [] [] [4, 5] [1] (s' := ⟨[(4, .c (.pt 0 0)), (5, .c (.s (.er 31 .i64 (some 2))))], [], [⟨.blk, 34, 1, 6, .c [.s (.k .i64 0), .s (.k .i64 0), .s (.k .i64 0), .s (.k .i64 0), .s (.k .i64 0), .s (.k .i64 0)]⟩]⟩) (by kernel_rfl) allP_nil ?_
            refine W_co [] [4, 5] [0] (s' := (pReadTime_R (0, 0, 0, 0, 0, 0, (some 2)))) (by kernel_rfl) (W_ret ?_)
            exact ⟨.inl rfl, by cases h; rfl⟩
          · replace h := bif_f h g3
            obtain ⟨g4, h⟩ := gd_some h
            obtain ⟨g5, h⟩ := gd_some h
            obtain ⟨g6, h⟩ := gd_some h
            refine W_reg hT ftL_nil [(2, true), (6, false), (12, false)] [] [0, 1, 4, 6, 35] [0, 1] (s' := ⟨[(0, .c (.s (.u8 l0))), (1, .c (.wh 0)), (4, .c (.pt 1 0)), (6, .c (.s (.k .i64 i6_1))), (35, .c (.s (.b ((l1.getD ((i6_1 - 1).toNat) 0) != 90))))], [], [⟨(.ro false), 5, 1, l1.length, .b l1⟩, ⟨.blk, 34, 1, 6, .c [.s (.k .i64 0), .s (.k .i64 0), .s (.k .i64 0), .s (.k .i64 0), .s (.k .i64 0), .s (.k .i64 0)]⟩]⟩) (by kernel_rfl) (allP_cons.2 ⟨g1, (allP_cons.2 ⟨g2, (allP_cons.2 ⟨g3, (allP_cons.2 ⟨g4, (allP_cons.2 ⟨g5, (allP_cons.2 ⟨g6, allP_nil⟩)⟩)⟩)⟩)⟩)⟩) ?_
            refine W_cond (b := ((l1.getD ((i6_1 - 1).toNat) 0) != 90)) (by kernel_rfl) (fun g56 => ?_) (fun g56 => ?_)
            · replace h := bif_t h g56
              refine W_seq ?_
              refine W_reg hT ftL_nil [] [] [4, 5] [1] (s' := ⟨[(4, .c (.pt 0 0)), (5, .c (.s (.er 31 .i64 (some 2))))], [], [⟨.blk, 34, 1, 6, .c [.s (.k .i64 0), .s (.k .i64 0), .s (.k .i64 0), .s (.k .i64 0), .s (.k .i64 0), .s (.k .i64 0)]⟩]⟩) (by kernel_rfl) allP_nil ?_
              refine W_co [] [4, 5] [0] (s' := (pReadTime_R (0, 0, 0, 0, 0, 0, (some 2)))) (by kernel_rfl) (W_ret ?_)
              exact ⟨.inl rfl, by cases h; rfl⟩
            · replace h := bif_f h g56
              refine W_co [] [0, 1, 4, 6] [0, 1] (s' := ⟨[(0, .c (.s (.u8 l0))), (1, .c (.wh 0)), (4, .c (.pt 1 0)), (6, .c (.s (.k .i64 i6_1)))], [], [⟨(.ro false), 5, 1, l1.length, .b l1⟩, ⟨.blk, 34, 1, 6, .c [.s (.k .i64 0), .s (.k .i64 0), .s (.k .i64 0), .s (.k .i64 0), .s (.k .i64 0), .s (.k .i64 0)]⟩]⟩) (by kernel_rfl) (W_skip ?_)
              refine W_seq ?_
              refine W_reg hT ftL_nil [] [] [0, 1, 4, 6, 7] [0, 1] (s' := ⟨[(0, .c (.s (.u8 l0))), (1, .c (.wh 0)), (4, .c (.pt 1 0)), (6, .c (.s (.k .i64 i6_1))), (7, .c (.nils))], [], [⟨(.ro false), 5, 1, l1.length, .b l1⟩, ⟨.blk, 34, 1, 6, .c [.s (.k .i64 0), .s (.k .i64 0), .s (.k .i64 0), .s (.k .i64 0), .s (.k .i64 0), .s (.k .i64 0)]⟩]⟩) (by kernel_rfl) allP_nil ?_
              refine W_seq ?_
              refine W_seq ?_
              refine W_reg hT ftL_nil [] [] [0, 1, 4, 6, 7, 8] [0, 1] (s' := ⟨[(0, .c (.s (.u8 l0))), (1, .c (.wh 0)), (4, .c (.pt 1 0)), (6, .c (.s (.k .i64 i6_1))), (7, .c (.nils)), (8, .c (.s (.k .i64 0)))], [], [⟨(.ro false), 5, 1, l1.length, .b l1⟩, ⟨.blk, 34, 1, 6, .c [.s (.k .i64 0), .s (.k .i64 0), .s (.k .i64 0), .s (.k .i64 0), .s (.k .i64 0), .s (.k .i64 0)]⟩]⟩) (by kernel_rfl) allP_nil ?_
              refine W_block ?_
              refine W_co [.nil 7 3 1 (.z [])] [0, 1, 4, 6, 7, 8] [0, 1, 2] (s' := (pReadTime_l1_E l0 l1 i6_1 [] 0)) (by kernel_rfl) (W_lp ((pReadTime_l1_P n l0 l1 i6_1 r)) n (pReadTime_l1_M h) ?_)
              rintro fu_l1 _ ⟨z7_4, i8_2, rfl, h⟩
              cases fu_l1 with
              | zero => cases h
              | succ fu_l1 =>
                refine ⟨fu_l1, rfl, ?_⟩
                rw [pReadTime_l1] at h
                refine W_seq ?_
                refine W_seq ?_
                obtain ⟨g7, h⟩ := gd_some h
                refine W_reg hT ftL_nil [] [] [0, 1, 4, 6, 7, 8, 41] [0, 1, 2] (s' := ⟨[(0, .c (.s (.u8 l0))), (1, .c (.wh 0)), (4, .c (.pt 1 0)), (6, .c (.s (.k .i64 i6_1))), (7, .c (.wh 2)), (8, .c (.s (.k .i64 i8_2))), (41, .c (.s (.b (decide (i8_2 < (i6_1 - 1))))))], [], [⟨(.ro false), 5, 1, l1.length, .b l1⟩, ⟨.blk, 34, 1, 6, .c [.s (.k .i64 0), .s (.k .i64 0), .s (.k .i64 0), .s (.k .i64 0), .s (.k .i64 0), .s (.k .i64 0)]⟩, ⟨.row, 3, 1, z7_4.length, .z z7_4⟩]⟩) (by kernel_rfl) (allP_cons.2 ⟨g7, allP_nil⟩) ?_
                refine W_cond (b := (decide (i8_2 < (i6_1 - 1)))) (by kernel_rfl) (fun g55 => ?_) (fun g55 => ?_)
                · replace h := bif_t h g55
                  refine W_co [] [0, 1, 4, 6, 7, 8] [0, 1, 2] (s' := ⟨[(0, .c (.s (.u8 l0))), (1, .c (.wh 0)), (4, .c (.pt 1 0)), (6, .c (.s (.k .i64 i6_1))), (7, .c (.wh 2)), (8, .c (.s (.k .i64 i8_2)))], [], [⟨(.ro false), 5, 1, l1.length, .b l1⟩, ⟨.blk, 34, 1, 6, .c [.s (.k .i64 0), .s (.k .i64 0), .s (.k .i64 0), .s (.k .i64 0), .s (.k .i64 0), .s (.k .i64 0)]⟩, ⟨.row, 3, 1, z7_4.length, .z z7_4⟩]⟩) (by kernel_rfl) (W_skip ?_)
                  refine W_seq ?_
                  refine W_block ?_
                  refine W_seq ?_
                  refine W_seq ?_
                  obtain ⟨g8, h⟩ := gd_some h
                  obtain ⟨g9, h⟩ := gd_some h
                  rcases Bool.eq_false_or_eq_true (decide ((l1.getD i8_2.toNat 0) < (48 : UInt8))) with g10 | g10
                  · replace h := bif_t h g10
                    refine W_reg hT ftL_nil [(5, true)] [] [0, 1, 4, 6, 7, 8, 71] [0, 1, 2] (s' := ⟨[(0, .c (.s (.u8 l0))), (1, .c (.wh 0)), (4, .c (.pt 1 0)), (6, .c (.s (.k .i64 i6_1))), (7, .c (.wh 2)), (8, .c (.s (.k .i64 i8_2))), (71, .c (.s (.b true)))], [], [⟨(.ro false), 5, 1, l1.length, .b l1⟩, ⟨.blk, 34, 1, 6, .c [.s (.k .i64 0), .s (.k .i64 0), .s (.k .i64 0), .s (.k .i64 0), .s (.k .i64 0), .s (.k .i64 0)]⟩, ⟨.row, 3, 1, z7_4.length, .z z7_4⟩]⟩) (by kernel_rfl) (allP_cons.2 ⟨g8, (allP_cons.2 ⟨g9, (allP_cons.2 ⟨g10, allP_nil⟩)⟩)⟩) ?_
                    refine W_cond (b := true) (by kernel_rfl) (fun _ => ?_) (fun hb => by cases hb)
                    refine W_seq ?_
                    refine W_reg hT ftL_nil [] [] [4, 5] [1] (s' := ⟨[(4, .c (.pt 0 0)), (5, .c (.s (.er 31 .i64 (some 2))))], [], [⟨.blk, 34, 1, 6, .c [.s (.k .i64 0), .s (.k .i64 0), .s (.k .i64 0), .s (.k .i64 0), .s (.k .i64 0), .s (.k .i64 0)]⟩]⟩) (by kernel_rfl) allP_nil ?_
                    refine W_co [] [4, 5] [0] (s' := (pReadTime_R (0, 0, 0, 0, 0, 0, (some 2)))) (by kernel_rfl) (W_ret ?_)
                    exact ⟨.inl rfl, by cases h; rfl⟩
                  · replace h := bif_f h g10
                    obtain ⟨g11, h⟩ := gd_some h
                    obtain ⟨g12, h⟩ := gd_some h
                    rcases Bool.eq_false_or_eq_true (decide ((57 : UInt8) < (l1.getD i8_2.toNat 0))) with g13 | g13
                    · replace h := bif_t h g13
                      refine W_reg hT ftL_nil [(5, false), (12, true)] [] [0, 1, 4, 6, 7, 8, 71] [0, 1, 2] (s' := ⟨[(0, .c (.s (.u8 l0))), (1, .c (.wh 0)), (4, .c (.pt 1 0)), (6, .c (.s (.k .i64 i6_1))), (7, .c (.wh 2)), (8, .c (.s (.k .i64 i8_2))), (71, .c (.s (.b true)))], [], [⟨(.ro false), 5, 1, l1.length, .b l1⟩, ⟨.blk, 34, 1, 6, .c [.s (.k .i64 0), .s (.k .i64 0), .s (.k .i64 0), .s (.k .i64 0), .s (.k .i64 0), .s (.k .i64 0)]⟩, ⟨.row, 3, 1, z7_4.length, .z z7_4⟩]⟩) (by kernel_rfl) (allP_cons.2 ⟨g8, (allP_cons.2 ⟨g9, (allP_cons.2 ⟨g10, (allP_cons.2 ⟨g11, (allP_cons.2 ⟨g12, (allP_cons.2 ⟨g13, allP_nil⟩)⟩)⟩)⟩)⟩)⟩) ?_
                      refine W_cond (b := true) (by kernel_rfl) (fun _ => ?_) (fun hb => by cases hb)
                      refine W_seq ?_
                      refine W_reg hT ftL_nil [] [] [4, 5] [1] (s' := ⟨[(4, .c (.pt 0 0)), (5, .c (.s (.er 31 .i64 (some 2))))], [], [⟨.blk, 34, 1, 6, .c [.s (.k .i64 0), .s (.k .i64 0), .s (.k .i64 0), .s (.k .i64 0), .s (.k .i64 0), .s (.k .i64 0)]⟩]⟩) (by kernel_rfl) allP_nil ?_
                      refine W_co [] [4, 5] [0] (s' := (pReadTime_R (0, 0, 0, 0, 0, 0, (some 2)))) (by kernel_rfl) (W_ret ?_)
                      exact ⟨.inl rfl, by cases h; rfl⟩
                    · replace h := bif_f h g13
                      obtain ⟨g14, h⟩ := gd_some h
                      obtain ⟨g15, h⟩ := gd_some h
                      obtain ⟨g16, h⟩ := gd_some h
                      rcases Bool.eq_false_or_eq_true (decide ((l1.getD ((i8_2 + 1).toNat) 0) < (48 : UInt8))) with g17 | g17
                      · replace h := bif_t h g17
                        refine W_reg hT ftL_nil [(5, false), (12, false), (20, true)] [] [0, 1, 4, 6, 7, 8, 71] [0, 1, 2] (s' := ⟨[(0, .c (.s (.u8 l0))), (1, .c (.wh 0)), (4, .c (.pt 1 0)), (6, .c (.s (.k .i64 i6_1))), (7, .c (.wh 2)), (8, .c (.s (.k .i64 i8_2))), (71, .c (.s (.b true)))], [], [⟨(.ro false), 5, 1, l1.length, .b l1⟩, ⟨.blk, 34, 1, 6, .c [.s (.k .i64 0), .s (.k .i64 0), .s (.k .i64 0), .s (.k .i64 0), .s (.k .i64 0), .s (.k .i64 0)]⟩, ⟨.row, 3, 1, z7_4.length, .z z7_4⟩]⟩) (by kernel_rfl) (allP_cons.2 ⟨g8, (allP_cons.2 ⟨g9, (allP_cons.2 ⟨g10, (allP_cons.2 ⟨g11, (allP_cons.2 ⟨g12, (allP_cons.2 ⟨g13, (allP_cons.2 ⟨g14, (allP_cons.2 ⟨g15, (allP_cons.2 ⟨g16, (allP_cons.2 ⟨g17, allP_nil⟩)⟩)⟩)⟩)⟩)⟩)⟩)⟩)⟩)⟩) ?_
                        refine W_cond (b := true) (by kernel_rfl) (fun _ => ?_) (fun hb => by cases hb)
                        refine W_seq ?_
                        refine W_reg hT ftL_nil [] [] [4, 5] [1] (s' := ⟨[(4, .c (.pt 0 0)), (5, .c (.s (.er 31 .i64 (some 2))))], [], [⟨.blk, 34, 1, 6, .c [.s (.k .i64 0), .s (.k .i64 0), .s (.k .i64 0), .s (.k .i64 0), .s (.k .i64 0), .s (.k .i64 0)]⟩]⟩) (by kernel_rfl) allP_nil ?_
                        refine W_co [] [4, 5] [0] (s' := (pReadTime_R (0, 0, 0, 0, 0, 0, (some 2)))) (by kernel_rfl) (W_ret ?_)
                        exact ⟨.inl rfl, by cases h; rfl⟩
                      · replace h := bif_f h g17
                        obtain ⟨g18, h⟩ := gd_some h
                        obtain ⟨g19, h⟩ := gd_some h
                        obtain ⟨g20, h⟩ := gd_some h
                        refine W_reg hT ftL_nil [(5, false), (12, false), (20, false)] [] [0, 1, 4, 6, 7, 8, 71] [0, 1, 2] (s' := ⟨[(0, .c (.s (.u8 l0))), (1, .c (.wh 0)), (4, .c (.pt 1 0)), (6, .c (.s (.k .i64 i6_1))), (7, .c (.wh 2)), (8, .c (.s (.k .i64 i8_2))), (71, .c (.s (.b (decide ((57 : UInt8) < (l1.getD ((i8_2 + 1).toNat) 0))))))], [], [⟨(.ro false), 5, 1, l1.length, .b l1⟩, ⟨.blk, 34, 1, 6, .c [.s (.k .i64 0), .s (.k .i64 0), .s (.k .i64 0), .s (.k .i64 0), .s (.k .i64 0), .s (.k .i64 0)]⟩, ⟨.row, 3, 1, z7_4.length, .z z7_4⟩]⟩) (by kernel_rfl) (allP_cons.2 ⟨g8, (allP_cons.2 ⟨g9, (allP_cons.2 ⟨g10, (allP_cons.2 ⟨g11, (allP_cons.2 ⟨g12, (allP_cons.2 ⟨g13, (allP_cons.2 ⟨g14, (allP_cons.2 ⟨g15, (allP_cons.2 ⟨g16, (allP_cons.2 ⟨g17, (allP_cons.2 ⟨g18, (allP_cons.2 ⟨g19, (allP_cons.2 ⟨g20, allP_nil⟩)⟩)⟩)⟩)⟩)⟩)⟩)⟩)⟩)⟩)⟩)⟩)⟩) ?_
                        refine W_cond (b := (decide ((57 : UInt8) < (l1.getD ((i8_2 + 1).toNat) 0)))) (by kernel_rfl) (fun g30 => ?_) (fun g30 => ?_)
                        · replace h := bif_t h g30
                          refine W_seq ?_
                          refine W_reg hT ftL_nil [] [] [4, 5] [1] (s' := ⟨[(4, .c (.pt 0 0)), (5, .c (.s (.er 31 .i64 (some 2))))], [], [⟨.blk, 34, 1, 6, .c [.s (.k .i64 0), .s (.k .i64 0), .s (.k .i64 0), .s (.k .i64 0), .s (.k .i64 0), .s (.k .i64 0)]⟩]⟩) (by kernel_rfl) allP_nil ?_
                          refine W_co [] [4, 5] [0] (s' := (pReadTime_R (0, 0, 0, 0, 0, 0, (some 2)))) (by kernel_rfl) (W_ret ?_)
                          exact ⟨.inl rfl, by cases h; rfl⟩
                        · replace h := bif_f h g30
                          refine W_co [] [0, 1, 4, 6, 7, 8] [0, 1, 2] (s' := ⟨[(0, .c (.s (.u8 l0))), (1, .c (.wh 0)), (4, .c (.pt 1 0)), (6, .c (.s (.k .i64 i6_1))), (7, .c (.wh 2)), (8, .c (.s (.k .i64 i8_2)))], [], [⟨(.ro false), 5, 1, l1.length, .b l1⟩, ⟨.blk, 34, 1, 6, .c [.s (.k .i64 0), .s (.k .i64 0), .s (.k .i64 0), .s (.k .i64 0), .s (.k .i64 0), .s (.k .i64 0)]⟩, ⟨.row, 3, 1, z7_4.length, .z z7_4⟩]⟩) (by kernel_rfl) (W_skip ?_)
                          obtain ⟨g21, h⟩ := gd_some h
                          obtain ⟨g22, h⟩ := gd_some h
                          obtain ⟨g23, h⟩ := gd_some h
                          obtain ⟨g24, h⟩ := gd_some h
                          obtain ⟨g25, h⟩ := gd_some h
                          obtain ⟨g26, h⟩ := gd_some h
                          obtain ⟨g27, h⟩ := gd_some h
                          obtain ⟨g28, h⟩ := gd_some h
                          refine W_regD hT ftL_nil (by kernel_rfl) 17 [] [(0, false), (1, false), (4, false), (6, false), (7, false), (8, false), (74, false), (90, false)] [] [0, 1, 4, 6, 7, 8] [0, 1, 4] (s' := ⟨[(0, .c (.s (.u8 l0))), (1, .c (.wh 0)), (4, .c (.pt 1 0)), (6, .c (.s (.k .i64 i6_1))), (7, .c (.wh 2)), (8, .c (.s (.k .i64 i8_2)))], [], [⟨(.ro false), 5, 1, l1.length, .b l1⟩, ⟨.blk, 34, 1, 6, .c [.s (.k .i64 0), .s (.k .i64 0), .s (.k .i64 0), .s (.k .i64 0), .s (.k .i64 0), .s (.k .i64 0)]⟩, ⟨.row, 3, 1, (z7_4 ++ [((((((l1.getD i8_2.toNat 0) - (48 : UInt8)).toNat : Nat) : Int) * 10) + ((((l1.getD ((i8_2 + 1).toNat) 0) - (48 : UInt8)).toNat : Nat) : Int))]).length, .z (z7_4 ++ [((((((l1.getD i8_2.toNat 0) - (48 : UInt8)).toNat : Nat) : Int) * 10) + ((((l1.getD ((i8_2 + 1).toNat) 0) - (48 : UInt8)).toNat : Nat) : Int))])⟩]⟩) (by kernel_rfl) (by kernel_rfl) (allP_cons.2 ⟨g21, (allP_cons.2 ⟨g22, (allP_cons.2 ⟨g23, (allP_cons.2 ⟨g24, (allP_cons.2 ⟨g25, (allP_cons.2 ⟨g26, (allP_cons.2 ⟨g27, (allP_cons.2 ⟨g28, allP_nil⟩)⟩)⟩)⟩)⟩)⟩)⟩)⟩) ?_
                          obtain ⟨g29, h⟩ := gd_some h
                          refine W_reg hT ftL_nil [] [] [0, 1, 4, 6, 7, 8] [0, 1, 2] (s' := (pReadTime_l1_E l0 l1 i6_1 (z7_4 ++ [((((((l1.getD i8_2.toNat 0) - (48 : UInt8)).toNat : Nat) : Int) * 10) + ((((l1.getD ((i8_2 + 1).toNat) 0) - (48 : UInt8)).toNat : Nat) : Int))]) (i8_2 + 2))) (by kernel_rfl) (allP_cons.2 ⟨g29, allP_nil⟩) ?_
                          exact pReadTime_l1_M h
                · replace h := bif_f h g55
                  refine W_co [] [0, 4, 7] [1, 2] (s' := ⟨[(0, .c (.s (.u8 l0))), (4, .c (.pt 0 0)), (7, .c (.wh 1))], [], [⟨.blk, 34, 1, 6, .c [.s (.k .i64 0), .s (.k .i64 0), .s (.k .i64 0), .s (.k .i64 0), .s (.k .i64 0), .s (.k .i64 0)]⟩, ⟨.row, 3, 1, z7_4.length, .z z7_4⟩]⟩) (by kernel_rfl) (W_exit ?_)
                  refine W_join (pReadTime_j2_P n l0 r) ?_ ?_
                  · rintro _ ⟨z7_5, rfl, h⟩
                    unfold pReadTime_j2 at h
                    refine W_seq ?_
                    obtain ⟨g31, h⟩ := gd_some h
                    obtain ⟨g32, h⟩ := gd_some h
                    obtain ⟨g33, h⟩ := gd_some h
                    obtain ⟨g34, h⟩ := gd_some h
                    obtain ⟨g35, h⟩ := gd_some h
                    obtain ⟨g36, h⟩ := gd_some h
                    obtain ⟨g37, h⟩ := gd_some h
                    obtain ⟨g38, h⟩ := gd_some h
                    obtain ⟨g39, h⟩ := gd_some h
                    obtain ⟨g40, h⟩ := gd_some h
                    obtain ⟨g41, h⟩ := gd_some h
                    obtain ⟨g42, h⟩ := gd_some h
                    obtain ⟨g43, h⟩ := gd_some h
                    obtain ⟨g44, h⟩ := gd_some h
                    obtain ⟨g45, h⟩ := gd_some h
                    obtain ⟨g46, h⟩ := gd_some h
                    refine W_regD hT ftL_nil (by kernel_rfl) 25 [] [(0, false), (4, false), (10, false), (125, false)] [] [0, 4, 10] [0, 2] (s' := ⟨[(0, .c (.s (.u8 l0))), (4, .c (.pt 0 0)), (10, .c (.pt 1 0))], [], [⟨.blk, 34, 1, 6, .c [.s (.k .i64 0), .s (.k .i64 0), .s (.k .i64 0), .s (.k .i64 0), .s (.k .i64 0), .s (.k .i64 0)]⟩, ⟨.blk, 34, 1, 6, .c [.s (.k .i64 (((z7_5.getD 0 0) * 100) + (z7_5.getD 1 0))), .s (.k .i64 (z7_5.getD 2 0)), .s (.k .i64 (z7_5.getD 3 0)), .s (.k .i64 (z7_5.getD 4 0)), .s (.k .i64 (z7_5.getD 5 0)), .s (.k .i64 (z7_5.getD 6 0))]⟩]⟩) (by kernel_rfl) (by kernel_rfl) (allP_cons.2 ⟨g31, (allP_cons.2 ⟨g32, (allP_cons.2 ⟨g33, (allP_cons.2 ⟨g34, (allP_cons.2 ⟨g35, (allP_cons.2 ⟨g36, (allP_cons.2 ⟨g37, (allP_cons.2 ⟨g38, (allP_cons.2 ⟨g39, (allP_cons.2 ⟨g40, (allP_cons.2 ⟨g41, (allP_cons.2 ⟨g42, (allP_cons.2 ⟨g43, (allP_cons.2 ⟨g44, (allP_cons.2 ⟨g45, (allP_cons.2 ⟨g46, allP_nil⟩)⟩)⟩)⟩)⟩)⟩)⟩)⟩)⟩)⟩)⟩)⟩)⟩)⟩)⟩)⟩) ?_
                    refine W_seq ?_
                    refine W_seq ?_
                    obtain ⟨r128_2, g47, h⟩ := bind_some' h
                    refine W_reg hT (ftL_cons (k := 1) (f := 20) (F := (pTime_ct n r128_2)) (pTime_ok n r128_2) (fun _ _ => True.intro) ftL_nil) [] [] [0, 4, 10, 11, 13] [0, 1] (s' := ⟨[(0, .c (.s (.u8 l0))), (4, .c (.pt 0 0)), (10, .c (.pt 1 0)), (11, .c (.s (.u8 r128_2.1))), (13, .c (.s (.er 31 .i64 r128_2.2.2)))], [], [⟨.blk, 34, 1, 6, .c [.s (.k .i64 0), .s (.k .i64 0), .s (.k .i64 0), .s (.k .i64 0), .s (.k .i64 0), .s (.k .i64 0)]⟩, ⟨.blk, 34, 1, 6, .c [.s (.k .i64 (((z7_5.getD 0 0) * 100) + (z7_5.getD 1 0))), .s (.k .i64 (z7_5.getD 2 0)), .s (.k .i64 (z7_5.getD 3 0)), .s (.k .i64 (z7_5.getD 4 0)), .s (.k .i64 (z7_5.getD 5 0)), .s (.k .i64 (z7_5.getD 6 0))]⟩]⟩) (by kernel_rfl) (allP_cons.2 ⟨g47, allP_nil⟩) ?_
                    refine W_seq ?_
                    rcases Bool.eq_false_or_eq_true (!((r128_2.2.2).isNone)) with g48 | g48
                    · replace h := bif_t h g48
                      refine W_reg hT ftL_nil [(2, true)] [] [4, 10, 138] [0, 1] (s' := ⟨[(4, .c (.pt 0 0)), (10, .c (.pt 1 0)), (138, .c (.s (.b true)))], [], [⟨.blk, 34, 1, 6, .c [.s (.k .i64 0), .s (.k .i64 0), .s (.k .i64 0), .s (.k .i64 0), .s (.k .i64 0), .s (.k .i64 0)]⟩, ⟨.blk, 34, 1, 6, .c [.s (.k .i64 (((z7_5.getD 0 0) * 100) + (z7_5.getD 1 0))), .s (.k .i64 (z7_5.getD 2 0)), .s (.k .i64 (z7_5.getD 3 0)), .s (.k .i64 (z7_5.getD 4 0)), .s (.k .i64 (z7_5.getD 5 0)), .s (.k .i64 (z7_5.getD 6 0))]⟩]⟩) (by kernel_rfl) (allP_cons.2 ⟨g48, allP_nil⟩) ?_
                      refine W_cond (b := true) (by kernel_rfl) (fun _ => ?_) (fun hb => by cases hb)
                      refine W_seq ?_
                      refine W_reg hT ftL_nil [] [] [4, 5] [0] (s' := ⟨[(4, .c (.pt 0 0)), (5, .c (.s (.er 31 .i64 (some 2))))], [], [⟨.blk, 34, 1, 6, .c [.s (.k .i64 0), .s (.k .i64 0), .s (.k .i64 0), .s (.k .i64 0), .s (.k .i64 0), .s (.k .i64 0)]⟩]⟩) (by kernel_rfl) allP_nil ?_
                      refine W_co [] [4, 5] [0] (s' := (pReadTime_R (0, 0, 0, 0, 0, 0, (some 2)))) (by kernel_rfl) (W_ret ?_)
                      exact ⟨.inl rfl, by cases h; rfl⟩
                    · replace h := bif_f h g48
                      refine W_reg hT ftL_nil [(2, false)] [] [4, 10, 138] [0, 1] (s' := ⟨[(4, .c (.pt 0 0)), (10, .c (.pt 1 0)), (138, .c (.s (.b (r128_2.1 != l0))))], [], [⟨.blk, 34, 1, 6, .c [.s (.k .i64 0), .s (.k .i64 0), .s (.k .i64 0), .s (.k .i64 0), .s (.k .i64 0), .s (.k .i64 0)]⟩, ⟨.blk, 34, 1, 6, .c [.s (.k .i64 (((z7_5.getD 0 0) * 100) + (z7_5.getD 1 0))), .s (.k .i64 (z7_5.getD 2 0)), .s (.k .i64 (z7_5.getD 3 0)), .s (.k .i64 (z7_5.getD 4 0)), .s (.k .i64 (z7_5.getD 5 0)), .s (.k .i64 (z7_5.getD 6 0))]⟩]⟩) (by kernel_rfl) (allP_cons.2 ⟨g48, allP_nil⟩) ?_
                      refine W_cond (b := (r128_2.1 != l0)) (by kernel_rfl) (fun g49 => ?_) (fun g49 => ?_)
                      · replace h := bif_t h g49
                        refine W_seq ?_
                        refine W_reg hT ftL_nil [] [] [4, 5] [0] (s' := ⟨[(4, .c (.pt 0 0)), (5, .c (.s (.er 31 .i64 (some 2))))], [], [⟨.blk, 34, 1, 6, .c [.s (.k .i64 0), .s (.k .i64 0), .s (.k .i64 0), .s (.k .i64 0), .s (.k .i64 0), .s (.k .i64 0)]⟩]⟩) (by kernel_rfl) allP_nil ?_
                        refine W_co [] [4, 5] [0] (s' := (pReadTime_R (0, 0, 0, 0, 0, 0, (some 2)))) (by kernel_rfl) (W_ret ?_)
                        exact ⟨.inl rfl, by cases h; rfl⟩
                      · replace h := bif_f h g49
                        refine W_co [] [4, 10] [0, 1] (s' := ⟨[(4, .c (.pt 0 0)), (10, .c (.pt 1 0))], [], [⟨.blk, 34, 1, 6, .c [.s (.k .i64 0), .s (.k .i64 0), .s (.k .i64 0), .s (.k .i64 0), .s (.k .i64 0), .s (.k .i64 0)]⟩, ⟨.blk, 34, 1, 6, .c [.s (.k .i64 (((z7_5.getD 0 0) * 100) + (z7_5.getD 1 0))), .s (.k .i64 (z7_5.getD 2 0)), .s (.k .i64 (z7_5.getD 3 0)), .s (.k .i64 (z7_5.getD 4 0)), .s (.k .i64 (z7_5.getD 5 0)), .s (.k .i64 (z7_5.getD 6 0))]⟩]⟩) (by kernel_rfl) (W_skip ?_)
                        refine W_seq ?_
                        refine W_reg hT ftL_nil [] [] [4, 5] [0] (s' := ⟨[(4, .c (.pt 0 0)), (5, .c (.s (.v .nilIface)))], [], [⟨.blk, 34, 1, 6, .c [.s (.k .i64 (((z7_5.getD 0 0) * 100) + (z7_5.getD 1 0))), .s (.k .i64 (z7_5.getD 2 0)), .s (.k .i64 (z7_5.getD 3 0)), .s (.k .i64 (z7_5.getD 4 0)), .s (.k .i64 (z7_5.getD 5 0)), .s (.k .i64 (z7_5.getD 6 0))]⟩]⟩) (by kernel_rfl) allP_nil ?_
                        refine W_co [.er 5 31 .i64] [4, 5] [0] (s' := (pReadTime_R ((((z7_5.getD 0 0) * 100) + (z7_5.getD 1 0)), (z7_5.getD 2 0), (z7_5.getD 3 0), (z7_5.getD 4 0), (z7_5.getD 5 0), (z7_5.getD 6 0), none))) (by kernel_rfl) (W_ret ?_)
                        exact ⟨.inl rfl, by cases h; rfl⟩
                  · refine W_seq ?_
                    refine W_reg hT ftL_nil [] [] [0, 4, 7, 93] [0, 1] (s' := ⟨[(0, .c (.s (.u8 l0))), (4, .c (.pt 0 0)), (7, .c (.wh 1)), (93, .c (.s (.b (l0 == 23))))], [], [⟨.blk, 34, 1, 6, .c [.s (.k .i64 0), .s (.k .i64 0), .s (.k .i64 0), .s (.k .i64 0), .s (.k .i64 0), .s (.k .i64 0)]⟩, ⟨.row, 3, 1, z7_4.length, .z z7_4⟩]⟩) (by kernel_rfl) allP_nil ?_
                    refine W_cond (b := (l0 == 23)) (by kernel_rfl) (fun g54 => ?_) (fun g54 => ?_)
                    · replace h := bif_t h g54
                      refine W_seq ?_
                      refine W_reg hT ftL_nil [] [] [0, 4, 7, 9] [0, 1] (s' := ⟨[(0, .c (.s (.u8 l0))), (4, .c (.pt 0 0)), (7, .c (.wh 1)), (9, .c (.s (.k .i64 20)))], [], [⟨.blk, 34, 1, 6, .c [.s (.k .i64 0), .s (.k .i64 0), .s (.k .i64 0), .s (.k .i64 0), .s (.k .i64 0), .s (.k .i64 0)]⟩, ⟨.row, 3, 1, z7_4.length, .z z7_4⟩]⟩) (by kernel_rfl) allP_nil ?_
                      refine W_join (pReadTime_j3_P n l0 z7_4 r) ?_ ?_
                      · rintro _ ⟨i9_5, rfl, h⟩
                        unfold pReadTime_j3 at h
                        obtain ⟨g50, h⟩ := gd_some h
                        refine W_reg hT ftL_nil [] [] [0, 4, 7] [0, 3] (s' := (pReadTime_j2_E l0 ([i9_5] ++ z7_4))) (by kernel_rfl) (allP_cons.2 ⟨g50, allP_nil⟩) ?_
                        exact pReadTime_j2_M h
                      · refine W_seq ?_
                        obtain ⟨g51, h⟩ := gd_some h
                        obtain ⟨g52, h⟩ := gd_some h
                        refine W_reg hT ftL_nil [] [] [0, 4, 7, 9, 97] [0, 1] (s' := ⟨[(0, .c (.s (.u8 l0))), (4, .c (.pt 0 0)), (7, .c (.wh 1)), (9, .c (.s (.k .i64 20))), (97, .c (.s (.b (decide ((50 : Int) ≤ (z7_4.getD 0 0))))))], [], [⟨.blk, 34, 1, 6, .c [.s (.k .i64 0), .s (.k .i64 0), .s (.k .i64 0), .s (.k .i64 0), .s (.k .i64 0), .s (.k .i64 0)]⟩, ⟨.row, 3, 1, z7_4.length, .z z7_4⟩]⟩) (by kernel_rfl) (allP_cons.2 ⟨g51, (allP_cons.2 ⟨g52, allP_nil⟩)⟩) ?_
                        refine W_cond (b := (decide ((50 : Int) ≤ (z7_4.getD 0 0)))) (by kernel_rfl) (fun g53 => ?_) (fun g53 => ?_)
                        · replace h := bif_t h g53
                          refine W_reg hT ftL_nil [] [] [0, 4, 7, 9] [0, 1] (s' := (pReadTime_j3_E l0 z7_4 19)) (by kernel_rfl) allP_nil ?_
                          exact pReadTime_j3_M h
                        · replace h := bif_f h g53
                          refine W_co [] [0, 4, 7, 9] [0, 1] (s' := (pReadTime_j3_E l0 z7_4 20)) (by kernel_rfl) (W_skip ?_)
                          exact pReadTime_j3_M h
                    · replace h := bif_f h g54
                      refine W_co [] [0, 4, 7] [0, 1] (s' := (pReadTime_j2_E l0 z7_4)) (by kernel_rfl) (W_skip ?_)
                      exact pReadTime_j2_M h
      · replace h := bif_f h g1
        rcases Bool.eq_false_or_eq_true (((l1.length : Nat) : Int) != i6_1) with g57 | g57
        · replace h := bif_t h g57
          refine W_reg hT ftL_nil [(2, false), (12, true)] [] [0, 1, 4, 6, 35] [0, 1] (s' := ⟨[(0, .c (.s (.u8 l0))), (1, .c (.wh 0)), (4, .c (.pt 1 0)), (6, .c (.s (.k .i64 i6_1))), (35, .c (.s (.b true)))], [], [⟨(.ro false), 5, 1, l1.length, .b l1⟩, ⟨.blk, 34, 1, 6, .c [.s (.k .i64 0), .s (.k .i64 0), .s (.k .i64 0), .s (.k .i64 0), .s (.k .i64 0), .s (.k .i64 0)]⟩]⟩) (by kernel_rfl) (allP_cons.2 ⟨g1, (allP_cons.2 ⟨g57, allP_nil⟩)⟩) ?_
          refine W_cond (b := true) (by kernel_rfl) (fun _ => ?_) (fun hb => by cases hb)
          refine W_seq ?_
          refine W_reg hT ftL_nil [] [] [4, 5] [1] (s' := ⟨[(4, .c (.pt 0 0)), (5, .c (.s (.er 31 .i64 (some 2))))], [], [⟨.blk, 34, 1, 6, .c [.s (.k .i64 0), .s (.k .i64 0), .s (.k .i64 0), .s (.k .i64 0), .s (.k .i64 0), .s (.k .i64 0)]⟩]⟩) (by kernel_rfl) allP_nil ?_
          refine W_co [] [4, 5] [0] (s' := (pReadTime_R (0, 0, 0, 0, 0, 0, (some 2)))) (by kernel_rfl) (W_ret ?_)
          exact ⟨.inl rfl, by cases h; rfl⟩
        · replace h := bif_f h g57
          obtain ⟨g58, h⟩ := gd_some h
          obtain ⟨g59, h⟩ := gd_some h
          obtain ⟨g60, h⟩ := gd_some h
          refine W_reg hT ftL_nil [(2, false), (12, false)] [] [0, 1, 4, 6, 35] [0, 1] (s' := ⟨[(0, .c (.s (.u8 l0))), (1, .c (.wh 0)), (4, .c (.pt 1 0)), (6, .c (.s (.k .i64 i6_1))), (35, .c (.s (.b ((l1.getD ((i6_1 - 1).toNat) 0) != 90))))], [], [⟨(.ro false), 5, 1, l1.length, .b l1⟩, ⟨.blk, 34, 1, 6, .c [.s (.k .i64 0), .s (.k .i64 0), .s (.k .i64 0), .s (.k .i64 0), .s (.k .i64 0), .s (.k .i64 0)]⟩]⟩) (by kernel_rfl) (allP_cons.2 ⟨g1, (allP_cons.2 ⟨g57, (allP_cons.2 ⟨g58, (allP_cons.2 ⟨g59, (allP_cons.2 ⟨g60, allP_nil⟩)⟩)⟩)⟩)⟩) ?_
          refine W_cond (b := ((l1.getD ((i6_1 - 1).toNat) 0) != 90)) (by kernel_rfl) (fun g110 => ?_) (fun g110 => ?_)
          · replace h := bif_t h g110
            refine W_seq ?_
            refine W_reg hT ftL_nil [] [] [4, 5] [1] (s' := ⟨[(4, .c (.pt 0 0)), (5, .c (.s (.er 31 .i64 (some 2))))], [], [⟨.blk, 34, 1, 6, .c [.s (.k .i64 0), .s (.k .i64 0), .s (.k .i64 0), .s (.k .i64 0), .s (.k .i64 0), .s (.k .i64 0)]⟩]⟩) (by kernel_rfl) allP_nil ?_
            refine W_co [] [4, 5] [0] (s' := (pReadTime_R (0, 0, 0, 0, 0, 0, (some 2)))) (by kernel_rfl) (W_ret ?_)
            exact ⟨.inl rfl, by cases h; rfl⟩
          · replace h := bif_f h g110
            refine W_co [] [0, 1, 4, 6] [0, 1] (s' := ⟨[(0, .c (.s (.u8 l0))), (1, .c (.wh 0)), (4, .c (.pt 1 0)), (6, .c (.s (.k .i64 i6_1)))], [], [⟨(.ro false), 5, 1, l1.length, .b l1⟩, ⟨.blk, 34, 1, 6, .c [.s (.k .i64 0), .s (.k .i64 0), .s (.k .i64 0), .s (.k .i64 0), .s (.k .i64 0), .s (.k .i64 0)]⟩]⟩) (by kernel_rfl) (W_skip ?_)
            refine W_seq ?_
            refine W_reg hT ftL_nil [] [] [0, 1, 4, 6, 7] [0, 1] (s' := ⟨[(0, .c (.s (.u8 l0))), (1, .c (.wh 0)), (4, .c (.pt 1 0)), (6, .c (.s (.k .i64 i6_1))), (7, .c (.nils))], [], [⟨(.ro false), 5, 1, l1.length, .b l1⟩, ⟨.blk, 34, 1, 6, .c [.s (.k .i64 0), .s (.k .i64 0), .s (.k .i64 0), .s (.k .i64 0), .s (.k .i64 0), .s (.k .i64 0)]⟩]⟩) (by kernel_rfl) allP_nil ?_
            refine W_seq ?_
            refine W_seq ?_
            refine W_reg hT ftL_nil [] [] [0, 1, 4, 6, 7, 8] [0, 1] (s' := ⟨[(0, .c (.s (.u8 l0))), (1, .c (.wh 0)), (4, .c (.pt 1 0)), (6, .c (.s (.k .i64 i6_1))), (7, .c (.nils)), (8, .c (.s (.k .i64 0)))], [], [⟨(.ro false), 5, 1, l1.length, .b l1⟩, ⟨.blk, 34, 1, 6, .c [.s (.k .i64 0), .s (.k .i64 0), .s (.k .i64 0), .s (.k .i64 0), .s (.k .i64 0), .s (.k .i64 0)]⟩]⟩) (by kernel_rfl) allP_nil ?_
            refine W_block ?_
            refine W_co [.nil 7 3 1 (.z [])] [0, 1, 4, 6, 7, 8] [0, 1, 2] (s' := (pReadTime_l2_E l0 l1 i6_1 [] 0)) (by kernel_rfl) (W_lp ((pReadTime_l2_P n l0 l1 i6_1 r)) n (pReadTime_l2_M h) ?_)
            rintro fu_l2 _ ⟨z7_6, i8_3, rfl, h⟩
            cases fu_l2 with
            | zero => cases h
            | succ fu_l2 =>
              refine ⟨fu_l2, rfl, ?_⟩
              rw [pReadTime_l2] at h
              refine W_seq ?_
              refine W_seq ?_
              obtain ⟨g61, h⟩ := gd_some h
              refine W_reg hT ftL_nil [] [] [0, 1, 4, 6, 7, 8, 41] [0, 1, 2] (s' := ⟨[(0, .c (.s (.u8 l0))), (1, .c (.wh 0)), (4, .c (.pt 1 0)), (6, .c (.s (.k .i64 i6_1))), (7, .c (.wh 2)), (8, .c (.s (.k .i64 i8_3))), (41, .c (.s (.b (decide (i8_3 < (i6_1 - 1))))))], [], [⟨(.ro false), 5, 1, l1.length, .b l1⟩, ⟨.blk, 34, 1, 6, .c [.s (.k .i64 0), .s (.k .i64 0), .s (.k .i64 0), .s (.k .i64 0), .s (.k .i64 0), .s (.k .i64 0)]⟩, ⟨.row, 3, 1, z7_6.length, .z z7_6⟩]⟩) (by kernel_rfl) (allP_cons.2 ⟨g61, allP_nil⟩) ?_
              refine W_cond (b := (decide (i8_3 < (i6_1 - 1)))) (by kernel_rfl) (fun g109 => ?_) (fun g109 => ?_)
              · replace h := bif_t h g109
                refine W_co [] [0, 1, 4, 6, 7, 8] [0, 1, 2] (s' := ⟨[(0, .c (.s (.u8 l0))), (1, .c (.wh 0)), (4, .c (.pt 1 0)), (6, .c (.s (.k .i64 i6_1))), (7, .c (.wh 2)), (8, .c (.s (.k .i64 i8_3)))], [], [⟨(.ro false), 5, 1, l1.length, .b l1⟩, ⟨.blk, 34, 1, 6, .c [.s (.k .i64 0), .s (.k .i64 0), .s (.k .i64 0), .s (.k .i64 0), .s (.k .i64 0), .s (.k .i64 0)]⟩, ⟨.row, 3, 1, z7_6.length, .z z7_6⟩]⟩) (by kernel_rfl) (W_skip ?_)
                refine W_seq ?_
                refine W_block ?_
                refine W_seq ?_
                refine W_seq ?_
                obtain ⟨g62, h⟩ := gd_some h
                obtain ⟨g63, h⟩ := gd_some h
                rcases Bool.eq_false_or_eq_true (decide ((l1.getD i8_3.toNat 0) < (48 : UInt8))) with g64 | g64
                · replace h := bif_t h g64
                  refine W_reg hT ftL_nil [(5, true)] [] [0, 1, 4, 6, 7, 8, 71] [0, 1, 2] (s' := ⟨[(0, .c (.s (.u8 l0))), (1, .c (.wh 0)), (4, .c (.pt 1 0)), (6, .c (.s (.k .i64 i6_1))), (7, .c (.wh 2)), (8, .c (.s (.k .i64 i8_3))), (71, .c (.s (.b true)))], [], [⟨(.ro false), 5, 1, l1.length, .b l1⟩, ⟨.blk, 34, 1, 6, .c [.s (.k .i64 0), .s (.k .i64 0), .s (.k .i64 0), .s (.k .i64 0), .s (.k .i64 0), .s (.k .i64 0)]⟩, ⟨.row, 3, 1, z7_6.length, .z z7_6⟩]⟩) (by kernel_rfl) (allP_cons.2 ⟨g62, (allP_cons.2 ⟨g63, (allP_cons.2 ⟨g64, allP_nil⟩)⟩)⟩) ?_
                  refine W_cond (b := true) (by kernel_rfl) (fun _ => ?_) (fun hb => by cases hb)
                  refine W_seq ?_
                  refine W_reg hT ftL_nil [] [] [4, 5] [1] (s' := ⟨[(4, .c (.pt 0 0)), (5, .c (.s (.er 31 .i64 (some 2))))], [], [⟨.blk, 34, 1, 6, .c [.s (.k .i64 0), .s (.k .i64 0), .s (.k .i64 0), .s (.k .i64 0), .s (.k .i64 0), .s (.k .i64 0)]⟩]⟩) (by kernel_rfl) allP_nil ?_
                  refine W_co [] [4, 5] [0] (s' := (pReadTime_R (0, 0, 0, 0, 0, 0, (some 2)))) (by kernel_rfl) (W_ret ?_)
                  exact ⟨.inl rfl, by cases h; rfl⟩
                · replace h := bif_f h g64
                  obtain ⟨g65, h⟩ := gd_some h
                  obtain ⟨g66, h⟩ := gd_some h
                  rcases Bool.eq_false_or_eq_true (decide ((57 : UInt8) < (l1.getD i8_3.toNat 0))) with g67 | g67
                  · replace h := bif_t h g67
                    refine W_reg hT ftL_nil [(5, false), (12, true)] [] [0, 1, 4, 6, 7, 8, 71] [0, 1, 2] (s' := ⟨[(0, .c (.s (.u8 l0))), (1, .c (.wh 0)), (4, .c (.pt 1 0)), (6, .c (.s (.k .i64 i6_1))), (7, .c (.wh 2)), (8, .c (.s (.k .i64 i8_3))), (71, .c (.s (.b true)))], [], [⟨(.ro false), 5, 1, l1.length, .b l1⟩, ⟨.blk, 34, 1, 6, .c [.s (.k .i64 0), .s (.k .i64 0), .s (.k .i64 0), .s (.k .i64 0), .s (.k .i64 0), .s (.k .i64 0)]⟩, ⟨.row, 3, 1, z7_6.length, .z z7_6⟩]⟩) (by kernel_rfl) (allP_cons.2 ⟨g62, (allP_cons.2 ⟨g63, (allP_cons.2 ⟨g64, (allP_cons.2 ⟨g65, (allP_cons.2 ⟨g66, (allP_cons.2 ⟨g67, allP_nil⟩)⟩)⟩)⟩)⟩)⟩) ?_
                    refine W_cond (b := true) (by kernel_rfl) (fun _ => ?_) (fun hb => by cases hb)
                    refine W_seq ?_
                    refine W_reg hT ftL_nil [] [] [4, 5] [1] (s' := ⟨[(4, .c (.pt 0 0)), (5, .c (.s (.er 31 .i64 (some 2))))], [], [⟨.blk, 34, 1, 6, .c [.s (.k .i64 0), .s (.k .i64 0), .s (.k .i64 0), .s (.k .i64 0), .s (.k .i64 0), .s (.k .i64 0)]⟩]⟩) (by kernel_rfl) allP_nil ?_
                    refine W_co [] [4, 5] [0] (s' := (pReadTime_R (0, 0, 0, 0, 0, 0, (some 2)))) (by kernel_rfl) (W_ret ?_)
                    exact ⟨.inl rfl, by cases h; rfl⟩
                  · replace h := bif_f h g67
                    obtain ⟨g68, h⟩ := gd_some h
                    obtain ⟨g69, h⟩ := gd_some h
                    obtain ⟨g70, h⟩ := gd_some h
                    rcases Bool.eq_false_or_eq_true (decide ((l1.getD ((i8_3 + 1).toNat) 0) < (48 : UInt8))) with g71 | g71
                    · replace h := bif_t h g71
                      refine W_reg hT ftL_nil [(5, false), (12, false), (20, true)] [] [0, 1, 4, 6, 7, 8, 71] [0, 1, 2] (s' := ⟨[(0, .c (.s (.u8 l0))), (1, .c (.wh 0)), (4, .c (.pt 1 0)), (6, .c (.s (.k .i64 i6_1))), (7, .c (.wh 2)), (8, .c (.s (.k .i64 i8_3))), (71, .c (.s (.b true)))], [], [⟨(.ro false), 5, 1, l1.length, .b l1⟩, ⟨.blk, 34, 1, 6, .c [.s (.k .i64 0), .s (.k .i64 0), .s (.k .i64 0), .s (.k .i64 0), .s (.k .i64 0), .s (.k .i64 0)]⟩, ⟨.row, 3, 1, z7_6.length, .z z7_6⟩]⟩) (by kernel_rfl) (allP_cons.2 ⟨g62, (allP_cons.2 ⟨g63, (allP_cons.2 ⟨g64, (allP_cons.2 ⟨g65, (allP_cons.2 ⟨g66, (allP_cons.2 ⟨g67, (allP_cons.2 ⟨g68, (allP_cons.2 ⟨g69, (allP_cons.2 ⟨g70, (allP_cons.2 ⟨g71, allP_nil⟩)⟩)⟩)⟩)⟩)⟩)⟩)⟩)⟩)⟩) ?_
                      refine W_cond (b := true) (by kernel_rfl) (fun _ => ?_) (fun hb => by cases hb)
                      refine W_seq ?_
                      refine W_reg hT ftL_nil [] [] [4, 5] [1] (s' := ⟨[(4, .c (.pt 0 0)), (5, .c (.s (.er 31 .i64 (some 2))))], [], [⟨.blk, 34, 1, 6, .c [.s (.k .i64 0), .s (.k .i64 0), .s (.k .i64 0), .s (.k .i64 0), .s (.k .i64 0), .s (.k .i64 0)]⟩]⟩) (by kernel_rfl) allP_nil ?_
                      refine W_co [] [4, 5] [0] (s' := (pReadTime_R (0, 0, 0, 0, 0, 0, (some 2)))) (by kernel_rfl) (W_ret ?_)
                      exact ⟨.inl rfl, by cases h; rfl⟩
                    · replace h := bif_f h g71
                      obtain ⟨g72, h⟩ := gd_some h
                      obtain ⟨g73, h⟩ := gd_some h
                      obtain ⟨g74, h⟩ := gd_some h
                      refine W_reg hT ftL_nil [(5, false), (12, false), (20, false)] [] [0, 1, 4, 6, 7, 8, 71] [0, 1, 2] (s' := ⟨[(0, .c (.s (.u8 l0))), (1, .c (.wh 0)), (4, .c (.pt 1 0)), (6, .c (.s (.k .i64 i6_1))), (7, .c (.wh 2)), (8, .c (.s (.k .i64 i8_3))), (71, .c (.s (.b (decide ((57 : UInt8) < (l1.getD ((i8_3 + 1).toNat) 0))))))], [], [⟨(.ro false), 5, 1, l1.length, .b l1⟩, ⟨.blk, 34, 1, 6, .c [.s (.k .i64 0), .s (.k .i64 0), .s (.k .i64 0), .s (.k .i64 0), .s (.k .i64 0), .s (.k .i64 0)]⟩, ⟨.row, 3, 1, z7_6.length, .z z7_6⟩]⟩) (by kernel_rfl) (allP_cons.2 ⟨g62, (allP_cons.2 ⟨g63, (allP_cons.2 ⟨g64, (allP_cons.2 ⟨g65, (allP_cons.2 ⟨g66, (allP_cons.2 ⟨g67, (allP_cons.2 ⟨g68, (allP_cons.2 ⟨g69, (allP_cons.2 ⟨g70, (allP_cons.2 ⟨g71, (allP_cons.2 ⟨g72, (allP_cons.2 ⟨g73, (allP_cons.2 ⟨g74, allP_nil⟩)⟩)⟩)⟩)⟩)⟩)⟩)⟩)⟩)⟩)⟩)⟩)⟩) ?_
                      refine W_cond (b := (decide ((57 : UInt8) < (l1.getD ((i8_3 + 1).toNat) 0)))) (by kernel_rfl) (fun g84 => ?_) (fun g84 => ?_)
                      · replace h := bif_t h g84
                        refine W_seq ?_
                        refine W_reg hT ftL_nil [] [] [4, 5] [1] (s' := ⟨[(4, .c (.pt 0 0)), (5, .c (.s (.er 31 .i64 (some 2))))], [], [⟨.blk, 34, 1, 6, .c [.s (.k .i64 0), .s (.k .i64 0), .s (.k .i64 0), .s (.k .i64 0), .s (.k .i64 0), .s (.k .i64 0)]⟩]⟩) (by kernel_rfl) allP_nil ?_
                        refine W_co [] [4, 5] [0] (s' := (pReadTime_R (0, 0, 0, 0, 0, 0, (some 2)))) (by kernel_rfl) (W_ret ?_)
                        exact ⟨.inl rfl, by cases h; rfl⟩
                      · replace h := bif_f h g84
                        refine W_co [] [0, 1, 4, 6, 7, 8] [0, 1, 2] (s' := ⟨[(0, .c (.s (.u8 l0))), (1, .c (.wh 0)), (4, .c (.pt 1 0)), (6, .c (.s (.k .i64 i6_1))), (7, .c (.wh 2)), (8, .c (.s (.k .i64 i8_3)))], [], [⟨(.ro false), 5, 1, l1.length, .b l1⟩, ⟨.blk, 34, 1, 6, .c [.s (.k .i64 0), .s (.k .i64 0), .s (.k .i64 0), .s (.k .i64 0), .s (.k .i64 0), .s (.k .i64 0)]⟩, ⟨.row, 3, 1, z7_6.length, .z z7_6⟩]⟩) (by kernel_rfl) (W_skip ?_)
                        obtain ⟨g75, h⟩ := gd_some h
                        obtain ⟨g76, h⟩ := gd_some h
                        obtain ⟨g77, h⟩ := gd_some h
                        obtain ⟨g78, h⟩ := gd_some h
                        obtain ⟨g79, h⟩ := gd_some h
                        obtain ⟨g80, h⟩ := gd_some h
                        obtain ⟨g81, h⟩ := gd_some h
                        obtain ⟨g82, h⟩ := gd_some h
                        refine W_regD hT ftL_nil (by kernel_rfl) 17 [] [(0, false), (1, false), (4, false), (6, false), (7, false), (8, false), (74, false), (90, false)] [] [0, 1, 4, 6, 7, 8] [0, 1, 4] (s' := ⟨[(0, .c (.s (.u8 l0))), (1, .c (.wh 0)), (4, .c (.pt 1 0)), (6, .c (.s (.k .i64 i6_1))), (7, .c (.wh 2)), (8, .c (.s (.k .i64 i8_3)))], [], [⟨(.ro false), 5, 1, l1.length, .b l1⟩, ⟨.blk, 34, 1, 6, .c [.s (.k .i64 0), .s (.k .i64 0), .s (.k .i64 0), .s (.k .i64 0), .s (.k .i64 0), .s (.k .i64 0)]⟩, ⟨.row, 3, 1, (z7_6 ++ [((((((l1.getD i8_3.toNat 0) - (48 : UInt8)).toNat : Nat) : Int) * 10) + ((((l1.getD ((i8_3 + 1).toNat) 0) - (48 : UInt8)).toNat : Nat) : Int))]).length, .z (z7_6 ++ [((((((l1.getD i8_3.toNat 0) - (48 : UInt8)).toNat : Nat) : Int) * 10) + ((((l1.getD ((i8_3 + 1).toNat) 0) - (48 : UInt8)).toNat : Nat) : Int))])⟩]⟩) (by kernel_rfl) (by kernel_rfl) (allP_cons.2 ⟨g75, (allP_cons.2 ⟨g76, (allP_cons.2 ⟨g77, (allP_cons.2 ⟨g78, (allP_cons.2 ⟨g79, (allP_cons.2 ⟨g80, (allP_cons.2 ⟨g81, (allP_cons.2 ⟨g82, allP_nil⟩)⟩)⟩)⟩)⟩)⟩)⟩)⟩) ?_
                        obtain ⟨g83, h⟩ := gd_some h
                        refine W_reg hT ftL_nil [] [] [0, 1, 4, 6, 7, 8] [0, 1, 2] (s' := (pReadTime_l2_E l0 l1 i6_1 (z7_6 ++ [((((((l1.getD i8_3.toNat 0) - (48 : UInt8)).toNat : Nat) : Int) * 10) + ((((l1.getD ((i8_3 + 1).toNat) 0) - (48 : UInt8)).toNat : Nat) : Int))]) (i8_3 + 2))) (by kernel_rfl) (allP_cons.2 ⟨g83, allP_nil⟩) ?_
                        exact pReadTime_l2_M h
              · replace h := bif_f h g109
                refine W_co [] [0, 4, 7] [1, 2] (s' := ⟨[(0, .c (.s (.u8 l0))), (4, .c (.pt 0 0)), (7, .c (.wh 1))], [], [⟨.blk, 34, 1, 6, .c [.s (.k .i64 0), .s (.k .i64 0), .s (.k .i64 0), .s (.k .i64 0), .s (.k .i64 0), .s (.k .i64 0)]⟩, ⟨.row, 3, 1, z7_6.length, .z z7_6⟩]⟩) (by kernel_rfl) (W_exit ?_)
                refine W_join (pReadTime_j4_P n l0 r) ?_ ?_
                · rintro _ ⟨z7_7, rfl, h⟩
                  unfold pReadTime_j4 at h
                  refine W_seq ?_
                  obtain ⟨g85, h⟩ := gd_some h
                  obtain ⟨g86, h⟩ := gd_some h
                  obtain ⟨g87, h⟩ := gd_some h
                  obtain ⟨g88, h⟩ := gd_some h
                  obtain ⟨g89, h⟩ := gd_some h
                  obtain ⟨g90, h⟩ := gd_some h
                  obtain ⟨g91, h⟩ := gd_some h
                  obtain ⟨g92, h⟩ := gd_some h
                  obtain ⟨g93, h⟩ := gd_some h
                  obtain ⟨g94, h⟩ := gd_some h
                  obtain ⟨g95, h⟩ := gd_some h
                  obtain ⟨g96, h⟩ := gd_some h
                  obtain ⟨g97, h⟩ := gd_some h
                  obtain ⟨g98, h⟩ := gd_some h
                  obtain ⟨g99, h⟩ := gd_some h
                  obtain ⟨g100, h⟩ := gd_some h
                  refine W_regD hT ftL_nil (by kernel_rfl) 25 [] [(0, false), (4, false), (10, false), (125, false)] [] [0, 4, 10] [0, 2] (s' := ⟨[(0, .c (.s (.u8 l0))), (4, .c (.pt 0 0)), (10, .c (.pt 1 0))], [], [⟨.blk, 34, 1, 6, .c [.s (.k .i64 0), .s (.k .i64 0), .s (.k .i64 0), .s (.k .i64 0), .s (.k .i64 0), .s (.k .i64 0)]⟩, ⟨.blk, 34, 1, 6, .c [.s (.k .i64 (((z7_7.getD 0 0) * 100) + (z7_7.getD 1 0))), .s (.k .i64 (z7_7.getD 2 0)), .s (.k .i64 (z7_7.getD 3 0)), .s (.k .i64 (z7_7.getD 4 0)), .s (.k .i64 (z7_7.getD 5 0)), .s (.k .i64 (z7_7.getD 6 0))]⟩]⟩) (by kernel_rfl) (by kernel_rfl) (allP_cons.2 ⟨g85, (allP_cons.2 ⟨g86, (allP_cons.2 ⟨g87, (allP_cons.2 ⟨g88, (allP_cons.2 ⟨g89, (allP_cons.2 ⟨g90, (allP_cons.2 ⟨g91, (allP_cons.2 ⟨g92, (allP_cons.2 ⟨g93, (allP_cons.2 ⟨g94, (allP_cons.2 ⟨g95, (allP_cons.2 ⟨g96, (allP_cons.2 ⟨g97, (allP_cons.2 ⟨g98, (allP_cons.2 ⟨g99, (allP_cons.2 ⟨g100, allP_nil⟩)⟩)⟩)⟩)⟩)⟩)⟩)⟩)⟩)⟩)⟩)⟩)⟩)⟩)⟩)⟩) ?_
                  refine W_seq ?_
                  refine W_seq ?_
                  obtain ⟨r128_3, g101, h⟩ := bind_some' h
                  refine W_reg hT (ftL_cons (k := 1) (f := 20) (F := (pTime_ct n r128_3)) (pTime_ok n r128_3) (fun _ _ => True.intro) ftL_nil) [] [] [0, 4, 10, 11, 13] [0, 1] (s' := ⟨[(0, .c (.s (.u8 l0))), (4, .c (.pt 0 0)), (10, .c (.pt 1 0)), (11, .c (.s (.u8 r128_3.1))), (13, .c (.s (.er 31 .i64 r128_3.2.2)))], [], [⟨.blk, 34, 1, 6, .c [.s (.k .i64 0), .s (.k .i64 0), .s (.k .i64 0), .s (.k .i64 0), .s (.k .i64 0), .s (.k .i64 0)]⟩, ⟨.blk, 34, 1, 6, .c [.s (.k .i64 (((z7_7.getD 0 0) * 100) + (z7_7.getD 1 0))), .s (.k .i64 (z7_7.getD 2 0)), .s (.k .i64 (z7_7.getD 3 0)), .s (.k .i64 (z7_7.getD 4 0)), .s (.k .i64 (z7_7.getD 5 0)), .s (.k .i64 (z7_7.getD 6 0))]⟩]⟩) (by kernel_rfl) (allP_cons.2 ⟨g101, allP_nil⟩) ?_
                  refine W_seq ?_
                  rcases Bool.eq_false_or_eq_true (!((r128_3.2.2).isNone)) with g102 | g102
                  · replace h := bif_t h g102
                    refine W_reg hT ftL_nil [(2, true)] [] [4, 10, 138] [0, 1] (s' := ⟨[(4, .c (.pt 0 0)), (10, .c (.pt 1 0)), (138, .c (.s (.b true)))], [], [⟨.blk, 34, 1, 6, .c [.s (.k .i64 0), .s (.k .i64 0), .s (.k .i64 0), .s (.k .i64 0), .s (.k .i64 0), .s (.k .i64 0)]⟩, ⟨.blk, 34, 1, 6, .c [.s (.k .i64 (((z7_7.getD 0 0) * 100) + (z7_7.getD 1 0))), .s (.k .i64 (z7_7.getD 2 0)), .s (.k .i64 (z7_7.getD 3 0)), .s (.k .i64 (z7_7.getD 4 0)), .s (.k .i64 (z7_7.getD 5 0)), .s (.k .i64 (z7_7.getD 6 0))]⟩]⟩) (by kernel_rfl) (allP_cons.2 ⟨g102, allP_nil⟩) ?_
                    refine W_cond (b := true) (by kernel_rfl) (fun _ => ?_) (fun hb => by cases hb)
                    refine W_seq ?_
                    refine W_reg hT ftL_nil [] [] [4, 5] [0] (s' := ⟨[(4, .c (.pt 0 0)), (5, .c (.s (.er 31 .i64 (some 2))))], [], [⟨.blk, 34, 1, 6, .c [.s (.k .i64 0), .s (.k .i64 0), .s (.k .i64 0), .s (.k .i64 0), .s (.k .i64 0), .s (.k .i64 0)]⟩]⟩) (by kernel_rfl) allP_nil ?_
                    refine W_co [] [4, 5] [0] (s' := (pReadTime_R (0, 0, 0, 0, 0, 0, (some 2)))) (by kernel_rfl) (W_ret ?_)
                    exact ⟨.inl rfl, by cases h; rfl⟩
                  · replace h := bif_f h g102
                    refine W_reg hT ftL_nil [(2, false)] [] [4, 10, 138] [0, 1] (s' := ⟨[(4, .c (.pt 0 0)), (10, .c (.pt 1 0)), (138, .c (.s (.b (r128_3.1 != l0))))], [], [⟨.blk, 34, 1, 6, .c [.s (.k .i64 0), .s (.k .i64 0), .s (.k .i64 0), .s (.k .i64 0), .s (.k .i64 0), .s (.k .i64 0)]⟩, ⟨.blk, 34, 1, 6, .c [.s (.k .i64 (((z7_7.getD 0 0) * 100) + (z7_7.getD 1 0))), .s (.k .i64 (z7_7.getD 2 0)), .s (.k .i64 (z7_7.getD 3 0)), .s (.k .i64 (z7_7.getD 4 0)), .s (.k .i64 (z7_7.getD 5 0)), .s (.k .i64 (z7_7.getD 6 0))]⟩]⟩) (by kernel_rfl) (allP_cons.2 ⟨g102, allP_nil⟩) ?_
                    refine W_cond (b := (r128_3.1 != l0)) (by kernel_rfl) (fun g103 => ?_) (fun g103 => ?_)
                    · replace h := bif_t h g103
                      refine W_seq ?_
                      refine W_reg hT ftL_nil [] [] [4, 5] [0] (s' := ⟨[(4, .c (.pt 0 0)), (5, .c (.s (.er 31 .i64 (some 2))))], [], [⟨.blk, 34, 1, 6, .c [.s (.k .i64 0), .s (.k .i64 0), .s (.k .i64 0), .s (.k .i64 0), .s (.k .i64 0), .s (.k .i64 0)]⟩]⟩) (by kernel_rfl) allP_nil ?_
                      refine W_co [] [4, 5] [0] (s' := (pReadTime_R (0, 0, 0, 0, 0, 0, (some 2)))) (by kernel_rfl) (W_ret ?_)
                      exact ⟨.inl rfl, by cases h; rfl⟩
                    · replace h := bif_f h g103
                      refine W_co [] [4, 10] [0, 1] (s' := ⟨[(4, .c (.pt 0 0)), (10, .c (.pt 1 0))], [], [⟨.blk, 34, 1, 6, .c [.s (.k .i64 0), .s (.k .i64 0), .s (.k .i64 0), .s (.k .i64 0), .s (.k .i64 0), .s (.k .i64 0)]⟩, ⟨.blk, 34, 1, 6, .c [.s (.k .i64 (((z7_7.getD 0 0) * 100) + (z7_7.getD 1 0))), .s (.k .i64 (z7_7.getD 2 0)), .s (.k .i64 (z7_7.getD 3 0)), .s (.k .i64 (z7_7.getD 4 0)), .s (.k .i64 (z7_7.getD 5 0)), .s (.k .i64 (z7_7.getD 6 0))]⟩]⟩) (by kernel_rfl) (W_skip ?_)
                      refine W_seq ?_
                      refine W_reg hT ftL_nil [] [] [4, 5] [0] (s' := ⟨[(4, .c (.pt 0 0)), (5, .c (.s (.v .nilIface)))], [], [⟨.blk, 34, 1, 6, .c [.s (.k .i64 (((z7_7.getD 0 0) * 100) + (z7_7.getD 1 0))), .s (.k .i64 (z7_7.getD 2 0)), .s (.k .i64 (z7_7.getD 3 0)), .s (.k .i64 (z7_7.getD 4 0)), .s (.k .i64 (z7_7.getD 5 0)), .s (.k .i64 (z7_7.getD 6 0))]⟩]⟩) (by kernel_rfl) allP_nil ?_
                      refine W_co [.er 5 31 .i64] [4, 5] [0] (s' := (pReadTime_R ((((z7_7.getD 0 0) * 100) + (z7_7.getD 1 0)), (z7_7.getD 2 0), (z7_7.getD 3 0), (z7_7.getD 4 0), (z7_7.getD 5 0), (z7_7.getD 6 0), none))) (by kernel_rfl) (W_ret ?_)
                      exact ⟨.inl rfl, by cases h; rfl⟩
                · refine W_seq ?_
                  refine W_reg hT ftL_nil [] [] [0, 4, 7, 93] [0, 1] (s' := ⟨[(0, .c (.s (.u8 l0))), (4, .c (.pt 0 0)), (7, .c (.wh 1)), (93, .c (.s (.b (l0 == 23))))], [], [⟨.blk, 34, 1, 6, .c [.s (.k .i64 0), .s (.k .i64 0), .s (.k .i64 0), .s (.k .i64 0), .s (.k .i64 0), .s (.k .i64 0)]⟩, ⟨.row, 3, 1, z7_6.length, .z z7_6⟩]⟩) (by kernel_rfl) allP_nil ?_
                  refine W_cond (b := (l0 == 23)) (by kernel_rfl) (fun g108 => ?_) (fun g108 => ?_)
                  · replace h := bif_t h g108
                    refine W_seq ?_
                    refine W_reg hT ftL_nil [] [] [0, 4, 7, 9] [0, 1] (s' := ⟨[(0, .c (.s (.u8 l0))), (4, .c (.pt 0 0)), (7, .c (.wh 1)), (9, .c (.s (.k .i64 20)))], [], [⟨.blk, 34, 1, 6, .c [.s (.k .i64 0), .s (.k .i64 0), .s (.k .i64 0), .s (.k .i64 0), .s (.k .i64 0), .s (.k .i64 0)]⟩, ⟨.row, 3, 1, z7_6.length, .z z7_6⟩]⟩) (by kernel_rfl) allP_nil ?_
                    refine W_join (pReadTime_j5_P n l0 z7_6 r) ?_ ?_
                    · rintro _ ⟨i9_7, rfl, h⟩
                      unfold pReadTime_j5 at h
                      obtain ⟨g104, h⟩ := gd_some h
                      refine W_reg hT ftL_nil [] [] [0, 4, 7] [0, 3] (s' := (pReadTime_j4_E l0 ([i9_7] ++ z7_6))) (by kernel_rfl) (allP_cons.2 ⟨g104, allP_nil⟩) ?_
                      exact pReadTime_j4_M h
                    · refine W_seq ?_
                      obtain ⟨g105, h⟩ := gd_some h
                      obtain ⟨g106, h⟩ := gd_some h
                      refine W_reg hT ftL_nil [] [] [0, 4, 7, 9, 97] [0, 1] (s' := ⟨[(0, .c (.s (.u8 l0))), (4, .c (.pt 0 0)), (7, .c (.wh 1)), (9, .c (.s (.k .i64 20))), (97, .c (.s (.b (decide ((50 : Int) ≤ (z7_6.getD 0 0))))))], [], [⟨.blk, 34, 1, 6, .c [.s (.k .i64 0), .s (.k .i64 0), .s (.k .i64 0), .s (.k .i64 0), .s (.k .i64 0), .s (.k .i64 0)]⟩, ⟨.row, 3, 1, z7_6.length, .z z7_6⟩]⟩) (by kernel_rfl) (allP_cons.2 ⟨g105, (allP_cons.2 ⟨g106, allP_nil⟩)⟩) ?_
                      refine W_cond (b := (decide ((50 : Int) ≤ (z7_6.getD 0 0)))) (by kernel_rfl) (fun g107 => ?_) (fun g107 => ?_)
                      · replace h := bif_t h g107
                        refine W_reg hT ftL_nil [] [] [0, 4, 7, 9] [0, 1] (s' := (pReadTime_j5_E l0 z7_6 19)) (by kernel_rfl) allP_nil ?_
                        exact pReadTime_j5_M h
                      · replace h := bif_f h g107
                        refine W_co [] [0, 4, 7, 9] [0, 1] (s' := (pReadTime_j5_E l0 z7_6 20)) (by kernel_rfl) (W_skip ?_)
                        exact pReadTime_j5_M h
                  · replace h := bif_f h g108
                    refine W_co [] [0, 4, 7] [0, 1] (s' := (pReadTime_j4_E l0 z7_6)) (by kernel_rfl) (W_skip ?_)
                    exact pReadTime_j4_M h
    · refine W_seq ?_
      refine W_reg hT ftL_nil [] [] [0, 1, 4, 6, 15] [0, 1] (s' := ⟨[(0, .c (.s (.u8 l0))), (1, .c (.wh 0)), (4, .c (.pt 1 0)), (6, .c (.s (.k .i64 13))), (15, .c (.s (.b (l0 == 24))))], [], [⟨(.ro false), 5, 1, l1.length, .b l1⟩, ⟨.blk, 34, 1, 6, .c [.s (.k .i64 0), .s (.k .i64 0), .s (.k .i64 0), .s (.k .i64 0), .s (.k .i64 0), .s (.k .i64 0)]⟩]⟩) (by kernel_rfl) allP_nil ?_
      refine W_cond (b := (l0 == 24)) (by kernel_rfl) (fun g111 => ?_) (fun g111 => ?_)
      · replace h := bif_t h g111
        refine W_reg hT ftL_nil [] [] [0, 1, 4, 6] [0, 1] (s' := (pReadTime_j1_E l0 l1 15)) (by kernel_rfl) allP_nil ?_
        exact pReadTime_j1_M h
      · replace h := bif_f h g111
        refine W_co [] [0, 1, 4, 6] [0, 1] (s' := (pReadTime_j1_E l0 l1 13)) (by kernel_rfl) (W_skip ?_)
        exact pReadTime_j1_M h
  · rintro e s' ⟨he, rfl⟩
    refine ⟨he, fun a' w' hr => ?_⟩
    exact retS_ok tabO_pz hr (rs := [.cell 4 34, .tmp 5]) rfl (objs := []) (by kernel_rfl)
def rtwo_R (r : List UInt8) : S := ⟨[(2, .c (.wh 0))], [], [⟨.row, 5, 1, r.length, .b r⟩]⟩
def rtwo_ct (n : Nat) (r : List UInt8) : Ct := fun args H => match args with
  | [x0] => (match aI x0 with | some l0 => some ([rtwo n l0 = some r], shA H.length (.c (.wh 0)), shH H.length [⟨.row, 5, 1, r.length, .b r⟩]) | none => none)
  | _ => none
theorem rtwo_ok (n : Nat) (r : List UInt8) : FnOk Try.prog Tr 56 (rtwo_ct n r) := by
  refine ⟨fun args H g av objs hF hg ρ w vals hG hp ha => ?_, _, Try.func56, by kernel_rfl, by kernel_rfl⟩
  obtain ⟨x0, rfl⟩ : ∃ x0, args = [x0] := by
    unfold rtwo_ct at hF; split at hF
    · exact ⟨_, rfl⟩
    · cases hF
  cases e0 : aI x0 with
  | none => simp only [rtwo_ct, e0, reduceCtorEq] at hF
  | some l0 =>
  simp only [rtwo_ct, e0, Option.some.injEq, Prod.mk.injEq] at hF
  obtain ⟨rfl, rfl, rfl⟩ := hF
  obtain ⟨v0, vals, rfl, k0, ha⟩ := F2.inv ha
  obtain rfl := F2.inv0 ha
  have hI : ∀ w', Kp (noB (fun _ => undef)) w w' → Tr w' := fun _ hk => Tr.keep hk.below hG
  have h : rtwo n l0 = some r := hg
  have s0 := aI_ok e0 (k0)
  have hR0 := rel0 (gv := (fun _ => undef)) (n := 13) (w := w) (args := [.c (.s (.k .i64 l0))]) (H := []) (gl := []) (hpL (ps := []) F2.nil) (allRo_ok rfl) (F2.cons s0 F2.nil) GlR.nil (by simp)
  clear ha hp hg k0 e0
  refine calls_W Try.func56 rfl rfl hR0 (Q := fun e s => (e = .ret ∨ e = .normal) ∧ s = rtwo_R r) ?_ ?_
  · clear hR0
    unfold rtwo at h
    have hT := tabO_pz
    refine W_seq ?_
    refine W_reg hT ftL_nil [] [] [0] [] (s' := ⟨[(0, .c (.s (.k .i64 l0)))], [], []⟩) (by kernel_rfl) allP_nil ?_
    refine W_seq ?_
    obtain ⟨g1, h⟩ := gd_some h
    obtain ⟨g2, h⟩ := gd_some h
    obtain ⟨g3, h⟩ := gd_some h
    obtain ⟨g4, h⟩ := gd_some h
    obtain ⟨g5, h⟩ := gd_some h
    obtain ⟨g6, h⟩ := gd_some h
    refine W_reg hT ftL_nil [] [] [2] [0] (s' := ⟨[(2, .c (.wh 0))], [], [⟨.row, 5, 1, 2, .b [(UInt8.ofInt (48 + (Int.tmod (Int.tdiv l0 10) 10))), (UInt8.ofInt (48 + (Int.tmod l0 10)))]⟩]⟩) (by kernel_rfl) (allP_cons.2 ⟨g1, (allP_cons.2 ⟨g2, (allP_cons.2 ⟨g3, (allP_cons.2 ⟨g4, (allP_cons.2 ⟨g5, (allP_cons.2 ⟨g6, allP_nil⟩)⟩)⟩)⟩)⟩)⟩) ?_
    refine W_co [] [2] [0] (s' := (rtwo_R [(UInt8.ofInt (48 + (Int.tmod (Int.tdiv l0 10) 10))), (UInt8.ofInt (48 + (Int.tmod l0 10)))])) (by kernel_rfl) (W_ret ?_)
    exact ⟨.inl rfl, by cases h; rfl⟩
  · rintro e s' ⟨he, rfl⟩
    refine ⟨he, fun a' w' hr => ?_⟩
    exact retS_ok tabO_pz hr (rs := [.tmp 2]) rfl (objs := [0]) (by kernel_rfl)
def rTime_R (r : UInt8 × List UInt8) : S := ⟨[(2, .c (.s (.u8 r.1))), (3, .c (.wh 0))], [], [⟨.row, 5, 1, r.2.length, .b r.2⟩]⟩
def rTime_ct (n : Nat) (r : UInt8 × List UInt8) : Ct := fun args H => match args with
  | [x0] => (match aGc 6 x0 with | some y0 => (match aI (.c (y0.getD 0 .junk)) with | some l0_0 => (match aI (.c (y0.getD 1 .junk)) with | some l0_1 => (match aI (.c (y0.getD 2 .junk)) with | some l0_2 => (match aI (.c (y0.getD 3 .junk)) with | some l0_3 => (match aI (.c (y0.getD 4 .junk)) with | some l0_4 => (match aI (.c (y0.getD 5 .junk)) with | some l0_5 => some ([rTime n l0_0 l0_1 l0_2 l0_3 l0_4 l0_5 = some r], shA H.length (.t [.c (.s (.u8 r.1)), .c (.wh 0)]), shH H.length [⟨.row, 5, 1, r.2.length, .b r.2⟩]) | none => none) | none => none) | none => none) | none => none) | none => none) | none => none) | none => none)
  | _ => none
theorem rTime_ok (n : Nat) (r : UInt8 × List UInt8) : FnOk Try.prog Tr 27 (rTime_ct n r) := by
  refine ⟨fun args H g av objs hF hg ρ w vals hG hp ha => ?_, _, Try.func27, by kernel_rfl, by kernel_rfl⟩
  obtain ⟨x0, rfl⟩ : ∃ x0, args = [x0] := by
    unfold rTime_ct at hF; split at hF
    · exact ⟨_, rfl⟩
    · cases hF
  cases e0 : aGc 6 x0 with
  | none => simp only [rTime_ct, e0, reduceCtorEq] at hF
  | some y0 =>
  cases e1 : aI (.c (y0.getD 0 .junk)) with
  | none => simp only [rTime_ct, e0, e1, reduceCtorEq] at hF
  | some l0_0 =>
  cases e2 : aI (.c (y0.getD 1 .junk)) with
  | none => simp only [rTime_ct, e0, e1, e2, reduceCtorEq] at hF
  | some l0_1 =>
  cases e3 : aI (.c (y0.getD 2 .junk)) with
  | none => simp only [rTime_ct, e0, e1, e2, e3, reduceCtorEq] at hF
  | some l0_2 =>
  cases e4 : aI (.c (y0.getD 3 .junk)) with
  | none => simp only [rTime_ct, e0, e1, e2, e3, e4, reduceCtorEq] at hF
  | some l0_3 =>
  cases e5 : aI (.c (y0.getD 4 .junk)) with
  | none => simp only [rTime_ct, e0, e1, e2, e3, e4, e5, reduceCtorEq] at hF
  | some l0_4 =>
  cases e6 : aI (.c (y0.getD 5 .junk)) with
  | none => simp only [rTime_ct, e0, e1, e2, e3, e4, e5, e6, reduceCtorEq] at hF
  | some l0_5 =>
  simp only [rTime_ct, e0, e1, e2, e3, e4, e5, e6, Option.some.injEq, Prod.mk.injEq] at hF
  obtain ⟨rfl, rfl, rfl⟩ := hF
  obtain ⟨v0, vals, rfl, k0, ha⟩ := F2.inv ha
  obtain rfl := F2.inv0 ha
  have hI : ∀ w', Kp (noB (fun _ => undef)) w w' → Tr w' := fun _ hk => Tr.keep hk.below hG
  have h : rTime n l0_0 l0_1 l0_2 l0_3 l0_4 l0_5 = some r := hg
  obtain ⟨vs0, hn0, rfl, hy0⟩ := aGc_ok e0 k0
  have s0_0 := aI_ok e1 (hy0 0 (by decide))
  have s0_1 := aI_ok e2 (hy0 1 (by decide))
  have s0_2 := aI_ok e3 (hy0 2 (by decide))
  have s0_3 := aI_ok e4 (hy0 3 (by decide))
  have s0_4 := aI_ok e5 (hy0 4 (by decide))
  have s0_5 := aI_ok e6 (hy0 5 (by decide))
  have hR0 := rel0 (gv := (fun _ => undef)) (n := 47) (w := w) (args := [.g 6 (.c [.s (.k .i64 l0_0), .s (.k .i64 l0_1), .s (.k .i64 l0_2), .s (.k .i64 l0_3), .s (.k .i64 l0_4), .s (.k .i64 l0_5)])]) (H := []) (gl := []) (hpL (ps := []) F2.nil) (allRo_ok rfl) (F2.cons ⟨vs0, (by rw [lstE undef hn0]; exact (F2.cons s0_0 (F2.cons s0_1 (F2.cons s0_2 (F2.cons s0_3 (F2.cons s0_4 (F2.cons s0_5 F2.nil))))))), hn0, rfl⟩ F2.nil) GlR.nil (by simp)
  clear ha hp hg k0 e0 e1 e2 e3 e4 e5 e6
  refine calls_W Try.func27 rfl rfl hR0 (Q := fun e s => (e = .ret ∨ e = .normal) ∧ s = rTime_R r) ?_ ?_
  · clear hR0
    unfold rTime at h
    have hT := tabO_pz
    refine W_seq ?_
    refine W_reg hT ftL_nil [] [] [1] [0] (s' := ⟨[(1, .c (.pt 0 0))], [], [⟨.blk, 34, 1, 6, .c [.s (.k .i64 l0_0), .s (.k .i64 l0_1), .s (.k .i64 l0_2), .s (.k .i64 l0_3), .s (.k .i64 l0_4), .s (.k .i64 l0_5)]⟩]⟩) (by kernel_rfl) allP_nil ?_
    refine W_seq ?_
    obtain ⟨g1, h⟩ := gd_some h
    obtain ⟨r8, g2, h⟩ := bind_some' h
    obtain ⟨r11, g3, h⟩ := bind_some' h
    obtain ⟨g4, h⟩ := gd_some h
    obtain ⟨r15, g5, h⟩ := bind_some' h
    obtain ⟨g6, h⟩ := gd_some h
    obtain ⟨r19, g7, h⟩ := bind_some' h
    obtain ⟨g8, h⟩ := gd_some h
    obtain ⟨r23, g9, h⟩ := bind_some' h
    obtain ⟨g10, h⟩ := gd_some h
    obtain ⟨r27, g11, h⟩ := bind_some' h
    obtain ⟨g12, h⟩ := gd_some h
    refine W_regG hT (ftL_cons (k := 3) (f := 56) (F := (rtwo_ct n r8)) (rtwo_ok n r8) (fun _ _ => True.intro) (ftL_cons (k := 6) (f := 56) (F := (rtwo_ct n r11)) (rtwo_ok n r11) (fun _ _ => True.intro) (ftL_cons (k := 10) (f := 56) (F := (rtwo_ct n r15)) (rtwo_ok n r15) (fun _ _ => True.intro) (ftL_cons (k := 14) (f := 56) (F := (rtwo_ct n r19)) (rtwo_ok n r19) (fun _ _ => True.intro) (ftL_cons (k := 18) (f := 56) (F := (rtwo_ct n r23)) (rtwo_ok n r23) (fun _ _ => True.intro) (ftL_cons (k := 22) (f := 56) (F := (rtwo_ct n r27)) (rtwo_ok n r27) (fun _ _ => True.intro) ftL_nil)))))) (by kernel_rfl) [] [0, 1, 2, 4, 5, 8, 9, 12, 13, 16, 17, 20, 21, 24] [[0, 1, 2, 4, 5, 8, 9, 12, 13, 16, 17, 20, 21], [0, 1, 2, 3, 4, 5, 8, 9, 12, 13, 16, 17, 20, 21], [0, 1, 2, 3, 4, 5, 6, 8, 9, 12, 13, 16, 17, 20, 21], [0, 1, 2, 3, 4, 5, 6, 7, 8, 9, 12, 13, 16, 17, 20, 21], [0, 1, 2, 3, 4, 5, 6, 7, 8, 9, 10, 12, 13, 16, 17, 20, 21], [0, 1, 2, 3, 4, 5, 6, 7, 8, 9, 10, 11, 12, 13, 16, 17, 20, 21], [0, 1, 2, 3, 4, 5, 6, 7, 8, 9, 10, 11, 12, 13, 14, 16, 17, 20, 21], [0, 1, 2, 3, 4, 5, 6, 7, 8, 9, 10, 11, 12, 13, 14, 15, 16, 17, 20, 21], [0, 1, 2, 3, 4, 5, 6, 7, 8, 9, 10, 11, 12, 13, 14, 15, 16, 17, 18, 20, 21], [0, 1, 2, 3, 4, 5, 6, 7, 8, 9, 10, 11, 12, 13, 14, 15, 16, 17, 18, 19, 20, 21], [0, 1, 2, 3, 4, 5, 6, 7, 8, 9, 10, 11, 12, 13, 14, 15, 16, 17, 18, 19, 20, 21, 22], [0, 1, 2, 3, 4, 5, 6, 7, 8, 9, 10, 11, 12, 13, 14, 15, 16, 17, 18, 19, 20, 21, 22, 23, 24]] [⟨[(1, .c (.pt 0 0)), (5, .c (.pt 0 0)), (6, .c (.s (.k .i64 l0_0))), (7, .c (.s (.k .i64 (Int.tmod l0_0 100)))), (9, .c (.pt 0 1)), (10, .c (.s (.k .i64 l0_1))), (13, .c (.pt 0 2)), (14, .c (.s (.k .i64 l0_2))), (17, .c (.pt 0 3)), (18, .c (.s (.k .i64 l0_3))), (21, .c (.pt 0 4)), (22, .c (.s (.k .i64 l0_4))), (25, .c (.pt 0 5)), (26, .c (.s (.k .i64 l0_5)))], [], [⟨.blk, 34, 1, 6, .c [.s (.k .i64 l0_0), .s (.k .i64 l0_1), .s (.k .i64 l0_2), .s (.k .i64 l0_3), .s (.k .i64 l0_4), .s (.k .i64 l0_5)]⟩]⟩, ⟨[(1, .c (.pt 0 0)), (8, .c (.wh 1)), (9, .c (.pt 0 1)), (10, .c (.s (.k .i64 l0_1))), (13, .c (.pt 0 2)), (14, .c (.s (.k .i64 l0_2))), (17, .c (.pt 0 3)), (18, .c (.s (.k .i64 l0_3))), (21, .c (.pt 0 4)), (22, .c (.s (.k .i64 l0_4))), (25, .c (.pt 0 5)), (26, .c (.s (.k .i64 l0_5)))], [], [⟨.blk, 34, 1, 6, .c [.s (.k .i64 l0_0), .s (.k .i64 l0_1), .s (.k .i64 l0_2), .s (.k .i64 l0_3), .s (.k .i64 l0_4), .s (.k .i64 l0_5)]⟩, ⟨.row, 5, 1, r8.length, .b r8⟩]⟩, ⟨[(1, .c (.pt 0 0)), (8, .c (.wh 1)), (11, .c (.wh 2)), (13, .c (.pt 0 2)), (14, .c (.s (.k .i64 l0_2))), (17, .c (.pt 0 3)), (18, .c (.s (.k .i64 l0_3))), (21, .c (.pt 0 4)), (22, .c (.s (.k .i64 l0_4))), (25, .c (.pt 0 5)), (26, .c (.s (.k .i64 l0_5)))], [], [⟨.blk, 34, 1, 6, .c [.s (.k .i64 l0_0), .s (.k .i64 l0_1), .s (.k .i64 l0_2), .s (.k .i64 l0_3), .s (.k .i64 l0_4), .s (.k .i64 l0_5)]⟩, ⟨.row, 5, 1, r8.length, .b r8⟩, ⟨.row, 5, 1, r11.length, .b r11⟩]⟩, ⟨[(1, .c (.pt 0 0)), (12, .c (.wh 1)), (13, .c (.pt 0 2)), (14, .c (.s (.k .i64 l0_2))), (17, .c (.pt 0 3)), (18, .c (.s (.k .i64 l0_3))), (21, .c (.pt 0 4)), (22, .c (.s (.k .i64 l0_4))), (25, .c (.pt 0 5)), (26, .c (.s (.k .i64 l0_5)))], [], [⟨.blk, 34, 1, 6, .c [.s (.k .i64 l0_0), .s (.k .i64 l0_1), .s (.k .i64 l0_2), .s (.k .i64 l0_3), .s (.k .i64 l0_4), .s (.k .i64 l0_5)]⟩, ⟨.row, 5, 1, (r8 ++ r11).length, .b (r8 ++ r11)⟩]⟩, ⟨[(1, .c (.pt 0 0)), (12, .c (.wh 1)), (15, .c (.wh 2)), (17, .c (.pt 0 3)), (18, .c (.s (.k .i64 l0_3))), (21, .c (.pt 0 4)), (22, .c (.s (.k .i64 l0_4))), (25, .c (.pt 0 5)), (26, .c (.s (.k .i64 l0_5)))], [], [⟨.blk, 34, 1, 6, .c [.s (.k .i64 l0_0), .s (.k .i64 l0_1), .s (.k .i64 l0_2), .s (.k .i64 l0_3), .s (.k .i64 l0_4), .s (.k .i64 l0_5)]⟩, ⟨.row, 5, 1, (r8 ++ r11).length, .b (r8 ++ r11)⟩, ⟨.row, 5, 1, r15.length, .b r15⟩]⟩, ⟨[(1, .c (.pt 0 0)), (16, .c (.wh 1)), (17, .c (.pt 0 3)), (18, .c (.s (.k .i64 l0_3))), (21, .c (.pt 0 4)), (22, .c (.s (.k .i64 l0_4))), (25, .c (.pt 0 5)), (26, .c (.s (.k .i64 l0_5)))], [], [⟨.blk, 34, 1, 6, .c [.s (.k .i64 l0_0), .s (.k .i64 l0_1), .s (.k .i64 l0_2), .s (.k .i64 l0_3), .s (.k .i64 l0_4), .s (.k .i64 l0_5)]⟩, ⟨.row, 5, 1, ((r8 ++ r11) ++ r15).length, .b ((r8 ++ r11) ++ r15)⟩]⟩, ⟨[(1, .c (.pt 0 0)), (16, .c (.wh 1)), (19, .c (.wh 2)), (21, .c (.pt 0 4)), (22, .c (.s (.k .i64 l0_4))), (25, .c (.pt 0 5)), (26, .c (.s (.k .i64 l0_5)))], [], [⟨.blk, 34, 1, 6, .c [.s (.k .i64 l0_0), .s (.k .i64 l0_1), .s (.k .i64 l0_2), .s (.k .i64 l0_3), .s (.k .i64 l0_4), .s (.k .i64 l0_5)]⟩, ⟨.row, 5, 1, ((r8 ++ r11) ++ r15).length, .b ((r8 ++ r11) ++ r15)⟩, ⟨.row, 5, 1, r19.length, .b r19⟩]⟩, ⟨[(1, .c (.pt 0 0)), (20, .c (.wh 1)), (21, .c (.pt 0 4)), (22, .c (.s (.k .i64 l0_4))), (25, .c (.pt 0 5)), (26, .c (.s (.k .i64 l0_5)))], [], [⟨.blk, 34, 1, 6, .c [.s (.k .i64 l0_0), .s (.k .i64 l0_1), .s (.k .i64 l0_2), .s (.k .i64 l0_3), .s (.k .i64 l0_4), .s (.k .i64 l0_5)]⟩, ⟨.row, 5, 1, (((r8 ++ r11) ++ r15) ++ r19).length, .b (((r8 ++ r11) ++ r15) ++ r19)⟩]⟩, ⟨[(1, .c (.pt 0 0)), (20, .c (.wh 1)), (23, .c (.wh 2)), (25, .c (.pt 0 5)), (26, .c (.s (.k .i64 l0_5)))], [], [⟨.blk, 34, 1, 6, .c [.s (.k .i64 l0_0), .s (.k .i64 l0_1), .s (.k .i64 l0_2), .s (.k .i64 l0_3), .s (.k .i64 l0_4), .s (.k .i64 l0_5)]⟩, ⟨.row, 5, 1, (((r8 ++ r11) ++ r15) ++ r19).length, .b (((r8 ++ r11) ++ r15) ++ r19)⟩, ⟨.row, 5, 1, r23.length, .b r23⟩]⟩, ⟨[(1, .c (.pt 0 0)), (24, .c (.wh 1)), (25, .c (.pt 0 5)), (26, .c (.s (.k .i64 l0_5)))], [], [⟨.blk, 34, 1, 6, .c [.s (.k .i64 l0_0), .s (.k .i64 l0_1), .s (.k .i64 l0_2), .s (.k .i64 l0_3), .s (.k .i64 l0_4), .s (.k .i64 l0_5)]⟩, ⟨.row, 5, 1, ((((r8 ++ r11) ++ r15) ++ r19) ++ r23).length, .b ((((r8 ++ r11) ++ r15) ++ r19) ++ r23)⟩]⟩, ⟨[(1, .c (.pt 0 0)), (24, .c (.wh 1)), (27, .c (.wh 2))], [], [⟨.blk, 34, 1, 6, .c [.s (.k .i64 l0_0), .s (.k .i64 l0_1), .s (.k .i64 l0_2), .s (.k .i64 l0_3), .s (.k .i64 l0_4), .s (.k .i64 l0_5)]⟩, ⟨.row, 5, 1, ((((r8 ++ r11) ++ r15) ++ r19) ++ r23).length, .b ((((r8 ++ r11) ++ r15) ++ r19) ++ r23)⟩, ⟨.row, 5, 1, r27.length, .b r27⟩]⟩, ⟨[(1, .c (.pt 0 0)), (4, .c (.wh 1)), (28, .c (.wh 1))], [], [⟨.blk, 34, 1, 6, .c [.s (.k .i64 l0_0), .s (.k .i64 l0_1), .s (.k .i64 l0_2), .s (.k .i64 l0_3), .s (.k .i64 l0_4), .s (.k .i64 l0_5)]⟩, ⟨.row, 5, 1, (((((r8 ++ r11) ++ r15) ++ r19) ++ r23) ++ r27).length, .b (((((r8 ++ r11) ++ r15) ++ r19) ++ r23) ++ r27)⟩]⟩] [0, 1, 2, 4, 5, 8, 9, 12, 13, 16, 17, 20, 21] [⟨0, 3, 1, [], [], [1, 8, 9, 10, 13, 14, 17, 18, 21, 22, 25, 26], [0, 1]⟩, ⟨1, 6, 2, [], [], [1, 8, 11, 13, 14, 17, 18, 21, 22, 25, 26], [0, 1, 2]⟩, ⟨2, 7, 3, [], [], [1, 12, 13, 14, 17, 18, 21, 22, 25, 26], [0, 3]⟩, ⟨3, 10, 4, [], [], [1, 12, 15, 17, 18, 21, 22, 25, 26], [0, 1, 2]⟩, ⟨4, 11, 5, [], [], [1, 16, 17, 18, 21, 22, 25, 26], [0, 3]⟩, ⟨5, 14, 6, [], [], [1, 16, 19, 21, 22, 25, 26], [0, 1, 2]⟩, ⟨6, 15, 7, [], [], [1, 20, 21, 22, 25, 26], [0, 3]⟩, ⟨7, 18, 8, [], [], [1, 20, 23, 25, 26], [0, 1, 2]⟩, ⟨8, 19, 9, [], [], [1, 24, 25, 26], [0, 3]⟩, ⟨9, 22, 10, [], [], [1, 24, 27], [0, 1, 2]⟩, ⟨10, 23, 11, [24], [], [1, 4, 28], [0, 3]⟩] [(0, 0), (0, 1), (0, 2), (0, 4), (0, 5), (0, 8), (0, 9), (0, 12), (0, 13), (0, 16), (0, 17), (0, 20), (0, 21), (1, 4), (1, 5), (1, 8), (1, 9), (1, 12), (1, 13), (1, 16), (1, 17), (1, 20), (1, 21), (2, 8), (2, 9), (2, 12), (2, 13), (2, 16), (2, 17), (2, 20), (2, 21), (3, 8), (3, 9), (3, 12), (3, 13), (3, 16), (3, 17), (3, 20), (3, 21), (4, 12), (4, 13), (4, 16), (4, 17), (4, 20), (4, 21), (5, 12), (5, 13), (5, 16), (5, 17), (5, 20), (5, 21), (6, 16), (6, 17), (6, 20), (6, 21), (7, 16), (7, 17), (7, 20), (7, 21), (8, 20), (8, 21), (9, 20), (9, 21), (11, 24)] 11 [1, 5, 6, 7, 9, 10, 13, 14, 17, 18, 21, 22, 25, 26] [0] [] [1, 4] [0, 1] (s' := ⟨[(1, .c (.pt 0 0)), (4, .c (.wh 1))], [], [⟨.blk, 34, 1, 6, .c [.s (.k .i64 l0_0), .s (.k .i64 l0_1), .s (.k .i64 l0_2), .s (.k .i64 l0_3), .s (.k .i64 l0_4), .s (.k .i64 l0_5)]⟩, ⟨.row, 5, 1, (((((r8 ++ r11) ++ r15) ++ r19) ++ r23) ++ r27).length, .b (((((r8 ++ r11) ++ r15) ++ r19) ++ r23) ++ r27)⟩]⟩) (by kernel_rfl) ⟨_, (by kernel_rfl), (allP_cons.2 ⟨g1, allP_nil⟩)⟩ (AllE.cons ⟨_, (by kernel_rfl), (allP_cons.2 ⟨g2, allP_nil⟩)⟩ (AllE.cons ⟨_, (by kernel_rfl), (allP_cons.2 ⟨g3, allP_nil⟩)⟩ (AllE.cons ⟨_, (by kernel_rfl), (allP_cons.2 ⟨g4, allP_nil⟩)⟩ (AllE.cons ⟨_, (by kernel_rfl), (allP_cons.2 ⟨g5, allP_nil⟩)⟩ (AllE.cons ⟨_, (by kernel_rfl), (allP_cons.2 ⟨g6, allP_nil⟩)⟩ (AllE.cons ⟨_, (by kernel_rfl), (allP_cons.2 ⟨g7, allP_nil⟩)⟩ (AllE.cons ⟨_, (by kernel_rfl), (allP_cons.2 ⟨g8, allP_nil⟩)⟩ (AllE.cons ⟨_, (by kernel_rfl), (allP_cons.2 ⟨g9, allP_nil⟩)⟩ (AllE.cons ⟨_, (by kernel_rfl), (allP_cons.2 ⟨g10, allP_nil⟩)⟩ (AllE.cons ⟨_, (by kernel_rfl), (allP_cons.2 ⟨g11, allP_nil⟩)⟩ (AllE.cons ⟨_, (by kernel_rfl), (allP_cons.2 ⟨g12, allP_nil⟩)⟩ AllE.nil))))))))))) (AllR.cons ⟨_, (by kernel_rfl), allP_nil⟩ (AllR.cons ⟨_, (by kernel_rfl), allP_nil⟩ (AllR.cons ⟨_, (by kernel_rfl), (allP_cons.2 ⟨g1, allP_nil⟩)⟩ (AllR.cons ⟨_, (by kernel_rfl), allP_nil⟩ (AllR.cons ⟨_, (by kernel_rfl), allP_nil⟩ (AllR.cons ⟨_, (by kernel_rfl), allP_nil⟩ (AllR.cons ⟨_, (by kernel_rfl), allP_nil⟩ (AllR.cons ⟨_, (by kernel_rfl), allP_nil⟩ (AllR.cons ⟨_, (by kernel_rfl), allP_nil⟩ (AllR.cons ⟨_, (by kernel_rfl), allP_nil⟩ (AllR.cons ⟨_, (by kernel_rfl), allP_nil⟩ (AllR.cons ⟨_, (by kernel_rfl), allP_nil⟩ (AllR.cons ⟨_, (by kernel_rfl), allP_nil⟩ (AllR.cons ⟨_, (by kernel_rfl), allP_nil⟩ (AllR.cons ⟨_, (by kernel_rfl), allP_nil⟩ (AllR.cons ⟨_, (by kernel_rfl), allP_nil⟩ (AllR.cons ⟨_, (by kernel_rfl), allP_nil⟩ (AllR.cons ⟨_, (by kernel_rfl), allP_nil⟩ (AllR.cons ⟨_, (by kernel_rfl), allP_nil⟩ (AllR.cons ⟨_, (by kernel_rfl), allP_nil⟩ (AllR.cons ⟨_, (by kernel_rfl), allP_nil⟩ (AllR.cons ⟨_, (by kernel_rfl), allP_nil⟩ (AllR.cons ⟨_, (by kernel_rfl), allP_nil⟩ (AllR.cons ⟨_, (by kernel_rfl), allP_nil⟩ (AllR.cons ⟨_, (by kernel_rfl), allP_nil⟩ (AllR.cons ⟨_, (by kernel_rfl), allP_nil⟩ (AllR.cons ⟨_, (by kernel_rfl), allP_nil⟩ (AllR.cons ⟨_, (by kernel_rfl), allP_nil⟩ (AllR.cons ⟨_, (by kernel_rfl), allP_nil⟩ (AllR.cons ⟨_, (by kernel_rfl), allP_nil⟩ (AllR.cons ⟨_, (by kernel_rfl), allP_nil⟩ (AllR.cons ⟨_, (by kernel_rfl), allP_nil⟩ (AllR.cons ⟨_, (by kernel_rfl), allP_nil⟩ (AllR.cons ⟨_, (by kernel_rfl), allP_nil⟩ (AllR.cons ⟨_, (by kernel_rfl), allP_nil⟩ (AllR.cons ⟨_, (by kernel_rfl), allP_nil⟩ (AllR.cons ⟨_, (by kernel_rfl), allP_nil⟩ (AllR.cons ⟨_, (by kernel_rfl), allP_nil⟩ (AllR.cons ⟨_, (by kernel_rfl), allP_nil⟩ (AllR.cons ⟨_, (by kernel_rfl), allP_nil⟩ (AllR.cons ⟨_, (by kernel_rfl), allP_nil⟩ (AllR.cons ⟨_, (by kernel_rfl), allP_nil⟩ (AllR.cons ⟨_, (by kernel_rfl), allP_nil⟩ (AllR.cons ⟨_, (by kernel_rfl), allP_nil⟩ (AllR.cons ⟨_, (by kernel_rfl), allP_nil⟩ (AllR.cons ⟨_, (by kernel_rfl), allP_nil⟩ (AllR.cons ⟨_, (by kernel_rfl), allP_nil⟩ (AllR.cons ⟨_, (by kernel_rfl), allP_nil⟩ (AllR.cons ⟨_, (by kernel_rfl), allP_nil⟩ (AllR.cons ⟨_, (by kernel_rfl), allP_nil⟩ (AllR.cons ⟨_, (by kernel_rfl), allP_nil⟩ (AllR.cons ⟨_, (by kernel_rfl), allP_nil⟩ (AllR.cons ⟨_, (by kernel_rfl), allP_nil⟩ (AllR.cons ⟨_, (by kernel_rfl), allP_nil⟩ (AllR.cons ⟨_, (by kernel_rfl), allP_nil⟩ (AllR.cons ⟨_, (by kernel_rfl), allP_nil⟩ (AllR.cons ⟨_, (by kernel_rfl), allP_nil⟩ (AllR.cons ⟨_, (by kernel_rfl), allP_nil⟩ (AllR.cons ⟨_, (by kernel_rfl), allP_nil⟩ (AllR.cons ⟨_, (by kernel_rfl), allP_nil⟩ (AllR.cons ⟨_, (by kernel_rfl), allP_nil⟩ (AllR.cons ⟨_, (by kernel_rfl), allP_nil⟩ (AllR.cons ⟨_, (by kernel_rfl), allP_nil⟩ (AllR.cons ⟨_, (by kernel_rfl), allP_nil⟩ AllR.nil)))))))))))))))))))))))))))))))))))))))))))))))))))))))))))))))) (by kernel_rfl) ?_
    refine W_seq ?_
    obtain ⟨g13, h⟩ := gd_some h
    refine W_reg hT ftL_nil [] [] [1, 4] [0, 3] (s' := ⟨[(1, .c (.pt 0 0)), (4, .c (.wh 1))], [], [⟨.blk, 34, 1, 6, .c [.s (.k .i64 l0_0), .s (.k .i64 l0_1), .s (.k .i64 l0_2), .s (.k .i64 l0_3), .s (.k .i64 l0_4), .s (.k .i64 l0_5)]⟩, ⟨.row, 5, 1, ((((((r8 ++ r11) ++ r15) ++ r19) ++ r23) ++ r27) ++ [90]).length, .b ((((((r8 ++ r11) ++ r15) ++ r19) ++ r23) ++ r27) ++ [90])⟩]⟩) (by kernel_rfl) (allP_cons.2 ⟨g13, allP_nil⟩) ?_
    refine W_seq ?_
    refine W_seq ?_
    rcases Bool.eq_false_or_eq_true (decide ((1950 : Int) ≤ l0_0)) with g14 | g14
    · replace h := bif_t h g14
      refine W_reg hT ftL_nil [(3, true)] [] [1, 4, 39] [0, 1] (s' := ⟨[(1, .c (.pt 0 0)), (4, .c (.wh 1)), (39, .c (.s (.b (decide (l0_0 ≤ (2049 : Int))))))], [], [⟨.blk, 34, 1, 6, .c [.s (.k .i64 l0_0), .s (.k .i64 l0_1), .s (.k .i64 l0_2), .s (.k .i64 l0_3), .s (.k .i64 l0_4), .s (.k .i64 l0_5)]⟩, ⟨.row, 5, 1, ((((((r8 ++ r11) ++ r15) ++ r19) ++ r23) ++ r27) ++ [90]).length, .b ((((((r8 ++ r11) ++ r15) ++ r19) ++ r23) ++ r27) ++ [90])⟩]⟩) (by kernel_rfl) (allP_cons.2 ⟨g14, allP_nil⟩) ?_
      refine W_cond (b := (decide (l0_0 ≤ (2049 : Int)))) (by kernel_rfl) (fun g19 => ?_) (fun g19 => ?_)
      · replace h := bif_t h g19
        refine W_seq ?_
        refine W_reg hT ftL_nil [] [] [2, 3] [1] (s' := ⟨[(2, .c (.s (.u8 23))), (3, .c (.wh 0))], [], [⟨.row, 5, 1, ((((((r8 ++ r11) ++ r15) ++ r19) ++ r23) ++ r27) ++ [90]).length, .b ((((((r8 ++ r11) ++ r15) ++ r19) ++ r23) ++ r27) ++ [90])⟩]⟩) (by kernel_rfl) allP_nil ?_
        refine W_co [] [2, 3] [0] (s' := (rTime_R (23, ((((((r8 ++ r11) ++ r15) ++ r19) ++ r23) ++ r27) ++ [90])))) (by kernel_rfl) (W_ret ?_)
        exact ⟨.inl rfl, by cases h; rfl⟩
      · replace h := bif_f h g19
        refine W_co [] [1, 4] [0, 1] (s' := ⟨[(1, .c (.pt 0 0)), (4, .c (.wh 1))], [], [⟨.blk, 34, 1, 6, .c [.s (.k .i64 l0_0), .s (.k .i64 l0_1), .s (.k .i64 l0_2), .s (.k .i64 l0_3), .s (.k .i64 l0_4), .s (.k .i64 l0_5)]⟩, ⟨.row, 5, 1, ((((((r8 ++ r11) ++ r15) ++ r19) ++ r23) ++ r27) ++ [90]).length, .b ((((((r8 ++ r11) ++ r15) ++ r19) ++ r23) ++ r27) ++ [90])⟩]⟩) (by kernel_rfl) (W_skip ?_)
        refine W_seq ?_
        obtain ⟨g15, h⟩ := gd_some h
        obtain ⟨g16, h⟩ := gd_some h
        obtain ⟨r44, g17, h⟩ := bind_some' h
        obtain ⟨g18, h⟩ := gd_some h
        refine W_reg hT (ftL_cons (k := 3) (f := 56) (F := (rtwo_ct n r44)) (rtwo_ok n r44) (fun _ _ => True.intro) ftL_nil) [] [] [2, 3] [3] (s' := ⟨[(2, .c (.s (.u8 24))), (3, .c (.wh 0))], [], [⟨.row, 5, 1, (r44 ++ ((((((r8 ++ r11) ++ r15) ++ r19) ++ r23) ++ r27) ++ [90])).length, .b (r44 ++ ((((((r8 ++ r11) ++ r15) ++ r19) ++ r23) ++ r27) ++ [90]))⟩]⟩) (by kernel_rfl) (allP_cons.2 ⟨g15, (allP_cons.2 ⟨g16, (allP_cons.2 ⟨g17, (allP_cons.2 ⟨g18, allP_nil⟩)⟩)⟩)⟩) ?_
        refine W_co [] [2, 3] [0] (s' := (rTime_R (24, (r44 ++ ((((((r8 ++ r11) ++ r15) ++ r19) ++ r23) ++ r27) ++ [90]))))) (by kernel_rfl) (W_ret ?_)
        exact ⟨.inl rfl, by cases h; rfl⟩
    · replace h := bif_f h g14
      refine W_reg hT ftL_nil [(3, false)] [] [1, 4, 39] [0, 1] (s' := ⟨[(1, .c (.pt 0 0)), (4, .c (.wh 1)), (39, .c (.s (.b false)))], [], [⟨.blk, 34, 1, 6, .c [.s (.k .i64 l0_0), .s (.k .i64 l0_1), .s (.k .i64 l0_2), .s (.k .i64 l0_3), .s (.k .i64 l0_4), .s (.k .i64 l0_5)]⟩, ⟨.row, 5, 1, ((((((r8 ++ r11) ++ r15) ++ r19) ++ r23) ++ r27) ++ [90]).length, .b ((((((r8 ++ r11) ++ r15) ++ r19) ++ r23) ++ r27) ++ [90])⟩]⟩) (by kernel_rfl) (allP_cons.2 ⟨g14, allP_nil⟩) ?_
      refine W_cond (b := false) (by kernel_rfl) (fun hb => by cases hb) (fun _ => ?_)
      refine W_co [] [1, 4] [0, 1] (s' := ⟨[(1, .c (.pt 0 0)), (4, .c (.wh 1))], [], [⟨.blk, 34, 1, 6, .c [.s (.k .i64 l0_0), .s (.k .i64 l0_1), .s (.k .i64 l0_2), .s (.k .i64 l0_3), .s (.k .i64 l0_4), .s (.k .i64 l0_5)]⟩, ⟨.row, 5, 1, ((((((r8 ++ r11) ++ r15) ++ r19) ++ r23) ++ r27) ++ [90]).length, .b ((((((r8 ++ r11) ++ r15) ++ r19) ++ r23) ++ r27) ++ [90])⟩]⟩) (by kernel_rfl) (W_skip ?_)
      refine W_seq ?_
      obtain ⟨g20, h⟩ := gd_some h
      obtain ⟨g21, h⟩ := gd_some h
      obtain ⟨r44, g22, h⟩ := bind_some' h
      obtain ⟨g23, h⟩ := gd_some h
      refine W_reg hT (ftL_cons (k := 3) (f := 56) (F := (rtwo_ct n r44)) (rtwo_ok n r44) (fun _ _ => True.intro) ftL_nil) [] [] [2, 3] [3] (s' := ⟨[(2, .c (.s (.u8 24))), (3, .c (.wh 0))], [], [⟨.row, 5, 1, (r44 ++ ((((((r8 ++ r11) ++ r15) ++ r19) ++ r23) ++ r27) ++ [90])).length, .b (r44 ++ ((((((r8 ++ r11) ++ r15) ++ r19) ++ r23) ++ r27) ++ [90]))⟩]⟩) (by kernel_rfl) (allP_cons.2 ⟨g20, (allP_cons.2 ⟨g21, (allP_cons.2 ⟨g22, (allP_cons.2 ⟨g23, allP_nil⟩)⟩)⟩)⟩) ?_
      refine W_co [] [2, 3] [0] (s' := (rTime_R (24, (r44 ++ ((((((r8 ++ r11) ++ r15) ++ r19) ++ r23) ++ r27) ++ [90]))))) (by kernel_rfl) (W_ret ?_)
      exact ⟨.inl rfl, by cases h; rfl⟩
  · rintro e s' ⟨he, rfl⟩
    refine ⟨he, fun a' w' hr => ?_⟩
    exact retS_ok tabO_pz hr (rs := [.tmp 2, .tmp 3]) rfl (objs := [0]) (by kernel_rfl)
def rdigits_R (r : Int) : S := ⟨[(4, .c (.s (.k .i64 r)))], [], []⟩
def rdigits_ct (n : Nat) (r : Int) : Ct := fun args H => match args with
  | [x0, x1] => (match aB H x0 with | some l0 => (match aI x1 with | some l1 => some ([rdigits n l0 l1 = some r], shA H.length (.c (.s (.k .i64 r))), shH H.length []) | none => none) | none => none)
  | _ => none
theorem rdigits_ok (n : Nat) (r : Int) : FnOk Try.prog Tr 57 (rdigits_ct n r) := by
  refine ⟨fun args H g av objs hF hg ρ w vals hG hp ha => ?_, _, Try.func57, by kernel_rfl, by kernel_rfl⟩
  obtain ⟨x0, x1, rfl⟩ : ∃ x0 x1, args = [x0, x1] := by
    unfold rdigits_ct at hF; split at hF
    · exact ⟨_, _, rfl⟩
    · cases hF
  cases e0 : aB H x0 with
  | none => simp only [rdigits_ct, e0, reduceCtorEq] at hF
  | some l0 =>
  cases e1 : aI x1 with
  | none => simp only [rdigits_ct, e0, e1, reduceCtorEq] at hF
  | some l1 =>
  simp only [rdigits_ct, e0, e1, Option.some.injEq, Prod.mk.injEq] at hF
  obtain ⟨rfl, rfl, rfl⟩ := hF
  obtain ⟨v0, vals, rfl, k0, ha⟩ := F2.inv ha
  obtain ⟨v1, vals, rfl, k1, ha⟩ := F2.inv ha
  obtain rfl := F2.inv0 ha
  have hI : ∀ w', Kp (noB (fun _ => undef)) w w' → Tr w' := fun _ hk => Tr.keep hk.below hG
  have h : rdigits n l0 l1 = some r := hg
  obtain ⟨p0, s0, o0⟩ := aB_ok hp e0 (k0) 5
  have s1 := aI_ok e1 (k1)
  have hR0 := rel0 (gv := (fun _ => undef)) (n := 48) (w := w) (args := [.c (.wh 0), .c (.s (.k .i64 l1))]) (H := [⟨.ro false, 5, 1, l0.length, .b l0⟩]) (gl := []) (hpL (ps := [p0]) (F2.cons o0 F2.nil)) (allRo_ok rfl) (F2.cons s0 (F2.cons s1 F2.nil)) GlR.nil (by simp)
  clear ha hp hg k0 k1 e0 e1
  refine calls_W Try.func57 rfl rfl hR0 (Q := fun e s => (e = .ret ∨ e = .normal) ∧ s = rdigits_R r) ?_ ?_
  · clear hR0
    unfold rdigits at h
    have hT := tabO_pz
    refine W_seq ?_
    refine W_reg hT ftL_nil [] [] [0, 1] [0] (s' := ⟨[(0, .c (.wh 0)), (1, .c (.s (.k .i64 l1)))], [], [⟨(.ro false), 5, 1, l0.length, .b l0⟩]⟩) (by kernel_rfl) allP_nil ?_
    refine W_seq ?_
    refine W_seq ?_
    obtain ⟨g1, h⟩ := gd_some h
    obtain ⟨g2, h⟩ := gd_some h
    rcases Bool.eq_false_or_eq_true (decide ((l0.getD l1.toNat 0) < (48 : UInt8))) with g3 | g3
    · replace h := bif_t h g3
      refine W_reg hT ftL_nil [(5, true)] [] [0, 1, 32] [0] (s' := ⟨[(0, .c (.wh 0)), (1, .c (.s (.k .i64 l1))), (32, .c (.s (.b true)))], [], [⟨(.ro false), 5, 1, l0.length, .b l0⟩]⟩) (by kernel_rfl) (allP_cons.2 ⟨g1, (allP_cons.2 ⟨g2, (allP_cons.2 ⟨g3, allP_nil⟩)⟩)⟩) ?_
      refine W_cond (b := true) (by kernel_rfl) (fun _ => ?_) (fun hb => by cases hb)
      refine W_seq ?_
      refine W_reg hT ftL_nil [] [] [4] [] (s' := ⟨[(4, .c (.s (.k .i64 (-1))))], [], []⟩) (by kernel_rfl) allP_nil ?_
      refine W_co [] [4] [] (s' := (rdigits_R (-1))) (by kernel_rfl) (W_ret ?_)
      exact ⟨.inl rfl, by cases h; rfl⟩
    · replace h := bif_f h g3
      obtain ⟨g4, h⟩ := gd_some h
      obtain ⟨g5, h⟩ := gd_some h
      rcases Bool.eq_false_or_eq_true (decide ((57 : UInt8) < (l0.getD l1.toNat 0))) with g6 | g6
      · replace h := bif_t h g6
        refine W_reg hT ftL_nil [(5, false), (12, true)] [] [0, 1, 32] [0] (s' := ⟨[(0, .c (.wh 0)), (1, .c (.s (.k .i64 l1))), (32, .c (.s (.b true)))], [], [⟨(.ro false), 5, 1, l0.length, .b l0⟩]⟩) (by kernel_rfl) (allP_cons.2 ⟨g1, (allP_cons.2 ⟨g2, (allP_cons.2 ⟨g3, (allP_cons.2 ⟨g4, (allP_cons.2 ⟨g5, (allP_cons.2 ⟨g6, allP_nil⟩)⟩)⟩)⟩)⟩)⟩) ?_
        refine W_cond (b := true) (by kernel_rfl) (fun _ => ?_) (fun hb => by cases hb)
        refine W_seq ?_
        refine W_reg hT ftL_nil [] [] [4] [] (s' := ⟨[(4, .c (.s (.k .i64 (-1))))], [], []⟩) (by kernel_rfl) allP_nil ?_
        refine W_co [] [4] [] (s' := (rdigits_R (-1))) (by kernel_rfl) (W_ret ?_)
        exact ⟨.inl rfl, by cases h; rfl⟩
      · replace h := bif_f h g6
        obtain ⟨g7, h⟩ := gd_some h
        obtain ⟨g8, h⟩ := gd_some h
        obtain ⟨g9, h⟩ := gd_some h
        rcases Bool.eq_false_or_eq_true (decide ((l0.getD ((l1 + 1).toNat) 0) < (48 : UInt8))) with g10 | g10
        · replace h := bif_t h g10
          refine W_reg hT ftL_nil [(5, false), (12, false), (20, true)] [] [0, 1, 32] [0] (s' := ⟨[(0, .c (.wh 0)), (1, .c (.s (.k .i64 l1))), (32, .c (.s (.b true)))], [], [⟨(.ro false), 5, 1, l0.length, .b l0⟩]⟩) (by kernel_rfl) (allP_cons.2 ⟨g1, (allP_cons.2 ⟨g2, (allP_cons.2 ⟨g3, (allP_cons.2 ⟨g4, (allP_cons.2 ⟨g5, (allP_cons.2 ⟨g6, (allP_cons.2 ⟨g7, (allP_cons.2 ⟨g8, (allP_cons.2 ⟨g9, (allP_cons.2 ⟨g10, allP_nil⟩)⟩)⟩)⟩)⟩)⟩)⟩)⟩)⟩)⟩) ?_
          refine W_cond (b := true) (by kernel_rfl) (fun _ => ?_) (fun hb => by cases hb)
          refine W_seq ?_
          refine W_reg hT ftL_nil [] [] [4] [] (s' := ⟨[(4, .c (.s (.k .i64 (-1))))], [], []⟩) (by kernel_rfl) allP_nil ?_
          refine W_co [] [4] [] (s' := (rdigits_R (-1))) (by kernel_rfl) (W_ret ?_)
          exact ⟨.inl rfl, by cases h; rfl⟩
        · replace h := bif_f h g10
          obtain ⟨g11, h⟩ := gd_some h
          obtain ⟨g12, h⟩ := gd_some h
          obtain ⟨g13, h⟩ := gd_some h
          refine W_reg hT ftL_nil [(5, false), (12, false), (20, false)] [] [0, 1, 32] [0] (s' := ⟨[(0, .c (.wh 0)), (1, .c (.s (.k .i64 l1))), (32, .c (.s (.b (decide ((57 : UInt8) < (l0.getD ((l1 + 1).toNat) 0))))))], [], [⟨(.ro false), 5, 1, l0.length, .b l0⟩]⟩) (by kernel_rfl) (allP_cons.2 ⟨g1, (allP_cons.2 ⟨g2, (allP_cons.2 ⟨g3, (allP_cons.2 ⟨g4, (allP_cons.2 ⟨g5, (allP_cons.2 ⟨g6, (allP_cons.2 ⟨g7, (allP_cons.2 ⟨g8, (allP_cons.2 ⟨g9, (allP_cons.2 ⟨g10, (allP_cons.2 ⟨g11, (allP_cons.2 ⟨g12, (allP_cons.2 ⟨g13, allP_nil⟩)⟩)⟩)⟩)⟩)⟩)⟩)⟩)⟩)⟩)⟩)⟩)⟩) ?_
          refine W_cond (b := (decide ((57 : UInt8) < (l0.getD ((l1 + 1).toNat) 0)))) (by kernel_rfl) (fun g21 => ?_) (fun g21 => ?_)
          · replace h := bif_t h g21
            refine W_seq ?_
            refine W_reg hT ftL_nil [] [] [4] [] (s' := ⟨[(4, .c (.s (.k .i64 (-1))))], [], []⟩) (by kernel_rfl) allP_nil ?_
            refine W_co [] [4] [] (s' := (rdigits_R (-1))) (by kernel_rfl) (W_ret ?_)
            exact ⟨.inl rfl, by cases h; rfl⟩
          · replace h := bif_f h g21
            refine W_co [] [0, 1] [0] (s' := ⟨[(0, .c (.wh 0)), (1, .c (.s (.k .i64 l1)))], [], [⟨(.ro false), 5, 1, l0.length, .b l0⟩]⟩) (by kernel_rfl) (W_skip ?_)
            refine W_seq ?_
            obtain ⟨g14, h⟩ := gd_some h
            obtain ⟨g15, h⟩ := gd_some h
            obtain ⟨g16, h⟩ := gd_some h
            obtain ⟨g17, h⟩ := gd_some h
            obtain ⟨g18, h⟩ := gd_some h
            obtain ⟨g19, h⟩ := gd_some h
            obtain ⟨g20, h⟩ := gd_some h
            refine W_regD hT ftL_nil (by kernel_rfl) 14 [] [(39, false), (46, false)] [] [4] [] (s' := ⟨[(4, .c (.s (.k .i64 ((10 * ((((l0.getD l1.toNat 0) - (48 : UInt8)).toNat : Nat) : Int)) + ((((l0.getD ((l1 + 1).toNat) 0) - (48 : UInt8)).toNat : Nat) : Int)))))], [], []⟩) (by kernel_rfl) (by kernel_rfl) (allP_cons.2 ⟨g14, (allP_cons.2 ⟨g15, (allP_cons.2 ⟨g16, (allP_cons.2 ⟨g17, (allP_cons.2 ⟨g18, (allP_cons.2 ⟨g19, (allP_cons.2 ⟨g20, allP_nil⟩)⟩)⟩)⟩)⟩)⟩)⟩) ?_
            refine W_co [] [4] [] (s' := (rdigits_R ((10 * ((((l0.getD l1.toNat 0) - (48 : UInt8)).toNat : Nat) : Int)) + ((((l0.getD ((l1 + 1).toNat) 0) - (48 : UInt8)).toNat : Nat) : Int)))) (by kernel_rfl) (W_ret ?_)
            exact ⟨.inl rfl, by cases h; rfl⟩
  · rintro e s' ⟨he, rfl⟩
    refine ⟨he, fun a' w' hr => ?_⟩
    exact retS_ok tabO_pz hr (rs := [.tmp 4]) rfl (objs := []) (by kernel_rfl)
def rReadTime_j1_E (a0 : UInt8) (a1 : List UInt8) (i7_2 : Int) : S := ⟨[(0, .c (.s (.u8 a0))), (1, .c (.wh 0)), (4, .c (.pt 1 0)), (6, .c (.s (.k .i64 (((a1.length : Nat) : Int) - 13)))), (7, .c (.s (.k .i64 i7_2)))], [], [⟨(.ro false), 5, 1, a1.length, .b a1⟩, ⟨.blk, 34, 1, 6, .c [.s (.k .i64 0), .s (.k .i64 0), .s (.k .i64 0), .s (.k .i64 0), .s (.k .i64 0), .s (.k .i64 0)]⟩]⟩
def rReadTime_j1_P (n : Nat) (a0 : UInt8) (a1 : List UInt8) (r : Int × Int × Int × Int × Int × Int × Bool) : S → Prop := fun s => ∃ (i7_2 : Int), s = rReadTime_j1_E a0 a1 i7_2 ∧ rReadTime_j1 n a0 a1 i7_2 = some r
theorem rReadTime_j1_M {n : Nat} {a0 : UInt8} {a1 : List UInt8} {i7_2 : Int} {r : Int × Int × Int × Int × Int × Int × Bool} (h : rReadTime_j1 n a0 a1 i7_2 = some r) : rReadTime_j1_P n a0 a1 r (rReadTime_j1_E a0 a1 i7_2) := ⟨i7_2, rfl, h⟩
def rReadTime_j2_E (a0 : UInt8) (a1 : List UInt8) (i7_3 : Int) : S := ⟨[(0, .c (.s (.u8 a0))), (1, .c (.wh 0)), (4, .c (.pt 1 0)), (6, .c (.s (.k .i64 (((a1.length : Nat) : Int) - 13)))), (7, .c (.s (.k .i64 i7_3)))], [], [⟨(.ro false), 5, 1, a1.length, .b a1⟩, ⟨.blk, 34, 1, 6, .c [.s (.k .i64 0), .s (.k .i64 0), .s (.k .i64 0), .s (.k .i64 0), .s (.k .i64 0), .s (.k .i64 0)]⟩]⟩
def rReadTime_j2_P (n : Nat) (a0 : UInt8) (a1 : List UInt8) (r : Int × Int × Int × Int × Int × Int × Bool) : S → Prop := fun s => ∃ (i7_3 : Int), s = rReadTime_j2_E a0 a1 i7_3 ∧ rReadTime_j2 n a0 a1 i7_3 = some r
theorem rReadTime_j2_M {n : Nat} {a0 : UInt8} {a1 : List UInt8} {i7_3 : Int} {r : Int × Int × Int × Int × Int × Int × Bool} (h : rReadTime_j2 n a0 a1 i7_3 = some r) : rReadTime_j2_P n a0 a1 r (rReadTime_j2_E a0 a1 i7_3) := ⟨i7_3, rfl, h⟩
def rReadTime_R (r : Int × Int × Int × Int × Int × Int × Bool) : S := ⟨[(4, .c (.pt 0 0)), (5, .c (.s (.b r.2.2.2.2.2.2)))], [], [⟨.blk, 34, 1, 6, .c [.s (.k .i64 r.1), .s (.k .i64 r.2.1), .s (.k .i64 r.2.2.1), .s (.k .i64 r.2.2.2.1), .s (.k .i64 r.2.2.2.2.1), .s (.k .i64 r.2.2.2.2.2.1)]⟩]⟩
def rReadTime_ct (n : Nat) (r : Int × Int × Int × Int × Int × Int × Bool) : Ct := fun args H => match args with
  | [x0, x1] => (match aU8 x0 with | some l0 => (match aB H x1 with | some l1 => some ([rReadTime n l0 l1 = some r], shA H.length (.t [.g 6 (.c [.s (.k .i64 r.1), .s (.k .i64 r.2.1), .s (.k .i64 r.2.2.1), .s (.k .i64 r.2.2.2.1), .s (.k .i64 r.2.2.2.2.1), .s (.k .i64 r.2.2.2.2.2.1)]), .c (.s (.b r.2.2.2.2.2.2))]), shH H.length []) | none => none) | none => none)
  | _ => none
theorem rReadTime_ok (n : Nat) (r : Int × Int × Int × Int × Int × Int × Bool) : FnOk Try.prog Tr 29 (rReadTime_ct n r) := by
  refine ⟨fun args H g av objs hF hg ρ w vals hG hp ha => ?_, _, Try.func29, by kernel_rfl, by kernel_rfl⟩
  obtain ⟨x0, x1, rfl⟩ : ∃ x0 x1, args = [x0, x1] := by
    unfold rReadTime_ct at hF; split at hF
    · exact ⟨_, _, rfl⟩
    · cases hF
  cases e0 : aU8 x0 with
  | none => simp only [rReadTime_ct, e0, reduceCtorEq] at hF
  | some l0 =>
  cases e1 : aB H x1 with
  | none => simp only [rReadTime_ct, e0, e1, reduceCtorEq] at hF
  | some l1 =>
  simp only [rReadTime_ct, e0, e1, Option.some.injEq, Prod.mk.injEq] at hF
  obtain ⟨rfl, rfl, rfl⟩ := hF
  obtain ⟨v0, vals, rfl, k0, ha⟩ := F2.inv ha
  obtain ⟨v1, vals, rfl, k1, ha⟩ := F2.inv ha
  obtain rfl := F2.inv0 ha
  have hI : ∀ w', Kp (noB (fun _ => undef)) w w' → Tr w' := fun _ hk => Tr.keep hk.below hG
  have h : rReadTime n l0 l1 = some r := hg
  have s0 := aU8_ok e0 (k0)
  obtain ⟨p1, s1, o1⟩ := aB_ok hp e1 (k1) 5
  have hR0 := rel0 (gv := (fun _ => undef)) (n := 85) (w := w) (args := [.c (.s (.u8 l0)), .c (.wh 0)]) (H := [⟨.ro false, 5, 1, l1.length, .b l1⟩]) (gl := []) (hpL (ps := [p1]) (F2.cons o1 F2.nil)) (allRo_ok rfl) (F2.cons s0 (F2.cons s1 F2.nil)) GlR.nil (by simp)
  clear ha hp hg k0 k1 e0 e1
  refine calls_W Try.func29 rfl rfl hR0 (Q := fun e s => (e = .ret ∨ e = .normal) ∧ s = rReadTime_R r) ?_ ?_
  · clear hR0
    unfold rReadTime at h
    have hT := tabO_pz
    refine W_seq ?_
    refine W_reg hT ftL_nil [] [] [0, 1, 4] [0, 1] (s' := ⟨[(0, .c (.s (.u8 l0))), (1, .c (.wh 0)), (4, .c (.pt 1 0))], [], [⟨(.ro false), 5, 1, l1.length, .b l1⟩, ⟨.blk, 34, 1, 6, .c [.s (.k .i64 0), .s (.k .i64 0), .s (.k .i64 0), .s (.k .i64 0), .s (.k .i64 0), .s (.k .i64 0)]⟩]⟩) (by kernel_rfl) allP_nil ?_
    refine W_seq ?_
    refine W_seq ?_
    rcases Bool.eq_false_or_eq_true (((l1.length : Nat) : Int) != 13) with g1 | g1
    · replace h := bif_t h g1
      refine W_reg hT ftL_nil [(3, true)] [] [0, 1, 4, 19] [0, 1] (s' := ⟨[(0, .c (.s (.u8 l0))), (1, .c (.wh 0)), (4, .c (.pt 1 0)), (19, .c (.s (.b (((l1.length : Nat) : Int) != 15))))], [], [⟨(.ro false), 5, 1, l1.length, .b l1⟩, ⟨.blk, 34, 1, 6, .c [.s (.k .i64 0), .s (.k .i64 0), .s (.k .i64 0), .s (.k .i64 0), .s (.k .i64 0), .s (.k .i64 0)]⟩]⟩) (by kernel_rfl) (allP_cons.2 ⟨g1, allP_nil⟩) ?_
      refine W_cond (b := (((l1.length : Nat) : Int) != 15)) (by kernel_rfl) (fun g26 => ?_) (fun g26 => ?_)
      · replace h := bif_t h g26
        refine W_seq ?_
        refine W_reg hT ftL_nil [] [] [4, 5] [1] (s' := ⟨[(4, .c (.pt 0 0)), (5, .c (.s (.b false)))], [], [⟨.blk, 34, 1, 6, .c [.s (.k .i64 0), .s (.k .i64 0), .s (.k .i64 0), .s (.k .i64 0), .s (.k .i64 0), .s (.k .i64 0)]⟩]⟩) (by kernel_rfl) allP_nil ?_
        refine W_co [] [4, 5] [0] (s' := (rReadTime_R (0, 0, 0, 0, 0, 0, false))) (by kernel_rfl) (W_ret ?_)
        exact ⟨.inl rfl, by cases h; rfl⟩
      · replace h := bif_f h g26
        refine W_co [] [0, 1, 4] [0, 1] (s' := ⟨[(0, .c (.s (.u8 l0))), (1, .c (.wh 0)), (4, .c (.pt 1 0))], [], [⟨(.ro false), 5, 1, l1.length, .b l1⟩, ⟨.blk, 34, 1, 6, .c [.s (.k .i64 0), .s (.k .i64 0), .s (.k .i64 0), .s (.k .i64 0), .s (.k .i64 0), .s (.k .i64 0)]⟩]⟩) (by kernel_rfl) (W_skip ?_)
        refine W_seq ?_
        obtain ⟨g2, h⟩ := gd_some h
        refine W_reg hT ftL_nil [] [] [0, 1, 4, 6] [0, 1] (s' := ⟨[(0, .c (.s (.u8 l0))), (1, .c (.wh 0)), (4, .c (.pt 1 0)), (6, .c (.s (.k .i64 (((l1.length : Nat) : Int) - 13))))], [], [⟨(.ro false), 5, 1, l1.length, .b l1⟩, ⟨.blk, 34, 1, 6, .c [.s (.k .i64 0), .s (.k .i64 0), .s (.k .i64 0), .s (.k .i64 0), .s (.k .i64 0), .s (.k .i64 0)]⟩]⟩) (by kernel_rfl) (allP_cons.2 ⟨g2, allP_nil⟩) ?_
        refine W_seq ?_
        obtain ⟨r26, g3, h⟩ := bind_some' h
        refine W_reg hT (ftL_cons (k := 2) (f := 57) (F := (rdigits_ct n r26)) (rdigits_ok n r26) (fun _ _ => True.intro) ftL_nil) [] [] [0, 1, 4, 6, 7] [0, 1] (s' := ⟨[(0, .c (.s (.u8 l0))), (1, .c (.wh 0)), (4, .c (.pt 1 0)), (6, .c (.s (.k .i64 (((l1.length : Nat) : Int) - 13)))), (7, .c (.s (.k .i64 r26)))], [], [⟨(.ro false), 5, 1, l1.length, .b l1⟩, ⟨.blk, 34, 1, 6, .c [.s (.k .i64 0), .s (.k .i64 0), .s (.k .i64 0), .s (.k .i64 0), .s (.k .i64 0), .s (.k .i64 0)]⟩]⟩) (by kernel_rfl) (allP_cons.2 ⟨g3, allP_nil⟩) ?_
        refine W_join (rReadTime_j1_P n l0 l1 r) ?_ ?_
        · rintro _ ⟨i7_2, rfl, h⟩
          unfold rReadTime_j1 at h
          refine W_seq ?_
          obtain ⟨g4, h⟩ := gd_some h
          obtain ⟨r45, g5, h⟩ := bind_some' h
          obtain ⟨g6, h⟩ := gd_some h
          obtain ⟨r49, g7, h⟩ := bind_some' h
          obtain ⟨g8, h⟩ := gd_some h
          obtain ⟨r53, g9, h⟩ := bind_some' h
          obtain ⟨g10, h⟩ := gd_some h
          obtain ⟨r57, g11, h⟩ := bind_some' h
          obtain ⟨g12, h⟩ := gd_some h
          obtain ⟨r61, g13, h⟩ := bind_some' h
          refine W_reg hT (ftL_cons (k := 4) (f := 57) (F := (rdigits_ct n r45)) (rdigits_ok n r45) (fun _ _ => True.intro) (ftL_cons (k := 8) (f := 57) (F := (rdigits_ct n r49)) (rdigits_ok n r49) (fun _ _ => True.intro) (ftL_cons (k := 12) (f := 57) (F := (rdigits_ct n r53)) (rdigits_ok n r53) (fun _ _ => True.intro) (ftL_cons (k := 16) (f := 57) (F := (rdigits_ct n r57)) (rdigits_ok n r57) (fun _ _ => True.intro) (ftL_cons (k := 20) (f := 57) (F := (rdigits_ct n r61)) (rdigits_ok n r61) (fun _ _ => True.intro) ftL_nil))))) [] [] [0, 1, 4, 8] [0, 1, 2] (s' := ⟨[(0, .c (.s (.u8 l0))), (1, .c (.wh 0)), (4, .c (.pt 1 0)), (8, .c (.pt 2 0))], [], [⟨(.ro false), 5, 1, l1.length, .b l1⟩, ⟨.blk, 34, 1, 6, .c [.s (.k .i64 0), .s (.k .i64 0), .s (.k .i64 0), .s (.k .i64 0), .s (.k .i64 0), .s (.k .i64 0)]⟩, ⟨.blk, 34, 1, 6, .c [.s (.k .i64 i7_2), .s (.k .i64 r45), .s (.k .i64 r49), .s (.k .i64 r53), .s (.k .i64 r57), .s (.k .i64 r61)]⟩]⟩) (by kernel_rfl) (allP_cons.2 ⟨g4, (allP_cons.2 ⟨g5, (allP_cons.2 ⟨g6, (allP_cons.2 ⟨g7, (allP_cons.2 ⟨g8, (allP_cons.2 ⟨g9, (allP_cons.2 ⟨g10, (allP_cons.2 ⟨g11, (allP_cons.2 ⟨g12, (allP_cons.2 ⟨g13, allP_nil⟩)⟩)⟩)⟩)⟩)⟩)⟩)⟩)⟩)⟩) ?_
          refine W_seq ?_
          obtain ⟨r64_2, g14, h⟩ := bind_some' h
          refine W_reg hT (ftL_cons (k := 1) (f := 21) (F := (rMay8_ct n r64_2)) (rMay8_ok n r64_2) (fun _ _ => True.intro) ftL_nil) [] [] [0, 1, 4, 8, 9] [0, 1, 2] (s' := ⟨[(0, .c (.s (.u8 l0))), (1, .c (.wh 0)), (4, .c (.pt 1 0)), (8, .c (.pt 2 0)), (9, .c (.s (.b r64_2)))], [], [⟨(.ro false), 5, 1, l1.length, .b l1⟩, ⟨.blk, 34, 1, 6, .c [.s (.k .i64 0), .s (.k .i64 0), .s (.k .i64 0), .s (.k .i64 0), .s (.k .i64 0), .s (.k .i64 0)]⟩, ⟨.blk, 34, 1, 6, .c [.s (.k .i64 i7_2), .s (.k .i64 r45), .s (.k .i64 r49), .s (.k .i64 r53), .s (.k .i64 r57), .s (.k .i64 r61)]⟩]⟩) (by kernel_rfl) (allP_cons.2 ⟨g14, allP_nil⟩) ?_
          refine W_seq ?_
          refine W_seq ?_
          refine W_reg hT ftL_nil [] [] [0, 1, 4, 8, 66] [0, 1, 2] (s' := ⟨[(0, .c (.s (.u8 l0))), (1, .c (.wh 0)), (4, .c (.pt 1 0)), (8, .c (.pt 2 0)), (66, .c (.s (.b (!r64_2))))], [], [⟨(.ro false), 5, 1, l1.length, .b l1⟩, ⟨.blk, 34, 1, 6, .c [.s (.k .i64 0), .s (.k .i64 0), .s (.k .i64 0), .s (.k .i64 0), .s (.k .i64 0), .s (.k .i64 0)]⟩, ⟨.blk, 34, 1, 6, .c [.s (.k .i64 i7_2), .s (.k .i64 r45), .s (.k .i64 r49), .s (.k .i64 r53), .s (.k .i64 r57), .s (.k .i64 r61)]⟩]⟩) (by kernel_rfl) allP_nil ?_
          refine W_cond (b := (!r64_2)) (by kernel_rfl) (fun g18 => ?_) (fun g18 => ?_)
          · replace h := bif_t h g18
            refine W_seq ?_
            refine W_reg hT ftL_nil [] [] [4, 5] [1] (s' := ⟨[(4, .c (.pt 0 0)), (5, .c (.s (.b false)))], [], [⟨.blk, 34, 1, 6, .c [.s (.k .i64 0), .s (.k .i64 0), .s (.k .i64 0), .s (.k .i64 0), .s (.k .i64 0), .s (.k .i64 0)]⟩]⟩) (by kernel_rfl) allP_nil ?_
            refine W_co [] [4, 5] [0] (s' := (rReadTime_R (0, 0, 0, 0, 0, 0, false))) (by kernel_rfl) (W_ret ?_)
            exact ⟨.inl rfl, by cases h; rfl⟩
          · replace h := bif_f h g18
            refine W_co [] [0, 1, 4, 8] [0, 1, 2] (s' := ⟨[(0, .c (.s (.u8 l0))), (1, .c (.wh 0)), (4, .c (.pt 1 0)), (8, .c (.pt 2 0))], [], [⟨(.ro false), 5, 1, l1.length, .b l1⟩, ⟨.blk, 34, 1, 6, .c [.s (.k .i64 0), .s (.k .i64 0), .s (.k .i64 0), .s (.k .i64 0), .s (.k .i64 0), .s (.k .i64 0)]⟩, ⟨.blk, 34, 1, 6, .c [.s (.k .i64 i7_2), .s (.k .i64 r45), .s (.k .i64 r49), .s (.k .i64 r53), .s (.k .i64 r57), .s (.k .i64 r61)]⟩]⟩) (by kernel_rfl) (W_skip ?_)
            refine W_seq ?_
            obtain ⟨r70_2, g15, h⟩ := bind_some' h
            refine W_reg hT (ftL_cons (k := 1) (f := 27) (F := (rTime_ct n r70_2)) (rTime_ok n r70_2) (fun _ _ => True.intro) ftL_nil) [] [] [0, 1, 4, 8, 10, 11] [0, 1, 2, 3] (s' := ⟨[(0, .c (.s (.u8 l0))), (1, .c (.wh 0)), (4, .c (.pt 1 0)), (8, .c (.pt 2 0)), (10, .c (.s (.u8 r70_2.1))), (11, .c (.wh 3))], [], [⟨(.ro false), 5, 1, l1.length, .b l1⟩, ⟨.blk, 34, 1, 6, .c [.s (.k .i64 0), .s (.k .i64 0), .s (.k .i64 0), .s (.k .i64 0), .s (.k .i64 0), .s (.k .i64 0)]⟩, ⟨.blk, 34, 1, 6, .c [.s (.k .i64 i7_2), .s (.k .i64 r45), .s (.k .i64 r49), .s (.k .i64 r53), .s (.k .i64 r57), .s (.k .i64 r61)]⟩, ⟨.row, 5, 1, r70_2.2.length, .b r70_2.2⟩]⟩) (by kernel_rfl) (allP_cons.2 ⟨g15, allP_nil⟩) ?_
            refine W_seq ?_
            refine W_seq ?_
            rcases Bool.eq_false_or_eq_true (r70_2.1 != l0) with g16 | g16
            · replace h := bif_t h g16
              refine W_reg hT ftL_nil [(3, true)] [] [4, 8, 82] [1, 2] (s' := ⟨[(4, .c (.pt 0 0)), (8, .c (.pt 1 0)), (82, .c (.s (.b true)))], [], [⟨.blk, 34, 1, 6, .c [.s (.k .i64 0), .s (.k .i64 0), .s (.k .i64 0), .s (.k .i64 0), .s (.k .i64 0), .s (.k .i64 0)]⟩, ⟨.blk, 34, 1, 6, .c [.s (.k .i64 i7_2), .s (.k .i64 r45), .s (.k .i64 r49), .s (.k .i64 r53), .s (.k .i64 r57), .s (.k .i64 r61)]⟩]⟩) (by kernel_rfl) (allP_cons.2 ⟨g16, allP_nil⟩) ?_
              refine W_cond (b := true) (by kernel_rfl) (fun _ => ?_) (fun hb => by cases hb)
              refine W_seq ?_
              refine W_reg hT ftL_nil [] [] [4, 5] [0] (s' := ⟨[(4, .c (.pt 0 0)), (5, .c (.s (.b false)))], [], [⟨.blk, 34, 1, 6, .c [.s (.k .i64 0), .s (.k .i64 0), .s (.k .i64 0), .s (.k .i64 0), .s (.k .i64 0), .s (.k .i64 0)]⟩]⟩) (by kernel_rfl) allP_nil ?_
              refine W_co [] [4, 5] [0] (s' := (rReadTime_R (0, 0, 0, 0, 0, 0, false))) (by kernel_rfl) (W_ret ?_)
              exact ⟨.inl rfl, by cases h; rfl⟩
            · replace h := bif_f h g16
              refine W_reg hT ftL_nil [(3, false)] [] [4, 8, 82] [1, 2] (s' := ⟨[(4, .c (.pt 0 0)), (8, .c (.pt 1 0)), (82, .c (.s (.b (r70_2.2 != l1))))], [], [⟨.blk, 34, 1, 6, .c [.s (.k .i64 0), .s (.k .i64 0), .s (.k .i64 0), .s (.k .i64 0), .s (.k .i64 0), .s (.k .i64 0)]⟩, ⟨.blk, 34, 1, 6, .c [.s (.k .i64 i7_2), .s (.k .i64 r45), .s (.k .i64 r49), .s (.k .i64 r53), .s (.k .i64 r57), .s (.k .i64 r61)]⟩]⟩) (by kernel_rfl) (allP_cons.2 ⟨g16, allP_nil⟩) ?_
              refine W_cond (b := (r70_2.2 != l1)) (by kernel_rfl) (fun g17 => ?_) (fun g17 => ?_)
              · replace h := bif_t h g17
                refine W_seq ?_
                refine W_reg hT ftL_nil [] [] [4, 5] [0] (s' := ⟨[(4, .c (.pt 0 0)), (5, .c (.s (.b false)))], [], [⟨.blk, 34, 1, 6, .c [.s (.k .i64 0), .s (.k .i64 0), .s (.k .i64 0), .s (.k .i64 0), .s (.k .i64 0), .s (.k .i64 0)]⟩]⟩) (by kernel_rfl) allP_nil ?_
                refine W_co [] [4, 5] [0] (s' := (rReadTime_R (0, 0, 0, 0, 0, 0, false))) (by kernel_rfl) (W_ret ?_)
                exact ⟨.inl rfl, by cases h; rfl⟩
              · replace h := bif_f h g17
                refine W_co [] [4, 8] [0, 1] (s' := ⟨[(4, .c (.pt 0 0)), (8, .c (.pt 1 0))], [], [⟨.blk, 34, 1, 6, .c [.s (.k .i64 0), .s (.k .i64 0), .s (.k .i64 0), .s (.k .i64 0), .s (.k .i64 0), .s (.k .i64 0)]⟩, ⟨.blk, 34, 1, 6, .c [.s (.k .i64 i7_2), .s (.k .i64 r45), .s (.k .i64 r49), .s (.k .i64 r53), .s (.k .i64 r57), .s (.k .i64 r61)]⟩]⟩) (by kernel_rfl) (W_skip ?_)
                refine W_seq ?_
                refine W_reg hT ftL_nil [] [] [4, 5] [0] (s' := ⟨[(4, .c (.pt 0 0)), (5, .c (.s (.b true)))], [], [⟨.blk, 34, 1, 6, .c [.s (.k .i64 i7_2), .s (.k .i64 r45), .s (.k .i64 r49), .s (.k .i64 r53), .s (.k .i64 r57), .s (.k .i64 r61)]⟩]⟩) (by kernel_rfl) allP_nil ?_
                refine W_co [] [4, 5] [0] (s' := (rReadTime_R (i7_2, r45, r49, r53, r57, r61, true))) (by kernel_rfl) (W_ret ?_)
                exact ⟨.inl rfl, by cases h; rfl⟩
        · refine W_seq ?_
          refine W_reg hT ftL_nil [] [] [0, 1, 4, 6, 7, 29] [0, 1] (s' := ⟨[(0, .c (.s (.u8 l0))), (1, .c (.wh 0)), (4, .c (.pt 1 0)), (6, .c (.s (.k .i64 (((l1.length : Nat) : Int) - 13)))), (7, .c (.s (.k .i64 r26))), (29, .c (.s (.b (((l1.length : Nat) : Int) == 15))))], [], [⟨(.ro false), 5, 1, l1.length, .b l1⟩, ⟨.blk, 34, 1, 6, .c [.s (.k .i64 0), .s (.k .i64 0), .s (.k .i64 0), .s (.k .i64 0), .s (.k .i64 0), .s (.k .i64 0)]⟩]⟩) (by kernel_rfl) allP_nil ?_
          refine W_cond (b := (((l1.length : Nat) : Int) == 15)) (by kernel_rfl) (fun g25 => ?_) (fun g25 => ?_)
          · replace h := bif_t h g25
            obtain ⟨r32, g19, h⟩ := bind_some' h
            obtain ⟨g20, h⟩ := gd_some h
            obtain ⟨g21, h⟩ := gd_some h
            refine W_reg hT (ftL_cons (k := 2) (f := 57) (F := (rdigits_ct n r32)) (rdigits_ok n r32) (fun _ _ => True.intro) ftL_nil) [] [] [0, 1, 4, 6, 7] [0, 1] (s' := (rReadTime_j1_E l0 l1 (r26 + (100 * r32)))) (by kernel_rfl) (allP_cons.2 ⟨g19, (allP_cons.2 ⟨g20, (allP_cons.2 ⟨g21, allP_nil⟩)⟩)⟩) ?_
            exact rReadTime_j1_M h
          · replace h := bif_f h g25
            refine W_seq ?_
            refine W_reg hT ftL_nil [] [] [0, 1, 4, 6, 7, 36] [0, 1] (s' := ⟨[(0, .c (.s (.u8 l0))), (1, .c (.wh 0)), (4, .c (.pt 1 0)), (6, .c (.s (.k .i64 (((l1.length : Nat) : Int) - 13)))), (7, .c (.s (.k .i64 r26))), (36, .c (.s (.b (decide ((50 : Int) ≤ r26)))))], [], [⟨(.ro false), 5, 1, l1.length, .b l1⟩, ⟨.blk, 34, 1, 6, .c [.s (.k .i64 0), .s (.k .i64 0), .s (.k .i64 0), .s (.k .i64 0), .s (.k .i64 0), .s (.k .i64 0)]⟩]⟩) (by kernel_rfl) allP_nil ?_
            refine W_cond (b := (decide ((50 : Int) ≤ r26))) (by kernel_rfl) (fun g24 => ?_) (fun g24 => ?_)
            · replace h := bif_t h g24
              obtain ⟨g22, h⟩ := gd_some h
              refine W_reg hT ftL_nil [] [] [0, 1, 4, 6, 7] [0, 1] (s' := (rReadTime_j1_E l0 l1 (r26 + 1900))) (by kernel_rfl) (allP_cons.2 ⟨g22, allP_nil⟩) ?_
              exact rReadTime_j1_M h
            · replace h := bif_f h g24
              obtain ⟨g23, h⟩ := gd_some h
              refine W_reg hT ftL_nil [] [] [0, 1, 4, 6, 7] [0, 1] (s' := (rReadTime_j1_E l0 l1 (r26 + 2000))) (by kernel_rfl) (allP_cons.2 ⟨g23, allP_nil⟩) ?_
              exact rReadTime_j1_M h
    · replace h := bif_f h g1
      refine W_reg hT ftL_nil [(3, false)] [] [0, 1, 4, 19] [0, 1] (s' := ⟨[(0, .c (.s (.u8 l0))), (1, .c (.wh 0)), (4, .c (.pt 1 0)), (19, .c (.s (.b false)))], [], [⟨(.ro false), 5, 1, l1.length, .b l1⟩, ⟨.blk, 34, 1, 6, .c [.s (.k .i64 0), .s (.k .i64 0), .s (.k .i64 0), .s (.k .i64 0), .s (.k .i64 0), .s (.k .i64 0)]⟩]⟩) (by kernel_rfl) (allP_cons.2 ⟨g1, allP_nil⟩) ?_
      refine W_cond (b := false) (by kernel_rfl) (fun hb => by cases hb) (fun _ => ?_)
      refine W_co [] [0, 1, 4] [0, 1] (s' := ⟨[(0, .c (.s (.u8 l0))), (1, .c (.wh 0)), (4, .c (.pt 1 0))], [], [⟨(.ro false), 5, 1, l1.length, .b l1⟩, ⟨.blk, 34, 1, 6, .c [.s (.k .i64 0), .s (.k .i64 0), .s (.k .i64 0), .s (.k .i64 0), .s (.k .i64 0), .s (.k .i64 0)]⟩]⟩) (by kernel_rfl) (W_skip ?_)
      refine W_seq ?_
      obtain ⟨g27, h⟩ := gd_some h
      refine W_reg hT ftL_nil [] [] [0, 1, 4, 6] [0, 1] (s' := ⟨[(0, .c (.s (.u8 l0))), (1, .c (.wh 0)), (4, .c (.pt 1 0)), (6, .c (.s (.k .i64 (((l1.length : Nat) : Int) - 13))))], [], [⟨(.ro false), 5, 1, l1.length, .b l1⟩, ⟨.blk, 34, 1, 6, .c [.s (.k .i64 0), .s (.k .i64 0), .s (.k .i64 0), .s (.k .i64 0), .s (.k .i64 0), .s (.k .i64 0)]⟩]⟩) (by kernel_rfl) (allP_cons.2 ⟨g27, allP_nil⟩) ?_
      refine W_seq ?_
      obtain ⟨r26, g28, h⟩ := bind_some' h
      refine W_reg hT (ftL_cons (k := 2) (f := 57) (F := (rdigits_ct n r26)) (rdigits_ok n r26) (fun _ _ => True.intro) ftL_nil) [] [] [0, 1, 4, 6, 7] [0, 1] (s' := ⟨[(0, .c (.s (.u8 l0))), (1, .c (.wh 0)), (4, .c (.pt 1 0)), (6, .c (.s (.k .i64 (((l1.length : Nat) : Int) - 13)))), (7, .c (.s (.k .i64 r26)))], [], [⟨(.ro false), 5, 1, l1.length, .b l1⟩, ⟨.blk, 34, 1, 6, .c [.s (.k .i64 0), .s (.k .i64 0), .s (.k .i64 0), .s (.k .i64 0), .s (.k .i64 0), .s (.k .i64 0)]⟩]⟩) (by kernel_rfl) (allP_cons.2 ⟨g28, allP_nil⟩) ?_
      refine W_join (rReadTime_j2_P n l0 l1 r) ?_ ?_
      · rintro _ ⟨i7_3, rfl, h⟩
        unfold rReadTime_j2 at h
        refine W_seq ?_
        obtain ⟨g29, h⟩ := gd_some h
        obtain ⟨r45, g30, h⟩ := bind_some' h
        obtain ⟨g31, h⟩ := gd_some h
        obtain ⟨r49, g32, h⟩ := bind_some' h
        obtain ⟨g33, h⟩ := gd_some h
        obtain ⟨r53, g34, h⟩ := bind_some' h
        obtain ⟨g35, h⟩ := gd_some h
        obtain ⟨r57, g36, h⟩ := bind_some' h
        obtain ⟨g37, h⟩ := gd_some h
        obtain ⟨r61, g38, h⟩ := bind_some' h
        refine W_reg hT (ftL_cons (k := 4) (f := 57) (F := (rdigits_ct n r45)) (rdigits_ok n r45) (fun _ _ => True.intro) (ftL_cons (k := 8) (f := 57) (F := (rdigits_ct n r49)) (rdigits_ok n r49) (fun _ _ => True.intro) (ftL_cons (k := 12) (f := 57) (F := (rdigits_ct n r53)) (rdigits_ok n r53) (fun _ _ => True.intro) (ftL_cons (k := 16) (f := 57) (F := (rdigits_ct n r57)) (rdigits_ok n r57) (fun _ _ => True.intro) (ftL_cons (k := 20) (f := 57) (F := (rdigits_ct n r61)) (rdigits_ok n r61) (fun _ _ => True.intro) ftL_nil))))) [] [] [0, 1, 4, 8] [0, 1, 2] (s' := ⟨[(0, .c (.s (.u8 l0))), (1, .c (.wh 0)), (4, .c (.pt 1 0)), (8, .c (.pt 2 0))], [], [⟨(.ro false), 5, 1, l1.length, .b l1⟩, ⟨.blk, 34, 1, 6, .c [.s (.k .i64 0), .s (.k .i64 0), .s (.k .i64 0), .s (.k .i64 0), .s (.k .i64 0), .s (.k .i64 0)]⟩, ⟨.blk, 34, 1, 6, .c [.s (.k .i64 i7_3), .s (.k .i64 r45), .s (.k .i64 r49), .s (.k .i64 r53), .s (.k .i64 r57), .s (.k .i64 r61)]⟩]⟩) (by kernel_rfl) (allP_cons.2 ⟨g29, (allP_cons.2 ⟨g30, (allP_cons.2 ⟨g31, (allP_cons.2 ⟨g32, (allP_cons.2 ⟨g33, (allP_cons.2 ⟨g34, (allP_cons.2 ⟨g35, (allP_cons.2 ⟨g36, (allP_cons.2 ⟨g37, (allP_cons.2 ⟨g38, allP_nil⟩)⟩)⟩)⟩)⟩)⟩)⟩)⟩)⟩)⟩) ?_
        refine W_seq ?_
        obtain ⟨r64_3, g39, h⟩ := bind_some' h
        refine W_reg hT (ftL_cons (k := 1) (f := 21) (F := (rMay8_ct n r64_3)) (rMay8_ok n r64_3) (fun _ _ => True.intro) ftL_nil) [] [] [0, 1, 4, 8, 9] [0, 1, 2] (s' := ⟨[(0, .c (.s (.u8 l0))), (1, .c (.wh 0)), (4, .c (.pt 1 0)), (8, .c (.pt 2 0)), (9, .c (.s (.b r64_3)))], [], [⟨(.ro false), 5, 1, l1.length, .b l1⟩, ⟨.blk, 34, 1, 6, .c [.s (.k .i64 0), .s (.k .i64 0), .s (.k .i64 0), .s (.k .i64 0), .s (.k .i64 0), .s (.k .i64 0)]⟩, ⟨.blk, 34, 1, 6, .c [.s (.k .i64 i7_3), .s (.k .i64 r45), .s (.k .i64 r49), .s (.k .i64 r53), .s (.k .i64 r57), .s (.k .i64 r61)]⟩]⟩) (by kernel_rfl) (allP_cons.2 ⟨g39, allP_nil⟩) ?_
        refine W_seq ?_
        refine W_seq ?_
        refine W_reg hT ftL_nil [] [] [0, 1, 4, 8, 66] [0, 1, 2] (s' := ⟨[(0, .c (.s (.u8 l0))), (1, .c (.wh 0)), (4, .c (.pt 1 0)), (8, .c (.pt 2 0)), (66, .c (.s (.b (!r64_3))))], [], [⟨(.ro false), 5, 1, l1.length, .b l1⟩, ⟨.blk, 34, 1, 6, .c [.s (.k .i64 0), .s (.k .i64 0), .s (.k .i64 0), .s (.k .i64 0), .s (.k .i64 0), .s (.k .i64 0)]⟩, ⟨.blk, 34, 1, 6, .c [.s (.k .i64 i7_3), .s (.k .i64 r45), .s (.k .i64 r49), .s (.k .i64 r53), .s (.k .i64 r57), .s (.k .i64 r61)]⟩]⟩) (by kernel_rfl) allP_nil ?_
        refine W_cond (b := (!r64_3)) (by kernel_rfl) (fun g43 => ?_) (fun g43 => ?_)
        · replace h := bif_t h g43
          refine W_seq ?_
          refine W_reg hT ftL_nil [] [] [4, 5] [1] (s' := ⟨[(4, .c (.pt 0 0)), (5, .c (.s (.b false)))], [], [⟨.blk, 34, 1, 6, .c [.s (.k .i64 0), .s (.k .i64 0), .s (.k .i64 0), .s (.k .i64 0), .s (.k .i64 0), .s (.k .i64 0)]⟩]⟩) (by kernel_rfl) allP_nil ?_
          refine W_co [] [4, 5] [0] (s' := (rReadTime_R (0, 0, 0, 0, 0, 0, false))) (by kernel_rfl) (W_ret ?_)
          exact ⟨.inl rfl, by cases h; rfl⟩
        · replace h := bif_f h g43
          refine W_co [] [0, 1, 4, 8] [0, 1, 2] (s' := ⟨[(0, .c (.s (.u8 l0))), (1, .c (.wh 0)), (4, .c (.pt 1 0)), (8, .c (.pt 2 0))], [], [⟨(.ro false), 5, 1, l1.length, .b l1⟩, ⟨.blk, 34, 1, 6, .c [.s (.k .i64 0), .s (.k .i64 0), .s (.k .i64 0), .s (.k .i64 0), .s (.k .i64 0), .s (.k .i64 0)]⟩, ⟨.blk, 34, 1, 6, .c [.s (.k .i64 i7_3), .s (.k .i64 r45), .s (.k .i64 r49), .s (.k .i64 r53), .s (.k .i64 r57), .s (.k .i64 r61)]⟩]⟩) (by kernel_rfl) (W_skip ?_)
          refine W_seq ?_
          obtain ⟨r70_3, g40, h⟩ := bind_some' h
          refine W_reg hT (ftL_cons (k := 1) (f := 27) (F := (rTime_ct n r70_3)) (rTime_ok n r70_3) (fun _ _ => True.intro) ftL_nil) [] [] [0, 1, 4, 8, 10, 11] [0, 1, 2, 3] (s' := ⟨[(0, .c (.s (.u8 l0))), (1, .c (.wh 0)), (4, .c (.pt 1 0)), (8, .c (.pt 2 0)), (10, .c (.s (.u8 r70_3.1))), (11, .c (.wh 3))], [], [⟨(.ro false), 5, 1, l1.length, .b l1⟩, ⟨.blk, 34, 1, 6, .c [.s (.k .i64 0), .s (.k .i64 0), .s (.k .i64 0), .s (.k .i64 0), .s (.k .i64 0), .s (.k .i64 0)]⟩, ⟨.blk, 34, 1, 6, .c [.s (.k .i64 i7_3), .s (.k .i64 r45), .s (.k .i64 r49), .s (.k .i64 r53), .s (.k .i64 r57), .s (.k .i64 r61)]⟩, ⟨.row, 5, 1, r70_3.2.length, .b r70_3.2⟩]⟩) (by kernel_rfl) (allP_cons.2 ⟨g40, allP_nil⟩) ?_
          refine W_seq ?_
          refine W_seq ?_
          rcases Bool.eq_false_or_eq_true (r70_3.1 != l0) with g41 | g41
          · replace h := bif_t h g41
            refine W_reg hT ftL_nil [(3, true)] [] [4, 8, 82] [1, 2] (s' := ⟨[(4, .c (.pt 0 0)), (8, .c (.pt 1 0)), (82, .c (.s (.b true)))], [], [⟨.blk, 34, 1, 6, .c [.s (.k .i64 0), .s (.k .i64 0), .s (.k .i64 0), .s (.k .i64 0), .s (.k .i64 0), .s (.k .i64 0)]⟩, ⟨.blk, 34, 1, 6, .c [.s (.k .i64 i7_3), .s (.k .i64 r45), .s (.k .i64 r49), .s (.k .i64 r53), .s (.k .i64 r57), .s (.k .i64 r61)]⟩]⟩) (by kernel_rfl) (allP_cons.2 ⟨g41, allP_nil⟩) ?_
            refine W_cond (b := true) (by kernel_rfl) (fun _ => ?_) (fun hb => by cases hb)
            refine W_seq ?_
            refine W_reg hT ftL_nil [] [] [4, 5] [0] (s' := ⟨[(4, .c (.pt 0 0)), (5, .c (.s (.b false)))], [], [⟨.blk, 34, 1, 6, .c [.s (.k .i64 0), .s (.k .i64 0), .s (.k .i64 0), .s (.k .i64 0), .s (.k .i64 0), .s (.k .i64 0)]⟩]⟩) (by kernel_rfl) allP_nil ?_
            refine W_co [] [4, 5] [0] (s' := (rReadTime_R (0, 0, 0, 0, 0, 0, false))) (by kernel_rfl) (W_ret ?_)
            exact ⟨.inl rfl, by cases h; rfl⟩
          · replace h := bif_f h g41
            refine W_reg hT ftL_nil [(3, false)] [] [4, 8, 82] [1, 2] (s' := ⟨[(4, .c (.pt 0 0)), (8, .c (.pt 1 0)), (82, .c (.s (.b (r70_3.2 != l1))))], [], [⟨.blk, 34, 1, 6, .c [.s (.k .i64 0), .s (.k .i64 0), .s (.k .i64 0), .s (.k .i64 0), .s (.k .i64 0), .s (.k .i64 0)]⟩, ⟨.blk, 34, 1, 6, .c [.s (.k .i64 i7_3), .s (.k .i64 r45), .s (.k .i64 r49), .s (.k .i64 r53), .s (.k .i64 r57), .s (.k .i64 r61)]⟩]⟩) (by kernel_rfl) (allP_cons.2 ⟨g41, allP_nil⟩) ?_
            refine W_cond (b := (r70_3.2 != l1)) (by kernel_rfl) (fun g42 => ?_) (fun g42 => ?_)
            · replace h := bif_t h g42
              refine W_seq ?_
              refine W_reg hT ftL_nil [] [] [4, 5] [0] (s' := ⟨[(4, .c (.pt 0 0)), (5, .c (.s (.b false)))], [], [⟨.blk, 34, 1, 6, .c [.s (.k .i64 0), .s (.k .i64 0), .s (.k .i64 0), .s (.k .i64 0), .s (.k .i64 0), .s (.k .i64 0)]⟩]⟩) (by kernel_rfl) allP_nil ?_
              refine W_co [] [4, 5] [0] (s' := (rReadTime_R (0, 0, 0, 0, 0, 0, false))) (by kernel_rfl) (W_ret ?_)
              exact ⟨.inl rfl, by cases h; rfl⟩
            · replace h := bif_f h g42
              refine W_co [] [4, 8] [0, 1] (s' := ⟨[(4, .c (.pt 0 0)), (8, .c (.pt 1 0))], [], [⟨.blk, 34, 1, 6, .c [.s (.k .i64 0), .s (.k .i64 0), .s (.k .i64 0), .s (.k .i64 0), .s (.k .i64 0), .s (.k .i64 0)]⟩, ⟨.blk, 34, 1, 6, .c [.s (.k .i64 i7_3), .s (.k .i64 r45), .s (.k .i64 r49), .s (.k .i64 r53), .s (.k .i64 r57), .s (.k .i64 r61)]⟩]⟩) (by kernel_rfl) (W_skip ?_)
              refine W_seq ?_
              refine W_reg hT ftL_nil [] [] [4, 5] [0] (s' := ⟨[(4, .c (.pt 0 0)), (5, .c (.s (.b true)))], [], [⟨.blk, 34, 1, 6, .c [.s (.k .i64 i7_3), .s (.k .i64 r45), .s (.k .i64 r49), .s (.k .i64 r53), .s (.k .i64 r57), .s (.k .i64 r61)]⟩]⟩) (by kernel_rfl) allP_nil ?_
              refine W_co [] [4, 5] [0] (s' := (rReadTime_R (i7_3, r45, r49, r53, r57, r61, true))) (by kernel_rfl) (W_ret ?_)
              exact ⟨.inl rfl, by cases h; rfl⟩
      · refine W_seq ?_
        refine W_reg hT ftL_nil [] [] [0, 1, 4, 6, 7, 29] [0, 1] (s' := ⟨[(0, .c (.s (.u8 l0))), (1, .c (.wh 0)), (4, .c (.pt 1 0)), (6, .c (.s (.k .i64 (((l1.length : Nat) : Int) - 13)))), (7, .c (.s (.k .i64 r26))), (29, .c (.s (.b (((l1.length : Nat) : Int) == 15))))], [], [⟨(.ro false), 5, 1, l1.length, .b l1⟩, ⟨.blk, 34, 1, 6, .c [.s (.k .i64 0), .s (.k .i64 0), .s (.k .i64 0), .s (.k .i64 0), .s (.k .i64 0), .s (.k .i64 0)]⟩]⟩) (by kernel_rfl) allP_nil ?_
        refine W_cond (b := (((l1.length : Nat) : Int) == 15)) (by kernel_rfl) (fun g50 => ?_) (fun g50 => ?_)
        · replace h := bif_t h g50
          obtain ⟨r32, g44, h⟩ := bind_some' h
          obtain ⟨g45, h⟩ := gd_some h
          obtain ⟨g46, h⟩ := gd_some h
          refine W_reg hT (ftL_cons (k := 2) (f := 57) (F := (rdigits_ct n r32)) (rdigits_ok n r32) (fun _ _ => True.intro) ftL_nil) [] [] [0, 1, 4, 6, 7] [0, 1] (s' := (rReadTime_j2_E l0 l1 (r26 + (100 * r32)))) (by kernel_rfl) (allP_cons.2 ⟨g44, (allP_cons.2 ⟨g45, (allP_cons.2 ⟨g46, allP_nil⟩)⟩)⟩) ?_
          exact rReadTime_j2_M h
        · replace h := bif_f h g50
          refine W_seq ?_
          refine W_reg hT ftL_nil [] [] [0, 1, 4, 6, 7, 36] [0, 1] (s' := ⟨[(0, .c (.s (.u8 l0))), (1, .c (.wh 0)), (4, .c (.pt 1 0)), (6, .c (.s (.k .i64 (((l1.length : Nat) : Int) - 13)))), (7, .c (.s (.k .i64 r26))), (36, .c (.s (.b (decide ((50 : Int) ≤ r26)))))], [], [⟨(.ro false), 5, 1, l1.length, .b l1⟩, ⟨.blk, 34, 1, 6, .c [.s (.k .i64 0), .s (.k .i64 0), .s (.k .i64 0), .s (.k .i64 0), .s (.k .i64 0), .s (.k .i64 0)]⟩]⟩) (by kernel_rfl) allP_nil ?_
          refine W_cond (b := (decide ((50 : Int) ≤ r26))) (by kernel_rfl) (fun g49 => ?_) (fun g49 => ?_)
          · replace h := bif_t h g49
            obtain ⟨g47, h⟩ := gd_some h
            refine W_reg hT ftL_nil [] [] [0, 1, 4, 6, 7] [0, 1] (s' := (rReadTime_j2_E l0 l1 (r26 + 1900))) (by kernel_rfl) (allP_cons.2 ⟨g47, allP_nil⟩) ?_
            exact rReadTime_j2_M h
          · replace h := bif_f h g49
            obtain ⟨g48, h⟩ := gd_some h
            refine W_reg hT ftL_nil [] [] [0, 1, 4, 6, 7] [0, 1] (s' := (rReadTime_j2_E l0 l1 (r26 + 2000))) (by kernel_rfl) (allP_cons.2 ⟨g48, allP_nil⟩) ?_
            exact rReadTime_j2_M h
  · rintro e s' ⟨he, rfl⟩
    refine ⟨he, fun a' w' hr => ?_⟩
    exact retS_ok tabO_pz hr (rs := [.cell 4 34, .tmp 5]) rfl (objs := []) (by kernel_rfl)
def lTimes_j1_E (a1 : UInt8) (a2 : List UInt8) (r18 : Bool) : S := ⟨[(1, .c (.s (.u8 a1))), (2, .c (.wh 0)), (7, .c (.s (.b r18)))], [], [⟨(.ro false), 5, 1, a2.length, .b a2⟩]⟩
def lTimes_j1_P (n : Nat) (a1 : UInt8) (a2 : List UInt8) (r18 : Bool) (r : Bool) : S → Prop := fun s => s = lTimes_j1_E a1 a2 r18 ∧ lTimes_j1 n a1 a2 r18 = some r
theorem lTimes_j1_M {n : Nat} {a1 : UInt8} {a2 : List UInt8} {r18 : Bool} {r : Bool} (h : lTimes_j1 n a1 a2 r18 = some r) : lTimes_j1_P n a1 a2 r18 r (lTimes_j1_E a1 a2 r18) := ⟨rfl, h⟩
def lTimes_j2_E (a1 : UInt8) (a2 : List UInt8) (r18 : Bool) : S := ⟨[(1, .c (.s (.u8 a1))), (2, .c (.wh 0)), (7, .c (.s (.b r18)))], [], [⟨(.ro false), 5, 1, a2.length, .b a2⟩]⟩
def lTimes_j2_P (n : Nat) (a1 : UInt8) (a2 : List UInt8) (r18 : Bool) (r : Bool) : S → Prop := fun s => s = lTimes_j2_E a1 a2 r18 ∧ lTimes_j2 n a1 a2 r18 = some r
theorem lTimes_j2_M {n : Nat} {a1 : UInt8} {a2 : List UInt8} {r18 : Bool} {r : Bool} (h : lTimes_j2 n a1 a2 r18 = some r) : lTimes_j2_P n a1 a2 r18 r (lTimes_j2_E a1 a2 r18) := ⟨rfl, h⟩
def lTimes_R (r : Bool) : S := ⟨[(6, .c (.s (.b r)))], [], []⟩
def lTimes_ct (n : Nat) (r : Bool) : Ct := fun args H => match args with
  | [x0, x1, x2] => (match aGc 6 x0 with | some y0 => (match aI (.c (y0.getD 0 .junk)) with | some l0_0 => (match aI (.c (y0.getD 1 .junk)) with | some l0_1 => (match aI (.c (y0.getD 2 .junk)) with | some l0_2 => (match aI (.c (y0.getD 3 .junk)) with | some l0_3 => (match aI (.c (y0.getD 4 .junk)) with | some l0_4 => (match aI (.c (y0.getD 5 .junk)) with | some l0_5 => (match aU8 x1 with | some l1 => (match aB H x2 with | some l2 => some ([lTimes n l0_0 l0_1 l0_2 l0_3 l0_4 l0_5 l1 l2 = some r], shA H.length (.c (.s (.b r))), shH H.length []) | none => none) | none => none) | none => none) | none => none) | none => none) | none => none) | none => none) | none => none) | none => none)
  | _ => none
theorem lTimes_ok (n : Nat) (r : Bool) : FnOk Try.prog Tr 7 (lTimes_ct n r) := by
  refine ⟨fun args H g av objs hF hg ρ w vals hG hp ha => ?_, _, Try.func7, by kernel_rfl, by kernel_rfl⟩
  obtain ⟨x0, x1, x2, rfl⟩ : ∃ x0 x1 x2, args = [x0, x1, x2] := by
    unfold lTimes_ct at hF; split at hF
    · exact ⟨_, _, _, rfl⟩
    · cases hF
  cases e0 : aGc 6 x0 with
  | none => simp only [lTimes_ct, e0, reduceCtorEq] at hF
  | some y0 =>
  cases e1 : aI (.c (y0.getD 0 .junk)) with
  | none => simp only [lTimes_ct, e0, e1, reduceCtorEq] at hF
  | some l0_0 =>
  cases e2 : aI (.c (y0.getD 1 .junk)) with
  | none => simp only [lTimes_ct, e0, e1, e2, reduceCtorEq] at hF
  | some l0_1 =>
  cases e3 : aI (.c (y0.getD 2 .junk)) with
  | none => simp only [lTimes_ct, e0, e1, e2, e3, reduceCtorEq] at hF
  | some l0_2 =>
  cases e4 : aI (.c (y0.getD 3 .junk)) with
  | none => simp only [lTimes_ct, e0, e1, e2, e3, e4, reduceCtorEq] at hF
  | some l0_3 =>
  cases e5 : aI (.c (y0.getD 4 .junk)) with
  | none => simp only [lTimes_ct, e0, e1, e2, e3, e4, e5, reduceCtorEq] at hF
  | some l0_4 =>
  cases e6 : aI (.c (y0.getD 5 .junk)) with
  | none => simp only [lTimes_ct, e0, e1, e2, e3, e4, e5, e6, reduceCtorEq] at hF
  | some l0_5 =>
  cases e7 : aU8 x1 with
  | none => simp only [lTimes_ct, e0, e1, e2, e3, e4, e5, e6, e7, reduceCtorEq] at hF
  | some l1 =>
  cases e8 : aB H x2 with
  | none => simp only [lTimes_ct, e0, e1, e2, e3, e4, e5, e6, e7, e8, reduceCtorEq] at hF
  | some l2 =>
  simp only [lTimes_ct, e0, e1, e2, e3, e4, e5, e6, e7, e8, Option.some.injEq, Prod.mk.injEq] at hF
  obtain ⟨rfl, rfl, rfl⟩ := hF
  obtain ⟨v0, vals, rfl, k0, ha⟩ := F2.inv ha
  obtain ⟨v1, vals, rfl, k1, ha⟩ := F2.inv ha
  obtain ⟨v2, vals, rfl, k2, ha⟩ := F2.inv ha
  obtain rfl := F2.inv0 ha
  have hI : ∀ w', Kp (noB (fun _ => undef)) w w' → Tr w' := fun _ hk => Tr.keep hk.below hG
  have h : lTimes n l0_0 l0_1 l0_2 l0_3 l0_4 l0_5 l1 l2 = some r := hg
  obtain ⟨vs0, hn0, rfl, hy0⟩ := aGc_ok e0 k0
  have s0_0 := aI_ok e1 (hy0 0 (by decide))
  have s0_1 := aI_ok e2 (hy0 1 (by decide))
  have s0_2 := aI_ok e3 (hy0 2 (by decide))
  have s0_3 := aI_ok e4 (hy0 3 (by decide))
  have s0_4 := aI_ok e5 (hy0 4 (by decide))
  have s0_5 := aI_ok e6 (hy0 5 (by decide))
  have s1 := aU8_ok e7 (k1)
  obtain ⟨p2, s2, o2⟩ := aB_ok hp e8 (k2) 5
  have hR0 := rel0 (gv := (fun _ => undef)) (n := 98) (w := w) (args := [.g 6 (.c [.s (.k .i64 l0_0), .s (.k .i64 l0_1), .s (.k .i64 l0_2), .s (.k .i64 l0_3), .s (.k .i64 l0_4), .s (.k .i64 l0_5)]), .c (.s (.u8 l1)), .c (.wh 0)]) (H := [⟨.ro false, 5, 1, l2.length, .b l2⟩]) (gl := []) (hpL (ps := [p2]) (F2.cons o2 F2.nil)) (allRo_ok rfl) (F2.cons ⟨vs0, (by rw [lstE undef hn0]; exact (F2.cons s0_0 (F2.cons s0_1 (F2.cons s0_2 (F2.cons s0_3 (F2.cons s0_4 (F2.cons s0_5 F2.nil))))))), hn0, rfl⟩ (F2.cons s1 (F2.cons s2 F2.nil))) GlR.nil (by simp)
  clear ha hp hg k0 k1 k2 e0 e1 e2 e3 e4 e5 e6 e7 e8
  refine calls_W Try.func7 rfl rfl hR0 (Q := fun e s => (e = .ret ∨ e = .normal) ∧ s = lTimes_R r) ?_ ?_
  · clear hR0
    unfold lTimes at h
    have hT := tabO_pz
    refine W_seq ?_
    refine W_reg hT ftL_nil [] [] [1, 2, 3] [0, 1] (s' := ⟨[(1, .c (.s (.u8 l1))), (2, .c (.wh 0)), (3, .c (.pt 1 0))], [], [⟨(.ro false), 5, 1, l2.length, .b l2⟩, ⟨.blk, 34, 1, 6, .c [.s (.k .i64 l0_0), .s (.k .i64 l0_1), .s (.k .i64 l0_2), .s (.k .i64 l0_3), .s (.k .i64 l0_4), .s (.k .i64 l0_5)]⟩]⟩) (by kernel_rfl) allP_nil ?_
    refine W_seq ?_
    obtain ⟨r18, g1, h⟩ := bind_some' h
    refine W_reg hT (ftL_cons (k := 0) (f := 14) (F := (pup_ct n r18)) (pup_ok n r18) (fun _ _ => True.intro) ftL_nil) [] [] [1, 2, 3, 7] [0, 1] (s' := ⟨[(1, .c (.s (.u8 l1))), (2, .c (.wh 0)), (3, .c (.pt 1 0)), (7, .c (.s (.b r18)))], [], [⟨(.ro false), 5, 1, l2.length, .b l2⟩, ⟨.blk, 34, 1, 6, .c [.s (.k .i64 l0_0), .s (.k .i64 l0_1), .s (.k .i64 l0_2), .s (.k .i64 l0_3), .s (.k .i64 l0_4), .s (.k .i64 l0_5)]⟩]⟩) (by kernel_rfl) (allP_cons.2 ⟨g1, allP_nil⟩) ?_
    refine W_seq ?_
    obtain ⟨r21, g2, h⟩ := bind_some' h
    refine W_reg hT (ftL_cons (k := 1) (f := 20) (F := (pTime_ct n r21)) (pTime_ok n r21) (fun _ _ => True.intro) ftL_nil) [] [] [1, 2, 3, 7, 8, 9, 10] [0, 1, 2] (s' := ⟨[(1, .c (.s (.u8 l1))), (2, .c (.wh 0)), (3, .c (.pt 1 0)), (7, .c (.s (.b r18))), (8, .c (.s (.u8 r21.1))), (9, .c (.wh 2)), (10, .c (.s (.er 31 .i64 r21.2.2)))], [], [⟨(.ro false), 5, 1, l2.length, .b l2⟩, ⟨.blk, 34, 1, 6, .c [.s (.k .i64 l0_0), .s (.k .i64 l0_1), .s (.k .i64 l0_2), .s (.k .i64 l0_3), .s (.k .i64 l0_4), .s (.k .i64 l0_5)]⟩, ⟨.row, 5, 1, r21.2.1.length, .b r21.2.1⟩]⟩) (by kernel_rfl) (allP_cons.2 ⟨g2, allP_nil⟩) ?_
    refine W_seq ?_
    obtain ⟨r26, g3, h⟩ := bind_some' h
    refine W_reg hT (ftL_cons (k := 1) (f := 21) (F := (rMay8_ct n r26)) (rMay8_ok n r26) (fun _ _ => True.intro) ftL_nil) [] [] [1, 2, 3, 7, 8, 9, 10, 11] [0, 1, 2] (s' := ⟨[(1, .c (.s (.u8 l1))), (2, .c (.wh 0)), (3, .c (.pt 1 0)), (7, .c (.s (.b r18))), (8, .c (.s (.u8 r21.1))), (9, .c (.wh 2)), (10, .c (.s (.er 31 .i64 r21.2.2))), (11, .c (.s (.b r26)))], [], [⟨(.ro false), 5, 1, l2.length, .b l2⟩, ⟨.blk, 34, 1, 6, .c [.s (.k .i64 l0_0), .s (.k .i64 l0_1), .s (.k .i64 l0_2), .s (.k .i64 l0_3), .s (.k .i64 l0_4), .s (.k .i64 l0_5)]⟩, ⟨.row, 5, 1, r21.2.1.length, .b r21.2.1⟩]⟩) (by kernel_rfl) (allP_cons.2 ⟨g3, allP_nil⟩) ?_
    refine W_seq ?_
    refine W_seq ?_
    rcases Bool.eq_false_or_eq_true (!r26) with g4 | g4
    · replace h := bif_t h g4
      obtain ⟨g5, h⟩ := gd_some h
      rcases Bool.eq_false_or_eq_true (!(r21.2.2 == (some 1))) with g6 | g6
      · replace h := bif_t h g6
        refine W_reg hT ftL_nil [(2, true), (6, true)] [] [1, 2, 3, 7, 8, 9, 10, 11, 42] [0, 1, 2] (s' := ⟨[(1, .c (.s (.u8 l1))), (2, .c (.wh 0)), (3, .c (.pt 1 0)), (7, .c (.s (.b r18))), (8, .c (.s (.u8 r21.1))), (9, .c (.wh 2)), (10, .c (.s (.er 31 .i64 r21.2.2))), (11, .c (.s (.b r26))), (42, .c (.s (.b true)))], [], [⟨(.ro false), 5, 1, l2.length, .b l2⟩, ⟨.blk, 34, 1, 6, .c [.s (.k .i64 l0_0), .s (.k .i64 l0_1), .s (.k .i64 l0_2), .s (.k .i64 l0_3), .s (.k .i64 l0_4), .s (.k .i64 l0_5)]⟩, ⟨.row, 5, 1, r21.2.1.length, .b r21.2.1⟩]⟩) (by kernel_rfl) (allP_cons.2 ⟨g4, (allP_cons.2 ⟨g5, (allP_cons.2 ⟨g6, allP_nil⟩)⟩)⟩) ?_
        refine W_cond (b := true) (by kernel_rfl) (fun _ => ?_) (fun hb => by cases hb)
        refine W_seq ?_
        refine W_reg hT ftL_nil [] [] [6] [] (s' := ⟨[(6, .c (.s (.b false)))], [], []⟩) (by kernel_rfl) allP_nil ?_
        refine W_co [] [6] [] (s' := (lTimes_R false)) (by kernel_rfl) (W_ret ?_)
        exact ⟨.inl rfl, by cases h; rfl⟩
      · replace h := bif_f h g6
        rcases Bool.eq_false_or_eq_true (r21.1 != 0) with g7 | g7
        · replace h := bif_t h g7
          refine W_reg hT ftL_nil [(2, true), (6, false), (10, true)] [] [1, 2, 3, 7, 8, 9, 10, 11, 42] [0, 1, 2] (s' := ⟨[(1, .c (.s (.u8 l1))), (2, .c (.wh 0)), (3, .c (.pt 1 0)), (7, .c (.s (.b r18))), (8, .c (.s (.u8 r21.1))), (9, .c (.wh 2)), (10, .c (.s (.er 31 .i64 r21.2.2))), (11, .c (.s (.b r26))), (42, .c (.s (.b true)))], [], [⟨(.ro false), 5, 1, l2.length, .b l2⟩, ⟨.blk, 34, 1, 6, .c [.s (.k .i64 l0_0), .s (.k .i64 l0_1), .s (.k .i64 l0_2), .s (.k .i64 l0_3), .s (.k .i64 l0_4), .s (.k .i64 l0_5)]⟩, ⟨.row, 5, 1, r21.2.1.length, .b r21.2.1⟩]⟩) (by kernel_rfl) (allP_cons.2 ⟨g4, (allP_cons.2 ⟨g5, (allP_cons.2 ⟨g6, (allP_cons.2 ⟨g7, allP_nil⟩)⟩)⟩)⟩) ?_
          refine W_cond (b := true) (by kernel_rfl) (fun _ => ?_) (fun hb => by cases hb)
          refine W_seq ?_
          refine W_reg hT ftL_nil [] [] [6] [] (s' := ⟨[(6, .c (.s (.b false)))], [], []⟩) (by kernel_rfl) allP_nil ?_
          refine W_co [] [6] [] (s' := (lTimes_R false)) (by kernel_rfl) (W_ret ?_)
          exact ⟨.inl rfl, by cases h; rfl⟩
        · replace h := bif_f h g7
          refine W_reg hT ftL_nil [(2, true), (6, false), (10, false)] [] [1, 2, 3, 7, 8, 9, 10, 11, 42] [0, 1, 2] (s' := ⟨[(1, .c (.s (.u8 l1))), (2, .c (.wh 0)), (3, .c (.pt 1 0)), (7, .c (.s (.b r18))), (8, .c (.s (.u8 r21.1))), (9, .c (.wh 2)), (10, .c (.s (.er 31 .i64 r21.2.2))), (11, .c (.s (.b r26))), (42, .c (.s (.b (((r21.2.1.length : Nat) : Int) != 0))))], [], [⟨(.ro false), 5, 1, l2.length, .b l2⟩, ⟨.blk, 34, 1, 6, .c [.s (.k .i64 l0_0), .s (.k .i64 l0_1), .s (.k .i64 l0_2), .s (.k .i64 l0_3), .s (.k .i64 l0_4), .s (.k .i64 l0_5)]⟩, ⟨.row, 5, 1, r21.2.1.length, .b r21.2.1⟩]⟩) (by kernel_rfl) (allP_cons.2 ⟨g4, (allP_cons.2 ⟨g5, (allP_cons.2 ⟨g6, (allP_cons.2 ⟨g7, allP_nil⟩)⟩)⟩)⟩) ?_
          refine W_cond (b := (((r21.2.1.length : Nat) : Int) != 0)) (by kernel_rfl) (fun g21 => ?_) (fun g21 => ?_)
          · replace h := bif_t h g21
            refine W_seq ?_
            refine W_reg hT ftL_nil [] [] [6] [] (s' := ⟨[(6, .c (.s (.b false)))], [], []⟩) (by kernel_rfl) allP_nil ?_
            refine W_co [] [6] [] (s' := (lTimes_R false)) (by kernel_rfl) (W_ret ?_)
            exact ⟨.inl rfl, by cases h; rfl⟩
          · replace h := bif_f h g21
            refine W_co [] [1, 2, 3, 7, 8, 9, 10, 11] [0, 1, 2] (s' := ⟨[(1, .c (.s (.u8 l1))), (2, .c (.wh 0)), (3, .c (.pt 1 0)), (7, .c (.s (.b r18))), (8, .c (.s (.u8 r21.1))), (9, .c (.wh 2)), (10, .c (.s (.er 31 .i64 r21.2.2))), (11, .c (.s (.b r26)))], [], [⟨(.ro false), 5, 1, l2.length, .b l2⟩, ⟨.blk, 34, 1, 6, .c [.s (.k .i64 l0_0), .s (.k .i64 l0_1), .s (.k .i64 l0_2), .s (.k .i64 l0_3), .s (.k .i64 l0_4), .s (.k .i64 l0_5)]⟩, ⟨.row, 5, 1, r21.2.1.length, .b r21.2.1⟩]⟩) (by kernel_rfl) (W_skip ?_)
            refine W_join (lTimes_j1_P n l1 l2 r18 r) ?_ ?_
            · rintro _ ⟨rfl, h⟩
              unfold lTimes_j1 at h
              refine W_seq ?_
              obtain ⟨r66, g8, h⟩ := bind_some' h
              refine W_reg hT (ftL_cons (k := 2) (f := 28) (F := (pReadTime_ct n r66)) (pReadTime_ok n r66) (fun _ _ => True.intro) ftL_nil) [] [] [1, 2, 7, 14, 15] [0, 1] (s' := ⟨[(1, .c (.s (.u8 l1))), (2, .c (.wh 0)), (7, .c (.s (.b r18))), (14, .c (.pt 1 0)), (15, .c (.s (.er 31 .i64 r66.2.2.2.2.2.2)))], [], [⟨(.ro false), 5, 1, l2.length, .b l2⟩, ⟨.blk, 34, 1, 6, .c [.s (.k .i64 r66.1), .s (.k .i64 r66.2.1), .s (.k .i64 r66.2.2.1), .s (.k .i64 r66.2.2.2.1), .s (.k .i64 r66.2.2.2.2.1), .s (.k .i64 r66.2.2.2.2.2.1)]⟩]⟩) (by kernel_rfl) (allP_cons.2 ⟨g8, allP_nil⟩) ?_
              refine W_seq ?_
              obtain ⟨r72, g9, h⟩ := bind_some' h
              refine W_reg hT (ftL_cons (k := 2) (f := 29) (F := (rReadTime_ct n r72)) (rReadTime_ok n r72) (fun _ _ => True.intro) ftL_nil) [] [] [7, 14, 15, 16, 17] [1, 2] (s' := ⟨[(7, .c (.s (.b r18))), (14, .c (.pt 0 0)), (15, .c (.s (.er 31 .i64 r66.2.2.2.2.2.2))), (16, .c (.pt 1 0)), (17, .c (.s (.b r72.2.2.2.2.2.2)))], [], [⟨.blk, 34, 1, 6, .c [.s (.k .i64 r66.1), .s (.k .i64 r66.2.1), .s (.k .i64 r66.2.2.1), .s (.k .i64 r66.2.2.2.1), .s (.k .i64 r66.2.2.2.2.1), .s (.k .i64 r66.2.2.2.2.2.1)]⟩, ⟨.blk, 34, 1, 6, .c [.s (.k .i64 r72.1), .s (.k .i64 r72.2.1), .s (.k .i64 r72.2.2.1), .s (.k .i64 r72.2.2.2.1), .s (.k .i64 r72.2.2.2.2.1), .s (.k .i64 r72.2.2.2.2.2.1)]⟩]⟩) (by kernel_rfl) (allP_cons.2 ⟨g9, allP_nil⟩) ?_
              refine W_seq ?_
              refine W_seq ?_
              refine W_reg hT ftL_nil [] [] [7, 14, 15, 16, 76] [0, 1] (s' := ⟨[(7, .c (.s (.b r18))), (14, .c (.pt 0 0)), (15, .c (.s (.er 31 .i64 r66.2.2.2.2.2.2))), (16, .c (.pt 1 0)), (76, .c (.s (.b (!r72.2.2.2.2.2.2))))], [], [⟨.blk, 34, 1, 6, .c [.s (.k .i64 r66.1), .s (.k .i64 r66.2.1), .s (.k .i64 r66.2.2.1), .s (.k .i64 r66.2.2.2.1), .s (.k .i64 r66.2.2.2.2.1), .s (.k .i64 r66.2.2.2.2.2.1)]⟩, ⟨.blk, 34, 1, 6, .c [.s (.k .i64 r72.1), .s (.k .i64 r72.2.1), .s (.k .i64 r72.2.2.1), .s (.k .i64 r72.2.2.2.1), .s (.k .i64 r72.2.2.2.2.1), .s (.k .i64 r72.2.2.2.2.2.1)]⟩]⟩) (by kernel_rfl) allP_nil ?_
              refine W_cond (b := (!r72.2.2.2.2.2.2)) (by kernel_rfl) (fun g15 => ?_) (fun g15 => ?_)
              · replace h := bif_t h g15
                refine W_seq ?_
                rcases Bool.eq_false_or_eq_true r18 with g10 | g10
                · replace h := bif_t h g10
                  obtain ⟨g11, h⟩ := gd_some h
                  rcases Bool.eq_false_or_eq_true (r66.2.2.2.2.2.2 == (some 2)) with g12 | g12
                  · replace h := bif_t h g12
                    refine W_reg hT ftL_nil [(1, true), (6, true)] [] [6] [] (s' := ⟨[(6, .c (.s (.b ((r66.1 == (0 : Int)) && ((r66.2.1 == (0 : Int)) && ((r66.2.2.1 == (0 : Int)) && ((r66.2.2.2.1 == (0 : Int)) && ((r66.2.2.2.2.1 == (0 : Int)) && ((r66.2.2.2.2.2.1 == (0 : Int)) && true)))))))))], [], []⟩) (by kernel_rfl) (allP_cons.2 ⟨g10, (allP_cons.2 ⟨g11, (allP_cons.2 ⟨g12, allP_nil⟩)⟩)⟩) ?_
                    refine W_co [] [6] [] (s' := (lTimes_R ((r66.1 == (0 : Int)) && ((r66.2.1 == (0 : Int)) && ((r66.2.2.1 == (0 : Int)) && ((r66.2.2.2.1 == (0 : Int)) && ((r66.2.2.2.2.1 == (0 : Int)) && ((r66.2.2.2.2.2.1 == (0 : Int)) && true)))))))) (by kernel_rfl) (W_ret ?_)
                    exact ⟨.inl rfl, by cases h; rfl⟩
                  · replace h := bif_f h g12
                    refine W_reg hT ftL_nil [(1, true), (6, false)] [] [6] [] (s' := ⟨[(6, .c (.s (.b false)))], [], []⟩) (by kernel_rfl) (allP_cons.2 ⟨g10, (allP_cons.2 ⟨g11, (allP_cons.2 ⟨g12, allP_nil⟩)⟩)⟩) ?_
                    refine W_co [] [6] [] (s' := (lTimes_R false)) (by kernel_rfl) (W_ret ?_)
                    exact ⟨.inl rfl, by cases h; rfl⟩
                · replace h := bif_f h g10
                  refine W_reg hT ftL_nil [(1, false)] [] [6] [] (s' := ⟨[(6, .c (.s (.b false)))], [], []⟩) (by kernel_rfl) (allP_cons.2 ⟨g10, allP_nil⟩) ?_
                  refine W_co [] [6] [] (s' := (lTimes_R false)) (by kernel_rfl) (W_ret ?_)
                  exact ⟨.inl rfl, by cases h; rfl⟩
              · replace h := bif_f h g15
                refine W_co [] [7, 14, 15, 16] [0, 1] (s' := ⟨[(7, .c (.s (.b r18))), (14, .c (.pt 0 0)), (15, .c (.s (.er 31 .i64 r66.2.2.2.2.2.2))), (16, .c (.pt 1 0))], [], [⟨.blk, 34, 1, 6, .c [.s (.k .i64 r66.1), .s (.k .i64 r66.2.1), .s (.k .i64 r66.2.2.1), .s (.k .i64 r66.2.2.2.1), .s (.k .i64 r66.2.2.2.2.1), .s (.k .i64 r66.2.2.2.2.2.1)]⟩, ⟨.blk, 34, 1, 6, .c [.s (.k .i64 r72.1), .s (.k .i64 r72.2.1), .s (.k .i64 r72.2.2.1), .s (.k .i64 r72.2.2.2.1), .s (.k .i64 r72.2.2.2.2.1), .s (.k .i64 r72.2.2.2.2.2.1)]⟩]⟩) (by kernel_rfl) (W_skip ?_)
                refine W_seq ?_
                rcases Bool.eq_false_or_eq_true r18 with g13 | g13
                · replace h := bif_t h g13
                  rcases Bool.eq_false_or_eq_true ((r66.2.2.2.2.2.2).isNone) with g14 | g14
                  · replace h := bif_t h g14
                    refine W_reg hT ftL_nil [(1, true), (5, true)] [] [6] [] (s' := ⟨[(6, .c (.s (.b ((r66.1 == r72.1) && ((r66.2.1 == r72.2.1) && ((r66.2.2.1 == r72.2.2.1) && ((r66.2.2.2.1 == r72.2.2.2.1) && ((r66.2.2.2.2.1 == r72.2.2.2.2.1) && ((r66.2.2.2.2.2.1 == r72.2.2.2.2.2.1) && true)))))))))], [], []⟩) (by kernel_rfl) (allP_cons.2 ⟨g13, (allP_cons.2 ⟨g14, allP_nil⟩)⟩) ?_
                    refine W_co [] [6] [] (s' := (lTimes_R ((r66.1 == r72.1) && ((r66.2.1 == r72.2.1) && ((r66.2.2.1 == r72.2.2.1) && ((r66.2.2.2.1 == r72.2.2.2.1) && ((r66.2.2.2.2.1 == r72.2.2.2.2.1) && ((r66.2.2.2.2.2.1 == r72.2.2.2.2.2.1) && true)))))))) (by kernel_rfl) (W_ret ?_)
                    exact ⟨.inl rfl, by cases h; rfl⟩
                  · replace h := bif_f h g14
                    refine W_reg hT ftL_nil [(1, true), (5, false)] [] [6] [] (s' := ⟨[(6, .c (.s (.b false)))], [], []⟩) (by kernel_rfl) (allP_cons.2 ⟨g13, (allP_cons.2 ⟨g14, allP_nil⟩)⟩) ?_
                    refine W_co [] [6] [] (s' := (lTimes_R false)) (by kernel_rfl) (W_ret ?_)
                    exact ⟨.inl rfl, by cases h; rfl⟩
                · replace h := bif_f h g13
                  refine W_reg hT ftL_nil [(1, false)] [] [6] [] (s' := ⟨[(6, .c (.s (.b false)))], [], []⟩) (by kernel_rfl) (allP_cons.2 ⟨g13, allP_nil⟩) ?_
                  refine W_co [] [6] [] (s' := (lTimes_R false)) (by kernel_rfl) (W_ret ?_)
                  exact ⟨.inl rfl, by cases h; rfl⟩
            · refine W_seq ?_
              refine W_reg hT ftL_nil [] [] [1, 2, 3, 7, 8, 9, 10, 43] [0, 1, 2] (s' := ⟨[(1, .c (.s (.u8 l1))), (2, .c (.wh 0)), (3, .c (.pt 1 0)), (7, .c (.s (.b r18))), (8, .c (.s (.u8 r21.1))), (9, .c (.wh 2)), (10, .c (.s (.er 31 .i64 r21.2.2))), (43, .c (.s (.b r26)))], [], [⟨(.ro false), 5, 1, l2.length, .b l2⟩, ⟨.blk, 34, 1, 6, .c [.s (.k .i64 l0_0), .s (.k .i64 l0_1), .s (.k .i64 l0_2), .s (.k .i64 l0_3), .s (.k .i64 l0_4), .s (.k .i64 l0_5)]⟩, ⟨.row, 5, 1, r21.2.1.length, .b r21.2.1⟩]⟩) (by kernel_rfl) allP_nil ?_
              refine W_cond (b := r26) (by kernel_rfl) (fun g20 => ?_) (fun g20 => ?_)
              · replace h := bif_t h g20
                refine W_seq ?_
                obtain ⟨r46, g16, h⟩ := bind_some' h
                refine W_reg hT (ftL_cons (k := 1) (f := 27) (F := (rTime_ct n r46)) (rTime_ok n r46) (fun _ _ => True.intro) ftL_nil) [] [] [1, 2, 7, 8, 9, 10, 12, 13] [0, 2, 3] (s' := ⟨[(1, .c (.s (.u8 l1))), (2, .c (.wh 0)), (7, .c (.s (.b r18))), (8, .c (.s (.u8 r21.1))), (9, .c (.wh 1)), (10, .c (.s (.er 31 .i64 r21.2.2))), (12, .c (.s (.u8 r46.1))), (13, .c (.wh 2))], [], [⟨(.ro false), 5, 1, l2.length, .b l2⟩, ⟨.row, 5, 1, r21.2.1.length, .b r21.2.1⟩, ⟨.row, 5, 1, r46.2.length, .b r46.2⟩]⟩) (by kernel_rfl) (allP_cons.2 ⟨g16, allP_nil⟩) ?_
                refine W_seq ?_
                rcases Bool.eq_false_or_eq_true (!((r21.2.2).isNone)) with g17 | g17
                · replace h := bif_t h g17
                  refine W_reg hT ftL_nil [(2, true)] [] [1, 2, 7, 62] [0] (s' := ⟨[(1, .c (.s (.u8 l1))), (2, .c (.wh 0)), (7, .c (.s (.b r18))), (62, .c (.s (.b true)))], [], [⟨(.ro false), 5, 1, l2.length, .b l2⟩]⟩) (by kernel_rfl) (allP_cons.2 ⟨g17, allP_nil⟩) ?_
                  refine W_cond (b := true) (by kernel_rfl) (fun _ => ?_) (fun hb => by cases hb)
                  refine W_seq ?_
                  refine W_reg hT ftL_nil [] [] [6] [] (s' := ⟨[(6, .c (.s (.b false)))], [], []⟩) (by kernel_rfl) allP_nil ?_
                  refine W_co [] [6] [] (s' := (lTimes_R false)) (by kernel_rfl) (W_ret ?_)
                  exact ⟨.inl rfl, by cases h; rfl⟩
                · replace h := bif_f h g17
                  rcases Bool.eq_false_or_eq_true (r21.1 != r46.1) with g18 | g18
                  · replace h := bif_t h g18
                    refine W_reg hT ftL_nil [(2, false), (7, true)] [] [1, 2, 7, 62] [0] (s' := ⟨[(1, .c (.s (.u8 l1))), (2, .c (.wh 0)), (7, .c (.s (.b r18))), (62, .c (.s (.b true)))], [], [⟨(.ro false), 5, 1, l2.length, .b l2⟩]⟩) (by kernel_rfl) (allP_cons.2 ⟨g17, (allP_cons.2 ⟨g18, allP_nil⟩)⟩) ?_
                    refine W_cond (b := true) (by kernel_rfl) (fun _ => ?_) (fun hb => by cases hb)
                    refine W_seq ?_
                    refine W_reg hT ftL_nil [] [] [6] [] (s' := ⟨[(6, .c (.s (.b false)))], [], []⟩) (by kernel_rfl) allP_nil ?_
                    refine W_co [] [6] [] (s' := (lTimes_R false)) (by kernel_rfl) (W_ret ?_)
                    exact ⟨.inl rfl, by cases h; rfl⟩
                  · replace h := bif_f h g18
                    refine W_reg hT ftL_nil [(2, false), (7, false)] [] [1, 2, 7, 62] [0] (s' := ⟨[(1, .c (.s (.u8 l1))), (2, .c (.wh 0)), (7, .c (.s (.b r18))), (62, .c (.s (.b (r21.2.1 != r46.2))))], [], [⟨(.ro false), 5, 1, l2.length, .b l2⟩]⟩) (by kernel_rfl) (allP_cons.2 ⟨g17, (allP_cons.2 ⟨g18, allP_nil⟩)⟩) ?_
                    refine W_cond (b := (r21.2.1 != r46.2)) (by kernel_rfl) (fun g19 => ?_) (fun g19 => ?_)
                    · replace h := bif_t h g19
                      refine W_seq ?_
                      refine W_reg hT ftL_nil [] [] [6] [] (s' := ⟨[(6, .c (.s (.b false)))], [], []⟩) (by kernel_rfl) allP_nil ?_
                      refine W_co [] [6] [] (s' := (lTimes_R false)) (by kernel_rfl) (W_ret ?_)
                      exact ⟨.inl rfl, by cases h; rfl⟩
                    · replace h := bif_f h g19
                      refine W_co [] [1, 2, 7] [0] (s' := (lTimes_j1_E l1 l2 r18)) (by kernel_rfl) (W_skip ?_)
                      exact lTimes_j1_M h
              · replace h := bif_f h g20
                refine W_co [] [1, 2, 7] [0] (s' := (lTimes_j1_E l1 l2 r18)) (by kernel_rfl) (W_skip ?_)
                exact lTimes_j1_M h
    · replace h := bif_f h g4
      refine W_reg hT ftL_nil [(2, false)] [] [1, 2, 3, 7, 8, 9, 10, 11, 42] [0, 1, 2] (s' := ⟨[(1, .c (.s (.u8 l1))), (2, .c (.wh 0)), (3, .c (.pt 1 0)), (7, .c (.s (.b r18))), (8, .c (.s (.u8 r21.1))), (9, .c (.wh 2)), (10, .c (.s (.er 31 .i64 r21.2.2))), (11, .c (.s (.b r26))), (42, .c (.s (.b false)))], [], [⟨(.ro false), 5, 1, l2.length, .b l2⟩, ⟨.blk, 34, 1, 6, .c [.s (.k .i64 l0_0), .s (.k .i64 l0_1), .s (.k .i64 l0_2), .s (.k .i64 l0_3), .s (.k .i64 l0_4), .s (.k .i64 l0_5)]⟩, ⟨.row, 5, 1, r21.2.1.length, .b r21.2.1⟩]⟩) (by kernel_rfl) (allP_cons.2 ⟨g4, allP_nil⟩) ?_
      refine W_cond (b := false) (by kernel_rfl) (fun hb => by cases hb) (fun _ => ?_)
      refine W_co [] [1, 2, 3, 7, 8, 9, 10, 11] [0, 1, 2] (s' := ⟨[(1, .c (.s (.u8 l1))), (2, .c (.wh 0)), (3, .c (.pt 1 0)), (7, .c (.s (.b r18))), (8, .c (.s (.u8 r21.1))), (9, .c (.wh 2)), (10, .c (.s (.er 31 .i64 r21.2.2))), (11, .c (.s (.b r26)))], [], [⟨(.ro false), 5, 1, l2.length, .b l2⟩, ⟨.blk, 34, 1, 6, .c [.s (.k .i64 l0_0), .s (.k .i64 l0_1), .s (.k .i64 l0_2), .s (.k .i64 l0_3), .s (.k .i64 l0_4), .s (.k .i64 l0_5)]⟩, ⟨.row, 5, 1, r21.2.1.length, .b r21.2.1⟩]⟩) (by kernel_rfl) (W_skip ?_)
      refine W_join (lTimes_j2_P n l1 l2 r18 r) ?_ ?_
      · rintro _ ⟨rfl, h⟩
        unfold lTimes_j2 at h
        refine W_seq ?_
        obtain ⟨r66, g22, h⟩ := bind_some' h
        refine W_reg hT (ftL_cons (k := 2) (f := 28) (F := (pReadTime_ct n r66)) (pReadTime_ok n r66) (fun _ _ => True.intro) ftL_nil) [] [] [1, 2, 7, 14, 15] [0, 1] (s' := ⟨[(1, .c (.s (.u8 l1))), (2, .c (.wh 0)), (7, .c (.s (.b r18))), (14, .c (.pt 1 0)), (15, .c (.s (.er 31 .i64 r66.2.2.2.2.2.2)))], [], [⟨(.ro false), 5, 1, l2.length, .b l2⟩, ⟨.blk, 34, 1, 6, .c [.s (.k .i64 r66.1), .s (.k .i64 r66.2.1), .s (.k .i64 r66.2.2.1), .s (.k .i64 r66.2.2.2.1), .s (.k .i64 r66.2.2.2.2.1), .s (.k .i64 r66.2.2.2.2.2.1)]⟩]⟩) (by kernel_rfl) (allP_cons.2 ⟨g22, allP_nil⟩) ?_
        refine W_seq ?_
        obtain ⟨r72, g23, h⟩ := bind_some' h
        refine W_reg hT (ftL_cons (k := 2) (f := 29) (F := (rReadTime_ct n r72)) (rReadTime_ok n r72) (fun _ _ => True.intro) ftL_nil) [] [] [7, 14, 15, 16, 17] [1, 2] (s' := ⟨[(7, .c (.s (.b r18))), (14, .c (.pt 0 0)), (15, .c (.s (.er 31 .i64 r66.2.2.2.2.2.2))), (16, .c (.pt 1 0)), (17, .c (.s (.b r72.2.2.2.2.2.2)))], [], [⟨.blk, 34, 1, 6, .c [.s (.k .i64 r66.1), .s (.k .i64 r66.2.1), .s (.k .i64 r66.2.2.1), .s (.k .i64 r66.2.2.2.1), .s (.k .i64 r66.2.2.2.2.1), .s (.k .i64 r66.2.2.2.2.2.1)]⟩, ⟨.blk, 34, 1, 6, .c [.s (.k .i64 r72.1), .s (.k .i64 r72.2.1), .s (.k .i64 r72.2.2.1), .s (.k .i64 r72.2.2.2.1), .s (.k .i64 r72.2.2.2.2.1), .s (.k .i64 r72.2.2.2.2.2.1)]⟩]⟩) (by kernel_rfl) (allP_cons.2 ⟨g23, allP_nil⟩) ?_
        refine W_seq ?_
        refine W_seq ?_
        refine W_reg hT ftL_nil [] [] [7, 14, 15, 16, 76] [0, 1] (s' := ⟨[(7, .c (.s (.b r18))), (14, .c (.pt 0 0)), (15, .c (.s (.er 31 .i64 r66.2.2.2.2.2.2))), (16, .c (.pt 1 0)), (76, .c (.s (.b (!r72.2.2.2.2.2.2))))], [], [⟨.blk, 34, 1, 6, .c [.s (.k .i64 r66.1), .s (.k .i64 r66.2.1), .s (.k .i64 r66.2.2.1), .s (.k .i64 r66.2.2.2.1), .s (.k .i64 r66.2.2.2.2.1), .s (.k .i64 r66.2.2.2.2.2.1)]⟩, ⟨.blk, 34, 1, 6, .c [.s (.k .i64 r72.1), .s (.k .i64 r72.2.1), .s (.k .i64 r72.2.2.1), .s (.k .i64 r72.2.2.2.1), .s (.k .i64 r72.2.2.2.2.1), .s (.k .i64 r72.2.2.2.2.2.1)]⟩]⟩) (by kernel_rfl) allP_nil ?_
        refine W_cond (b := (!r72.2.2.2.2.2.2)) (by kernel_rfl) (fun g29 => ?_) (fun g29 => ?_)
        · replace h := bif_t h g29
          refine W_seq ?_
          rcases Bool.eq_false_or_eq_true r18 with g24 | g24
          · replace h := bif_t h g24
            obtain ⟨g25, h⟩ := gd_some h
            rcases Bool.eq_false_or_eq_true (r66.2.2.2.2.2.2 == (some 2)) with g26 | g26
            · replace h := bif_t h g26
              refine W_reg hT ftL_nil [(1, true), (6, true)] [] [6] [] (s' := ⟨[(6, .c (.s (.b ((r66.1 == (0 : Int)) && ((r66.2.1 == (0 : Int)) && ((r66.2.2.1 == (0 : Int)) && ((r66.2.2.2.1 == (0 : Int)) && ((r66.2.2.2.2.1 == (0 : Int)) && ((r66.2.2.2.2.2.1 == (0 : Int)) && true)))))))))], [], []⟩) (by kernel_rfl) (allP_cons.2 ⟨g24, (allP_cons.2 ⟨g25, (allP_cons.2 ⟨g26, allP_nil⟩)⟩)⟩) ?_
              refine W_co [] [6] [] (s' := (lTimes_R ((r66.1 == (0 : Int)) && ((r66.2.1 == (0 : Int)) && ((r66.2.2.1 == (0 : Int)) && ((r66.2.2.2.1 == (0 : Int)) && ((r66.2.2.2.2.1 == (0 : Int)) && ((r66.2.2.2.2.2.1 == (0 : Int)) && true)))))))) (by kernel_rfl) (W_ret ?_)
              exact ⟨.inl rfl, by cases h; rfl⟩
            · replace h := bif_f h g26
              refine W_reg hT ftL_nil [(1, true), (6, false)] [] [6] [] (s' := ⟨[(6, .c (.s (.b false)))], [], []⟩) (by kernel_rfl) (allP_cons.2 ⟨g24, (allP_cons.2 ⟨g25, (allP_cons.2 ⟨g26, allP_nil⟩)⟩)⟩) ?_
              refine W_co [] [6] [] (s' := (lTimes_R false)) (by kernel_rfl) (W_ret ?_)
              exact ⟨.inl rfl, by cases h; rfl⟩
          · replace h := bif_f h g24
            refine W_reg hT ftL_nil [(1, false)] [] [6] [] (s' := ⟨[(6, .c (.s (.b false)))], [], []⟩) (by kernel_rfl) (allP_cons.2 ⟨g24, allP_nil⟩) ?_
            refine W_co [] [6] [] (s' := (lTimes_R false)) (by kernel_rfl) (W_ret ?_)
            exact ⟨.inl rfl, by cases h; rfl⟩
        · replace h := bif_f h g29
          refine W_co [] [7, 14, 15, 16] [0, 1] (s' := ⟨[(7, .c (.s (.b r18))), (14, .c (.pt 0 0)), (15, .c (.s (.er 31 .i64 r66.2.2.2.2.2.2))), (16, .c (.pt 1 0))], [], [⟨.blk, 34, 1, 6, .c [.s (.k .i64 r66.1), .s (.k .i64 r66.2.1), .s (.k .i64 r66.2.2.1), .s (.k .i64 r66.2.2.2.1), .s (.k .i64 r66.2.2.2.2.1), .s (.k .i64 r66.2.2.2.2.2.1)]⟩, ⟨.blk, 34, 1, 6, .c [.s (.k .i64 r72.1), .s (.k .i64 r72.2.1), .s (.k .i64 r72.2.2.1), .s (.k .i64 r72.2.2.2.1), .s (.k .i64 r72.2.2.2.2.1), .s (.k .i64 r72.2.2.2.2.2.1)]⟩]⟩) (by kernel_rfl) (W_skip ?_)
          refine W_seq ?_
          rcases Bool.eq_false_or_eq_true r18 with g27 | g27
          · replace h := bif_t h g27
            rcases Bool.eq_false_or_eq_true ((r66.2.2.2.2.2.2).isNone) with g28 | g28
            · replace h := bif_t h g28
              refine W_reg hT ftL_nil [(1, true), (5, true)] [] [6] [] (s' := ⟨[(6, .c (.s (.b ((r66.1 == r72.1) && ((r66.2.1 == r72.2.1) && ((r66.2.2.1 == r72.2.2.1) && ((r66.2.2.2.1 == r72.2.2.2.1) && ((r66.2.2.2.2.1 == r72.2.2.2.2.1) && ((r66.2.2.2.2.2.1 == r72.2.2.2.2.2.1) && true)))))))))], [], []⟩) (by kernel_rfl) (allP_cons.2 ⟨g27, (allP_cons.2 ⟨g28, allP_nil⟩)⟩) ?_
              refine W_co [] [6] [] (s' := (lTimes_R ((r66.1 == r72.1) && ((r66.2.1 == r72.2.1) && ((r66.2.2.1 == r72.2.2.1) && ((r66.2.2.2.1 == r72.2.2.2.1) && ((r66.2.2.2.2.1 == r72.2.2.2.2.1) && ((r66.2.2.2.2.2.1 == r72.2.2.2.2.2.1) && true)))))))) (by kernel_rfl) (W_ret ?_)
              exact ⟨.inl rfl, by cases h; rfl⟩
            · replace h := bif_f h g28
              refine W_reg hT ftL_nil [(1, true), (5, false)] [] [6] [] (s' := ⟨[(6, .c (.s (.b false)))], [], []⟩) (by kernel_rfl) (allP_cons.2 ⟨g27, (allP_cons.2 ⟨g28, allP_nil⟩)⟩) ?_
              refine W_co [] [6] [] (s' := (lTimes_R false)) (by kernel_rfl) (W_ret ?_)
              exact ⟨.inl rfl, by cases h; rfl⟩
          · replace h := bif_f h g27
            refine W_reg hT ftL_nil [(1, false)] [] [6] [] (s' := ⟨[(6, .c (.s (.b false)))], [], []⟩) (by kernel_rfl) (allP_cons.2 ⟨g27, allP_nil⟩) ?_
            refine W_co [] [6] [] (s' := (lTimes_R false)) (by kernel_rfl) (W_ret ?_)
            exact ⟨.inl rfl, by cases h; rfl⟩
      · refine W_seq ?_
        refine W_reg hT ftL_nil [] [] [1, 2, 3, 7, 8, 9, 10, 43] [0, 1, 2] (s' := ⟨[(1, .c (.s (.u8 l1))), (2, .c (.wh 0)), (3, .c (.pt 1 0)), (7, .c (.s (.b r18))), (8, .c (.s (.u8 r21.1))), (9, .c (.wh 2)), (10, .c (.s (.er 31 .i64 r21.2.2))), (43, .c (.s (.b r26)))], [], [⟨(.ro false), 5, 1, l2.length, .b l2⟩, ⟨.blk, 34, 1, 6, .c [.s (.k .i64 l0_0), .s (.k .i64 l0_1), .s (.k .i64 l0_2), .s (.k .i64 l0_3), .s (.k .i64 l0_4), .s (.k .i64 l0_5)]⟩, ⟨.row, 5, 1, r21.2.1.length, .b r21.2.1⟩]⟩) (by kernel_rfl) allP_nil ?_
        refine W_cond (b := r26) (by kernel_rfl) (fun g34 => ?_) (fun g34 => ?_)
        · replace h := bif_t h g34
          refine W_seq ?_
          obtain ⟨r46, g30, h⟩ := bind_some' h
          refine W_reg hT (ftL_cons (k := 1) (f := 27) (F := (rTime_ct n r46)) (rTime_ok n r46) (fun _ _ => True.intro) ftL_nil) [] [] [1, 2, 7, 8, 9, 10, 12, 13] [0, 2, 3] (s' := ⟨[(1, .c (.s (.u8 l1))), (2, .c (.wh 0)), (7, .c (.s (.b r18))), (8, .c (.s (.u8 r21.1))), (9, .c (.wh 1)), (10, .c (.s (.er 31 .i64 r21.2.2))), (12, .c (.s (.u8 r46.1))), (13, .c (.wh 2))], [], [⟨(.ro false), 5, 1, l2.length, .b l2⟩, ⟨.row, 5, 1, r21.2.1.length, .b r21.2.1⟩, ⟨.row, 5, 1, r46.2.length, .b r46.2⟩]⟩) (by kernel_rfl) (allP_cons.2 ⟨g30, allP_nil⟩) ?_
          refine W_seq ?_
          rcases Bool.eq_false_or_eq_true (!((r21.2.2).isNone)) with g31 | g31
          · replace h := bif_t h g31
            refine W_reg hT ftL_nil [(2, true)] [] [1, 2, 7, 62] [0] (s' := ⟨[(1, .c (.s (.u8 l1))), (2, .c (.wh 0)), (7, .c (.s (.b r18))), (62, .c (.s (.b true)))], [], [⟨(.ro false), 5, 1, l2.length, .b l2⟩]⟩) (by kernel_rfl) (allP_cons.2 ⟨g31, allP_nil⟩) ?_
            refine W_cond (b := true) (by kernel_rfl) (fun _ => ?_) (fun hb => by cases hb)
            refine W_seq ?_
            refine W_reg hT ftL_nil [] [] [6] [] (s' := ⟨[(6, .c (.s (.b false)))], [], []⟩) (by kernel_rfl) allP_nil ?_
            refine W_co [] [6] [] (s' := (lTimes_R false)) (by kernel_rfl) (W_ret ?_)
            exact ⟨.inl rfl, by cases h; rfl⟩
          · replace h := bif_f h g31
            rcases Bool.eq_false_or_eq_true (r21.1 != r46.1) with g32 | g32
            · replace h := bif_t h g32
              refine W_reg hT ftL_nil [(2, false), (7, true)] [] [1, 2, 7, 62] [0] (s' := ⟨[(1, .c (.s (.u8 l1))), (2, .c (.wh 0)), (7, .c (.s (.b r18))), (62, .c (.s (.b true)))], [], [⟨(.ro false), 5, 1, l2.length, .b l2⟩]⟩) (by kernel_rfl) (allP_cons.2 ⟨g31, (allP_cons.2 ⟨g32, allP_nil⟩)⟩) ?_
              refine W_cond (b := true) (by kernel_rfl) (fun _ => ?_) (fun hb => by cases hb)
              refine W_seq ?_
              refine W_reg hT ftL_nil [] [] [6] [] (s' := ⟨[(6, .c (.s (.b false)))], [], []⟩) (by kernel_rfl) allP_nil ?_
              refine W_co [] [6] [] (s' := (lTimes_R false)) (by kernel_rfl) (W_ret ?_)
              exact ⟨.inl rfl, by cases h; rfl⟩
            · replace h := bif_f h g32
              refine W_reg hT ftL_nil [(2, false), (7, false)] [] [1, 2, 7, 62] [0] (s' := ⟨[(1, .c (.s (.u8 l1))), (2, .c (.wh 0)), (7, .c (.s (.b r18))), (62, .c (.s (.b (r21.2.1 != r46.2))))], [], [⟨(.ro false), 5, 1, l2.length, .b l2⟩]⟩) (by kernel_rfl) (allP_cons.2 ⟨g31, (allP_cons.2 ⟨g32, allP_nil⟩)⟩) ?_
              refine W_cond (b := (r21.2.1 != r46.2)) (by kernel_rfl) (fun g33 => ?_) (fun g33 => ?_)
              · replace h := bif_t h g33
                refine W_seq ?_
                refine W_reg hT ftL_nil [] [] [6] [] (s' := ⟨[(6, .c (.s (.b false)))], [], []⟩) (by kernel_rfl) allP_nil ?_
                refine W_co [] [6] [] (s' := (lTimes_R false)) (by kernel_rfl) (W_ret ?_)
                exact ⟨.inl rfl, by cases h; rfl⟩
              · replace h := bif_f h g33
                refine W_co [] [1, 2, 7] [0] (s' := (lTimes_j2_E l1 l2 r18)) (by kernel_rfl) (W_skip ?_)
                exact lTimes_j2_M h
        · replace h := bif_f h g34
          refine W_co [] [1, 2, 7] [0] (s' := (lTimes_j2_E l1 l2 r18)) (by kernel_rfl) (W_skip ?_)
          exact lTimes_j2_M h
  · rintro e s' ⟨he, rfl⟩
    refine ⟨he, fun a' w' hr => ?_⟩
    exact retS_ok tabO_pz hr (rs := [.tmp 6]) rfl (objs := []) (by kernel_rfl)
end Go.Proofs.Ytliilihbnhdemaa
end
